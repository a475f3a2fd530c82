/- The statement SheetReads: the two texts answer alike for every argument, and the arguments stay as they were; the tied card. -/
import Derived.Test.YtfdaheenigmkmaaDoorLaiS
import Derived.Test.YtfdaheenigmkmaaDoorFr
import Derived.Test.YtfdaheenigmkmaaDoorTie
import Derived.Test.YtfdaheenigmkmaaDoorCards
import Derived.ProofKit
import Derived.LaidMore
import Derived.Lay
import Derived.OpenShut
import Derived.Stop.Joined
import Derived.SevenTiedAt
namespace Go.Proofs.YtfdaheenigmkmaaDoor
open Go.ChangeShapes Go.WideShapes Go.ChangeAt Go.RowKit
set_option linter.unusedVariables false
set_option linter.unusedSimpArgs false
namespace lawSheetReads
theorem own : ownKnob Tryd.prog.godebug = none := by kernel_rfl
theorem laidOut : laidOutB Tryd.prog = true := fr_laid
def laidL : List (String × DataW Unit) := [("math/bits.deBruijn32tab", Rows.laid_math_bits_deBruijn32tab), ("math/bits.deBruijn64tab", Rows.laid_math_bits_deBruijn64tab), ("internal/strconv.uint64pow10", Rows.laid_internal_strconv_uint64pow10), ("unicode/utf8.acceptRanges", Rows.laid_unicode_utf8_acceptRanges), ("strconv.ErrRange", Rows.laid_strconv_ErrRange), ("strconv.ErrSyntax", Rows.laid_strconv_ErrSyntax), ("unicode/utf8.first", Rows.laid_unicode_utf8_first)]
set_option maxRecDepth 100000 in
theorem lifted (os : Os) (started : os.Started) (H : Type) (enc : TypeId × Value → H) :
    ReturnsInHanded {} Tryd.checked os 4 .any (fun w args => (Rows.sheetReadsSpec.pre enc Tryd.prog Tryd.f4 Rows.sheetReadsRow.domain false w args ∧ laidMetH Tryd.prog laidL w) ∧ sizedMet enc Tryd.prog Tryd.f4 (OpenSpec.ofChange Rows.sheetReadsSpec) false w args) (Rows.sheetReadsSpec.post enc Tryd.prog Tryd.f4 false true false false) := by
  refine returnsInHanded_of_change_and (C := Tryd.checked) (X := fun w _ => laidMetH Tryd.prog laidL w) (fun _ _ _ hh h => h.of_heap hh) own started (by kernel_rfl) Tryd.func4
    (ChangeSpec.witness_shaped (enc := enc) (C := Tryd.checked) (os := os) (X := fun w _ => laidMetH Tryd.prog laidL w) false (World.laidAll Tryd.prog os laidL) #[.string ByteArray.empty] 8 (World.laidAll_os _ _ _) (World.shaped_of_ZipB (by kernel_rfl) (by kernel_rfl)) (by kernel_rfl) (by kernel_rfl) (by kernel_rfl) (by rw [MakeChecks.laidMetH_plain _ _ _ (by kernel_rfl)]; exact laidMet_laidAll _ (by kernel_rfl) (by kernel_rfl))) ?_
  intro W base args ds gs before hval0 hW hcnd hsz0 hL _
  have hval : ∀ (j : Nat) t v, Tryd.f4.params[j]? = some t → args[j]? = some v → Value.okWide Tryd.prog W .any base t v := hval0
  have hsz : (DataW.weightsEach Tryd.prog (Tryd.f4.params.toList ++ Rows.sheetReadsSpec.plain.varTypes Tryd.prog) (ds ++ gs)).all (· ≤ reachBytes) = true := hsz0
  have hW' := hW
  obtain ⟨p, q, hA0, hV, rfl, hfz, hnd⟩ := hW
  have hA : DataW.TrodAll enc Tryd.prog W 0 (fun _ => true) true Tryd.f4.params.toList args.toList ds p := hA0
  rw [Tryd.params4] at hA hval hsz
  obtain ⟨v0, vs0, d0, ds0, p0, q0, hargs, rfl, rfl, h0, r0⟩ := trodAll_cons hA
  obtain ⟨rfl, rfl, rfl⟩ := trodAll_nil r0
  obtain rfl : args = #[v0] := by cases args; simp_all
  obtain ⟨rfl, rfl⟩ := trodVars_none hV
  have k0 := h0
  have lt0 : ∀ x ∈ p0, x.block < W.heap.size := by obtain ⟨m, hm⟩ := k0; exact DataW.trod_lt m _ _ _ hm
  obtain ⟨a0, rfl⟩ := okWide_string Tryd.underlying9 (hval 0 9 v0 rfl rfl)
  obtain ⟨s0, e0, z0⟩ := (opn_string (enc := enc) Tryd.underlying9).arg h0 hsz (j := 0) rfl rfl
  simp only [Value.cells, List.cons.injEq, Value.string.injEq, and_true] at e0
  subst e0
  clear hA0 hval0
  refine (law_SheetReads W a0 z0 (vars_ofG hL).1 (vars_ofG hL).2).mono fun e W' ⟨he, bel⟩ => ?_
  subst he
  exact ⟨_, rfl, _, _, _, [], _, [], hW', trodAll_mk1 (shut_bool Tryd.underlying4 _), (trodAll_cons_mk (Below.trod laidOut (by kernel_rfl) (of_decide_eq_true (by kernel_rfl)) k0 bel lt0) trodAll_mk0), rfl, bel.frame _, fun h => by cases h⟩
theorem limb0 : (Rows.sheetReadsRow.wf (OpenSpec.ofChange Rows.sheetReadsSpec)) = true := by kernel_rfl
theorem limb3 : (Tryd.f4.params.all (Tryd.checked.prog.readableRec ·)) = true := by kernel_rfl
theorem limb4 : (namedTie Tryd.checked.prog Rows.sheetReadsRow.named Rows.sheetReadsSpec.vars) = true := by kernel_rfl
theorem limb5 : ((Rows.sheetReadsRow.stops == [])) = true := by kernel_rfl
theorem limb7 : ((Rows.sheetReadsRow.knobs == [])) = true := by kernel_rfl
theorem limb9 : ((Rows.sheetReadsRow.inPlace == Tryd.checked.prog.inPlace 4)) = true := by kernel_rfl
theorem limb10 : ((Rows.sheetReadsRow.unfollowed == Tryd.checked.prog.unfollowed 4)) = true := by kernel_rfl
theorem limb11 : ((Rows.sheetReadsRow.recurses == Tryd.checked.prog.recurses 4)) = true := by kernel_rfl
theorem limb12 : ((Rows.sheetReadsRow.named == Tryd.checked.prog.varsNamed 4)) = true := by kernel_rfl
theorem limb13 : ((Rows.sheetReadsRow.maps == (Tryd.f4.params.toList ++ Rows.sheetReadsSpec.plain.varTypes Tryd.checked.prog).any (Tryd.checked.prog.mapsRec ·))) = true := by kernel_rfl
theorem limb14 : ((Rows.sheetReadsRow.ifaces == (Tryd.f4.params.toList ++ Rows.sheetReadsSpec.plain.varTypes Tryd.checked.prog).any (Tryd.checked.prog.ifacesRec ·))) = true := by kernel_rfl
theorem limb15 : ((Rows.sheetReadsRow.mapsOut == Tryd.checked.prog.mapsAmong Tryd.f4.resultTypes.toList)) = true := by kernel_rfl
theorem limb16 : ((Rows.sheetReadsRow.loops == (Tryd.f4.params.toList ++ Rows.sheetReadsSpec.plain.varTypes Tryd.checked.prog).any (Tryd.checked.prog.loopsFrom ·))) = true := by kernel_rfl
theorem limb17 : ((Rows.sheetReadsRow.wideKeys == (Tryd.f4.params.toList ++ Rows.sheetReadsSpec.plain.varTypes Tryd.checked.prog ++ Tryd.f4.resultTypes.toList).any (Tryd.checked.prog.wideKeysFrom ·))) = true := by kernel_rfl
theorem limb18 : (Rows.sheetReadsSpec.vars.all (Tryd.checked.prog.varReadable ·)) = true := by kernel_rfl
theorem limb19 : (Tryd.f4.resultTypes.all (fun t => Tryd.checked.prog.readableRec t && decide (t < Tryd.checked.prog.types.size))) = true := by kernel_rfl
theorem limb20 : ((Rows.sheetReadsRow.ifacesOut == Tryd.f4.resultTypes.toList.any (Tryd.checked.prog.ifacesRec ·))) = true := by kernel_rfl
theorem limb21 : ((Rows.sheetReadsRow.loopsOut == Tryd.f4.resultTypes.toList.any (Tryd.checked.prog.loopsFrom ·))) = true := by kernel_rfl
theorem limb22 : ((Rows.sheetReadsRow.plainKeys == Tryd.checked.prog.plainKeys)) = true := by rw [fr_keys]; kernel_rfl
theorem limb23 : (Rows.sheetReadsRow.shortTexts.isNone) = true := by kernel_rfl
theorem limb26 : ((Rows.sheetReadsRow.lifted == Tryd.checked.prog.liftsFinal)) = true := by rw [fr_lifts]; kernel_rfl
theorem limb27 : ((Tryd.checked.prog.make == some Rows.sheetReadsRow.make)) = true := by rw [fr_make]; kernel_rfl
theorem limb28 : ((Rows.sheetReadsRow.kinds == (if Rows.sheetReadsRow.domain.isEmpty then [] else Tryd.f4.params.toList.map fun t => match Tryd.checked.prog.underlying t with | some (.int k) => some k | _ => none))) = true := by kernel_rfl
theorem limb29 : ((Rows.sheetReadsRow.pinned == Rows.sheetReadsRow.pinnedBy)) = true := by kernel_rfl
theorem limb30 : ((Rows.sheetReadsRow.veiled == (Tryd.f4.params.toList ++ Rows.sheetReadsSpec.plain.varTypes Tryd.checked.prog ++ Tryd.f4.resultTypes.toList).any (Tryd.checked.prog.veiledRec ·))) = true := by kernel_rfl
theorem limb31 : (Rows.sheetReadsRow.veiledFits Tryd.checked.prog Tryd.f4.params.toList (Tryd.f4.params.toList ++ Rows.sheetReadsSpec.plain.varTypes Tryd.checked.prog ++ Tryd.f4.resultTypes.toList)) = true := by kernel_rfl
set_option maxRecDepth 100000 in
theorem closed : joinedFacts Tryd.checked.prog 4 Tryd.f4 Rows.sheetReadsSpec Rows.sheetReadsRow = true := by unfold joinedFacts; exact (and_mk (and_mk (and_mk (and_mk (and_mk (and_mk (and_mk (and_mk (and_mk (and_mk (and_mk (and_mk (and_mk (and_mk (and_mk (and_mk (and_mk (and_mk (and_mk (and_mk (and_mk (and_mk (and_mk (and_mk (and_mk (and_mk (and_mk (and_mk (and_mk (and_mk (and_mk limb0 fr_laid) fr_maps) limb3) limb4) limb5) fr_stops) limb7) fr_knobs) limb9) limb10) limb11) limb12) limb13) limb14) limb15) limb16) limb17) limb18) limb19) limb20) limb21) limb22) limb23) fr_heard) fr_enter) limb26) limb27) limb28) limb29) limb30) limb31)
theorem named : Tryd.checked.prog.funcNamed Rows.sheetReadsRow.func = some 4 := by kernel_rfl
theorem inst : Tryd.f4.isInstance Tryd.checked.prog Rows.sheetReadsRow.origin Rows.sheetReadsRow.targs := of_decide_eq_true (by kernel_rfl)
theorem wrapper : Tryd.f4.isWrapper Tryd.checked.prog Rows.sheetReadsRow.wrapper Rows.sheetReadsRow.mainSum := by unfold Func.isWrapper; first | (rw [if_pos (by decide +kernel)]; kernel_rfl) | (rw [if_neg (by decide +kernel)]; exact ⟨rfl, rfl⟩)
theorem over : Rows.sheetReadsRow.holds Tryd.pinned (OpenSpec.ofChange Rows.sheetReadsSpec) :=
  OpenClaim.holds_of_wide 4 Tryd.f4 rfl rfl rfl rfl rfl rfl rfl ⟨rfl, rfl, rfl, rfl, rfl⟩ rfl rfl rfl rfl rfl named Tryd.func4 closed inst wrapper
    (fun os started H enc _ => lifted os started H enc)
/-- The given statement. -/
theorem proved : Rows.SheetReadsSaid := over
/-- The tied card. -/
theorem cardProved : Rows.SheetReadsCardSaid :=
  Claim7.holds_tied_plain_at .later [] [.data, .data, .data, .data, .sentinel, .sentinel, .pinned] true (true, "ae121cccac29150aa49763e03f3640a681f6c08ffb3d5d7ea4c714f84c1da24d") true
    proved (fun _ h => by cases h) (by kernel_rfl) (fun _ h => by cases h) sheetReads_row_tie rfl ⟨rfl, rfl⟩ (by kernel_rfl) rfl
    (fun f fn hf hfn => by
      obtain rfl : f = 4 := Option.some.inj ((show Tryd.prog.funcNamed "paceline/pacelinelaw.SheetReads" = some 4 by kernel_rfl).symm.trans hf) |>.symm
      obtain rfl : fn = Tryd.f4 := (Option.some.inj (Tryd.func4.symm.trans hfn)).symm
      exact ⟨by kernel_rfl, fun j t ht => by
        rw [Tryd.params4] at ht
        have hm : t ∈ [9] := by simpa using Array.mem_of_getElem? ht
        have hall : ([9].all fun u => !Tryd.prog.wantsStandIn u) = true := by kernel_rfl
        exact (show Tryd.prog.wantsStandIn t = false by simpa using List.all_eq_true.1 hall t hm)⟩)
    (by kernel_rfl)
end lawSheetReads
#print axioms lawSheetReads.cardProved
end Go.Proofs.YtfdaheenigmkmaaDoor
