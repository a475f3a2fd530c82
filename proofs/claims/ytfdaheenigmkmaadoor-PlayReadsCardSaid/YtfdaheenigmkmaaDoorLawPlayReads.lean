/- The statement PlayReads: the two texts answer alike for every argument, and the arguments stay as they were; the tied card. -/
import Derived.Test.YtfdaheenigmkmaaDoorLaiQ
import Derived.Test.YtfdaheenigmkmaaDoorFr
import Derived.Test.YtfdaheenigmkmaaDoorTie
import Derived.Test.YtfdaheenigmkmaaDoorCards
import Derived.ProofKit
import Derived.LaidMore
import Derived.Lay
import Derived.OpenShut
import Derived.Stop.Joined
import Derived.SevenTiedAt
namespace Go.Proofs.YtfdaheenigmkmaaDoor
open Go.ChangeShapes Go.WideShapes Go.ChangeAt Go.RowKit
set_option linter.unusedVariables false
set_option linter.unusedSimpArgs false
namespace lawPlayReads
theorem own : ownKnob Tryd.prog.godebug = none := by kernel_rfl
theorem laidOut : laidOutB Tryd.prog = true := fr_laid
def laidL : List (String × DataW Unit) := [("math/bits.deBruijn32tab", Rows.laid_math_bits_deBruijn32tab), ("math/bits.deBruijn64tab", Rows.laid_math_bits_deBruijn64tab), ("internal/strconv.uint64pow10", Rows.laid_internal_strconv_uint64pow10), ("unicode/utf8.acceptRanges", Rows.laid_unicode_utf8_acceptRanges), ("strconv.ErrRange", Rows.laid_strconv_ErrRange), ("strconv.ErrSyntax", Rows.laid_strconv_ErrSyntax), ("paceline/play.forms", Rows.laid_paceline_play_forms), ("unicode/utf8.first", Rows.laid_unicode_utf8_first)]
set_option maxRecDepth 100000 in
theorem lifted (os : Os) (started : os.Started) (H : Type) (enc : TypeId × Value → H) :
    ReturnsInHanded {} Tryd.checked os 3 .any (fun w args => (Rows.playReadsSpec.pre enc Tryd.prog Tryd.f3 Rows.playReadsRow.domain false w args ∧ laidMetH Tryd.prog laidL w) ∧ sizedMet enc Tryd.prog Tryd.f3 (OpenSpec.ofChange Rows.playReadsSpec) false w args) (Rows.playReadsSpec.post enc Tryd.prog Tryd.f3 false true false false) := by
  refine returnsInHanded_of_change_and (C := Tryd.checked) (X := fun w _ => laidMetH Tryd.prog laidL w) (fun _ _ _ hh h => h.of_heap hh) own started (by kernel_rfl) Tryd.func3
    (ChangeSpec.witness_shaped (enc := enc) (C := Tryd.checked) (os := os) (X := fun w _ => laidMetH Tryd.prog laidL w) false (World.laidAll Tryd.prog os laidL) #[.string ByteArray.empty] 8 (World.laidAll_os _ _ _) (World.shaped_of_ZipB (by kernel_rfl) (by kernel_rfl)) (by kernel_rfl) (by kernel_rfl) (by kernel_rfl) (by rw [MakeChecks.laidMetH_plain _ _ _ (by kernel_rfl)]; exact laidMet_laidAll _ (by kernel_rfl) (by kernel_rfl))) ?_
  intro W base args ds gs before hval0 hW hcnd hsz0 hL _
  have hval : ∀ (j : Nat) t v, Tryd.f3.params[j]? = some t → args[j]? = some v → Value.okWide Tryd.prog W .any base t v := hval0
  have hsz : (DataW.weightsEach Tryd.prog (Tryd.f3.params.toList ++ Rows.playReadsSpec.plain.varTypes Tryd.prog) (ds ++ gs)).all (· ≤ reachBytes) = true := hsz0
  have hW' := hW
  obtain ⟨p, q, hA0, hV, rfl, hfz, hnd⟩ := hW
  have hA : DataW.TrodAll enc Tryd.prog W 0 (fun _ => true) true Tryd.f3.params.toList args.toList ds p := hA0
  rw [Tryd.params3] at hA hval hsz
  obtain ⟨v0, vs0, d0, ds0, p0, q0, hargs, rfl, rfl, h0, r0⟩ := trodAll_cons hA
  obtain ⟨rfl, rfl, rfl⟩ := trodAll_nil r0
  obtain rfl : args = #[v0] := by cases args; simp_all
  obtain ⟨rfl, rfl⟩ := trodVars_none hV
  have k0 := h0
  have lt0 : ∀ x ∈ p0, x.block < W.heap.size := by obtain ⟨m, hm⟩ := k0; exact DataW.trod_lt m _ _ _ hm
  obtain ⟨a0, rfl⟩ := okWide_string Tryd.underlying9 (hval 0 9 v0 rfl rfl)
  obtain ⟨s0, e0, z0⟩ := (opn_string (enc := enc) Tryd.underlying9).arg h0 hsz (j := 0) rfl rfl
  simp only [Value.cells, List.cons.injEq, Value.string.injEq, and_true] at e0
  subst e0
  clear hA0 hval0
  refine (law_PlayReads W a0 z0 (vars_ofR hL).1 (vars_ofR hL).2).mono fun e W' ⟨he, bel⟩ => ?_
  subst he
  exact ⟨_, rfl, _, _, _, [], _, [], hW', trodAll_mk1 (shut_bool Tryd.underlying4 _), (trodAll_cons_mk (Below.trod laidOut (by kernel_rfl) (of_decide_eq_true (by kernel_rfl)) k0 bel lt0) trodAll_mk0), rfl, bel.frame _, fun h => by cases h⟩
theorem limb0 : (Rows.playReadsRow.wf (OpenSpec.ofChange Rows.playReadsSpec)) = true := by kernel_rfl
theorem limb3 : (Tryd.f3.params.all (Tryd.checked.prog.readableRec ·)) = true := by kernel_rfl
theorem limb4 : (namedTie Tryd.checked.prog Rows.playReadsRow.named Rows.playReadsSpec.vars) = true := by kernel_rfl
theorem limb5 : ((Rows.playReadsRow.stops == [])) = true := by kernel_rfl
theorem limb7 : ((Rows.playReadsRow.knobs == [])) = true := by kernel_rfl
theorem limb9 : ((Rows.playReadsRow.inPlace == Tryd.checked.prog.inPlace 3)) = true := by kernel_rfl
theorem limb10 : ((Rows.playReadsRow.unfollowed == Tryd.checked.prog.unfollowed 3)) = true := by kernel_rfl
theorem limb11 : ((Rows.playReadsRow.recurses == Tryd.checked.prog.recurses 3)) = true := by kernel_rfl
theorem limb12 : ((Rows.playReadsRow.named == Tryd.checked.prog.varsNamed 3)) = true := by kernel_rfl
theorem limb13 : ((Rows.playReadsRow.maps == (Tryd.f3.params.toList ++ Rows.playReadsSpec.plain.varTypes Tryd.checked.prog).any (Tryd.checked.prog.mapsRec ·))) = true := by kernel_rfl
theorem limb14 : ((Rows.playReadsRow.ifaces == (Tryd.f3.params.toList ++ Rows.playReadsSpec.plain.varTypes Tryd.checked.prog).any (Tryd.checked.prog.ifacesRec ·))) = true := by kernel_rfl
theorem limb15 : ((Rows.playReadsRow.mapsOut == Tryd.checked.prog.mapsAmong Tryd.f3.resultTypes.toList)) = true := by kernel_rfl
theorem limb16 : ((Rows.playReadsRow.loops == (Tryd.f3.params.toList ++ Rows.playReadsSpec.plain.varTypes Tryd.checked.prog).any (Tryd.checked.prog.loopsFrom ·))) = true := by kernel_rfl
theorem limb17 : ((Rows.playReadsRow.wideKeys == (Tryd.f3.params.toList ++ Rows.playReadsSpec.plain.varTypes Tryd.checked.prog ++ Tryd.f3.resultTypes.toList).any (Tryd.checked.prog.wideKeysFrom ·))) = true := by kernel_rfl
theorem limb18 : (Rows.playReadsSpec.vars.all (Tryd.checked.prog.varReadable ·)) = true := by kernel_rfl
theorem limb19 : (Tryd.f3.resultTypes.all (fun t => Tryd.checked.prog.readableRec t && decide (t < Tryd.checked.prog.types.size))) = true := by kernel_rfl
theorem limb20 : ((Rows.playReadsRow.ifacesOut == Tryd.f3.resultTypes.toList.any (Tryd.checked.prog.ifacesRec ·))) = true := by kernel_rfl
theorem limb21 : ((Rows.playReadsRow.loopsOut == Tryd.f3.resultTypes.toList.any (Tryd.checked.prog.loopsFrom ·))) = true := by kernel_rfl
theorem limb22 : ((Rows.playReadsRow.plainKeys == Tryd.checked.prog.plainKeys)) = true := by rw [fr_keys]; kernel_rfl
theorem limb23 : (Rows.playReadsRow.shortTexts.isNone) = true := by kernel_rfl
theorem limb26 : ((Rows.playReadsRow.lifted == Tryd.checked.prog.liftsFinal)) = true := by rw [fr_lifts]; kernel_rfl
theorem limb27 : ((Tryd.checked.prog.make == some Rows.playReadsRow.make)) = true := by rw [fr_make]; kernel_rfl
theorem limb28 : ((Rows.playReadsRow.kinds == (if Rows.playReadsRow.domain.isEmpty then [] else Tryd.f3.params.toList.map fun t => match Tryd.checked.prog.underlying t with | some (.int k) => some k | _ => none))) = true := by kernel_rfl
theorem limb29 : ((Rows.playReadsRow.pinned == Rows.playReadsRow.pinnedBy)) = true := by kernel_rfl
theorem limb30 : ((Rows.playReadsRow.veiled == (Tryd.f3.params.toList ++ Rows.playReadsSpec.plain.varTypes Tryd.checked.prog ++ Tryd.f3.resultTypes.toList).any (Tryd.checked.prog.veiledRec ·))) = true := by kernel_rfl
theorem limb31 : (Rows.playReadsRow.veiledFits Tryd.checked.prog Tryd.f3.params.toList (Tryd.f3.params.toList ++ Rows.playReadsSpec.plain.varTypes Tryd.checked.prog ++ Tryd.f3.resultTypes.toList)) = true := by kernel_rfl
set_option maxRecDepth 100000 in
theorem closed : joinedFacts Tryd.checked.prog 3 Tryd.f3 Rows.playReadsSpec Rows.playReadsRow = true := by unfold joinedFacts; exact (and_mk (and_mk (and_mk (and_mk (and_mk (and_mk (and_mk (and_mk (and_mk (and_mk (and_mk (and_mk (and_mk (and_mk (and_mk (and_mk (and_mk (and_mk (and_mk (and_mk (and_mk (and_mk (and_mk (and_mk (and_mk (and_mk (and_mk (and_mk (and_mk (and_mk (and_mk limb0 fr_laid) fr_maps) limb3) limb4) limb5) fr_stops) limb7) fr_knobs) limb9) limb10) limb11) limb12) limb13) limb14) limb15) limb16) limb17) limb18) limb19) limb20) limb21) limb22) limb23) fr_heard) fr_enter) limb26) limb27) limb28) limb29) limb30) limb31)
theorem named : Tryd.checked.prog.funcNamed Rows.playReadsRow.func = some 3 := by kernel_rfl
theorem inst : Tryd.f3.isInstance Tryd.checked.prog Rows.playReadsRow.origin Rows.playReadsRow.targs := of_decide_eq_true (by kernel_rfl)
theorem wrapper : Tryd.f3.isWrapper Tryd.checked.prog Rows.playReadsRow.wrapper Rows.playReadsRow.mainSum := by unfold Func.isWrapper; first | (rw [if_pos (by decide +kernel)]; kernel_rfl) | (rw [if_neg (by decide +kernel)]; exact ⟨rfl, rfl⟩)
theorem over : Rows.playReadsRow.holds Tryd.pinned (OpenSpec.ofChange Rows.playReadsSpec) :=
  OpenClaim.holds_of_wide 3 Tryd.f3 rfl rfl rfl rfl rfl rfl rfl ⟨rfl, rfl, rfl, rfl, rfl⟩ rfl rfl rfl rfl rfl named Tryd.func3 closed inst wrapper
    (fun os started H enc _ => lifted os started H enc)
/-- The given statement. -/
theorem proved : Rows.PlayReadsSaid := over
/-- The tied card. -/
theorem cardProved : Rows.PlayReadsCardSaid :=
  Claim7.holds_tied_plain_at .later [] [.data, .data, .data, .data, .sentinel, .sentinel, .data, .pinned] true (true, "ae121cccac29150aa49763e03f3640a681f6c08ffb3d5d7ea4c714f84c1da24d") true
    proved (fun _ h => by cases h) (by kernel_rfl) (fun _ h => by cases h) playReads_row_tie rfl ⟨rfl, rfl⟩ (by kernel_rfl) rfl
    (fun f fn hf hfn => by
      obtain rfl : f = 3 := Option.some.inj ((show Tryd.prog.funcNamed "paceline/pacelinelaw.PlayReads" = some 3 by kernel_rfl).symm.trans hf) |>.symm
      obtain rfl : fn = Tryd.f3 := (Option.some.inj (Tryd.func3.symm.trans hfn)).symm
      exact ⟨by kernel_rfl, fun j t ht => by
        rw [Tryd.params3] at ht
        have hm : t ∈ [9] := by simpa using Array.mem_of_getElem? ht
        have hall : ([9].all fun u => !Tryd.prog.wantsStandIn u) = true := by kernel_rfl
        exact (show Tryd.prog.wantsStandIn t = false by simpa using List.all_eq_true.1 hall t hm)⟩)
    (by kernel_rfl)
end lawPlayReads
#print axioms lawPlayReads.cardProved
end Go.Proofs.YtfdaheenigmkmaaDoor
