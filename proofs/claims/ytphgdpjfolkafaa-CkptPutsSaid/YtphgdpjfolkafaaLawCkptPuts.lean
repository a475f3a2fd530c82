/- The statement CkptPuts: the two texts answer alike for every argument, and the arguments stay as they were. -/
import Derived.Test.YtphgdpjfolkafaaCkb
import Derived.Test.YtphgdpjfolkafaaFr
namespace Go.Proofs.Ytphgdpjfolkafaa
open Go.ChangeShapes Go.WideShapes Go.ChangeAt Go.RowKit
set_option linter.unusedVariables false
namespace lawCkptPuts
theorem own : ownKnob Try.prog.godebug = none := by kernel_rfl
theorem laidOut : laidOutB Try.prog = true := fr_laid
set_option maxRecDepth 100000 in
theorem lifted (os : Os) (started : os.Started) (H : Type) (enc : TypeId × Value → H) :
    ReturnsInHanded {} Try.checked os 9 .any (Rows.ckptPutsSpec.pre6 enc Try.prog Try.f9 Rows.ckptPutsRow.domain false) (Rows.ckptPutsSpec.post enc Try.prog Try.f9 false true false false) := by
  refine returnsInHanded_of_change_sized (C := Try.checked) own started (by kernel_rfl) Try.func9
    (ChangeSpec.witness6 (enc := enc) (C := Try.checked) false ⟨#[], #[.agg #[.slice none 0 0], .agg #[.int .i64 0, .int .i64 0, .bool false, .slice none 0 0, .slice none 0 0]], []⟩ 8 (by kernel_rfl) (by kernel_rfl) (by kernel_rfl) (by kernel_rfl)) ?_
  intro W base args ds gs before hval0 hW hcnd hsz0 _
  have hval : ∀ (j : Nat) t v, Try.f9.params[j]? = some t → args[j]? = some v → Value.okWide Try.prog W .any base t v := hval0
  have hsz : (DataW.weightsEach Try.prog (Try.f9.params.toList ++ Rows.ckptPutsSpec.plain.varTypes Try.prog) (ds ++ gs)).all (· ≤ reachBytes) = true := hsz0
  have hW' := hW
  obtain ⟨p, q, hA0, hV, rfl, hfz, hnd⟩ := hW
  have hA : DataW.TrodAll enc Try.prog W 0 (fun _ => true) true Try.f9.params.toList args.toList ds p := hA0
  rw [Try.params9] at hA hval hsz
  obtain ⟨v0, vs0, d0, ds0, p0, q0, hargs, rfl, rfl, h0, r0⟩ := trodAll_cons hA
  obtain ⟨v1, vs1, d1, ds1, p1, q1, rfl, rfl, rfl, h1, r1⟩ := trodAll_cons r0
  obtain ⟨rfl, rfl, rfl⟩ := trodAll_nil r1
  obtain rfl : args = #[v0, v1] := by cases args; simp_all
  obtain ⟨rfl, rfl⟩ := trodVars_none hV
  have k0 := h0
  have lt0 : ∀ x ∈ p0, x.block < W.heap.size := by obtain ⟨m, hm⟩ := k0; exact DataW.trod_lt m _ _ _ hm
  obtain ⟨⟨cs0⟩, rfl, _⟩ := okWide_struct Try.underlying66 (hval 0 66 v0 rfl rfl)
  obtain ⟨x0, A0, c0, e0, f0, g0⟩ := (opn_Disk (enc := enc)).arg h0 hsz (j := 0) rfl rfl
  simp only [Value.cells] at e0
  subst e0
  have k1 := h1
  have lt1 : ∀ x ∈ p1, x.block < W.heap.size := by obtain ⟨m, hm⟩ := k1; exact DataW.trod_lt m _ _ _ hm
  obtain ⟨⟨cs1⟩, rfl, _⟩ := okWide_struct Try.underlying36 (hval 1 36 v1 rfl rfl)
  obtain ⟨x1, A1, c1, B1, kk1, e1, w11, w21, f1, g1, f11, g11⟩ := (opn_Saved (enc := enc)).arg h1 hsz (j := 1) rfl rfl
  simp only [Value.cells] at e1
  subst e1
  clear hA0 hval0
  refine (law_CkptPuts W x0 A0 c0 f0 g0 x1 A1 c1 B1 kk1 w11 w21 f1 g1 f11 g11).mono fun e W' ⟨he, bel⟩ => ?_
  subst he
  exact ⟨_, rfl, _, _, _, [], _, [], hW', trodAll_mk1 (shut_bool Try.underlying4 _), (trodAll_cons_mk (Below.trod laidOut (by kernel_rfl) (of_decide_eq_true (by kernel_rfl)) k0 bel lt0) (trodAll_cons_mk (Below.trod laidOut (by kernel_rfl) (of_decide_eq_true (by kernel_rfl)) k1 bel lt1) trodAll_mk0)), rfl, bel.frame _, fun h => by cases h⟩
theorem limb0 : (Rows.ckptPutsRow.wf (OpenSpec.ofChange Rows.ckptPutsSpec)) = true := by kernel_rfl
theorem limb3 : (Try.f9.params.all (Try.checked.prog.readableRec ·)) = true := by kernel_rfl
theorem limb4 : (namedTie Try.checked.prog Rows.ckptPutsRow.named Rows.ckptPutsSpec.vars) = true := by kernel_rfl
theorem limb5 : ((Rows.ckptPutsRow.stops == [])) = true := by kernel_rfl
theorem limb7 : ((Rows.ckptPutsRow.knobs == [])) = true := by kernel_rfl
theorem limb9 : ((Rows.ckptPutsRow.inPlace == Try.checked.prog.inPlace 9)) = true := by kernel_rfl
theorem limb10 : ((Rows.ckptPutsRow.unfollowed == Try.checked.prog.unfollowed 9)) = true := by kernel_rfl
theorem limb11 : ((Rows.ckptPutsRow.recurses == Try.checked.prog.recurses 9)) = true := by kernel_rfl
theorem limb12 : ((Rows.ckptPutsRow.named == Try.checked.prog.varsNamed 9)) = true := by kernel_rfl
theorem limb13 : ((Rows.ckptPutsRow.maps == (Try.f9.params.toList ++ Rows.ckptPutsSpec.plain.varTypes Try.checked.prog).any (Try.checked.prog.mapsRec ·))) = true := by kernel_rfl
theorem limb14 : ((Rows.ckptPutsRow.ifaces == (Try.f9.params.toList ++ Rows.ckptPutsSpec.plain.varTypes Try.checked.prog).any (Try.checked.prog.ifacesRec ·))) = true := by kernel_rfl
theorem limb15 : ((Rows.ckptPutsRow.mapsOut == Try.checked.prog.mapsAmong Try.f9.resultTypes.toList)) = true := by kernel_rfl
theorem limb16 : ((Rows.ckptPutsRow.loops == (Try.f9.params.toList ++ Rows.ckptPutsSpec.plain.varTypes Try.checked.prog).any (Try.checked.prog.loopsFrom ·))) = true := by kernel_rfl
theorem limb17 : ((Rows.ckptPutsRow.wideKeys == (Try.f9.params.toList ++ Rows.ckptPutsSpec.plain.varTypes Try.checked.prog ++ Try.f9.resultTypes.toList).any (Try.checked.prog.wideKeysFrom ·))) = true := by kernel_rfl
theorem limb18 : (Rows.ckptPutsSpec.vars.all (Try.checked.prog.varReadable ·)) = true := by kernel_rfl
theorem limb19 : (Try.f9.resultTypes.all (fun t => Try.checked.prog.readableRec t && decide (t < Try.checked.prog.types.size))) = true := by kernel_rfl
theorem limb20 : ((Rows.ckptPutsRow.ifacesOut == Try.f9.resultTypes.toList.any (Try.checked.prog.ifacesRec ·))) = true := by kernel_rfl
theorem limb21 : ((Rows.ckptPutsRow.loopsOut == Try.f9.resultTypes.toList.any (Try.checked.prog.loopsFrom ·))) = true := by kernel_rfl
theorem limb22 : ((Rows.ckptPutsRow.plainKeys == Try.checked.prog.plainKeys)) = true := by rw [fr_keys]; kernel_rfl
theorem limb23 : (Rows.ckptPutsRow.shortTexts.isNone) = true := by kernel_rfl
theorem limb26 : ((Rows.ckptPutsRow.lifted == Try.checked.prog.liftsFinal)) = true := by rw [fr_lifts]; kernel_rfl
theorem limb27 : ((Try.checked.prog.make == some Rows.ckptPutsRow.make)) = true := by rw [fr_make]; kernel_rfl
theorem limb28 : ((Rows.ckptPutsRow.kinds == (if Rows.ckptPutsRow.domain.isEmpty then [] else Try.f9.params.toList.map fun t => match Try.checked.prog.underlying t with | some (.int k) => some k | _ => none))) = true := by kernel_rfl
theorem limb29 : ((Rows.ckptPutsRow.pinned == Rows.ckptPutsRow.pinnedBy)) = true := by kernel_rfl
theorem limb30 : ((Rows.ckptPutsRow.veiled == (Try.f9.params.toList ++ Rows.ckptPutsSpec.plain.varTypes Try.checked.prog ++ Try.f9.resultTypes.toList).any (Try.checked.prog.veiledRec ·))) = true := by kernel_rfl
theorem limb31 : (Rows.ckptPutsRow.veiledFits Try.checked.prog Try.f9.params.toList (Try.f9.params.toList ++ Rows.ckptPutsSpec.plain.varTypes Try.checked.prog ++ Try.f9.resultTypes.toList)) = true := by kernel_rfl
set_option maxRecDepth 100000 in
theorem closed : joinedFacts Try.checked.prog 9 Try.f9 Rows.ckptPutsSpec Rows.ckptPutsRow = true := by unfold joinedFacts; exact (and_mk (and_mk (and_mk (and_mk (and_mk (and_mk (and_mk (and_mk (and_mk (and_mk (and_mk (and_mk (and_mk (and_mk (and_mk (and_mk (and_mk (and_mk (and_mk (and_mk (and_mk (and_mk (and_mk (and_mk (and_mk (and_mk (and_mk (and_mk (and_mk (and_mk (and_mk limb0 fr_laid) fr_maps) limb3) limb4) limb5) fr_stops) limb7) fr_knobs) limb9) limb10) limb11) limb12) limb13) limb14) limb15) limb16) limb17) limb18) limb19) limb20) limb21) limb22) limb23) fr_heard) fr_enter) limb26) limb27) limb28) limb29) limb30) limb31)
theorem named : Try.checked.prog.funcNamed Rows.ckptPutsRow.func = some 9 := by kernel_rfl
theorem inst : Try.f9.isInstance Try.checked.prog Rows.ckptPutsRow.origin Rows.ckptPutsRow.targs := of_decide_eq_true (by kernel_rfl)
theorem wrapper : Try.f9.isWrapper Try.checked.prog Rows.ckptPutsRow.wrapper Rows.ckptPutsRow.mainSum := by unfold Func.isWrapper; first | (rw [if_pos (by decide +kernel)]; kernel_rfl) | (rw [if_neg (by decide +kernel)]; exact ⟨rfl, rfl⟩)
theorem over : Rows.ckptPutsRow.holds Try.pinned (OpenSpec.ofChange Rows.ckptPutsSpec) :=
  OpenClaim.holds_of_wide 9 Try.f9 rfl rfl rfl rfl rfl rfl rfl ⟨rfl, rfl, rfl, rfl, rfl⟩ rfl rfl rfl rfl rfl named Try.func9 closed inst wrapper
    (fun os started H enc _ => lifted os started H enc)
/-- The given statement. -/
theorem proved : Rows.CkptPutsSaid := over
end lawCkptPuts
#print axioms lawCkptPuts.proved
end Go.Proofs.Ytphgdpjfolkafaa
