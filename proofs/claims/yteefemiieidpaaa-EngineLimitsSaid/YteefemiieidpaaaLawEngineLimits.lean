/- The statement EngineLimits: the two texts answer alike for every argument, and the arguments stay as they were. -/
import Derived.Test.YteefemiieidpaaaLimL
import Derived.Test.YteefemiieidpaaaFr
namespace Go.Proofs.Yteefemiieidpaaa
open Go.ChangeShapes Go.WideShapes Go.ChangeAt Go.RowKit
set_option linter.unusedVariables false
namespace lawEngineLimits
theorem own : ownKnob Try.prog.godebug = none := by kernel_rfl
theorem laidOut : laidOutB Try.prog = true := fr_laid
set_option maxRecDepth 100000 in
theorem lifted (os : Os) (started : os.Started) (H : Type) (enc : TypeId × Value → H) :
    ReturnsInHanded {} Try.checked os 5 .any (Rows.engineLimitsSpec.pre6 enc Try.prog Try.f5 Rows.engineLimitsRow.domain false) (Rows.engineLimitsSpec.post enc Try.prog Try.f5 false true false false) := by
  refine returnsInHanded_of_change_sized (C := Try.checked) own started (by kernel_rfl) Try.func5
    (ChangeSpec.witness6 (enc := enc) (C := Try.checked) false ⟨#[], #[.agg #[.int .i64 0, .slice none 0 0, .int .i64 0, .int .i64 0, .int .i64 0, .int .i64 0, .int .i64 0]], []⟩ 8 (by kernel_rfl) (by kernel_rfl) (by kernel_rfl) (by kernel_rfl)) ?_
  intro W base args ds gs before hval0 hW hcnd hsz0 _
  have hval : ∀ (j : Nat) t v, Try.f5.params[j]? = some t → args[j]? = some v → Value.okWide Try.prog W .any base t v := hval0
  have hsz : (DataW.weightsEach Try.prog (Try.f5.params.toList ++ Rows.engineLimitsSpec.plain.varTypes Try.prog) (ds ++ gs)).all (· ≤ reachBytes) = true := hsz0
  have hW' := hW
  obtain ⟨p, q, hA0, hV, rfl, hfz, hnd⟩ := hW
  have hA : DataW.TrodAll enc Try.prog W 0 (fun _ => true) true Try.f5.params.toList args.toList ds p := hA0
  rw [Try.params5] at hA hval hsz
  obtain ⟨v0, vs0, d0, ds0, p0, q0, hargs, rfl, rfl, h0, r0⟩ := trodAll_cons hA
  obtain ⟨rfl, rfl, rfl⟩ := trodAll_nil r0
  obtain rfl : args = #[v0] := by cases args; simp_all
  obtain ⟨rfl, rfl⟩ := trodVars_none hV
  have k0 := h0
  have lt0 : ∀ x ∈ p0, x.block < W.heap.size := by obtain ⟨m, hm⟩ := k0; exact DataW.trod_lt m _ _ _ hm
  obtain ⟨⟨cs0⟩, rfl, _⟩ := okWide_struct Try.underlying41 (hval 0 41 v0 rfl rfl)
  obtain ⟨x0, A0, c0, e0, w0, f0, g0, u10, u20, u30, u40, u50⟩ := (opn_Task (enc := enc)).arg h0 hsz (j := 0) rfl rfl
  simp only [Value.cells] at e0
  subst e0
  clear hA0 hval0
  refine (law_EngineLimits W x0 A0 c0 w0 f0 g0 u10 u20 u30 u40 u50).mono fun e W' ⟨he, bel⟩ => ?_
  subst he
  exact ⟨_, rfl, _, _, _, [], _, [], hW', trodAll_mk1 (shut_bool Try.underlying4 _), (trodAll_cons_mk (Below.trod laidOut (by kernel_rfl) (of_decide_eq_true (by kernel_rfl)) k0 bel lt0) trodAll_mk0), rfl, bel.frame _, fun h => by cases h⟩
theorem limb0 : (Rows.engineLimitsRow.wf (OpenSpec.ofChange Rows.engineLimitsSpec)) = true := by kernel_rfl
theorem limb3 : (Try.f5.params.all (Try.checked.prog.readableRec ·)) = true := by kernel_rfl
theorem limb4 : (namedTie Try.checked.prog Rows.engineLimitsRow.named Rows.engineLimitsSpec.vars) = true := by kernel_rfl
theorem limb5 : ((Rows.engineLimitsRow.stops == [])) = true := by kernel_rfl
theorem limb7 : ((Rows.engineLimitsRow.knobs == [])) = true := by kernel_rfl
theorem limb9 : ((Rows.engineLimitsRow.inPlace == Try.checked.prog.inPlace 5)) = true := by kernel_rfl
theorem limb10 : ((Rows.engineLimitsRow.unfollowed == Try.checked.prog.unfollowed 5)) = true := by kernel_rfl
theorem limb11 : ((Rows.engineLimitsRow.recurses == Try.checked.prog.recurses 5)) = true := by kernel_rfl
theorem limb12 : ((Rows.engineLimitsRow.named == Try.checked.prog.varsNamed 5)) = true := by kernel_rfl
theorem limb13 : ((Rows.engineLimitsRow.maps == (Try.f5.params.toList ++ Rows.engineLimitsSpec.plain.varTypes Try.checked.prog).any (Try.checked.prog.mapsRec ·))) = true := by kernel_rfl
theorem limb14 : ((Rows.engineLimitsRow.ifaces == (Try.f5.params.toList ++ Rows.engineLimitsSpec.plain.varTypes Try.checked.prog).any (Try.checked.prog.ifacesRec ·))) = true := by kernel_rfl
theorem limb15 : ((Rows.engineLimitsRow.mapsOut == Try.checked.prog.mapsAmong Try.f5.resultTypes.toList)) = true := by kernel_rfl
theorem limb16 : ((Rows.engineLimitsRow.loops == (Try.f5.params.toList ++ Rows.engineLimitsSpec.plain.varTypes Try.checked.prog).any (Try.checked.prog.loopsFrom ·))) = true := by kernel_rfl
theorem limb17 : ((Rows.engineLimitsRow.wideKeys == (Try.f5.params.toList ++ Rows.engineLimitsSpec.plain.varTypes Try.checked.prog ++ Try.f5.resultTypes.toList).any (Try.checked.prog.wideKeysFrom ·))) = true := by kernel_rfl
theorem limb18 : (Rows.engineLimitsSpec.vars.all (Try.checked.prog.varReadable ·)) = true := by kernel_rfl
theorem limb19 : (Try.f5.resultTypes.all (fun t => Try.checked.prog.readableRec t && decide (t < Try.checked.prog.types.size))) = true := by kernel_rfl
theorem limb20 : ((Rows.engineLimitsRow.ifacesOut == Try.f5.resultTypes.toList.any (Try.checked.prog.ifacesRec ·))) = true := by kernel_rfl
theorem limb21 : ((Rows.engineLimitsRow.loopsOut == Try.f5.resultTypes.toList.any (Try.checked.prog.loopsFrom ·))) = true := by kernel_rfl
theorem limb22 : ((Rows.engineLimitsRow.plainKeys == Try.checked.prog.plainKeys)) = true := by rw [fr_keys]; kernel_rfl
theorem limb23 : (Rows.engineLimitsRow.shortTexts.isNone) = true := by kernel_rfl
theorem limb26 : ((Rows.engineLimitsRow.lifted == Try.checked.prog.liftsFinal)) = true := by rw [fr_lifts]; kernel_rfl
theorem limb27 : ((Try.checked.prog.make == some Rows.engineLimitsRow.make)) = true := by rw [fr_make]; kernel_rfl
theorem limb28 : ((Rows.engineLimitsRow.kinds == (if Rows.engineLimitsRow.domain.isEmpty then [] else Try.f5.params.toList.map fun t => match Try.checked.prog.underlying t with | some (.int k) => some k | _ => none))) = true := by kernel_rfl
theorem limb29 : ((Rows.engineLimitsRow.pinned == Rows.engineLimitsRow.pinnedBy)) = true := by kernel_rfl
theorem limb30 : ((Rows.engineLimitsRow.veiled == (Try.f5.params.toList ++ Rows.engineLimitsSpec.plain.varTypes Try.checked.prog ++ Try.f5.resultTypes.toList).any (Try.checked.prog.veiledRec ·))) = true := by kernel_rfl
theorem limb31 : (Rows.engineLimitsRow.veiledFits Try.checked.prog Try.f5.params.toList (Try.f5.params.toList ++ Rows.engineLimitsSpec.plain.varTypes Try.checked.prog ++ Try.f5.resultTypes.toList)) = true := by kernel_rfl
set_option maxRecDepth 100000 in
theorem closed : joinedFacts Try.checked.prog 5 Try.f5 Rows.engineLimitsSpec Rows.engineLimitsRow = true := by unfold joinedFacts; exact (and_mk (and_mk (and_mk (and_mk (and_mk (and_mk (and_mk (and_mk (and_mk (and_mk (and_mk (and_mk (and_mk (and_mk (and_mk (and_mk (and_mk (and_mk (and_mk (and_mk (and_mk (and_mk (and_mk (and_mk (and_mk (and_mk (and_mk (and_mk (and_mk (and_mk (and_mk limb0 fr_laid) fr_maps) limb3) limb4) limb5) fr_stops) limb7) fr_knobs) limb9) limb10) limb11) limb12) limb13) limb14) limb15) limb16) limb17) limb18) limb19) limb20) limb21) limb22) limb23) fr_heard) fr_enter) limb26) limb27) limb28) limb29) limb30) limb31)
theorem named : Try.checked.prog.funcNamed Rows.engineLimitsRow.func = some 5 := by kernel_rfl
theorem inst : Try.f5.isInstance Try.checked.prog Rows.engineLimitsRow.origin Rows.engineLimitsRow.targs := of_decide_eq_true (by kernel_rfl)
theorem wrapper : Try.f5.isWrapper Try.checked.prog Rows.engineLimitsRow.wrapper Rows.engineLimitsRow.mainSum := by unfold Func.isWrapper; first | (rw [if_pos (by decide +kernel)]; kernel_rfl) | (rw [if_neg (by decide +kernel)]; exact ⟨rfl, rfl⟩)
theorem over : Rows.engineLimitsRow.holds Try.pinned (OpenSpec.ofChange Rows.engineLimitsSpec) :=
  OpenClaim.holds_of_wide 5 Try.f5 rfl rfl rfl rfl rfl rfl rfl ⟨rfl, rfl, rfl, rfl, rfl⟩ rfl rfl rfl rfl rfl named Try.func5 closed inst wrapper
    (fun os started H enc _ => lifted os started H enc)
/-- The given statement. -/
theorem proved : Rows.EngineLimitsSaid := over
end lawEngineLimits
#print axioms lawEngineLimits.proved
end Go.Proofs.Yteefemiieidpaaa
