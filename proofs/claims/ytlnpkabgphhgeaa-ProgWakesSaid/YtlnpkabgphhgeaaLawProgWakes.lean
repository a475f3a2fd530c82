/- The statement ProgWakes: the two texts answer alike for every argument, and the arguments stay as they were. -/
import Derived.Test.YtlnpkabgphhgeaaLWake
import Derived.Test.YtlnpkabgphhgeaaFr
namespace Go.Proofs.Ytlnpkabgphhgeaa
open Go.ChangeShapes Go.WideShapes Go.ChangeAt Go.RowKit
set_option linter.unusedVariables false
namespace lawProgWakes
theorem own : ownKnob Try.prog.godebug = none := by kernel_rfl
theorem laidOut : laidOutB Try.prog = true := fr_laid
set_option maxRecDepth 100000 in
theorem lifted (os : Os) (started : os.Started) (H : Type) (enc : TypeId × Value → H) :
    ReturnsInHanded {} Try.checked os 4 .any (Rows.progWakesSpec.pre6 enc Try.prog Try.f4 Rows.progWakesRow.domain false) (Rows.progWakesSpec.post enc Try.prog Try.f4 false true false false) := by
  refine returnsInHanded_of_change_sized (C := Try.checked) own started (by kernel_rfl) Try.func4
    (ChangeSpec.witness6 (enc := enc) (C := Try.checked) false ⟨#[], #[.int .i64 0, .int .i64 0, .int .i64 0, .agg #[.int .i64 0, .int .i64 0], .int .i64 0, .bool false, .slice none 0 0], []⟩ 8 (by kernel_rfl) (by kernel_rfl) (by kernel_rfl) (by kernel_rfl)) ?_
  intro W base args ds gs before hval0 hW hcnd hsz0 _
  have hval : ∀ (j : Nat) t v, Try.f4.params[j]? = some t → args[j]? = some v → Value.okWide Try.prog W .any base t v := hval0
  have hsz : (DataW.weightsEach Try.prog (Try.f4.params.toList ++ Rows.progWakesSpec.plain.varTypes Try.prog) (ds ++ gs)).all (· ≤ reachBytes) = true := hsz0
  have hW' := hW
  obtain ⟨p, q, hA0, hV, rfl, hfz, hnd⟩ := hW
  have hA : DataW.TrodAll enc Try.prog W 0 (fun _ => true) true Try.f4.params.toList args.toList ds p := hA0
  rw [Try.params4] at hA hval hsz
  obtain ⟨v0, vs0, d0, ds0, p0, q0, hargs, rfl, rfl, h0, r0⟩ := trodAll_cons hA
  obtain ⟨v1, vs1, d1, ds1, p1, q1, rfl, rfl, rfl, h1, r1⟩ := trodAll_cons r0
  obtain ⟨v2, vs2, d2, ds2, p2, q2, rfl, rfl, rfl, h2, r2⟩ := trodAll_cons r1
  obtain ⟨v3, vs3, d3, ds3, p3, q3, rfl, rfl, rfl, h3, r3⟩ := trodAll_cons r2
  obtain ⟨v4, vs4, d4, ds4, p4, q4, rfl, rfl, rfl, h4, r4⟩ := trodAll_cons r3
  obtain ⟨v5, vs5, d5, ds5, p5, q5, rfl, rfl, rfl, h5, r5⟩ := trodAll_cons r4
  obtain ⟨v6, vs6, d6, ds6, p6, q6, rfl, rfl, rfl, h6, r6⟩ := trodAll_cons r5
  obtain ⟨rfl, rfl, rfl⟩ := trodAll_nil r6
  obtain rfl : args = #[v0, v1, v2, v3, v4, v5, v6] := by cases args; simp_all
  obtain ⟨rfl, rfl⟩ := trodVars_none hV
  have k0 := h0
  have lt0 : ∀ x ∈ p0, x.block < W.heap.size := by obtain ⟨m, hm⟩ := k0; exact DataW.trod_lt m _ _ _ hm
  obtain ⟨a0, rfl, rfl, rfl, w0⟩ := open_int Try.underlying3 (hval 0 3 v0 rfl rfl) h0
  have k1 := h1
  have lt1 : ∀ x ∈ p1, x.block < W.heap.size := by obtain ⟨m, hm⟩ := k1; exact DataW.trod_lt m _ _ _ hm
  obtain ⟨a1, rfl, rfl, rfl, w1⟩ := open_int Try.underlying3 (hval 1 3 v1 rfl rfl) h1
  have k2 := h2
  have lt2 : ∀ x ∈ p2, x.block < W.heap.size := by obtain ⟨m, hm⟩ := k2; exact DataW.trod_lt m _ _ _ hm
  obtain ⟨a2, rfl, rfl, rfl, w2⟩ := open_int Try.underlying3 (hval 2 3 v2 rfl rfl) h2
  have k3 := h3
  have lt3 : ∀ x ∈ p3, x.block < W.heap.size := by obtain ⟨m, hm⟩ := k3; exact DataW.trod_lt m _ _ _ hm
  obtain ⟨⟨cs3⟩, rfl, _⟩ := okWide_struct Try.underlying23 (hval 3 23 v3 rfl rfl)
  obtain ⟨x3, e3, g3⟩ := (opn_Val (enc := enc)).arg h3 hsz (j := 3) rfl rfl
  simp only [Value.cells] at e3
  subst e3
  have k4 := h4
  have lt4 : ∀ x ∈ p4, x.block < W.heap.size := by obtain ⟨m, hm⟩ := k4; exact DataW.trod_lt m _ _ _ hm
  obtain ⟨a4, rfl, rfl, rfl, w4⟩ := open_int Try.underlying3 (hval 4 3 v4 rfl rfl) h4
  have k5 := h5
  have lt5 : ∀ x ∈ p5, x.block < W.heap.size := by obtain ⟨m, hm⟩ := k5; exact DataW.trod_lt m _ _ _ hm
  obtain ⟨a5, rfl, rfl, rfl⟩ := open_bool Try.underlying4 (hval 5 4 v5 rfl rfl) h5
  have k6 := h6
  have lt6 : ∀ x ∈ p6, x.block < W.heap.size := by obtain ⟨m, hm⟩ := k6; exact DataW.trod_lt m _ _ _ hm
  obtain ⟨sa6, sl6, sc6, rfl⟩ := okWide_slice Try.underlying28 (hval 6 28 v6 rfl rfl)
  obtain ⟨x6, A6, c6, e6, f6, g6⟩ := (opn_ints (enc := enc)).arg h6 hsz (j := 6) rfl rfl
  simp only [Value.cells, List.cons.injEq, Value.slice.injEq, and_true] at e6
  obtain ⟨rfl, rfl, rfl⟩ := e6
  clear hA0 hval0
  refine (law_ProgWakes W a0 w0 a1 w1 a2 w2 x3 g3 a4 w4 a5 x6 sa6 sc6 f6 g6).mono fun e W' ⟨he, bel⟩ => ?_
  subst he
  exact ⟨_, rfl, _, _, _, [], _, [], hW', trodAll_mk1 (shut_bool Try.underlying4 _), (trodAll_cons_mk (Below.trod laidOut (by kernel_rfl) (of_decide_eq_true (by kernel_rfl)) k0 bel lt0) (trodAll_cons_mk (Below.trod laidOut (by kernel_rfl) (of_decide_eq_true (by kernel_rfl)) k1 bel lt1) (trodAll_cons_mk (Below.trod laidOut (by kernel_rfl) (of_decide_eq_true (by kernel_rfl)) k2 bel lt2) (trodAll_cons_mk (Below.trod laidOut (by kernel_rfl) (of_decide_eq_true (by kernel_rfl)) k3 bel lt3) (trodAll_cons_mk (Below.trod laidOut (by kernel_rfl) (of_decide_eq_true (by kernel_rfl)) k4 bel lt4) (trodAll_cons_mk (Below.trod laidOut (by kernel_rfl) (of_decide_eq_true (by kernel_rfl)) k5 bel lt5) (trodAll_cons_mk (Below.trod laidOut (by kernel_rfl) (of_decide_eq_true (by kernel_rfl)) k6 bel lt6) trodAll_mk0))))))), rfl, bel.frame _, fun h => by cases h⟩
theorem limb0 : (Rows.progWakesRow.wf (OpenSpec.ofChange Rows.progWakesSpec)) = true := by kernel_rfl
theorem limb3 : (Try.f4.params.all (Try.checked.prog.readableRec ·)) = true := by kernel_rfl
theorem limb4 : (namedTie Try.checked.prog Rows.progWakesRow.named Rows.progWakesSpec.vars) = true := by kernel_rfl
theorem limb5 : ((Rows.progWakesRow.stops == [])) = true := by kernel_rfl
theorem limb7 : ((Rows.progWakesRow.knobs == [])) = true := by kernel_rfl
theorem limb9 : ((Rows.progWakesRow.inPlace == Try.checked.prog.inPlace 4)) = true := by kernel_rfl
theorem limb10 : ((Rows.progWakesRow.unfollowed == Try.checked.prog.unfollowed 4)) = true := by kernel_rfl
theorem limb11 : ((Rows.progWakesRow.recurses == Try.checked.prog.recurses 4)) = true := by kernel_rfl
theorem limb12 : ((Rows.progWakesRow.named == Try.checked.prog.varsNamed 4)) = true := by kernel_rfl
theorem limb13 : ((Rows.progWakesRow.maps == (Try.f4.params.toList ++ Rows.progWakesSpec.plain.varTypes Try.checked.prog).any (Try.checked.prog.mapsRec ·))) = true := by kernel_rfl
theorem limb14 : ((Rows.progWakesRow.ifaces == (Try.f4.params.toList ++ Rows.progWakesSpec.plain.varTypes Try.checked.prog).any (Try.checked.prog.ifacesRec ·))) = true := by kernel_rfl
theorem limb15 : ((Rows.progWakesRow.mapsOut == Try.checked.prog.mapsAmong Try.f4.resultTypes.toList)) = true := by kernel_rfl
theorem limb16 : ((Rows.progWakesRow.loops == (Try.f4.params.toList ++ Rows.progWakesSpec.plain.varTypes Try.checked.prog).any (Try.checked.prog.loopsFrom ·))) = true := by kernel_rfl
theorem limb17 : ((Rows.progWakesRow.wideKeys == (Try.f4.params.toList ++ Rows.progWakesSpec.plain.varTypes Try.checked.prog ++ Try.f4.resultTypes.toList).any (Try.checked.prog.wideKeysFrom ·))) = true := by kernel_rfl
theorem limb18 : (Rows.progWakesSpec.vars.all (Try.checked.prog.varReadable ·)) = true := by kernel_rfl
theorem limb19 : (Try.f4.resultTypes.all (fun t => Try.checked.prog.readableRec t && decide (t < Try.checked.prog.types.size))) = true := by kernel_rfl
theorem limb20 : ((Rows.progWakesRow.ifacesOut == Try.f4.resultTypes.toList.any (Try.checked.prog.ifacesRec ·))) = true := by kernel_rfl
theorem limb21 : ((Rows.progWakesRow.loopsOut == Try.f4.resultTypes.toList.any (Try.checked.prog.loopsFrom ·))) = true := by kernel_rfl
theorem limb22 : ((Rows.progWakesRow.plainKeys == Try.checked.prog.plainKeys)) = true := by rw [fr_keys]; kernel_rfl
theorem limb23 : (Rows.progWakesRow.shortTexts.isNone) = true := by kernel_rfl
theorem limb26 : ((Rows.progWakesRow.lifted == Try.checked.prog.liftsFinal)) = true := by rw [fr_lifts]; kernel_rfl
theorem limb27 : ((Try.checked.prog.make == some Rows.progWakesRow.make)) = true := by rw [fr_make]; kernel_rfl
theorem limb28 : ((Rows.progWakesRow.kinds == (if Rows.progWakesRow.domain.isEmpty then [] else Try.f4.params.toList.map fun t => match Try.checked.prog.underlying t with | some (.int k) => some k | _ => none))) = true := by kernel_rfl
theorem limb29 : ((Rows.progWakesRow.pinned == Rows.progWakesRow.pinnedBy)) = true := by kernel_rfl
theorem limb30 : ((Rows.progWakesRow.veiled == (Try.f4.params.toList ++ Rows.progWakesSpec.plain.varTypes Try.checked.prog ++ Try.f4.resultTypes.toList).any (Try.checked.prog.veiledRec ·))) = true := by kernel_rfl
theorem limb31 : (Rows.progWakesRow.veiledFits Try.checked.prog Try.f4.params.toList (Try.f4.params.toList ++ Rows.progWakesSpec.plain.varTypes Try.checked.prog ++ Try.f4.resultTypes.toList)) = true := by kernel_rfl
set_option maxRecDepth 100000 in
theorem closed : joinedFacts Try.checked.prog 4 Try.f4 Rows.progWakesSpec Rows.progWakesRow = true := by unfold joinedFacts; exact (and_mk (and_mk (and_mk (and_mk (and_mk (and_mk (and_mk (and_mk (and_mk (and_mk (and_mk (and_mk (and_mk (and_mk (and_mk (and_mk (and_mk (and_mk (and_mk (and_mk (and_mk (and_mk (and_mk (and_mk (and_mk (and_mk (and_mk (and_mk (and_mk (and_mk (and_mk limb0 fr_laid) fr_maps) limb3) limb4) limb5) fr_stops) limb7) fr_knobs) limb9) limb10) limb11) limb12) limb13) limb14) limb15) limb16) limb17) limb18) limb19) limb20) limb21) limb22) limb23) fr_heard) fr_enter) limb26) limb27) limb28) limb29) limb30) limb31)
theorem named : Try.checked.prog.funcNamed Rows.progWakesRow.func = some 4 := by kernel_rfl
theorem inst : Try.f4.isInstance Try.checked.prog Rows.progWakesRow.origin Rows.progWakesRow.targs := of_decide_eq_true (by kernel_rfl)
theorem wrapper : Try.f4.isWrapper Try.checked.prog Rows.progWakesRow.wrapper Rows.progWakesRow.mainSum := by unfold Func.isWrapper; first | (rw [if_pos (by decide +kernel)]; kernel_rfl) | (rw [if_neg (by decide +kernel)]; exact ⟨rfl, rfl⟩)
theorem over : Rows.progWakesRow.holds Try.pinned (OpenSpec.ofChange Rows.progWakesSpec) :=
  OpenClaim.holds_of_wide 4 Try.f4 rfl rfl rfl rfl rfl rfl rfl ⟨rfl, rfl, rfl, rfl, rfl⟩ rfl rfl rfl rfl rfl named Try.func4 closed inst wrapper
    (fun os started H enc _ => lifted os started H enc)
/-- The given statement. -/
theorem proved : Rows.ProgWakesSaid := over
end lawProgWakes
#print axioms lawProgWakes.proved
end Go.Proofs.Ytlnpkabgphhgeaa
