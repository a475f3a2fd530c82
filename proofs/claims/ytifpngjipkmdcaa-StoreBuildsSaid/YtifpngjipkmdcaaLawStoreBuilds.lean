/- The statement StoreBuilds: the two texts answer alike for every argument, and the arguments stay as they were. -/
import Derived.Test.YtifpngjipkmdcaaLSto
import Derived.Test.YtifpngjipkmdcaaFr
namespace Go.Proofs.Ytifpngjipkmdcaa
open Go.ChangeShapes Go.WideShapes Go.ChangeAt Go.RowKit
set_option linter.unusedVariables false
namespace lawStoreBuilds
theorem own : ownKnob Try.prog.godebug = none := by kernel_rfl
theorem laidOut : laidOutB Try.prog = true := fr_laid
set_option maxRecDepth 100000 in
theorem lifted (os : Os) (started : os.Started) (H : Type) (enc : TypeId × Value → H) :
    ReturnsInHanded {} Try.checked os 7 .any (Rows.storeBuildsSpec.pre6 enc Try.prog Try.f7 Rows.storeBuildsRow.domain false) (Rows.storeBuildsSpec.post enc Try.prog Try.f7 false true false false) := by
  refine returnsInHanded_of_change_sized (C := Try.checked) own started (by kernel_rfl) Try.func7
    (ChangeSpec.witness6 (enc := enc) (C := Try.checked) false ⟨#[], #[.agg #[.int .i64 0, .slice none 0 0], .int .i64 0, .int .i64 0], []⟩ 8 (by kernel_rfl) (by kernel_rfl) (by kernel_rfl) (by kernel_rfl)) ?_
  intro W base args ds gs before hval0 hW hcnd hsz0 _
  have hval : ∀ (j : Nat) t v, Try.f7.params[j]? = some t → args[j]? = some v → Value.okWide Try.prog W .any base t v := hval0
  have hsz : (DataW.weightsEach Try.prog (Try.f7.params.toList ++ Rows.storeBuildsSpec.plain.varTypes Try.prog) (ds ++ gs)).all (· ≤ reachBytes) = true := hsz0
  have hW' := hW
  obtain ⟨p, q, hA0, hV, rfl, hfz, hnd⟩ := hW
  have hA : DataW.TrodAll enc Try.prog W 0 (fun _ => true) true Try.f7.params.toList args.toList ds p := hA0
  rw [Try.params7] at hA hval hsz
  obtain ⟨v0, vs0, d0, ds0, p0, q0, hargs, rfl, rfl, h0, r0⟩ := trodAll_cons hA
  obtain ⟨v1, vs1, d1, ds1, p1, q1, rfl, rfl, rfl, h1, r1⟩ := trodAll_cons r0
  obtain ⟨v2, vs2, d2, ds2, p2, q2, rfl, rfl, rfl, h2, r2⟩ := trodAll_cons r1
  obtain ⟨rfl, rfl, rfl⟩ := trodAll_nil r2
  obtain rfl : args = #[v0, v1, v2] := by cases args; simp_all
  obtain ⟨rfl, rfl⟩ := trodVars_none hV
  have k0 := h0
  have lt0 : ∀ x ∈ p0, x.block < W.heap.size := by obtain ⟨m, hm⟩ := k0; exact DataW.trod_lt m _ _ _ hm
  obtain ⟨⟨cs0⟩, rfl, _⟩ := okWide_struct Try.underlying24 (hval 0 24 v0 rfl rfl)
  obtain ⟨x0, A0, c0, e0, w0, f0, g0⟩ := (opn_Graph (enc := enc)).arg h0 hsz (j := 0) rfl rfl
  simp only [Value.cells] at e0
  subst e0
  have k1 := h1
  have lt1 : ∀ x ∈ p1, x.block < W.heap.size := by obtain ⟨m, hm⟩ := k1; exact DataW.trod_lt m _ _ _ hm
  obtain ⟨a1, rfl, rfl, rfl, w1⟩ := open_int Try.underlying3 (hval 1 3 v1 rfl rfl) h1
  have k2 := h2
  have lt2 : ∀ x ∈ p2, x.block < W.heap.size := by obtain ⟨m, hm⟩ := k2; exact DataW.trod_lt m _ _ _ hm
  obtain ⟨a2, rfl, rfl, rfl, w2⟩ := open_int Try.underlying3 (hval 2 3 v2 rfl rfl) h2
  clear hA0 hval0
  refine (law_StoreBuilds W x0 A0 c0 w0 f0 g0 a1 w1 a2 w2).mono fun e W' ⟨he, bel⟩ => ?_
  subst he
  exact ⟨_, rfl, _, _, _, [], _, [], hW', trodAll_mk1 (shut_bool Try.underlying4 _), (trodAll_cons_mk (Below.trod laidOut (by kernel_rfl) (of_decide_eq_true (by kernel_rfl)) k0 bel lt0) (trodAll_cons_mk (Below.trod laidOut (by kernel_rfl) (of_decide_eq_true (by kernel_rfl)) k1 bel lt1) (trodAll_cons_mk (Below.trod laidOut (by kernel_rfl) (of_decide_eq_true (by kernel_rfl)) k2 bel lt2) trodAll_mk0))), rfl, bel.frame _, fun h => by cases h⟩
theorem limb0 : (Rows.storeBuildsRow.wf (OpenSpec.ofChange Rows.storeBuildsSpec)) = true := by kernel_rfl
theorem limb3 : (Try.f7.params.all (Try.checked.prog.readableRec ·)) = true := by kernel_rfl
theorem limb4 : (namedTie Try.checked.prog Rows.storeBuildsRow.named Rows.storeBuildsSpec.vars) = true := by kernel_rfl
theorem limb5 : ((Rows.storeBuildsRow.stops == [])) = true := by kernel_rfl
theorem limb7 : ((Rows.storeBuildsRow.knobs == [])) = true := by kernel_rfl
theorem limb9 : ((Rows.storeBuildsRow.inPlace == Try.checked.prog.inPlace 7)) = true := by kernel_rfl
theorem limb10 : ((Rows.storeBuildsRow.unfollowed == Try.checked.prog.unfollowed 7)) = true := by kernel_rfl
theorem limb11 : ((Rows.storeBuildsRow.recurses == Try.checked.prog.recurses 7)) = true := by kernel_rfl
theorem limb12 : ((Rows.storeBuildsRow.named == Try.checked.prog.varsNamed 7)) = true := by kernel_rfl
theorem limb13 : ((Rows.storeBuildsRow.maps == (Try.f7.params.toList ++ Rows.storeBuildsSpec.plain.varTypes Try.checked.prog).any (Try.checked.prog.mapsRec ·))) = true := by kernel_rfl
theorem limb14 : ((Rows.storeBuildsRow.ifaces == (Try.f7.params.toList ++ Rows.storeBuildsSpec.plain.varTypes Try.checked.prog).any (Try.checked.prog.ifacesRec ·))) = true := by kernel_rfl
theorem limb15 : ((Rows.storeBuildsRow.mapsOut == Try.checked.prog.mapsAmong Try.f7.resultTypes.toList)) = true := by kernel_rfl
theorem limb16 : ((Rows.storeBuildsRow.loops == (Try.f7.params.toList ++ Rows.storeBuildsSpec.plain.varTypes Try.checked.prog).any (Try.checked.prog.loopsFrom ·))) = true := by kernel_rfl
theorem limb17 : ((Rows.storeBuildsRow.wideKeys == (Try.f7.params.toList ++ Rows.storeBuildsSpec.plain.varTypes Try.checked.prog ++ Try.f7.resultTypes.toList).any (Try.checked.prog.wideKeysFrom ·))) = true := by kernel_rfl
theorem limb18 : (Rows.storeBuildsSpec.vars.all (Try.checked.prog.varReadable ·)) = true := by kernel_rfl
theorem limb19 : (Try.f7.resultTypes.all (fun t => Try.checked.prog.readableRec t && decide (t < Try.checked.prog.types.size))) = true := by kernel_rfl
theorem limb20 : ((Rows.storeBuildsRow.ifacesOut == Try.f7.resultTypes.toList.any (Try.checked.prog.ifacesRec ·))) = true := by kernel_rfl
theorem limb21 : ((Rows.storeBuildsRow.loopsOut == Try.f7.resultTypes.toList.any (Try.checked.prog.loopsFrom ·))) = true := by kernel_rfl
theorem limb22 : ((Rows.storeBuildsRow.plainKeys == Try.checked.prog.plainKeys)) = true := by rw [fr_keys]; kernel_rfl
theorem limb23 : (Rows.storeBuildsRow.shortTexts.isNone) = true := by kernel_rfl
theorem limb26 : ((Rows.storeBuildsRow.lifted == Try.checked.prog.liftsFinal)) = true := by rw [fr_lifts]; kernel_rfl
theorem limb27 : ((Try.checked.prog.make == some Rows.storeBuildsRow.make)) = true := by rw [fr_make]; kernel_rfl
theorem limb28 : ((Rows.storeBuildsRow.kinds == (if Rows.storeBuildsRow.domain.isEmpty then [] else Try.f7.params.toList.map fun t => match Try.checked.prog.underlying t with | some (.int k) => some k | _ => none))) = true := by kernel_rfl
theorem limb29 : ((Rows.storeBuildsRow.pinned == Rows.storeBuildsRow.pinnedBy)) = true := by kernel_rfl
theorem limb30 : ((Rows.storeBuildsRow.veiled == (Try.f7.params.toList ++ Rows.storeBuildsSpec.plain.varTypes Try.checked.prog ++ Try.f7.resultTypes.toList).any (Try.checked.prog.veiledRec ·))) = true := by kernel_rfl
theorem limb31 : (Rows.storeBuildsRow.veiledFits Try.checked.prog Try.f7.params.toList (Try.f7.params.toList ++ Rows.storeBuildsSpec.plain.varTypes Try.checked.prog ++ Try.f7.resultTypes.toList)) = true := by kernel_rfl
set_option maxRecDepth 100000 in
theorem closed : joinedFacts Try.checked.prog 7 Try.f7 Rows.storeBuildsSpec Rows.storeBuildsRow = true := by unfold joinedFacts; exact (and_mk (and_mk (and_mk (and_mk (and_mk (and_mk (and_mk (and_mk (and_mk (and_mk (and_mk (and_mk (and_mk (and_mk (and_mk (and_mk (and_mk (and_mk (and_mk (and_mk (and_mk (and_mk (and_mk (and_mk (and_mk (and_mk (and_mk (and_mk (and_mk (and_mk (and_mk limb0 fr_laid) fr_maps) limb3) limb4) limb5) fr_stops) limb7) fr_knobs) limb9) limb10) limb11) limb12) limb13) limb14) limb15) limb16) limb17) limb18) limb19) limb20) limb21) limb22) limb23) fr_heard) fr_enter) limb26) limb27) limb28) limb29) limb30) limb31)
theorem named : Try.checked.prog.funcNamed Rows.storeBuildsRow.func = some 7 := by kernel_rfl
theorem inst : Try.f7.isInstance Try.checked.prog Rows.storeBuildsRow.origin Rows.storeBuildsRow.targs := of_decide_eq_true (by kernel_rfl)
theorem wrapper : Try.f7.isWrapper Try.checked.prog Rows.storeBuildsRow.wrapper Rows.storeBuildsRow.mainSum := by unfold Func.isWrapper; first | (rw [if_pos (by decide +kernel)]; kernel_rfl) | (rw [if_neg (by decide +kernel)]; exact ⟨rfl, rfl⟩)
theorem over : Rows.storeBuildsRow.holds Try.pinned (OpenSpec.ofChange Rows.storeBuildsSpec) :=
  OpenClaim.holds_of_wide 7 Try.f7 rfl rfl rfl rfl rfl rfl rfl ⟨rfl, rfl, rfl, rfl, rfl⟩ rfl rfl rfl rfl rfl named Try.func7 closed inst wrapper
    (fun os started H enc _ => lifted os started H enc)
/-- The given statement. -/
theorem proved : Rows.StoreBuildsSaid := over
end lawStoreBuilds
#print axioms lawStoreBuilds.proved
end Go.Proofs.Ytifpngjipkmdcaa
