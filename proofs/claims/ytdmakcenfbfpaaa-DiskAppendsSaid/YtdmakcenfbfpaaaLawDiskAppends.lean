/- The statement DiskAppends: the two texts answer alike for every argument, and the arguments stay as they were. -/
import Derived.Test.YtdmakcenfbfpaaaLDiskA
import Derived.Test.YtdmakcenfbfpaaaFr
namespace Go.Proofs.Ytdmakcenfbfpaaa
open Go.ChangeShapes Go.WideShapes Go.ChangeAt Go.RowKit
set_option linter.unusedVariables false
namespace lawDiskAppends
theorem own : ownKnob Try.prog.godebug = none := by kernel_rfl
theorem laidOut : laidOutB Try.prog = true := fr_laid
set_option maxRecDepth 100000 in
theorem lifted (os : Os) (started : os.Started) (H : Type) (enc : TypeId × Value → H) :
    ReturnsInHanded {} Try.checked os 3 .any (Rows.diskAppendsSpec.pre6 enc Try.prog Try.f3 Rows.diskAppendsRow.domain false) (Rows.diskAppendsSpec.post enc Try.prog Try.f3 false true false false) := by
  refine returnsInHanded_of_change_sized (C := Try.checked) own started (by kernel_rfl) Try.func3
    (ChangeSpec.witness6 (enc := enc) (C := Try.checked) false ⟨#[], #[.agg #[.slice none 0 0], .string ByteArray.empty, .slice none 0 0], []⟩ 8 (by kernel_rfl) (by kernel_rfl) (by kernel_rfl) (by kernel_rfl)) ?_
  intro W base args ds gs before hval0 hW hcnd hsz0 _
  have hval : ∀ (j : Nat) t v, Try.f3.params[j]? = some t → args[j]? = some v → Value.okWide Try.prog W .any base t v := hval0
  have hsz : (DataW.weightsEach Try.prog (Try.f3.params.toList ++ Rows.diskAppendsSpec.plain.varTypes Try.prog) (ds ++ gs)).all (· ≤ reachBytes) = true := hsz0
  have hW' := hW
  obtain ⟨p, q, hA0, hV, rfl, hfz, hnd⟩ := hW
  have hA : DataW.TrodAll enc Try.prog W 0 (fun _ => true) true Try.f3.params.toList args.toList ds p := hA0
  rw [Try.params3] at hA hval hsz
  obtain ⟨v0, vs0, d0, ds0, p0, q0, hargs, rfl, rfl, h0, r0⟩ := trodAll_cons hA
  obtain ⟨v1, vs1, d1, ds1, p1, q1, rfl, rfl, rfl, h1, r1⟩ := trodAll_cons r0
  obtain ⟨v2, vs2, d2, ds2, p2, q2, rfl, rfl, rfl, h2, r2⟩ := trodAll_cons r1
  obtain ⟨rfl, rfl, rfl⟩ := trodAll_nil r2
  obtain rfl : args = #[v0, v1, v2] := by cases args; simp_all
  obtain ⟨rfl, rfl⟩ := trodVars_none hV
  have k0 := h0
  have lt0 : ∀ x ∈ p0, x.block < W.heap.size := by obtain ⟨m, hm⟩ := k0; exact DataW.trod_lt m _ _ _ hm
  obtain ⟨⟨cs0⟩, rfl, _⟩ := okWide_struct Try.underlying24 (hval 0 24 v0 rfl rfl)
  obtain ⟨x0, A0, c0, e0, f0, g0⟩ := (opn_Disk (enc := enc)).arg h0 hsz (j := 0) rfl rfl
  simp only [Value.cells] at e0
  subst e0
  have k1 := h1
  have lt1 : ∀ x ∈ p1, x.block < W.heap.size := by obtain ⟨m, hm⟩ := k1; exact DataW.trod_lt m _ _ _ hm
  obtain ⟨a1, rfl⟩ := okWide_string Try.underlying9 (hval 1 9 v1 rfl rfl)
  obtain ⟨s1, e1, z1⟩ := (opn_string (enc := enc) Try.underlying9).arg h1 hsz (j := 1) rfl rfl
  simp only [Value.cells, List.cons.injEq, Value.string.injEq, and_true] at e1
  subst e1
  have k2 := h2
  have lt2 : ∀ x ∈ p2, x.block < W.heap.size := by obtain ⟨m, hm⟩ := k2; exact DataW.trod_lt m _ _ _ hm
  obtain ⟨sa2, sl2, sc2, rfl⟩ := okWide_slice Try.underlying25 (hval 2 25 v2 rfl rfl)
  obtain ⟨x2, A2, c2, e2, f2, g2⟩ := (opn_bytes (enc := enc)).arg h2 hsz (j := 2) rfl rfl
  simp only [Value.cells, List.cons.injEq, Value.slice.injEq, and_true] at e2
  obtain ⟨rfl, rfl, rfl⟩ := e2
  clear hA0 hval0
  refine (law_DiskAppends W x0 A0 c0 f0 g0 a1 z1 x2 sa2 sc2 f2 g2).mono fun e W' ⟨he, bel⟩ => ?_
  subst he
  exact ⟨_, rfl, _, _, _, [], _, [], hW', trodAll_mk1 (shut_bool Try.underlying4 _), (trodAll_cons_mk (Below.trod laidOut (by kernel_rfl) (of_decide_eq_true (by kernel_rfl)) k0 bel lt0) (trodAll_cons_mk (Below.trod laidOut (by kernel_rfl) (of_decide_eq_true (by kernel_rfl)) k1 bel lt1) (trodAll_cons_mk (Below.trod laidOut (by kernel_rfl) (of_decide_eq_true (by kernel_rfl)) k2 bel lt2) trodAll_mk0))), rfl, bel.frame _, fun h => by cases h⟩
theorem limb0 : (Rows.diskAppendsRow.wf (OpenSpec.ofChange Rows.diskAppendsSpec)) = true := by kernel_rfl
theorem limb3 : (Try.f3.params.all (Try.checked.prog.readableRec ·)) = true := by kernel_rfl
theorem limb4 : (namedTie Try.checked.prog Rows.diskAppendsRow.named Rows.diskAppendsSpec.vars) = true := by kernel_rfl
theorem limb5 : ((Rows.diskAppendsRow.stops == [])) = true := by kernel_rfl
theorem limb7 : ((Rows.diskAppendsRow.knobs == [])) = true := by kernel_rfl
theorem limb9 : ((Rows.diskAppendsRow.inPlace == Try.checked.prog.inPlace 3)) = true := by kernel_rfl
theorem limb10 : ((Rows.diskAppendsRow.unfollowed == Try.checked.prog.unfollowed 3)) = true := by kernel_rfl
theorem limb11 : ((Rows.diskAppendsRow.recurses == Try.checked.prog.recurses 3)) = true := by kernel_rfl
theorem limb12 : ((Rows.diskAppendsRow.named == Try.checked.prog.varsNamed 3)) = true := by kernel_rfl
theorem limb13 : ((Rows.diskAppendsRow.maps == (Try.f3.params.toList ++ Rows.diskAppendsSpec.plain.varTypes Try.checked.prog).any (Try.checked.prog.mapsRec ·))) = true := by kernel_rfl
theorem limb14 : ((Rows.diskAppendsRow.ifaces == (Try.f3.params.toList ++ Rows.diskAppendsSpec.plain.varTypes Try.checked.prog).any (Try.checked.prog.ifacesRec ·))) = true := by kernel_rfl
theorem limb15 : ((Rows.diskAppendsRow.mapsOut == Try.checked.prog.mapsAmong Try.f3.resultTypes.toList)) = true := by kernel_rfl
theorem limb16 : ((Rows.diskAppendsRow.loops == (Try.f3.params.toList ++ Rows.diskAppendsSpec.plain.varTypes Try.checked.prog).any (Try.checked.prog.loopsFrom ·))) = true := by kernel_rfl
theorem limb17 : ((Rows.diskAppendsRow.wideKeys == (Try.f3.params.toList ++ Rows.diskAppendsSpec.plain.varTypes Try.checked.prog ++ Try.f3.resultTypes.toList).any (Try.checked.prog.wideKeysFrom ·))) = true := by kernel_rfl
theorem limb18 : (Rows.diskAppendsSpec.vars.all (Try.checked.prog.varReadable ·)) = true := by kernel_rfl
theorem limb19 : (Try.f3.resultTypes.all (fun t => Try.checked.prog.readableRec t && decide (t < Try.checked.prog.types.size))) = true := by kernel_rfl
theorem limb20 : ((Rows.diskAppendsRow.ifacesOut == Try.f3.resultTypes.toList.any (Try.checked.prog.ifacesRec ·))) = true := by kernel_rfl
theorem limb21 : ((Rows.diskAppendsRow.loopsOut == Try.f3.resultTypes.toList.any (Try.checked.prog.loopsFrom ·))) = true := by kernel_rfl
theorem limb22 : ((Rows.diskAppendsRow.plainKeys == Try.checked.prog.plainKeys)) = true := by rw [fr_keys]; kernel_rfl
theorem limb23 : (Rows.diskAppendsRow.shortTexts.isNone) = true := by kernel_rfl
theorem limb26 : ((Rows.diskAppendsRow.lifted == Try.checked.prog.liftsFinal)) = true := by rw [fr_lifts]; kernel_rfl
theorem limb27 : ((Try.checked.prog.make == some Rows.diskAppendsRow.make)) = true := by rw [fr_make]; kernel_rfl
theorem limb28 : ((Rows.diskAppendsRow.kinds == (if Rows.diskAppendsRow.domain.isEmpty then [] else Try.f3.params.toList.map fun t => match Try.checked.prog.underlying t with | some (.int k) => some k | _ => none))) = true := by kernel_rfl
theorem limb29 : ((Rows.diskAppendsRow.pinned == Rows.diskAppendsRow.pinnedBy)) = true := by kernel_rfl
theorem limb30 : ((Rows.diskAppendsRow.veiled == (Try.f3.params.toList ++ Rows.diskAppendsSpec.plain.varTypes Try.checked.prog ++ Try.f3.resultTypes.toList).any (Try.checked.prog.veiledRec ·))) = true := by kernel_rfl
theorem limb31 : (Rows.diskAppendsRow.veiledFits Try.checked.prog Try.f3.params.toList (Try.f3.params.toList ++ Rows.diskAppendsSpec.plain.varTypes Try.checked.prog ++ Try.f3.resultTypes.toList)) = true := by kernel_rfl
set_option maxRecDepth 100000 in
theorem closed : joinedFacts Try.checked.prog 3 Try.f3 Rows.diskAppendsSpec Rows.diskAppendsRow = true := by unfold joinedFacts; exact (and_mk (and_mk (and_mk (and_mk (and_mk (and_mk (and_mk (and_mk (and_mk (and_mk (and_mk (and_mk (and_mk (and_mk (and_mk (and_mk (and_mk (and_mk (and_mk (and_mk (and_mk (and_mk (and_mk (and_mk (and_mk (and_mk (and_mk (and_mk (and_mk (and_mk (and_mk limb0 fr_laid) fr_maps) limb3) limb4) limb5) fr_stops) limb7) fr_knobs) limb9) limb10) limb11) limb12) limb13) limb14) limb15) limb16) limb17) limb18) limb19) limb20) limb21) limb22) limb23) fr_heard) fr_enter) limb26) limb27) limb28) limb29) limb30) limb31)
theorem named : Try.checked.prog.funcNamed Rows.diskAppendsRow.func = some 3 := by kernel_rfl
theorem inst : Try.f3.isInstance Try.checked.prog Rows.diskAppendsRow.origin Rows.diskAppendsRow.targs := of_decide_eq_true (by kernel_rfl)
theorem wrapper : Try.f3.isWrapper Try.checked.prog Rows.diskAppendsRow.wrapper Rows.diskAppendsRow.mainSum := by unfold Func.isWrapper; first | (rw [if_pos (by decide +kernel)]; kernel_rfl) | (rw [if_neg (by decide +kernel)]; exact ⟨rfl, rfl⟩)
theorem over : Rows.diskAppendsRow.holds Try.pinned (OpenSpec.ofChange Rows.diskAppendsSpec) :=
  OpenClaim.holds_of_wide 3 Try.f3 rfl rfl rfl rfl rfl rfl rfl ⟨rfl, rfl, rfl, rfl, rfl⟩ rfl rfl rfl rfl rfl named Try.func3 closed inst wrapper
    (fun os started H enc _ => lifted os started H enc)
/-- The given statement. -/
theorem proved : Rows.DiskAppendsSaid := over
end lawDiskAppends
#print axioms lawDiskAppends.proved
end Go.Proofs.Ytdmakcenfbfpaaa
