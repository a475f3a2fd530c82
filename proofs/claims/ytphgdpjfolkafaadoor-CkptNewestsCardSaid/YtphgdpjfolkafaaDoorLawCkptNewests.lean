/- The statement CkptNewests: the two texts answer alike for every argument, and the arguments stay as they were; the tied card. -/
import Derived.Test.YtphgdpjfolkafaaDoorNewD
import Derived.Test.YtphgdpjfolkafaaDoorLoadA
import Derived.Test.YtphgdpjfolkafaaDoorFr
import Derived.Test.YtphgdpjfolkafaaDoorTie
import Derived.Test.YtphgdpjfolkafaaDoorCards
import Derived.ProofKit
import Derived.LaidMore
import Derived.OpenShut
import Derived.Stop.Joined
import Derived.SevenTiedAt
namespace Go.Proofs.YtphgdpjfolkafaaDoor
open Go.ChangeShapes Go.WideShapes Go.ChangeAt Go.RowKit
set_option linter.unusedVariables false
set_option linter.unusedSimpArgs false
theorem newV_len (fs : List File) (n : Int) : (newV fs n).1.vals.length ≤ 200 ∧ (newV fs n).1.mail.length ≤ 5000 := by
  have hs : ∀ k x, bestN fs n k = some x → x.vals.length ≤ 200 ∧ x.mail.length ≤ 5000 := fun k => by
    induction k with
    | zero => intro x h; cases h
    | succ k ih =>
      intro x h
      by_cases hc : (loadV fs k).2 = 0 ∧ (loadV fs k).1.step ≤ n ∧ (∀ x ∈ bestN fs n k, x.step < (loadV fs k).1.step)
      · have e : bestN fs n (k + 1) = some (loadV fs k).1 := stepN_yes hc
        rw [e] at h
        injection h with h
        rw [← h]
        exact loadV_len fs k
      · have e : bestN fs n (k + 1) = bestN fs n k := stepN_no hc
        rw [e] at h
        exact ih x h
  unfold newV
  split
  · exact ⟨Nat.zero_le _, Nat.zero_le _⟩
  · cases h : bestN fs n 2 with
    | none => exact ⟨Nat.zero_le _, Nat.zero_le _⟩
    | some x => exact hs 2 x h
set_option maxRecDepth 100000 in
set_option maxHeartbeats 4000000 in
theorem law_CkptNewests (w : World) (l : List MFile) (A : Option Addr) (c : Nat) (hf : Flat w w.heap.size 48 3 MFile.cells A c l) (hw : ∀ x ∈ l, x.wf w) (n : Int) (wn : (Lit.int .i64 n).wf = true) :
    Calls Tryd.prog 4 #[.agg #[.slice A l.length c], .int .i64 n] w fun e w' => e = .returned (.bool true) ∧ Below w.heap.size w w' := by
  have hF := files_of hf hw
  have hm := okm_wf hw
  have hy := byF_of hw
  obtain ⟨f1, f2, f3, f4⟩ := hf
  have hn : l.length * 48 ≤ 140737488355328 := by omega
  have hlen := newV_len (files l) n
  have b0 := bA (Below.refl w.heap.size w) (.cells #[.slice A l.length c] 24)
  have HC := hid (disks_walk l _ A c (Files.b hF b0) hn hm.1)
  clear hw f1 f2 f3 f4
  go_enter Tryd.func4, Tryd.ntmps4
  go_wp2_with fail
  refine HC.out.mono ?_
  rintro e w1 ⟨A1, k1, l1, rfl, hf1, hl1, hown, b1⟩
  have b01 := bT b0 b1
  have hF1 : Files w1 w1.heap.size A1 l1 := hown
  have j0 : w1.cell? ⟨w.heap.size, 0, none⟩ = some (.slice A l.length c) := keepb b1 (by go_simp)
  have hm1 := okm_of hf1 hm
  have HR := hid (fun w2 h => newest_walk l1 n w2 A1 k1 h (by rw [hl1]; exact hn) hm1 (by rw [hf1]; exact hy))
  rw [hf1, hl1] at HR
  have HR2 := hid (fun w2 h => newestOf_walk l n w2 A c h hn hm hy)
  generalize newV (files l) n = z at HR HR2 hlen
  obtain ⟨s, r⟩ := z
  simp only at HR HR2 hlen
  have HSM := hid (fun w A A' B B' c c' d d' h1 h2 h3 h4 => sameSaved_walk s w A A' B B' c c' d d' h1 h2 h3 h4 (by omega) (by omega))
  obtain ⟨st, ph, fr, vs, ms⟩ := s
  unfold RetSv svC at HR HR2
  unfold svC at HSM
  simp only at HR HR2 HSM
  have HF1 := hid hf1
  have HL1 := hid hl1
  clear hf1 hl1 hown hm1 hlen
  have bX := bA (Below.refl w1.heap.size w1) (.cells #[.slice A1 l.length k1] 24)
  have g0 : (w1.alloc (.cells #[.slice A1 l.length k1] 24)).cell? ⟨w1.heap.size, 0, none⟩ = some (.slice A1 l.length k1) := by go_simp
  have j0 := keepb bX j0
  have HC1 := hid (HR.out _ (Files.b hF1 bX))
  have BX := hid bX
  go_wp2_with fail
  refine HC1.out.mono ?_
  rintro e w2 ⟨A2, c2, B2, d2, rfl, r2, m2, b2⟩
  have B12 := hid (bT BX.out b2)
  have B02 := hid (bT b01 B12.out)
  have g0 := keepb b2 g0
  have j0 := keepb b2 j0
  have R2 := hid r2
  have M2 := hid m2
  clear r2 m2 b2 HC1 HR bX
  have bY := bA (Below.refl w2.heap.size w2) (.cells #[.int .i64 st, .int .i64 ph, .bool fr, .slice A2 vs.length c2, .slice B2 ms.length d2] 29)
  have h0 : (w2.alloc (.cells #[.int .i64 st, .int .i64 ph, .bool fr, .slice A2 vs.length c2, .slice B2 ms.length d2] 29)).cell? ⟨w2.heap.size, 0, none⟩ = some (.int .i64 st) := by go_simp
  have h1 : (w2.alloc (.cells #[.int .i64 st, .int .i64 ph, .bool fr, .slice A2 vs.length c2, .slice B2 ms.length d2] 29)).cell? ⟨w2.heap.size, 1, none⟩ = some (.int .i64 ph) := by go_simp
  have h2 : (w2.alloc (.cells #[.int .i64 st, .int .i64 ph, .bool fr, .slice A2 vs.length c2, .slice B2 ms.length d2] 29)).cell? ⟨w2.heap.size, 2, none⟩ = some (.bool fr) := by go_simp
  have h3 : (w2.alloc (.cells #[.int .i64 st, .int .i64 ph, .bool fr, .slice A2 vs.length c2, .slice B2 ms.length d2] 29)).cell? ⟨w2.heap.size, 3, none⟩ = some (.slice A2 vs.length c2) := by go_simp
  have h4 : (w2.alloc (.cells #[.int .i64 st, .int .i64 ph, .bool fr, .slice A2 vs.length c2, .slice B2 ms.length d2] 29)).cell? ⟨w2.heap.size, 4, none⟩ = some (.slice B2 ms.length d2) := by go_simp
  have g0 := keepb bY g0
  have j0 := keepb bY j0
  have BY := hid bY
  have HC2 := hid (HR2.out _ (Files.b hF (bT B02.out bY)))
  clear HR2 bY
  go_wp2_with fail
  refine HC2.out.mono ?_
  rintro e w3 ⟨A3, c3, B3, d3, rfl, r3, m3, b3⟩
  have hz3 : w2.heap.size < w3.heap.size := by have := b3.size; simp at this; omega
  have g0 := keepb b3 g0
  have j0 := keepb b3 j0
  have h0 := keepb b3 h0
  have h1 := keepb b3 h1
  have h2 := keepb b3 h2
  have h3 := keepb b3 h3
  have h4 := keepb b3 h4
  have B23 := hid (bT BY.out b3)
  have B13 := hid (bT B12.out B23.out)
  have B03 := hid (bT B02.out B23.out)
  have bZ := bA (Below.refl w3.heap.size w3) (.cells #[.int .i64 st, .int .i64 ph, .bool fr, .slice A3 vs.length c3, .slice B3 ms.length d3] 29)
  have HSS := hid (HSM.out _ A2 A3 B2 B3 c2 c3 d2 d3 (rdb (rd_own R2.out) (by decide) (bT B23.out bZ)) (rdb (rd_own r3) (by decide) bZ) (rdb (rd_own M2.out) (by decide) (bT B23.out bZ)) (rdb (rd_own m3) (by decide) bZ))
  have BZ := hid bZ
  have g0 := keepb bZ g0
  have j0 := keepb bZ j0
  clear r3 m3 b3 bZ HSM HC2 R2 M2
  go_wp2_with fail
  refine HSS.out.mono ?_
  rintro e w4 ⟨rfl, b4⟩
  have g0 := keepb b4 g0
  have j0 := keepb b4 j0
  have HSD := hid (sameDisk_walk l1 l _ A1 A l.length k1 c HF1.out.symm HL1.out (Files.b hF1 (bT (bT B13.out BZ.out) b4)) (Files.b hF (bT (bT B03.out BZ.out) b4)) (by omega))
  go_wp2_with fail
  refine HSD.out.mono ?_
  rintro e w5 ⟨rfl, b5⟩
  go_wp2_with fail
  go_ret
  exact ⟨by simp, bT (bT (bT B03.out BZ.out) b4) b5⟩
namespace lawCkptNewests
theorem own : ownKnob Tryd.prog.godebug = none := by kernel_rfl
theorem laidOut : laidOutB Tryd.prog = true := fr_laid
def laidL : List (String × DataW Unit) := [("math/bits.deBruijn32tab", Rows.laid_math_bits_deBruijn32tab), ("math/bits.deBruijn64tab", Rows.laid_math_bits_deBruijn64tab), ("internal/strconv.uint64pow10", Rows.laid_internal_strconv_uint64pow10)]
theorem door_met (os : Os) (args : Array Value) : laidMetH Tryd.prog laidL ((World.doorLaid Tryd.prog 400 os).forCall (fun _ _ => 0) ⟨#[], args, []⟩).memory :=
  laidMetH_of_parts3 (fuel := 8) (laidMet_of_run' 8 (by kernel_rfl) (by kernel_rfl)) (by kernel_rfl) (by kernel_rfl)
set_option maxRecDepth 100000 in
theorem lifted (os : Os) (started : os.Started) (H : Type) (enc : TypeId × Value → H) :
    ReturnsInHanded {} Tryd.checked os 4 .any (fun w args => (Rows.ckptNewestsSpec.pre enc Tryd.prog Tryd.f4 Rows.ckptNewestsRow.domain false w args ∧ laidMetH Tryd.prog laidL w) ∧ sizedMet enc Tryd.prog Tryd.f4 (OpenSpec.ofChange Rows.ckptNewestsSpec) false w args) (Rows.ckptNewestsSpec.post enc Tryd.prog Tryd.f4 false true false false) := by
  refine returnsInHanded_of_change_and (C := Tryd.checked) (X := fun w _ => laidMetH Tryd.prog laidL w) (fun _ _ _ hh h => h.of_heap hh) own started (by kernel_rfl) Tryd.func4
    (ChangeSpec.witness_shaped (enc := enc) (C := Tryd.checked) (os := os) (X := fun w _ => laidMetH Tryd.prog laidL w) false (World.doorLaid Tryd.prog 400 os) #[.agg #[.slice none 0 0], .int .i64 0] 8 rfl (World.shaped_of_RefB (by kernel_rfl) (by kernel_rfl)) (by kernel_rfl) (by kernel_rfl) (by kernel_rfl) (door_met os _)) ?_
  intro W base args ds gs before hval0 hW hcnd hsz0 hL _
  have hval : ∀ (j : Nat) t v, Tryd.f4.params[j]? = some t → args[j]? = some v → Value.okWide Tryd.prog W .any base t v := hval0
  have hsz : (DataW.weightsEach Tryd.prog (Tryd.f4.params.toList ++ Rows.ckptNewestsSpec.plain.varTypes Tryd.prog) (ds ++ gs)).all (· ≤ reachBytes) = true := hsz0
  have hW' := hW
  obtain ⟨p, q, hA0, hV, rfl, hfz, hnd⟩ := hW
  have hA : DataW.TrodAll enc Tryd.prog W 0 (fun _ => true) true Tryd.f4.params.toList args.toList ds p := hA0
  rw [Tryd.params4] at hA hval hsz
  obtain ⟨v0, vs0, d0, ds0, p0, q0, hargs, rfl, rfl, h0, r0⟩ := trodAll_cons hA
  obtain ⟨v1, vs1, d1, ds1, p1, q1, rfl, rfl, rfl, h1, r1⟩ := trodAll_cons r0
  obtain ⟨rfl, rfl, rfl⟩ := trodAll_nil r1
  obtain rfl : args = #[v0, v1] := by cases args; simp_all
  obtain ⟨rfl, rfl⟩ := trodVars_none hV
  have k0 := h0
  have lt0 : ∀ x ∈ p0, x.block < W.heap.size := by obtain ⟨m, hm⟩ := k0; exact DataW.trod_lt m _ _ _ hm
  obtain ⟨⟨cs0⟩, rfl, _⟩ := okWide_struct Tryd.underlying24 (hval 0 24 v0 rfl rfl)
  obtain ⟨x0, A0, c0, e0, f0, g0⟩ := (opn_Disk (enc := enc)).arg h0 hsz (j := 0) rfl rfl
  simp only [Value.cells] at e0
  subst e0
  have k1 := h1
  have lt1 : ∀ x ∈ p1, x.block < W.heap.size := by obtain ⟨m, hm⟩ := k1; exact DataW.trod_lt m _ _ _ hm
  obtain ⟨a1, rfl, rfl, rfl, w1⟩ := open_int Tryd.underlying3 (hval 1 3 v1 rfl rfl) h1
  clear hA0 hval0
  refine (law_CkptNewests W x0 A0 c0 f0 g0 a1 w1).mono fun e W' ⟨he, bel⟩ => ?_
  subst he
  exact ⟨_, rfl, _, _, _, [], _, [], hW', trodAll_mk1 (shut_bool Tryd.underlying4 _), (trodAll_cons_mk (Below.trod laidOut (by kernel_rfl) (of_decide_eq_true (by kernel_rfl)) k0 bel lt0) (trodAll_cons_mk (Below.trod laidOut (by kernel_rfl) (of_decide_eq_true (by kernel_rfl)) k1 bel lt1) trodAll_mk0)), rfl, bel.frame _, fun h => by cases h⟩
theorem limb0 : (Rows.ckptNewestsRow.wf (OpenSpec.ofChange Rows.ckptNewestsSpec)) = true := by kernel_rfl
theorem limb3 : (Tryd.f4.params.all (Tryd.checked.prog.readableRec ·)) = true := by kernel_rfl
theorem limb4 : (namedTie Tryd.checked.prog Rows.ckptNewestsRow.named Rows.ckptNewestsSpec.vars) = true := by kernel_rfl
theorem limb5 : ((Rows.ckptNewestsRow.stops == [])) = true := by kernel_rfl
theorem limb7 : ((Rows.ckptNewestsRow.knobs == [])) = true := by kernel_rfl
theorem limb9 : ((Rows.ckptNewestsRow.inPlace == Tryd.checked.prog.inPlace 4)) = true := by kernel_rfl
theorem limb10 : ((Rows.ckptNewestsRow.unfollowed == Tryd.checked.prog.unfollowed 4)) = true := by kernel_rfl
theorem limb11 : ((Rows.ckptNewestsRow.recurses == Tryd.checked.prog.recurses 4)) = true := by kernel_rfl
theorem limb12 : ((Rows.ckptNewestsRow.named == Tryd.checked.prog.varsNamed 4)) = true := by kernel_rfl
theorem limb13 : ((Rows.ckptNewestsRow.maps == (Tryd.f4.params.toList ++ Rows.ckptNewestsSpec.plain.varTypes Tryd.checked.prog).any (Tryd.checked.prog.mapsRec ·))) = true := by kernel_rfl
theorem limb14 : ((Rows.ckptNewestsRow.ifaces == (Tryd.f4.params.toList ++ Rows.ckptNewestsSpec.plain.varTypes Tryd.checked.prog).any (Tryd.checked.prog.ifacesRec ·))) = true := by kernel_rfl
theorem limb15 : ((Rows.ckptNewestsRow.mapsOut == Tryd.checked.prog.mapsAmong Tryd.f4.resultTypes.toList)) = true := by kernel_rfl
theorem limb16 : ((Rows.ckptNewestsRow.loops == (Tryd.f4.params.toList ++ Rows.ckptNewestsSpec.plain.varTypes Tryd.checked.prog).any (Tryd.checked.prog.loopsFrom ·))) = true := by kernel_rfl
theorem limb17 : ((Rows.ckptNewestsRow.wideKeys == (Tryd.f4.params.toList ++ Rows.ckptNewestsSpec.plain.varTypes Tryd.checked.prog ++ Tryd.f4.resultTypes.toList).any (Tryd.checked.prog.wideKeysFrom ·))) = true := by kernel_rfl
theorem limb18 : (Rows.ckptNewestsSpec.vars.all (Tryd.checked.prog.varReadable ·)) = true := by kernel_rfl
theorem limb19 : (Tryd.f4.resultTypes.all (fun t => Tryd.checked.prog.readableRec t && decide (t < Tryd.checked.prog.types.size))) = true := by kernel_rfl
theorem limb20 : ((Rows.ckptNewestsRow.ifacesOut == Tryd.f4.resultTypes.toList.any (Tryd.checked.prog.ifacesRec ·))) = true := by kernel_rfl
theorem limb21 : ((Rows.ckptNewestsRow.loopsOut == Tryd.f4.resultTypes.toList.any (Tryd.checked.prog.loopsFrom ·))) = true := by kernel_rfl
theorem limb22 : ((Rows.ckptNewestsRow.plainKeys == Tryd.checked.prog.plainKeys)) = true := by rw [fr_keys]; kernel_rfl
theorem limb23 : (Rows.ckptNewestsRow.shortTexts.isNone) = true := by kernel_rfl
theorem limb26 : ((Rows.ckptNewestsRow.lifted == Tryd.checked.prog.liftsFinal)) = true := by rw [fr_lifts]; kernel_rfl
theorem limb27 : ((Tryd.checked.prog.make == some Rows.ckptNewestsRow.make)) = true := by rw [fr_make]; kernel_rfl
theorem limb28 : ((Rows.ckptNewestsRow.kinds == (if Rows.ckptNewestsRow.domain.isEmpty then [] else Tryd.f4.params.toList.map fun t => match Tryd.checked.prog.underlying t with | some (.int k) => some k | _ => none))) = true := by kernel_rfl
theorem limb29 : ((Rows.ckptNewestsRow.pinned == Rows.ckptNewestsRow.pinnedBy)) = true := by kernel_rfl
theorem limb30 : ((Rows.ckptNewestsRow.veiled == (Tryd.f4.params.toList ++ Rows.ckptNewestsSpec.plain.varTypes Tryd.checked.prog ++ Tryd.f4.resultTypes.toList).any (Tryd.checked.prog.veiledRec ·))) = true := by kernel_rfl
theorem limb31 : (Rows.ckptNewestsRow.veiledFits Tryd.checked.prog Tryd.f4.params.toList (Tryd.f4.params.toList ++ Rows.ckptNewestsSpec.plain.varTypes Tryd.checked.prog ++ Tryd.f4.resultTypes.toList)) = true := by kernel_rfl
set_option maxRecDepth 100000 in
theorem closed : joinedFacts Tryd.checked.prog 4 Tryd.f4 Rows.ckptNewestsSpec Rows.ckptNewestsRow = true := by unfold joinedFacts; exact (and_mk (and_mk (and_mk (and_mk (and_mk (and_mk (and_mk (and_mk (and_mk (and_mk (and_mk (and_mk (and_mk (and_mk (and_mk (and_mk (and_mk (and_mk (and_mk (and_mk (and_mk (and_mk (and_mk (and_mk (and_mk (and_mk (and_mk (and_mk (and_mk (and_mk (and_mk limb0 fr_laid) fr_maps) limb3) limb4) limb5) fr_stops) limb7) fr_knobs) limb9) limb10) limb11) limb12) limb13) limb14) limb15) limb16) limb17) limb18) limb19) limb20) limb21) limb22) limb23) fr_heard) fr_enter) limb26) limb27) limb28) limb29) limb30) limb31)
theorem named : Tryd.checked.prog.funcNamed Rows.ckptNewestsRow.func = some 4 := by kernel_rfl
theorem inst : Tryd.f4.isInstance Tryd.checked.prog Rows.ckptNewestsRow.origin Rows.ckptNewestsRow.targs := of_decide_eq_true (by kernel_rfl)
theorem wrapper : Tryd.f4.isWrapper Tryd.checked.prog Rows.ckptNewestsRow.wrapper Rows.ckptNewestsRow.mainSum := by unfold Func.isWrapper; first | (rw [if_pos (by decide +kernel)]; kernel_rfl) | (rw [if_neg (by decide +kernel)]; exact ⟨rfl, rfl⟩)
theorem over : Rows.ckptNewestsRow.holds Tryd.pinned (OpenSpec.ofChange Rows.ckptNewestsSpec) :=
  OpenClaim.holds_of_wide 4 Tryd.f4 rfl rfl rfl rfl rfl rfl rfl ⟨rfl, rfl, rfl, rfl, rfl⟩ rfl rfl rfl rfl rfl named Tryd.func4 closed inst wrapper
    (fun os started H enc _ => lifted os started H enc)
/-- The given statement. -/
theorem proved : Rows.CkptNewestsSaid := over
/-- The tied card. -/
theorem cardProved : Rows.CkptNewestsCardSaid :=
  Claim7.holds_tied_plain_at .later [] [.data, .data, .data] true (true, "fe33947c97d956bcf2f09ced2bd75d136835f2d2e2ab8bf5dff8b01257ec44da") false
    proved (fun _ h => by cases h) (by kernel_rfl) (fun _ h => by cases h) ckptNewests_row_tie rfl ⟨rfl, rfl⟩ (by kernel_rfl) rfl
    (fun f fn hf hfn => by
      obtain rfl : f = 4 := Option.some.inj ((show Tryd.prog.funcNamed "paceline/pacelinelaw.CkptNewests" = some 4 by kernel_rfl).symm.trans hf) |>.symm
      obtain rfl : fn = Tryd.f4 := (Option.some.inj (Tryd.func4.symm.trans hfn)).symm
      exact ⟨by kernel_rfl, fun j t ht => by
        rw [Tryd.params4] at ht
        have hm : t ∈ [3, 24] := by have h0 := Array.mem_of_getElem? ht; simp at h0 ⊢; rcases h0 with h0 | h0 <;> simp [h0]
        have hall : ([3, 24].all fun u => !Tryd.prog.wantsStandIn u) = true := by kernel_rfl
        exact (show Tryd.prog.wantsStandIn t = false by simpa using List.all_eq_true.1 hall t hm)⟩)
    (by kernel_rfl)
end lawCkptNewests
#print axioms lawCkptNewests.cardProved
end Go.Proofs.YtphgdpjfolkafaaDoor
