/- The document's OpenedPart: the walk. -/
import Derived.Test.YtiemcicgohldeaaStoT
namespace Go.Proofs.Ytiemcicgohldeaa
open Go.ChangeShapes Go.WideShapes Go.ChangeAt Go.RowKit
set_option linter.unusedVariables false
set_option linter.unusedSimpArgs false
theorem headV_none1 {l : List Int} (h : smallE l 7 = none) : headV l = none := by unfold headV; rw [h]
theorem headV_none2 {l : List Int} {a : Int} {k1 : Nat} (h : smallE l 7 = some (a, k1)) (h2 : smallE (l.drop k1) 8 = none) : headV l = none := by unfold headV; rw [h]; dsimp only; rw [h2]
theorem headV_none3 {l : List Int} {a b : Int} {k1 k2 : Nat} (h : smallE l 7 = some (a, k1)) (h2 : smallE (l.drop k1) 8 = some (b, k2)) (h3 : smallE (l.drop (k1 + k2)) 200 = none) : headV l = none := by
  unfold headV; rw [h]; dsimp only; rw [h2]; dsimp only; rw [List.drop_drop, h3]
theorem headV_some {l : List Int} {a b n : Int} {k1 k2 k3 : Nat} (h : smallE l 7 = some (a, k1)) (h2 : smallE (l.drop k1) 8 = some (b, k2)) (h3 : smallE (l.drop (k1 + k2)) 200 = some (n, k3)) : headV l = some (a, b, n, l.drop (k1 + k2 + k3)) := by
  unfold headV; rw [h]; dsimp only; rw [h2]; dsimp only; rw [List.drop_drop, h3]; dsimp only; rw [List.drop_drop]
theorem small_casesE {b : List Int} (hb : ∀ x ∈ b, 0 ≤ x ∧ x ≤ 255) {n : Nat} (hn : n ≤ b.length) (most : Int) :
    (smallE (b.drop n) most = none ∧ smallV b n most = (0, -1)) ∨ ∃ (r : Int) (k p : Nat), smallE (b.drop n) most = some (r, k) ∧ p = n + k ∧ smallV b n most = (r, (p : Int)) ∧ 0 ≤ r ∧ r ≤ most ∧ p ≤ b.length := by
  rcases small_cases hb hn most with ⟨h1, h2⟩ | ⟨x, k2, h1, h2, ht5, h3, h4, h5, h7, ht6, ht7⟩
  · exact .inl ⟨smallE_none h1, h2⟩
  · refine .inr ⟨x, k2, n + k2, ?_, rfl, h2, h3, h4, h7⟩
    rw [smallE_some h1]
    rw [smallV_ok h1] at h2
    injection h2 with h8 h9
    rw [h8, show (getv (b.drop n)).2.1.toNat = k2 by omega]
set_option maxRecDepth 100000 in
set_option maxHeartbeats 2000000 in
theorem opened_err (l : List Int) (w : World) (A : Option Addr) (L c : Nat) (hr : Rd w w.heap.size A 1 L (l.flatMap u8c)) (hL : l.length = L) (hb : ∀ x ∈ l, 0 ≤ x ∧ x ≤ 255) (hn : L ≤ 140737488355328) (hcap : L ≤ c) (he : (unwV l).2.2 ≠ 0) :
    Calls Try.prog 8 #[.slice A L c] w (RetPt w (zeroP, (unwV l).2.2)) := by
  have b0 := bA (Below.refl w.heap.size w) (.cells #[.int .i64 0, .int .i64 0, .int .i64 0, .slice none 0 0, .slice none 0 0] 26)
  have HU := hid (unwrapped_walk l (w.alloc (.cells #[.int .i64 0, .int .i64 0, .int .i64 0, .slice none 0 0, .slice none 0 0] 26)) A L c (rdb hr (by decide) b0) hL hb hn hcap)
  have heb : ((unwV l).2.2 == 0) = false := by simpa using he
  have heb2 : ((unwV l).2.2 != 0) = true := by simpa using he
  generalize unwV l = u at *
  obtain ⟨ink, k, e⟩ := u
  dsimp only at *
  go_enter Try.func8, Try.ntmps8
  go_wp2_with fail
  refine HU.out.mono ?_
  rintro e1 w1 ⟨A1, c1, rfl, o1, b1⟩
  have hs1 : w.heap.size < w1.heap.size := by have := b1.size; simp at this; omega
  have p0 : w1.cell? ⟨w.heap.size, 0, none⟩ = some (.int .i64 0) := keepb b1 (by go_simp)
  have p1 : w1.cell? ⟨w.heap.size, 1, none⟩ = some (.int .i64 0) := keepb b1 (by go_simp)
  have p2 : w1.cell? ⟨w.heap.size, 2, none⟩ = some (.int .i64 0) := keepb b1 (by go_simp)
  have p3 : w1.cell? ⟨w.heap.size, 3, none⟩ = some (.slice none 0 0) := keepb b1 (by go_simp)
  have p4 : w1.cell? ⟨w.heap.size, 4, none⟩ = some (.slice none 0 0) := keepb b1 (by go_simp)
  have pf : ∀ o, w1.frozen? ⟨w.heap.size, o, none⟩ = false := fun o => keepf b1 (by go_simp) (by simp)
  go_wp2_with fail
  refine bodyPost_ret (v := .tuple #[.agg #[.int .i64 0, .int .i64 0, .int .i64 0, .slice none 0 0, .slice none 0 0], .int .i64 e]) (by simp [results, Try.results8, go_sem, *]) rfl ?_
  refine retPt_zero ?_
  repeat (with_reducible refine bS ?_ (by simp) _)
  exact bT b0 b1
set_option maxRecDepth 100000 in
set_option maxHeartbeats 4000000 in
theorem opened_ok (l : List Int) (w : World) (A : Option Addr) (L c : Nat) (hr : Rd w w.heap.size A 1 L (l.flatMap u8c)) (hL : l.length = L) (hb : ∀ x ∈ l, 0 ≤ x ∧ x ≤ 255) (hn : L ≤ 140737488355328) (hcap : L ≤ c) (he : (unwV l).2.2 = 0) :
    Calls Try.prog 8 #[.slice A L c] w (RetPt w (openV l)) := by
  have b0 := bA (Below.refl w.heap.size w) (.cells #[.int .i64 0, .int .i64 0, .int .i64 0, .slice none 0 0, .slice none 0 0] 26)
  have HU := hid (unwrapped_walk l (w.alloc (.cells #[.int .i64 0, .int .i64 0, .int .i64 0, .slice none 0 0, .slice none 0 0] 26)) A L c (rdb hr (by decide) b0) hL hb hn hcap)
  have HZ : Hid (TObj (w.alloc (.cells #[.int .i64 0, .int .i64 0, .int .i64 0, .slice none 0 0, .slice none 0 0] 26)) (fun _ => 0) 0 w.heap.size #[.int .i64 0, .int .i64 0, .int .i64 0, .slice none 0 0, .slice none 0 0] 26) := hid ⟨heap_alloc_new w _, rfl⟩
  have hul := unwV_len l hb
  have HBY := hid (unwV_byteS hb)
  have HV : Hid (openV l = _) := hid (by conv => lhs; unfold openV)
  rw [if_neg (by rw [he]; simp)] at HV
  generalize unwV l = u at *
  obtain ⟨ink, kz, e⟩ := u
  dsimp only at *
  subst he
  obtain ⟨k, rfl⟩ := Int.eq_ofNat_of_zero_le hul.2.1
  go_enter Try.func8, Try.ntmps8
  go_wp2_with fail
  refine HU.out.mono ?_
  rintro e1 w1 ⟨A1, c1, rfl, o1, b1⟩
  have hs1 : w.heap.size < w1.heap.size := by have := b1.size; simp at this; omega
  have HZ1 := hid (HZ.out.below b1)
  have HB1 := hid (bT b0 b1)
  have hcap1 : ink.length ≤ c1 := own_cap o1
  have HR1 := hid (rd_own o1)
  have HO1 := hid o1
  have hink : ink.length ≤ 20000 := hul.1
  have p0 := HZ1.out.cell (i := 0) rfl
  have p1 := HZ1.out.cell (i := 1) rfl
  have p2 := HZ1.out.cell (i := 2) rfl
  have p3 := HZ1.out.cell (i := 3) rfl
  have p4 := HZ1.out.cell (i := 4) rfl
  have pf := HZ1.out.free
  clear b0 b1 o1 HZ
  have HSM := hid (fun (q : Nat) (most : Int) (hq : q ≤ ink.length) (h0 : 0 ≤ most) (h1 : most ≤ 4611686018427387904) => small_walk2 ink q most w1 A1 ink.length c1 HR1.out rfl HBY.out hcap1 hq (by omega) h0 h1)
  have HNG := hid (fun n => small_neg A1 ink.length c1 n w1)
  have HBADR : Hid (∀ {e : Ending} {w' : World}, e = .returned (.tuple #[.agg #[.int .i64 0, .int .i64 0, .int .i64 0, .slice none 0 0, .slice none 0 0], .int .i64 3]) → Below w.heap.size w w' → openV l = (zeroP, 3) → RetPt w (openV l) e w') := hid fun h1 h2 h3 => by rw [h3, h1]; exact retPt_zero h2
  have HS0 := hid (HSM.out 0 7 (Nat.zero_le _) (by omega) (by omega))
  rcases small_casesE HBY.out (n := 0) (Nat.zero_le _) 7 with ⟨h1, h2⟩ | ⟨a, k1, q1, h1, hq1, h2, ha0, ha1, hql1⟩
  · rw [h2] at HS0
    have HBAD := hid (show openV l = (zeroP, 3) by rw [HV.out, headV_none1 (by rw [List.drop_zero] at h1; exact h1)]; split <;> rfl)
    clear h1 h2
    go_wp2_with fail
    refine HS0.out.mono ?_
    rintro e w2 ⟨rfl, rfl⟩
    go_wp2_with fail
    refine (HNG.out _).mono ?_
    rintro e w2 ⟨rfl, rfl⟩
    go_wp2_with fail
    refine (HNG.out _).mono ?_
    rintro e w2 ⟨rfl, rfl⟩
    go_wp2_with fail
    refine bodyPost_ret (v := .tuple #[.agg #[.int .i64 0, .int .i64 0, .int .i64 0, .slice none 0 0, .slice none 0 0], .int .i64 3]) (by simp [results, Try.results8, go_sem, *]) rfl ?_
    refine HBADR.out rfl ?_ HBAD.out
    repeat (with_reducible refine bS ?_ (by simp) _)
    exact HB1.out
  · have HH1 := hid h1
    rw [h2] at HS0
    obtain rfl : q1 = k1 := by omega
    rw [List.drop_zero] at HH1
    have HS1 := hid (HSM.out q1 8 hql1 (by omega) (by omega))
    have hq1n : ¬ ((q1 : Int) < 0) := by omega
    clear h1 h2 hq1
    go_wp2_with fail
    refine HS0.out.mono ?_
    rintro e w2 ⟨rfl, rfl⟩
    rcases small_casesE HBY.out (n := q1) hql1 8 with ⟨h1, h2⟩ | ⟨b, k2, q2, h1, hq2, h2, hb0, hb1, hql2⟩
    · rw [h2] at HS1
      have HBAD := hid (show openV l = (zeroP, 3) by rw [HV.out, headV_none2 HH1.out h1]; split <;> rfl)
      clear h1 h2
      go_wp2_with fail
      refine HS1.out.mono ?_
      rintro e w2 ⟨rfl, rfl⟩
      go_wp2_with fail
      refine (HNG.out _).mono ?_
      rintro e w2 ⟨rfl, rfl⟩
      go_wp2_with fail
      refine bodyPost_ret (v := .tuple #[.agg #[.int .i64 0, .int .i64 0, .int .i64 0, .slice none 0 0, .slice none 0 0], .int .i64 3]) (by simp [results, Try.results8, go_sem, *]) rfl ?_
      refine HBADR.out rfl ?_ HBAD.out
      repeat (with_reducible refine bS ?_ (by simp) _)
      exact HB1.out
    · have HH2 := hid h1
      have HQ2 := hid hq2
      rw [h2] at HS1
      have HS2 := hid (HSM.out q2 200 hql2 (by omega) (by omega))
      have hq2n : ¬ ((q2 : Int) < 0) := by omega
      clear h1 h2 hq2
      go_wp2_with fail
      refine HS1.out.mono ?_
      rintro e w2 ⟨rfl, rfl⟩
      rcases small_casesE HBY.out (n := q2) hql2 200 with ⟨h1, h2⟩ | ⟨n, k3, q3, h1, hq3, h2, hn0, hn1, hql3⟩
      · rw [h2] at HS2
        have HBAD := hid (show openV l = (zeroP, 3) by rw [HV.out, headV_none3 HH1.out HH2.out (by rw [← HQ2.out]; exact h1)]; split <;> rfl)
        clear h1 h2
        go_wp2_with fail
        refine HS2.out.mono ?_
        rintro e w2 ⟨rfl, rfl⟩
        go_wp2_with fail
        refine bodyPost_ret (v := .tuple #[.agg #[.int .i64 0, .int .i64 0, .int .i64 0, .slice none 0 0, .slice none 0 0], .int .i64 3]) (by simp [results, Try.results8, go_sem, *]) rfl ?_
        refine HBADR.out rfl ?_ HBAD.out
        repeat (with_reducible refine bS ?_ (by simp) _)
        exact HB1.out
      · have HV2 := hid (show openV l = _ by rw [HV.out, headV_some HH1.out HH2.out (by rw [← HQ2.out]; exact h1)])
        have HQ3 := hid (show ink.drop (q1 + k2 + k3) = ink.drop q3 by rw [hq3, HQ2.out])
        rw [h2] at HS2
        have hq3n : ¬ ((q3 : Int) < 0) := by omega
        clear h1 h2 hq3
        go_wp2_with fail
        refine HS2.out.mono ?_
        rintro e w2 ⟨rfl, rfl⟩
        have hlz : (l.length : Int) = (L : Int) := by omega
        by_cases hk : k = L
        · obtain rfl : k = L := hk
          have hkb : ((k : Int) != (k : Int)) = false := by simp
          have HV3 := hid (HV2.out.trans (if_neg (by simp [hL])))
          have HMV := hid (mineV_ok ⟨ha0, ha1⟩ hb1 ⟨hn0, hn1⟩)
          by_cases hab : a < b
          · have hab' : ¬ (b ≤ a) := by omega
            have HV4 := hid (HV3.out.trans (if_neg (by have := HMV.out.2 hab; simp [this])))
            rw [HQ3.out] at HV4
            have HMI := hid (fun W => mineOf_walk a n b W)
            have HM0 := hid (HMV.out.2 hab)
            have hml := mineV_len a n b
            clear hab
            go_wp2_with fail
            refine (HMI.out _).mono ?_
            generalize mineV a n b = mv at *
            obtain ⟨mine, f⟩ := mv
            dsimp only at *
            rintro e w7 ⟨A7, c7, rfl, o7, b7⟩
            have HOJ7 : Hid (OJ w.heap.size w1.heap.size w w7 (fun _ => 0) a b n none 0 none 0 [] []) := hid ⟨hs1, (HZ1.out.alloc _).below b7, TObj.below (⟨heap_alloc_new w1 _, rfl⟩ : TObj (w1.alloc (.cells #[.int .i64 a, .int .i64 b, .int .i64 n, .slice none 0 0, .slice none 0 0] 26)) (fun _ => 0) 0 w1.heap.size #[.int .i64 a, .int .i64 b, .int .i64 n, .slice none 0 0, .slice none 0 0] 26) b7, TOwn.nil_, TOwn.nil_, (fun x hx => by cases hx), (fun x hx => by cases hx), fun _ _ => rfl, bT (bA HB1.out _) b7⟩
            have HRW : Hid (∀ W, Below w7.heap.size w7 W → Rd W W.heap.size A1 1 ink.length (ink.flatMap u8c)) := hid fun W hW => rdb HR1.out (by decide) (((bT (bA (Below.refl _ _) _) b7).trans (hW.mono (by have := b7.size; simp at this; omega))))
            have hsz7 : w1.heap.size < w7.heap.size := by have := b7.size; simp at this; omega
            have HHA := hid (fun (W : World) (q : Nat) (hW : Below w1.heap.size w7 W) (hq : q ≤ ink.length) => hopsAt_walk ink q n W A1 ink.length c1 (rdb HR1.out (by decide) ((bT (bA (Below.refl _ _) _) b7).trans (hW.mono (by omega)))) rfl HBY.out hcap1 hq (by omega))
            have HHN := hid (fun W => hopsAt_neg A1 ink.length c1 n W)
            clear o7 b7 HRW HZ1 HS0 HS1 HS2 HSM HNG HU HMI p0 p1 p2 p3 p4 pf HR1 HO1 HH1 HH2 HV HV2 HV3 HMV
            go_wp2_with fail
            go_loopw [12, 16, 17, 18] (fun v12 v16 v17 v18 wr => OtR w.heap.size w1.heap.size a b n ink mine.length (ink.drop q3) w v12 v16 v17 v18 wr ∧ Below w1.heap.size w7 wr) (fun _ _ _ v18 _ => mine.length - (intOf v18).toNat)
            case atStart =>
              exact ⟨⟨fun _ => 0, none, 0, none, 0, [], [], q3, rfl, rfl, rfl, rfl, hid rfl, Nat.zero_le _, HOJ7, hid (putP_nil _).symm, by simp [lists, hopsMany], by simp [lists, hopsMany], hql3⟩, Below.refl _ _⟩
            case round =>
              obtain ⟨⟨T, A', c', B', d', mo, mi, q, rfl, rfl, rfl, rfl, HML, hlm, HOJ, HPG, hm1, hm2, hql⟩, hbw⟩ := hrel
              have HBW := hid hbw
              clear HOJ7 hbw
              have hw1s : w1.heap.size < wr.heap.size := HOJ.out.prt.lt
              have hws : w.heap.size < wr.heap.size := by omega
              by_cases hlt : mo.length < mine.length
              · have hlz : (mo.length : Int) < (mine.length : Int) := by omega
                have HM1 : Hid (mine.length - mo.length = (mine.length - (mo.length + 1)) + 1) := hid (by omega)
                have HH1 := hid (HHA.out wr q HBW.out hql)
                have hn24 : (mo.length + 1) * 24 ≤ 140737488355328 := by omega
                have hn24' : (mi.length + 1) * 24 ≤ 140737488355328 := by have := HML.out; omega
                cases h1 : hopsE n (ink.drop q) with
                | none =>
                  rw [h1] at HH1
                  have HBAD := hid (show openV l = (zeroP, 3) by rw [HV4.out, HPG.out, HM1.out, partGo_none1 h1]; rfl)
                  clear h1
                  go_wp2_with fail
                  refine HH1.out.mono ?_
                  rintro e w8 ⟨rfl, b8⟩
                  go_wp2_with fail
                  refine (HHN.out _).mono ?_
                  rintro e w9 ⟨rfl, rfl⟩
                  have HOX := HOJ.out.below b8
                  have p0 := HOX.res.cell (i := 0) rfl
                  have p1 := HOX.res.cell (i := 1) rfl
                  have p2 := HOX.res.cell (i := 2) rfl
                  have p3 := HOX.res.cell (i := 3) rfl
                  have p4 := HOX.res.cell (i := 4) rfl
                  have pf := HOX.res.free
                  have hws8 := HOX.res.lt
                  have HBX := hid HOX.bl
                  go_wp2_with fail
                  refine bodyPost_ret (v := .tuple #[.agg #[.int .i64 0, .int .i64 0, .int .i64 0, .slice none 0 0, .slice none 0 0], .int .i64 3]) (by simp [results, Try.results8, go_sem, *]) rfl ?_
                  refine HBADR.out rfl ?_ HBAD.out
                  repeat (with_reducible refine bS ?_ (by simp) _)
                  exact HBX.out
                | some y =>
                  obtain ⟨o, r1⟩ := y
                  rw [h1] at HH1
                  have HHE := hid h1
                  have hol := hopsE_len h1
                  clear h1
                  go_wp2_with fail
                  refine HH1.out.mono ?_
                  rintro e w8 ⟨A8, c8, q8, rfl, o8, hr8, hq8, b8⟩
                  subst hr8
                  have HO8 := hid (HOJ.out.below b8)
                  have HY8 := hid (show TRow w8 (upd wr.heap.size T 1) 1 A8 2 o.length (o.flatMap Hop.cells) from TRow.of_own o8 (Nat.le_refl _))
                  have HB8 := hid (HBW.out.trans (b8.mono (by omega)))
                  have HH2 := hid (HHA.out w8 q8 HB8.out hq8)
                  clear o8 b8 HH1 HOJ
                  generalize upd wr.heap.size T 1 = T8 at *
                  cases h1 : hopsE n (ink.drop q8) with
                  | none =>
                    rw [h1] at HH2
                    have HBAD := hid (show openV l = (zeroP, 3) by rw [HV4.out, HPG.out, HM1.out, partGo_none2 HHE.out h1]; rfl)
                    clear h1
                    go_wp2_with fail
                    refine HH2.out.mono ?_
                    rintro e w9 ⟨rfl, b9⟩
                    have HOX := HO8.out.below b9
                    have p0 := HOX.res.cell (i := 0) rfl
                    have p1 := HOX.res.cell (i := 1) rfl
                    have p2 := HOX.res.cell (i := 2) rfl
                    have p3 := HOX.res.cell (i := 3) rfl
                    have p4 := HOX.res.cell (i := 4) rfl
                    have pf := HOX.res.free
                    have hws9 := HOX.res.lt
                    have HBX := hid HOX.bl
                    go_wp2_with fail
                    refine bodyPost_ret (v := .tuple #[.agg #[.int .i64 0, .int .i64 0, .int .i64 0, .slice none 0 0, .slice none 0 0], .int .i64 3]) (by simp [results, Try.results8, go_sem, *]) rfl ?_
                    refine HBADR.out rfl ?_ HBAD.out
                    repeat (with_reducible refine bS ?_ (by simp) _)
                    exact HBX.out
                  | some y2 =>
                    obtain ⟨o2, r2⟩ := y2
                    rw [h1] at HH2
                    have HHE2 := hid h1
                    have hol2 := hopsE_len h1
                    clear h1
                    go_wp2_with fail
                    refine HH2.out.mono ?_
                    rintro e w9 ⟨A9, c9, q9, rfl, o9, hr9, hq9, b9⟩
                    subst hr9
                    have HO9 := hid (HO8.out.below b9)
                    have HY9 := hid (show TRow w9 (upd w8.heap.size T8 1) 1 A9 2 o2.length (o2.flatMap Hop.cells) from TRow.of_own o9 (Nat.le_refl _))
                    have HY8' := hid (HY8.out.keep (S := fun _ => False) (Keep.below b9) (fun h => h) (agree_upd (t := 1) (Nat.le_refl _)))
                    have HB9 := hid (HB8.out.trans (b9.mono (Nat.le_of_lt HO8.out.prt.lt)))
                    clear o9 b9 HH2 HO8 HY8
                    generalize upd w8.heap.size T8 1 = T9 at *
                    have hq9n : ¬ ((q9 : Int) < 0) := by omega
                    have p3 := HO9.out.prt.cell (i := 3) rfl
                    have p4 := HO9.out.prt.cell (i := 4) rfl
                    have pf := HO9.out.prt.free
                    have hp9 := HO9.out.prt.lt
                    go_wp2_with (first | (at_builtin; refine wp_appT _ rfl rfl el_hgO rfl (HO9.out.alloc _).out rfl (rd_newAt _ _ _ 1 1 _ (by simp) rfl) (one_ML [(⟨A8, c8, o⟩ : ML Hop)]) hn24 ?_; intro A10 c10 w10 o10 k10; have HO10 := hid ((HO9.out.alloc _).pushO (y := ⟨A8, c8, o⟩) (HY8'.out.alloc _) o10 k10); have p3x := HO10.out.1.cell (i := 3) rfl; have pfx := HO10.out.1.free; have p4x := HO10.out.2.prt.cell (i := 4) rfl; have pfy := HO10.out.2.prt.free; have HYB := hid (TRow.setOld (TRow.keep (HY9.out.alloc (.cells #[.slice A8 o.length c8] 64)) k10 (by decide) (agree_upd (t := 2) (Nat.le_refl _))) (p := ⟨w1.heap.size, 3, none⟩) HO10.out.1.tag (by decide) (.slice A10 (mo.length + 1) c10)); have hp10 := HO10.out.1.lt; clear p3 p4 pf) | (at_builtin; refine wp_appT _ rfl rfl el_hgO rfl (HO10.out.2.alloc _).inn rfl (rd_newAt _ _ _ 1 1 _ (by simp) rfl) (one_ML [(⟨A9, c9, o2⟩ : ML Hop)]) hn24' ?_; intro A11 c11 w11 o11 k11; have HO11 := hid ((HO10.out.2.alloc _).pushI (y := ⟨A9, c9, o2⟩) (HYB.out.alloc _) o11 k11); have p4y := HO11.out.1.cell (i := 4) rfl; have pfz := HO11.out.1.free; have hp11 := HO11.out.1.lt))
                    have hl1 : (mo ++ [(⟨A8, c8, o⟩ : ML Hop)]).length = mo.length + 1 := by simp
                    go_roundw
                    case rel =>
                      refine ⟨⟨_, _, _, _, _, mo ++ [⟨A8, c8, o⟩], mi ++ [⟨A9, c9, o2⟩], q9, rfl, ?_, ?_, ?_, hid (by simp [HML.out]), by rw [hl1]; omega, hid HO11.out.2, hid ?_, ?_, ?_, hq9⟩, ?_⟩
                      · rw [hl1]; go_num
                      · rw [lists_snocP, hopsMany_snoc]; go_num
                      · rw [lists_snocP, hopsMany_snoc]; go_num
                      · rw [HPG.out, HM1.out, partGo_some _ _ HHE.out HHE2.out, lists_snocP, lists_snocP, hl1]
                      · rw [lists_snocP, hopsMany_snoc, hl1]; show _ + o.length ≤ _; omega
                      · rw [lists_snocP, hopsMany_snoc, hl1]; show _ + o2.length ≤ _; omega
                      · exact (HB9.out.trans (((Below.refl _ _).alloc (Nat.le_of_lt HO9.out.prt.lt) _).trans ((HO9.out.alloc _).stBl k10 (by decide) 3 _))).trans (((Below.refl _ _).alloc (Nat.le_of_lt HO10.out.2.prt.lt) _).trans ((HO10.out.2.alloc _).stBl k11 (by decide) 4 _))
                    case measure => simp [intOf]; omega
              · have hje : mo.length = mine.length := by omega
                have HFIN : Hid (partGo n mine.length (ink.drop q3) = some (lists mo, lists mi, ink.drop q)) := hid (by rw [HPG.out, hje, Nat.sub_self]; show some (lists mo ++ [], lists mi ++ [], ink.drop q) = _; rw [List.append_nil, List.append_nil])
                have hlt' : ¬ ((mo.length : Int) < (mine.length : Int)) := by omega
                have HJE := hid hje
                have HBX := hid HOJ.out.bl
                clear hje
                have p0 := HOJ.out.res.cell (i := 0) rfl
                have p1 := HOJ.out.res.cell (i := 1) rfl
                have p2 := HOJ.out.res.cell (i := 2) rfl
                have p3 := HOJ.out.res.cell (i := 3) rfl
                have p4 := HOJ.out.res.cell (i := 4) rfl
                have pf := HOJ.out.res.free
                have r0 := HOJ.out.prt.cell (i := 0) rfl
                have r1 := HOJ.out.prt.cell (i := 1) rfl
                have r2 := HOJ.out.prt.cell (i := 2) rfl
                have r3 := HOJ.out.prt.cell (i := 3) rfl
                have r4 := HOJ.out.prt.cell (i := 4) rfl
                by_cases hr0 : q = ink.length
                · have hrb : ((q : Int) != (ink.length : Int)) = false := by simp [hr0]
                  have hrb2 : ((q : Int) == (ink.length : Int)) = true := by simp [hr0]
                  have HR0 := hid (show ink.drop q = [] by rw [hr0, List.drop_length])
                  clear hr0
                  by_cases ho6 : hopsMany (lists mo) ≤ 600
                  · have hob : ¬ ((600 : Int) < (hopsMany (lists mo) : Int)) := by omega
                    by_cases hi6 : hopsMany (lists mi) ≤ 600
                    · have hib : ¬ ((600 : Int) < (hopsMany (lists mi) : Int)) := by omega
                      have HOK := hid (show openV l = (⟨a, b, n, lists mo, lists mi⟩, 0) by rw [HV4.out, HFIN.out]; dsimp only; rw [if_pos ⟨HR0.out, ho6, hi6⟩])
                      go_wp2_with fail
                      rw [HOK.out]
                      refine bodyPost_ret (v := .tuple #[.agg #[.int .i64 a, .int .i64 b, .int .i64 n, .slice A' mo.length c', .slice B' mi.length d'], .int .i64 0]) (by simp [results, Try.results8, go_sem, *]) rfl ?_
                      have hN : T w.heap.size = 0 := HOJ.out.t0 _ (by omega)
                      have hk := (((((Keep.refl (S := fun x => x = 0) (T := T) (w := wr)).setCell (p := ⟨w.heap.size, 0, none⟩) (fun _ => hN) (.int .i64 a)).setCell (p := ⟨w.heap.size, 1, none⟩) (fun _ => hN) (.int .i64 b)).setCell (p := ⟨w.heap.size, 2, none⟩) (fun _ => hN) (.int .i64 n)).setCell (p := ⟨w.heap.size, 3, none⟩) (fun _ => hN) (.slice A' mo.length c')).setCell (p := ⟨w.heap.size, 4, none⟩) (fun _ => hN) (.slice B' mi.length d')
                      have ht : ∀ b, b < w.heap.size → T b = 0 := fun b hb => HOJ.out.t0 b (by omega)
                      have hln : (lists mo).length = mo.length := by simp [lists]
                      have hln2 : (lists mi).length = mi.length := by simp [lists]
                      refine ⟨A', c', B', d', mo, mi, by rw [hln, hln2], rfl, rfl, ⟨(HOJ.out.out.row.keep hk (by decide) Agree.refl).part ht (by decide), fun x hx => ((HOJ.out.ro x hx).keep hk (by decide) Agree.refl).part ht (by decide)⟩, ⟨(HOJ.out.inn.row.keep hk (by decide) Agree.refl).part ht (by decide), fun x hx => ((HOJ.out.ri x hx).keep hk (by decide) Agree.refl).part ht (by decide)⟩, ?_⟩
                      repeat (with_reducible refine bS ?_ (Nat.le_refl _) _)
                      exact HBX.out
                    · have hib : (600 : Int) < (hopsMany (lists mi) : Int) := by omega
                      have HBAD := hid (show openV l = (zeroP, 3) by rw [HV4.out, HFIN.out]; dsimp only; rw [if_neg (fun h => hi6 h.2.2)])
                      go_wp2_with fail
                      refine bodyPost_ret (v := .tuple #[.agg #[.int .i64 0, .int .i64 0, .int .i64 0, .slice none 0 0, .slice none 0 0], .int .i64 3]) (by simp [results, Try.results8, go_sem, *]) rfl ?_
                      refine HBADR.out rfl ?_ HBAD.out
                      repeat (with_reducible refine bS ?_ (by simp) _)
                      exact HBX.out
                  · have hob : (600 : Int) < (hopsMany (lists mo) : Int) := by omega
                    have HBAD := hid (show openV l = (zeroP, 3) by rw [HV4.out, HFIN.out]; dsimp only; rw [if_neg (fun h => ho6 h.2.1)])
                    go_wp2_with fail
                    refine bodyPost_ret (v := .tuple #[.agg #[.int .i64 0, .int .i64 0, .int .i64 0, .slice none 0 0, .slice none 0 0], .int .i64 3]) (by simp [results, Try.results8, go_sem, *]) rfl ?_
                    refine HBADR.out rfl ?_ HBAD.out
                    repeat (with_reducible refine bS ?_ (by simp) _)
                    exact HBX.out
                · have hrb : ((q : Int) != (ink.length : Int)) = true := by simpa using fun h : (q : Int) = ink.length => hr0 (by omega)
                  have hrb2 : ((q : Int) == (ink.length : Int)) = false := by simpa using fun h : (q : Int) = ink.length => hr0 (by omega)
                  have HBAD := hid (show openV l = (zeroP, 3) by rw [HV4.out, HFIN.out]; dsimp only; rw [if_neg (fun h => hr0 (by have h2 := congrArg List.length h.1; rw [List.length_drop] at h2; simp at h2; omega))])
                  go_wp2_with fail
                  refine bodyPost_ret (v := .tuple #[.agg #[.int .i64 0, .int .i64 0, .int .i64 0, .slice none 0 0, .slice none 0 0], .int .i64 3]) (by simp [results, Try.results8, go_sem, *]) rfl ?_
                  refine HBADR.out rfl ?_ HBAD.out
                  repeat (with_reducible refine bS ?_ (by simp) _)
                  exact HBX.out
          · have hab' : b ≤ a := by omega
            have HBAD := hid (show openV l = (zeroP, 3) by rw [HV3.out, if_pos (fun h => hab (HMV.out.1 h))])
            go_wp2_with fail
            refine bodyPost_ret (v := .tuple #[.agg #[.int .i64 0, .int .i64 0, .int .i64 0, .slice none 0 0, .slice none 0 0], .int .i64 3]) (by simp [results, Try.results8, go_sem, *]) rfl ?_
            refine HBADR.out rfl ?_ HBAD.out
            repeat (with_reducible refine bS ?_ (by simp) _)
            exact HB1.out
        · have hkb : ((k : Int) == (L : Int)) = false := by simpa using fun h : (k : Int) = L => hk (by omega)
          have hkb2 : ((k : Int) != (L : Int)) = true := by simpa using fun h : (k : Int) = L => hk (by omega)
          have HBAD := hid (show openV l = (zeroP, 3) by rw [HV2.out, if_pos (by omega)])
          go_wp2_with fail
          refine bodyPost_ret (v := .tuple #[.agg #[.int .i64 0, .int .i64 0, .int .i64 0, .slice none 0 0, .slice none 0 0], .int .i64 3]) (by simp [results, Try.results8, go_sem, *]) rfl ?_
          refine HBADR.out rfl ?_ HBAD.out
          repeat (with_reducible refine bS ?_ (by simp) _)
          exact HB1.out
theorem opened_walk (l : List Int) (w : World) (A : Option Addr) (L c : Nat) (hr : Rd w w.heap.size A 1 L (l.flatMap u8c)) (hL : l.length = L) (hb : ∀ x ∈ l, 0 ≤ x ∧ x ≤ 255) (hn : L ≤ 140737488355328) (hcap : L ≤ c) :
    Calls Try.prog 8 #[.slice A L c] w (RetPt w (openV l)) := by
  by_cases he : (unwV l).2.2 = 0
  · exact opened_ok l w A L c hr hL hb hn hcap he
  · have h := opened_err l w A L c hr hL hb hn hcap he
    have e : openV l = (zeroP, (unwV l).2.2) := by unfold openV; rw [if_pos he]
    rw [e]; exact h
end Go.Proofs.Ytiemcicgohldeaa
