/- CkU, CkV, LCkP: joined. -/
import Derived.Test.YtphgdpjfolkafaaCka
import Derived.Test.YtphgdpjfolkafaaSeal
import Derived.Test.YtphgdpjfolkafaaDiskT
import Derived.Test.YtphgdpjfolkafaaDiskH
import Derived.Test.YtphgdpjfolkafaaDiskI
import Derived.Test.YtphgdpjfolkafaaSameD
import Derived.Test.YtphgdpjfolkafaaRegF
import Derived.Deep.DeepCutAuto
/- ckpt.Put. -/
namespace Go.Proofs.Ytphgdpjfolkafaa
open Go.ChangeShapes Go.WideShapes Go.ChangeAt Go.RowKit
set_option linter.unusedVariables false
set_option linter.unusedSimpArgs false
noncomputable def putF (fs : List File) (z : List Int × Int) : List File × Int :=
  if z.2 ≠ 0 then ([], z.2) else if (removeF fs nextB).2 = 9 then ([], 9) else if (removeF fs nextB).2 = 0 then appF (removeF fs nextB).1 nextB z.1 else appF fs nextB z.1
theorem putF_err {fs : List File} {z : List Int × Int} (h : z.2 ≠ 0) : putF fs z = ([], z.2) := by unfold putF; rw [if_pos h]
theorem putF_bad {fs : List File} {z : List Int × Int} (h : ¬ z.2 ≠ 0) (h2 : (removeF fs nextB).2 = 9) : putF fs z = ([], 9) := by unfold putF; rw [if_neg h, if_pos h2]
theorem putF_cut {fs : List File} {z : List Int × Int} (h : ¬ z.2 ≠ 0) (h2 : (removeF fs nextB).2 = 0) : putF fs z = appF (removeF fs nextB).1 nextB z.1 := by unfold putF; rw [if_neg h, if_neg (by rw [h2]; decide), if_pos h2]
theorem putF_new {fs : List File} {z : List Int × Int} (h : ¬ z.2 ≠ 0) (h2 : (removeF fs nextB).2 = 7) : putF fs z = appF fs nextB z.1 := by unfold putF; rw [if_neg h, if_neg (by rw [h2]; decide), if_neg (by rw [h2]; decide)]
theorem putF_len (fs : List File) (z : List Int × Int) : (putF fs z).1.length ≤ fs.length + 1 := by
  unfold putF; split
  · simp
  · split
    · simp
    · split
      · exact Nat.le_trans (appF_len _ _ _) (Nat.succ_le_succ (removeF_len _ _))
      · exact appF_len _ _ _
theorem removeF_fit {fs : List File} (h : FitF fs) (n : ByteArray) : FitF (removeF fs n).1 := by
  unfold removeF; split
  · intro f hf; cases hf
  · split
    · intro f hf; cases hf
    · intro f hf; exact h f (List.mem_filter.1 hf).1
theorem removeF_cases (l : List MFile) (n : ByteArray) : (removeF (files l) n).2 = 9 ∨ (removeF (files l) n).2 = 7 ∨ (removeF (files l) n).2 = 0 := by
  unfold removeF; split
  · exact .inl rfl
  · split
    · exact .inr (.inl rfl)
    · exact .inr (.inr rfl)
set_option maxRecDepth 100000 in
set_option maxHeartbeats 8000000 in
theorem put_disk_walk (l : List MFile) (s : Saved) (w : World) (A : Option Addr) (c : Nat) (As Bs : Option Addr) (cs ds : Nat) (hr : Files w w.heap.size A l) (hn : l.length * 48 ≤ 140737488355328) (hm : Okm l) (hv : Rd w w.heap.size As 2 s.vals.length (s.vals.flatMap Val.cells)) (hms : Rd w w.heap.size Bs 2 s.mail.length (s.mail.flatMap Mail.cells)) :
    Calls Try.prog 33 #[.agg #[.slice A l.length c], .agg (svC s As cs Bs ds)] w (RetD w (putF (files l) (encV s)).1 (putF (files l) (encV s)).2) := by
  have b0 := bA (bA (bA (Below.refl w.heap.size w) (.cells #[.slice A l.length c] 66)) (.cells (svC s As cs Bs ds) 36)) (.cells #[.slice none 0 0] 66)
  have HE := hid (encode_walk s _ As Bs cs ds (rdb hv (by decide) b0) (rdb hms (by decide) b0))
  have hzl := encV_len s
  have hfit := removeF_fit (fitF_of hm) nextB
  have hrl := removeF_len (files l) nextB
  have hrc := removeF_cases l nextB
  rw [files_length] at hrl
  generalize encV s = z at *
  obtain ⟨bs, r⟩ := z
  obtain ⟨st, ph, fr, vs, ms⟩ := s
  unfold svC at *
  simp only at *
  by_cases he : r ≠ 0
  · rw [putF_err (z := (bs, r)) he]
    have hrb : (r != 0) = true := by simpa using he
    clear hrc
    go_enter Try.func33, Try.ntmps33
    go_wp2_with fail
    refine HE.out.mono ?_
    rintro e w1 ⟨Ab, kb, rfl, ob, b1⟩
    have q : w1.cell? ⟨w.heap.size + 2, 0, none⟩ = some (.slice none 0 0) := keepb b1 (by go_simp)
    have qf : ∀ o, w1.frozen? ⟨w.heap.size + 2, o, none⟩ = false := fun o => by rw [(bcell b1).2 _ _ (by simp)]; go_simp
    clear ob
    go_wp2_with fail
    exact bodyPost_ret (v := .tuple #[.agg #[.slice none 0 0], .int .i64 r]) (by simp [results, Try.results33, go_sem, *]) rfl (retD_bad _ _ _ (bS (bT b0 b1) (by show w.heap.size ≤ w.heap.size + 2; omega) _))
  · have hr0 : r = 0 := by simpa using he
    subst hr0
    have HRM := hid (fun wd (h : Files wd wd.heap.size A l) => remove_walk l nextB wd A c h hn hm)
    rcases hrc with h9 | h7 | h0
    · rw [putF_bad he h9]
      generalize removeF (files l) nextB = y at *
      obtain ⟨gs, ry⟩ := y
      simp only at h9 hrl
      subst h9
      clear he hfit
      go_enter Try.func33, Try.ntmps33
      go_wp2_with fail
      refine HE.out.mono ?_
      rintro e w1 ⟨Ab, kb, rfl, ob, b1⟩
      have b01 := bT b0 b1
      have g0 : w1.cell? ⟨w.heap.size, 0, none⟩ = some (.slice A l.length c) := keepb b1 (by go_simp)
      have q : w1.cell? ⟨w.heap.size + 2, 0, none⟩ = some (.slice none 0 0) := keepb b1 (by go_simp)
      have qf : w1.frozen? ⟨w.heap.size + 2, 0, none⟩ = false := by rw [(bcell b1).2 _ _ (by simp)]; go_simp
      have hz1 : w.heap.size + 2 < w1.heap.size := by have := b1.size; simp at this; omega
      clear ob b1
      go_wp2_with fail
      refine (HRM.out _ (Files.b hr b01)).mono ?_
      rintro e w2 ⟨A2, k2, l2, rfl, hf2, r2, b2⟩
      have q := keepb b2 q
      have qf := keepf b2 qf hz1
      have hz2 : w.heap.size + 2 < w2.heap.size := Nat.lt_of_lt_of_le hz1 b2.size
      clear hf2 r2
      go_wp2_with fail
      exact bodyPost_ret (v := .tuple #[.agg #[.slice none 0 0], .int .i64 9]) (by simp [results, Try.results33, go_sem, *]) rfl (retD_bad _ _ _ (bA (bS (bT b01 b2) (by show w.heap.size ≤ w.heap.size + 2; omega) _) _))
    · rw [putF_new he h7]
      generalize removeF (files l) nextB = y at *
      obtain ⟨gs, ry⟩ := y
      simp only at h7 hrl
      subst h7
      clear he hfit
      have HAP := hid (fun wd Ab cb (h : Files wd wd.heap.size A l) hb => append_walk l nextB bs wd A c Ab cb h hn hm hb (by omega))
      generalize appF (files l) nextB bs = p at HAP
      obtain ⟨pv, pr⟩ := p
      simp only at HAP
      go_enter Try.func33, Try.ntmps33
      go_wp2_with fail
      refine HE.out.mono ?_
      rintro e w1 ⟨Ab, kb, rfl, ob, b1⟩
      have b01 := bT b0 b1
      have g0 : w1.cell? ⟨w.heap.size, 0, none⟩ = some (.slice A l.length c) := keepb b1 (by go_simp)
      have q : w1.cell? ⟨w.heap.size + 2, 0, none⟩ = some (.slice none 0 0) := keepb b1 (by go_simp)
      have qf : w1.frozen? ⟨w.heap.size + 2, 0, none⟩ = false := by rw [(bcell b1).2 _ _ (by simp)]; go_simp
      have hz1 : w.heap.size + 2 < w1.heap.size := by have := b1.size; simp at this; omega
      have RB := hid (rd_own ob)
      clear ob b1
      go_wp2_with fail
      refine (HRM.out _ (Files.b hr b01)).mono ?_
      rintro e w2 ⟨A2, k2, l2, rfl, hf2, r2, b2⟩
      have bX := bT b2 (bA (Below.refl w2.heap.size w2) (.cells #[.slice A2 gs.length k2] 66))
      have g0 := keepb bX g0
      have q := keepb bX q
      have qf := keepf bX qf hz1
      have hz2 : w.heap.size + 2 < (w2.alloc (.cells #[.slice A2 gs.length k2] 66)).heap.size := Nat.lt_of_lt_of_le hz1 bX.size
      have HB := hid (bT b01 bX)
      have HA2 := hid (HAP.out _ Ab kb (Files.b hr HB.out) (rdb RB.out (by decide) bX))
      clear hf2 r2 b2 bX
      go_wp2_with fail
      refine HA2.out.mono ?_
      rintro e w3 ⟨A3, k3, l3, rfl, hf3, r3, b3⟩
      have q := keepb b3 q
      have qf := keepf b3 qf hz2
      have HF3 := hid hf3
      have HB3 := hid (bT HB.out b3)
      have HR3 := hid r3
      clear hf3 r3 b3 HB
      go_wp2_with fail
      exact bodyPost_ret (v := .tuple #[.agg #[.slice A3 _ k3], .int .i64 _]) (by simp [results, Try.results33, go_sem, *]) rfl ⟨A3, k3, l3, rfl, HF3.out, FGrid.files (OwnGrid.store (a := ⟨w.heap.size + 2, 0, none⟩) HR3.out hz2 _), bS HB3.out (by show w.heap.size ≤ w.heap.size + 2; omega) _⟩
    · rw [putF_cut he h0]
      have HAP := hid (fun (l1 : List MFile) (hf1 : files l1 = (removeF (files l) nextB).1) wd A1 c1 Ab cb (h : Files wd wd.heap.size A1 l1) hb => append_walk l1 nextB bs wd A1 c1 Ab cb h (by rw [← files_length, hf1]; omega) (okm_fit (by rw [hf1]; exact hfit)) hb (by omega))
      generalize removeF (files l) nextB = y at *
      obtain ⟨gs, ry⟩ := y
      simp only at h0 hrl
      subst h0
      clear he hfit
      go_enter Try.func33, Try.ntmps33
      go_wp2_with fail
      refine HE.out.mono ?_
      rintro e w1 ⟨Ab, kb, rfl, ob, b1⟩
      have b01 := bT b0 b1
      have g0 : w1.cell? ⟨w.heap.size, 0, none⟩ = some (.slice A l.length c) := keepb b1 (by go_simp)
      have gf : w1.frozen? ⟨w.heap.size, 0, none⟩ = false := by rw [(bcell b1).2 _ _ (by simp; try omega)]; go_simp
      have q : w1.cell? ⟨w.heap.size + 2, 0, none⟩ = some (.slice none 0 0) := keepb b1 (by go_simp)
      have qf : w1.frozen? ⟨w.heap.size + 2, 0, none⟩ = false := by rw [(bcell b1).2 _ _ (by simp)]; go_simp
      have hz1 : w.heap.size + 2 < w1.heap.size := by have := b1.size; simp at this; omega
      have OB := hid ob
      clear ob b1
      go_wp2_with fail
      refine (HRM.out _ (Files.b hr b01)).mono ?_
      rintro e w2 ⟨A2, k2, l2, rfl, hf2, r2, b2⟩
      have hl2 : l2.length = gs.length := by rw [← files_length, hf2]
      have bY := bA (Below.refl w2.heap.size w2) (.cells #[.slice A2 gs.length k2] 66)
      have bX := bT b2 bY
      have g0 := keepb bX g0
      have gf := keepf bX gf (by show w.heap.size < w1.heap.size; omega)
      have q := keepb bX q
      have qf := keepf bX qf hz1
      have hz2 : w.heap.size + 2 < (w2.alloc (.cells #[.slice A2 gs.length k2] 66)).heap.size := Nat.lt_of_lt_of_le hz1 bX.size
      have HB := hid (bS (bT b01 bX) (p := ⟨w.heap.size, 0, none⟩) (Nat.le_refl _) (.slice A2 gs.length k2))
      have HO := hid (ownsRow_setCell_below (own_below OB.out bX (Nat.le_refl _)) (a := ⟨w.heap.size, 0, none⟩) (by simp; try omega) (.slice A2 gs.length k2))
      have HA2 := hid (HAP.out l2 hf2 _ A2 k2 Ab kb (Files.setFirst (Files.b r2 bY) g0 (.slice A2 gs.length k2)) (rd_own HO.out))
      rw [hl2, hf2] at HA2
      clear hf2 r2 b2 bX bY hl2 HO OB HAP
      go_wp2_with fail
      refine HA2.out.mono ?_
      rintro e w3 ⟨A3, k3, l3, rfl, hf3, r3, b3⟩
      have q := keepb b3 (show World.cell? _ ⟨w.heap.size + 2, 0, none⟩ = some (.slice none 0 0) by go_simp)
      have qf := keepf b3 (show World.frozen? _ ⟨w.heap.size + 2, 0, none⟩ = false by go_simp) (by simpa using hz2)
      have HF3 := hid hf3
      have HB3 := hid (bT HB.out b3)
      have HR3 := hid r3
      clear hf3 r3 b3 HB
      go_wp2_with fail
      exact bodyPost_ret (v := .tuple #[.agg #[.slice A3 _ k3], .int .i64 _]) (by simp [results, Try.results33, go_sem, *]) rfl ⟨A3, k3, l3, rfl, HF3.out, FGrid.files (OwnGrid.store (a := ⟨w.heap.size + 2, 0, none⟩) HR3.out (by simpa using hz2) _), bS HB3.out (by show w.heap.size ≤ w.heap.size + 2; omega) _⟩
end Go.Proofs.Ytphgdpjfolkafaa

/- The document's PutSaved. -/
namespace Go.Proofs.Ytphgdpjfolkafaa
open Go.ChangeShapes Go.WideShapes Go.ChangeAt Go.RowKit
set_option linter.unusedVariables false
set_option linter.unusedSimpArgs false
set_option maxRecDepth 100000 in
set_option maxHeartbeats 8000000 in
theorem putSaved_walk (l : List MFile) (s : Saved) (w : World) (A : Option Addr) (c : Nat) (As Bs : Option Addr) (cs ds : Nat) (hr : Files w w.heap.size A l) (hn : l.length * 48 ≤ 140737488355328) (hm : Okm l) (hv : Rd w w.heap.size As 2 s.vals.length (s.vals.flatMap Val.cells)) (hms : Rd w w.heap.size Bs 2 s.mail.length (s.mail.flatMap Mail.cells)) :
    Calls Try.prog 34 #[.agg #[.slice A l.length c], .agg (svC s As cs Bs ds)] w (RetD w (putF (files l) (encV s)).1 (putF (files l) (encV s)).2) := by
  have b0 := bA (bA (bA (Below.refl w.heap.size w) (.cells #[.slice A l.length c] 66)) (.cells (svC s As cs Bs ds) 36)) (.cells #[.slice none 0 0] 66)
  have HE := hid (savedBytes_walk s _ As Bs cs ds (rdb hv (by decide) b0) (rdb hms (by decide) b0))
  have hzl := encV_len s
  have hfit := removeF_fit (fitF_of hm) nextB
  have hrl := removeF_len (files l) nextB
  rw [files_length] at hrl
  generalize encV s = z at *
  obtain ⟨bs, r⟩ := z
  obtain ⟨st, ph, fr, vs, ms⟩ := s
  unfold svC at *
  simp only at *
  by_cases he : r ≠ 0
  · rw [putF_err (z := (bs, r)) he]
    have hrb : (r != 0) = true := by simpa using he
    go_enter Try.func34, Try.ntmps34
    go_wp2_with fail
    refine HE.out.mono ?_
    rintro e w1 ⟨Ab, kb, rfl, ob, b1⟩
    have q : w1.cell? ⟨w.heap.size + 2, 0, none⟩ = some (.slice none 0 0) := keepb b1 (by go_simp)
    have qf : ∀ o, w1.frozen? ⟨w.heap.size + 2, o, none⟩ = false := fun o => by rw [(bcell b1).2 _ _ (by simp)]; go_simp
    clear ob
    go_wp2_with fail
    exact bodyPost_ret (v := .tuple #[.agg #[.slice none 0 0], .int .i64 r]) (by simp [results, Try.results34, go_sem, *]) rfl (retD_bad _ _ _ (bS (bT b0 b1) (by show w.heap.size ≤ w.heap.size + 2; omega) _))
  · have hr0 : r = 0 := by simpa using he
    subst hr0
    have HDM := hid (fun wd h => DiskMay_walk l wd A c h (by omega))
    have HFA := hid (fun wd h => FileAt_walk l nextB wd A c h (by omega))
    have HRM := hid (fun wd (h : Files wd wd.heap.size A l) => removed_walk l nextB wd A c h hn hm)
    cases hok : okB l with
    | false =>
      rw [putF_bad he (by rw [removeF_bad hok])]
      rw [hok] at HDM
      clear he hfit hrl hok
      go_enter Try.func34, Try.ntmps34
      go_wp2_with fail
      refine HE.out.mono ?_
      rintro e w1 ⟨Ab, kb, rfl, ob, b1⟩
      have b01 := bT b0 b1
      have g0 : w1.cell? ⟨w.heap.size, 0, none⟩ = some (.slice A l.length c) := keepb b1 (by go_simp)
      have q : w1.cell? ⟨w.heap.size + 2, 0, none⟩ = some (.slice none 0 0) := keepb b1 (by go_simp)
      have qf : w1.frozen? ⟨w.heap.size + 2, 0, none⟩ = false := by rw [(bcell b1).2 _ _ (by simp)]; go_simp
      have hz1 : w.heap.size + 2 < w1.heap.size := by have := b1.size; simp at this; omega
      clear ob b1
      go_wp2_with fail
      refine (HDM.out _ (rdb hr.1 (by decide) b01)).mono ?_
      rintro e w2 ⟨rfl, b2⟩
      have q := keepb b2 q
      have qf := keepf b2 qf hz1
      go_wp2_with fail
      exact bodyPost_ret (v := .tuple #[.agg #[.slice none 0 0], .int .i64 9]) (by simp [results, Try.results34, go_sem, *]) rfl (retD_bad _ _ _ (bS (bT b01 b2) (by show w.heap.size ≤ w.heap.size + 2; omega) _))
    | true =>
      rw [hok] at HDM
      cases hk : l.findIdx? (named nextB) with
      | none =>
        rw [putF_new he (by rw [removeF_none hok hk])]
        rw [hk] at HFA
        have hat : ¬ (0 ≤ (atI none : Int)) := by decide
        clear he hfit hrl hok hk
        have HAP := hid (fun wd Ab cb (h : Files wd wd.heap.size A l) hb => appended_walk l nextB bs wd A c Ab cb h hn hm hb (by omega))
        go_enter Try.func34, Try.ntmps34
        go_wp2_with fail
        refine HE.out.mono ?_
        rintro e w1 ⟨Ab, kb, rfl, ob, b1⟩
        have b01 := bT b0 b1
        have g0 : w1.cell? ⟨w.heap.size, 0, none⟩ = some (.slice A l.length c) := keepb b1 (by go_simp)
        have q : w1.cell? ⟨w.heap.size + 2, 0, none⟩ = some (.slice none 0 0) := keepb b1 (by go_simp)
        have qf : w1.frozen? ⟨w.heap.size + 2, 0, none⟩ = false := by rw [(bcell b1).2 _ _ (by simp)]; go_simp
        have hz1 : w.heap.size + 2 < w1.heap.size := by have := b1.size; simp at this; omega
        have RB := hid (rd_own ob)
        clear ob b1
        go_wp2_with fail
        refine (HDM.out _ (rdb hr.1 (by decide) b01)).mono ?_
        rintro e w2 ⟨rfl, b2⟩
        have g0 := keepb b2 g0
        go_wp2_with fail
        refine (HFA.out _ (rdb hr.1 (by decide) (bT b01 b2))).mono ?_
        rintro e w3 ⟨rfl, b3⟩
        have g0 := keepb b3 g0
        have b13 := bT b2 b3
        have q := keepb b13 q
        have qf := keepf b13 qf hz1
        have hz2 : w.heap.size + 2 < w3.heap.size := Nat.lt_of_lt_of_le hz1 b13.size
        have HB := hid (bT b01 b13)
        have HA2 := hid (HAP.out _ Ab kb (Files.b hr HB.out) (rdb RB.out (by decide) b13))
        clear b2 b3 b13
        go_wp2_with fail
        refine HA2.out.mono ?_
        rintro e w4 ⟨A3, k3, l3, rfl, hf3, r3, b3⟩
        have q := keepb b3 q
        have qf := keepf b3 qf hz2
        have hz4 : w.heap.size + 2 < w4.heap.size := Nat.lt_of_lt_of_le hz2 b3.size
        have HF3 := hid hf3
        have HB3 := hid (bT HB.out b3)
        have HR3 := hid r3
        clear hf3 r3 b3 HB
        go_wp2_with fail
        exact bodyPost_ret (v := .tuple #[.agg #[.slice A3 _ k3], .int .i64 _]) (by simp [results, Try.results34, go_sem, *]) rfl ⟨A3, k3, l3, rfl, HF3.out, FGrid.files (OwnGrid.alloc (OwnGrid.store (a := ⟨w.heap.size + 2, 0, none⟩) HR3.out hz2 _) _), bA (bS HB3.out (by show w.heap.size ≤ w.heap.size + 2; omega) _) _⟩
      | some k =>
        rw [putF_cut he (by rw [removeF_some hok hk])]
        rw [hk] at HFA
        have hat : 0 ≤ (atI (some k) : Int) := by show (0 : Int) ≤ (k : Int); omega
        have HAP := hid (fun (l1 : List MFile) (hf1 : files l1 = (removeF (files l) nextB).1) wd A1 c1 Ab cb (h : Files wd wd.heap.size A1 l1) hb => appended_walk l1 nextB bs wd A1 c1 Ab cb h (by rw [← files_length, hf1]; omega) (okm_fit (by rw [hf1]; exact hfit)) hb (by omega))
        clear he hfit hok hk
        generalize removeF (files l) nextB = y at *
        obtain ⟨gs, ry⟩ := y
        simp only at hrl
        go_enter Try.func34, Try.ntmps34
        go_wp2_with fail
        refine HE.out.mono ?_
        rintro e w1 ⟨Ab, kb, rfl, ob, b1⟩
        have b01 := bT b0 b1
        have g0 : w1.cell? ⟨w.heap.size, 0, none⟩ = some (.slice A l.length c) := keepb b1 (by go_simp)
        have gf : w1.frozen? ⟨w.heap.size, 0, none⟩ = false := by rw [(bcell b1).2 _ _ (by simp; try omega)]; go_simp
        have q : w1.cell? ⟨w.heap.size + 2, 0, none⟩ = some (.slice none 0 0) := keepb b1 (by go_simp)
        have qf : w1.frozen? ⟨w.heap.size + 2, 0, none⟩ = false := by rw [(bcell b1).2 _ _ (by simp)]; go_simp
        have hz1 : w.heap.size + 2 < w1.heap.size := by have := b1.size; simp at this; omega
        have OB := hid ob
        clear ob b1
        go_wp2_with fail
        refine (HDM.out _ (rdb hr.1 (by decide) b01)).mono ?_
        rintro e w2 ⟨rfl, b2⟩
        have g0 := keepb b2 g0
        go_wp2_with fail
        refine (HFA.out _ (rdb hr.1 (by decide) (bT b01 b2))).mono ?_
        rintro e w3 ⟨rfl, b3⟩
        have g0 := keepb b3 g0
        have b13 := bT b2 b3
        go_wp2_with fail
        refine (HRM.out _ (Files.b hr (bT b01 b13))).mono ?_
        rintro e w4 ⟨A2, k2, l2, rfl, hf2, r2, b4⟩
        have hl2 : l2.length = gs.length := by rw [← files_length, hf2]
        have bX := bT b13 b4
        have g0 := keepb b4 g0
        have gf := keepf bX gf (by show w.heap.size < w1.heap.size; omega)
        have q := keepb bX q
        have qf := keepf bX qf hz1
        have hz2 : w.heap.size + 2 < w4.heap.size := Nat.lt_of_lt_of_le hz1 bX.size
        have HB := hid (bS (bT b01 bX) (p := ⟨w.heap.size, 0, none⟩) (Nat.le_refl _) (.slice A2 gs.length k2))
        have HO := hid (ownsRow_setCell_below (own_below OB.out bX (Nat.le_refl _)) (a := ⟨w.heap.size, 0, none⟩) (by simp; try omega) (.slice A2 gs.length k2))
        have HA2 := hid (HAP.out l2 hf2 _ A2 k2 Ab kb (Files.setFirst r2 g0 (.slice A2 gs.length k2)) (rd_own HO.out))
        rw [hl2, hf2] at HA2
        clear hf2 r2 b2 b3 b4 b13 bX hl2 HO OB HAP
        go_wp2_with fail
        refine HA2.out.mono ?_
        rintro e w5 ⟨A3, k3, l3, rfl, hf3, r3, b3⟩
        have q := keepb b3 (show World.cell? _ ⟨w.heap.size + 2, 0, none⟩ = some (.slice none 0 0) by go_simp)
        have qf := keepf b3 (show World.frozen? _ ⟨w.heap.size + 2, 0, none⟩ = false by go_simp) (by simpa using hz2)
        have hz5 : w.heap.size + 2 < w5.heap.size := Nat.lt_of_lt_of_le (by simpa using hz2) b3.size
        have HF3 := hid hf3
        have HB3 := hid (bT HB.out b3)
        have HR3 := hid r3
        clear hf3 r3 b3 HB
        go_wp2_with fail
        exact bodyPost_ret (v := .tuple #[.agg #[.slice A3 _ k3], .int .i64 _]) (by simp [results, Try.results34, go_sem, *]) rfl ⟨A3, k3, l3, rfl, HF3.out, FGrid.files (OwnGrid.alloc (OwnGrid.store (a := ⟨w.heap.size + 2, 0, none⟩) HR3.out (by simpa using hz2) _) _), bA (bS HB3.out (by show w.heap.size ≤ w.heap.size + 2; omega) _) _⟩
end Go.Proofs.Ytphgdpjfolkafaa

/- The statement on ckpt.Put. -/
namespace Go.Proofs.Ytphgdpjfolkafaa
open Go.ChangeShapes Go.WideShapes Go.ChangeAt Go.RowKit
set_option linter.unusedVariables false
set_option linter.unusedSimpArgs false
def LcpCut (v : List File) (r : Int) (w1 W : World) (s8 s9 : Value) (wx : World) : Prop :=
  ∃ (P : Nat) (A2 : Option Addr) (k2 : Nat) (l2 : List MFile), s8 = .pointer (some ⟨P, 0, none⟩) ∧ s9 = .int .i64 r ∧ Hid (files l2 = v) ∧ Files wx wx.heap.size A2 l2 ∧ wx.cell? ⟨P, 0, none⟩ = some (.slice A2 v.length k2) ∧ P < wx.heap.size ∧ Below W.heap.size W wx
set_option maxRecDepth 100000 in
set_option maxHeartbeats 4000000 in
theorem law_CkptPuts (w : World) (l : List MFile) (A : Option Addr) (c : Nat) (hf : Flat w w.heap.size 48 3 MFile.cells A c l) (hw : ∀ x ∈ l, x.wf w) (s : Saved) (As : Option Addr) (cs : Nat) (Bs : Option Addr) (ds : Nat) (hss : I64 s.step) (hsp : I64 s.phase) (hfv : Flat w w.heap.size 16 2 Val.cells As cs s.vals) (hwv : ∀ x ∈ s.vals, x.wf) (hfm : Flat w w.heap.size 16 2 Mail.cells Bs ds s.mail) (hwm : ∀ x ∈ s.mail, x.wf) :
    Calls Try.prog 9 #[.agg #[.slice A l.length c], .agg #[.int .i64 s.step, .int .i64 s.phase, .bool s.fresh, .slice As s.vals.length cs, .slice Bs s.mail.length ds]] w fun e w' => e = .returned (.bool true) ∧ Below w.heap.size w w' := by
  have hF := files_of hf hw
  have hm := okm_wf hw
  obtain ⟨f1, f2, f3, f4⟩ := hf
  obtain ⟨g1, g2, g3, g4⟩ := hfv
  obtain ⟨h1, h2, h3, h4⟩ := hfm
  have hn : l.length * 48 ≤ 140737488355328 := by omega
  have hvn : s.vals.length * 16 ≤ 140737488355328 := by omega
  have hmn : s.mail.length * 16 ≤ 140737488355328 := by omega
  have hlen := putF_len (files l) (encV s)
  have b0 : Below w.heap.size w ((w.alloc (.cells #[.slice A l.length c] 66)).alloc (.cells (svC s As cs Bs ds) 36)) := bA (bA (Below.refl _ _) _) _
  have HC := hid (disks_walk l _ A c (Files.b hF b0) hn hm.1)
  have HCS := hid (fun (V : World) (hV : Below w.heap.size w V) => saveds_copy s V As Bs cs ds (rdb g4 (by decide) hV) (rdb h4 (by decide) hV) hvn hmn)
  have HPD := hid (fun l1 V A1 k1 As' Bs' cs' ds' a b d e f => put_disk_walk l1 s V A1 k1 As' Bs' cs' ds' a b d e f)
  have HPS := hid (fun V a e f => putSaved_walk l s V A c As Bs cs ds a hn hm e f)
  generalize encV s = E at *
  clear hw f1 f2 f3 f4 g1 g2 g3 h1 h2 h3 hwv hwm hss hsp hvn hmn
  obtain ⟨st, ph, fr, vs, ms⟩ := s
  unfold svC at *
  simp only at *
  go_enter Try.func9, Try.ntmps9
  go_wp2_with fail
  refine HC.out.mono ?_
  rintro e w1 ⟨A1, k1, l1, rfl, hf1, hl1, hown, b1⟩
  have b01 := bT b0 b1
  have hF1 : Files w1 w1.heap.size A1 l1 := hown
  have j0 : w1.cell? ⟨w.heap.size, 0, none⟩ = some (.slice A l.length c) := keepb b1 (by go_simp)
  have p0 : w1.cell? ⟨w.heap.size + 1, 0, none⟩ = some (.int .i64 st) := keepb b1 (by go_simp)
  have p1 : w1.cell? ⟨w.heap.size + 1, 1, none⟩ = some (.int .i64 ph) := keepb b1 (by go_simp)
  have p2 : w1.cell? ⟨w.heap.size + 1, 2, none⟩ = some (.bool fr) := keepb b1 (by go_simp)
  have p3 : w1.cell? ⟨w.heap.size + 1, 3, none⟩ = some (.slice As vs.length cs) := keepb b1 (by go_simp)
  have p4 : w1.cell? ⟨w.heap.size + 1, 4, none⟩ = some (.slice Bs ms.length ds) := keepb b1 (by go_simp)
  have hz1 : w.heap.size + 1 < w1.heap.size := by have := b1.size; simp at this; omega
  have hm1 := okm_of hf1 hm
  have bX := bA (Below.refl w1.heap.size w1) (.cells #[.slice A1 l.length k1] 66)
  have HR := hid (fun V (hV : Below w1.heap.size w1 V) Av Am kv km rv rm => HPD.out l1 V A1 k1 Av Am kv km (Files.b hF1 hV) (by rw [hl1]; exact hn) hm1 rv rm)
  rw [hf1, hl1] at HR
  generalize putF (files l) E = z at HR HPS hlen
  obtain ⟨v, r⟩ := z
  simp only [files_length] at hlen
  have HF1 := hid hf1
  have HL1 := hid hl1
  clear hf1 hl1 hown hm1 HPD HC
  have g0 : (w1.alloc (.cells #[.slice A1 l.length k1] 66)).cell? ⟨w1.heap.size, 0, none⟩ = some (.slice A1 l.length k1) := by go_simp
  have j0 := keepb bX j0
  have p0 := keepb bX p0
  have p1 := keepb bX p1
  have p2 := keepb bX p2
  have p3 := keepb bX p3
  have p4 := keepb bX p4
  have HX1 := hid (fun (V : World) (hV : Below (w1.alloc (.cells #[.slice A1 l.length k1] 66)).heap.size (w1.alloc (.cells #[.slice A1 l.length k1] 66)) V) => bT bX hV)
  have HO := hid (fun (V : World) (hV : Below (w1.alloc (.cells #[.slice A1 l.length k1] 66)).heap.size (w1.alloc (.cells #[.slice A1 l.length k1] 66)) V) => HCS.out V (bT b01 (bT bX hV)))
  have HA := hid (fun (V : World) Av Am kv km (hV : Below (w1.alloc (.cells #[.slice A1 l.length k1] 66)).heap.size (w1.alloc (.cells #[.slice A1 l.length k1] 66)) V) rv rm => HR.out V (bT bX hV) Av Am kv km rv rm)
  have HK : Hid (∀ V, Below (w1.alloc (.cells #[.slice A1 l.length k1] 66)).heap.size (w1.alloc (.cells #[.slice A1 l.length k1] 66)) V → ((fun V => Below (w1.alloc (.cells #[.slice A1 l.length k1] 66)).heap.size (w1.alloc (.cells #[.slice A1 l.length k1] 66)) V ∧ V.cell? ⟨w1.heap.size, 0, none⟩ = some (.slice A1 l.length k1) ∧ V.cell? ⟨w.heap.size + 1, 0, none⟩ = some (.int .i64 st) ∧ V.cell? ⟨w.heap.size + 1, 1, none⟩ = some (.int .i64 ph) ∧ V.cell? ⟨w.heap.size + 1, 2, none⟩ = some (.bool fr) ∧ V.cell? ⟨w.heap.size + 1, 3, none⟩ = some (.slice As vs.length cs) ∧ V.cell? ⟨w.heap.size + 1, 4, none⟩ = some (.slice Bs ms.length ds)) : World → Prop) V) := hid fun V hV => ⟨hV, keepb hV g0, keepb hV p0, keepb hV p1, keepb hV p2, keepb hV p3, keepb hV p4⟩
  unfold RetD at HA HPS
  go_upto_region 2 with fail
  go_cut [6, 7] (fun s8 s9 wx => LcpCut v r w1 (w1.alloc (.cells #[.slice A1 l.length k1] 66)) s8 s9 wx)
  case first =>
    refine wp_region_F (S := (fun V => Below (w1.alloc (.cells #[.slice A1 l.length k1] 66)).heap.size (w1.alloc (.cells #[.slice A1 l.length k1] 66)) V ∧ V.cell? ⟨w1.heap.size, 0, none⟩ = some (.slice A1 l.length k1) ∧ V.cell? ⟨w.heap.size + 1, 0, none⟩ = some (.int .i64 st) ∧ V.cell? ⟨w.heap.size + 1, 1, none⟩ = some (.int .i64 ph) ∧ V.cell? ⟨w.heap.size + 1, 2, none⟩ = some (.bool fr) ∧ V.cell? ⟨w.heap.size + 1, 3, none⟩ = some (.slice As vs.length cs) ∧ V.cell? ⟨w.heap.size + 1, 4, none⟩ = some (.slice Bs ms.length ds))) [] (by kernel_rfl) (HK.out _ (bD (Below.refl _ _))) (fun hHeld => ?_)
    refine wpAnyF_take [3, 4, 5, 6, 8, 9] (i := 0) (v := ?vg1_1_0) rfl (by kernel_rfl) (by kernel_rfl) (by kernel_rfl) (by kernel_rfl) (fun _ _ _ h => h) (Or.inl ⟨by rfl, ?hyg1_1_0⟩) (by assumption) ?restg1_1_0
    case hyg1_1_0 => (intro w hSw; (try dsimp only at hSw); go_simp; (all_goals with_reducible rfl))
    try simp only [Act.put, List.setIfInBounds_toArray, List.set_cons_zero, List.set_cons_succ, List.getElem_toArray, List.getElem_cons_succ, List.getElem_cons_zero]
    refine wpAnyF_take [2, 3, 4, 5, 6, 8, 9] (i := 1) (v := ?vg1_2_1) rfl (by kernel_rfl) (by kernel_rfl) (by kernel_rfl) (by kernel_rfl) (fun _ _ _ h => h) (Or.inl ⟨by rfl, ?hyg1_2_1⟩) (by assumption) ?restg1_2_1
    case hyg1_2_1 => (intro w hSw; (try dsimp only at hSw); go_simp; (all_goals with_reducible rfl))
    try simp only [Act.put, List.setIfInBounds_toArray, List.set_cons_zero, List.set_cons_succ, List.getElem_toArray, List.getElem_cons_succ, List.getElem_cons_zero]
    refine wpAnyF_ready (rs := [2, 7]) (by kernel_rfl) (by simp) ?_
    refine AllReadyF.cons rfl (fun K hK => ?_) ?_
    · go_simp
      go_at_call 16
      refine (HO.out _ hHeld.1).mono ?_
      rintro e w2 ⟨Av, kv, Am, km, rfl, rv, rm, bo⟩
      go_wp2_with fail
      refine hK.out _ _ (HK.out _ (bT hHeld.1 bo)) (fun hHeld => ?_)
      clear hK K
      try simp only [Act.put, List.setIfInBounds_toArray, List.set_cons_zero, List.set_cons_succ, List.getElem_toArray, List.getElem_cons_succ, List.getElem_cons_zero]
      refine wpAnyF_ready (rs := [3, 7]) (by kernel_rfl) (by simp) ?_
      refine AllReadyF.cons rfl (fun K hK => ?_) ?_
      · go_simp
        go_at_call 33
        refine (HA.out _ Av Am kv km hHeld.1 (Rd.any rv (by decide)) (Rd.any rm (by decide))).mono ?_
        rintro e w3 ⟨A2, k2, l2, rfl, hf2, r2, b2⟩
        have HF2 := hid hf2
        clear hf2
        go_wp2_with fail
        refine hK.out _ _ (HK.out _ (bT hHeld.1 b2)) (fun hHeld => ?_)
        clear hK K
        try simp only [Act.put, List.setIfInBounds_toArray, List.set_cons_zero, List.set_cons_succ, List.getElem_toArray, List.getElem_cons_succ, List.getElem_cons_zero]
        refine wpAnyF_pure (i := 4) (v := ?vg1_5_4) rfl (by kernel_rfl) (by kernel_rfl) (by kernel_rfl) (fun _ _ _ h => h) (Or.inl ⟨by rfl, ?hyg1_5_4⟩) ?restg1_5_4
        case hyg1_5_4 => (intro w hSw; clear hSw; go_simp; (all_goals with_reducible rfl))
        try simp only [Act.put, List.setIfInBounds_toArray, List.set_cons_zero, List.set_cons_succ, List.getElem_toArray, List.getElem_cons_succ, List.getElem_cons_zero]
        refine wpAnyF_pure (i := 5) (v := ?vg1_6_5) rfl (by kernel_rfl) (by kernel_rfl) (by kernel_rfl) (fun _ _ _ h => h) (Or.inl ⟨by rfl, ?hyg1_6_5⟩) ?restg1_6_5
        case hyg1_6_5 => (intro w hSw; clear hSw; go_simp; (all_goals with_reducible rfl))
        try simp only [Act.put, List.setIfInBounds_toArray, List.set_cons_zero, List.set_cons_succ, List.getElem_toArray, List.getElem_cons_succ, List.getElem_cons_zero]
        refine wpAnyF_pure (i := 6) (v := ?vg1_7_6) rfl (by kernel_rfl) (by kernel_rfl) (by kernel_rfl) (fun _ _ _ h => h) (Or.inl ⟨by rfl, ?hyg1_7_6⟩) ?restg1_7_6
        case hyg1_7_6 => (intro w hSw; clear hSw; go_simp; (all_goals with_reducible rfl))
        try simp only [Act.put, List.setIfInBounds_toArray, List.set_cons_zero, List.set_cons_succ, List.getElem_toArray, List.getElem_cons_succ, List.getElem_cons_zero]
        refine wpAnyF_one (i := 7) (by kernel_rfl) rfl (fun K hK => ?_)
        go_simp
        have B8 : Below (w1.alloc (.cells #[.slice A1 l.length k1] 66)).heap.size (w1.alloc (.cells #[.slice A1 l.length k1] 66)) (w3.alloc (.cells #[.slice none 0 0] 66)) := bA hHeld.1 (.cells #[.slice none 0 0] 66)
        have c8 : (w3.alloc (.cells #[.slice none 0 0] 66)).cell? ⟨w3.heap.size, 0, none⟩ = some (.slice none 0 0) := by go_simp
        have f8 : (w3.alloc (.cells #[.slice none 0 0] 66)).frozen? ⟨w3.heap.size, 0, none⟩ = false := by go_simp
        have h8 : w3.heap.size < (w3.alloc (.cells #[.slice none 0 0] 66)).heap.size := by simp
        have n8 : (w1.alloc (.cells #[.slice A1 l.length k1] 66)).heap.size ≤ w3.heap.size := hHeld.1.size
        have B38 := bA (Below.refl w3.heap.size w3) (.cells #[.slice none 0 0] 66)
        generalize w3.alloc (.cells #[.slice none 0 0] 66) = w8 at *
        refine hK.out _ _ (HK.out _ B8) (fun hHeld => ?_)
        clear hK K
        try simp only [Act.put, List.setIfInBounds_toArray, List.set_cons_zero, List.set_cons_succ, List.getElem_toArray, List.getElem_cons_succ, List.getElem_cons_zero]
        refine wpAnyF_one (i := 8) (by kernel_rfl) rfl (fun K hK => ?_)
        go_simp
        refine hK.out _ _ (HK.out _ (bS hHeld.1 n8 _)) (fun hHeld => ?_)
        clear hK K
        try simp only [Act.put, List.setIfInBounds_toArray, List.set_cons_zero, List.set_cons_succ, List.getElem_toArray, List.getElem_cons_succ, List.getElem_cons_zero]
        refine wpAnyF_pure (i := 9) (v := ?vg1_10_9) rfl (by kernel_rfl) (by kernel_rfl) (by kernel_rfl) (fun _ _ _ h => h) (Or.inl ⟨by rfl, ?hyg1_10_9⟩) ?restg1_10_9
        case hyg1_10_9 => (intro w hSw; clear hSw; go_simp; (all_goals with_reducible rfl))
        try simp only [Act.put, List.setIfInBounds_toArray, List.set_cons_zero, List.set_cons_succ, List.getElem_toArray, List.getElem_cons_succ, List.getElem_cons_zero]
        refine wpAnyF_done (by kernel_rfl) ?_ _
        go_wp2_with fail
        go_meet
        exact ⟨w3.heap.size, A2, k2, l2, rfl, rfl, HF2, Files.b r2 (bS (p := ⟨w3.heap.size, 0, none⟩) B38 (Nat.le_refl _) _), World.cell?_setCell_same _ _ _ c8, (by simpa using h8), hHeld.1⟩
      refine AllReadyF.cons rfl (fun K hK => ?_) AllReadyF.nil
      go_simp
      have B8 : Below (w1.alloc (.cells #[.slice A1 l.length k1] 66)).heap.size (w1.alloc (.cells #[.slice A1 l.length k1] 66)) (w2.alloc (.cells #[.slice none 0 0] 66)) := bA hHeld.1 (.cells #[.slice none 0 0] 66)
      have c8 : (w2.alloc (.cells #[.slice none 0 0] 66)).cell? ⟨w2.heap.size, 0, none⟩ = some (.slice none 0 0) := by go_simp
      have f8 : (w2.alloc (.cells #[.slice none 0 0] 66)).frozen? ⟨w2.heap.size, 0, none⟩ = false := by go_simp
      have h8 : w2.heap.size < (w2.alloc (.cells #[.slice none 0 0] 66)).heap.size := by simp
      have n8 : (w1.alloc (.cells #[.slice A1 l.length k1] 66)).heap.size ≤ w2.heap.size := hHeld.1.size
      have rv := Rd.below rv (bA (Below.refl w2.heap.size w2) (.cells #[.slice none 0 0] 66))
      have rm := Rd.below rm (bA (Below.refl w2.heap.size w2) (.cells #[.slice none 0 0] 66))
      generalize w2.alloc (.cells #[.slice none 0 0] 66) = w8 at *
      refine hK.out _ _ (HK.out _ B8) (fun hHeld => ?_)
      clear hK K
      try simp only [Act.put, List.setIfInBounds_toArray, List.set_cons_zero, List.set_cons_succ, List.getElem_toArray, List.getElem_cons_succ, List.getElem_cons_zero]
      refine wpAnyF_one (i := 3) (by kernel_rfl) rfl (fun K hK => ?_)
      go_simp
      go_at_call 33
      refine (HA.out _ Av Am kv km hHeld.1 (Rd.any rv (by decide)) (Rd.any rm (by decide))).mono ?_
      rintro e w3 ⟨A2, k2, l2, rfl, hf2, r2, b2⟩
      have HF2 := hid hf2
      clear hf2
      have c8 := keepb b2 c8
      have f8 := keepf b2 f8 h8
      have h8 := Nat.lt_of_lt_of_le h8 b2.size
      go_wp2_with fail
      refine hK.out _ _ (HK.out _ (bT hHeld.1 b2)) (fun hHeld => ?_)
      clear hK K
      try simp only [Act.put, List.setIfInBounds_toArray, List.set_cons_zero, List.set_cons_succ, List.getElem_toArray, List.getElem_cons_succ, List.getElem_cons_zero]
      refine wpAnyF_pure (i := 4) (v := ?vg1_12_4) rfl (by kernel_rfl) (by kernel_rfl) (by kernel_rfl) (fun _ _ _ h => h) (Or.inl ⟨by rfl, ?hyg1_12_4⟩) ?restg1_12_4
      case hyg1_12_4 => (intro w hSw; clear hSw; go_simp; (all_goals with_reducible rfl))
      try simp only [Act.put, List.setIfInBounds_toArray, List.set_cons_zero, List.set_cons_succ, List.getElem_toArray, List.getElem_cons_succ, List.getElem_cons_zero]
      refine wpAnyF_pure (i := 5) (v := ?vg1_13_5) rfl (by kernel_rfl) (by kernel_rfl) (by kernel_rfl) (fun _ _ _ h => h) (Or.inl ⟨by rfl, ?hyg1_13_5⟩) ?restg1_13_5
      case hyg1_13_5 => (intro w hSw; clear hSw; go_simp; (all_goals with_reducible rfl))
      try simp only [Act.put, List.setIfInBounds_toArray, List.set_cons_zero, List.set_cons_succ, List.getElem_toArray, List.getElem_cons_succ, List.getElem_cons_zero]
      refine wpAnyF_pure (i := 6) (v := ?vg1_14_6) rfl (by kernel_rfl) (by kernel_rfl) (by kernel_rfl) (fun _ _ _ h => h) (Or.inl ⟨by rfl, ?hyg1_14_6⟩) ?restg1_14_6
      case hyg1_14_6 => (intro w hSw; clear hSw; go_simp; (all_goals with_reducible rfl))
      try simp only [Act.put, List.setIfInBounds_toArray, List.set_cons_zero, List.set_cons_succ, List.getElem_toArray, List.getElem_cons_succ, List.getElem_cons_zero]
      refine wpAnyF_one (i := 8) (by kernel_rfl) rfl (fun K hK => ?_)
      go_simp
      refine hK.out _ _ (HK.out _ (bS hHeld.1 n8 _)) (fun hHeld => ?_)
      clear hK K
      try simp only [Act.put, List.setIfInBounds_toArray, List.set_cons_zero, List.set_cons_succ, List.getElem_toArray, List.getElem_cons_succ, List.getElem_cons_zero]
      refine wpAnyF_pure (i := 9) (v := ?vg1_16_9) rfl (by kernel_rfl) (by kernel_rfl) (by kernel_rfl) (fun _ _ _ h => h) (Or.inl ⟨by rfl, ?hyg1_16_9⟩) ?restg1_16_9
      case hyg1_16_9 => (intro w hSw; clear hSw; go_simp; (all_goals with_reducible rfl))
      try simp only [Act.put, List.setIfInBounds_toArray, List.set_cons_zero, List.set_cons_succ, List.getElem_toArray, List.getElem_cons_succ, List.getElem_cons_zero]
      refine wpAnyF_done (by kernel_rfl) ?_ _
      go_wp2_with fail
      go_meet
      exact ⟨w2.heap.size, A2, k2, l2, rfl, rfl, HF2, Files.setFirst r2 c8 _, World.cell?_setCell_same _ _ _ c8, (by simpa using h8), hHeld.1⟩
    refine AllReadyF.cons rfl (fun K hK => ?_) AllReadyF.nil
    go_simp
    have B8 : Below (w1.alloc (.cells #[.slice A1 l.length k1] 66)).heap.size (w1.alloc (.cells #[.slice A1 l.length k1] 66)) (((w1.alloc (.cells #[.slice A1 l.length k1] 66)).alloc (.cells #[.slice none 0 0] 66)).drew) := bD (bA (Below.refl _ _) (.cells #[.slice none 0 0] 66))
    have c8 : (((w1.alloc (.cells #[.slice A1 l.length k1] 66)).alloc (.cells #[.slice none 0 0] 66)).drew).cell? ⟨(w1.heap.size + 1), 0, none⟩ = some (.slice none 0 0) := by go_simp
    have f8 : (((w1.alloc (.cells #[.slice A1 l.length k1] 66)).alloc (.cells #[.slice none 0 0] 66)).drew).frozen? ⟨(w1.heap.size + 1), 0, none⟩ = false := by go_simp
    have h8 : (w1.heap.size + 1) < (((w1.alloc (.cells #[.slice A1 l.length k1] 66)).alloc (.cells #[.slice none 0 0] 66)).drew).heap.size := by simp
    have n8 : (w1.alloc (.cells #[.slice A1 l.length k1] 66)).heap.size ≤ (w1.heap.size + 1) := by simp
    generalize ((w1.alloc (.cells #[.slice A1 l.length k1] 66)).alloc (.cells #[.slice none 0 0] 66)).drew = w8 at *
    refine hK.out _ _ (HK.out _ B8) (fun hHeld => ?_)
    clear hK K
    try simp only [Act.put, List.setIfInBounds_toArray, List.set_cons_zero, List.set_cons_succ, List.getElem_toArray, List.getElem_cons_succ, List.getElem_cons_zero]
    refine wpAnyF_one (i := 2) (by kernel_rfl) rfl (fun K hK => ?_)
    go_simp
    go_at_call 16
    refine (HO.out _ hHeld.1).mono ?_
    rintro e w2 ⟨Av, kv, Am, km, rfl, rv, rm, bo⟩
    have c8 := keepb bo c8
    have f8 := keepf bo f8 h8
    have h8 := Nat.lt_of_lt_of_le h8 bo.size
    go_wp2_with fail
    refine hK.out _ _ (HK.out _ (bT hHeld.1 bo)) (fun hHeld => ?_)
    clear hK K
    try simp only [Act.put, List.setIfInBounds_toArray, List.set_cons_zero, List.set_cons_succ, List.getElem_toArray, List.getElem_cons_succ, List.getElem_cons_zero]
    refine wpAnyF_one (i := 3) (by kernel_rfl) rfl (fun K hK => ?_)
    go_simp
    go_at_call 33
    refine (HA.out _ Av Am kv km hHeld.1 (Rd.any rv (by decide)) (Rd.any rm (by decide))).mono ?_
    rintro e w3 ⟨A2, k2, l2, rfl, hf2, r2, b2⟩
    have HF2 := hid hf2
    clear hf2
    have c8 := keepb b2 c8
    have f8 := keepf b2 f8 h8
    have h8 := Nat.lt_of_lt_of_le h8 b2.size
    go_wp2_with fail
    refine hK.out _ _ (HK.out _ (bT hHeld.1 b2)) (fun hHeld => ?_)
    clear hK K
    try simp only [Act.put, List.setIfInBounds_toArray, List.set_cons_zero, List.set_cons_succ, List.getElem_toArray, List.getElem_cons_succ, List.getElem_cons_zero]
    refine wpAnyF_pure (i := 4) (v := ?vg1_19_4) rfl (by kernel_rfl) (by kernel_rfl) (by kernel_rfl) (fun _ _ _ h => h) (Or.inl ⟨by rfl, ?hyg1_19_4⟩) ?restg1_19_4
    case hyg1_19_4 => (intro w hSw; clear hSw; go_simp; (all_goals with_reducible rfl))
    try simp only [Act.put, List.setIfInBounds_toArray, List.set_cons_zero, List.set_cons_succ, List.getElem_toArray, List.getElem_cons_succ, List.getElem_cons_zero]
    refine wpAnyF_pure (i := 5) (v := ?vg1_20_5) rfl (by kernel_rfl) (by kernel_rfl) (by kernel_rfl) (fun _ _ _ h => h) (Or.inl ⟨by rfl, ?hyg1_20_5⟩) ?restg1_20_5
    case hyg1_20_5 => (intro w hSw; clear hSw; go_simp; (all_goals with_reducible rfl))
    try simp only [Act.put, List.setIfInBounds_toArray, List.set_cons_zero, List.set_cons_succ, List.getElem_toArray, List.getElem_cons_succ, List.getElem_cons_zero]
    refine wpAnyF_pure (i := 6) (v := ?vg1_21_6) rfl (by kernel_rfl) (by kernel_rfl) (by kernel_rfl) (fun _ _ _ h => h) (Or.inl ⟨by rfl, ?hyg1_21_6⟩) ?restg1_21_6
    case hyg1_21_6 => (intro w hSw; clear hSw; go_simp; (all_goals with_reducible rfl))
    try simp only [Act.put, List.setIfInBounds_toArray, List.set_cons_zero, List.set_cons_succ, List.getElem_toArray, List.getElem_cons_succ, List.getElem_cons_zero]
    refine wpAnyF_one (i := 8) (by kernel_rfl) rfl (fun K hK => ?_)
    go_simp
    refine hK.out _ _ (HK.out _ (bS hHeld.1 n8 _)) (fun hHeld => ?_)
    clear hK K
    try simp only [Act.put, List.setIfInBounds_toArray, List.set_cons_zero, List.set_cons_succ, List.getElem_toArray, List.getElem_cons_succ, List.getElem_cons_zero]
    refine wpAnyF_pure (i := 9) (v := ?vg1_23_9) rfl (by kernel_rfl) (by kernel_rfl) (by kernel_rfl) (fun _ _ _ h => h) (Or.inl ⟨by rfl, ?hyg1_23_9⟩) ?restg1_23_9
    case hyg1_23_9 => (intro w hSw; clear hSw; go_simp; (all_goals with_reducible rfl))
    try simp only [Act.put, List.setIfInBounds_toArray, List.set_cons_zero, List.set_cons_succ, List.getElem_toArray, List.getElem_cons_succ, List.getElem_cons_zero]
    refine wpAnyF_done (by kernel_rfl) ?_ _
    go_wp2_with fail
    go_meet
    exact ⟨(w1.heap.size + 1), A2, k2, l2, rfl, rfl, HF2, Files.setFirst r2 c8 _, World.cell?_setCell_same _ _ _ c8, (by simpa using h8), hHeld.1⟩
  case rest =>
    obtain ⟨P, A2, k2, l2, rfl, rfl, HF2, r2, h0, hP, bW⟩ := hcut
    have b12 := bT bX bW
    have b02 := bT b01 b12
    have g0 := keepb bW g0
    have j0 := keepb bW j0
    have p0 := keepb bW p0
    have p1 := keepb bW p1
    have p2 := keepb bW p2
    have p3 := keepb bW p3
    have p4 := keepb bW p4
    go_wp2_with fail
    refine (HPS.out _ (Files.b hF b02) (rdb g4 (by decide) b02) (rdb h4 (by decide) b02)).mono ?_
    rintro e w3 ⟨A3, k3, l3, rfl, hf3, r3, b3⟩
    have b13 := bT b12 b3
    have b03 := bT b02 b3
    have g0 := keepb b3 g0
    have j0 := keepb b3 j0
    have h0 := keepb b3 h0
    have HF3 := hid hf3
    clear hf3
    have bZ := bA (Below.refl w3.heap.size w3) (.cells #[.slice A3 v.length k3] 66)
    have g0 := keepb bZ g0
    have j0 := keepb bZ j0
    have h0 := keepb bZ h0
    go_wp2_with fail
    refine (sameDisk_walk l2 l3 _ A2 A3 v.length k2 k3 (HF3.out.trans HF2.out.symm) (by rw [← files_length, HF2.out]) (Files.b r2 (bT b3 bZ)) (Files.b r3 bZ) (by omega)).mono ?_
    rintro e w4 ⟨rfl, b4⟩
    have b14 := bT bZ b4
    have g0 := keepb b4 g0
    have j0 := keepb b4 j0
    go_wp2_with fail
    refine (sameDisk_walk l1 l _ A1 A l.length k1 c HF1.out.symm HL1.out (Files.b hF1 (bT b13 b14)) (Files.b hF (bT b03 b14)) (by omega)).mono ?_
    rintro e w5 ⟨rfl, b5⟩
    go_wp2_with fail
    go_ret
    exact ⟨by simp, bT (bT b03 b14) b5⟩
end Go.Proofs.Ytphgdpjfolkafaa

