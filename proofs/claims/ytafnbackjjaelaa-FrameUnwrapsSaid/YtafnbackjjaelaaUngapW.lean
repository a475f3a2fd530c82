/- varint.Ungap. -/
import Derived.Test.YtafnbackjjaelaaUngap
namespace Go.Proofs.Ytafnbackjjaelaa
open Go.ChangeShapes Go.WideShapes Go.ChangeAt Go.RowKit
set_option linter.unusedVariables false
/-- A list, a number and an error number come back; the list is new memory. -/
def RetLN (E sz : Nat) (w : World) (n : Nat) (xs : List Value) (k err : Int) (e : Ending) (w' : World) : Prop :=
  ∃ A c, e = .returned (.tuple #[.slice A n c, .int .i64 k, .int .i64 err]) ∧ w'.ownsRow w.heap.size E sz (.slice A n c) n xs ∧ Below w.heap.size w w'
theorem retLN_nil (E sz : Nat) (w w' : World) (err : Int) (b : Below w.heap.size w w') : RetLN E sz w 0 [] 0 err (.returned (.tuple #[.slice none 0 0, .int .i64 0, .int .i64 err])) w' :=
  ⟨none, 0, rfl, World.ownsRow_nil _ _ _ _, b⟩
def UngRel (l : List Int) (V : List Int × Int × Int) (R : Nat) (v0 : Value) (M : Nat) (w : World) (s t i : Value) (wr : World) : Prop :=
  ∃ (j m c a : Nat) (A : Option Addr) (q : Int) (acc : List Int), j ≤ M ∧ Hid (acc.length = m) ∧ m ≤ j ∧ a ≤ l.length ∧ i = .int .u64 j ∧ t = .int .u64 q ∧ s = .slice A m c ∧ 0 ≤ q ∧ q ≤ 1152921504606846976 ∧ Hid (V = ungGo l (M - j) a q acc) ∧
    wr.ownsRow (R + 1) 3 1 (.slice A m c) m (acc.flatMap i64c) ∧ Below w.heap.size w wr ∧ R < wr.heap.size ∧ wr.cell? ⟨R, 0, none⟩ = some v0 ∧ wr.cell? ⟨R, 1, none⟩ = some (.int .i64 a) ∧ wr.frozen? ⟨R, 1, none⟩ = false
set_option maxRecDepth 100000 in
set_option maxHeartbeats 2000000 in
theorem ungap_walk (l : List Int) (w : World) (A : Option Addr) (n c : Nat) (hr : Rd w w.heap.size A 1 n (l.flatMap u8c)) (hL : l.length = n) (hl : ∀ x ∈ l, 0 ≤ x ∧ x ≤ 255) (hn : n ≤ 140737488355328) (hcap : n ≤ c) :
    Calls Try.prog 44 #[.slice A n c] w (RetLN 3 1 w (ungV l).1.length ((ungV l).1.flatMap i64c) (ungV l).2.1 (ungV l).2.2) := by
  have HV : Hid (ungV l = if (getv l).2.2 ≠ 0 then ([], 0, (getv l).2.2) else if 2000 < (getv l).1 then ([], 0, 1) else ungGo l (getv l).1.toNat (getv l).2.1.toNat 0 []) := hid rfl
  have hg := getv_ok l hl
  have hnx := hid (fun w' B at_ => next_walk l w' w.heap.size B A n c at_)
  have HLl := hid hL
  have HB := hid hl
  have h0 := getv_ok l hl
  have e0 : l.drop 0 = l := List.drop_zero
  generalize hq : getv l = r at *
  have HQ := hid hq
  clear hq hl hL h0
  generalize ungV l = V at *
  obtain ⟨r1, r2, r3⟩ := r
  simp only at HV
  have b0 := bA (Below.refl w.heap.size w) (.cells #[.slice A n c, .int .i64 0] 134)
  have r0 := rdb hr (by decide) b0
  rcases hg with ⟨g0, g1, g2, g3, g4⟩ | ⟨g0, g1, g2, g3⟩
  · simp only at g0 g1 g2 g3 g4
    subst g0
    obtain ⟨a0, rfl⟩ := Int.eq_ofNat_of_zero_le (show 0 ≤ r2 by omega)
    obtain ⟨M, rfl⟩ := Int.eq_ofNat_of_zero_le g1
    by_cases hM : 2000 < M
    · have HV2 : Hid (V = ([], 0, 1)) := hid (by rw [HV.out, if_neg (by simp), if_pos (by omega)])
      have hMi : (2000 : Int) < (M : Int) := by omega
      go_enter Try.func44, Try.ntmps44
      go_wp2_with fail
      refine (hnx.out _ _ 0 (by go_simp) (by go_simp) (by go_simp) r0 HB.out hn hcap (Nat.zero_le _)).mono ?_
      rintro e w1 ⟨rfl, q, rfl⟩
      rw [e0, HQ.out]
      go_wp2_with fail
      go_ret3
      rw [HV2.out]
      exact retLN_nil _ _ _ _ _ (bS (bN b0 _) (by simp) _)
    · have HV2 : Hid (V = ungGo l M a0 0 []) := hid (by rw [HV.out, if_neg (by simp), if_neg (by omega)]; simp)
      have hMi : (M : Int) ≤ 2000 := by omega
      clear HV hM
      go_enter Try.func44, Try.ntmps44
      go_wp2_with fail
      refine (hnx.out _ _ 0 (by go_simp) (by go_simp) (by go_simp) r0 HB.out hn hcap (Nat.zero_le _)).mono ?_
      rintro e w1 ⟨rfl, q, rfl⟩
      rw [e0, HQ.out]
      go_wp2_with fail
      go_loopw [8, 9, 26] (UngRel l V w.heap.size (.slice A n c) M w) (fun _ _ i _ => M - (intOf i).toNat)
      case atStart => exact ⟨0, 0, 0, a0, none, 0, [], by omega, hid rfl, by omega, by omega, rfl, rfl, rfl, by omega, by omega, hid (by rw [HV2.out]; rfl), World.ownsRow_nil _ _ _ _, bS (bN b0 _) (by simp) _, by simp, by go_simp, by go_simp, by go_simp⟩
      case round =>
        obtain ⟨j, m, c', a, A', q', acc, hj, HA, hmj, ha, rfl, rfl, rfl, hq0, hq1, HU, hown, hbel, hsz, k0, k1, kf⟩ := hrel
        by_cases hlt : j < M
        · obtain ⟨t, ht⟩ : ∃ t, M - j = t + 1 := ⟨M - j - 1, by omega⟩
          have HU2 := HU.out
          rw [ht, ungGo] at HU2
          have hg := getv_ok (l.drop a) (fun x hx => HB.out x (List.mem_of_mem_drop hx))
          have HN := hid (hnx.out wr w.heap.size a k0 k1 kf (hr.below hbel) HB.out hn hcap (by rw [← HLl.out]; exact ha))
          rw [List.length_drop] at hg
          generalize getv (l.drop a) = r at HU2 hg HN
          obtain ⟨r1, r2, r3⟩ := r
          simp only at HU2
          have HT := hid ht
          clear ht HU
          rcases hg with ⟨g0, g1, g2, g3, g4⟩ | ⟨g0, g1, g2, g3⟩
          · simp only at g0 g1 g2 g3 g4
            subst g0
            obtain ⟨k, rfl⟩ := Int.eq_ofNat_of_zero_le (show 0 ≤ r2 by omega)
            rw [if_neg (by simp)] at HU2
            by_cases hov : 1152921504606846976 < q' + r1
            · rw [if_pos hov] at HU2
              have HV3 := hid HU2
              clear HU2
              have hd : 1152921504606846976 < r1 ∨ (r1 ≤ 1152921504606846976 ∧ 1152921504606846976 < q' + r1) := by omega
              clear hov
              rcases hd with hd | ⟨hd, hd2⟩
              all_goals
                go_wp2_with fail
                refine HN.out.mono ?_
                rintro e w2 ⟨rfl, q2, rfl⟩
                go_wp2_with fail
                go_ret3
                rw [HV3.out]
                exact retLN_nil _ _ _ _ _ (bS (bN hbel _) (Nat.le_refl _) _)
            · rw [if_neg hov] at HU2
              have HV3 := hid HU2
              clear HU2
              have hov1 : r1 ≤ 1152921504606846976 := by omega
              have hov2 : q' + r1 ≤ 1152921504606846976 := by omega
              have hm8 : (m + 1) * 8 ≤ 140737488355328 := by omega
              have hown2 := fun (q2 : Nat) => ((ownsRow_setCell_below (show (wr.drewN q2).ownsRow _ _ _ _ _ _ from hown) (show (⟨w.heap.size, 1, none⟩ : Addr).block < w.heap.size + 1 by simp) (.int .i64 ((a : Int) + (k : Int)))).alloc (.cells #[.int .i64 (q' + r1)] 3))
              have HO := hid hown2
              clear hov hown2
              go_wp2_with fail
              refine HN.out.mono ?_
              rintro e w2 ⟨rfl, q2, rfl⟩
              go_wp2_with (at_builtin; refine wp_app1 _ rfl rfl el_ints rfl (HO.out q2) rfl (rd_newAt _ _ _ 1 1 wr.heap.size (by simp) rfl) (ints_one .i64 [q' + r1]) hm8 (by simp; omega) ?_; intro A3 c3 w3 hown3 hb3 hg3)
              have hk0 : w3.cell? ⟨w.heap.size, 0, none⟩ = some (.slice A n c) := (hb3.cell (p := ⟨w.heap.size, 0, none⟩) (by simp)).trans (by go_simp)
              have hk1 : w3.cell? ⟨w.heap.size, 1, none⟩ = some (.int .i64 ((a : Int) + (k : Int))) := (hb3.cell (p := ⟨w.heap.size, 1, none⟩) (by simp)).trans (by go_simp)
              have hkf : w3.frozen? ⟨w.heap.size, 1, none⟩ = false := (hb3.frozen (p := ⟨w.heap.size, 1, none⟩) (by simp)).trans (by go_simp)
              have hs3 : w.heap.size < w3.heap.size := by have := hb3.size; simp at this; omega
              go_roundw
              case rel =>
                refine ⟨j + 1, m + 1, c3, a + k, A3, q' + r1, acc ++ [q' + r1], by omega, hid (by rw [List.length_append, HA.out]; rfl), by omega, by omega, by go_num, rfl, rfl, by omega, by omega, hid ?_, by rw [List.flatMap_append]; exact hown3, ?_, hs3, hk0, by rw [Int.natCast_add]; exact hk1, hkf⟩
                · rw [HV3.out, show M - (j + 1) = t by have := HT.out; omega, Int.toNat_natCast]
                · exact (bA (bS (bN hbel _) (Nat.le_refl _) _) _).trans (hb3.mono (by omega))
              case measure => simp [intOf]; omega
          · simp only at g0 g1 g2 g3
            subst g2 g3
            have hb : (r3 == 0) = false := by rw [beq_eq_false_iff_ne]; omega
            rw [if_pos (by omega)] at HU2
            have HV3 := hid HU2
            clear HU2
            go_wp2_with fail
            refine HN.out.mono ?_
            rintro e w2 ⟨rfl, q2, rfl⟩
            go_wp2_with fail
            go_ret3
            rw [HV3.out]
            exact retLN_nil _ _ _ _ _ (bS (bN hbel _) (Nat.le_refl _) _)
        · obtain rfl : j = M := by omega
          have HV3 : Hid (V = (acc, (a : Int), 0)) := hid (by rw [HU.out, Nat.sub_self]; rfl)
          clear HU
          go_wp2_with fail
          go_quiet (fail)
          go_wp2_with fail
          go_ret3
          rw [HV3.out]
          simp only
          rw [HA.out]
          exact ⟨A', c', rfl, own_more (show (wr.drewN _).ownsRow _ _ _ _ _ _ from hown) (by omega), bN hbel _⟩
  · simp only at g0 g1 g2 g3
    subst g2 g3
    have hb : (r3 == 0) = false := by rw [beq_eq_false_iff_ne]; omega
    have HV2 : Hid (V = ([], 0, r3)) := hid (by rw [HV.out, if_pos (by simp; omega)])
    clear HV
    go_enter Try.func44, Try.ntmps44
    go_wp2_with fail
    refine (hnx.out _ _ 0 (by go_simp) (by go_simp) (by go_simp) r0 HB.out hn hcap (Nat.zero_le _)).mono ?_
    rintro e w1 ⟨rfl, q, rfl⟩
    rw [e0, HQ.out]
    go_wp2_with fail
    go_ret3
    rw [HV2.out]
    exact retLN_nil _ _ _ _ _ (bS (bN b0 _) (by simp) _)
end Go.Proofs.Ytafnbackjjaelaa
