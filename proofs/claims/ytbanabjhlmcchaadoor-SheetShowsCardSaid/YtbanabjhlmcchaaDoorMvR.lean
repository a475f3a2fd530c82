/- The document's MoveLine. -/
import Derived.Test.YtbanabjhlmcchaaDoorMvL
namespace Go.Proofs.YtbanabjhlmcchaaDoor
open Go.RowKit Go.ChangeShapes Go.WideShapes Go.ChangeAt
set_option linter.unusedVariables false
set_option linter.unusedSimpArgs false
theorem word_some {k : Int} (h : ¬ (k < 1 ∨ 8 < k)) : (wordB k == ⟨#[]⟩) = false := by
  rcases kind_cases h with rfl | rfl | rfl | rfl | rfl | rfl | rfl | rfl <;> decide
theorem word_none {k : Int} (h : k < 1 ∨ 8 < k) : wordB k = ⟨#[]⟩ ∧ atB k = false ∧ keepB k = false := ⟨by unfold wordB; repeat rw [if_neg (by omega)], by unfold atB; simp; omega, by unfold keepB; simp; omega⟩
theorem word_list {k : Int} (h : ¬ (k < 1 ∨ 8 < k)) : (wordB k).toList.isEmpty = false := by
  rcases kind_cases h with rfl | rfl | rfl | rfl | rfl | rfl | rfl | rfl
  all_goals
    rw [ByteArray.toList_eq]
    rfl
set_option maxRecDepth 100000 in
set_option maxHeartbeats 8000000 in
theorem moveLine_walk (m : Move) (w : World) : Calls Tryd.prog 16 #[.agg #[.int .i64 m.kind, .int .i64 m.at_, .int .i64 m.keep]] w fun e w' => e = .returned (.tuple #[.string (lineV m).1, .int .i64 (lineV m).2]) ∧ Below w.heap.size w w' := by
  obtain ⟨k, a, p⟩ := m
  dsimp only
  have HMW := hid (fun V => moveWord_walk k V)
  have HB := hid (bA (Below.refl w.heap.size w) (.cells #[.int .i64 k, .int .i64 a, .int .i64 p] 41))
  have HI1 := hid (fun V => In_walk a 0 1152921504606846976 V)
  have HI2 := hid (fun V => In_walk p 0 1152921504606846976 V)
  by_cases hbad : k < 1 ∨ 8 < k
  · obtain ⟨h1, h2, h3⟩ := word_none hbad
    have HLV := hid (show lineV ⟨k, a, p⟩ = (⟨#[]⟩, 3) by unfold lineV; rw [if_pos hbad])
    rw [h1, h2, h3] at HMW
    clear hbad h1 h2 h3
    go_enter Tryd.func16, Tryd.ntmps16
    go_wp2_with fail
    refine (HMW.out _).mono ?_
    rintro e w1 ⟨rfl, rfl⟩
    go_wp2_with fail
    go_ret2
    exact ⟨by rw [HLV.out]; rfl, HB.out⟩
  · have hws := wordB_size k
    have hwe := word_some hbad
    have HLV0 : Hid (lineV ⟨k, a, p⟩ = if ¬ (numOk (atB k) a ∧ numOk (keepB k) p) then (⟨#[]⟩, 2) else (addN (addN (wordB k) (atB k) a) (keepB k) p ++ nlB, 0)) := hid (by unfold lineV; rw [if_neg hbad])
    have hwe2 : (wordB k).toList.isEmpty = false := word_list hbad
    generalize wordB k = W at *
    generalize atB k = at_ at *
    generalize keepB k = kp at *
    clear hbad
    by_cases ha : 0 ≤ a ∧ a ≤ 1152921504606846976
    · have hia : inB a 0 1152921504606846976 = true := inB_yes ha
      rw [hia] at HI1
      by_cases hp : 0 ≤ p ∧ p ≤ 1152921504606846976
      · have hip : inB p 0 1152921504606846976 = true := inB_yes hp
        rw [hip] at HI2
        obtain ⟨a, rfl⟩ := Int.eq_ofNat_of_zero_le ha.1
        obtain ⟨p, rfl⟩ := Int.eq_ofNat_of_zero_le hp.1
        have HD1 := hid (dec_walk a (by omega))
        have HD2 := hid (dec_walk p (by omega))
        have hda := nDig a (by omega)
        have hdp := nDig p (by omega)
        have hW1 : ¬ 9223372036854775807 < W.size + 1 := by omega
        have hW2 : ¬ 9223372036854775807 < W.size + 1 + (decB a).size := by omega
        have hW2' : ¬ 9223372036854775807 < (W ++ ⟨#[32]⟩).size + (decB a).size := by rw [ByteArray.size_append, show (⟨#[32]⟩ : ByteArray).size = 1 from rfl]; omega
        have hW3 : ¬ 9223372036854775807 < W.size + 1 + (decB p).size := by omega
        have hW3' : ¬ 9223372036854775807 < (W ++ ⟨#[32]⟩).size + (decB p).size := by rw [ByteArray.size_append, show (⟨#[32]⟩ : ByteArray).size = 1 from rfl]; omega
        have hW4 : ¬ 9223372036854775807 < W.size + 1 + (decB a).size + 1 := by omega
        have hW4' : ¬ 9223372036854775807 < (W ++ ⟨#[32]⟩ ++ decB a).size + 1 := by rw [ByteArray.size_append, ByteArray.size_append, show (⟨#[32]⟩ : ByteArray).size = 1 from rfl]; omega
        have hW5 : ¬ 9223372036854775807 < W.size + 1 + (decB p).size + 1 := by omega
        have hW5' : ¬ 9223372036854775807 < (W ++ ⟨#[32]⟩ ++ decB p).size + 1 := by rw [ByteArray.size_append, ByteArray.size_append, show (⟨#[32]⟩ : ByteArray).size = 1 from rfl]; omega
        have hW6 : ¬ 9223372036854775807 < W.size + 1 + (decB a).size + 1 + (decB p).size := by omega
        have hW6' : ¬ 9223372036854775807 < (W ++ ⟨#[32]⟩ ++ decB a ++ ⟨#[32]⟩).size + (decB p).size := by rw [ByteArray.size_append, ByteArray.size_append, ByteArray.size_append, show (⟨#[32]⟩ : ByteArray).size = 1 from rfl]; omega
        have hW7 : ¬ 9223372036854775807 < W.size + 1 + (decB a).size + 1 + (decB p).size + 1 := by omega
        have hW7' : ¬ 9223372036854775807 < (W ++ ⟨#[32]⟩ ++ decB a ++ ⟨#[32]⟩ ++ decB p).size + 1 := by rw [ByteArray.size_append, ByteArray.size_append, ByteArray.size_append, ByteArray.size_append, show (⟨#[32]⟩ : ByteArray).size = 1 from rfl]; omega
        clear hws hda hdp
        cases at_ with
        | false =>
          by_cases ha0 : 0 < a
          · have HLV := hid (show lineV ⟨k, (a : Int), (p : Int)⟩ = (⟨#[]⟩, 2) by rw [HLV0.out, if_pos (fun h => by have := h.1.2.2 rfl; omega)])
            have haz : (0 : Int) < (a : Int) := by omega
            clear HLV0
            go_enter Tryd.func16, Tryd.ntmps16
            go_wp2_with fail
            refine (HMW.out _).mono ?_
            rintro e w1 ⟨rfl, rfl⟩
            go_wp2_with fail
            refine (HI1.out _).mono ?_
            rintro e w2 ⟨rfl, rfl⟩
            go_wp2_with fail
            refine (HI2.out _).mono ?_
            rintro e w3 ⟨rfl, rfl⟩
            go_wp2_with fail
            go_ret2
            exact ⟨by rw [HLV.out]; rfl, HB.out⟩
          · obtain rfl : a = 0 := by omega
            cases kp with
            | false =>
              by_cases hp0 : 0 < p
              · have HLV := hid (show lineV ⟨k, ((0 : Nat) : Int), (p : Int)⟩ = (⟨#[]⟩, 2) by rw [HLV0.out, if_pos (fun h => by have := h.2.2.2 rfl; omega)])
                have hpz : (0 : Int) < (p : Int) := by omega
                clear HLV0
                go_enter Tryd.func16, Tryd.ntmps16
                go_wp2_with fail
                refine (HMW.out _).mono ?_
                rintro e w1 ⟨rfl, rfl⟩
                go_wp2_with fail
                refine (HI1.out _).mono ?_
                rintro e w2 ⟨rfl, rfl⟩
                go_wp2_with fail
                refine (HI2.out _).mono ?_
                rintro e w3 ⟨rfl, rfl⟩
                go_wp2_with fail
                go_ret2
                exact ⟨by rw [HLV.out]; rfl, HB.out⟩
              · obtain rfl : p = 0 := by omega
                have HLV := hid (show lineV ⟨k, ((0 : Nat) : Int), ((0 : Nat) : Int)⟩ = (W ++ ⟨#[10]⟩, 0) by rw [HLV0.out, if_neg (fun h => h ⟨⟨ha.1, ha.2, fun _ => rfl⟩, ⟨hp.1, hp.2, fun _ => rfl⟩⟩)]; rfl)
                clear HLV0
                go_enter Tryd.func16, Tryd.ntmps16
                go_wp2_with fail
                refine (HMW.out _).mono ?_
                rintro e w1 ⟨rfl, rfl⟩
                go_wp2_with fail
                refine (HI1.out _).mono ?_
                rintro e w2 ⟨rfl, rfl⟩
                go_wp2_with fail
                refine (HI2.out _).mono ?_
                rintro e w3 ⟨rfl, rfl⟩
                go_wp2_with fail
                go_ret2
                exact ⟨by rw [HLV.out]; rfl, HB.out⟩
            | true =>
              have HLV := hid (show lineV ⟨k, ((0 : Nat) : Int), (p : Int)⟩ = (W ++ ⟨#[32]⟩ ++ decB p ++ ⟨#[10]⟩, 0) by rw [HLV0.out, if_neg (fun h => h ⟨⟨ha.1, ha.2, fun _ => rfl⟩, ⟨hp.1, hp.2, fun h => by cases h⟩⟩)]; unfold addN spB nlB; simp [ByteArray.append_assoc])
              clear HLV0
              go_enter Tryd.func16, Tryd.ntmps16
              go_wp2_with fail
              refine (HMW.out _).mono ?_
              rintro e w1 ⟨rfl, rfl⟩
              go_wp2_with fail
              refine (HI1.out _).mono ?_
              rintro e w2 ⟨rfl, rfl⟩
              go_wp2_with fail
              refine (HI2.out _).mono ?_
              rintro e w3 ⟨rfl, rfl⟩
              go_wp2_with fail
              refine (HD2.out _).mono ?_
              rintro e w4 ⟨rfl, b2⟩
              have HB2 := hid (bT HB.out b2)
              have q0 : w4.cell? ⟨w.heap.size, 0, none⟩ = some (.int .i64 k) := keepb b2 (by go_simp)
              have q1 : w4.cell? ⟨w.heap.size, 1, none⟩ = some (.int .i64 0) := keepb b2 (by go_simp)
              have q2 : w4.cell? ⟨w.heap.size, 2, none⟩ = some (.int .i64 (p : Int)) := keepb b2 (by go_simp)
              go_wp2_with fail
              go_ret2
              exact ⟨by rw [HLV.out]; rfl, HB2.out⟩
        | true =>
          cases kp with
          | false =>
            by_cases hp0 : 0 < p
            · have HLV := hid (show lineV ⟨k, (a : Int), (p : Int)⟩ = (⟨#[]⟩, 2) by rw [HLV0.out, if_pos (fun h => by have := h.2.2.2 rfl; omega)])
              have hpz : (0 : Int) < (p : Int) := by omega
              clear HLV0
              go_enter Tryd.func16, Tryd.ntmps16
              go_wp2_with fail
              refine (HMW.out _).mono ?_
              rintro e w1 ⟨rfl, rfl⟩
              go_wp2_with fail
              refine (HI1.out _).mono ?_
              rintro e w2 ⟨rfl, rfl⟩
              go_wp2_with fail
              refine (HI2.out _).mono ?_
              rintro e w3 ⟨rfl, rfl⟩
              go_wp2_with fail
              go_ret2
              exact ⟨by rw [HLV.out]; rfl, HB.out⟩
            · obtain rfl : p = 0 := by omega
              have HLV := hid (show lineV ⟨k, (a : Int), ((0 : Nat) : Int)⟩ = (W ++ ⟨#[32]⟩ ++ decB a ++ ⟨#[10]⟩, 0) by rw [HLV0.out, if_neg (fun h => h ⟨⟨ha.1, ha.2, fun h => by cases h⟩, ⟨hp.1, hp.2, fun _ => rfl⟩⟩)]; unfold addN spB nlB; simp [ByteArray.append_assoc])
              clear HLV0
              go_enter Tryd.func16, Tryd.ntmps16
              go_wp2_with fail
              refine (HMW.out _).mono ?_
              rintro e w1 ⟨rfl, rfl⟩
              go_wp2_with fail
              refine (HI1.out _).mono ?_
              rintro e w2 ⟨rfl, rfl⟩
              go_wp2_with fail
              refine (HI2.out _).mono ?_
              rintro e w3 ⟨rfl, rfl⟩
              go_wp2_with fail
              refine (HD1.out _).mono ?_
              rintro e w4 ⟨rfl, b1⟩
              have HB1 := hid (bT HB.out b1)
              have q0 : w4.cell? ⟨w.heap.size, 0, none⟩ = some (.int .i64 k) := keepb b1 (by go_simp)
              have q1 : w4.cell? ⟨w.heap.size, 1, none⟩ = some (.int .i64 (a : Int)) := keepb b1 (by go_simp)
              have q2 : w4.cell? ⟨w.heap.size, 2, none⟩ = some (.int .i64 0) := keepb b1 (by go_simp)
              go_wp2_with fail
              go_ret2
              exact ⟨by rw [HLV.out]; rfl, HB1.out⟩
          | true =>
            have HLV := hid (show lineV ⟨k, (a : Int), (p : Int)⟩ = (W ++ ⟨#[32]⟩ ++ decB a ++ ⟨#[32]⟩ ++ decB p ++ ⟨#[10]⟩, 0) by rw [HLV0.out, if_neg (fun h => h ⟨⟨ha.1, ha.2, fun h => by cases h⟩, ⟨hp.1, hp.2, fun h => by cases h⟩⟩)]; unfold addN spB nlB; simp [ByteArray.append_assoc])
            clear HLV0
            go_enter Tryd.func16, Tryd.ntmps16
            go_wp2_with fail
            refine (HMW.out _).mono ?_
            rintro e w1 ⟨rfl, rfl⟩
            go_wp2_with fail
            refine (HI1.out _).mono ?_
            rintro e w2 ⟨rfl, rfl⟩
            go_wp2_with fail
            refine (HI2.out _).mono ?_
            rintro e w3 ⟨rfl, rfl⟩
            go_wp2_with fail
            refine (HD1.out _).mono ?_
            rintro e w4 ⟨rfl, b1⟩
            have HB1 := hid (bT HB.out b1)
            have q0 : w4.cell? ⟨w.heap.size, 0, none⟩ = some (.int .i64 k) := keepb b1 (by go_simp)
            have q1 : w4.cell? ⟨w.heap.size, 1, none⟩ = some (.int .i64 (a : Int)) := keepb b1 (by go_simp)
            have q2 : w4.cell? ⟨w.heap.size, 2, none⟩ = some (.int .i64 (p : Int)) := keepb b1 (by go_simp)
            go_wp2_with fail
            refine (HD2.out _).mono ?_
            rintro e w5 ⟨rfl, b2⟩
            have HB2 := hid (bT HB1.out b2)
            have q0 : w5.cell? ⟨w.heap.size, 0, none⟩ = some (.int .i64 k) := keepb b2 (by go_simp)
            have q1 : w5.cell? ⟨w.heap.size, 1, none⟩ = some (.int .i64 (a : Int)) := keepb b2 (by go_simp)
            have q2 : w5.cell? ⟨w.heap.size, 2, none⟩ = some (.int .i64 (p : Int)) := keepb b2 (by go_simp)
            go_wp2_with fail
            go_ret2
            exact ⟨by rw [HLV.out]; rfl, HB2.out⟩
      · have hip : inB p 0 1152921504606846976 = false := inB_no hp
        rw [hip] at HI2
        have HLV := hid (show lineV ⟨k, a, p⟩ = (⟨#[]⟩, 2) by rw [HLV0.out, if_pos (fun h => hp ⟨h.2.1, h.2.2.1⟩)])
        clear HLV0
        go_enter Tryd.func16, Tryd.ntmps16
        go_wp2_with fail
        refine (HMW.out _).mono ?_
        rintro e w1 ⟨rfl, rfl⟩
        go_wp2_with fail
        refine (HI1.out _).mono ?_
        rintro e w2 ⟨rfl, rfl⟩
        go_wp2_with fail
        refine (HI2.out _).mono ?_
        rintro e w3 ⟨rfl, rfl⟩
        go_wp2_with fail
        go_ret2
        exact ⟨by rw [HLV.out]; rfl, HB.out⟩
    · have hia : inB a 0 1152921504606846976 = false := inB_no ha
      rw [hia] at HI1
      have HLV := hid (show lineV ⟨k, a, p⟩ = (⟨#[]⟩, 2) by rw [HLV0.out, if_pos (fun h => ha ⟨h.1.1, h.1.2.1⟩)])
      clear HLV0
      go_enter Tryd.func16, Tryd.ntmps16
      go_wp2_with fail
      refine (HMW.out _).mono ?_
      rintro e w1 ⟨rfl, rfl⟩
      go_wp2_with fail
      refine (HI1.out _).mono ?_
      rintro e w2 ⟨rfl, rfl⟩
      go_wp2_with fail
      go_ret2
      exact ⟨by rw [HLV.out]; rfl, HB.out⟩
end Go.Proofs.YtbanabjhlmcchaaDoor
