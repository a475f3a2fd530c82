/- The document's numberIn. -/
import Derived.Test.YteefemiieidpaaaGaps
import Derived.Test.YteefemiieidpaaaSortI
namespace Go.Proofs.Yteefemiieidpaaa
open Go.ChangeShapes Go.WideShapes Go.ChangeAt Go.RowKit
set_option linter.unusedVariables false
set_option linter.unusedSimpArgs false
/-- A number put where it belongs. -/
def insN (n : Int) : List Int → List Int
  | [] => [n]
  | x :: l => if n < x then n :: x :: l else x :: insN n l
theorem insN_perm (n : Int) : ∀ l : List Int, (insN n l).Perm (n :: l)
  | [] => List.Perm.refl _
  | x :: l => by
    unfold insN
    split
    · exact List.Perm.refl _
    · exact ((insN_perm n l).cons x).trans (List.Perm.swap n x l)
theorem insN_sorted (n : Int) : ∀ l : List Int, l.Pairwise (· ≤ ·) → (insN n l).Pairwise (· ≤ ·)
  | [], _ => by simp [insN]
  | x :: l, h => by
    rw [List.pairwise_cons] at h
    unfold insN
    split
    · rename_i hx
      refine List.pairwise_cons.2 ⟨fun y hy => ?_, List.pairwise_cons.2 h⟩
      rcases List.mem_cons.1 hy with rfl | hy
      · omega
      · have := h.1 y hy; omega
    · rename_i hx
      refine List.pairwise_cons.2 ⟨fun y hy => ?_, insN_sorted n l h.2⟩
      rcases List.mem_cons.1 ((insN_perm n l).mem_iff.1 hy) with rfl | hy
      · omega
      · exact h.1 y hy
theorem insN_len (n : Int) (l : List Int) : (insN n l).length = l.length + 1 := by
  have := (insN_perm n l).length_eq; simpa using this
def NumR (l : List Int) (n : Int) (w : World) (v5 v6 v7 : Value) (wr : World) : Prop :=
  ∃ (k c N : Nat) (A : Option Addr) (out : List Int) (dn : Bool), k ≤ l.length ∧ v7 = .int .i64 (k : Nat) ∧ v6 = .bool dn ∧ v5 = .slice A N c ∧ Hid (out.length = N) ∧ N ≤ k + 1 ∧ Hid (dn = false → N ≤ k) ∧ Hid (wr.ownsRow w.heap.size 3 1 (.slice A N c) N (out.flatMap i64c)) ∧
    Hid (insN n l = if dn = true then out ++ l.drop k else out ++ insN n (l.drop k)) ∧ Hid (Below w.heap.size w wr)
set_option maxRecDepth 100000 in
set_option maxHeartbeats 4000000 in
theorem numberIn_walk (l : List Int) (n : Int) (w : World) (A : Option Addr) (c : Nat) (hr : Rd w w.heap.size A 1 l.length (l.flatMap i64c)) (hl : (l.length + 1) * 8 ≤ 140737488355000) :
    Calls Try.prog 31 #[.slice A l.length c, .int .i64 n] w (RetS 3 1 w (l.length + 1) ((insN n l).flatMap i64c)) := by
  have HR := hid hr
  clear hr
  go_enter Try.func31, Try.ntmps31
  go_wp2_with fail
  go_loopw [5, 6, 7] (fun v5 v6 v7 wr => NumR l n w v5 v6 v7 wr) (fun _ _ v7 _ => l.length - (intOf v7).toNat)
  case atStart => exact ⟨0, 0, 0, none, [], false, Nat.zero_le _, rfl, rfl, rfl, hid rfl, Nat.zero_le _, hid (fun _ => Nat.zero_le _), hid (World.ownsRow_nil _ _ _ _), hid (by simp), hid (Below.refl _ _)⟩
  case round =>
    obtain ⟨k, c', N, A', out, dn, hk, rfl, rfl, rfl, HOL, hNk, HNF, HO, HI, HB⟩ := hrel
    by_cases hlt : k < l.length
    · obtain ⟨x, hx⟩ : ∃ x, l[k]? = some x := ⟨_, List.getElem?_eq_getElem hlt⟩
      obtain ⟨b, off, rfl, hb, c0⟩ := int_cell (HR.out.below HB.out) rfl hx
      have hkz : (k : Int) < (l.length : Int) := by omega
      have hsz := HB.out.size
      have hbw : b < wr.heap.size := by omega
      have hd : l.drop k = x :: l.drop (k + 1) := by
        obtain ⟨h3, h4⟩ := List.getElem?_eq_some_iff.1 hx
        rw [List.drop_eq_getElem_cons h3, h4]
      have hn1 : (N + 1) * 8 ≤ 140737488355328 := by omega
      have hn2 : (N + 1 + 1) * 8 ≤ 140737488355328 := by omega
      have HD := hid hd
      clear hx hd
      cases dn with
      | true =>
        go_wp2_with (at_builtin; refine wp_app1 _ rfl rfl el_ints rfl (HO.out.alloc _) rfl (rd_newAt _ _ _ 1 1 _ (by simp) rfl) (one_cellV _ rfl) hn1 (Nat.le_trans hsz (by simp)) ?_; intro A4 c4 w4 o4 b4 g4)
        go_roundw
        case rel => exact ⟨k + 1, c4, N + 1, A4, out ++ [x], true, by omega, by go_num, rfl, rfl, hid (by rw [List.length_append, HOL.out]; rfl), by omega, hid (fun h => by cases h), hid (by rw [List.flatMap_append]; exact o4), hid (by rw [HI.out, HD.out]; simp), hid ((HB.out.alloc hsz _).trans b4)⟩
        case measure => simp [intOf]; omega
      | false =>
        by_cases hnx : n < x
        · have hNk2 := HNF.out rfl
          have HN : Hid (insN n l = (out ++ [n]) ++ l.drop k) := hid (by rw [HI.out, HD.out]; simp only [insN]; rw [if_pos hnx]; simp)
          have HOK := hid (fun (A4 : Option Addr) (c4 : Nat) (w4 : World) (o4 : w4.ownsRow w.heap.size 3 1 (.slice A4 (N + 1) c4) (N + 1) (out.flatMap i64c ++ [Value.int .i64 n])) => o4)
          go_wp2_with (first | (at_builtin; refine wp_app1 _ rfl rfl el_ints rfl (HO.out.alloc _) rfl (rd_newAt _ _ _ 1 1 _ (by simp) rfl) (one_cellV _ rfl) hn1 (Nat.le_trans hsz (by simp)) ?_; intro A4 c4 w4 o4 b4 g4; have HO4 := hid o4; have hb4 : Below w.heap.size wr w4 := ((Below.refl _ _).alloc hsz _).trans b4; have c0 := (hb4.cell (p := ⟨b, off + k, none⟩) hb).trans c0; have hsz4 := Nat.le_trans hsz hb4.size; have HB4 := hid (HB.out.trans hb4); clear o4 b4 g4 hb4) | (at_builtin; refine wp_app1 _ rfl rfl el_ints rfl (HO4.out.alloc _) rfl (rd_newAt _ _ _ 1 1 _ (by simp) rfl) (one_cellV _ rfl) hn2 (Nat.le_trans hsz4 (by simp)) ?_; intro A5 c5 w5 o5 b5 g5))
          go_roundw
          case rel => exact ⟨k + 1, c5, N + 1 + 1, A5, out ++ [n] ++ [x], true, by omega, by go_num, rfl, rfl, hid (by simp [HOL.out]), by omega, hid (fun h => by cases h), hid (by rw [List.flatMap_append, List.flatMap_append]; exact o5), hid (by rw [HN.out, HD.out]; simp), hid ((HB4.out.alloc hsz4 _).trans b5)⟩
          case measure => simp [intOf]; omega
        · have hNk2 := HNF.out rfl
          go_wp2_with (at_builtin; refine wp_app1 _ rfl rfl el_ints rfl (HO.out.alloc _) rfl (rd_newAt _ _ _ 1 1 _ (by simp) rfl) (one_cellV _ rfl) hn1 (Nat.le_trans hsz (by simp)) ?_; intro A4 c4 w4 o4 b4 g4)
          go_roundw
          case rel => exact ⟨k + 1, c4, N + 1, A4, out ++ [x], false, by omega, by go_num, rfl, rfl, hid (by rw [List.length_append, HOL.out]; rfl), by omega, hid (fun _ => by omega), hid (by rw [List.flatMap_append]; exact o4), hid (by rw [HI.out, HD.out]; simp only [insN]; rw [if_neg hnx]; simp), hid ((HB.out.alloc hsz _).trans b4)⟩
          case measure => simp [intOf]; omega
    · obtain rfl : k = l.length := by omega
      have hn1 : (N + 1) * 8 ≤ 140737488355328 := by omega
      have hsz := HB.out.size
      cases dn with
      | true =>
        have hN : N = l.length + 1 := by
          have h := congrArg List.length HI.out
          rw [insN_len, if_pos rfl, List.drop_length, List.append_nil, HOL.out] at h
          exact h.symm
        have HE := hid (show insN n l = out by rw [HI.out, if_pos rfl, List.drop_length, List.append_nil])
        have HN := hid hN
        clear hN
        go_wp2_with fail
        go_ret
        exact ⟨A', c', by rw [← HN.out]; rfl, by rw [← HN.out, HE.out]; exact HO.out, HB.out⟩
      | false =>
        have HE := hid (show insN n l = out ++ [n] by rw [HI.out, if_neg (by simp), List.drop_length]; rfl)
        have hN : N + 1 = l.length + 1 := by
          have h := congrArg List.length HE.out
          rw [insN_len, List.length_append, HOL.out] at h
          exact h.symm
        have HN := hid hN
        clear hN
        go_wp2_with (at_builtin; refine wp_app1 _ rfl rfl el_ints rfl (HO.out.alloc _) rfl (rd_newAt _ _ _ 1 1 _ (by simp) rfl) (one_cellV _ rfl) hn1 (Nat.le_trans hsz (by simp)) ?_; intro A4 c4 w4 o4 b4 g4)
        go_ret
        exact ⟨A4, c4, by rw [← HN.out]; rfl, by rw [← HN.out, HE.out, List.flatMap_append]; exact o4, (HB.out.alloc hsz _).trans b4⟩
end Go.Proofs.Yteefemiieidpaaa
