/- The document's Wrapped; the statement on frame.Wrap. -/
import Derived.Test.YtiemcicgohldeaaWrap
namespace Go.Proofs.Ytiemcicgohldeaa
open Go.ChangeShapes Go.WideShapes Go.ChangeAt Go.RowKit
set_option linter.unusedVariables false
set_option linter.unusedSimpArgs false
def WrapOfRel (pk l : List Int) (w : World) (v i : Value) (wr : World) : Prop :=
  ∃ (k m c : Nat) (A : Option Addr), k ≤ l.length ∧ i = .int .i64 k ∧ Hid (m = pk.length + k) ∧ m ≤ 10 + k ∧ v = .slice A m c ∧ wr.ownsRow w.heap.size 5 1 (.slice A m c) m ((pk ++ l.take k).flatMap u8c) ∧ Below w.heap.size w wr
set_option maxRecDepth 100000 in
set_option maxHeartbeats 2000000 in
theorem wrapped_walk (l : List Int) (w : World) (A : Option Addr) (n c : Nat) (hr : Rd w w.heap.size A 1 n (l.flatMap u8c)) (hL : l.length = n) (hb : ∀ x ∈ l, 0 ≤ x ∧ x ≤ 255) (hn : n ≤ 140737488355328) :
    Calls Try.prog 39 #[.slice A n c] w (RetL 5 1 w (wrapV l).1.length ((wrapV l).1.flatMap u8c) (wrapV l).2) := by
  by_cases hbig : 20000 < n
  · rw [wrapV_big (by omega)]
    go_enter Try.func39, Try.ntmps39
    go_wp2_with fail
    go_ret2
    exact ⟨none, 0, rfl, World.ownsRow_nil _ _ _ _, Below.refl _ _⟩
  · have hsm : (n : Int) ≤ 20000 := by omega
    have HV := hid (wrapV_ok (l := l) (by omega))
    have hp := hid (fun w => packed_any (n : Int) (by omega) (by omega) w)
    have hpl := (pack_len (n : Int)).1
    have HW : Hid (wrapB l = (pack (n : Int) ++ l) ++ quad (sumV (pack (n : Int) ++ l))) := hid (by unfold wrapB; rw [hL])
    have hby : ∀ x ∈ pack (n : Int) ++ l, 0 ≤ x ∧ x ≤ 255 := fun x hx => by
      rcases List.mem_append.1 hx with hx | hx
      · exact pack_byte (n : Int) (by omega) (by omega) x hx
      · exact hb x hx
    have hsv := sumV_lt _ hby
    have HS := hid (fun w A m c hr hL => summed_walk (pack (n : Int) ++ l) w A m c hr hL hby)
    have HLl := hid hL
    clear hbig hL hb hby
    generalize hpk : pack (n : Int) = pk at *
    have HPK := hid hpk
    clear hpk
    go_enter Try.func39, Try.ntmps39
    go_wp2_with fail
    refine (hp.out _).mono ?_
    rintro e w1 ⟨A1, q1, rfl, o1, b1⟩
    go_wp2_with fail
    go_loopw [4, 5] (WrapOfRel pk l w) (fun _ i _ => n - (intOf i).toNat)
    case atStart => exact ⟨0, pk.length, q1, A1, by omega, rfl, hid rfl, by omega, rfl, by simpa using o1, b1⟩
    case round =>
      obtain ⟨k, m, c', A', hk, rfl, HM, hm, rfl, hown, hbel⟩ := hrel
      by_cases hlt : k < n
      · obtain ⟨x, hx⟩ : ∃ x, l[k]? = some x := ⟨_, List.getElem?_eq_getElem (by rw [HLl.out]; exact hlt)⟩
        obtain ⟨b, off, rfl, hbb, c0⟩ := byte_cell (hr.below hbel) HLl.out hx
        have HT : Hid (l.take (k + 1) = l.take k ++ [x]) := hid (by rw [List.take_add_one, hx]; rfl)
        have hbr : b < wr.heap.size := by have := hbel.size; omega
        clear hx
        go_wp2_with (at_builtin; refine wp_app1 _ rfl rfl el_bytes rfl (hown.alloc _) rfl (rd_new _ _ _ 1 1 rfl) (one1 _ _) (by omega) (Nat.le_trans hbel.size (by simp)) ?_; intro A3 c3 w4 hown3 hb3 hg3)
        have e : (pk ++ l.take (k + 1)).flatMap u8c = (pk ++ l.take k).flatMap u8c ++ #[Value.int .u8 x].toList := by rw [HT.out, ← List.append_assoc, List.flatMap_append]; rfl
        rw [← e] at hown3
        go_roundw
        case rel => exact ⟨k + 1, m + 1, c3, A3, by rw [HLl.out]; omega, by go_num, hid (by rw [HM.out]; omega), by omega, rfl, hown3, (bA hbel _).trans hb3⟩
        case measure => simp [intOf]; omega
      · obtain rfl : k = n := by have := HLl.out; omega
        have ht : l.take k = l := List.take_of_length_le (by rw [HLl.out]; exact Nat.le_refl _)
        rw [ht] at hown
        have hml : (pk ++ l).length = m := by rw [List.length_append, HLl.out, HM.out]
        have HML := hid hml
        have r3 := rd_own hown
        clear ht hml
        go_wp2_with fail
        refine (HS.out wr A' m c' r3 HML.out (by omega)).mono ?_
        rintro e w3 ⟨rfl, rfl⟩
        obtain ⟨hs0, hs1⟩ := hsv
        generalize sumV (pk ++ l) = s at *
        go_wp2_with (at_builtin; refine wp_app1 _ rfl rfl el_bytes rfl (hown.alloc _) rfl (rd_new _ _ _ 1 4 rfl) (one4b _ _ _ _ _) (by omega) (Nat.le_trans hbel.size (by simp)) ?_; intro A3 c3 w4 hown3 hb3 hg3)
        have e : (wrapB l).flatMap u8c = (pk ++ l).flatMap u8c ++ #[Value.int .u8 (s % 256), Value.int .u8 (s / 256 % 256), Value.int .u8 (s / 65536 % 256), Value.int .u8 (s / 16777216)].toList := by rw [HW.out, List.flatMap_append]; rfl
        have HE := hid e
        have HM4 : Hid ((wrapB l).length = m + 4) := hid (by rw [HW.out]; simp only [List.length_append, quad, List.length_cons, List.length_nil]; have := HML.out; simp only [List.length_append] at this; omega)
        clear e
        go_ret2
        rw [HV.out]
        simp only
        rw [HM4.out, HE.out]
        exact ⟨A3, c3, rfl, hown3, (bA hbel _).trans hb3⟩
end Go.Proofs.Ytiemcicgohldeaa
