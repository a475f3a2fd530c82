/- frame.Wrap, the document's Wrapped; the statement. -/
import Derived.Test.YtiemcicgohldeaaFrms
import Derived.Test.YtiemcicgohldeaaPack
import Derived.Test.YtiemcicgohldeaaBytes
import Derived.Test.YtiemcicgohldeaaMem
namespace Go.Proofs.Ytiemcicgohldeaa
open Go.ChangeShapes Go.WideShapes Go.ChangeAt Go.RowKit
set_option linter.unusedVariables false
set_option linter.unusedSimpArgs false
/-- The four bytes of a sum. -/
def quad (s : Int) : List Int := [s % 256, s / 256 % 256, s / 65536 % 256, s / 16777216]
def wrapB (l : List Int) : List Int := (pack l.length ++ l) ++ quad (sumV (pack l.length ++ l))
def wrapV (l : List Int) : List Int × Int := if 20000 < l.length then ([], 1) else (wrapB l, 0)
theorem sumV_lt (l : List Int) (h : ∀ x ∈ l, 0 ≤ x ∧ x ≤ 255) : 0 ≤ sumV l ∧ sumV l < 4294967296 := by
  unfold sumV crc
  omega
theorem quad_byte (s : Int) (h0 : 0 ≤ s) (h1 : s < 4294967296) : ∀ x ∈ quad s, 0 ≤ x ∧ x ≤ 255 := by
  intro x hx
  simp [quad] at hx
  omega
theorem one1 (k : IntKind) (x : Int) : ∀ u ∈ (#[Value.int k x] : Array Value).toList, u.oneCell' = true := by
  intro u hu; simp at hu; subst hu; rfl
theorem one4b (k : IntKind) (a b c d : Int) : ∀ u ∈ (#[Value.int k a, Value.int k b, Value.int k c, Value.int k d] : Array Value).toList, u.oneCell' = true := by
  intro u hu; simp at hu; rcases hu with rfl | rfl | rfl | rfl <;> rfl
theorem wrapV_big {l : List Int} (h : 20000 < l.length) : wrapV l = ([], 1) := by unfold wrapV; rw [if_pos h]
theorem wrapV_ok {l : List Int} (h : ¬ 20000 < l.length) : wrapV l = (wrapB l, 0) := by unfold wrapV; rw [if_neg h]
def WrapRel (B : List Int) (s : Int) (w : World) (v i : Value) (wr : World) : Prop :=
  ∃ (k m c : Nat) (A : Option Addr), k ≤ 4 ∧ i = .int .i64 k ∧ Hid (m = B.length + k) ∧ m ≤ 20010 + k ∧ v = .slice A m c ∧ wr.ownsRow w.heap.size 5 1 (.slice A m c) m ((B ++ (quad s).take k).flatMap u8c) ∧ Below w.heap.size w wr
set_option maxRecDepth 100000 in
set_option maxHeartbeats 2000000 in
theorem wrap_walk (l : List Int) (w : World) (A : Option Addr) (n c : Nat) (hr : Rd w w.heap.size A 1 n (l.flatMap u8c)) (hL : l.length = n) (hb : ∀ x ∈ l, 0 ≤ x ∧ x ≤ 255) (hn : n ≤ 140737488355328) :
    Calls Try.prog 34 #[.slice A n c] w (RetL 5 1 w (wrapV l).1.length ((wrapV l).1.flatMap u8c) (wrapV l).2) := by
  by_cases hbig : 20000 < n
  · rw [wrapV_big (by omega)]
    go_enter Try.func34, Try.ntmps34
    go_wp2_with fail
    go_ret2
    exact ⟨none, 0, rfl, World.ownsRow_nil _ _ _ _, Below.refl _ _⟩
  · have hsm : (n : Int) ≤ 20000 := by omega
    have HV := hid (wrapV_ok (l := l) (by omega))
    have hp := hid (fun w => put_walk (n : Int) (by omega) (by omega) w)
    have hpl := (pack_len (n : Int)).1
    have HW : Hid (wrapB l = (pack (n : Int) ++ l) ++ quad (sumV (pack (n : Int) ++ l))) := hid (by unfold wrapB; rw [hL])
    have hby : ∀ x ∈ pack (n : Int) ++ l, 0 ≤ x ∧ x ≤ 255 := fun x hx => by
      rcases List.mem_append.1 hx with hx | hx
      · exact pack_byte (n : Int) (by omega) (by omega) x hx
      · exact hb x hx
    have hsv := sumV_lt _ hby
    have HS := hid (fun w A m c hr hL => sum_walk (pack (n : Int) ++ l) w A m c hr hL hby)
    have HLl := hid hL
    clear hbig hL hb hby
    generalize hpk : pack (n : Int) = pk at *
    have HPK := hid hpk
    clear hpk
    go_enter Try.func34, Try.ntmps34
    go_wp2_with fail
    refine (hp.out _).mono ?_
    rintro e w1 ⟨A1, q1, rfl, o1, b1⟩
    have r1 := hr.below b1
    go_wp2_with (at_builtin; refine wp_app1 _ rfl rfl el_bytes rfl o1 rfl r1 (one_u8 l) (by omega) b1.size ?_; intro A2 c2 w2 o2 b2 g2)
    rw [← List.flatMap_append] at o2
    go_wp2_with fail
    refine (HS.out _ A2 (pk.length + n) c2 (rd_own o2) (by rw [List.length_append, HLl.out]) (by omega)).mono ?_
    rintro e w3 ⟨rfl, b3⟩
    obtain ⟨hs0, hs1⟩ := hsv
    generalize sumV (pk ++ l) = s at *
    have b13 := (b1.trans b2).trans (b3.mono (by have := b1.size; have := b2.size; omega))
    have o3 := own_below (base' := w.heap.size) o2 b3 (Nat.le_refl _)
    go_wp2_with fail
    go_loopw [4, 18] (WrapRel (pk ++ l) s w) (fun _ i _ => 4 - (intOf i).toNat)
    case atStart => exact ⟨0, pk.length + n, c2, A2, by omega, rfl, hid (by rw [List.length_append, HLl.out]; rfl), by omega, rfl, by simpa using o3, b13⟩
    case round =>
      obtain ⟨k, m, c', A', hk, rfl, HM, hm, rfl, hown, hbel⟩ := hrel
      by_cases hlt : k < 4
      · have hk4 : k = 0 ∨ k = 1 ∨ k = 2 ∨ k = 3 := by omega
        rcases hk4 with rfl | rfl | rfl | rfl
        · go_wp2_with (at_builtin; refine wp_app1 _ rfl rfl el_bytes rfl (hown.alloc _) rfl (rd_new _ _ _ 1 1 rfl) (one1 _ _) (by omega) (Nat.le_trans hbel.size (by simp)) ?_; intro A3 c3 w4 hown3 hb3 hg3)
          have e : ((pk ++ l) ++ (quad s).take 1).flatMap u8c = ((pk ++ l) ++ (quad s).take 0).flatMap u8c ++ #[Value.int IntKind.u8 (s % 256)].toList := by simp [quad, u8c]
          rw [← e] at hown3
          go_roundw
          case rel => exact ⟨1, m + 1, c3, A3, by omega, rfl, hid (by rw [HM.out]), by omega, rfl, hown3, (bA hbel _).trans hb3⟩
          case measure => simp [intOf]
        · go_wp2_with (at_builtin; refine wp_app1 _ rfl rfl el_bytes rfl (hown.alloc _) rfl (rd_new _ _ _ 1 1 rfl) (one1 _ _) (by omega) (Nat.le_trans hbel.size (by simp)) ?_; intro A3 c3 w4 hown3 hb3 hg3)
          have e : ((pk ++ l) ++ (quad s).take 2).flatMap u8c = ((pk ++ l) ++ (quad s).take 1).flatMap u8c ++ #[Value.int IntKind.u8 (s / 256 % 256)].toList := by simp [quad, u8c]
          rw [← e] at hown3
          go_roundw
          case rel => exact ⟨2, m + 1, c3, A3, by omega, rfl, hid (by rw [HM.out]), by omega, rfl, hown3, (bA hbel _).trans hb3⟩
          case measure => simp [intOf]
        · go_wp2_with (at_builtin; refine wp_app1 _ rfl rfl el_bytes rfl (hown.alloc _) rfl (rd_new _ _ _ 1 1 rfl) (one1 _ _) (by omega) (Nat.le_trans hbel.size (by simp)) ?_; intro A3 c3 w4 hown3 hb3 hg3)
          have e : ((pk ++ l) ++ (quad s).take 3).flatMap u8c = ((pk ++ l) ++ (quad s).take 2).flatMap u8c ++ #[Value.int IntKind.u8 (s / 65536 % 256)].toList := by simp [quad, u8c]
          rw [← e] at hown3
          go_roundw
          case rel => exact ⟨3, m + 1, c3, A3, by omega, rfl, hid (by rw [HM.out]), by omega, rfl, hown3, (bA hbel _).trans hb3⟩
          case measure => simp [intOf]
        · go_wp2_with (at_builtin; refine wp_app1 _ rfl rfl el_bytes rfl (hown.alloc _) rfl (rd_new _ _ _ 1 1 rfl) (one1 _ _) (by omega) (Nat.le_trans hbel.size (by simp)) ?_; intro A3 c3 w4 hown3 hb3 hg3)
          have e : ((pk ++ l) ++ (quad s).take 4).flatMap u8c = ((pk ++ l) ++ (quad s).take 3).flatMap u8c ++ #[Value.int IntKind.u8 (s / 16777216)].toList := by simp [quad, u8c]
          rw [← e] at hown3
          go_roundw
          case rel => exact ⟨4, m + 1, c3, A3, by omega, rfl, hid (by rw [HM.out]), by omega, rfl, hown3, (bA hbel _).trans hb3⟩
          case measure => simp [intOf]
      · obtain rfl : k = 4 := by omega
        have HM4 : Hid (m = (wrapB l).length) := hid (by rw [HM.out, HW.out]; simp only [List.length_append, quad, List.length_cons, List.length_nil])
        have e4 : (pk ++ l) ++ (quad s).take 4 = wrapB l := by rw [HW.out]; rfl
        rw [e4] at hown
        have HVV := hid HV.out
        clear HM e4
        go_wp2_with fail
        go_ret2
        rw [HVV.out]
        simp only
        rw [← HM4.out]
        exact ⟨A', c', rfl, hown, hbel⟩
end Go.Proofs.Ytiemcicgohldeaa
