/- store's eye: want. -/
import Derived.Test.YtiemcicgohldeaaUnw
import Derived.Defers
import Derived.Recover
import Derived.WalkSmall
namespace Go.Proofs.Ytiemcicgohldeaa
open Go.ChangeShapes Go.WideShapes Go.ChangeAt Go.RowKit
set_option linter.unusedVariables false
set_option linter.unusedSimpArgs false
/-- The panic that an eye throws. -/
abbrev badP : List PanicEntry := [{ v := .iface 55 (.agg #[.int .i64 3]), recovered := false }]
set_option maxHeartbeats 400000 in
theorem want_yes (p : Value) (w : World) : Calls Try.prog 21 #[p, .bool true] w fun e w' => e = .returned (.tuple #[]) ∧ w = w' := by
  go_enter Try.func21, Try.ntmps21
  go_wp2_with fail
  go_end0
  exact ⟨rfl, rfl⟩
set_option maxHeartbeats 400000 in
theorem want_no (p : Value) (w : World) : Calls Try.prog 21 #[p, .bool false] w fun e w' => e = .panicked badP ∧ w = w' := by
  go_enter Try.func21, Try.ntmps21
  go_wp2_with fail
  first | exact ⟨rfl, rfl⟩ | (refine ⟨rfl, rfl, rfl⟩) | (simp [bodyPost])
set_option maxRecDepth 100000 in
set_option maxHeartbeats 400000 in
theorem eyeGet_bad (l : List Int) (most : Int) (hm : 0 ≤ most ∧ most ≤ 9223372036854775807) (w : World) (A : Option Addr) (c G : Nat) (h0 : w.cell? ⟨G, 0, none⟩ = some (.slice A l.length c)) (hr : Rd w w.heap.size A 1 l.length (l.map (Value.int .u8))) (hl : ∀ x ∈ l, 0 ≤ x ∧ x ≤ 255) (hn : l.length ≤ 9223372036854775807) (hb : (getv l).2.2 ≠ 0) :
    Calls Try.prog 22 #[.pointer (some ⟨G, 0, none⟩), .int .i64 most] w fun e w' => e = .panicked badP ∧ w = w' := by
  have HG := hid (get_walk l w A l.length c hr hl hn)
  have hbb : ((getv l).2.2 == 0) = false := by simpa using hb
  have HW := hid (fun p V => want_no p V)
  generalize getv l = gv at *
  obtain ⟨x, k, r⟩ := gv
  dsimp only at *
  go_enter Try.func22, Try.ntmps22
  go_wp2_with fail
  refine HG.out.mono ?_
  rintro e w1 ⟨rfl, rfl⟩
  go_wp2_with fail
  refine (HW.out _ _).mono ?_
  rintro e w2 ⟨rfl, rfl⟩
  go_wp2_with fail
  first | exact ⟨rfl, rfl⟩ | (refine ⟨rfl, rfl, rfl⟩)
set_option maxRecDepth 100000 in
set_option maxHeartbeats 400000 in
theorem eyeGet_big (l : List Int) (most : Int) (hm : 0 ≤ most ∧ most ≤ 9223372036854775807) (w : World) (A : Option Addr) (c G : Nat) (h0 : w.cell? ⟨G, 0, none⟩ = some (.slice A l.length c)) (hf : w.frozen? ⟨G, 0, none⟩ = false) (hr : Rd w w.heap.size A 1 l.length (l.map (Value.int .u8))) (hl : ∀ x ∈ l, 0 ≤ x ∧ x ≤ 255) (hn : l.length ≤ 9223372036854775807) {x k : Int} (hv : getv l = (x, k, 0)) (hb : ¬ x ≤ most) :
    Calls Try.prog 22 #[.pointer (some ⟨G, 0, none⟩), .int .i64 most] w fun e w' => e = .panicked badP ∧ w = w' := by
  have HG := hid (get_walk l w A l.length c hr hl hn)
  have hbb : decide (x ≤ most) = false := by simpa using hb
  have HW := hid (fun p V => want_no p V)
  have hwm : IntKind.u64.wrap most = most := IntWalk.u64_in _ (by omega)
  rw [hv] at HG
  clear hv
  go_enter Try.func22, Try.ntmps22
  go_wp2_with fail
  refine HG.out.mono ?_
  rintro e w1 ⟨rfl, rfl⟩
  go_wp2_with fail
  refine (HW.out _ _).mono ?_
  rintro e w2 ⟨rfl, rfl⟩
  go_wp2_with fail
  first | exact ⟨rfl, rfl⟩ | (refine ⟨rfl, rfl, rfl⟩)
set_option maxRecDepth 100000 in
set_option maxHeartbeats 400000 in
theorem eyeGet_ok (l : List Int) (most : Int) (hm : 0 ≤ most ∧ most ≤ 9223372036854775807) (w : World) (b off : Nat) (c G : Nat) (h0 : w.cell? ⟨G, 0, none⟩ = some (.slice (some ⟨b, off, none⟩) l.length c)) (hf : w.frozen? ⟨G, 0, none⟩ = false) (hr : Rd w w.heap.size (some ⟨b, off, none⟩) 1 l.length (l.map (Value.int .u8))) (hl : ∀ x ∈ l, 0 ≤ x ∧ x ≤ 255) (hn : l.length ≤ 9223372036854775807) {x : Int} {k : Nat} (hv : getv l = (x, (k : Int), 0)) (hk : k ≤ l.length) (hc : l.length ≤ c) (hc2 : c ≤ 9223372036854775807) (hb : x ≤ most) (hx : 0 ≤ x) :
    Calls Try.prog 22 #[.pointer (some ⟨G, 0, none⟩), .int .i64 most] w fun e w' => e = .returned (.int .i64 x) ∧ ∃ off', (k < l.length → off' = off + k) ∧ w' = w.setCell ⟨G, 0, none⟩ (.slice (some ⟨b, off', none⟩) (l.length - k) (c - k)) := by
  have hkz : (0 : Int) ≤ (k : Int) := by omega
  have hkl : (k : Int) ≤ (l.length : Int) := by omega
  have hkc : (k : Int) ≤ (c : Int) := by omega
  have HG := hid (get_walk l w (some ⟨b, off, none⟩) l.length c hr hl hn)
  have HW := hid (fun p V => want_yes p V)
  have hwm : IntKind.u64.wrap most = most := IntWalk.u64_in _ (by omega)
  have hwx : IntKind.i64.wrap x = x := IntWalk.i64_in _ (by omega)
  rw [hv] at HG
  clear hv
  go_enter Try.func22, Try.ntmps22
  go_wp2_with fail
  refine HG.out.mono ?_
  rintro e w1 ⟨rfl, rfl⟩
  go_wp2_with fail
  refine (HW.out _ _).mono ?_
  rintro e w2 ⟨rfl, rfl⟩
  go_wp2_with fail
  all_goals
    go_ret
    first | exact ⟨rfl, off + k, fun _ => rfl, rfl⟩ | exact ⟨rfl, off, fun h => (by omega), rfl⟩
end Go.Proofs.Ytiemcicgohldeaa
