/- The comparison of two states. -/
import Derived.Test.YtifpngjipkmdcaaStateD
import Derived.Test.YtifpngjipkmdcaaMem
namespace Go.Proofs.Ytifpngjipkmdcaa
open Go.ChangeShapes Go.WideShapes Go.ChangeAt Go.RowKit
set_option linter.unusedVariables false
set_option linter.unusedSimpArgs false
set_option maxHeartbeats 1000000 in
theorem sameInts_q (l : List Int) (w : World) (A A' : Option Addr) (n n' c c' : Nat) (h1 : Rd w w.heap.size A 1 n (l.flatMap i64c)) (h2 : Rd w w.heap.size A' 1 n' (l.flatMap i64c)) (hL : l.length = n) (hL' : l.length = n') (hn : n ≤ 140737488355328) :
    Calls Try.prog 13 #[.slice A n c, .slice A' n' c'] w fun e w' => e = .returned (.bool true) ∧ ∃ m, w' = w.drewN m := by
  subst hL'
  have HL := hid hL
  rw [hL] at h2 ⊢
  clear hL
  go_enter Try.func13, Try.ntmps13
  go_wp2_with fail
  go_loopw [5] (fun i wr => ∃ k : Nat, k ≤ n ∧ i = .int .i64 k ∧ ∃ m, wr = w.drewN m) (fun i _ => n - (intOf i).toNat)
  case atStart => exact ⟨0, by omega, rfl, 0, rfl⟩
  case round =>
    obtain ⟨k, hk, rfl, nr, rfl⟩ := hrel
    by_cases hlt : k < n
    · obtain ⟨b, off, rfl, hb, hc⟩ := h1.at_ hlt
      obtain ⟨b', off', rfl, hb', hc'⟩ := h2.at_ hlt
      obtain ⟨x, hx⟩ : ∃ x, l[k]? = some x := ⟨_, List.getElem?_eq_getElem (by rw [HL.out]; exact hlt)⟩
      have hg := (flatMap_get (l := l) (cells := i64c) (sz := 1) (fun _ _ => rfl)).2 k x
      have c0 := hc _ _ (hg 0 _ hx rfl)
      have d0 := hc' _ _ (hg 0 _ hx rfl)
      simp only [Nat.mul_one, Nat.add_zero] at c0 d0
      clear hx hg hc hc' h1 h2
      have z1 : (k : Int) < n := by omega
      go_wp2_with fail
      go_quiet (fail)
      go_wp2_with fail
      go_roundw
      case rel => exact ⟨k + 1, by omega, by go_num, _, rfl⟩
      case measure => simp [intOf]; omega
    · go_wp2_with fail
      go_ret
      exact ⟨rfl, _, rfl⟩
def stCells (s : State) (A : Option Addr) (c : Nat) (B : Option Addr) (k : Nat) : Array Value := #[.int .i64 s.step, .int .i64 s.phase, .bool s.fresh, .bool s.done, .slice A s.vals.length c, .slice B s.mail.length k]
def lists {α : Type} (m : List (ML α)) : List (List α) := m.map (·.l)
theorem lists_get {α : Type} {m m' : List (ML α)} (h : lists m' = lists m) {k : Nat} {x : ML α} (hx : m[k]? = some x) : ∃ x', m'[k]? = some x' ∧ x'.l = x.l := by
  have h1 : (lists m)[k]? = some x.l := by unfold lists; rw [List.getElem?_map, hx]; rfl
  rw [← h] at h1
  unfold lists at h1
  rw [List.getElem?_map] at h1
  cases h2 : m'[k]? with
  | none => rw [h2] at h1; cases h1
  | some x' => rw [h2] at h1; exact ⟨x', rfl, by simpa using h1⟩
theorem lists_len {α : Type} {m m' : List (ML α)} (h : lists m' = lists m) : m'.length = m.length := by
  have := congrArg List.length h; simpa [lists] using this
end Go.Proofs.Ytifpngjipkmdcaa
