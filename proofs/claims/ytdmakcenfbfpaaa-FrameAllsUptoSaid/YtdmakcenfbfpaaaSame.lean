/- The comparisons of the statements: of alike lists they say true. -/
import Derived.Test.YtdmakcenfbfpaaaCopy
namespace Go.Proofs.Ytdmakcenfbfpaaa
open Go.ChangeShapes Go.WideShapes Go.ChangeAt Go.RowKit
set_option linter.unusedVariables false
set_option linter.unusedSimpArgs false
set_option maxHeartbeats 1000000 in
theorem sameInts_walk (l : List Int) (w : World) (A A' : Option Addr) (c c' : Nat) (h1 : Rd w w.heap.size A 1 l.length (l.flatMap i64c)) (h2 : Rd w w.heap.size A' 1 l.length (l.flatMap i64c)) (hn : l.length ≤ 140737488355328) :
    Calls Try.prog 20 #[.slice A l.length c, .slice A' l.length c'] w fun e w' => e = .returned (.bool true) ∧ Below w.heap.size w w' := by
  generalize hL : l.length = n at *
  have HL := hid hL
  clear hL
  go_enter Try.func20, Try.ntmps20
  go_wp2
  go_loopw [5] (fun i wr => ∃ k : Nat, k ≤ n ∧ i = .int .i64 k ∧ Below w.heap.size w wr) (fun i _ => n - (intOf i).toNat)
  case atStart => exact ⟨0, by omega, rfl, Below.refl _ _⟩
  case round =>
    obtain ⟨k, hk, rfl, hbel⟩ := hrel
    by_cases hlt : k < n
    · obtain ⟨b, off, rfl, hb, hc⟩ := (h1.below hbel).at_ hlt
      obtain ⟨b', off', rfl, hb', hc'⟩ := (h2.below hbel).at_ hlt
      obtain ⟨x, hx⟩ : ∃ x, l[k]? = some x := ⟨_, List.getElem?_eq_getElem (by rw [HL.out]; exact hlt)⟩
      have hg := (flatMap_get (l := l) (cells := i64c) (sz := 1) (fun _ _ => rfl)).2 k x
      have c0 := hc _ _ (hg 0 _ hx rfl)
      have d0 := hc' _ _ (hg 0 _ hx rfl)
      simp only [Nat.mul_one, Nat.add_zero] at c0 d0
      clear hx hg hc hc' h1 h2
      have z0 : (0 : Int) ≤ k := by omega
      have z1 : (k : Int) < n := by omega
      go_wp2
      go_quiet (fail)
      go_wp2
      go_roundw
      case rel => exact ⟨k + 1, by omega, by go_num, below_drewN hbel _⟩
      case measure => simp [intOf]; omega
    · go_wp2
      go_ret
      exact ⟨rfl, hbel⟩
set_option maxHeartbeats 1000000 in
theorem sameMails_walk (l : List Mail) (w : World) (A A' : Option Addr) (c c' : Nat) (h1 : Rd w w.heap.size A 2 l.length (l.flatMap Mail.cells)) (h2 : Rd w w.heap.size A' 2 l.length (l.flatMap Mail.cells)) (hn : l.length ≤ 140737488355328) :
    Calls Try.prog 25 #[.slice A l.length c, .slice A' l.length c'] w fun e w' => e = .returned (.bool true) ∧ Below w.heap.size w w' := by
  generalize hL : l.length = n at *
  have HL := hid hL
  clear hL
  go_enter Try.func25, Try.ntmps25
  go_wp2
  go_loopw [5] (fun i wr => ∃ k : Nat, k ≤ n ∧ i = .int .i64 k ∧ Below w.heap.size w wr) (fun i _ => n - (intOf i).toNat)
  case atStart => exact ⟨0, by omega, rfl, Below.refl _ _⟩
  case round =>
    obtain ⟨k, hk, rfl, hbel⟩ := hrel
    by_cases hlt : k < n
    · obtain ⟨b, off, rfl, hb, hc⟩ := (h1.below hbel).at_ hlt
      obtain ⟨b', off', rfl, hb', hc'⟩ := (h2.below hbel).at_ hlt
      obtain ⟨x, hx⟩ : ∃ x, l[k]? = some x := ⟨_, List.getElem?_eq_getElem (by rw [HL.out]; exact hlt)⟩
      have hg := (flatMap_get (l := l) (cells := Mail.cells) (sz := 2) (fun _ _ => rfl)).2 k x
      have c0 := hc _ _ (hg 0 _ hx rfl)
      have d0 := hc' _ _ (hg 0 _ hx rfl)
      have c1 := hc _ _ (hg 1 _ hx rfl)
      have d1 := hc' _ _ (hg 1 _ hx rfl)
      simp only [Nat.add_zero, ← Nat.add_assoc] at c0 c1 d0 d1
      clear hx hg hc hc' h1 h2
      have z0 : (0 : Int) ≤ k := by omega
      have z1 : (k : Int) < n := by omega
      go_wp2
      go_quiet (fail)
      go_wp2
      go_roundw
      case rel => exact ⟨k + 1, by omega, by go_num, below_drewN hbel _⟩
      case measure => simp [intOf]; omega
    · go_wp2
      go_ret
      exact ⟨rfl, hbel⟩
end Go.Proofs.Ytdmakcenfbfpaaa
