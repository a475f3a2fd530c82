/- The comparison of two states. -/
import Derived.Test.YteefemiieidpaaaStateD
import Derived.Test.YteefemiieidpaaaMem
namespace Go.Proofs.Yteefemiieidpaaa
open Go.ChangeShapes Go.WideShapes Go.ChangeAt Go.RowKit
set_option linter.unusedVariables false
set_option linter.unusedSimpArgs false
set_option maxHeartbeats 1000000 in
theorem sameInts_q (l : List Int) (w : World) (A A' : Option Addr) (n n' c c' : Nat) (h1 : Rd w w.heap.size A 1 n (l.flatMap i64c)) (h2 : Rd w w.heap.size A' 1 n' (l.flatMap i64c)) (hL : l.length = n) (hL' : l.length = n') (hn : n ≤ 140737488355328) :
    Calls Try.prog 33 #[.slice A n c, .slice A' n' c'] w fun e w' => e = .returned (.bool true) ∧ ∃ m, w' = w.drewN m := by
  subst hL'
  have HL := hid hL
  rw [hL] at h2 ⊢
  clear hL
  go_enter Try.func33, Try.ntmps33
  go_wp2_with fail
  go_loopw [5] (fun i wr => ∃ k : Nat, k ≤ n ∧ i = .int .i64 k ∧ ∃ m, wr = w.drewN m) (fun i _ => n - (intOf i).toNat)
  case atStart => exact ⟨0, by omega, rfl, 0, rfl⟩
  case round =>
    obtain ⟨k, hk, rfl, nr, rfl⟩ := hrel
    by_cases hlt : k < n
    · obtain ⟨b, off, rfl, hb, hc⟩ := h1.at_ hlt
      obtain ⟨b', off', rfl, hb', hc'⟩ := h2.at_ hlt
      obtain ⟨x, hx⟩ : ∃ x, l[k]? = some x := ⟨_, List.getElem?_eq_getElem (by rw [HL.out]; exact hlt)⟩
      have hg := (flatMap_get (l := l) (cells := i64c) (sz := 1) (fun _ _ => rfl)).2 k x
      have c0 := hc _ _ (hg 0 _ hx rfl)
      have d0 := hc' _ _ (hg 0 _ hx rfl)
      simp only [Nat.mul_one, Nat.add_zero] at c0 d0
      clear hx hg hc hc' h1 h2
      have z1 : (k : Int) < n := by omega
      go_wp2_with fail
      go_quiet (fail)
      go_wp2_with fail
      go_roundw
      case rel => exact ⟨k + 1, by omega, by go_num, _, rfl⟩
      case measure => simp [intOf]; omega
    · go_wp2_with fail
      go_ret
      exact ⟨rfl, _, rfl⟩
def stCells (s : State) (A : Option Addr) (c : Nat) (B : Option Addr) (k : Nat) : Array Value := #[.int .i64 s.step, .int .i64 s.phase, .bool s.fresh, .bool s.done, .slice A s.vals.length c, .slice B s.mail.length k]
def lists {α : Type} (m : List (ML α)) : List (List α) := m.map (·.l)
theorem lists_get {α : Type} {m m' : List (ML α)} (h : lists m' = lists m) {k : Nat} {x : ML α} (hx : m[k]? = some x) : ∃ x', m'[k]? = some x' ∧ x'.l = x.l := by
  have h1 : (lists m)[k]? = some x.l := by unfold lists; rw [List.getElem?_map, hx]; rfl
  rw [← h] at h1
  unfold lists at h1
  rw [List.getElem?_map] at h1
  cases h2 : m'[k]? with
  | none => rw [h2] at h1; cases h1
  | some x' => rw [h2] at h1; exact ⟨x', rfl, by simpa using h1⟩
theorem lists_len {α : Type} {m m' : List (ML α)} (h : lists m' = lists m) : m'.length = m.length := by
  have := congrArg List.length h; simpa [lists] using this
set_option maxRecDepth 100000 in
set_option maxHeartbeats 4000000 in
theorem sameState_walk (s : State) (m' : List (ML Int)) (w : World) (A A' B B' : Option Addr) (c c' k k' : Nat) (hm : lists m' = lists s.mail)
    (h1 : Rd w w.heap.size A 2 s.vals.length (s.vals.flatMap Val.cells)) (h2 : Rd w w.heap.size A' 2 s.vals.length (s.vals.flatMap Val.cells)) (hn : s.vals.length ≤ 140737488355328)
    (g1 : Grid i64c 1 w w.heap.size B s.mail) (g2 : Grid i64c 1 w w.heap.size B' m') (hg : s.mail.length ≤ 140737488355328) (hz : ∀ x ∈ s.mail, x.l.length ≤ 140737488355328) :
    Calls Try.prog 10 #[.agg (stCells s A c B k), .agg (stCells { s with mail := m' } A' c' B' k')] w fun e w' => e = .returned (.bool true) ∧ Below w.heap.size w w' := by
  unfold stCells
  have hml := lists_len hm
  have HM := hid hm
  have HZ := hid hz
  clear hm hz
  obtain ⟨s1, s2, s3, s4, vs, m⟩ := s
  simp only at *
  rw [hml]
  generalize hvn : vs.length = vn at *
  generalize hmn : m.length = mn at *
  have b0 := bA (bA (Below.refl w.heap.size w) (.cells #[.int .i64 s1, .int .i64 s2, .bool s3, .bool s4, .slice A vn c, .slice B mn k] 30)) (.cells #[.int .i64 s1, .int .i64 s2, .bool s3, .bool s4, .slice A' vn c', .slice B' mn k'] 30)
  have HS := hid (fun w (h1 : Rd w w.heap.size A 2 vn (vs.flatMap Val.cells)) (h2 : Rd w w.heap.size A' 2 vn (vs.flatMap Val.cells)) => sameValues_walk vs w A A' c c' (by rw [hvn]; exact h1) (by rw [hvn]; exact h2) (by rw [hvn]; exact hn))
  rw [hvn] at HS
  have HMN := hid hmn
  have HML := hid hml
  clear hvn hmn hml
  go_enter Try.func10, Try.ntmps10
  go_wp2_with fail
  refine (HS.out _ (rdb h1 (by decide) b0) (rdb h2 (by decide) b0)).mono ?_
  rintro e w1 ⟨rfl, b1⟩
  have p0 : w1.cell? ⟨w.heap.size, 5, none⟩ = some (.slice B mn k) := keepb b1 (by go_simp)
  have p1 : w1.cell? ⟨w.heap.size + 1, 5, none⟩ = some (.slice B' mn k') := keepb b1 (by go_simp)
  have b01 := bT b0 b1
  have hz1 := b1.size
  simp only [World.size_alloc] at hz1
  clear b1 HS b0
  go_wp2_with fail
  go_loopw [5] (fun i wr => ∃ j : Nat, j ≤ mn ∧ i = .int .i64 j ∧ Below w1.heap.size w1 wr) (fun i _ => mn - (intOf i).toNat)
  case atStart => exact ⟨0, by omega, rfl, Below.refl _ _⟩
  case round =>
    obtain ⟨j, hj, rfl, hbel⟩ := hrel
    have p0 := keepb hbel p0
    have p1 := keepb hbel p1
    have b0r := bT b01 hbel
    by_cases hlt : j < mn
    · obtain ⟨x, hx⟩ : ∃ x, m[j]? = some x := ⟨_, List.getElem?_eq_getElem (by rw [HMN.out]; exact hlt)⟩
      obtain ⟨x', hx', hxx⟩ := lists_get HM.out hx
      have hxm := List.mem_of_getElem? hx
      have hxm' := List.mem_of_getElem? hx'
      obtain ⟨b, off, rfl, hb, c0⟩ := ml_cell (g1.1.below b0r) rfl hx
      obtain ⟨b', off', rfl, hb', d0⟩ := ml_cell (g2.1.below b0r) rfl hx'
      have r1 := rdb (Grid.data g1 hxm) (by decide) b0r
      have r2 := rdb (Grid.data g2 hxm') (by decide) b0r
      rw [hxx] at r2 d0
      have HQ := hid (fun q => sameInts_q x.l (wr.drewN q) x.A x'.A x.l.length x.l.length x.c x'.c r1 r2 rfl rfl (HZ.out x hxm))
      have hjz : (j : Int) < (mn : Int) := by omega
      clear hx hx' hxx r1 r2 hxm hxm'
      go_wp2_with fail
      go_quiet ((go_at_call 33; exact Calls.quiet_of (HQ.out _)))
      go_wp2_with fail
      go_roundw
      case rel => exact ⟨j + 1, by omega, by go_num, below_drewN hbel _⟩
      case measure => simp [intOf]; omega
    · obtain rfl : j = mn := by omega
      go_wp2_with fail
      go_ret
      exact ⟨rfl, b0r⟩
end Go.Proofs.Yteefemiieidpaaa
