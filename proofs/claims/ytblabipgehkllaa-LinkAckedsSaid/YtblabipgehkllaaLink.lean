/- link: the small functions. -/
import Derived.Test.YtblabipgehkllaaIn
import Derived.Test.YtblabipgehkllaaLibB
import Derived.Test.YtblabipgehkllaaPack
namespace Go.Proofs.Ytblabipgehkllaa
open Go.ChangeShapes Go.WideShapes Go.ChangeAt Go.RowKit
set_option linter.unusedVariables false
def endsB (e n : Int) : Bool := decide (0 ≤ e ∧ e ≤ 1099511627776 ∧ 0 ≤ n ∧ n ≤ 1099511627776)
theorem ends_walk (e n : Int) (w : World) :
    Calls Try.prog 74 #[.int .i64 e, .int .i64 n] w fun r w' => r = .returned (.bool (endsB e n)) ∧ w = w' := by
  have hd : e < 0 ∨ (0 ≤ e ∧ 1099511627776 < e) ∨ (0 ≤ e ∧ e ≤ 1099511627776 ∧ n < 0) ∨ (0 ≤ e ∧ e ≤ 1099511627776 ∧ 0 ≤ n) := by omega
  have HF : Hid (endsB e n = (decide (0 ≤ e) && decide (e ≤ 1099511627776) && decide (0 ≤ n) && decide (n ≤ 1099511627776))) := hid (by simp [endsB, Bool.and_assoc])
  rcases hd with h1 | ⟨h1, h2⟩ | ⟨h1, h2, h3⟩ | ⟨h1, h2, h3⟩
  all_goals
    go_enter Try.func74, Try.ntmps74
    go_wp2
    go_ret
    rw [HF.out]
  · exact ⟨retb (by simp; omega), rfl⟩
  · exact ⟨retb (by simp; omega), rfl⟩
  · exact ⟨retb (by simp; omega), rfl⟩
  · exact ⟨retb (by simp [h1, h2, h3]), rfl⟩
def senderB (e b : Int) (n : Nat) : Bool := decide (0 ≤ e ∧ e ≤ 1099511627776 ∧ 0 ≤ b ∧ b ≤ 1099511627776 ∧ n ≤ 5000)
theorem sender_walk (e b : Int) (A : Option Addr) (n c : Nat) (w : World) :
    Calls Try.prog 78 #[.agg #[.int .i64 e, .int .i64 b, .slice A n c]] w fun r w' => r = .returned (.bool (senderB e b n)) ∧ Below w.heap.size w w' := by
  have HF : Hid (senderB e b n = (endsB e b && decide (n ≤ 5000))) := hid (by simp [senderB, endsB, Bool.and_assoc])
  cases hE : endsB e b
  · have HV : Hid (senderB e b n = false) := hid (by rw [HF.out, hE]; rfl)
    go_enter Try.func78, Try.ntmps78
    go_wp2_with (go_at_call 74; refine (ends_walk _ _ _).mono ?_; rintro e w' ⟨rfl, rfl⟩)
    go_ret
    exact ⟨retb HV.out.symm, bA (Below.refl _ _) _⟩
  · by_cases hn : n ≤ 5000
    · have HV : Hid (senderB e b n = true) := hid (by rw [HF.out, hE]; simp [hn])
      go_enter Try.func78, Try.ntmps78
      go_wp2_with (go_at_call 74; refine (ends_walk _ _ _).mono ?_; rintro e w' ⟨rfl, rfl⟩)
      go_ret
      rw [HV.out]
      exact ⟨retb (by simp; omega), bA (Below.refl _ _) _⟩
    · have HV : Hid (senderB e b n = false) := hid (by rw [HF.out, hE]; simp; omega)
      go_enter Try.func78, Try.ntmps78
      go_wp2_with (go_at_call 74; refine (ends_walk _ _ _).mono ?_; rintro e w' ⟨rfl, rfl⟩)
      go_ret
      rw [HV.out]
      exact ⟨retb (by simp; omega), bA (Below.refl _ _) _⟩
theorem senderMay_walk (e b : Int) (A : Option Addr) (n c : Nat) (w : World) :
    Calls Try.prog 80 #[.agg #[.int .i64 e, .int .i64 b, .slice A n c]] w fun r w' => r = .returned (.bool (senderB e b n)) ∧ Below w.heap.size w w' := by
  have HF : Hid (senderB e b n = (inB e 0 1099511627776 && inB b 0 1099511627776 && decide (n ≤ 5000))) := hid (by simp [senderB, inB, Bool.and_assoc])
  cases h1 : inB e 0 1099511627776 <;> cases h2 : inB b 0 1099511627776
  all_goals
    have HV := HF
    rw [h1, h2] at HV
    go_enter Try.func80, Try.ntmps80
    go_wp2_with (go_at_call 72; refine (In_walk _ _ _ _).mono ?_; rintro e w' ⟨rfl, rfl⟩)
    go_ret
    rw [HV.out]
  · exact ⟨rfl, bA (Below.refl _ _) _⟩
  · exact ⟨rfl, bA (Below.refl _ _) _⟩
  · exact ⟨rfl, bA (Below.refl _ _) _⟩
  · exact ⟨retb (by simp; omega), bA (Below.refl _ _) _⟩
theorem flying_walk (e b : Int) (A : Option Addr) (n c : Nat) (w : World) :
    Calls Try.prog 79 #[.agg #[.int .i64 e, .int .i64 b, .slice A n c]] w fun r w' => r = .returned (.int .i64 ((min n 4 : Nat) : Int)) ∧ Below w.heap.size w w' := by
  by_cases hn : n ≤ 4
  · rw [Nat.min_eq_left hn]
    go_enter Try.func79, Try.ntmps79
    go_wp2
    go_ret
    exact ⟨rfl, bA (Below.refl _ _) _⟩
  · rw [Nat.min_eq_right (by omega)]
    go_enter Try.func79, Try.ntmps79
    go_wp2
    go_ret
    exact ⟨rfl, bA (Below.refl _ _) _⟩
theorem clone_walk (l : List Mail) (A : Option Addr) (n c B : Nat) (w : World) (hr : Rd w B A 2 n (l.flatMap Mail.cells)) (hn : n * 16 ≤ 140737488355328) :
    Calls Try.prog 81 #[.slice A n c] w (RetS 65 2 w n (l.flatMap Mail.cells)) := by
  cases A with
  | none =>
    have h0 : n = 0 := by
      rcases Nat.eq_zero_or_pos n with h | h
      · exact h
      · obtain ⟨b, off, e, _⟩ := hr.2 h; cases e
    subst h0
    have hl := hr.1
    have hx : l.flatMap Mail.cells = [] := List.eq_nil_of_length_eq_zero (by simpa using hl)
    rw [hx]
    clear hx hl hr
    have hnil := fun w => Lib.run_eql_slice_nil (P := Try.prog) w 39 65 none 0 c 0 0 Try.underlying39
    go_enter Try.func81, Try.ntmps81
    go_wp2
    go_ret
    exact ⟨none, 0, rfl, World.ownsRow_nil _ _ _ _, Below.refl _ _⟩
  | some a =>
    have hnil := fun w => Lib.run_eql_slice_nil (P := Try.prog) w 39 65 (some a) n c 0 0 Try.underlying39
    have r0 := (hr.any (by decide)).alloc (Nat.le_refl _) (.cells #[] 65)
    have o0 : (w.alloc (.cells #[] 65)).ownsRow w.heap.size 65 2 (.slice (some ⟨w.heap.size, 0, none⟩) 0 0) 0 [] := World.ownsRow_lit w #[] 0 (Nat.le_refl _) (by simp [maxLen]) rfl
    go_enter Try.func81, Try.ntmps81
    go_wp2_with (at_builtin; refine wp_app1 _ rfl rfl el_mails rfl o0 rfl r0 (one_Mail l) (by omega) (by simp) ?_; intro A' c' w1 hown1 hb1 hg1)
    go_ret
    rw [Nat.zero_add] at hown1
    exact ⟨A', c', by rw [← Nat.zero_add n]; rfl, hown1, (bA (Below.refl _ _) _).trans hb1⟩
def FromRel (l : List Mail) (f : Nat) (w : World) (s i : Value) (wr : World) : Prop :=
  ∃ (k m c : Nat) (A : Option Addr), k ≤ l.length - f ∧ Hid (m = k) ∧ i = .int .i64 ((f + k : Nat) : Int) ∧ s = .slice A m c ∧ wr.ownsRow w.heap.size 65 2 (.slice A m c) m (((l.drop f).take k).flatMap Mail.cells) ∧ Below w.heap.size w wr
set_option maxHeartbeats 1000000 in
theorem mailsFrom_walk (l : List Mail) (A : Option Addr) (n c f : Nat) (w : World) (hr : Rd w w.heap.size A 2 n (l.flatMap Mail.cells)) (hn : n * 16 ≤ 140737488355328) (hf : f ≤ 9223372036854775807) (hL : l.length = n) :
    Calls Try.prog 82 #[.slice A n c, .int .i64 f] w (RetS 65 2 w (n - f) ((l.drop f).flatMap Mail.cells)) := by
  have HL := hid hL
  clear hL
  go_enter Try.func82, Try.ntmps82
  go_wp2
  go_loopw [5, 6] (FromRel l f w) (fun _ i _ => n - (intOf i).toNat)
  case atStart => exact ⟨0, 0, 0, none, by omega, hid rfl, rfl, rfl, World.ownsRow_nil _ _ _ _, Below.refl _ _⟩
  case round =>
    obtain ⟨k, m, c', A', hk, HM, rfl, rfl, hown, hbel⟩ := hrel
    have hkn : k ≤ n - f := by rw [← HL.out]; exact hk
    by_cases hlt : f + k < n
    · obtain ⟨b, off, rfl, hb, hc⟩ := (hr.below hbel).at_ hlt
      obtain ⟨x, hx⟩ : ∃ x, l[f + k]? = some x := ⟨_, List.getElem?_eq_getElem (by rw [HL.out]; exact hlt)⟩
      have hg := (flatMap_get (l := l) (cells := Mail.cells) (sz := 2) (fun _ _ => rfl)).2 (f + k) x
      have c0 := hc _ _ (hg 0 _ hx rfl)
      have c1 := hc _ _ (hg 1 _ hx rfl)
      simp only [Nat.add_zero, ← Nat.add_assoc] at c0 c1
      have HT : Hid ((l.drop f).take (k + 1) = (l.drop f).take k ++ [x]) := hid (by rw [List.take_add_one, List.getElem?_drop, hx]; rfl)
      have hmk : m ≤ n := by have := HM.out; omega
      have hmn : (m + 1) * 16 ≤ 140737488355328 := by have := HM.out; omega
      clear hx hg hc hr
      have z0 : (0 : Int) ≤ f + k := by omega
      go_wp2_with (at_builtin; refine wp_app1 _ rfl rfl el_mails rfl (hown.alloc _) rfl (rd_new _ _ _ 2 1 rfl) (by intro u hu; simp at hu; rcases hu with rfl | rfl <;> rfl) hmn (Nat.le_trans hbel.size (by simp)) ?_; intro A2 c2 w1 hown1 hb1 hg1)
      go_roundw
      case rel => exact ⟨k + 1, m + 1, c2, A2, by rw [HL.out]; omega, hid (by rw [HM.out]), by go_num, rfl, by rw [HT.out, List.flatMap_append]; exact hown1, (hbel.alloc hbel.size _).trans hb1⟩
      case measure => simp [intOf]; omega
    · have e : (l.drop f).take k = l.drop f := List.take_of_length_le (by rw [List.length_drop, HL.out]; omega)
      have hM : m = n - f := by have := HM.out; omega
      rw [e] at hown
      subst hM
      clear e
      go_wp2
      go_ret
      exact ⟨A', c', rfl, hown, hbel⟩
end Go.Proofs.Ytblabipgehkllaa
