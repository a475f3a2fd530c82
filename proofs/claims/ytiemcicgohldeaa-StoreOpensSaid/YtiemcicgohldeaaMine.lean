/- owner.Mine, owner.Place. -/
import Derived.Test.YtiemcicgohldeaaSmall
namespace Go.Proofs.Ytiemcicgohldeaa
open Go.ChangeShapes Go.WideShapes Go.ChangeAt Go.RowKit
set_option linter.unusedVariables false
set_option linter.unusedSimpArgs false
/-- The vertices below 'v' that are 'w' modulo 'k'. -/
def mineP (w k v : Nat) : List Int := ((List.range v).filter fun u => u % k == w).map Int.ofNat
theorem mineP_succ (w k v : Nat) : mineP w k (v + 1) = mineP w k v ++ (if v % k = w then [(v : Int)] else []) := by
  unfold mineP
  rw [List.range_succ, List.filter_append, List.map_append]
  congr 1
  by_cases h : v % k = w <;> simp [h]
theorem mineP_gap (w k n : Nat) (hw : w < k) : ∀ t, t < k → (n + t) % k = w → mineP w k (n + t) = mineP w k n
  | 0, _, _ => rfl
  | t + 1, ht, hm => by
    have h : ∀ s, s ≤ t → mineP w k (n + s) = mineP w k n := by
      intro s
      induction s with
      | zero => intro _; rfl
      | succ s ih =>
        intro hs
        rw [← Nat.add_assoc, mineP_succ, ih (by omega), if_neg, List.append_nil]
        intro he
        have e1 : n + (t + 1) = (n + s) + (t + 1 - s) := by omega
        rw [e1, Nat.add_mod, he, Nat.mod_eq_of_lt (show t + 1 - s < k by omega)] at hm
        by_cases hk : w + (t + 1 - s) < k
        · rw [Nat.mod_eq_of_lt hk] at hm; omega
        · rw [Nat.mod_eq_sub_mod (by omega), Nat.mod_eq_of_lt (by omega)] at hm; omega
    have h1 := h t (Nat.le_refl _)
    rw [← Nat.add_assoc, mineP_succ, h1, if_neg, List.append_nil]
    intro he
    have e1 : n + (t + 1) = (n + t) + 1 := by omega
    rw [e1, Nat.add_mod, he, Nat.mod_eq_of_lt (show 1 < k by omega)] at hm
    by_cases hk : w + 1 < k
    · rw [Nat.mod_eq_of_lt hk] at hm; omega
    · rw [Nat.mod_eq_sub_mod (by omega), Nat.mod_eq_of_lt (by omega)] at hm; omega
theorem mineP_step (w k v : Nat) (hw : w < k) (hv : v % k = w) : mineP w k (v + k) = mineP w k v ++ [(v : Int)] := by
  have e : v + k = (v + 1) + (k - 1) := by omega
  rw [e, mineP_gap w k (v + 1) hw (k - 1) (by omega) (by rw [← e, Nat.add_mod_right]; exact hv), mineP_succ, if_pos hv]
theorem mineP_len (w k v : Nat) : (mineP w k v).length ≤ v := by
  unfold mineP
  rw [List.length_map]
  exact Nat.le_trans (List.length_filter_le _ _) (by simp)
def MineRel (a n k : Nat) (w : World) (s i : Value) (wr : World) : Prop :=
  ∃ (v : Nat) (A : Option Addr) (c m : Nat), v < n + k ∧ v % k = a ∧ Hid (m = (mineP a k v).length) ∧ i = .int .i64 v ∧ s = .slice A m c ∧ wr.ownsRow w.heap.size 3 1 (.slice A m c) m ((mineP a k v).flatMap i64c) ∧ Below w.heap.size w wr
set_option maxHeartbeats 1000000 in
theorem mine_yes (a n k : Nat) (w : World) (h : Fits n k) (ha : a < k) :
    Calls Try.prog 23 #[.int .i64 a, .int .i64 n, .int .i64 k] w (RetL 3 1 w (mineP a k n).length ((mineP a k n).flatMap i64c) 0) := by
  have hf := fits_yes h
  obtain ⟨h1, h2, h3, h4⟩ := h
  have h5 : (0 : Int) ≤ a := by omega
  have h6 : (a : Int) < k := by omega
  go_enter Try.func23, Try.ntmps23
  go_wp2_with (go_at_call 56; refine (fits_walk _ _ _).mono ?_; rintro e w' ⟨rfl, rfl⟩)
  go_loopw [8, 9] (MineRel a n k w) (fun _ i _ => n + k - (intOf i).toNat)
  case atStart =>
    have e0 : mineP a k a = [] := by
      have := mineP_gap a k 0 ha a ha (by rw [Nat.zero_add]; exact Nat.mod_eq_of_lt ha)
      rw [Nat.zero_add] at this
      rw [this]; rfl
    exact ⟨a, none, 0, 0, by omega, Nat.mod_eq_of_lt ha, hid (by rw [e0]; rfl), rfl, rfl, by rw [e0]; exact World.ownsRow_nil _ _ _ _, Below.refl _ _⟩
  case round =>
    obtain ⟨v, A, c, m, hv, hm, HM, rfl, rfl, hown, hbel⟩ := hrel
    by_cases hlt : v < n
    · have HS := hid (mineP_step a k v ha hm)
      have hml : m ≤ 208 := by have := mineP_len a k v; have := HM.out; omega
      have HV := hid hm
      clear hm
      go_wp2_with (at_builtin; refine wp_app1 _ rfl rfl el_ints rfl (hown.alloc _) rfl (rd_new _ _ _ 1 1 rfl) (by intro u hu; simp at hu; subst hu; rfl) (by omega) (Nat.le_trans hbel.size (by simp)) ?_; intro A' c' w1 hown1 hb1 hg1)
      go_roundw
      case rel => exact ⟨v + k, A', c', m + 1, by omega, by rw [Nat.add_mod_right]; exact HV.out, hid (by rw [HS.out, List.length_append, ← HM.out]; rfl), by go_num, rfl, by rw [HS.out, List.flatMap_append]; exact hown1, (hbel.alloc hbel.size _).trans hb1⟩
      case measure => simp [intOf]; omega
    · have e : mineP a k v = mineP a k n := by
        have := mineP_gap a k n ha (v - n) (by omega) (by rw [show n + (v - n) = v by omega]; exact hm)
        rwa [show n + (v - n) = v by omega] at this
      have HM2 := HM.out
      rw [e] at HM2 hown
      subst HM2
      clear hm e HM
      go_wp2
      go_ret2
      exact ⟨A, c, rfl, hown, hbel⟩
theorem mine_no (a n k : Int) (w : World) (r : Int) (h : (¬ Fits n k ∧ r = 1) ∨ (Fits n k ∧ ¬ (0 ≤ a ∧ a < k) ∧ r = 2)) :
    Calls Try.prog 23 #[.int .i64 a, .int .i64 n, .int .i64 k] w (RetL 3 1 w 0 [] r) := by
  rcases h with ⟨h, rfl⟩ | ⟨h, h2, rfl⟩
  · have hf := fits_no h
    clear h
    go_enter Try.func23, Try.ntmps23
    go_wp2_with (go_at_call 56; refine (fits_walk _ _ _).mono ?_; rintro e w' ⟨rfl, rfl⟩)
    go_ret2
    exact ⟨none, 0, rfl, World.ownsRow_nil _ _ _ _, Below.refl _ _⟩
  · have hf := fits_yes h
    have hd : a < 0 ∨ (0 ≤ a ∧ k ≤ a) := by omega
    clear h h2
    rcases hd with h1 | ⟨h1, h2⟩
    all_goals
      go_enter Try.func23, Try.ntmps23
      go_wp2_with (go_at_call 56; refine (fits_walk _ _ _).mono ?_; rintro e w' ⟨rfl, rfl⟩)
      go_ret2
      exact ⟨none, 0, rfl, World.ownsRow_nil _ _ _ _, Below.refl _ _⟩
def mineV (a n k : Int) : List Int × Int := if 0 ≤ n ∧ n ≤ 200 ∧ 1 ≤ k ∧ k ≤ 8 then (if 0 ≤ a ∧ a < k then (mineP a.toNat k.toNat n.toNat, 0) else ([], 2)) else ([], 1)
theorem mineV_len (a n k : Int) : (mineV a n k).1.length ≤ 200 := by
  unfold mineV
  split
  · rename_i h
    split
    · have := mineP_len a.toNat k.toNat n.toNat
      show (mineP _ _ _).length ≤ 200
      omega
    · simp
  · simp
theorem mine_walk (a n k : Int) (w : World) :
    Calls Try.prog 23 #[.int .i64 a, .int .i64 n, .int .i64 k] w (RetL 3 1 w (mineV a n k).1.length ((mineV a n k).1.flatMap i64c) (mineV a n k).2) := by
  unfold mineV
  by_cases h : Fits n k
  · rw [if_pos (show 0 ≤ n ∧ n ≤ 200 ∧ 1 ≤ k ∧ k ≤ 8 from h)]
    by_cases ha : 0 ≤ a ∧ a < k
    · rw [if_pos ha]
      obtain ⟨h1, h2, h3, h4⟩ := id h
      obtain ⟨a, rfl⟩ := Int.eq_ofNat_of_zero_le ha.1
      obtain ⟨n, rfl⟩ := Int.eq_ofNat_of_zero_le h1
      obtain ⟨k, rfl⟩ := Int.eq_ofNat_of_zero_le (show 0 ≤ k by omega)
      exact mine_yes a n k w h (by omega)
    · rw [if_neg ha]; exact mine_no a n k w 2 (.inr ⟨h, ha, rfl⟩)
  · rw [if_neg (show ¬ (0 ≤ n ∧ n ≤ 200 ∧ 1 ≤ k ∧ k ≤ 8) from h)]; exact mine_no a n k w 1 (.inl ⟨h, rfl⟩)
/-! ### the reference -/
def MineOfRel (a n k : Nat) (w : World) (s i : Value) (wr : World) : Prop :=
  ∃ (v : Nat) (A : Option Addr) (c m : Nat), v ≤ n ∧ Hid (m = (mineP a k v).length) ∧ i = .int .i64 v ∧ s = .slice A m c ∧ wr.ownsRow w.heap.size 3 1 (.slice A m c) m ((mineP a k v).flatMap i64c) ∧ Below w.heap.size w wr
set_option maxHeartbeats 1000000 in
theorem mineOf_yes (a n k : Nat) (w : World) (h : Fits n k) (ha : a < k) :
    Calls Try.prog 27 #[.int .i64 a, .int .i64 n, .int .i64 k] w (RetL 3 1 w (mineP a k n).length ((mineP a k n).flatMap i64c) 0) := by
  have hof := hid (fun v : Nat => fun hv : v < n => fun w => ownerOf_yes v n k w h (by omega))
  obtain ⟨h1, h2, h3, h4⟩ := h
  have i1 := inB_yes ⟨h1, h2⟩
  have i2 := inB_yes ⟨h3, h4⟩
  have i3 := inB_yes (n := (a : Int)) (lo := 0) (hi := (k : Int) - 1) (by omega)
  go_enter Try.func27, Try.ntmps27
  go_wp2_with (go_at_call 59; refine (In_walk _ _ _ _).mono ?_; rintro e w' ⟨rfl, rfl⟩)
  go_loopw [8, 9] (MineOfRel a n k w) (fun _ i _ => n - (intOf i).toNat)
  case atStart => exact ⟨0, none, 0, 0, by omega, hid rfl, rfl, rfl, World.ownsRow_nil _ _ _ _, Below.refl _ _⟩
  case round =>
    obtain ⟨v, A, c, m, hv, HM, rfl, rfl, hown, hbel⟩ := hrel
    by_cases hlt : v < n
    · have HS := hid (mineP_succ a k v)
      have hml : m ≤ 208 := by have := mineP_len a k v; have := HM.out; omega
      have hof' := hid (hof.out v hlt)
      have em : ((v : Int) % k) = ((v % k : Nat) : Int) := by simp
      by_cases hm : v % k = a
      · have em2 := hid em
        have HA := hid hm
        clear hm em
        go_wp2_with fail
        refine (hof'.out _).mono ?_
        rintro e w' ⟨rfl, rfl⟩
        rw [em2.out, HA.out]
        go_wp2_with (at_builtin; refine wp_app1 _ rfl rfl el_ints rfl (hown.alloc _) rfl (rd_new _ _ _ 1 1 rfl) (by intro u hu; simp at hu; subst hu; rfl) (by omega) (Nat.le_trans hbel.size (by simp)) ?_; intro A' c' w1 hown1 hb1 hg1)
        go_roundw
        case rel =>
          have hS := HS.out
          rw [if_pos HA.out] at hS
          exact ⟨v + 1, A', c', m + 1, by omega, hid (by rw [hS, List.length_append, ← HM.out]; rfl), by go_num, rfl, by rw [hS, List.flatMap_append]; exact hown1, (hbel.alloc hbel.size _).trans hb1⟩
        case measure => simp [intOf]; omega
      · have em2 := hid em
        have hne : (((v % k : Nat) : Int) == (a : Int)) = false := by simp; omega
        have HA := hid hm
        clear hm em
        go_wp2_with fail
        refine (hof'.out _).mono ?_
        rintro e w' ⟨rfl, rfl⟩
        rw [em2.out]
        generalize v % k = z at *
        go_wp2
        go_roundw
        case rel =>
          have hS := HS.out
          rw [if_neg HA.out, List.append_nil] at hS
          exact ⟨v + 1, A, c, m, by omega, hid (by rw [hS, ← HM.out]), by go_num, rfl, by rw [hS]; exact hown, hbel⟩
        case measure => simp [intOf]; omega
    · obtain rfl : v = n := by omega
      have HM2 := HM.out
      subst HM2
      clear HM
      go_wp2
      go_ret2
      exact ⟨A, c, rfl, hown, hbel⟩
theorem mineOf_no (a n k : Int) (w : World) (r : Int) (h : (¬ Fits n k ∧ r = 1) ∨ (Fits n k ∧ ¬ (0 ≤ a ∧ a < k) ∧ r = 2)) :
    Calls Try.prog 27 #[.int .i64 a, .int .i64 n, .int .i64 k] w (RetL 3 1 w 0 [] r) := by
  rcases h with ⟨h, rfl⟩ | ⟨h, h2, rfl⟩
  · have hn : inB n 0 200 = false ∨ inB k 1 8 = false := by
      unfold Fits at h
      simp only [inB, decide_eq_false_iff_not]
      omega
    cases i1 : inB n 0 200 <;> cases i2 : inB k 1 8 <;> simp only [i1, i2, reduceCtorEq, or_false, or_true] at hn
    all_goals
      go_enter Try.func27, Try.ntmps27
      go_wp2_with (go_at_call 59; refine (In_walk _ _ _ _).mono ?_; rintro e w' ⟨rfl, rfl⟩)
      go_ret2
      exact ⟨none, 0, rfl, World.ownsRow_nil _ _ _ _, Below.refl _ _⟩
  · obtain ⟨h3, h4, h5, h6⟩ := h
    have i1 := inB_yes ⟨h3, h4⟩
    have i2 := inB_yes ⟨h5, h6⟩
    have i3 := inB_no (n := a) (lo := 0) (hi := k - 1) (by omega)
    go_enter Try.func27, Try.ntmps27
    go_wp2_with (go_at_call 59; refine (In_walk _ _ _ _).mono ?_; rintro e w' ⟨rfl, rfl⟩)
    go_ret2
    exact ⟨none, 0, rfl, World.ownsRow_nil _ _ _ _, Below.refl _ _⟩
theorem mineOf_walk (a n k : Int) (w : World) :
    Calls Try.prog 27 #[.int .i64 a, .int .i64 n, .int .i64 k] w (RetL 3 1 w (mineV a n k).1.length ((mineV a n k).1.flatMap i64c) (mineV a n k).2) := by
  unfold mineV
  by_cases h : Fits n k
  · rw [if_pos (show 0 ≤ n ∧ n ≤ 200 ∧ 1 ≤ k ∧ k ≤ 8 from h)]
    by_cases ha : 0 ≤ a ∧ a < k
    · rw [if_pos ha]
      obtain ⟨h1, h2, h3, h4⟩ := id h
      obtain ⟨a, rfl⟩ := Int.eq_ofNat_of_zero_le ha.1
      obtain ⟨n, rfl⟩ := Int.eq_ofNat_of_zero_le h1
      obtain ⟨k, rfl⟩ := Int.eq_ofNat_of_zero_le (show 0 ≤ k by omega)
      exact mineOf_yes a n k w h (by omega)
    · rw [if_neg ha]; exact mineOf_no a n k w 2 (.inr ⟨h, ha, rfl⟩)
  · rw [if_neg (show ¬ (0 ≤ n ∧ n ≤ 200 ∧ 1 ≤ k ∧ k ≤ 8) from h)]; exact mineOf_no a n k w 1 (.inl ⟨h, rfl⟩)
end Go.Proofs.Ytiemcicgohldeaa
