/- owner.Place and the document's answer. -/
import Derived.Test.YtblabipgehkllaaMine
namespace Go.Proofs.Ytblabipgehkllaa
open Go.ChangeShapes Go.WideShapes Go.ChangeAt Go.RowKit
set_option linter.unusedVariables false
theorem mineP_prefix (a k : Nat) : ∀ n v, v ≤ n → ∃ r, mineP a k n = mineP a k v ++ r
  | 0, v, h => by obtain rfl : v = 0 := by omega
                  exact ⟨[], by simp⟩
  | n + 1, v, h => by
    by_cases e : v = n + 1
    · subst e; exact ⟨[], by simp⟩
    · obtain ⟨r, hr⟩ := mineP_prefix a k n v (by omega)
      exact ⟨r ++ (if n % k = a then [(n : Int)] else []), by rw [mineP_succ, hr, List.append_assoc]⟩
theorem mineP_lt (a k n : Nat) : ∀ x ∈ mineP a k n, x < n := by
  intro x hx
  unfold mineP at hx
  obtain ⟨u, hu, rfl⟩ := List.mem_map.1 hx
  have := (List.mem_filter.1 hu).1
  have := List.mem_range.1 this
  show (u : Int) < n
  omega
theorem mineP_count (a k : Nat) (ha : a < k) : ∀ q, (mineP a k (a + q * k)).length = q
  | 0 => by
    have := mineP_gap a k 0 ha a ha (by rw [Nat.zero_add]; exact Nat.mod_eq_of_lt ha)
    rw [Nat.zero_add] at this
    rw [Nat.zero_mul, Nat.add_zero, this]; rfl
  | q + 1 => by
    have e : a + (q + 1) * k = (a + q * k) + k := by rw [Nat.add_mul]; omega
    rw [e, mineP_step a k _ ha (by rw [Nat.add_mul_mod_self_right]; exact Nat.mod_eq_of_lt ha), List.length_append, mineP_count a k ha q]
    rfl
theorem mineP_at (k n v : Nat) (hk : 0 < k) (hv : v < n) : (mineP (v % k) k n)[v / k]? = some (v : Int) ∧ (∀ i, i < v / k → ∃ x : Int, (mineP (v % k) k n)[i]? = some x ∧ x < v) ∧ v / k < (mineP (v % k) k n).length := by
  have ha := Nat.mod_lt v hk
  have hl : (mineP (v % k) k v).length = v / k := by
    have := mineP_count (v % k) k ha (v / k)
    rwa [show v % k + v / k * k = v by rw [Nat.mul_comm]; exact Nat.mod_add_div v k] at this
  obtain ⟨r, hr⟩ := mineP_prefix (v % k) k n (v + 1) (by omega)
  rw [mineP_succ, if_pos rfl, List.append_assoc] at hr
  refine ⟨?_, fun i hi => ?_, ?_⟩
  · rw [hr, List.getElem?_append_right (by omega), hl]; simp
  · have hx : (mineP (v % k) k v)[i]? = some ((mineP (v % k) k v)[i]'(by omega)) := List.getElem?_eq_getElem (by omega)
    exact ⟨_, by rw [hr, List.getElem?_append_left (by omega)]; exact hx, mineP_lt _ _ _ _ (List.mem_of_getElem? hx)⟩
  · rw [hr]; simp; omega
def placeV (v n k : Int) : Int × Int := if 0 ≤ n ∧ n ≤ 200 ∧ 1 ≤ k ∧ k ≤ 8 then (if 0 ≤ v ∧ v < n then (v / k, 0) else (0, 2)) else (0, 1)
theorem place_walk (v n k : Int) (w : World) :
    Calls Try.prog 54 #[.int .i64 v, .int .i64 n, .int .i64 k] w fun e w' => e = .returned (.tuple #[.int .i64 (placeV v n k).1, .int .i64 (placeV v n k).2]) ∧ w = w' := by
  unfold placeV
  by_cases h : 0 ≤ n ∧ n ≤ 200 ∧ 1 ≤ k ∧ k ≤ 8
  · rw [if_pos h]
    by_cases hv : 0 ≤ v ∧ v < n
    · rw [if_pos hv]
      have c := hid (fun w => of_yes v n k w h hv)
      obtain ⟨h1, h2, h3, h4⟩ := h
      obtain ⟨h5, h6⟩ := hv
      go_enter Try.func54, Try.ntmps54
      go_wp2_with fail
      refine (c.out _).mono ?_
      rintro e w' ⟨rfl, rfl⟩
      go_wp2_with fail
      go_ret2
      exact ⟨rfl, rfl⟩
    · rw [if_neg hv]
      have c := hid (fun w => of_range v n k w h hv)
      clear h hv
      go_enter Try.func54, Try.ntmps54
      go_wp2_with fail
      refine (c.out _).mono ?_
      rintro e w' ⟨rfl, rfl⟩
      go_wp2_with fail
      go_ret2
      exact ⟨rfl, rfl⟩
  · rw [if_neg h]
    have c := hid (fun w => of_size v n k w h)
    clear h
    go_enter Try.func54, Try.ntmps54
    go_wp2_with fail
    refine (c.out _).mono ?_
    rintro e w' ⟨rfl, rfl⟩
    go_wp2_with fail
    go_ret2
    exact ⟨rfl, rfl⟩
set_option maxHeartbeats 1000000 in
theorem placeOf_yes (v n k : Nat) (w : World) (h : Fits n k) (hv : v < n) :
    Calls Try.prog 55 #[.int .i64 v, .int .i64 n, .int .i64 k] w fun e w' => e = .returned (.tuple #[.int .i64 ((v / k : Nat) : Int), .int .i64 0]) ∧ Below w.heap.size w w' := by
  have c1 := hid (fun w => ownerOf_yes v n k w h (by omega))
  have hk : 0 < k := by have := h.2.2.1; omega
  have em : ((v : Int) % k) = ((v % k : Nat) : Int) := by simp
  rw [em] at c1
  have c2 := hid (fun w => mineOf_yes (v % k) n k w h (Nat.mod_lt _ hk))
  have hl := mineP_len (v % k) k n
  have hn200 : n ≤ 200 := by have := h.2.1; omega
  obtain ⟨g1, g2, g3⟩ := mineP_at k n v hk hv
  generalize hq : v / k = q at *
  generalize v % k = r at *
  generalize mineP r k n = l at *
  have G1 := hid g1
  have G2 := hid g2
  clear g1 g2 hq em
  go_enter Try.func55, Try.ntmps55
  go_wp2_with fail
  refine (c1.out _).mono ?_
  rintro e w' ⟨rfl, rfl⟩
  go_wp2_with fail
  refine (c2.out _).mono ?_
  rintro e w1 ⟨A1, k1, rfl, o1, b1⟩
  have R1 := rd_own o1
  generalize hm : l.length = m at *
  have HM := hid hm
  clear hm
  go_wp2_with fail
  go_loopw [12] (fun i wr => ∃ j : Nat, j ≤ q ∧ i = .int .i64 j ∧ Below w.heap.size w wr ∧ Rd wr wr.heap.size A1 1 m (l.flatMap i64c)) (fun i _ => q - (intOf i).toNat)
  case atStart => exact ⟨0, by omega, rfl, b1, R1⟩
  case round =>
    obtain ⟨j, hj, rfl, hbel, hR⟩ := hrel
    obtain ⟨b, off, rfl, hb, hc⟩ := hR.at_ (show j < m by omega)
    by_cases hlt : j < q
    · obtain ⟨x, hx, hxv⟩ := G2.out j hlt
      have cc := hc _ _ ((flatMap_get (l := l) (cells := i64c) (sz := 1) (fun _ _ => rfl)).2 j x 0 (.int .i64 x) hx rfl)
      simp only [Nat.mul_one, Nat.add_zero] at cc
      have hne : (x == (v : Int)) = false := by simp; omega
      have hR' := hid hR
      clear hx hc hR R1
      go_wp2
      go_roundw
      case rel => exact ⟨j + 1, by omega, by go_num, hbel, hR'.out⟩
      case measure => simp [intOf]; omega
    · obtain rfl : j = q := by omega
      have cc := hc _ _ ((flatMap_get (l := l) (cells := i64c) (sz := 1) (fun _ _ => rfl)).2 j _ 0 (.int .i64 v) G1.out rfl)
      simp only [Nat.mul_one, Nat.add_zero] at cc
      clear hc hR R1
      go_wp2
      go_ret2
      exact ⟨rfl, hbel⟩
theorem placeOf_walk (v n k : Int) (w : World) :
    Calls Try.prog 55 #[.int .i64 v, .int .i64 n, .int .i64 k] w fun e w' => e = .returned (.tuple #[.int .i64 (placeV v n k).1, .int .i64 (placeV v n k).2]) ∧ Below w.heap.size w w' := by
  unfold placeV
  by_cases h : 0 ≤ n ∧ n ≤ 200 ∧ 1 ≤ k ∧ k ≤ 8
  · rw [if_pos h]
    by_cases hv : 0 ≤ v ∧ v < n
    · rw [if_pos hv]
      obtain ⟨v, rfl⟩ := Int.eq_ofNat_of_zero_le hv.1
      obtain ⟨n, rfl⟩ := Int.eq_ofNat_of_zero_le h.1
      obtain ⟨k, rfl⟩ := Int.eq_ofNat_of_zero_le (show 0 ≤ k by omega)
      exact placeOf_yes v n k w h (by omega)
    · rw [if_neg hv]
      have c := hid (fun w => ownerOf_range v n k w h hv)
      clear h hv
      go_enter Try.func55, Try.ntmps55
      go_wp2_with fail
      refine (c.out _).mono ?_
      rintro e w' ⟨rfl, rfl⟩
      go_wp2_with fail
      go_ret2
      exact ⟨rfl, Below.refl _ _⟩
  · rw [if_neg h]
    have c := hid (fun w => ownerOf_size v n k w h)
    clear h
    go_enter Try.func55, Try.ntmps55
    go_wp2_with fail
    refine (c.out _).mono ?_
    rintro e w' ⟨rfl, rfl⟩
    go_wp2_with fail
    go_ret2
    exact ⟨rfl, Below.refl _ _⟩
theorem law_OwnerPlaces (w : World) (a : Int) (wa : (Lit.int .i64 a).wf = true) (b : Int) (wb : (Lit.int .i64 b).wf = true) (c : Int) (wc : (Lit.int .i64 c).wf = true) :
    Calls Try.prog 15 #[.int .i64 a, .int .i64 b, .int .i64 c] w fun e w' => e = .returned (.bool true) ∧ Below w.heap.size w w' := by
  have c1 := hid (place_walk a b c)
  have c2 := hid (placeOf_walk a b c)
  generalize placeV a b c = z at c1 c2
  go_enter Try.func15, Try.ntmps15
  go_wp2_with fail
  refine (c1.out _).mono ?_
  rintro e w' ⟨rfl, rfl⟩
  go_wp2_with fail
  refine (c2.out _).mono ?_
  rintro e w' ⟨rfl, b2⟩
  go_wp2_with fail
  go_ret
  exact ⟨by simp, b2⟩
end Go.Proofs.Ytblabipgehkllaa
