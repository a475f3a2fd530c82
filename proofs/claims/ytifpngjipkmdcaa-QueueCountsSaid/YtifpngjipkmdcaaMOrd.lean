/- The order of mail: merge.order, the document's MailAhead. -/
import Derived.Test.YtifpngjipkmdcaaLink
import Derived.Test.YtifpngjipkmdcaaMem
import Derived.Test.YtifpngjipkmdcaaSortP
import Derived.Deep.RegionHeld3
namespace Go.Proofs.Ytifpngjipkmdcaa
open Go.ChangeShapes Go.WideShapes Go.ChangeAt Go.RowKit
set_option linter.unusedVariables false
set_option linter.unusedSimpArgs false
def cmp3 (a b : Int) : Int := if a < b then -1 else if b < a then 1 else 0
def orV (x y : Int) : Int := if x ≠ 0 then x else y
def ordV (a b : Mail) : Int := orV (cmp3 a.to b.to) (cmp3 a.val b.val)
/-- Is a ahead of b? -/
def mlt (a b : Mail) : Bool := if a.to ≠ b.to then decide (a.to < b.to) else decide (a.val < b.val)
theorem ordV_neg (a b : Mail) : decide (ordV a b < 0) = mlt a b := by
  unfold ordV mlt orV cmp3
  by_cases h1 : a.to < b.to
  · have : a.to ≠ b.to := by omega
    simp [h1, this]
  · by_cases h2 : b.to < a.to
    · have h3 : a.to ≠ b.to := by omega
      simp [h1, h2, h3]
    · have h3 : a.to = b.to := by omega
      simp only [h3]
      by_cases h4 : a.val < b.val
      · simp [h4]
      · by_cases h5 : b.val < a.val <;> simp [h4, h5]
theorem mlt_strict : Strict mlt where
  irrefl a := by simp [mlt]
  trans a b c h1 h2 := by
    unfold mlt at *
    split at h1 <;> split at h2 <;> simp only [decide_eq_true_eq] at h1 h2 <;> split <;> simp only [decide_eq_true_eq] <;> omega
  total a b h1 h2 := by
    unfold mlt at *
    obtain ⟨x, y⟩ := a
    obtain ⟨u, v⟩ := b
    simp only at h1 h2
    split at h1 <;> split at h2 <;> simp only [decide_eq_false_iff_not] at h1 h2
    · omega
    · omega
    · omega
    · have e1 : x = u := by omega
      have e2 : y = v := by omega
      rw [e1, e2]
theorem isNaN_walk (x : Int) (w : World) : Calls Try.prog 104 #[.int .i64 x] w fun e w' => e = .returned (.bool false) ∧ w = w' := by
  go_enter Try.func104, Try.ntmps104
  go_wp2
  go_ret
  exact ⟨by simp, rfl⟩
theorem compare_walk (x y : Int) (w : World) : Calls Try.prog 83 #[.int .i64 x, .int .i64 y] w fun e w' => e = .returned (.int .i64 (cmp3 x y)) ∧ w = w' := by
  generalize hc : cmp3 x y = v
  have HV := hid hc
  clear hc
  rcases Int.lt_trichotomy x y with h | h | h
  · have h2 : Hid (v = -1) := hid (by rw [← HV.out]; simp [cmp3, h])
    go_enter Try.func83, Try.ntmps83
    go_wp2_with fail
    refine (isNaN_walk _ _).mono ?_
    rintro e w1 ⟨rfl, rfl⟩
    go_wp2_with fail
    refine (isNaN_walk _ _).mono ?_
    rintro e w1 ⟨rfl, rfl⟩
    go_wp2_with fail
    go_ret
    exact ⟨by rw [h2.out]; rfl, rfl⟩
  · have h2 : Hid (v = 0) := hid (by rw [← HV.out]; simp [cmp3, h])
    have h3 : ¬ (x < y) := by omega
    have h4 : ¬ (y < x) := by omega
    clear h
    go_enter Try.func83, Try.ntmps83
    go_wp2_with fail
    refine (isNaN_walk _ _).mono ?_
    rintro e w1 ⟨rfl, rfl⟩
    go_wp2_with fail
    refine (isNaN_walk _ _).mono ?_
    rintro e w1 ⟨rfl, rfl⟩
    go_wp2_with fail
    go_ret
    exact ⟨by rw [h2.out]; rfl, rfl⟩
  · have h2 : Hid (v = 1) := hid (by rw [← HV.out]; simp [cmp3, h, show ¬ x < y by omega])
    have h3 : ¬ (x < y) := by omega
    go_enter Try.func83, Try.ntmps83
    go_wp2_with fail
    refine (isNaN_walk _ _).mono ?_
    rintro e w1 ⟨rfl, rfl⟩
    go_wp2_with fail
    refine (isNaN_walk _ _).mono ?_
    rintro e w1 ⟨rfl, rfl⟩
    go_wp2_with fail
    go_ret
    exact ⟨by rw [h2.out]; rfl, rfl⟩
theorem or_walk (x y : Int) (w : World) (b off c : Nat) (h0 : w.cell? ⟨b, off, none⟩ = some (.int .i64 x)) (h1 : w.cell? ⟨b, off + 1, none⟩ = some (.int .i64 y)) : Calls Try.prog 82 #[.slice (some ⟨b, off, none⟩) 2 c] w fun e w' => e = .returned (.int .i64 (orV x y)) ∧ w = w' := by
  go_enter Try.func82, Try.ntmps82
  go_wp2_with fail
  go_loopw [5, 8] (fun _ i wr => ∃ k : Nat, k ≤ 2 ∧ i = .int .i64 k ∧ w = wr ∧ (0 < k → x = 0) ∧ (1 < k → y = 0)) (fun _ i _ => 2 - (intOf i).toNat)
  case atStart => exact ⟨0, by omega, rfl, rfl, by omega, by omega⟩
  case round =>
    obtain ⟨k, hk, rfl, rfl, k0, k1⟩ := hrel
    by_cases hk0 : k = 0
    · subst hk0
      by_cases hx : x = 0
      · subst hx
        go_wp2_with fail
        go_roundw
        case rel => exact ⟨1, by omega, by first | rfl | trivial, by first | rfl | trivial, fun _ => by first | rfl | trivial, by omega⟩
        case measure => simp [intOf]
      · have HV : Hid (orV x y = x) := hid (by simp [orV, hx])
        have hxb : (x != 0) = true := by simpa using hx
        go_wp2_with fail
        go_ret
        exact ⟨by rw [HV.out]; rfl, rfl⟩
    · by_cases hk1 : k = 1
      · subst hk1
        have hx := k0 (by omega)
        subst hx
        by_cases hy : y = 0
        · subst hy
          go_wp2_with fail
          go_roundw
          case rel => exact ⟨2, by omega, by first | rfl | trivial, by first | rfl | trivial, fun _ => by first | rfl | trivial, fun _ => by first | rfl | trivial⟩
          case measure => simp [intOf]
        · have HV : Hid (orV 0 y = y) := hid (by simp [orV])
          have hxb : (y != 0) = true := by simpa using hy
          go_wp2_with fail
          go_ret
          exact ⟨by rw [HV.out]; rfl, rfl⟩
      · obtain rfl : k = 2 := by omega
        have hx := k0 (by omega)
        have hy := k1 (by omega)
        subst hx hy
        have HV : Hid (orV 0 0 = 0) := hid (by simp [orV])
        go_wp2_with fail
        go_ret
        exact ⟨by rw [HV.out]; rfl, rfl⟩
set_option maxHeartbeats 2000000 in
theorem order_walk (a b : Mail) (w : World) : Calls Try.prog 43 #[.agg #[.int .i64 a.to, .int .i64 a.val], .agg #[.int .i64 b.to, .int .i64 b.val]] w fun e w' => e = .returned (.int .i64 (ordV a b)) ∧ Below w.heap.size w w' := by
  have HOR := hid (or_walk (cmp3 a.to b.to) (cmp3 a.val b.val) ((((w.alloc (.cells #[.int .i64 a.to, .int .i64 a.val] 62)).alloc (.cells #[.int .i64 b.to, .int .i64 b.val] 62)).alloc (.cells #[.int .i64 (cmp3 a.to b.to), .int .i64 (cmp3 a.val b.val)] 3)).drew) (w.heap.size + 1 + 1) 0 2 (by go_simp) (by go_simp))
  go_enter Try.func43, Try.ntmps43
  go_wp2_with fail
  go_region_held3 (fun w' => w'.cell? ⟨w.heap.size, 0, none⟩ = some (.int .i64 a.to) ∧ w'.cell? ⟨w.heap.size, 1, none⟩ = some (.int .i64 a.val) ∧ w'.cell? ⟨w.heap.size + 1, 0, none⟩ = some (.int .i64 b.to) ∧ w'.cell? ⟨w.heap.size + 1, 1, none⟩ = some (.int .i64 b.val)) (go_keep) ((first | (go_at_call 83; refine (compare_walk _ _ _).mono ?_; rintro r w3 ⟨rfl, rfl⟩) | (go_at_call 82; refine HOR.out.mono ?_; rintro r w3 ⟨rfl, rfl⟩)))
  all_goals
    go_wp2_with fail
    go_ret
    exact ⟨rfl, by first | exact bA (bD (bA (bA (Below.refl _ _) _) _)) _ | exact bD (bA (bA (bA (Below.refl _ _) _) _) _)⟩
end Go.Proofs.Ytifpngjipkmdcaa
