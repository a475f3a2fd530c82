/- The order of edges: graph.order, the document's EdgeAhead. -/
import Derived.Test.YtifpngjipkmdcaaOrds
namespace Go.Proofs.Ytifpngjipkmdcaa
open Go.ChangeShapes Go.WideShapes Go.ChangeAt Go.RowKit
set_option linter.unusedVariables false
set_option linter.unusedSimpArgs false
def ordE (a b : Edge) : Int := orV (cmp3 a.src b.src) (orV (cmp3 a.dst b.dst) (cmp3 a.wt b.wt))
/-- Is a ahead of b? -/
def elt (a b : Edge) : Bool := if a.src ≠ b.src then decide (a.src < b.src) else if a.dst ≠ b.dst then decide (a.dst < b.dst) else decide (a.wt < b.wt)
theorem ordE_neg (a b : Edge) : decide (ordE a b < 0) = elt a b := by
  unfold ordE elt orV cmp3
  by_cases h1 : a.src < b.src
  · have : a.src ≠ b.src := by omega
    simp [h1, this]
  · by_cases h2 : b.src < a.src
    · have h3 : a.src ≠ b.src := by omega
      simp [h1, h2, h3]
    · have h3 : a.src = b.src := by omega
      simp only [h3]
      by_cases h4 : a.dst < b.dst
      · have : a.dst ≠ b.dst := by omega
        simp [h4, this]
      · by_cases h5 : b.dst < a.dst
        · have h6 : a.dst ≠ b.dst := by omega
          simp [h4, h5, h6]
        · have h6 : a.dst = b.dst := by omega
          simp only [h6]
          by_cases h7 : a.wt < b.wt
          · simp [h7]
          · by_cases h8 : b.wt < a.wt <;> simp [h7, h8]
theorem elt_strict : Strict elt where
  irrefl a := by simp [elt]
  trans a b c h1 h2 := by
    unfold elt at *
    split at h1
    · split at h2
      · simp only [decide_eq_true_eq] at h1 h2; rw [if_pos (by omega)]; simp only [decide_eq_true_eq]; omega
      · simp only [decide_eq_true_eq] at h1; rw [if_pos (by omega)]; simp only [decide_eq_true_eq]; omega
    · split at h2
      · simp only [decide_eq_true_eq] at h2; rw [if_pos (by omega)]; simp only [decide_eq_true_eq]; omega
      · rw [if_neg (by omega)]
        split at h1
        · split at h2
          · simp only [decide_eq_true_eq] at h1 h2; rw [if_pos (by omega)]; simp only [decide_eq_true_eq]; omega
          · simp only [decide_eq_true_eq] at h1; rw [if_pos (by omega)]; simp only [decide_eq_true_eq]; omega
        · split at h2
          · simp only [decide_eq_true_eq] at h2; rw [if_pos (by omega)]; simp only [decide_eq_true_eq]; omega
          · simp only [decide_eq_true_eq] at h1 h2; rw [if_neg (by omega)]; simp only [decide_eq_true_eq]; omega
  total a b h1 h2 := by
    obtain ⟨x, y, z⟩ := a
    obtain ⟨u, v, t⟩ := b
    simp only [elt] at h1 h2
    have e1 : x = u := by
      refine Classical.byContradiction fun hne => ?_
      rw [if_pos hne] at h1
      rw [if_pos (fun e => hne e.symm)] at h2
      simp only [decide_eq_false_iff_not] at h1 h2; omega
    subst e1
    rw [if_neg (by simp)] at h1 h2
    have e2 : y = v := by
      refine Classical.byContradiction fun hne => ?_
      rw [if_pos hne] at h1
      rw [if_pos (fun e => hne e.symm)] at h2
      simp only [decide_eq_false_iff_not] at h1 h2; omega
    subst e2
    rw [if_neg (by simp)] at h1 h2
    simp only [decide_eq_false_iff_not] at h1 h2
    have e3 : z = t := by omega
    rw [e3]
def orL : List Int → Int
  | [] => 0
  | x :: l => if x ≠ 0 then x else orL l
theorem orL_at : ∀ {l : List Int} {k : Nat} {x : Int}, l[k]? = some x → x ≠ 0 → (∀ (j : Nat) (y : Int), j < k → l[j]? = some y → y = 0) → orL l = x
  | [], k, x, h, _, _ => by simp at h
  | a :: l, 0, x, h, hx, _ => by
    simp at h; subst h; unfold orL; rw [if_pos hx]
  | a :: l, k + 1, x, h, hx, h0 => by
    have ha : a = 0 := h0 0 a (by omega) rfl
    unfold orL
    rw [if_neg (by simpa using ha)]
    exact orL_at (k := k) (by simpa using h) hx (fun j y hj hy => h0 (j + 1) y (by omega) (by simpa using hy))
theorem orL_zero : ∀ {l : List Int}, (∀ (j : Nat) (y : Int), l[j]? = some y → y = 0) → orL l = 0
  | [], _ => rfl
  | a :: l, h0 => by
    have ha : a = 0 := h0 0 a rfl
    unfold orL
    rw [if_neg (by simpa using ha)]
    exact orL_zero (fun j y hy => h0 (j + 1) y (by simpa using hy))
theorem orL_walk (l : List Int) (hl : l.length ≤ 1000) (w : World) (b off c : Nat) (hc : ∀ (j : Nat) (x : Int), l[j]? = some x → w.cell? ⟨b, off + j, none⟩ = some (.int .i64 x)) : Calls Try.prog 82 #[.slice (some ⟨b, off, none⟩) l.length c] w fun e w' => e = .returned (.int .i64 (orL l)) ∧ w = w' := by
  have HC := hid hc
  clear hc
  go_enter Try.func82, Try.ntmps82
  go_wp2_with fail
  go_loopw [5, 8] (fun _ i wr => ∃ k : Nat, k ≤ l.length ∧ i = .int .i64 k ∧ w = wr ∧ Hid (∀ (j : Nat) (y : Int), j < k → l[j]? = some y → y = 0)) (fun _ i _ => l.length - (intOf i).toNat)
  case atStart => exact ⟨0, by omega, rfl, rfl, hid fun j y hj => by omega⟩
  case round =>
    obtain ⟨k, hk, rfl, rfl, H0⟩ := hrel
    by_cases hlt : k < l.length
    · obtain ⟨x, hx⟩ : ∃ x, l[k]? = some x := ⟨_, List.getElem?_eq_getElem hlt⟩
      have c0 := HC.out k x hx
      have hkz : (k : Int) < (l.length : Int) := by omega
      have HX := hid hx
      clear hx
      by_cases hx0 : x = 0
      · have HN : Hid (∀ (j : Nat) (y : Int), j < k + 1 → l[j]? = some y → y = 0) := hid fun j y hj hy => by
          rcases Nat.lt_or_ge j k with h | h
          · exact H0.out j y h hy
          · obtain rfl : j = k := by omega
            rw [HX.out] at hy; injection hy with hy; omega
        subst hx0
        go_wp2_with fail
        go_roundw
        case rel => exact ⟨k + 1, by omega, by go_num, by first | rfl | trivial, HN⟩
        case measure => simp [intOf]; omega
      · have HV := hid (orL_at HX.out hx0 H0.out)
        have hxb : (x != 0) = true := by simpa using hx0
        go_wp2_with fail
        go_ret
        exact ⟨by rw [HV.out]; rfl, rfl⟩
    · obtain rfl : k = l.length := by omega
      have HV := hid (orL_zero (l := l) fun j y hy => H0.out j y (List.getElem?_eq_some_iff.1 hy).1 hy)
      go_wp2_with fail
      go_ret
      exact ⟨by rw [HV.out]; rfl, rfl⟩
theorem orL3 (x y z : Int) : orL [x, y, z] = orV x (orV y z) := by
  simp only [orL, orV]
  by_cases h : z = 0 <;> simp [h]
set_option maxHeartbeats 4000000 in
theorem order_walkE (a b : Edge) (w : World) : Calls Try.prog 111 #[.agg #[.int .i64 a.src, .int .i64 a.dst, .int .i64 a.wt], .agg #[.int .i64 b.src, .int .i64 b.dst, .int .i64 b.wt]] w fun e w' => e = .returned (.int .i64 (ordE a b)) ∧ Below w.heap.size w w' ∧ w.drawn ≤ w'.drawn := by
  have hor := orL_walk [cmp3 a.src b.src, cmp3 a.dst b.dst, cmp3 a.wt b.wt] (by simp) ((((w.alloc (.cells #[.int .i64 a.src, .int .i64 a.dst, .int .i64 a.wt] 82)).alloc (.cells #[.int .i64 b.src, .int .i64 b.dst, .int .i64 b.wt] 82)).alloc (.cells #[.int .i64 (cmp3 a.src b.src), .int .i64 (cmp3 a.dst b.dst), .int .i64 (cmp3 a.wt b.wt)] 3)).drew) (w.heap.size + 1 + 1) 0 3 (fun j x hx => by
    rcases j with _ | _ | _ | j
    · simp at hx; subst hx; go_simp
    · simp at hx; subst hx; go_simp
    · simp at hx; subst hx; go_simp
    · simp at hx)
  rw [orL3] at hor
  have HOR : Hid (Calls Try.prog 82 #[.slice (some ⟨w.heap.size + 1 + 1, 0, none⟩) 3 3] ((((w.alloc (.cells #[.int .i64 a.src, .int .i64 a.dst, .int .i64 a.wt] 82)).alloc (.cells #[.int .i64 b.src, .int .i64 b.dst, .int .i64 b.wt] 82)).alloc (.cells #[.int .i64 (cmp3 a.src b.src), .int .i64 (cmp3 a.dst b.dst), .int .i64 (cmp3 a.wt b.wt)] 3)).drew) fun e w' => e = .returned (.int .i64 (ordE a b)) ∧ ((((w.alloc (.cells #[.int .i64 a.src, .int .i64 a.dst, .int .i64 a.wt] 82)).alloc (.cells #[.int .i64 b.src, .int .i64 b.dst, .int .i64 b.wt] 82)).alloc (.cells #[.int .i64 (cmp3 a.src b.src), .int .i64 (cmp3 a.dst b.dst), .int .i64 (cmp3 a.wt b.wt)] 3)).drew) = w') := hid hor
  clear hor
  go_enter Try.func111, Try.ntmps111
  go_wp2_with fail
  go_region_held3 (fun w' => w'.cell? ⟨w.heap.size, 0, none⟩ = some (.int .i64 a.src) ∧ w'.cell? ⟨w.heap.size, 1, none⟩ = some (.int .i64 a.dst) ∧ w'.cell? ⟨w.heap.size, 2, none⟩ = some (.int .i64 a.wt) ∧ w'.cell? ⟨w.heap.size + 1, 0, none⟩ = some (.int .i64 b.src) ∧ w'.cell? ⟨w.heap.size + 1, 1, none⟩ = some (.int .i64 b.dst) ∧ w'.cell? ⟨w.heap.size + 1, 2, none⟩ = some (.int .i64 b.wt)) (go_keep) ((first | (go_at_call 83; refine (compare_walk _ _ _).mono ?_; rintro r w3 ⟨rfl, rfl⟩) | (go_at_call 82; refine HOR.out.mono ?_; rintro r w3 ⟨rfl, rfl⟩)))
  all_goals
    go_wp2_with fail
    go_ret
    refine ⟨rfl, by first | exact bA (bD (bA (bA (Below.refl _ _) _) _)) _ | exact bD (bA (bA (bA (Below.refl _ _) _) _) _), ?_⟩
    exact Nat.le_succ _
theorem aheadE_walk (a b : Edge) (w : World) : Calls Try.prog 112 #[.agg #[.int .i64 a.src, .int .i64 a.dst, .int .i64 a.wt], .agg #[.int .i64 b.src, .int .i64 b.dst, .int .i64 b.wt]] w fun e w' => e = .returned (.bool (elt a b)) ∧ Below w.heap.size w w' := by
  generalize hF : elt a b = F
  have HF := hid hF
  clear hF
  by_cases h : a.src = b.src
  · have hb : (a.src != b.src) = false := by simpa using h
    by_cases h2 : a.dst = b.dst
    · have HV : Hid (F = decide (a.wt < b.wt)) := hid (by rw [← HF.out]; simp [elt, h, h2])
      have hb2 : (a.dst != b.dst) = false := by simpa using h2
      clear h h2
      go_enter Try.func112, Try.ntmps112
      go_wp2_with fail
      go_ret
      exact ⟨by rw [HV.out]; rfl, bA (bA (Below.refl _ _) _) _⟩
    · have HV : Hid (F = decide (a.dst < b.dst)) := hid (by rw [← HF.out]; simp [elt, h, h2])
      have hb2 : (a.dst != b.dst) = true := by simpa using h2
      clear h h2
      go_enter Try.func112, Try.ntmps112
      go_wp2_with fail
      go_ret
      exact ⟨by rw [HV.out]; rfl, bA (bA (Below.refl _ _) _) _⟩
  · have HV : Hid (F = decide (a.src < b.src)) := hid (by rw [← HF.out]; simp [elt, h])
    have hb : (a.src != b.src) = true := by simpa using h
    clear h
    go_enter Try.func112, Try.ntmps112
    go_wp2_with fail
    go_ret
    exact ⟨by rw [HV.out]; rfl, bA (bA (Below.refl _ _) _) _⟩
end Go.Proofs.Ytifpngjipkmdcaa
