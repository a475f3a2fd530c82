/- The document's hopsAt. -/
import Derived.Test.YtiemcicgohldeaaStoG
import Derived.Test.YtiemcicgohldeaaSmallR
import Derived.Test.YtiemcicgohldeaaUngapR
namespace Go.Proofs.Ytiemcicgohldeaa
open Go.ChangeShapes Go.WideShapes Go.ChangeAt Go.RowKit
set_option linter.unusedVariables false
set_option linter.unusedSimpArgs false
theorem ungGo_rises (l : List Int) (hl : ∀ x ∈ l, 0 ≤ x ∧ x ≤ 255) : ∀ (n at_ : Nat) (last : Int) (acc : List Int), acc.Pairwise (· ≤ ·) → (∀ x ∈ acc, x ≤ last) → (ungGo l n at_ last acc).1.Pairwise (· ≤ ·)
  | 0, at_, last, acc, h, _ => by unfold ungGo; exact h
  | n + 1, at_, last, acc, h, h2 => by
    have hg := getv_ok (l.drop at_) (fun x hx => hl x (List.mem_of_mem_drop hx))
    unfold ungGo
    split
    · exact List.Pairwise.nil
    · split
      · exact List.Pairwise.nil
      · rename_i h3 _
        have hg0 : 0 ≤ (getv (l.drop at_)).1 := by rcases hg with ⟨_, g1, _⟩ | ⟨g0, _⟩ <;> omega
        refine ungGo_rises l hl n _ _ _ ?_ ?_
        · rw [List.pairwise_append]
          refine ⟨h, by simp, fun x hx y hy => ?_⟩
          obtain rfl := List.mem_singleton.1 hy
          have := h2 x hx; omega
        · intro x hx
          rcases List.mem_append.1 hx with hx | hx
          · have := h2 x hx; omega
          · obtain rfl := List.mem_singleton.1 hx; omega
theorem ungV_rises (l : List Int) (hl : ∀ x ∈ l, 0 ≤ x ∧ x ≤ 255) : (ungV l).1.Pairwise (· ≤ ·) := by
  unfold ungV
  split
  · exact List.Pairwise.nil
  · split
    · exact List.Pairwise.nil
    · exact ungGo_rises l hl _ _ _ _ List.Pairwise.nil (by simp)
theorem smallE_none {b : List Int} {at' : Nat} {most : Int} (h : takeBad (b.drop at') false most = true) : smallE (b.drop at') most = none := by
  unfold smallE
  unfold takeBad at h
  rw [if_neg]
  rintro ⟨h1, h2⟩
  simp [h1] at h
  omega
theorem smallE_some {b : List Int} {at' : Nat} {most : Int} (h : takeBad (b.drop at') false most = false) : smallE (b.drop at') most = some ((getv (b.drop at')).1, (getv (b.drop at')).2.1.toNat) := by
  unfold smallE
  unfold takeBad at h
  rw [if_pos]
  simp at h
  exact ⟨h.1, by omega⟩
/-- What hopsAt hands back. -/
def RetHA (w : World) (b : List Int) (o : Option (List Hop × List Int)) (e : Ending) (w' : World) : Prop := match o with
  | none => e = .returned (.tuple #[.slice none 0 0, .int .i64 (-1)]) ∧ Below w.heap.size w w'
  | some (hs, r) => ∃ (A' : Option Addr) (c' at' : Nat), e = .returned (.tuple #[.slice A' hs.length c', .int .i64 (at' : Nat)]) ∧ w'.ownsRow w.heap.size 107 2 (.slice A' hs.length c') hs.length (hs.flatMap Hop.cells) ∧ r = b.drop at' ∧ at' ≤ b.length ∧ Below w.heap.size w w'
def HaR (n : Int) (to : List Int) (b : List Int) (l0 : List Int) (w1 : World) (v1 v11 v12 : Value) (wr : World) : Prop :=
  ∃ (j at' c' : Nat) (A' : Option Addr) (acc : List Hop), j ≤ to.length ∧ v12 = .int .i64 (j : Nat) ∧ v1 = .int .i64 (at' : Nat) ∧ v11 = .slice A' j c' ∧ Hid (acc.length = j) ∧ Hid (wr.ownsRow w1.heap.size 107 2 (.slice A' j c') j (acc.flatMap Hop.cells)) ∧ at' ≤ b.length ∧
    Hid (hopGo n to none l0 = putH acc (hopGo n (to.drop j) acc.getLast? (b.drop at'))) ∧ Hid (Below w1.heap.size w1 wr) ∧ Hid (acc.map (·.to) = to.take j)
set_option maxHeartbeats 400000 in
theorem hopsAt_neg (A : Option Addr) (L c : Nat) (n : Int) (w : World) : Calls Try.prog 28 #[.slice A L c, .int .i64 (-1), .int .i64 n] w fun e w' => e = .returned (.tuple #[.slice none 0 0, .int .i64 (-1)]) ∧ w = w' := by
  go_enter Try.func28, Try.ntmps28
  go_wp2_with fail
  go_ret2
  exact ⟨rfl, rfl⟩
set_option maxHeartbeats 400000 in
theorem small_neg (A : Option Addr) (L c : Nat) (n : Int) (w : World) : Calls Try.prog 26 #[.slice A L c, .int .i64 (-1), .int .i64 n] w fun e w' => e = .returned (.tuple #[.int .i64 0, .int .i64 (-1)]) ∧ w = w' := by
  go_enter Try.func26, Try.ntmps26
  go_wp2_with fail
  go_ret2
  exact ⟨rfl, rfl⟩
set_option maxRecDepth 100000 in
set_option maxHeartbeats 4000000 in
theorem hopsAt_walk (b : List Int) (at0 : Nat) (n : Int) (w : World) (A : Option Addr) (L c : Nat) (hr : Rd w w.heap.size A 1 L (b.flatMap u8c)) (hL : b.length = L) (hb : ∀ x ∈ b, 0 ≤ x ∧ x ≤ 255) (hcap : L ≤ c) (hat : at0 ≤ L) (hz : L ≤ 140737488355328) :
    Calls Try.prog 28 #[.slice A L c, .int .i64 (at0 : Int), .int .i64 n] w (RetHA w b (hopsE n (b.drop at0))) := by
  have hcutK : Rd w w.heap.size (if c = at0 then A else A.map (·.add at0)) 1 (L - at0) ((b.drop at0).flatMap u8c) := by
    have h := hr.cut (k := at0) (cap := c) hat hcap
    rw [drop_flat (cells := u8c) (sz := 1) (fun _ => rfl)] at h
    rwa [Nat.mul_one] at h
  have hd : ∀ x ∈ b.drop at0, 0 ≤ x ∧ x ≤ 255 := fun x hx => hb x (List.mem_of_mem_drop hx)
  have hdl : (b.drop at0).length = L - at0 := by rw [List.length_drop, hL]
  have hok := ungV_ok (b.drop at0) hd
  have hri := ungV_rises (b.drop at0) hd
  have hns : ¬ ((at0 : Int) < 0) := by omega
  have hnL : (at0 : Int) ≤ (L : Int) := by omega
  have hLc : (L : Int) ≤ (c : Int) := by omega
  have HBL := hid hL
  have HSM := hid (fun (W : World) (k : Nat) (hr2 : Rd W W.heap.size A 1 L (b.flatMap u8c)) (hk : k ≤ L) => small_walk2 b k 1099511627776 W A L c hr2 hL hb hcap hk (by omega) (by omega) (by omega))
  have HSC := hid (fun (k : Nat) (hk : k ≤ L) => small_cases hb (n := k) (by omega) 1099511627776)
  have HRD := hid hr
  unfold hopsE
  by_cases hne : c = at0
  · -- nothing is left
    subst hne
    obtain rfl : L = c := by omega
    have hnil : b.drop L = [] := by apply List.eq_nil_of_length_eq_zero; omega
    rw [if_pos rfl, Nat.sub_self] at hcutK
    rw [hnil] at hcutK
    have HG := hid (ungapped_walk ([] : List Int) w A 0 0 hcutK rfl (by simp) (by omega) (Nat.le_refl _))
    rw [hnil, if_neg (by decide)]
    have e1 : ungV [] = ([], 0, 4) := by decide
    rw [e1] at HG
    clear hcutK hd hdl hok hri hr hb hL hnil e1
    go_enter Try.func28, Try.ntmps28
    go_wp2_with fail
    refine HG.out.mono ?_
    rintro e w1 ⟨A1, c1, rfl, o1, b1⟩
    go_wp2_with fail
    go_ret2
    exact ⟨rfl, b1⟩
  · rw [if_neg hne] at hcutK
    have HG := hid (ungapped_walk (b.drop at0) w (A.map (·.add at0)) (L - at0) (c - at0) hcutK hdl hd (by omega) (by omega))
    generalize hu : ungV (b.drop at0) = u at *
    obtain ⟨to, kz, e⟩ := u
    dsimp only at *
    obtain ⟨hto, hto2, hk0, hk1, he0, he6⟩ := hok
    obtain ⟨k, rfl⟩ := Int.eq_ofNat_of_zero_le hk0
    have hnc : (at0 : Int) ≤ (c : Int) := by omega
    clear hcutK hd hr hb hL
    by_cases he : e = 0
    · subst he
      by_cases h6 : to.length ≤ 600
      · rw [if_pos ⟨rfl, h6⟩]
        have h6b : ¬ ((600 : Int) < (to.length : Int)) := by omega
        have hwk : IntKind.i64.wrap ((at0 : Int) + (k : Int)) = (at0 : Int) + (k : Int) := IntWalk.i64_in _ (by omega)
        have HD0 := hid (show (b.drop at0).drop (k : Int).toNat = b.drop (at0 + k) by rw [Int.toNat_natCast, List.drop_drop])
        have hak : at0 + k ≤ L := by omega
        go_enter Try.func28, Try.ntmps28
        go_wp2_with fail
        refine HG.out.mono ?_
        rintro e w1 ⟨A1, c1, rfl, o1, b1⟩
        have HO1 := hid o1
        have HB1 := hid b1
        clear o1 b1
        go_wp2_with fail
        rw [HD0.out]
        have HS1 := hid (HRD.out.below HB1.out)
        go_loopw [1, 11, 12] (fun v1 v11 v12 wr => HaR n to b (b.drop (at0 + k)) w1 v1 v11 v12 wr) (fun _ _ v12 _ => to.length - (intOf v12).toNat)
        case atStart => exact ⟨0, at0 + k, 0, none, [], Nat.zero_le _, rfl, by go_num, rfl, hid rfl, hid (World.ownsRow_nil _ _ _ _), by have := HBL.out; omega, hid (by rw [List.drop_zero, putH_nil]; rfl), hid (Below.refl _ _), hid rfl⟩
        case round =>
          obtain ⟨j, a, c', A', acc, hj, rfl, rfl, rfl, HAL, HOA, ha, HHG, HBW, HTO⟩ := hrel
          have haL : a ≤ L := by have := HBL.out; omega
          have hbw : Below w.heap.size w wr := bT HB1.out HBW.out
          by_cases hlt : j < to.length
          · obtain ⟨v, hv⟩ : ∃ v, to[j]? = some v := ⟨_, List.getElem?_eq_getElem hlt⟩
            obtain ⟨bt, ot, rfl, hbt, e0⟩ := int_cell (rd_own (own_below HO1.out HBW.out (Nat.le_refl _))) rfl hv
            have hjz : (j : Int) < (to.length : Int) := by omega
            have hn16 : (j + 1) * 16 ≤ 140737488355328 := by omega
            have HTD := hid (drop_consZ hv)
            have HT := hid (take_nextV hv)
            have HV := hid hv
            have HSW := hid (HSM.out wr a (rdb HRD.out (by decide) hbw) haL)
            clear hv
            rcases HSC.out a haL with ⟨h1, h2⟩ | ⟨x, k2, h1, h2, ht5, h3, h4, h5, h7, ht6, ht7⟩
            · have HNONE : Hid (hopGo n to none (b.drop (at0 + k)) = none) := hid (by rw [HHG.out, HTD.out]; unfold hopGo; rw [smallE_none h1]; rfl)
              rw [h2] at HSW
              clear h1 h2
              go_wp2_with fail
              refine HSW.out.mono ?_
              rintro e w2 ⟨rfl, rfl⟩
              go_wp2_with fail
              go_ret2
              rw [HNONE.out]
              exact ⟨rfl, hbw⟩
            · have HSE : Hid (smallE (b.drop a) 1099511627776 = some (x, k2)) := hid (by
                rw [smallE_some h1]
                rw [smallV_ok h1] at h2
                injection h2 with h8 h9
                rw [h8, show (getv (b.drop a)).2.1.toNat = k2 by omega])
              rw [h2] at HSW
              clear h1 h2 ht5 ht6 ht7
              have hnn : ¬ (((a + k2 : Nat) : Int) < 0) := by omega
              have HREL : Hid (v < n → behindB acc.getLast? ⟨v, x⟩ = true → ∀ (v1' jv' : Value) (w6 : World) (A6 : Option Addr) (c6 : Nat), v1' = .int .i64 ((a + k2 : Nat) : Int) → jv' = .int .i64 ((j + 1 : Nat) : Int) → w6.ownsRow w1.heap.size 107 2 (.slice A6 (j + 1) c6) (j + 1) (acc.flatMap Hop.cells ++ [.int .i64 v, .int .i64 x]) → Below w1.heap.size wr w6 → HaR n to b (b.drop (at0 + k)) w1 v1' (.slice A6 (j + 1) c6) jv' w6) := hid fun h1 h2 v1' jv' w6 A6 c6 hv1 hjv o6 b6 => by
                refine ⟨j + 1, a + k2, c6, A6, acc ++ [⟨v, x⟩], by omega, hjv, hv1, rfl, hid (by rw [List.length_append, HAL.out]; rfl), hid (by rw [List.flatMap_append]; exact o6), h7, hid ?_, hid (HBW.out.trans b6), hid (by rw [List.map_append, HTO.out, HT.out]; rfl)⟩
                rw [HHG.out, HTD.out, show (acc ++ [(⟨v, x⟩ : Hop)]).getLast? = some ⟨v, x⟩ from by simp, ← putH_cons]
                conv => lhs; unfold hopGo
                rw [HSE.out]
                dsimp only
                rw [if_pos ⟨h1, h2⟩, List.drop_drop]
                rfl
              have HNONE : Hid (¬ (v < n ∧ behindB acc.getLast? ⟨v, x⟩ = true) → hopGo n to none (b.drop (at0 + k)) = none) := hid fun h => by
                rw [HHG.out, HTD.out]
                conv => lhs; unfold hopGo
                rw [HSE.out]
                dsimp only
                rw [if_neg h]; rfl
              by_cases hvn : v < n
              · rcases Nat.eq_zero_or_pos j with hj0 | hj0
                · have hjb : decide ((0 : Int) < (j : Int)) = false := by simp; omega
                  have hjb2 : decide (0 < j) = false := by simp; omega
                  have HBH : Hid (behindB acc.getLast? ⟨v, x⟩ = true) := hid (by have : acc = [] := List.length_eq_zero_iff.1 (HAL.out.trans hj0); rw [this]; rfl)
                  clear hj0
                  go_wp2_with fail
                  refine HSW.out.mono ?_
                  rintro e w2 ⟨rfl, rfl⟩
                  go_wp2_with fail
                  refine wp_region_F (S := (fun V' => V'.cell? ⟨bt, ot + j, none⟩ = some (.int .i64 v))) [] (by kernel_rfl) e0 (fun hHeld => ?_)
                  refine wpAnyF_pure (i := 0) (v := ?vg1_1_0) rfl (by kernel_rfl) (by kernel_rfl) (by kernel_rfl) (fun _ _ _ h => h) (Or.inl ⟨by rfl, ?hyg1_1_0⟩) ?restg1_1_0
                  case hyg1_1_0 => (intro w hSw; clear hSw; go_simp; (all_goals with_reducible rfl))
                  try simp only [Act.put, List.setIfInBounds_toArray, List.set_cons_zero, List.set_cons_succ, List.getElem_toArray, List.getElem_cons_succ, List.getElem_cons_zero]
                  refine wpAnyF_pure (i := 1) (v := ?vg1_2_1) rfl (by kernel_rfl) (by kernel_rfl) (by kernel_rfl) (fun _ _ _ h => h) (Or.inl ⟨by rfl, ?hyg1_2_1⟩) ?restg1_2_1
                  case hyg1_2_1 => (intro w hSw; clear hSw; go_simp; (all_goals with_reducible rfl))
                  try simp only [Act.put, List.setIfInBounds_toArray, List.set_cons_zero, List.set_cons_succ, List.getElem_toArray, List.getElem_cons_succ, List.getElem_cons_zero]
                  refine wpAnyF_pure (i := 2) (v := ?vg1_3_2) rfl (by kernel_rfl) (by kernel_rfl) (by kernel_rfl) (fun _ _ _ h => h) (Or.inl ⟨by rfl, ?hyg1_3_2⟩) ?restg1_3_2
                  case hyg1_3_2 => (intro w hSw; clear hSw; go_simp; (all_goals with_reducible rfl))
                  try simp only [Act.put, List.setIfInBounds_toArray, List.set_cons_zero, List.set_cons_succ, List.getElem_toArray, List.getElem_cons_succ, List.getElem_cons_zero]
                  refine wpAnyF_pure (i := 3) (v := undef) rfl (by kernel_rfl) (by kernel_rfl) (by kernel_rfl) (fun _ _ _ h => h) (Or.inr ⟨by rfl, rfl⟩) ?restg1_4_3
                  try simp only [Act.put, List.setIfInBounds_toArray, List.set_cons_zero, List.set_cons_succ, List.getElem_toArray, List.getElem_cons_succ, List.getElem_cons_zero]
                  refine wpAnyF_pure (i := 4) (v := undef) rfl (by kernel_rfl) (by kernel_rfl) (by kernel_rfl) (fun _ _ _ h => h) (Or.inr ⟨by rfl, rfl⟩) ?restg1_5_4
                  try simp only [Act.put, List.setIfInBounds_toArray, List.set_cons_zero, List.set_cons_succ, List.getElem_toArray, List.getElem_cons_succ, List.getElem_cons_zero]
                  refine wpAnyF_pure (i := 5) (v := undef) rfl (by kernel_rfl) (by kernel_rfl) (by kernel_rfl) (fun _ _ _ h => h) (Or.inr ⟨by rfl, rfl⟩) ?restg1_6_5
                  try simp only [Act.put, List.setIfInBounds_toArray, List.set_cons_zero, List.set_cons_succ, List.getElem_toArray, List.getElem_cons_succ, List.getElem_cons_zero]
                  refine wpAnyF_pure (i := 6) (v := undef) rfl (by kernel_rfl) (by kernel_rfl) (by kernel_rfl) (fun _ _ _ h => h) (Or.inr ⟨by rfl, rfl⟩) ?restg1_7_6
                  try simp only [Act.put, List.setIfInBounds_toArray, List.set_cons_zero, List.set_cons_succ, List.getElem_toArray, List.getElem_cons_succ, List.getElem_cons_zero]
                  refine wpAnyF_pure (i := 7) (v := undef) rfl (by kernel_rfl) (by kernel_rfl) (by kernel_rfl) (fun _ _ _ h => h) (Or.inr ⟨by rfl, rfl⟩) ?restg1_8_7
                  try simp only [Act.put, List.setIfInBounds_toArray, List.set_cons_zero, List.set_cons_succ, List.getElem_toArray, List.getElem_cons_succ, List.getElem_cons_zero]
                  refine wpAnyF_pure (i := 8) (v := undef) rfl (by kernel_rfl) (by kernel_rfl) (by kernel_rfl) (fun _ _ _ h => h) (Or.inr ⟨by rfl, rfl⟩) ?restg1_9_8
                  try simp only [Act.put, List.setIfInBounds_toArray, List.set_cons_zero, List.set_cons_succ, List.getElem_toArray, List.getElem_cons_succ, List.getElem_cons_zero]
                  refine wpAnyF_pure (i := 9) (v := undef) rfl (by kernel_rfl) (by kernel_rfl) (by kernel_rfl) (fun _ _ _ h => h) (Or.inr ⟨by rfl, rfl⟩) ?restg1_10_9
                  try simp only [Act.put, List.setIfInBounds_toArray, List.set_cons_zero, List.set_cons_succ, List.getElem_toArray, List.getElem_cons_succ, List.getElem_cons_zero]
                  refine wpAnyF_pure (i := 10) (v := undef) rfl (by kernel_rfl) (by kernel_rfl) (by kernel_rfl) (fun _ _ _ h => h) (Or.inr ⟨by rfl, rfl⟩) ?restg1_11_10
                  try simp only [Act.put, List.setIfInBounds_toArray, List.set_cons_zero, List.set_cons_succ, List.getElem_toArray, List.getElem_cons_succ, List.getElem_cons_zero]
                  refine wpAnyF_pure (i := 11) (v := undef) rfl (by kernel_rfl) (by kernel_rfl) (by kernel_rfl) (fun _ _ _ h => h) (Or.inr ⟨by rfl, rfl⟩) ?restg1_12_11
                  try simp only [Act.put, List.setIfInBounds_toArray, List.set_cons_zero, List.set_cons_succ, List.getElem_toArray, List.getElem_cons_succ, List.getElem_cons_zero]
                  refine wpAnyF_pure (i := 12) (v := undef) rfl (by kernel_rfl) (by kernel_rfl) (by kernel_rfl) (fun _ _ _ h => h) (Or.inr ⟨by rfl, rfl⟩) ?restg1_13_12
                  try simp only [Act.put, List.setIfInBounds_toArray, List.set_cons_zero, List.set_cons_succ, List.getElem_toArray, List.getElem_cons_succ, List.getElem_cons_zero]
                  refine wpAnyF_pure (i := 13) (v := ?vg1_14_13) rfl (by kernel_rfl) (by kernel_rfl) (by kernel_rfl) (fun _ _ _ h => h) (Or.inl ⟨by rfl, ?hyg1_14_13⟩) ?restg1_14_13
                  case hyg1_14_13 => (intro w hSw; clear hSw; go_simp; (all_goals with_reducible rfl))
                  try simp only [Act.put, List.setIfInBounds_toArray, List.set_cons_zero, List.set_cons_succ, List.getElem_toArray, List.getElem_cons_succ, List.getElem_cons_zero]
                  refine wpAnyF_pure (i := 14) (v := ?vg1_15_14) rfl (by kernel_rfl) (by kernel_rfl) (by kernel_rfl) (fun _ _ _ h => h) (Or.inl ⟨by rfl, ?hyg1_15_14⟩) ?restg1_15_14
                  case hyg1_15_14 => (intro w hSw; clear hSw; go_simp; (all_goals with_reducible rfl))
                  try simp only [Act.put, List.setIfInBounds_toArray, List.set_cons_zero, List.set_cons_succ, List.getElem_toArray, List.getElem_cons_succ, List.getElem_cons_zero]
                  refine wpAnyF_pure (i := 15) (v := undef) rfl (by kernel_rfl) (by kernel_rfl) (by kernel_rfl) (fun _ _ _ h => h) (Or.inr ⟨by rfl, rfl⟩) ?restg1_16_15
                  try simp only [Act.put, List.setIfInBounds_toArray, List.set_cons_zero, List.set_cons_succ, List.getElem_toArray, List.getElem_cons_succ, List.getElem_cons_zero]
                  refine wpAnyF_pure (i := 16) (v := undef) rfl (by kernel_rfl) (by kernel_rfl) (by kernel_rfl) (fun _ _ _ h => h) (Or.inr ⟨by rfl, rfl⟩) ?restg1_17_16
                  try simp only [Act.put, List.setIfInBounds_toArray, List.set_cons_zero, List.set_cons_succ, List.getElem_toArray, List.getElem_cons_succ, List.getElem_cons_zero]
                  refine wpAnyF_pure (i := 17) (v := undef) rfl (by kernel_rfl) (by kernel_rfl) (by kernel_rfl) (fun _ _ _ h => h) (Or.inr ⟨by rfl, rfl⟩) ?restg1_18_17
                  try simp only [Act.put, List.setIfInBounds_toArray, List.set_cons_zero, List.set_cons_succ, List.getElem_toArray, List.getElem_cons_succ, List.getElem_cons_zero]
                  refine wpAnyF_pure (i := 18) (v := undef) rfl (by kernel_rfl) (by kernel_rfl) (by kernel_rfl) (fun _ _ _ h => h) (Or.inr ⟨by rfl, rfl⟩) ?restg1_19_18
                  try simp only [Act.put, List.setIfInBounds_toArray, List.set_cons_zero, List.set_cons_succ, List.getElem_toArray, List.getElem_cons_succ, List.getElem_cons_zero]
                  refine wpAnyF_pure (i := 19) (v := undef) rfl (by kernel_rfl) (by kernel_rfl) (by kernel_rfl) (fun _ _ _ h => h) (Or.inr ⟨by rfl, rfl⟩) ?restg1_20_19
                  try simp only [Act.put, List.setIfInBounds_toArray, List.set_cons_zero, List.set_cons_succ, List.getElem_toArray, List.getElem_cons_succ, List.getElem_cons_zero]
                  refine wpAnyF_pure (i := 20) (v := undef) rfl (by kernel_rfl) (by kernel_rfl) (by kernel_rfl) (fun _ _ _ h => h) (Or.inr ⟨by rfl, rfl⟩) ?restg1_21_20
                  try simp only [Act.put, List.setIfInBounds_toArray, List.set_cons_zero, List.set_cons_succ, List.getElem_toArray, List.getElem_cons_succ, List.getElem_cons_zero]
                  refine wpAnyF_pure (i := 21) (v := undef) rfl (by kernel_rfl) (by kernel_rfl) (by kernel_rfl) (fun _ _ _ h => h) (Or.inr ⟨by rfl, rfl⟩) ?restg1_22_21
                  try simp only [Act.put, List.setIfInBounds_toArray, List.set_cons_zero, List.set_cons_succ, List.getElem_toArray, List.getElem_cons_succ, List.getElem_cons_zero]
                  refine wpAnyF_pure (i := 22) (v := undef) rfl (by kernel_rfl) (by kernel_rfl) (by kernel_rfl) (fun _ _ _ h => h) (Or.inr ⟨by rfl, rfl⟩) ?restg1_23_22
                  try simp only [Act.put, List.setIfInBounds_toArray, List.set_cons_zero, List.set_cons_succ, List.getElem_toArray, List.getElem_cons_succ, List.getElem_cons_zero]
                  refine wpAnyF_pure (i := 23) (v := ?vg1_24_23) rfl (by kernel_rfl) (by kernel_rfl) (by kernel_rfl) (fun _ _ _ h => h) (Or.inl ⟨by rfl, ?hyg1_24_23⟩) ?restg1_24_23
                  case hyg1_24_23 => (intro w hSw; clear hSw; go_simp; (all_goals with_reducible rfl))
                  try simp only [Act.put, List.setIfInBounds_toArray, List.set_cons_zero, List.set_cons_succ, List.getElem_toArray, List.getElem_cons_succ, List.getElem_cons_zero]
                  refine wpAnyF_done (by kernel_rfl) ?_ _
                  go_wp2_with (at_builtin; refine wp_app1 _ rfl rfl el_hops rfl (HOA.out.drew.alloc _) rfl (rd_newAt _ _ _ 2 1 _ (by simp) rfl) (two_oneZ _ _) hn16 (Nat.le_trans HBW.out.size (by simp)) ?_; intro A6 c6 w6 o6 b6 g6)
                  go_roundw
                  case rel => exact HREL.out hvn HBH.out _ _ _ _ _ (by go_num) (by go_num) o6 (((Below.refl _ _).drew.alloc HBW.out.size _).trans b6)
                  case measure => simp [intOf]; omega
                · obtain ⟨m, hm⟩ : ∃ m, j = m + 1 := ⟨j - 1, by omega⟩
                  have hjb : decide ((0 : Int) < (j : Int)) = true := by simp; omega
                  have hjb2 : decide (0 < j) = true := by simp; omega
                  have hw1 : IntKind.i64.wrap ((j : Int) - 1) = (m : Int) := by rw [IntWalk.i64_in _ (by omega)]; omega
                  have hm1 : (0 : Int) ≤ (m : Int) := by omega
                  have hm2 : (m : Int) < (to.length : Int) := by omega
                  have hm3 : (m : Int) < (j : Int) := by omega
                  obtain ⟨q, hq⟩ : ∃ q, acc[m]? = some q := ⟨_, List.getElem?_eq_getElem (by have := HAL.out; omega)⟩
                  have hlast : acc.getLast? = some q := by rw [List.getLast?_eq_getElem?, HAL.out, hm]; exact hq
                  have htm : to[m]? = some q.to := by
                    have h9 : (acc.map (·.to))[m]? = some q.to := by rw [List.getElem?_map, hq]; rfl
                    rw [HTO.out, List.getElem?_take] at h9
                    rw [if_pos (by omega)] at h9; exact h9
                  have hle : q.to ≤ v := by
                    have h9 := List.pairwise_iff_getElem.1 hri m j (by omega) hlt (by omega)
                    have ha1 := (List.getElem?_eq_some_iff.1 htm).2
                    have ha2 := (List.getElem?_eq_some_iff.1 HV.out).2
                    rw [ha1, ha2] at h9; exact h9
                  obtain ⟨tv, htv⟩ : ∃ tv, tv = q.to := ⟨_, rfl⟩
                  obtain ⟨qw, hqw⟩ : ∃ qw, qw = q.wt := ⟨_, rfl⟩
                  obtain ⟨bt', ot', hA1, _, e1⟩ := int_cell (rd_own (own_below HO1.out HBW.out (Nat.le_refl _))) rfl htm
                  injection hA1 with hA1
                  injection hA1 with hA1 hA2
                  subst hA1 hA2
                  obtain ⟨gl, ol, rfl, _, _, e2⟩ := hop_cellZ (rd_own HOA.out) HAL.out hq
                  rw [← htv] at e1 hle
                  rw [← hqw] at e2
                  have HBI := hid (fun h => show behindB acc.getLast? ⟨v, x⟩ = true by rw [hlast]; unfold behindB; dsimp only; rw [← htv, ← hqw]; exact h)
                  have HBJ := hid (fun h => show ¬ (v < n ∧ behindB acc.getLast? ⟨v, x⟩ = true) by rw [hlast]; unfold behindB; dsimp only; rw [← htv, ← hqw]; exact h)
                  clear hlast htm htv hqw hq hj0
                  have HM := hid hm
                  clear hm
                  by_cases hc1 : v = tv
                  · have hcb : (v == tv) = true := by simpa using hc1
                    by_cases hc2 : x < qw
                    · have hcc : decide (x < qw) = true := by simpa using hc2
                      have HBAD := hid (HBJ.out (fun h => by have h2 := h.2; simp at h2; omega))
                      clear hc1
                      go_wp2_with fail
                      refine HSW.out.mono ?_
                      rintro e w2 ⟨rfl, rfl⟩
                      go_wp2_with fail
                      refine wp_region_F (S := (fun V' => V'.cell? ⟨bt, ot + j, none⟩ = some (.int .i64 v) ∧ V'.cell? ⟨bt, ot + m, none⟩ = some (.int .i64 tv) ∧ V'.cell? ⟨gl, ol + m * 2 + 1, none⟩ = some (.int .i64 qw))) [] (by kernel_rfl) ⟨e0, e1, e2⟩ (fun hHeld => ?_)
                      refine wpAnyF_pure (i := 0) (v := ?vg2_1_0) rfl (by kernel_rfl) (by kernel_rfl) (by kernel_rfl) (fun _ _ _ h => h) (Or.inl ⟨by rfl, ?hyg2_1_0⟩) ?restg2_1_0
                      case hyg2_1_0 => (intro w hSw; clear hSw; go_simp; (all_goals with_reducible rfl))
                      try simp only [Act.put, List.setIfInBounds_toArray, List.set_cons_zero, List.set_cons_succ, List.getElem_toArray, List.getElem_cons_succ, List.getElem_cons_zero]
                      refine wpAnyF_pure (i := 1) (v := ?vg2_2_1) rfl (by kernel_rfl) (by kernel_rfl) (by kernel_rfl) (fun _ _ _ h => h) (Or.inl ⟨by rfl, ?hyg2_2_1⟩) ?restg2_2_1
                      case hyg2_2_1 => (intro w hSw; clear hSw; go_simp; (all_goals with_reducible rfl))
                      try simp only [Act.put, List.setIfInBounds_toArray, List.set_cons_zero, List.set_cons_succ, List.getElem_toArray, List.getElem_cons_succ, List.getElem_cons_zero]
                      refine wpAnyF_pure (i := 2) (v := ?vg2_3_2) rfl (by kernel_rfl) (by kernel_rfl) (by kernel_rfl) (fun _ _ _ h => h) (Or.inl ⟨by rfl, ?hyg2_3_2⟩) ?restg2_3_2
                      case hyg2_3_2 => (intro w hSw; clear hSw; go_simp; (all_goals with_reducible rfl))
                      try simp only [Act.put, List.setIfInBounds_toArray, List.set_cons_zero, List.set_cons_succ, List.getElem_toArray, List.getElem_cons_succ, List.getElem_cons_zero]
                      refine wpAnyF_pure (i := 3) (v := ?vg2_4_3) rfl (by kernel_rfl) (by kernel_rfl) (by kernel_rfl) (fun _ _ _ h => h) (Or.inl ⟨by rfl, ?hyg2_4_3⟩) ?restg2_4_3
                      case hyg2_4_3 => (intro w hSw; clear hSw; go_simp; (all_goals with_reducible rfl))
                      try simp only [Act.put, List.setIfInBounds_toArray, List.set_cons_zero, List.set_cons_succ, List.getElem_toArray, List.getElem_cons_succ, List.getElem_cons_zero]
                      refine wpAnyF_pure (i := 4) (v := ?vg2_5_4) rfl (by kernel_rfl) (by kernel_rfl) (by kernel_rfl) (fun _ _ _ h => h) (Or.inl ⟨by rfl, ?hyg2_5_4⟩) ?restg2_5_4
                      case hyg2_5_4 => (intro w hSw; clear hSw; go_simp; (all_goals with_reducible rfl))
                      try simp only [Act.put, List.setIfInBounds_toArray, List.set_cons_zero, List.set_cons_succ, List.getElem_toArray, List.getElem_cons_succ, List.getElem_cons_zero]
                      refine wpAnyF_pure (i := 5) (v := ?vg2_6_5) rfl (by kernel_rfl) (by kernel_rfl) (by kernel_rfl) (fun _ _ _ h => h) (Or.inl ⟨by rfl, ?hyg2_6_5⟩) ?restg2_6_5
                      case hyg2_6_5 => (intro w hSw; clear hSw; go_simp; (all_goals with_reducible rfl))
                      try simp only [Act.put, List.setIfInBounds_toArray, List.set_cons_zero, List.set_cons_succ, List.getElem_toArray, List.getElem_cons_succ, List.getElem_cons_zero]
                      refine wpAnyF_pure (i := 7) (v := ?vg2_7_7) rfl (by kernel_rfl) (by kernel_rfl) (by kernel_rfl) (fun _ _ _ h => h) (Or.inl ⟨by rfl, ?hyg2_7_7⟩) ?restg2_7_7
                      case hyg2_7_7 => (intro w hSw; clear hSw; go_simp; (all_goals with_reducible rfl))
                      try simp only [Act.put, List.setIfInBounds_toArray, List.set_cons_zero, List.set_cons_succ, List.getElem_toArray, List.getElem_cons_succ, List.getElem_cons_zero]
                      refine wpAnyF_pure (i := 8) (v := ?vg2_8_8) rfl (by kernel_rfl) (by kernel_rfl) (by kernel_rfl) (fun _ _ _ h => h) (Or.inl ⟨by rfl, ?hyg2_8_8⟩) ?restg2_8_8
                      case hyg2_8_8 => (intro w hSw; clear hSw; go_simp; (all_goals with_reducible rfl))
                      try simp only [Act.put, List.setIfInBounds_toArray, List.set_cons_zero, List.set_cons_succ, List.getElem_toArray, List.getElem_cons_succ, List.getElem_cons_zero]
                      refine wpAnyF_pure (i := 9) (v := ?vg2_9_9) rfl (by kernel_rfl) (by kernel_rfl) (by kernel_rfl) (fun _ _ _ h => h) (Or.inl ⟨by rfl, ?hyg2_9_9⟩) ?restg2_9_9
                      case hyg2_9_9 => (intro w hSw; clear hSw; go_simp; (all_goals with_reducible rfl))
                      try simp only [Act.put, List.setIfInBounds_toArray, List.set_cons_zero, List.set_cons_succ, List.getElem_toArray, List.getElem_cons_succ, List.getElem_cons_zero]
                      refine wpAnyF_pure (i := 10) (v := ?vg2_10_10) rfl (by kernel_rfl) (by kernel_rfl) (by kernel_rfl) (fun _ _ _ h => h) (Or.inl ⟨by rfl, ?hyg2_10_10⟩) ?restg2_10_10
                      case hyg2_10_10 => (intro w hSw; clear hSw; go_simp; (all_goals with_reducible rfl))
                      try simp only [Act.put, List.setIfInBounds_toArray, List.set_cons_zero, List.set_cons_succ, List.getElem_toArray, List.getElem_cons_succ, List.getElem_cons_zero]
                      refine wpAnyF_take [12, 13, 14, 15, 16, 17, 18, 19, 20, 21, 22, 23] (i := 6) (v := ?vg2_11_6) rfl (by kernel_rfl) (by kernel_rfl) (by kernel_rfl) (by kernel_rfl) (fun _ _ _ h => h) (Or.inl ⟨by rfl, ?hyg2_11_6⟩) (by assumption) ?restg2_11_6
                      case hyg2_11_6 => (intro w hSw; (try dsimp only at hSw); go_simp; (all_goals with_reducible rfl))
                      try simp only [Act.put, List.setIfInBounds_toArray, List.set_cons_zero, List.set_cons_succ, List.getElem_toArray, List.getElem_cons_succ, List.getElem_cons_zero]
                      refine wpAnyF_take [12, 13, 14, 15, 16, 17, 18, 19, 20, 21, 22, 23] (i := 11) (v := ?vg2_12_11) rfl (by kernel_rfl) (by kernel_rfl) (by kernel_rfl) (by kernel_rfl) (fun _ _ _ h => h) (Or.inl ⟨by rfl, ?hyg2_12_11⟩) (by assumption) ?restg2_12_11
                      case hyg2_12_11 => (intro w hSw; (try dsimp only at hSw); go_simp; (all_goals with_reducible rfl))
                      try simp only [Act.put, List.setIfInBounds_toArray, List.set_cons_zero, List.set_cons_succ, List.getElem_toArray, List.getElem_cons_succ, List.getElem_cons_zero]
                      refine wpAnyF_pure (i := 12) (v := ?vg2_13_12) rfl (by kernel_rfl) (by kernel_rfl) (by kernel_rfl) (fun _ _ _ h => h) (Or.inl ⟨by rfl, ?hyg2_13_12⟩) ?restg2_13_12
                      case hyg2_13_12 => (intro w hSw; clear hSw; go_simp; (all_goals with_reducible rfl))
                      try simp only [Act.put, List.setIfInBounds_toArray, List.set_cons_zero, List.set_cons_succ, List.getElem_toArray, List.getElem_cons_succ, List.getElem_cons_zero]
                      refine wpAnyF_pure (i := 13) (v := ?vg2_14_13) rfl (by kernel_rfl) (by kernel_rfl) (by kernel_rfl) (fun _ _ _ h => h) (Or.inl ⟨by rfl, ?hyg2_14_13⟩) ?restg2_14_13
                      case hyg2_14_13 => (intro w hSw; clear hSw; go_simp; (all_goals with_reducible rfl))
                      try simp only [Act.put, List.setIfInBounds_toArray, List.set_cons_zero, List.set_cons_succ, List.getElem_toArray, List.getElem_cons_succ, List.getElem_cons_zero]
                      refine wpAnyF_pure (i := 14) (v := ?vg2_15_14) rfl (by kernel_rfl) (by kernel_rfl) (by kernel_rfl) (fun _ _ _ h => h) (Or.inl ⟨by rfl, ?hyg2_15_14⟩) ?restg2_15_14
                      case hyg2_15_14 => (intro w hSw; clear hSw; go_simp; (all_goals with_reducible rfl))
                      try simp only [Act.put, List.setIfInBounds_toArray, List.set_cons_zero, List.set_cons_succ, List.getElem_toArray, List.getElem_cons_succ, List.getElem_cons_zero]
                      refine wpAnyF_pure (i := 15) (v := ?vg2_16_15) rfl (by kernel_rfl) (by kernel_rfl) (by kernel_rfl) (fun _ _ _ h => h) (Or.inl ⟨by rfl, ?hyg2_16_15⟩) ?restg2_16_15
                      case hyg2_16_15 => (intro w hSw; clear hSw; go_simp; (all_goals with_reducible rfl))
                      try simp only [Act.put, List.setIfInBounds_toArray, List.set_cons_zero, List.set_cons_succ, List.getElem_toArray, List.getElem_cons_succ, List.getElem_cons_zero]
                      refine wpAnyF_pure (i := 16) (v := ?vg2_17_16) rfl (by kernel_rfl) (by kernel_rfl) (by kernel_rfl) (fun _ _ _ h => h) (Or.inl ⟨by rfl, ?hyg2_17_16⟩) ?restg2_17_16
                      case hyg2_17_16 => (intro w hSw; clear hSw; go_simp; (all_goals with_reducible rfl))
                      try simp only [Act.put, List.setIfInBounds_toArray, List.set_cons_zero, List.set_cons_succ, List.getElem_toArray, List.getElem_cons_succ, List.getElem_cons_zero]
                      refine wpAnyF_pure (i := 17) (v := ?vg2_18_17) rfl (by kernel_rfl) (by kernel_rfl) (by kernel_rfl) (fun _ _ _ h => h) (Or.inl ⟨by rfl, ?hyg2_18_17⟩) ?restg2_18_17
                      case hyg2_18_17 => (intro w hSw; clear hSw; go_simp; (all_goals with_reducible rfl))
                      try simp only [Act.put, List.setIfInBounds_toArray, List.set_cons_zero, List.set_cons_succ, List.getElem_toArray, List.getElem_cons_succ, List.getElem_cons_zero]
                      refine wpAnyF_pure (i := 18) (v := ?vg2_19_18) rfl (by kernel_rfl) (by kernel_rfl) (by kernel_rfl) (fun _ _ _ h => h) (Or.inl ⟨by rfl, ?hyg2_19_18⟩) ?restg2_19_18
                      case hyg2_19_18 => (intro w hSw; clear hSw; go_simp; (all_goals with_reducible rfl))
                      try simp only [Act.put, List.setIfInBounds_toArray, List.set_cons_zero, List.set_cons_succ, List.getElem_toArray, List.getElem_cons_succ, List.getElem_cons_zero]
                      refine wpAnyF_pure (i := 19) (v := ?vg2_20_19) rfl (by kernel_rfl) (by kernel_rfl) (by kernel_rfl) (fun _ _ _ h => h) (Or.inl ⟨by rfl, ?hyg2_20_19⟩) ?restg2_20_19
                      case hyg2_20_19 => (intro w hSw; clear hSw; go_simp; (all_goals with_reducible rfl))
                      try simp only [Act.put, List.setIfInBounds_toArray, List.set_cons_zero, List.set_cons_succ, List.getElem_toArray, List.getElem_cons_succ, List.getElem_cons_zero]
                      refine wpAnyF_pure (i := 20) (v := ?vg2_21_20) rfl (by kernel_rfl) (by kernel_rfl) (by kernel_rfl) (fun _ _ _ h => h) (Or.inl ⟨by rfl, ?hyg2_21_20⟩) ?restg2_21_20
                      case hyg2_21_20 => (intro w hSw; clear hSw; go_simp; (all_goals with_reducible rfl))
                      try simp only [Act.put, List.setIfInBounds_toArray, List.set_cons_zero, List.set_cons_succ, List.getElem_toArray, List.getElem_cons_succ, List.getElem_cons_zero]
                      refine wpAnyF_take [22, 23] (i := 21) (v := ?vg2_22_21) rfl (by kernel_rfl) (by kernel_rfl) (by kernel_rfl) (by kernel_rfl) (fun _ _ _ h => h) (Or.inl ⟨by rfl, ?hyg2_22_21⟩) (by assumption) ?restg2_22_21
                      case hyg2_22_21 => (intro w hSw; (try dsimp only at hSw); go_simp; (all_goals with_reducible rfl))
                      try simp only [Act.put, List.setIfInBounds_toArray, List.set_cons_zero, List.set_cons_succ, List.getElem_toArray, List.getElem_cons_succ, List.getElem_cons_zero]
                      refine wpAnyF_pure (i := 22) (v := ?vg2_23_22) rfl (by kernel_rfl) (by kernel_rfl) (by kernel_rfl) (fun _ _ _ h => h) (Or.inl ⟨by rfl, ?hyg2_23_22⟩) ?restg2_23_22
                      case hyg2_23_22 => (intro w hSw; clear hSw; go_simp; (all_goals with_reducible rfl))
                      try simp only [Act.put, List.setIfInBounds_toArray, List.set_cons_zero, List.set_cons_succ, List.getElem_toArray, List.getElem_cons_succ, List.getElem_cons_zero]
                      refine wpAnyF_pure (i := 23) (v := ?vg2_24_23) rfl (by kernel_rfl) (by kernel_rfl) (by kernel_rfl) (fun _ _ _ h => h) (Or.inl ⟨by rfl, ?hyg2_24_23⟩) ?restg2_24_23
                      case hyg2_24_23 => (intro w hSw; clear hSw; go_simp; (all_goals with_reducible rfl))
                      try simp only [Act.put, List.setIfInBounds_toArray, List.set_cons_zero, List.set_cons_succ, List.getElem_toArray, List.getElem_cons_succ, List.getElem_cons_zero]
                      refine wpAnyF_done (by kernel_rfl) ?_ _
                      go_wp2_with fail
                      go_ret2
                      rw [HNONE.out HBAD.out]
                      exact ⟨rfl, bT HB1.out (HBW.out.drew)⟩
                    · have hcc : decide (x < qw) = false := by simpa using hc2
                      have HBH := hid (HBI.out (by simp; omega))
                      clear hc1
                      go_wp2_with fail
                      refine HSW.out.mono ?_
                      rintro e w2 ⟨rfl, rfl⟩
                      go_wp2_with fail
                      refine wp_region_F (S := (fun V' => V'.cell? ⟨bt, ot + j, none⟩ = some (.int .i64 v) ∧ V'.cell? ⟨bt, ot + m, none⟩ = some (.int .i64 tv) ∧ V'.cell? ⟨gl, ol + m * 2 + 1, none⟩ = some (.int .i64 qw))) [] (by kernel_rfl) ⟨e0, e1, e2⟩ (fun hHeld => ?_)
                      refine wpAnyF_pure (i := 0) (v := ?vg3_1_0) rfl (by kernel_rfl) (by kernel_rfl) (by kernel_rfl) (fun _ _ _ h => h) (Or.inl ⟨by rfl, ?hyg3_1_0⟩) ?restg3_1_0
                      case hyg3_1_0 => (intro w hSw; clear hSw; go_simp; (all_goals with_reducible rfl))
                      try simp only [Act.put, List.setIfInBounds_toArray, List.set_cons_zero, List.set_cons_succ, List.getElem_toArray, List.getElem_cons_succ, List.getElem_cons_zero]
                      refine wpAnyF_pure (i := 1) (v := ?vg3_2_1) rfl (by kernel_rfl) (by kernel_rfl) (by kernel_rfl) (fun _ _ _ h => h) (Or.inl ⟨by rfl, ?hyg3_2_1⟩) ?restg3_2_1
                      case hyg3_2_1 => (intro w hSw; clear hSw; go_simp; (all_goals with_reducible rfl))
                      try simp only [Act.put, List.setIfInBounds_toArray, List.set_cons_zero, List.set_cons_succ, List.getElem_toArray, List.getElem_cons_succ, List.getElem_cons_zero]
                      refine wpAnyF_pure (i := 2) (v := ?vg3_3_2) rfl (by kernel_rfl) (by kernel_rfl) (by kernel_rfl) (fun _ _ _ h => h) (Or.inl ⟨by rfl, ?hyg3_3_2⟩) ?restg3_3_2
                      case hyg3_3_2 => (intro w hSw; clear hSw; go_simp; (all_goals with_reducible rfl))
                      try simp only [Act.put, List.setIfInBounds_toArray, List.set_cons_zero, List.set_cons_succ, List.getElem_toArray, List.getElem_cons_succ, List.getElem_cons_zero]
                      refine wpAnyF_pure (i := 3) (v := ?vg3_4_3) rfl (by kernel_rfl) (by kernel_rfl) (by kernel_rfl) (fun _ _ _ h => h) (Or.inl ⟨by rfl, ?hyg3_4_3⟩) ?restg3_4_3
                      case hyg3_4_3 => (intro w hSw; clear hSw; go_simp; (all_goals with_reducible rfl))
                      try simp only [Act.put, List.setIfInBounds_toArray, List.set_cons_zero, List.set_cons_succ, List.getElem_toArray, List.getElem_cons_succ, List.getElem_cons_zero]
                      refine wpAnyF_pure (i := 4) (v := ?vg3_5_4) rfl (by kernel_rfl) (by kernel_rfl) (by kernel_rfl) (fun _ _ _ h => h) (Or.inl ⟨by rfl, ?hyg3_5_4⟩) ?restg3_5_4
                      case hyg3_5_4 => (intro w hSw; clear hSw; go_simp; (all_goals with_reducible rfl))
                      try simp only [Act.put, List.setIfInBounds_toArray, List.set_cons_zero, List.set_cons_succ, List.getElem_toArray, List.getElem_cons_succ, List.getElem_cons_zero]
                      refine wpAnyF_pure (i := 5) (v := ?vg3_6_5) rfl (by kernel_rfl) (by kernel_rfl) (by kernel_rfl) (fun _ _ _ h => h) (Or.inl ⟨by rfl, ?hyg3_6_5⟩) ?restg3_6_5
                      case hyg3_6_5 => (intro w hSw; clear hSw; go_simp; (all_goals with_reducible rfl))
                      try simp only [Act.put, List.setIfInBounds_toArray, List.set_cons_zero, List.set_cons_succ, List.getElem_toArray, List.getElem_cons_succ, List.getElem_cons_zero]
                      refine wpAnyF_pure (i := 7) (v := ?vg3_7_7) rfl (by kernel_rfl) (by kernel_rfl) (by kernel_rfl) (fun _ _ _ h => h) (Or.inl ⟨by rfl, ?hyg3_7_7⟩) ?restg3_7_7
                      case hyg3_7_7 => (intro w hSw; clear hSw; go_simp; (all_goals with_reducible rfl))
                      try simp only [Act.put, List.setIfInBounds_toArray, List.set_cons_zero, List.set_cons_succ, List.getElem_toArray, List.getElem_cons_succ, List.getElem_cons_zero]
                      refine wpAnyF_pure (i := 8) (v := ?vg3_8_8) rfl (by kernel_rfl) (by kernel_rfl) (by kernel_rfl) (fun _ _ _ h => h) (Or.inl ⟨by rfl, ?hyg3_8_8⟩) ?restg3_8_8
                      case hyg3_8_8 => (intro w hSw; clear hSw; go_simp; (all_goals with_reducible rfl))
                      try simp only [Act.put, List.setIfInBounds_toArray, List.set_cons_zero, List.set_cons_succ, List.getElem_toArray, List.getElem_cons_succ, List.getElem_cons_zero]
                      refine wpAnyF_pure (i := 9) (v := ?vg3_9_9) rfl (by kernel_rfl) (by kernel_rfl) (by kernel_rfl) (fun _ _ _ h => h) (Or.inl ⟨by rfl, ?hyg3_9_9⟩) ?restg3_9_9
                      case hyg3_9_9 => (intro w hSw; clear hSw; go_simp; (all_goals with_reducible rfl))
                      try simp only [Act.put, List.setIfInBounds_toArray, List.set_cons_zero, List.set_cons_succ, List.getElem_toArray, List.getElem_cons_succ, List.getElem_cons_zero]
                      refine wpAnyF_pure (i := 10) (v := ?vg3_10_10) rfl (by kernel_rfl) (by kernel_rfl) (by kernel_rfl) (fun _ _ _ h => h) (Or.inl ⟨by rfl, ?hyg3_10_10⟩) ?restg3_10_10
                      case hyg3_10_10 => (intro w hSw; clear hSw; go_simp; (all_goals with_reducible rfl))
                      try simp only [Act.put, List.setIfInBounds_toArray, List.set_cons_zero, List.set_cons_succ, List.getElem_toArray, List.getElem_cons_succ, List.getElem_cons_zero]
                      refine wpAnyF_take [12, 13, 14, 15, 16, 17, 18, 19, 20, 21, 22, 23] (i := 6) (v := ?vg3_11_6) rfl (by kernel_rfl) (by kernel_rfl) (by kernel_rfl) (by kernel_rfl) (fun _ _ _ h => h) (Or.inl ⟨by rfl, ?hyg3_11_6⟩) (by assumption) ?restg3_11_6
                      case hyg3_11_6 => (intro w hSw; (try dsimp only at hSw); go_simp; (all_goals with_reducible rfl))
                      try simp only [Act.put, List.setIfInBounds_toArray, List.set_cons_zero, List.set_cons_succ, List.getElem_toArray, List.getElem_cons_succ, List.getElem_cons_zero]
                      refine wpAnyF_take [12, 13, 14, 15, 16, 17, 18, 19, 20, 21, 22, 23] (i := 11) (v := ?vg3_12_11) rfl (by kernel_rfl) (by kernel_rfl) (by kernel_rfl) (by kernel_rfl) (fun _ _ _ h => h) (Or.inl ⟨by rfl, ?hyg3_12_11⟩) (by assumption) ?restg3_12_11
                      case hyg3_12_11 => (intro w hSw; (try dsimp only at hSw); go_simp; (all_goals with_reducible rfl))
                      try simp only [Act.put, List.setIfInBounds_toArray, List.set_cons_zero, List.set_cons_succ, List.getElem_toArray, List.getElem_cons_succ, List.getElem_cons_zero]
                      refine wpAnyF_pure (i := 12) (v := ?vg3_13_12) rfl (by kernel_rfl) (by kernel_rfl) (by kernel_rfl) (fun _ _ _ h => h) (Or.inl ⟨by rfl, ?hyg3_13_12⟩) ?restg3_13_12
                      case hyg3_13_12 => (intro w hSw; clear hSw; go_simp; (all_goals with_reducible rfl))
                      try simp only [Act.put, List.setIfInBounds_toArray, List.set_cons_zero, List.set_cons_succ, List.getElem_toArray, List.getElem_cons_succ, List.getElem_cons_zero]
                      refine wpAnyF_pure (i := 13) (v := ?vg3_14_13) rfl (by kernel_rfl) (by kernel_rfl) (by kernel_rfl) (fun _ _ _ h => h) (Or.inl ⟨by rfl, ?hyg3_14_13⟩) ?restg3_14_13
                      case hyg3_14_13 => (intro w hSw; clear hSw; go_simp; (all_goals with_reducible rfl))
                      try simp only [Act.put, List.setIfInBounds_toArray, List.set_cons_zero, List.set_cons_succ, List.getElem_toArray, List.getElem_cons_succ, List.getElem_cons_zero]
                      refine wpAnyF_pure (i := 14) (v := ?vg3_15_14) rfl (by kernel_rfl) (by kernel_rfl) (by kernel_rfl) (fun _ _ _ h => h) (Or.inl ⟨by rfl, ?hyg3_15_14⟩) ?restg3_15_14
                      case hyg3_15_14 => (intro w hSw; clear hSw; go_simp; (all_goals with_reducible rfl))
                      try simp only [Act.put, List.setIfInBounds_toArray, List.set_cons_zero, List.set_cons_succ, List.getElem_toArray, List.getElem_cons_succ, List.getElem_cons_zero]
                      refine wpAnyF_pure (i := 15) (v := ?vg3_16_15) rfl (by kernel_rfl) (by kernel_rfl) (by kernel_rfl) (fun _ _ _ h => h) (Or.inl ⟨by rfl, ?hyg3_16_15⟩) ?restg3_16_15
                      case hyg3_16_15 => (intro w hSw; clear hSw; go_simp; (all_goals with_reducible rfl))
                      try simp only [Act.put, List.setIfInBounds_toArray, List.set_cons_zero, List.set_cons_succ, List.getElem_toArray, List.getElem_cons_succ, List.getElem_cons_zero]
                      refine wpAnyF_pure (i := 16) (v := ?vg3_17_16) rfl (by kernel_rfl) (by kernel_rfl) (by kernel_rfl) (fun _ _ _ h => h) (Or.inl ⟨by rfl, ?hyg3_17_16⟩) ?restg3_17_16
                      case hyg3_17_16 => (intro w hSw; clear hSw; go_simp; (all_goals with_reducible rfl))
                      try simp only [Act.put, List.setIfInBounds_toArray, List.set_cons_zero, List.set_cons_succ, List.getElem_toArray, List.getElem_cons_succ, List.getElem_cons_zero]
                      refine wpAnyF_pure (i := 17) (v := ?vg3_18_17) rfl (by kernel_rfl) (by kernel_rfl) (by kernel_rfl) (fun _ _ _ h => h) (Or.inl ⟨by rfl, ?hyg3_18_17⟩) ?restg3_18_17
                      case hyg3_18_17 => (intro w hSw; clear hSw; go_simp; (all_goals with_reducible rfl))
                      try simp only [Act.put, List.setIfInBounds_toArray, List.set_cons_zero, List.set_cons_succ, List.getElem_toArray, List.getElem_cons_succ, List.getElem_cons_zero]
                      refine wpAnyF_pure (i := 18) (v := ?vg3_19_18) rfl (by kernel_rfl) (by kernel_rfl) (by kernel_rfl) (fun _ _ _ h => h) (Or.inl ⟨by rfl, ?hyg3_19_18⟩) ?restg3_19_18
                      case hyg3_19_18 => (intro w hSw; clear hSw; go_simp; (all_goals with_reducible rfl))
                      try simp only [Act.put, List.setIfInBounds_toArray, List.set_cons_zero, List.set_cons_succ, List.getElem_toArray, List.getElem_cons_succ, List.getElem_cons_zero]
                      refine wpAnyF_pure (i := 19) (v := ?vg3_20_19) rfl (by kernel_rfl) (by kernel_rfl) (by kernel_rfl) (fun _ _ _ h => h) (Or.inl ⟨by rfl, ?hyg3_20_19⟩) ?restg3_20_19
                      case hyg3_20_19 => (intro w hSw; clear hSw; go_simp; (all_goals with_reducible rfl))
                      try simp only [Act.put, List.setIfInBounds_toArray, List.set_cons_zero, List.set_cons_succ, List.getElem_toArray, List.getElem_cons_succ, List.getElem_cons_zero]
                      refine wpAnyF_pure (i := 20) (v := ?vg3_21_20) rfl (by kernel_rfl) (by kernel_rfl) (by kernel_rfl) (fun _ _ _ h => h) (Or.inl ⟨by rfl, ?hyg3_21_20⟩) ?restg3_21_20
                      case hyg3_21_20 => (intro w hSw; clear hSw; go_simp; (all_goals with_reducible rfl))
                      try simp only [Act.put, List.setIfInBounds_toArray, List.set_cons_zero, List.set_cons_succ, List.getElem_toArray, List.getElem_cons_succ, List.getElem_cons_zero]
                      refine wpAnyF_take [22, 23] (i := 21) (v := ?vg3_22_21) rfl (by kernel_rfl) (by kernel_rfl) (by kernel_rfl) (by kernel_rfl) (fun _ _ _ h => h) (Or.inl ⟨by rfl, ?hyg3_22_21⟩) (by assumption) ?restg3_22_21
                      case hyg3_22_21 => (intro w hSw; (try dsimp only at hSw); go_simp; (all_goals with_reducible rfl))
                      try simp only [Act.put, List.setIfInBounds_toArray, List.set_cons_zero, List.set_cons_succ, List.getElem_toArray, List.getElem_cons_succ, List.getElem_cons_zero]
                      refine wpAnyF_pure (i := 22) (v := ?vg3_23_22) rfl (by kernel_rfl) (by kernel_rfl) (by kernel_rfl) (fun _ _ _ h => h) (Or.inl ⟨by rfl, ?hyg3_23_22⟩) ?restg3_23_22
                      case hyg3_23_22 => (intro w hSw; clear hSw; go_simp; (all_goals with_reducible rfl))
                      try simp only [Act.put, List.setIfInBounds_toArray, List.set_cons_zero, List.set_cons_succ, List.getElem_toArray, List.getElem_cons_succ, List.getElem_cons_zero]
                      refine wpAnyF_pure (i := 23) (v := ?vg3_24_23) rfl (by kernel_rfl) (by kernel_rfl) (by kernel_rfl) (fun _ _ _ h => h) (Or.inl ⟨by rfl, ?hyg3_24_23⟩) ?restg3_24_23
                      case hyg3_24_23 => (intro w hSw; clear hSw; go_simp; (all_goals with_reducible rfl))
                      try simp only [Act.put, List.setIfInBounds_toArray, List.set_cons_zero, List.set_cons_succ, List.getElem_toArray, List.getElem_cons_succ, List.getElem_cons_zero]
                      refine wpAnyF_done (by kernel_rfl) ?_ _
                      go_wp2_with (at_builtin; refine wp_app1 _ rfl rfl el_hops rfl (HOA.out.drew.alloc _) rfl (rd_newAt _ _ _ 2 1 _ (by simp) rfl) (two_oneZ _ _) hn16 (Nat.le_trans HBW.out.size (by simp)) ?_; intro A6 c6 w6 o6 b6 g6)
                      go_roundw
                      case rel => exact HREL.out hvn HBH.out _ _ _ _ _ (by go_num) (by go_num) o6 (((Below.refl _ _).drew.alloc HBW.out.size _).trans b6)
                      case measure => simp [intOf]; omega
                  · have hcb : (v == tv) = false := by simpa using hc1
                    have HBH := hid (HBI.out (by simp; omega))
                    go_wp2_with fail
                    refine HSW.out.mono ?_
                    rintro e w2 ⟨rfl, rfl⟩
                    go_wp2_with fail
                    refine wp_region_F (S := (fun V' => V'.cell? ⟨bt, ot + j, none⟩ = some (.int .i64 v) ∧ V'.cell? ⟨bt, ot + m, none⟩ = some (.int .i64 tv) ∧ V'.cell? ⟨gl, ol + m * 2 + 1, none⟩ = some (.int .i64 qw))) [] (by kernel_rfl) ⟨e0, e1, e2⟩ (fun hHeld => ?_)
                    refine wpAnyF_pure (i := 0) (v := ?vg4_1_0) rfl (by kernel_rfl) (by kernel_rfl) (by kernel_rfl) (fun _ _ _ h => h) (Or.inl ⟨by rfl, ?hyg4_1_0⟩) ?restg4_1_0
                    case hyg4_1_0 => (intro w hSw; clear hSw; go_simp; (all_goals with_reducible rfl))
                    try simp only [Act.put, List.setIfInBounds_toArray, List.set_cons_zero, List.set_cons_succ, List.getElem_toArray, List.getElem_cons_succ, List.getElem_cons_zero]
                    refine wpAnyF_pure (i := 1) (v := ?vg4_2_1) rfl (by kernel_rfl) (by kernel_rfl) (by kernel_rfl) (fun _ _ _ h => h) (Or.inl ⟨by rfl, ?hyg4_2_1⟩) ?restg4_2_1
                    case hyg4_2_1 => (intro w hSw; clear hSw; go_simp; (all_goals with_reducible rfl))
                    try simp only [Act.put, List.setIfInBounds_toArray, List.set_cons_zero, List.set_cons_succ, List.getElem_toArray, List.getElem_cons_succ, List.getElem_cons_zero]
                    refine wpAnyF_pure (i := 2) (v := ?vg4_3_2) rfl (by kernel_rfl) (by kernel_rfl) (by kernel_rfl) (fun _ _ _ h => h) (Or.inl ⟨by rfl, ?hyg4_3_2⟩) ?restg4_3_2
                    case hyg4_3_2 => (intro w hSw; clear hSw; go_simp; (all_goals with_reducible rfl))
                    try simp only [Act.put, List.setIfInBounds_toArray, List.set_cons_zero, List.set_cons_succ, List.getElem_toArray, List.getElem_cons_succ, List.getElem_cons_zero]
                    refine wpAnyF_pure (i := 3) (v := ?vg4_4_3) rfl (by kernel_rfl) (by kernel_rfl) (by kernel_rfl) (fun _ _ _ h => h) (Or.inl ⟨by rfl, ?hyg4_4_3⟩) ?restg4_4_3
                    case hyg4_4_3 => (intro w hSw; clear hSw; go_simp; (all_goals with_reducible rfl))
                    try simp only [Act.put, List.setIfInBounds_toArray, List.set_cons_zero, List.set_cons_succ, List.getElem_toArray, List.getElem_cons_succ, List.getElem_cons_zero]
                    refine wpAnyF_pure (i := 4) (v := ?vg4_5_4) rfl (by kernel_rfl) (by kernel_rfl) (by kernel_rfl) (fun _ _ _ h => h) (Or.inl ⟨by rfl, ?hyg4_5_4⟩) ?restg4_5_4
                    case hyg4_5_4 => (intro w hSw; clear hSw; go_simp; (all_goals with_reducible rfl))
                    try simp only [Act.put, List.setIfInBounds_toArray, List.set_cons_zero, List.set_cons_succ, List.getElem_toArray, List.getElem_cons_succ, List.getElem_cons_zero]
                    refine wpAnyF_pure (i := 5) (v := ?vg4_6_5) rfl (by kernel_rfl) (by kernel_rfl) (by kernel_rfl) (fun _ _ _ h => h) (Or.inl ⟨by rfl, ?hyg4_6_5⟩) ?restg4_6_5
                    case hyg4_6_5 => (intro w hSw; clear hSw; go_simp; (all_goals with_reducible rfl))
                    try simp only [Act.put, List.setIfInBounds_toArray, List.set_cons_zero, List.set_cons_succ, List.getElem_toArray, List.getElem_cons_succ, List.getElem_cons_zero]
                    refine wpAnyF_pure (i := 7) (v := ?vg4_7_7) rfl (by kernel_rfl) (by kernel_rfl) (by kernel_rfl) (fun _ _ _ h => h) (Or.inl ⟨by rfl, ?hyg4_7_7⟩) ?restg4_7_7
                    case hyg4_7_7 => (intro w hSw; clear hSw; go_simp; (all_goals with_reducible rfl))
                    try simp only [Act.put, List.setIfInBounds_toArray, List.set_cons_zero, List.set_cons_succ, List.getElem_toArray, List.getElem_cons_succ, List.getElem_cons_zero]
                    refine wpAnyF_pure (i := 8) (v := ?vg4_8_8) rfl (by kernel_rfl) (by kernel_rfl) (by kernel_rfl) (fun _ _ _ h => h) (Or.inl ⟨by rfl, ?hyg4_8_8⟩) ?restg4_8_8
                    case hyg4_8_8 => (intro w hSw; clear hSw; go_simp; (all_goals with_reducible rfl))
                    try simp only [Act.put, List.setIfInBounds_toArray, List.set_cons_zero, List.set_cons_succ, List.getElem_toArray, List.getElem_cons_succ, List.getElem_cons_zero]
                    refine wpAnyF_pure (i := 9) (v := ?vg4_9_9) rfl (by kernel_rfl) (by kernel_rfl) (by kernel_rfl) (fun _ _ _ h => h) (Or.inl ⟨by rfl, ?hyg4_9_9⟩) ?restg4_9_9
                    case hyg4_9_9 => (intro w hSw; clear hSw; go_simp; (all_goals with_reducible rfl))
                    try simp only [Act.put, List.setIfInBounds_toArray, List.set_cons_zero, List.set_cons_succ, List.getElem_toArray, List.getElem_cons_succ, List.getElem_cons_zero]
                    refine wpAnyF_pure (i := 10) (v := ?vg4_10_10) rfl (by kernel_rfl) (by kernel_rfl) (by kernel_rfl) (fun _ _ _ h => h) (Or.inl ⟨by rfl, ?hyg4_10_10⟩) ?restg4_10_10
                    case hyg4_10_10 => (intro w hSw; clear hSw; go_simp; (all_goals with_reducible rfl))
                    try simp only [Act.put, List.setIfInBounds_toArray, List.set_cons_zero, List.set_cons_succ, List.getElem_toArray, List.getElem_cons_succ, List.getElem_cons_zero]
                    refine wpAnyF_take [12, 13, 14, 15, 16, 17, 18, 19, 20, 21, 22, 23] (i := 6) (v := ?vg4_11_6) rfl (by kernel_rfl) (by kernel_rfl) (by kernel_rfl) (by kernel_rfl) (fun _ _ _ h => h) (Or.inl ⟨by rfl, ?hyg4_11_6⟩) (by assumption) ?restg4_11_6
                    case hyg4_11_6 => (intro w hSw; (try dsimp only at hSw); go_simp; (all_goals with_reducible rfl))
                    try simp only [Act.put, List.setIfInBounds_toArray, List.set_cons_zero, List.set_cons_succ, List.getElem_toArray, List.getElem_cons_succ, List.getElem_cons_zero]
                    refine wpAnyF_take [12, 13, 14, 15, 16, 17, 18, 19, 20, 21, 22, 23] (i := 11) (v := ?vg4_12_11) rfl (by kernel_rfl) (by kernel_rfl) (by kernel_rfl) (by kernel_rfl) (fun _ _ _ h => h) (Or.inl ⟨by rfl, ?hyg4_12_11⟩) (by assumption) ?restg4_12_11
                    case hyg4_12_11 => (intro w hSw; (try dsimp only at hSw); go_simp; (all_goals with_reducible rfl))
                    try simp only [Act.put, List.setIfInBounds_toArray, List.set_cons_zero, List.set_cons_succ, List.getElem_toArray, List.getElem_cons_succ, List.getElem_cons_zero]
                    refine wpAnyF_pure (i := 12) (v := ?vg4_13_12) rfl (by kernel_rfl) (by kernel_rfl) (by kernel_rfl) (fun _ _ _ h => h) (Or.inl ⟨by rfl, ?hyg4_13_12⟩) ?restg4_13_12
                    case hyg4_13_12 => (intro w hSw; clear hSw; go_simp; (all_goals with_reducible rfl))
                    try simp only [Act.put, List.setIfInBounds_toArray, List.set_cons_zero, List.set_cons_succ, List.getElem_toArray, List.getElem_cons_succ, List.getElem_cons_zero]
                    refine wpAnyF_pure (i := 13) (v := ?vg4_14_13) rfl (by kernel_rfl) (by kernel_rfl) (by kernel_rfl) (fun _ _ _ h => h) (Or.inl ⟨by rfl, ?hyg4_14_13⟩) ?restg4_14_13
                    case hyg4_14_13 => (intro w hSw; clear hSw; go_simp; (all_goals with_reducible rfl))
                    try simp only [Act.put, List.setIfInBounds_toArray, List.set_cons_zero, List.set_cons_succ, List.getElem_toArray, List.getElem_cons_succ, List.getElem_cons_zero]
                    refine wpAnyF_pure (i := 14) (v := ?vg4_15_14) rfl (by kernel_rfl) (by kernel_rfl) (by kernel_rfl) (fun _ _ _ h => h) (Or.inl ⟨by rfl, ?hyg4_15_14⟩) ?restg4_15_14
                    case hyg4_15_14 => (intro w hSw; clear hSw; go_simp; (all_goals with_reducible rfl))
                    try simp only [Act.put, List.setIfInBounds_toArray, List.set_cons_zero, List.set_cons_succ, List.getElem_toArray, List.getElem_cons_succ, List.getElem_cons_zero]
                    refine wpAnyF_pure (i := 15) (v := undef) rfl (by kernel_rfl) (by kernel_rfl) (by kernel_rfl) (fun _ _ _ h => h) (Or.inr ⟨by rfl, rfl⟩) ?restg4_16_15
                    try simp only [Act.put, List.setIfInBounds_toArray, List.set_cons_zero, List.set_cons_succ, List.getElem_toArray, List.getElem_cons_succ, List.getElem_cons_zero]
                    refine wpAnyF_pure (i := 16) (v := undef) rfl (by kernel_rfl) (by kernel_rfl) (by kernel_rfl) (fun _ _ _ h => h) (Or.inr ⟨by rfl, rfl⟩) ?restg4_17_16
                    try simp only [Act.put, List.setIfInBounds_toArray, List.set_cons_zero, List.set_cons_succ, List.getElem_toArray, List.getElem_cons_succ, List.getElem_cons_zero]
                    refine wpAnyF_pure (i := 17) (v := undef) rfl (by kernel_rfl) (by kernel_rfl) (by kernel_rfl) (fun _ _ _ h => h) (Or.inr ⟨by rfl, rfl⟩) ?restg4_18_17
                    try simp only [Act.put, List.setIfInBounds_toArray, List.set_cons_zero, List.set_cons_succ, List.getElem_toArray, List.getElem_cons_succ, List.getElem_cons_zero]
                    refine wpAnyF_pure (i := 18) (v := undef) rfl (by kernel_rfl) (by kernel_rfl) (by kernel_rfl) (fun _ _ _ h => h) (Or.inr ⟨by rfl, rfl⟩) ?restg4_19_18
                    try simp only [Act.put, List.setIfInBounds_toArray, List.set_cons_zero, List.set_cons_succ, List.getElem_toArray, List.getElem_cons_succ, List.getElem_cons_zero]
                    refine wpAnyF_pure (i := 19) (v := undef) rfl (by kernel_rfl) (by kernel_rfl) (by kernel_rfl) (fun _ _ _ h => h) (Or.inr ⟨by rfl, rfl⟩) ?restg4_20_19
                    try simp only [Act.put, List.setIfInBounds_toArray, List.set_cons_zero, List.set_cons_succ, List.getElem_toArray, List.getElem_cons_succ, List.getElem_cons_zero]
                    refine wpAnyF_pure (i := 20) (v := undef) rfl (by kernel_rfl) (by kernel_rfl) (by kernel_rfl) (fun _ _ _ h => h) (Or.inr ⟨by rfl, rfl⟩) ?restg4_21_20
                    try simp only [Act.put, List.setIfInBounds_toArray, List.set_cons_zero, List.set_cons_succ, List.getElem_toArray, List.getElem_cons_succ, List.getElem_cons_zero]
                    refine wpAnyF_pure (i := 21) (v := undef) rfl (by kernel_rfl) (by kernel_rfl) (by kernel_rfl) (fun _ _ _ h => h) (Or.inr ⟨by rfl, rfl⟩) ?restg4_22_21
                    try simp only [Act.put, List.setIfInBounds_toArray, List.set_cons_zero, List.set_cons_succ, List.getElem_toArray, List.getElem_cons_succ, List.getElem_cons_zero]
                    refine wpAnyF_pure (i := 22) (v := undef) rfl (by kernel_rfl) (by kernel_rfl) (by kernel_rfl) (fun _ _ _ h => h) (Or.inr ⟨by rfl, rfl⟩) ?restg4_23_22
                    try simp only [Act.put, List.setIfInBounds_toArray, List.set_cons_zero, List.set_cons_succ, List.getElem_toArray, List.getElem_cons_succ, List.getElem_cons_zero]
                    refine wpAnyF_pure (i := 23) (v := ?vg4_24_23) rfl (by kernel_rfl) (by kernel_rfl) (by kernel_rfl) (fun _ _ _ h => h) (Or.inl ⟨by rfl, ?hyg4_24_23⟩) ?restg4_24_23
                    case hyg4_24_23 => (intro w hSw; clear hSw; go_simp; (all_goals with_reducible rfl))
                    try simp only [Act.put, List.setIfInBounds_toArray, List.set_cons_zero, List.set_cons_succ, List.getElem_toArray, List.getElem_cons_succ, List.getElem_cons_zero]
                    refine wpAnyF_done (by kernel_rfl) ?_ _
                    go_wp2_with (at_builtin; refine wp_app1 _ rfl rfl el_hops rfl (HOA.out.drew.alloc _) rfl (rd_newAt _ _ _ 2 1 _ (by simp) rfl) (two_oneZ _ _) hn16 (Nat.le_trans HBW.out.size (by simp)) ?_; intro A6 c6 w6 o6 b6 g6)
                    go_roundw
                    case rel => exact HREL.out hvn HBH.out _ _ _ _ _ (by go_num) (by go_num) o6 (((Below.refl _ _).drew.alloc HBW.out.size _).trans b6)
                    case measure => simp [intOf]; omega
              · have HBAD : Hid (¬ (v < n ∧ behindB acc.getLast? ⟨v, x⟩ = true)) := hid fun h => hvn h.1
                go_wp2_with fail
                refine HSW.out.mono ?_
                rintro e w2 ⟨rfl, rfl⟩
                go_wp2_with fail
                go_ret2
                rw [HNONE.out HBAD.out]
                exact ⟨rfl, hbw⟩
          · obtain rfl : j = to.length := by omega
            have HFIN : Hid (hopGo n to none (b.drop (at0 + k)) = some (acc, b.drop a)) := hid (by
              rw [HHG.out, List.drop_length]
              show some (acc ++ [], b.drop a) = _
              rw [List.append_nil])
            go_wp2_with fail
            go_ret2
            first | rw [HFIN.out] | rw [HD0.out, HFIN.out]
            exact ⟨A', c', a, by rw [HAL.out]; rfl, by rw [HAL.out]; exact own_more HOA.out HB1.out.size, rfl, ha, hbw⟩
      · rw [if_neg (fun h => h6 h.2)]
        have h6b : (600 : Int) < (to.length : Int) := by omega
        go_enter Try.func28, Try.ntmps28
        go_wp2_with fail
        refine HG.out.mono ?_
        rintro e w1 ⟨A1, c1, rfl, o1, b1⟩
        go_wp2_with fail
        go_ret2
        exact ⟨rfl, b1⟩
    · rw [if_neg (fun h => he h.1)]
      have heb : (e == 0) = false := by simpa using he
      have heb2 : (e != 0) = true := by simpa using he
      go_enter Try.func28, Try.ntmps28
      go_wp2_with fail
      refine HG.out.mono ?_
      rintro e w1 ⟨A1, c1, rfl, o1, b1⟩
      go_wp2_with fail
      go_ret2
      exact ⟨rfl, b1⟩
end Go.Proofs.Ytiemcicgohldeaa
