/- The document's Dec: digits of a number. -/
import Derived.Test.YtbanabjhlmcchaaDoorBase
import Derived.Test.YtbanabjhlmcchaaDoorMem
import Derived.Test.YtbanabjhlmcchaaDoorRegF
import Derived.Laws.IdiomStrings
import Derived.Lib.ItoaNum
namespace Go.Proofs.YtbanabjhlmcchaaDoor
open Go.RowKit Go.ChangeShapes Go.WideShapes Go.ChangeAt
set_option linter.unusedVariables false
set_option linter.unusedSimpArgs false
def decB (n : Nat) : ByteArray := ⟨(Lib.decDigits n).toArray⟩
theorem decB_small {n : Nat} (h : n < 10) : decB n = ⟨#[UInt8.ofNat (48 + n)]⟩ := by unfold decB; rw [Lib.decDigits, dif_pos h]
theorem decB_big {n : Nat} (h : ¬ n < 10) : decB n = decB (n / 10) ++ ⟨#[UInt8.ofNat (48 + n % 10)]⟩ := by
  unfold decB
  rw [Lib.decDigits, dif_neg h]
  apply ByteArray.ext
  simp
theorem decB_size (n : Nat) : (decB n).size ≤ n + 1 := by
  induction n using Nat.strongRecOn with
  | _ n ih =>
    by_cases h : n < 10
    · rw [decB_small h]; show 1 ≤ n + 1; omega
    · rw [decB_big h, ByteArray.size_append]
      have := ih (n / 10) (by omega)
      have h1 : (⟨#[UInt8.ofNat (48 + n % 10)]⟩ : ByteArray).size = 1 := rfl
      omega
theorem conv1 (u : UInt8) (V : World) (b : Nat) (h : V.cell? ⟨b, 0, none⟩ = some (.int .u8 ((u.toNat : Nat) : Int))) : (convert 37 9 (.slice (some ⟨b, 0, none⟩) 1 1)).run Tryd.prog V = .ok (.string ⟨#[u]⟩) V :=
  run_convert_bytes_back _ _ _ _ ⟨b, 0, none⟩ 1 [u] Tryd.underlying37 Tryd.underlying5 Tryd.underlying9 (fun j hj => by
    obtain rfl : j = 0 := by simp at hj; omega
    simpa [Addr.add] using h)
theorem u8_digit {d : Nat} (h : d < 10) : ((UInt8.ofNat (48 + d)).toNat : Int) = 48 + (d : Int) := by
  have : (UInt8.ofNat (48 + d)).toNat = (48 + d) % 256 := rfl
  rw [this]; omega
set_option maxRecDepth 100000 in
set_option maxHeartbeats 4000000 in
theorem dec_small (n : Nat) (h : n < 10) (w : World) : Calls Tryd.prog 22 #[.int .i64 (n : Int)] w fun e w' => e = .returned (.string (decB n)) ∧ Below w.heap.size w w' := by
  have hz : (n : Int) < 10 := by omega
  have hu := u8_digit h
  obtain ⟨u, hu0⟩ : ∃ u, u = UInt8.ofNat (48 + n) := ⟨_, rfl⟩
  rw [← hu0] at hu
  have HD := hid (decB_small h)
  rw [← hu0] at HD
  have hw0 : IntKind.i64.wrap (48 + (n : Int)) = 48 + (n : Int) := IntWalk.i64_in _ (by omega)
  have hw1 : IntKind.u8.wrap (48 + (n : Int)) = ((u.toNat : Nat) : Int) := by rw [hu]; unfold IntKind.wrap; simp [IntKind.signed, IntKind.bits]; omega
  have HCV := hid (conv1 u)
  clear hu0 hu
  go_enter Tryd.func22, Tryd.ntmps22
  go_wp2_with (simp only [HCV.out _ _ (show (w.alloc (.cells #[.int .u8 ((u.toNat : Nat) : Int)] 5)).cell? ⟨w.heap.size, 0, none⟩ = some (.int .u8 ((u.toNat : Nat) : Int)) by simp)])
  go_ret
  exact ⟨by rw [HD.out]; rfl, bA (Below.refl _ _) _⟩
set_option maxRecDepth 100000 in
set_option maxHeartbeats 1000000 in
theorem dec_big (n : Nat) (h : ¬ n < 10) (hn : n ≤ 1152921504606846976) (hih : ∀ w, Calls Tryd.prog 22 #[.int .i64 ((n / 10 : Nat) : Int)] w fun e w' => e = .returned (.string (decB (n / 10))) ∧ Below w.heap.size w w') (w : World) :
    Calls Tryd.prog 22 #[.int .i64 (n : Int)] w fun e w' => e = .returned (.string (decB n)) ∧ Below w.heap.size w w' := by
  have hz : ¬ (n : Int) < 10 := by omega
  have hu := u8_digit (show n % 10 < 10 by omega)
  obtain ⟨u, hu0⟩ : ∃ u, u = UInt8.ofNat (48 + n % 10) := ⟨_, rfl⟩
  rw [← hu0] at hu
  have HDD := hid (decB_big h)
  rw [← hu0] at HDD
  have hwq : IntKind.i64.wrap ((n : Int) / 10) = ((n / 10 : Nat) : Int) := by rw [IntWalk.i64_in _ (by omega)]; omega
  have hw0 : IntKind.i64.wrap (48 + (n : Int) % 10) = 48 + (n : Int) % 10 := IntWalk.i64_in _ (by omega)
  have hm : Int.tmod (n : Int) 10 = (n : Int) % 10 := Int.tmod_eq_emod_of_nonneg (by omega)
  have hw1 : IntKind.u8.wrap (48 + (n : Int) % 10) = 48 + (n : Int) % 10 := by unfold IntKind.wrap; simp [IntKind.signed, IntKind.bits]; omega
  have hu' : ((u.toNat : Nat) : Int) = 48 + (n : Int) % 10 := by rw [hu]; omega
  have hsz0 := decB_size (n / 10)
  have hsz : ¬ 9223372036854775807 < (decB (n / 10)).size + 1 := by omega
  have HCV := hid (show ∀ (V : World) (b : Nat), V.cell? ⟨b, 0, none⟩ = some (.int .u8 (48 + (n : Int) % 10)) → _ from fun V b h => conv1 u V b (by rw [hu']; exact h))
  have HIH := hid hih
  clear hu0 hu hu' hih
  go_enter Tryd.func22, Tryd.ntmps22
  go_wp2_with fail
  refine wp_region_F (S := (fun V => Below w.heap.size w V)) [9, 10] (by kernel_rfl) (bD (Below.refl _ _)) (fun hHeld => ?_)
  refine wpAnyF_pure (i := 0) (v := ?vg1_1_0) rfl (by kernel_rfl) (by kernel_rfl) (by kernel_rfl) (fun _ _ _ h => h) (Or.inl ⟨by rfl, ?hyg1_1_0⟩) ?restg1_1_0
  case hyg1_1_0 => (intro w hSw; clear hSw; go_simp; (all_goals with_reducible rfl))
  try simp only [Act.put, List.setIfInBounds_toArray, List.set_cons_zero, List.set_cons_succ, List.getElem_toArray, List.getElem_cons_succ, List.getElem_cons_zero]
  refine wpAnyF_pure (i := 1) (v := ?vg1_2_1) rfl (by kernel_rfl) (by kernel_rfl) (by kernel_rfl) (fun _ _ _ h => h) (Or.inl ⟨by rfl, ?hyg1_2_1⟩) ?restg1_2_1
  case hyg1_2_1 => (intro w hSw; clear hSw; go_simp; (all_goals with_reducible rfl))
  try simp only [Act.put, List.setIfInBounds_toArray, List.set_cons_zero, List.set_cons_succ, List.getElem_toArray, List.getElem_cons_succ, List.getElem_cons_zero]
  refine wpAnyF_pure (i := 3) (v := ?vg1_3_3) rfl (by kernel_rfl) (by kernel_rfl) (by kernel_rfl) (fun _ _ _ h => h) (Or.inl ⟨by rfl, ?hyg1_3_3⟩) ?restg1_3_3
  case hyg1_3_3 => (intro w hSw; clear hSw; go_simp; (all_goals with_reducible rfl))
  try simp only [Act.put, List.setIfInBounds_toArray, List.set_cons_zero, List.set_cons_succ, List.getElem_toArray, List.getElem_cons_succ, List.getElem_cons_zero]
  refine wpAnyF_pure (i := 4) (v := ?vg1_4_4) rfl (by kernel_rfl) (by kernel_rfl) (by kernel_rfl) (fun _ _ _ h => h) (Or.inl ⟨by rfl, ?hyg1_4_4⟩) ?restg1_4_4
  case hyg1_4_4 => (intro w hSw; clear hSw; go_simp; (all_goals with_reducible rfl))
  try simp only [Act.put, List.setIfInBounds_toArray, List.set_cons_zero, List.set_cons_succ, List.getElem_toArray, List.getElem_cons_succ, List.getElem_cons_zero]
  refine wpAnyF_pure (i := 5) (v := ?vg1_5_5) rfl (by kernel_rfl) (by kernel_rfl) (by kernel_rfl) (fun _ _ _ h => h) (Or.inl ⟨by rfl, ?hyg1_5_5⟩) ?restg1_5_5
  case hyg1_5_5 => (intro w hSw; clear hSw; go_simp; (all_goals with_reducible rfl))
  try simp only [Act.put, List.setIfInBounds_toArray, List.set_cons_zero, List.set_cons_succ, List.getElem_toArray, List.getElem_cons_succ, List.getElem_cons_zero]
  refine wpAnyF_pure (i := 6) (v := ?vg1_6_6) rfl (by kernel_rfl) (by kernel_rfl) (by kernel_rfl) (fun _ _ _ h => h) (Or.inl ⟨by rfl, ?hyg1_6_6⟩) ?restg1_6_6
  case hyg1_6_6 => (intro w hSw; clear hSw; go_simp; (all_goals with_reducible rfl))
  try simp only [Act.put, List.setIfInBounds_toArray, List.set_cons_zero, List.set_cons_succ, List.getElem_toArray, List.getElem_cons_succ, List.getElem_cons_zero]
  refine wpAnyF_ready (rs := [2, 7]) (by kernel_rfl) (by simp) ?_
  refine AllReadyF.cons rfl (fun K hK => ?_) ?_
  · go_simp
    go_at_call 22
    refine (HIH.out _).mono ?_
    rintro e2 v2 ⟨rfl, b2⟩
    have HB2 := hid (bT hHeld b2)
    go_wp2_with fail
    refine hK.out _ _ HB2.out (fun hHeld => ?_)
    clear hK K
    try simp only [Act.put, List.setIfInBounds_toArray, List.set_cons_zero, List.set_cons_succ, List.getElem_toArray, List.getElem_cons_succ, List.getElem_cons_zero]
    refine wpAnyF_one (i := 7) (by kernel_rfl) rfl (fun K hK => ?_)
    go_simp
    refine hK.out _ _ (bT hHeld (bA (Below.refl _ _) _)) (fun hHeld => ?_)
    clear hK K
    try simp only [Act.put, List.setIfInBounds_toArray, List.set_cons_zero, List.set_cons_succ, List.getElem_toArray, List.getElem_cons_succ, List.getElem_cons_zero]
    refine wpAnyF_one (i := 8) (by kernel_rfl) rfl (fun K hK => ?_)
    have hcv8 := fun V h => HCV.out V v2.heap.size h
    go_wp2_with (rw [hcv8 _ (by go_simp)])
    refine hK.out _ _ hHeld (fun hHeld => ?_)
    clear hK K
    try simp only [Act.put, List.setIfInBounds_toArray, List.set_cons_zero, List.set_cons_succ, List.getElem_toArray, List.getElem_cons_succ, List.getElem_cons_zero]
    refine wpAnyF_pure (i := 9) (v := ?vg1_10_9) rfl (by kernel_rfl) (by kernel_rfl) (by kernel_rfl) (fun _ _ _ h => h) (Or.inl ⟨by rfl, ?hyg1_10_9⟩) ?restg1_10_9
    case hyg1_10_9 => (intro w hSw; clear hSw; go_simp; (all_goals with_reducible rfl))
    try simp only [Act.put, List.setIfInBounds_toArray, List.set_cons_zero, List.set_cons_succ, List.getElem_toArray, List.getElem_cons_succ, List.getElem_cons_zero]
    refine wpAnyF_pure (i := 10) (v := ?vg1_11_10) rfl (by kernel_rfl) (by kernel_rfl) (by kernel_rfl) (fun _ _ _ h => h) (Or.inl ⟨by rfl, ?hyg1_11_10⟩) ?restg1_11_10
    case hyg1_11_10 => (intro w hSw; clear hSw; go_simp; (all_goals with_reducible rfl))
    try simp only [Act.put, List.setIfInBounds_toArray, List.set_cons_zero, List.set_cons_succ, List.getElem_toArray, List.getElem_cons_succ, List.getElem_cons_zero]
    refine wpAnyF_done (by kernel_rfl) ?_ _
    go_wp2_with fail
    go_ret
    exact ⟨by rw [HDD.out]; rfl, by first | exact bA HB2.out _ | exact HB2.out⟩
  refine AllReadyF.cons rfl (fun K hK => ?_) AllReadyF.nil
  go_simp
  refine hK.out _ _ (bT hHeld (bA (Below.refl _ _) _)) (fun hHeld => ?_)
  clear hK K
  try simp only [Act.put, List.setIfInBounds_toArray, List.set_cons_zero, List.set_cons_succ, List.getElem_toArray, List.getElem_cons_succ, List.getElem_cons_zero]
  refine wpAnyF_ready (rs := [2, 8]) (by kernel_rfl) (by simp) ?_
  refine AllReadyF.cons rfl (fun K hK => ?_) ?_
  · go_simp
    go_at_call 22
    refine (HIH.out _).mono ?_
    rintro e2 v2 ⟨rfl, b2⟩
    have HB2 := hid (bT hHeld b2)
    have zc : v2.cell? ⟨w.heap.size, 0, none⟩ = some (.int .u8 (48 + (n : Int) % 10)) := keepb b2 (by go_simp)
    go_wp2_with fail
    refine hK.out _ _ HB2.out (fun hHeld => ?_)
    clear hK K
    try simp only [Act.put, List.setIfInBounds_toArray, List.set_cons_zero, List.set_cons_succ, List.getElem_toArray, List.getElem_cons_succ, List.getElem_cons_zero]
    refine wpAnyF_one (i := 8) (by kernel_rfl) rfl (fun K hK => ?_)
    have hcv8 := fun V h => HCV.out V w.heap.size h
    go_wp2_with (rw [hcv8 _ (by first | exact zc | go_simp)])
    refine hK.out _ _ hHeld (fun hHeld => ?_)
    clear hK K
    try simp only [Act.put, List.setIfInBounds_toArray, List.set_cons_zero, List.set_cons_succ, List.getElem_toArray, List.getElem_cons_succ, List.getElem_cons_zero]
    refine wpAnyF_pure (i := 9) (v := ?vg1_14_9) rfl (by kernel_rfl) (by kernel_rfl) (by kernel_rfl) (fun _ _ _ h => h) (Or.inl ⟨by rfl, ?hyg1_14_9⟩) ?restg1_14_9
    case hyg1_14_9 => (intro w hSw; clear hSw; go_simp; (all_goals with_reducible rfl))
    try simp only [Act.put, List.setIfInBounds_toArray, List.set_cons_zero, List.set_cons_succ, List.getElem_toArray, List.getElem_cons_succ, List.getElem_cons_zero]
    refine wpAnyF_pure (i := 10) (v := ?vg1_15_10) rfl (by kernel_rfl) (by kernel_rfl) (by kernel_rfl) (fun _ _ _ h => h) (Or.inl ⟨by rfl, ?hyg1_15_10⟩) ?restg1_15_10
    case hyg1_15_10 => (intro w hSw; clear hSw; go_simp; (all_goals with_reducible rfl))
    try simp only [Act.put, List.setIfInBounds_toArray, List.set_cons_zero, List.set_cons_succ, List.getElem_toArray, List.getElem_cons_succ, List.getElem_cons_zero]
    refine wpAnyF_done (by kernel_rfl) ?_ _
    go_wp2_with fail
    go_ret
    exact ⟨by rw [HDD.out]; rfl, by first | exact bA HB2.out _ | exact HB2.out⟩
  refine AllReadyF.cons rfl (fun K hK => ?_) AllReadyF.nil
  have hcv8 := fun V h => HCV.out V w.heap.size h
  go_wp2_with (rw [hcv8 _ (by go_simp)])
  refine hK.out _ _ hHeld (fun hHeld => ?_)
  clear hK K
  try simp only [Act.put, List.setIfInBounds_toArray, List.set_cons_zero, List.set_cons_succ, List.getElem_toArray, List.getElem_cons_succ, List.getElem_cons_zero]
  refine wpAnyF_one (i := 2) (by kernel_rfl) rfl (fun K hK => ?_)
  go_simp
  go_at_call 22
  refine (HIH.out _).mono ?_
  rintro e2 v2 ⟨rfl, b2⟩
  have HB2 := hid (bT hHeld b2)
  go_wp2_with fail
  refine hK.out _ _ HB2.out (fun hHeld => ?_)
  clear hK K
  try simp only [Act.put, List.setIfInBounds_toArray, List.set_cons_zero, List.set_cons_succ, List.getElem_toArray, List.getElem_cons_succ, List.getElem_cons_zero]
  refine wpAnyF_pure (i := 9) (v := ?vg1_17_9) rfl (by kernel_rfl) (by kernel_rfl) (by kernel_rfl) (fun _ _ _ h => h) (Or.inl ⟨by rfl, ?hyg1_17_9⟩) ?restg1_17_9
  case hyg1_17_9 => (intro w hSw; clear hSw; go_simp; (all_goals with_reducible rfl))
  try simp only [Act.put, List.setIfInBounds_toArray, List.set_cons_zero, List.set_cons_succ, List.getElem_toArray, List.getElem_cons_succ, List.getElem_cons_zero]
  refine wpAnyF_pure (i := 10) (v := ?vg1_18_10) rfl (by kernel_rfl) (by kernel_rfl) (by kernel_rfl) (fun _ _ _ h => h) (Or.inl ⟨by rfl, ?hyg1_18_10⟩) ?restg1_18_10
  case hyg1_18_10 => (intro w hSw; clear hSw; go_simp; (all_goals with_reducible rfl))
  try simp only [Act.put, List.setIfInBounds_toArray, List.set_cons_zero, List.set_cons_succ, List.getElem_toArray, List.getElem_cons_succ, List.getElem_cons_zero]
  refine wpAnyF_done (by kernel_rfl) ?_ _
  go_wp2_with fail
  go_ret
  exact ⟨by rw [HDD.out]; rfl, by first | exact bA HB2.out _ | exact HB2.out⟩
theorem dec_walk (n : Nat) : n ≤ 1152921504606846976 → ∀ w : World, Calls Tryd.prog 22 #[.int .i64 (n : Int)] w fun e w' => e = .returned (.string (decB n)) ∧ Below w.heap.size w w' := by
  induction n using Nat.strongRecOn with
  | _ n ih =>
    intro hn w
    by_cases h : n < 10
    · exact dec_small n h w
    · exact dec_big n h hn (ih (n / 10) (by omega) (by omega)) w
end Go.Proofs.YtbanabjhlmcchaaDoor
