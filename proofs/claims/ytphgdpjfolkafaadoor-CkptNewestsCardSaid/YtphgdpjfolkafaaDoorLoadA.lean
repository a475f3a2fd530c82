/- LoadP, LoadL, LoadD: joined. -/
import Derived.Test.YtphgdpjfolkafaaDoorCkL
import Derived.Test.YtphgdpjfolkafaaDoorSlot
import Derived.Test.YtphgdpjfolkafaaDoorDecL
import Derived.Test.YtphgdpjfolkafaaDoorCkQ
/- ckpt.Load, the document's LoadedSlot. -/
namespace Go.Proofs.YtphgdpjfolkafaaDoor
open Go.ChangeShapes Go.WideShapes Go.ChangeAt Go.RowKit
set_option linter.unusedVariables false
set_option linter.unusedSimpArgs false
noncomputable def loadV (fs : List File) (n : Int) : Saved × Int :=
  if n < 0 ∨ 1 < n then (svZero, 2) else if (readF fs (slotB n)).2 ≠ 0 then (svZero, (readF fs (slotB n)).2) else decV (readF fs (slotB n)).1
theorem loadV_out (fs : List File) {n : Int} (h : n < 0 ∨ 1 < n) : loadV fs n = (svZero, 2) := by unfold loadV; rw [if_pos h]
theorem loadV_bad (fs : List File) {n : Int} (h : ¬ (n < 0 ∨ 1 < n)) (he : (readF fs (slotB n)).2 ≠ 0) : loadV fs n = (svZero, (readF fs (slotB n)).2) := by unfold loadV; rw [if_neg h, if_pos he]
theorem loadV_ok (fs : List File) {n : Int} (h : ¬ (n < 0 ∨ 1 < n)) (he : ¬ (readF fs (slotB n)).2 ≠ 0) : loadV fs n = decV (readF fs (slotB n)).1 := by unfold loadV; rw [if_neg h, if_neg he]
/-- Bytes are bytes. -/
def ByF (fs : List File) : Prop := ∀ f ∈ fs, ∀ x ∈ f.data, 0 ≤ x ∧ x ≤ 255
theorem byF_of {w : World} {l : List MFile} (h : ∀ x ∈ l, x.wf w) : ByF (files l) := fun f hf => by
  obtain ⟨x, hx, rfl⟩ := List.mem_map.1 hf
  exact (h x hx).2.2.2.1
theorem readF_mem (fs : List File) (n : ByteArray) : (readF fs n).1 = [] ∨ ∃ f ∈ fs, (readF fs n).1 = f.data := by
  unfold readF
  split
  · exact .inl rfl
  · split
    · exact .inl rfl
    · rename_i i _
      cases h : fs[i]? with
      | none => exact .inl (by simp)
      | some f => exact .inr ⟨f, List.mem_of_getElem? h, by simp⟩
theorem readF_byte {fs : List File} (h : ByF fs) (n : ByteArray) : ∀ x ∈ (readF fs n).1, 0 ≤ x ∧ x ≤ 255 := by
  rcases readF_mem fs n with e | ⟨f, hf, e⟩
  · rw [e]; intro x hx; cases hx
  · rw [e]; exact h f hf
theorem readF_len {l : List MFile} (h : Okm l) (n : ByteArray) : (readF (files l) n).1.length ≤ 140737488355328 := by
  rcases readF_mem (files l) n with e | ⟨f, hf, e⟩
  · rw [e]; exact Nat.zero_le _
  · obtain ⟨x, hx, rfl⟩ := List.mem_map.1 hf
    rw [e]; exact h.1 x hx
set_option maxRecDepth 100000 in
set_option maxHeartbeats 8000000 in
theorem load_walk (l : List MFile) (n : Int) (w : World) (A : Option Addr) (c : Nat) (hr : Files w w.heap.size A l) (hn : l.length * 48 ≤ 140737488355328) (hm : Okm l) (hy : ByF (files l)) :
    Calls Tryd.prog 6 #[.agg #[.slice A l.length c], .int .i64 n] w (RetSv w (loadV (files l) n).1 (loadV (files l) n).2) := by
  obtain ⟨wx, hwx⟩ : ∃ wx, wx = (w.alloc (.cells #[.slice A l.length c] 24)).alloc (.cells #[.int .i64 0, .int .i64 0, .bool false, .slice none 0 0, .slice none 0 0] 29) := ⟨_, rfl⟩
  have HBX : Hid (Below w.heap.size w wx) := hid (by rw [hwx]; exact bA (bA (Below.refl _ _) _) _)
  have hzx : w.heap.size + 1 < wx.heap.size := by rw [hwx]; simp
  have j0 : wx.cell? ⟨w.heap.size, 0, none⟩ = some (.slice A l.length c) := by rw [hwx]; go_simp
  have z0 : wx.cell? ⟨w.heap.size + 1, 0, none⟩ = some (.int .i64 0) := by rw [hwx]; go_simp
  have z1 : wx.cell? ⟨w.heap.size + 1, 1, none⟩ = some (.int .i64 0) := by rw [hwx]; go_simp
  have z2 : wx.cell? ⟨w.heap.size + 1, 2, none⟩ = some (.bool false) := by rw [hwx]; go_simp
  have z3 : wx.cell? ⟨w.heap.size + 1, 3, none⟩ = some (.slice none 0 0) := by rw [hwx]; go_simp
  have z4 : wx.cell? ⟨w.heap.size + 1, 4, none⟩ = some (.slice none 0 0) := by rw [hwx]; go_simp
  have zf : ∀ o, wx.frozen? ⟨w.heap.size + 1, o, none⟩ = false := fun o => by rw [hwx]; go_simp
  have HWX := hid hwx
  clear hwx
  by_cases hout : n < 0 ∨ 1 < n
  · rw [loadV_out _ hout]
    clear z0 z1 z2 z3 z4 zf j0 hzx
    rw [HWX.out] at HBX
    by_cases h0 : n < 0
    · clear hout
      go_enter Tryd.func6, Tryd.ntmps6
      go_wp2_with fail
      refine bodyPost_ret (v := .tuple #[.agg #[.int .i64 0, .int .i64 0, .bool false, .slice none 0 0, .slice none 0 0], .int .i64 2]) (by simp [results, Tryd.results6, go_sem, *]) rfl (retSv_zero _ ?_)
      first
      | exact HBX.out
      | (repeat (with_reducible refine Below.setCell ?_ (by simp) _)
         exact HBX.out)
    · have h1 : 1 < n := by omega
      clear hout
      go_enter Tryd.func6, Tryd.ntmps6
      go_wp2_with fail
      refine bodyPost_ret (v := .tuple #[.agg #[.int .i64 0, .int .i64 0, .bool false, .slice none 0 0, .slice none 0 0], .int .i64 2]) (by simp [results, Tryd.results6, go_sem, *]) rfl (retSv_zero _ ?_)
      first
      | exact HBX.out
      | (repeat (with_reducible refine Below.setCell ?_ (by simp) _)
         exact HBX.out)
  · have hn0 : ¬ (n < 0) := by omega
    have hn1 : ¬ (1 < n) := by omega
    have hn2 : n = 0 ∨ n = 1 := by omega
    have HSL := hid (slot_walk n hn2)
    have HRD := hid (fun W (hB : Below wx.heap.size wx W) => read_walk l (slotB n) W A c (Files.b hr (bT HBX.out hB)) hn hm)
    have hfb := readF_byte hy (slotB n)
    have hfl := readF_len hm (slotB n)
    have HLB := hid (loadV_bad (files l) hout)
    have HLO := hid (loadV_ok (files l) hout)
    generalize readF (files l) (slotB n) = z at *
    obtain ⟨v, r⟩ := z
    unfold RetR at HRD
    simp only at HRD hfb hfl HLB HLO
    have HDE := hid (fun W A c (h1 : Rd W W.heap.size A 1 v.length (v.flatMap u8c)) (h3 : v.length ≤ c) => decode_walk v W A v.length c h1 rfl hfb hfl h3)
    by_cases he : r = 0
    · subst he
      rw [HLO.out (by simp)]
      clear HLB HLO hout
      generalize decV v = y at *
      obtain ⟨⟨st, ph, fr, vs, ms⟩, q⟩ := y
      unfold RetSv svC at HDE
      simp only at HDE
      go_enter Tryd.func6, Tryd.ntmps6
      go_wp2_with fail
      rw [← HWX.out]
      clear HWX
      refine wp_region_F (S := (fun V => Below wx.heap.size wx V ∧ V.cell? ⟨w.heap.size, 0, none⟩ = some (.slice A l.length c))) [] (by kernel_rfl) ⟨bD (Below.refl _ _), keepb (bD (Below.refl _ _)) j0⟩ (fun hHeld => ?_)
      refine wpAnyF_pure (i := 1) (v := ?vg3_1_1) rfl (by kernel_rfl) (by kernel_rfl) (by kernel_rfl) (fun _ _ _ h => h) (Or.inl ⟨by rfl, ?hyg3_1_1⟩) ?restg3_1_1
      case hyg3_1_1 => (intro w hSw; clear hSw; go_simp; (all_goals with_reducible rfl))
      try simp only [Act.put, List.setIfInBounds_toArray, List.set_cons_zero, List.set_cons_succ, List.getElem_toArray, List.getElem_cons_succ, List.getElem_cons_zero]
      refine wpAnyF_take [3, 4, 5, 6, 7, 8] (i := 0) (v := ?vg3_2_0) rfl (by kernel_rfl) (by kernel_rfl) (by kernel_rfl) (by kernel_rfl) (fun _ _ _ h => h) (Or.inl ⟨by rfl, ?hyg3_2_0⟩) (by assumption) ?restg3_2_0
      case hyg3_2_0 => (intro w hSw; (try dsimp only at hSw); go_simp; (all_goals with_reducible rfl))
      try simp only [Act.put, List.setIfInBounds_toArray, List.set_cons_zero, List.set_cons_succ, List.getElem_toArray, List.getElem_cons_succ, List.getElem_cons_zero]
      refine wpAnyF_one (i := 2) (by kernel_rfl) rfl (fun K hK => ?_)
      go_simp
      go_at_call 14
      refine (HSL.out _).mono ?_
      rintro e w5 ⟨rfl, rfl⟩
      go_wp2_with fail
      refine hK.out _ _ hHeld (fun hHeld => ?_)
      clear hK K
      try simp only [Act.put, List.setIfInBounds_toArray, List.set_cons_zero, List.set_cons_succ, List.getElem_toArray, List.getElem_cons_succ, List.getElem_cons_zero]
      refine wpAnyF_one (i := 3) (by kernel_rfl) rfl (fun K hK => ?_)
      go_simp
      go_at_call 13
      refine (HRD.out _ hHeld.1).mono ?_
      rintro e w6 ⟨A6, c6, rfl, hc6, r6, b6⟩
      have HR6 := hid r6
      have HB6 := hid (bT hHeld.1 b6)
      clear r6
      go_wp2_with fail
      refine hK.out _ _ ⟨HB6.out, keepb b6 hHeld.2⟩ (fun hHeld => ?_)
      clear hK K
      try simp only [Act.put, List.setIfInBounds_toArray, List.set_cons_zero, List.set_cons_succ, List.getElem_toArray, List.getElem_cons_succ, List.getElem_cons_zero]
      refine wpAnyF_pure (i := 4) (v := ?vg3_5_4) rfl (by kernel_rfl) (by kernel_rfl) (by kernel_rfl) (fun _ _ _ h => h) (Or.inl ⟨by rfl, ?hyg3_5_4⟩) ?restg3_5_4
      case hyg3_5_4 => (intro w hSw; clear hSw; go_simp; (all_goals with_reducible rfl))
      try simp only [Act.put, List.setIfInBounds_toArray, List.set_cons_zero, List.set_cons_succ, List.getElem_toArray, List.getElem_cons_succ, List.getElem_cons_zero]
      refine wpAnyF_pure (i := 5) (v := ?vg3_6_5) rfl (by kernel_rfl) (by kernel_rfl) (by kernel_rfl) (fun _ _ _ h => h) (Or.inl ⟨by rfl, ?hyg3_6_5⟩) ?restg3_6_5
      case hyg3_6_5 => (intro w hSw; clear hSw; go_simp; (all_goals with_reducible rfl))
      try simp only [Act.put, List.setIfInBounds_toArray, List.set_cons_zero, List.set_cons_succ, List.getElem_toArray, List.getElem_cons_succ, List.getElem_cons_zero]
      refine wpAnyF_pure (i := 6) (v := ?vg3_7_6) rfl (by kernel_rfl) (by kernel_rfl) (by kernel_rfl) (fun _ _ _ h => h) (Or.inl ⟨by rfl, ?hyg3_7_6⟩) ?restg3_7_6
      case hyg3_7_6 => (intro w hSw; clear hSw; go_simp; (all_goals with_reducible rfl))
      try simp only [Act.put, List.setIfInBounds_toArray, List.set_cons_zero, List.set_cons_succ, List.getElem_toArray, List.getElem_cons_succ, List.getElem_cons_zero]
      refine wpAnyF_pure (i := 7) (v := ?vg3_8_7) rfl (by kernel_rfl) (by kernel_rfl) (by kernel_rfl) (fun _ _ _ h => h) (Or.inl ⟨by rfl, ?hyg3_8_7⟩) ?restg3_8_7
      case hyg3_8_7 => (intro w hSw; clear hSw; go_simp; (all_goals with_reducible rfl))
      try simp only [Act.put, List.setIfInBounds_toArray, List.set_cons_zero, List.set_cons_succ, List.getElem_toArray, List.getElem_cons_succ, List.getElem_cons_zero]
      refine wpAnyF_pure (i := 8) (v := ?vg3_9_8) rfl (by kernel_rfl) (by kernel_rfl) (by kernel_rfl) (fun _ _ _ h => h) (Or.inl ⟨by rfl, ?hyg3_9_8⟩) ?restg3_9_8
      case hyg3_9_8 => (intro w hSw; clear hSw; go_simp; (all_goals with_reducible rfl))
      try simp only [Act.put, List.setIfInBounds_toArray, List.set_cons_zero, List.set_cons_succ, List.getElem_toArray, List.getElem_cons_succ, List.getElem_cons_zero]
      refine wpAnyF_done (by kernel_rfl) ?_ _
      have z0 := keepb HB6.out z0
      have z1 := keepb HB6.out z1
      have z2 := keepb HB6.out z2
      have z3 := keepb HB6.out z3
      have z4 := keepb HB6.out z4
      have zf : ∀ o, w6.frozen? ⟨w.heap.size + 1, o, none⟩ = false := fun o => (HB6.out.frozen (p := ⟨w.heap.size + 1, o, none⟩) hzx).trans (zf o)
      have hz6 : w.heap.size + 1 < w6.heap.size := Nat.lt_of_lt_of_le hzx HB6.out.size
      have HB06 := hid (bT HBX.out HB6.out)
      clear HB6 HSL HRD j0
      go_wp2_with fail
      refine (HDE.out _ _ _ HR6.out hc6).mono ?_
      rintro e w7 ⟨A7, c7, B7, d7, rfl, o7, m7, b7⟩
      have z0 := keepb b7 z0
      have z1 := keepb b7 z1
      have z2 := keepb b7 z2
      have z3 := keepb b7 z3
      have z4 := keepb b7 z4
      have zf : ∀ o, w7.frozen? ⟨w.heap.size + 1, o, none⟩ = false := fun o => (b7.frozen (p := ⟨w.heap.size + 1, o, none⟩) hz6).trans (zf o)
      have zf0 := zf 0
      have zf1 := zf 1
      have zf2 := zf 2
      have zf3 := zf 3
      have zf4 := zf 4
      have HB07 := hid (bT HB06.out b7)
      have O7 := hid o7
      have M7 := hid m7
      have hz7 : w.heap.size + 1 < w7.heap.size := Nat.lt_of_lt_of_le hz6 b7.size
      clear b7 o7 m7
      go_wp2_with fail
      refine bodyPost_ret (v := .tuple #[.agg #[.int .i64 st, .int .i64 ph, .bool fr, .slice A7 vs.length c7, .slice B7 ms.length d7], .int .i64 q]) (by simp [results, Tryd.results6, go_sem, *]) rfl ⟨A7, c7, B7, d7, rfl, ?_, ?_, ?_⟩
      · refine own_more (base := w6.heap.size) ?_ (by omega)
        repeat (with_reducible refine ownsRow_setCell_below ?_ (by simp; try omega) _)
        exact O7.out
      · refine own_more (base := w6.heap.size) ?_ (by omega)
        repeat (with_reducible refine ownsRow_setCell_below ?_ (by simp; try omega) _)
        exact M7.out
      · repeat (with_reducible refine Below.setCell ?_ (by simp; try omega) _)
        exact HB07.out
    · have heb : (r != 0) = true := by simpa using he
      rw [HLB.out he]
      clear HLB HLO hout HDE
      go_enter Tryd.func6, Tryd.ntmps6
      go_wp2_with fail
      rw [← HWX.out]
      clear HWX
      refine wp_region_F (S := (fun V => Below wx.heap.size wx V ∧ V.cell? ⟨w.heap.size, 0, none⟩ = some (.slice A l.length c))) [] (by kernel_rfl) ⟨bD (Below.refl _ _), keepb (bD (Below.refl _ _)) j0⟩ (fun hHeld => ?_)
      refine wpAnyF_pure (i := 1) (v := ?vg4_1_1) rfl (by kernel_rfl) (by kernel_rfl) (by kernel_rfl) (fun _ _ _ h => h) (Or.inl ⟨by rfl, ?hyg4_1_1⟩) ?restg4_1_1
      case hyg4_1_1 => (intro w hSw; clear hSw; go_simp; (all_goals with_reducible rfl))
      try simp only [Act.put, List.setIfInBounds_toArray, List.set_cons_zero, List.set_cons_succ, List.getElem_toArray, List.getElem_cons_succ, List.getElem_cons_zero]
      refine wpAnyF_take [3, 4, 5, 6, 7, 8] (i := 0) (v := ?vg4_2_0) rfl (by kernel_rfl) (by kernel_rfl) (by kernel_rfl) (by kernel_rfl) (fun _ _ _ h => h) (Or.inl ⟨by rfl, ?hyg4_2_0⟩) (by assumption) ?restg4_2_0
      case hyg4_2_0 => (intro w hSw; (try dsimp only at hSw); go_simp; (all_goals with_reducible rfl))
      try simp only [Act.put, List.setIfInBounds_toArray, List.set_cons_zero, List.set_cons_succ, List.getElem_toArray, List.getElem_cons_succ, List.getElem_cons_zero]
      refine wpAnyF_one (i := 2) (by kernel_rfl) rfl (fun K hK => ?_)
      go_simp
      go_at_call 14
      refine (HSL.out _).mono ?_
      rintro e w5 ⟨rfl, rfl⟩
      go_wp2_with fail
      refine hK.out _ _ hHeld (fun hHeld => ?_)
      clear hK K
      try simp only [Act.put, List.setIfInBounds_toArray, List.set_cons_zero, List.set_cons_succ, List.getElem_toArray, List.getElem_cons_succ, List.getElem_cons_zero]
      refine wpAnyF_one (i := 3) (by kernel_rfl) rfl (fun K hK => ?_)
      go_simp
      go_at_call 13
      refine (HRD.out _ hHeld.1).mono ?_
      rintro e w6 ⟨A6, c6, rfl, hc6, r6, b6⟩
      have HR6 := hid r6
      have HB6 := hid (bT hHeld.1 b6)
      clear r6
      go_wp2_with fail
      refine hK.out _ _ ⟨HB6.out, keepb b6 hHeld.2⟩ (fun hHeld => ?_)
      clear hK K
      try simp only [Act.put, List.setIfInBounds_toArray, List.set_cons_zero, List.set_cons_succ, List.getElem_toArray, List.getElem_cons_succ, List.getElem_cons_zero]
      refine wpAnyF_pure (i := 4) (v := ?vg4_5_4) rfl (by kernel_rfl) (by kernel_rfl) (by kernel_rfl) (fun _ _ _ h => h) (Or.inl ⟨by rfl, ?hyg4_5_4⟩) ?restg4_5_4
      case hyg4_5_4 => (intro w hSw; clear hSw; go_simp; (all_goals with_reducible rfl))
      try simp only [Act.put, List.setIfInBounds_toArray, List.set_cons_zero, List.set_cons_succ, List.getElem_toArray, List.getElem_cons_succ, List.getElem_cons_zero]
      refine wpAnyF_pure (i := 5) (v := ?vg4_6_5) rfl (by kernel_rfl) (by kernel_rfl) (by kernel_rfl) (fun _ _ _ h => h) (Or.inl ⟨by rfl, ?hyg4_6_5⟩) ?restg4_6_5
      case hyg4_6_5 => (intro w hSw; clear hSw; go_simp; (all_goals with_reducible rfl))
      try simp only [Act.put, List.setIfInBounds_toArray, List.set_cons_zero, List.set_cons_succ, List.getElem_toArray, List.getElem_cons_succ, List.getElem_cons_zero]
      refine wpAnyF_pure (i := 6) (v := ?vg4_7_6) rfl (by kernel_rfl) (by kernel_rfl) (by kernel_rfl) (fun _ _ _ h => h) (Or.inl ⟨by rfl, ?hyg4_7_6⟩) ?restg4_7_6
      case hyg4_7_6 => (intro w hSw; clear hSw; go_simp; (all_goals with_reducible rfl))
      try simp only [Act.put, List.setIfInBounds_toArray, List.set_cons_zero, List.set_cons_succ, List.getElem_toArray, List.getElem_cons_succ, List.getElem_cons_zero]
      refine wpAnyF_pure (i := 7) (v := ?vg4_8_7) rfl (by kernel_rfl) (by kernel_rfl) (by kernel_rfl) (fun _ _ _ h => h) (Or.inl ⟨by rfl, ?hyg4_8_7⟩) ?restg4_8_7
      case hyg4_8_7 => (intro w hSw; clear hSw; go_simp; (all_goals with_reducible rfl))
      try simp only [Act.put, List.setIfInBounds_toArray, List.set_cons_zero, List.set_cons_succ, List.getElem_toArray, List.getElem_cons_succ, List.getElem_cons_zero]
      refine wpAnyF_pure (i := 8) (v := ?vg4_9_8) rfl (by kernel_rfl) (by kernel_rfl) (by kernel_rfl) (fun _ _ _ h => h) (Or.inl ⟨by rfl, ?hyg4_9_8⟩) ?restg4_9_8
      case hyg4_9_8 => (intro w hSw; clear hSw; go_simp; (all_goals with_reducible rfl))
      try simp only [Act.put, List.setIfInBounds_toArray, List.set_cons_zero, List.set_cons_succ, List.getElem_toArray, List.getElem_cons_succ, List.getElem_cons_zero]
      refine wpAnyF_done (by kernel_rfl) ?_ _
      have z0 := keepb HB6.out z0
      have z1 := keepb HB6.out z1
      have z2 := keepb HB6.out z2
      have z3 := keepb HB6.out z3
      have z4 := keepb HB6.out z4
      have zf : ∀ o, w6.frozen? ⟨w.heap.size + 1, o, none⟩ = false := fun o => (HB6.out.frozen (p := ⟨w.heap.size + 1, o, none⟩) hzx).trans (zf o)
      have hz6 : w.heap.size + 1 < w6.heap.size := Nat.lt_of_lt_of_le hzx HB6.out.size
      have HB06 := hid (bT HBX.out HB6.out)
      clear HB6 HSL HRD j0
      have zf0 := zf 0
      have zf1 := zf 1
      have zf2 := zf 2
      have zf3 := zf 3
      have zf4 := zf 4
      go_wp2_with fail
      refine bodyPost_ret (v := .tuple #[.agg #[.int .i64 0, .int .i64 0, .bool false, .slice none 0 0, .slice none 0 0], .int .i64 r]) (by simp [results, Tryd.results6, go_sem, *]) rfl (retSv_zero _ ?_)
      repeat (with_reducible refine Below.setCell ?_ (by simp) _)
      exact HB06.out
end Go.Proofs.YtphgdpjfolkafaaDoor

/- How much is loaded. -/
namespace Go.Proofs.YtphgdpjfolkafaaDoor
set_option linter.unusedVariables false
theorem loadV_len (fs : List File) (n : Int) : (loadV fs n).1.vals.length ≤ 200 ∧ (loadV fs n).1.mail.length ≤ 5000 := by
  by_cases h : n < 0 ∨ 1 < n
  · rw [loadV_out _ h]; exact ⟨Nat.zero_le _, Nat.zero_le _⟩
  · by_cases he : (readF fs (slotB n)).2 ≠ 0
    · rw [loadV_bad _ h he]; exact ⟨Nat.zero_le _, Nat.zero_le _⟩
    · rw [loadV_ok _ h he]; exact decV_len _
end Go.Proofs.YtphgdpjfolkafaaDoor

/- The document's LoadedSlot. -/
namespace Go.Proofs.YtphgdpjfolkafaaDoor
open Go.ChangeShapes Go.WideShapes Go.ChangeAt Go.RowKit
set_option linter.unusedVariables false
set_option linter.unusedSimpArgs false
set_option maxRecDepth 100000 in
set_option maxHeartbeats 8000000 in
theorem loadedSlot_walk (l : List MFile) (n : Int) (w : World) (A : Option Addr) (c : Nat) (hr : Files w w.heap.size A l) (hn : l.length * 48 ≤ 140737488355328) (hm : Okm l) (hy : ByF (files l)) :
    Calls Tryd.prog 7 #[.agg #[.slice A l.length c], .int .i64 n] w (RetSv w (loadV (files l) n).1 (loadV (files l) n).2) := by
  obtain ⟨wx, hwx⟩ : ∃ wx, wx = (w.alloc (.cells #[.slice A l.length c] 24)).alloc (.cells #[.int .i64 0, .int .i64 0, .bool false, .slice none 0 0, .slice none 0 0] 29) := ⟨_, rfl⟩
  have HBX : Hid (Below w.heap.size w wx) := hid (by rw [hwx]; exact bA (bA (Below.refl _ _) _) _)
  have hzx : w.heap.size + 1 < wx.heap.size := by rw [hwx]; simp
  have j0 : wx.cell? ⟨w.heap.size, 0, none⟩ = some (.slice A l.length c) := by rw [hwx]; go_simp
  have z0 : wx.cell? ⟨w.heap.size + 1, 0, none⟩ = some (.int .i64 0) := by rw [hwx]; go_simp
  have z1 : wx.cell? ⟨w.heap.size + 1, 1, none⟩ = some (.int .i64 0) := by rw [hwx]; go_simp
  have z2 : wx.cell? ⟨w.heap.size + 1, 2, none⟩ = some (.bool false) := by rw [hwx]; go_simp
  have z3 : wx.cell? ⟨w.heap.size + 1, 3, none⟩ = some (.slice none 0 0) := by rw [hwx]; go_simp
  have z4 : wx.cell? ⟨w.heap.size + 1, 4, none⟩ = some (.slice none 0 0) := by rw [hwx]; go_simp
  have zf : ∀ o, wx.frozen? ⟨w.heap.size + 1, o, none⟩ = false := fun o => by rw [hwx]; go_simp
  have HWX := hid hwx
  clear hwx
  by_cases hout : n < 0 ∨ 1 < n
  · rw [loadV_out _ hout]
    clear z0 z1 z2 z3 z4 zf j0 hzx
    have i1 : inB n 0 1 = false := inB_no (by omega)
    clear hout
    go_enter Tryd.func7, Tryd.ntmps7
    go_wp2_with fail
    refine (In_walk _ _ _ _).mono ?_
    rintro e w2 ⟨rfl, rfl⟩
    rw [i1]
    go_wp2_with fail
    refine bodyPost_ret (v := .tuple #[.agg #[.int .i64 0, .int .i64 0, .bool false, .slice none 0 0, .slice none 0 0], .int .i64 2]) (by simp [results, Tryd.results7, go_sem, *]) rfl (retSv_zero _ ?_)
    rw [HWX.out] at HBX
    first
    | exact HBX.out
    | (repeat (with_reducible refine Below.setCell ?_ (by simp) _)
       exact HBX.out)
  · have hn0 : ¬ (n < 0) := by omega
    have hn1 : ¬ (1 < n) := by omega
    have hn2 : n = 0 ∨ n = 1 := by omega
    have HSL := hid (slotName_walk n hn2)
    have HRD := hid (fun W (hB : Below wx.heap.size wx W) => readFile_walk l (slotB n) W A c (Files.b hr (bT HBX.out hB)) hn hm)
    have hfb := readF_byte hy (slotB n)
    have hfl := readF_len hm (slotB n)
    have HLB := hid (loadV_bad (files l) hout)
    have HLO := hid (loadV_ok (files l) hout)
    generalize readF (files l) (slotB n) = z at *
    obtain ⟨v, r⟩ := z
    unfold RetR at HRD
    simp only at HRD hfb hfl HLB HLO
    have HDE := hid (fun W A c (h1 : Rd W W.heap.size A 1 v.length (v.flatMap u8c)) (h3 : v.length ≤ c) => savedOf_walk v W A v.length c h1 rfl hfb hfl h3)
    by_cases he : r = 0
    · subst he
      rw [HLO.out (by simp)]
      clear HLB HLO hout
      generalize decV v = y at *
      obtain ⟨⟨st, ph, fr, vs, ms⟩, q⟩ := y
      unfold RetSv svC at HDE
      simp only at HDE
      go_enter Tryd.func7, Tryd.ntmps7
      go_wp2_with fail
      refine (In_walk _ _ _ _).mono ?_
      rintro e w2 ⟨rfl, rfl⟩
      rw [show inB n 0 1 = true from inB_yes (by omega)]
      go_wp2_with fail
      rw [← HWX.out]
      clear HWX
      refine wp_region_F (S := (fun V => Below wx.heap.size wx V ∧ V.cell? ⟨w.heap.size, 0, none⟩ = some (.slice A l.length c))) [] (by kernel_rfl) ⟨bD (Below.refl _ _), keepb (bD (Below.refl _ _)) j0⟩ (fun hHeld => ?_)
      refine wpAnyF_pure (i := 1) (v := ?vg5_1_1) rfl (by kernel_rfl) (by kernel_rfl) (by kernel_rfl) (fun _ _ _ h => h) (Or.inl ⟨by rfl, ?hyg5_1_1⟩) ?restg5_1_1
      case hyg5_1_1 => (intro w hSw; clear hSw; go_simp; (all_goals with_reducible rfl))
      try simp only [Act.put, List.setIfInBounds_toArray, List.set_cons_zero, List.set_cons_succ, List.getElem_toArray, List.getElem_cons_succ, List.getElem_cons_zero]
      refine wpAnyF_take [3, 4, 5, 6, 7, 8] (i := 0) (v := ?vg5_2_0) rfl (by kernel_rfl) (by kernel_rfl) (by kernel_rfl) (by kernel_rfl) (fun _ _ _ h => h) (Or.inl ⟨by rfl, ?hyg5_2_0⟩) (by assumption) ?restg5_2_0
      case hyg5_2_0 => (intro w hSw; (try dsimp only at hSw); go_simp; (all_goals with_reducible rfl))
      try simp only [Act.put, List.setIfInBounds_toArray, List.set_cons_zero, List.set_cons_succ, List.getElem_toArray, List.getElem_cons_succ, List.getElem_cons_zero]
      refine wpAnyF_one (i := 2) (by kernel_rfl) rfl (fun K hK => ?_)
      go_simp
      go_at_call 18
      refine (HSL.out _).mono ?_
      rintro e w5 ⟨rfl, b5⟩
      go_wp2_with fail
      refine hK.out _ _ ⟨bT hHeld.1 b5, keepb b5 hHeld.2⟩ (fun hHeld => ?_)
      clear hK K
      try simp only [Act.put, List.setIfInBounds_toArray, List.set_cons_zero, List.set_cons_succ, List.getElem_toArray, List.getElem_cons_succ, List.getElem_cons_zero]
      refine wpAnyF_one (i := 3) (by kernel_rfl) rfl (fun K hK => ?_)
      go_simp
      go_at_call 17
      refine (HRD.out _ hHeld.1).mono ?_
      rintro e w6 ⟨A6, c6, rfl, hc6, r6, b6⟩
      have HR6 := hid r6
      have HB6 := hid (bT hHeld.1 b6)
      clear r6
      go_wp2_with fail
      refine hK.out _ _ ⟨HB6.out, keepb b6 hHeld.2⟩ (fun hHeld => ?_)
      clear hK K
      try simp only [Act.put, List.setIfInBounds_toArray, List.set_cons_zero, List.set_cons_succ, List.getElem_toArray, List.getElem_cons_succ, List.getElem_cons_zero]
      refine wpAnyF_pure (i := 4) (v := ?vg5_5_4) rfl (by kernel_rfl) (by kernel_rfl) (by kernel_rfl) (fun _ _ _ h => h) (Or.inl ⟨by rfl, ?hyg5_5_4⟩) ?restg5_5_4
      case hyg5_5_4 => (intro w hSw; clear hSw; go_simp; (all_goals with_reducible rfl))
      try simp only [Act.put, List.setIfInBounds_toArray, List.set_cons_zero, List.set_cons_succ, List.getElem_toArray, List.getElem_cons_succ, List.getElem_cons_zero]
      refine wpAnyF_pure (i := 5) (v := ?vg5_6_5) rfl (by kernel_rfl) (by kernel_rfl) (by kernel_rfl) (fun _ _ _ h => h) (Or.inl ⟨by rfl, ?hyg5_6_5⟩) ?restg5_6_5
      case hyg5_6_5 => (intro w hSw; clear hSw; go_simp; (all_goals with_reducible rfl))
      try simp only [Act.put, List.setIfInBounds_toArray, List.set_cons_zero, List.set_cons_succ, List.getElem_toArray, List.getElem_cons_succ, List.getElem_cons_zero]
      refine wpAnyF_pure (i := 6) (v := ?vg5_7_6) rfl (by kernel_rfl) (by kernel_rfl) (by kernel_rfl) (fun _ _ _ h => h) (Or.inl ⟨by rfl, ?hyg5_7_6⟩) ?restg5_7_6
      case hyg5_7_6 => (intro w hSw; clear hSw; go_simp; (all_goals with_reducible rfl))
      try simp only [Act.put, List.setIfInBounds_toArray, List.set_cons_zero, List.set_cons_succ, List.getElem_toArray, List.getElem_cons_succ, List.getElem_cons_zero]
      refine wpAnyF_pure (i := 7) (v := ?vg5_8_7) rfl (by kernel_rfl) (by kernel_rfl) (by kernel_rfl) (fun _ _ _ h => h) (Or.inl ⟨by rfl, ?hyg5_8_7⟩) ?restg5_8_7
      case hyg5_8_7 => (intro w hSw; clear hSw; go_simp; (all_goals with_reducible rfl))
      try simp only [Act.put, List.setIfInBounds_toArray, List.set_cons_zero, List.set_cons_succ, List.getElem_toArray, List.getElem_cons_succ, List.getElem_cons_zero]
      refine wpAnyF_pure (i := 8) (v := ?vg5_9_8) rfl (by kernel_rfl) (by kernel_rfl) (by kernel_rfl) (fun _ _ _ h => h) (Or.inl ⟨by rfl, ?hyg5_9_8⟩) ?restg5_9_8
      case hyg5_9_8 => (intro w hSw; clear hSw; go_simp; (all_goals with_reducible rfl))
      try simp only [Act.put, List.setIfInBounds_toArray, List.set_cons_zero, List.set_cons_succ, List.getElem_toArray, List.getElem_cons_succ, List.getElem_cons_zero]
      refine wpAnyF_done (by kernel_rfl) ?_ _
      have z0 := keepb HB6.out z0
      have z1 := keepb HB6.out z1
      have z2 := keepb HB6.out z2
      have z3 := keepb HB6.out z3
      have z4 := keepb HB6.out z4
      have zf : ∀ o, w6.frozen? ⟨w.heap.size + 1, o, none⟩ = false := fun o => (HB6.out.frozen (p := ⟨w.heap.size + 1, o, none⟩) hzx).trans (zf o)
      have hz6 : w.heap.size + 1 < w6.heap.size := Nat.lt_of_lt_of_le hzx HB6.out.size
      have HB06 := hid (bT HBX.out HB6.out)
      clear HB6 HSL HRD j0
      go_wp2_with fail
      refine (HDE.out _ _ _ HR6.out hc6).mono ?_
      rintro e w7 ⟨A7, c7, B7, d7, rfl, o7, m7, b7⟩
      have z0 := keepb b7 z0
      have z1 := keepb b7 z1
      have z2 := keepb b7 z2
      have z3 := keepb b7 z3
      have z4 := keepb b7 z4
      have zf : ∀ o, w7.frozen? ⟨w.heap.size + 1, o, none⟩ = false := fun o => (b7.frozen (p := ⟨w.heap.size + 1, o, none⟩) hz6).trans (zf o)
      have zf0 := zf 0
      have zf1 := zf 1
      have zf2 := zf 2
      have zf3 := zf 3
      have zf4 := zf 4
      have HB07 := hid (bT HB06.out b7)
      have O7 := hid o7
      have M7 := hid m7
      have hz7 : w.heap.size + 1 < w7.heap.size := Nat.lt_of_lt_of_le hz6 b7.size
      clear b7 o7 m7
      go_wp2_with fail
      refine bodyPost_ret (v := .tuple #[.agg #[.int .i64 st, .int .i64 ph, .bool fr, .slice A7 vs.length c7, .slice B7 ms.length d7], .int .i64 q]) (by simp [results, Tryd.results7, go_sem, *]) rfl ⟨A7, c7, B7, d7, rfl, ?_, ?_, ?_⟩
      · refine own_more (base := w6.heap.size) ?_ (by omega)
        repeat (with_reducible first | refine ownsRow_setCell_below ?_ (by simp; try omega) _ | refine own_below ?_ (bA (Below.refl _ _) _) (Nat.le_refl _))
        exact O7.out
      · refine own_more (base := w6.heap.size) ?_ (by omega)
        repeat (with_reducible first | refine ownsRow_setCell_below ?_ (by simp; try omega) _ | refine own_below ?_ (bA (Below.refl _ _) _) (Nat.le_refl _))
        exact M7.out
      · repeat (with_reducible first | refine Below.setCell ?_ (by simp; try omega) _ | refine bA ?_ _)
        exact HB07.out
    · have heb : (r != 0) = true := by simpa using he
      rw [HLB.out he]
      clear HLB HLO hout HDE
      go_enter Tryd.func7, Tryd.ntmps7
      go_wp2_with fail
      refine (In_walk _ _ _ _).mono ?_
      rintro e w2 ⟨rfl, rfl⟩
      rw [show inB n 0 1 = true from inB_yes (by omega)]
      go_wp2_with fail
      rw [← HWX.out]
      clear HWX
      refine wp_region_F (S := (fun V => Below wx.heap.size wx V ∧ V.cell? ⟨w.heap.size, 0, none⟩ = some (.slice A l.length c))) [] (by kernel_rfl) ⟨bD (Below.refl _ _), keepb (bD (Below.refl _ _)) j0⟩ (fun hHeld => ?_)
      refine wpAnyF_pure (i := 1) (v := ?vg6_1_1) rfl (by kernel_rfl) (by kernel_rfl) (by kernel_rfl) (fun _ _ _ h => h) (Or.inl ⟨by rfl, ?hyg6_1_1⟩) ?restg6_1_1
      case hyg6_1_1 => (intro w hSw; clear hSw; go_simp; (all_goals with_reducible rfl))
      try simp only [Act.put, List.setIfInBounds_toArray, List.set_cons_zero, List.set_cons_succ, List.getElem_toArray, List.getElem_cons_succ, List.getElem_cons_zero]
      refine wpAnyF_take [3, 4, 5, 6, 7, 8] (i := 0) (v := ?vg6_2_0) rfl (by kernel_rfl) (by kernel_rfl) (by kernel_rfl) (by kernel_rfl) (fun _ _ _ h => h) (Or.inl ⟨by rfl, ?hyg6_2_0⟩) (by assumption) ?restg6_2_0
      case hyg6_2_0 => (intro w hSw; (try dsimp only at hSw); go_simp; (all_goals with_reducible rfl))
      try simp only [Act.put, List.setIfInBounds_toArray, List.set_cons_zero, List.set_cons_succ, List.getElem_toArray, List.getElem_cons_succ, List.getElem_cons_zero]
      refine wpAnyF_one (i := 2) (by kernel_rfl) rfl (fun K hK => ?_)
      go_simp
      go_at_call 18
      refine (HSL.out _).mono ?_
      rintro e w5 ⟨rfl, b5⟩
      go_wp2_with fail
      refine hK.out _ _ ⟨bT hHeld.1 b5, keepb b5 hHeld.2⟩ (fun hHeld => ?_)
      clear hK K
      try simp only [Act.put, List.setIfInBounds_toArray, List.set_cons_zero, List.set_cons_succ, List.getElem_toArray, List.getElem_cons_succ, List.getElem_cons_zero]
      refine wpAnyF_one (i := 3) (by kernel_rfl) rfl (fun K hK => ?_)
      go_simp
      go_at_call 17
      refine (HRD.out _ hHeld.1).mono ?_
      rintro e w6 ⟨A6, c6, rfl, hc6, r6, b6⟩
      have HR6 := hid r6
      have HB6 := hid (bT hHeld.1 b6)
      clear r6
      go_wp2_with fail
      refine hK.out _ _ ⟨HB6.out, keepb b6 hHeld.2⟩ (fun hHeld => ?_)
      clear hK K
      try simp only [Act.put, List.setIfInBounds_toArray, List.set_cons_zero, List.set_cons_succ, List.getElem_toArray, List.getElem_cons_succ, List.getElem_cons_zero]
      refine wpAnyF_pure (i := 4) (v := ?vg6_5_4) rfl (by kernel_rfl) (by kernel_rfl) (by kernel_rfl) (fun _ _ _ h => h) (Or.inl ⟨by rfl, ?hyg6_5_4⟩) ?restg6_5_4
      case hyg6_5_4 => (intro w hSw; clear hSw; go_simp; (all_goals with_reducible rfl))
      try simp only [Act.put, List.setIfInBounds_toArray, List.set_cons_zero, List.set_cons_succ, List.getElem_toArray, List.getElem_cons_succ, List.getElem_cons_zero]
      refine wpAnyF_pure (i := 5) (v := ?vg6_6_5) rfl (by kernel_rfl) (by kernel_rfl) (by kernel_rfl) (fun _ _ _ h => h) (Or.inl ⟨by rfl, ?hyg6_6_5⟩) ?restg6_6_5
      case hyg6_6_5 => (intro w hSw; clear hSw; go_simp; (all_goals with_reducible rfl))
      try simp only [Act.put, List.setIfInBounds_toArray, List.set_cons_zero, List.set_cons_succ, List.getElem_toArray, List.getElem_cons_succ, List.getElem_cons_zero]
      refine wpAnyF_pure (i := 6) (v := ?vg6_7_6) rfl (by kernel_rfl) (by kernel_rfl) (by kernel_rfl) (fun _ _ _ h => h) (Or.inl ⟨by rfl, ?hyg6_7_6⟩) ?restg6_7_6
      case hyg6_7_6 => (intro w hSw; clear hSw; go_simp; (all_goals with_reducible rfl))
      try simp only [Act.put, List.setIfInBounds_toArray, List.set_cons_zero, List.set_cons_succ, List.getElem_toArray, List.getElem_cons_succ, List.getElem_cons_zero]
      refine wpAnyF_pure (i := 7) (v := ?vg6_8_7) rfl (by kernel_rfl) (by kernel_rfl) (by kernel_rfl) (fun _ _ _ h => h) (Or.inl ⟨by rfl, ?hyg6_8_7⟩) ?restg6_8_7
      case hyg6_8_7 => (intro w hSw; clear hSw; go_simp; (all_goals with_reducible rfl))
      try simp only [Act.put, List.setIfInBounds_toArray, List.set_cons_zero, List.set_cons_succ, List.getElem_toArray, List.getElem_cons_succ, List.getElem_cons_zero]
      refine wpAnyF_pure (i := 8) (v := ?vg6_9_8) rfl (by kernel_rfl) (by kernel_rfl) (by kernel_rfl) (fun _ _ _ h => h) (Or.inl ⟨by rfl, ?hyg6_9_8⟩) ?restg6_9_8
      case hyg6_9_8 => (intro w hSw; clear hSw; go_simp; (all_goals with_reducible rfl))
      try simp only [Act.put, List.setIfInBounds_toArray, List.set_cons_zero, List.set_cons_succ, List.getElem_toArray, List.getElem_cons_succ, List.getElem_cons_zero]
      refine wpAnyF_done (by kernel_rfl) ?_ _
      have z0 := keepb HB6.out z0
      have z1 := keepb HB6.out z1
      have z2 := keepb HB6.out z2
      have z3 := keepb HB6.out z3
      have z4 := keepb HB6.out z4
      have zf : ∀ o, w6.frozen? ⟨w.heap.size + 1, o, none⟩ = false := fun o => (HB6.out.frozen (p := ⟨w.heap.size + 1, o, none⟩) hzx).trans (zf o)
      have hz6 : w.heap.size + 1 < w6.heap.size := Nat.lt_of_lt_of_le hzx HB6.out.size
      have HB06 := hid (bT HBX.out HB6.out)
      clear HB6 HSL HRD j0
      have zf0 := zf 0
      have zf1 := zf 1
      have zf2 := zf 2
      have zf3 := zf 3
      have zf4 := zf 4
      go_wp2_with fail
      refine bodyPost_ret (v := .tuple #[.agg #[.int .i64 0, .int .i64 0, .bool false, .slice none 0 0, .slice none 0 0], .int .i64 r]) (by simp [results, Tryd.results7, go_sem, *]) rfl (retSv_zero _ ?_)
      repeat (with_reducible refine Below.setCell ?_ (by simp) _)
      exact HB06.out
end Go.Proofs.YtphgdpjfolkafaaDoor

