/- store's pen: put. -/
import Derived.Test.YtifpngjipkmdcaaStoF
namespace Go.Proofs.Ytifpngjipkmdcaa
open Go.ChangeShapes Go.WideShapes Go.ChangeAt Go.RowKit
set_option linter.unusedVariables false
set_option linter.unusedSimpArgs false
theorem own_belowB {w w' : World} {base e sz n : Nat} {v : Value} {xs : List Value} (h : w.ownsRow base e sz v n xs) (b : Below w.heap.size w w') : w'.ownsRow base e sz v n xs := own_below h b (Nat.le_refl _)
/-- A pen lies at G, its ink at L or behind it. -/
structure PO (w : World) (L G : Nat) (A : Option Addr) (c : Nat) (l : List Int) : Prop where
  le : L ≤ G
  off : ∀ y, (Value.slice A l.length c).ownBlock = some y → y ≠ G
  all : w.cell? ⟨G, 0, none⟩ = some (.slice A l.length c)
  fz : w.frozen? ⟨G, 0, none⟩ = false
  row : w.ownsRow L 5 1 (.slice A l.length c) l.length (l.flatMap u8c)
abbrev pBlk (A : Option Addr) (c : Nat) (l : List Int) : Option Nat := (Value.slice A l.length c).ownBlock
theorem PO.lt {w : World} {L G : Nat} {A : Option Addr} {c : Nat} {l : List Int} (h : PO w L G A c l) : G < w.heap.size := World.block_lt_of_cell? w _ h.all
theorem PO.below {w w' : World} {L G : Nat} {A : Option Addr} {c : Nat} {l : List Int} (h : PO w L G A c l) (b : Below w.heap.size w w') : PO w' L G A c l :=
  ⟨h.le, h.off, keepb b h.all, keepf b h.fz h.lt, own_below h.row b (Nat.le_refl _)⟩
theorem pfl_cell {w w' : World} {L G b o : Nat} {a a' : Option Nat} {v : Value} (h : PFL w w' L G a a') (hb : b ≠ G) (ha : a ≠ some b) (hv : w.cell? ⟨b, o, none⟩ = some v) : w'.cell? ⟨b, o, none⟩ = some v := by
  rw [World.cell?_of_block (w := w) (h.2.1 b (World.block_lt_of_cell? w _ hv) hb ha)]; exact hv
def PenR (w : World) (L G : Nat) (A : Option Addr) (c : Nat) (l ns : List Int) (iv : Value) (wr : World) : Prop :=
  ∃ (k c' : Nat) (A' : Option Addr), k ≤ ns.length ∧ iv = .int .i64 k ∧ Hid (PO wr L G A' c' (l ++ packs (ns.take k))) ∧ Hid (PFL w wr L G (pBlk A c l) (pBlk A' c' (l ++ packs (ns.take k))))
set_option maxRecDepth 100000 in
set_option maxHeartbeats 1000000 in
theorem penPut_walk {w : World} {L G : Nat} {A : Option Addr} {c : Nat} {l : List Int} (h : PO w L G A c l) (ns : List Int) (bb d n : Nat) (hn : ns.length = n) (hns : ∀ i x, ns[i]? = some x → w.cell? ⟨bb, i, none⟩ = some (.int .i64 x) ∧ 0 ≤ x ∧ x ≤ 9223372036854775807) (hbG : bb ≠ G) (hbl : pBlk A c l ≠ some bb) (hl : l.length + ns.length * 10 ≤ 100000000000) :
    Calls Try.prog 61 #[.pointer (some ⟨G, 0, none⟩), .slice (some ⟨bb, 0, none⟩) n d] w fun e w' => e = .returned (.tuple #[]) ∧ ∃ A' c', PO w' L G A' c' (l ++ packs ns) ∧ PFL w w' L G (pBlk A c l) (pBlk A' c' (l ++ packs ns)) := by
  have HH := hid h
  have HNS := hid hns
  have HN := hid hn
  have hGs := h.lt
  have hle := h.le
  clear h hns
  go_enter Try.func61, Try.ntmps61
  go_wp2_with fail
  go_loopw [5, 8] (fun _ iv wr => PenR w L G A c l ns iv wr) (fun _ iv _ => n - (intOf iv).toNat)
  case atStart => exact ⟨0, c, A, Nat.zero_le _, rfl, hid (by simpa [packs] using HH.out), hid (by simpa [packs] using PFL.below (Below.refl _ _) (Nat.le_trans hle (Nat.le_of_lt hGs)))⟩
  case round =>
    clear HH
    obtain ⟨k, c', A', hk, rfl, HP, HF⟩ := hrel
    by_cases hlt : k < n
    · have hkz : (k : Int) < (n : Int) := by omega
      obtain ⟨x, hx⟩ : ∃ x, ns[k]? = some x := ⟨_, List.getElem?_eq_getElem (by omega)⟩
      obtain ⟨q0, hx0, hx9⟩ := HNS.out k x hx
      have hx1 : x ≤ 18446744073709551615 := by omega
      have qk := pfl_cell HF.out hbG hbl q0
      have hwx : IntKind.u64.wrap x = x := IntWalk.u64_in _ (by omega)
      have HTK := hid (show packs (ns.take (k + 1)) = packs (ns.take k) ++ pack x by rw [List.take_add_one, hx]; simp [packs])
      obtain ⟨m, hm⟩ : ∃ m, l ++ packs (ns.take k) = m := ⟨_, rfl⟩
      rw [hm] at HP HF
      have HM := hid hm
      clear hm
      have h0 := HP.out.all
      have hf := HP.out.fz
      have hGs := HP.out.lt
      have HROW := hid HP.out.row
      have hPL : (packs (ns.take k)).length ≤ 10 * k := Nat.le_trans (packs_len _) (by rw [List.length_take]; omega)
      have hxl := (pack_len x).1
      have hSZ : (m.length + (pack x).length) * 1 ≤ 140737488355328 := by rw [← HM.out, List.length_append]; omega
      have hoG : (Value.slice A' m.length c').ownBlock ≠ some G := fun e => HP.out.off G e rfl
      have hbz : bb < wr.heap.size := World.block_lt_of_cell? _ _ qk
      clear hx q0
      go_wp2_with fail
      refine wp_region_F (S := (fun V => Below wr.heap.size wr V ∧ V.cell? ⟨G, 0, none⟩ = some (.slice A' m.length c'))) [8, 11] (by kernel_rfl) ⟨bD (Below.refl _ _), keepb (bD (Below.refl _ _)) h0⟩ (fun hHeld => ?_)
      refine wpAnyF_pure (i := 0) (v := ?vg1_1_0) rfl (by kernel_rfl) (by kernel_rfl) (by kernel_rfl) (fun _ _ _ h => h) (Or.inl ⟨by rfl, ?hyg1_1_0⟩) ?restg1_1_0
      case hyg1_1_0 => (intro w hSw; clear hSw; go_simp; (all_goals with_reducible rfl))
      try simp only [Act.put, List.setIfInBounds_toArray, List.set_cons_zero, List.set_cons_succ, List.getElem_toArray, List.getElem_cons_succ, List.getElem_cons_zero]
      refine wpAnyF_pure (i := 1) (v := ?vg1_2_1) rfl (by kernel_rfl) (by kernel_rfl) (by kernel_rfl) (fun _ _ _ h => h) (Or.inl ⟨by rfl, ?hyg1_2_1⟩) ?restg1_2_1
      case hyg1_2_1 => (intro w hSw; clear hSw; go_simp; (all_goals with_reducible rfl))
      try simp only [Act.put, List.setIfInBounds_toArray, List.set_cons_zero, List.set_cons_succ, List.getElem_toArray, List.getElem_cons_succ, List.getElem_cons_zero]
      refine wpAnyF_pure (i := 2) (v := ?vg1_3_2) rfl (by kernel_rfl) (by kernel_rfl) (by kernel_rfl) (fun _ _ _ h => h) (Or.inl ⟨by rfl, ?hyg1_3_2⟩) ?restg1_3_2
      case hyg1_3_2 => (intro w hSw; clear hSw; go_simp; (all_goals with_reducible rfl))
      try simp only [Act.put, List.setIfInBounds_toArray, List.set_cons_zero, List.set_cons_succ, List.getElem_toArray, List.getElem_cons_succ, List.getElem_cons_zero]
      refine wpAnyF_pure (i := 3) (v := ?vg1_4_3) rfl (by kernel_rfl) (by kernel_rfl) (by kernel_rfl) (fun _ _ _ h => h) (Or.inl ⟨by rfl, ?hyg1_4_3⟩) ?restg1_4_3
      case hyg1_4_3 => (intro w hSw; clear hSw; go_simp; (all_goals with_reducible rfl))
      try simp only [Act.put, List.setIfInBounds_toArray, List.set_cons_zero, List.set_cons_succ, List.getElem_toArray, List.getElem_cons_succ, List.getElem_cons_zero]
      refine wpAnyF_pure (i := 5) (v := ?vg1_5_5) rfl (by kernel_rfl) (by kernel_rfl) (by kernel_rfl) (fun _ _ _ h => h) (Or.inl ⟨by rfl, ?hyg1_5_5⟩) ?restg1_5_5
      case hyg1_5_5 => (intro w hSw; clear hSw; go_simp; (all_goals with_reducible rfl))
      try simp only [Act.put, List.setIfInBounds_toArray, List.set_cons_zero, List.set_cons_succ, List.getElem_toArray, List.getElem_cons_succ, List.getElem_cons_zero]
      refine wpAnyF_pure (i := 6) (v := ?vg1_6_6) rfl (by kernel_rfl) (by kernel_rfl) (by kernel_rfl) (fun _ _ _ h => h) (Or.inl ⟨by rfl, ?hyg1_6_6⟩) ?restg1_6_6
      case hyg1_6_6 => (intro w hSw; clear hSw; go_simp; (all_goals with_reducible rfl))
      try simp only [Act.put, List.setIfInBounds_toArray, List.set_cons_zero, List.set_cons_succ, List.getElem_toArray, List.getElem_cons_succ, List.getElem_cons_zero]
      refine wpAnyF_take [8, 9, 10, 11] (i := 4) (v := ?vg1_7_4) rfl (by kernel_rfl) (by kernel_rfl) (by kernel_rfl) (by kernel_rfl) (fun _ _ _ h => h) (Or.inl ⟨by rfl, ?hyg1_7_4⟩) (by assumption) ?restg1_7_4
      case hyg1_7_4 => (intro w hSw; (try dsimp only at hSw); go_simp; (all_goals with_reducible rfl))
      try simp only [Act.put, List.setIfInBounds_toArray, List.set_cons_zero, List.set_cons_succ, List.getElem_toArray, List.getElem_cons_succ, List.getElem_cons_zero]
      refine wpAnyF_one (i := 7) (by kernel_rfl) rfl (fun K hK => ?_)
      go_simp
      refine (put_walk x hx0 hx1 _).mono ?_
      rintro e w2 ⟨A2, c2, rfl, o2, b2⟩
      have HO2 := hid o2
      have HB2 := hid (hHeld.1.trans (b2.mono hHeld.1.size))
      have hc2 := keepb b2 hHeld.2
      clear o2 b2
      refine hK.out _ _ ⟨HB2.out, hc2⟩ (fun hHeld => ?_)
      clear hK K
      try simp only [Act.put, List.setIfInBounds_toArray, List.set_cons_zero, List.set_cons_succ, List.getElem_toArray, List.getElem_cons_succ, List.getElem_cons_zero]
      refine wpAnyF_oneD (i := 8) (by kernel_rfl) (by kernel_rfl) rfl (fun K hK => ?_)
      refine step_app3 rfl rfl el_bytes rfl (own_belowB HROW.out hHeld.1) rfl (rd_own HO2.out) (one_u8 (pack x)) hSZ (by have := hHeld.1.size; omega) ?_
      intro A3 c3 w3 o3 b3 g3 h3
      have HO3 := hid o3
      have HB3 := hid b3
      have HG3 := hid g3
      have H3 := hid h3
      have HB23 := hid hHeld.1
      have hGV := Nat.lt_of_lt_of_le hGs hHeld.1.size
      have c3x : ∃ u, w3.cell? ⟨G, 0, none⟩ = some u := ⟨_, (pn_cell g3 hGV hoG).trans hHeld.2⟩
      obtain ⟨u3, c3x⟩ := c3x
      have f3x : w3.frozen? ⟨G, 0, none⟩ = false := (pn_frozen g3 hGV hoG).trans (keepf hHeld.1 hf hGs)
      clear o3 b3 g3 h3
      refine hK.out _ _ ?_
      clear hK K
      try simp only [Act.put, List.setIfInBounds_toArray, List.set_cons_zero, List.set_cons_succ, List.getElem_toArray, List.getElem_cons_succ, List.getElem_cons_zero]
      refine wpAnyF_pure (i := 9) (v := ?vg1_10_9) rfl (by kernel_rfl) (by kernel_rfl) (by kernel_rfl) (fun _ _ _ h => h) (Or.inl ⟨by rfl, ?hyg1_10_9⟩) ?restg1_10_9
      case hyg1_10_9 => (intro w hSw; clear hSw; go_simp; (all_goals with_reducible rfl))
      try simp only [Act.put, List.setIfInBounds_toArray, List.set_cons_zero, List.set_cons_succ, List.getElem_toArray, List.getElem_cons_succ, List.getElem_cons_zero]
      refine wpAnyF_pure (i := 10) (v := ?vg1_11_10) rfl (by kernel_rfl) (by kernel_rfl) (by kernel_rfl) (fun _ _ _ h => h) (Or.inl ⟨by rfl, ?hyg1_11_10⟩) ?restg1_11_10
      case hyg1_11_10 => (intro w hSw; clear hSw; go_simp; (all_goals with_reducible rfl))
      try simp only [Act.put, List.setIfInBounds_toArray, List.set_cons_zero, List.set_cons_succ, List.getElem_toArray, List.getElem_cons_succ, List.getElem_cons_zero]
      refine wpAnyF_oneD (i := 11) (by kernel_rfl) (by kernel_rfl) rfl (fun K hK => ?_)
      go_simp
      refine hK.out _ _ ?_
      clear hK K
      try simp only [Act.put, List.setIfInBounds_toArray, List.set_cons_zero, List.set_cons_succ, List.getElem_toArray, List.getElem_cons_succ, List.getElem_cons_zero]
      refine wpAnyF_done (by kernel_rfl) ?_ _
      go_wp2_with fail
      have HLB := hid (HB23.out.mono (show L ≤ wr.heap.size by omega) |>.trans HB3.out)
      have hl2 : (m ++ pack x).length = m.length + (pack x).length := List.length_append
      have hrow3 := HO3.out
      have hblk : pBlk A3 c3 (m ++ pack x) = (Value.slice A3 (m.length + (pack x).length) c3).ownBlock := by unfold pBlk; rw [hl2]
      have hoff : ∀ y, pBlk A3 c3 (m ++ pack x) = some y → y ≠ G := fun y hy e => by
        subst e
        rw [hblk] at hy
        rcases H3.out with h4 | h4
        · rw [h4] at hy; exact hoG hy
        · rw [h4] at hy; injection hy with hy; have := HB23.out.size; omega
      have hPO : PO (w3.setCell ⟨G, 0, none⟩ (.slice A3 (m.length + (pack x).length) c3)) L G A3 c3 (m ++ pack x) := by
        refine ⟨hle, hoff, ?_, by simpa using f3x, ?_⟩
        · rw [hl2]; exact World.cell?_setCell_same _ _ _ c3x
        · rw [hl2, List.flatMap_append]
          exact own_grown hrow3 (grown_setCells G [.slice A3 (m.length + (pack x).length) c3] 0 w3) (fun y hy e => by injection e with e; exact hoff y (by rw [hblk]; exact hy) e.symm)
      have hHF : PFL wr (w3.setCell ⟨G, 0, none⟩ (.slice A3 (m.length + (pack x).length) c3)) L G (pBlk A' c' m) (pBlk A3 c3 (m ++ pack x)) := by
        refine ⟨HLB.out.setCell (by exact hle) _, fun i hi hG ha => ?_, fun i hi => ?_⟩
        · rw [heap_setCell_other w3 ⟨G, 0, none⟩ i _ (by simpa using hG)]
          refine (HG3.out.block i (Nat.lt_of_lt_of_le hi HB23.out.size) (fun e => ha e.symm)).trans (HB23.out.block i hi)
        · rw [hblk] at hi
          rcases H3.out with h4 | h4
          · rw [h4] at hi; exact .inl hi
          · rw [h4] at hi; injection hi with hi
            exact .inr (by rw [← hi]; exact HB23.out.size)
      have hmk : m ++ pack x = l ++ packs (ns.take (k + 1)) := by rw [← HM.out, HTK.out, List.append_assoc]
      have HPO2 := hid (hmk ▸ hPO)
      have HHF2 := hid (hmk ▸ HF.out.trans hHF)
      clear hPO hHF hrow3 hoff hblk
      go_roundw
      case rel => exact ⟨k + 1, c3, A3, by omega, by go_num, HPO2, HHF2⟩
      case measure => (simp [intOf]) <;> omega
    · obtain rfl : k = n := by omega
      have hkz : ¬ (k : Int) < (k : Int) := by omega
      have HT := hid (show ns.take k = ns from by rw [← HN.out]; exact List.take_length)
      go_wp2_with fail
      go_end0
      rw [HT.out] at HP HF
      exact ⟨rfl, A', c', HP.out, HF.out⟩
end Go.Proofs.Ytifpngjipkmdcaa
