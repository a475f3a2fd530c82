/- ckpt.Encode: its closure, which puts numbers. -/
import Derived.Test.YtphgdpjfolkafaaCkM
import Derived.Test.YtphgdpjfolkafaaRegF
namespace Go.Proofs.Ytphgdpjfolkafaa
open Go.ChangeShapes Go.WideShapes Go.ChangeAt Go.RowKit
set_option linter.unusedVariables false
set_option linter.unusedSimpArgs false
/-- The bytes of the numbers put so far, in a row of the call's own to which a cell leads. -/
def InkN (q : Nat) (ns : List Int) (w : World) : Prop := ∃ A c, w.cell? ⟨q, 0, none⟩ = some (.slice A (packs ns).length c) ∧ w.ownsRow (q + 1) 5 1 (.slice A (packs ns).length c) (packs ns).length ((packs ns).flatMap u8c) ∧ q < w.heap.size ∧ w.frozen? ⟨q, 0, none⟩ = false
def PutN (q g : Nat) (ns ms : List Int) (w : World) (i : Value) (wr : World) : Prop :=
  ∃ k A c, k ≤ ms.length ∧ i = .int .i64 (k : Nat) ∧ wr.cell? ⟨q, 0, none⟩ = some (.slice A (packs (ns ++ ms.take k)).length c) ∧ Hid (wr.ownsRow (q + 1) 5 1 (.slice A (packs (ns ++ ms.take k)).length c) (packs (ns ++ ms.take k)).length ((packs (ns ++ ms.take k)).flatMap u8c)) ∧ q < wr.heap.size ∧ wr.frozen? ⟨q, 0, none⟩ = false ∧ Hid (wr.ownsRow (q + 1) 3 1 (.slice (some ⟨g, 0, none⟩) ms.length ms.length) ms.length (ms.flatMap i64c)) ∧ Hid (∀ y, (Value.slice A (packs (ns ++ ms.take k)).length c).ownBlock = some y → y ≠ g) ∧ Hid (Below q w wr)
set_option maxRecDepth 100000 in
set_option maxHeartbeats 4000000 in
theorem encPut_walk (ns ms : List Int) (q g : Nat) (w : World) (A : Option Addr) (c : Nat) (hms : u64s ms) (hsz : ns.length + ms.length ≤ 20000) (hq : w.cell? ⟨q, 0, none⟩ = some (.slice A (packs ns).length c)) (hown : w.ownsRow (q + 1) 5 1 (.slice A (packs ns).length c) (packs ns).length ((packs ns).flatMap u8c)) (hqs : q < w.heap.size) (hfz : w.frozen? ⟨q, 0, none⟩ = false) (harg : w.ownsRow (q + 1) 3 1 (.slice (some ⟨g, 0, none⟩) ms.length ms.length) ms.length (ms.flatMap i64c)) (hoff : ∀ y, (Value.slice A (packs ns).length c).ownBlock = some y → y ≠ g) :
    Calls Try.prog 52 #[.slice (some ⟨g, 0, none⟩) ms.length ms.length, .pointer (some ⟨q, 0, none⟩)] w fun e w' => e = .returned (.tuple #[]) ∧ InkN q (ns ++ ms) w' ∧ Below q w w' := by
  have HSZ := hid hsz
  have HU := hid hms
  have H0 : PutN q g ns ms w (.int .i64 (0 : Nat)) w := ⟨0, A, c, by omega, rfl, by rw [List.take_zero, List.append_nil]; exact hq, hid (by rw [List.take_zero, List.append_nil]; exact hown), hqs, hfz, hid harg, hid (by rw [List.take_zero, List.append_nil]; exact hoff), hid (Below.refl _ _)⟩
  have hm : ms.length ≤ 20000 := by omega
  clear hq hown hqs hfz harg hoff hsz hms
  go_enter Try.func52, Try.ntmps52
  go_wp2_with fail
  go_loopw [7] (fun i wr => PutN q g ns ms w i wr) (fun i _ => ms.length - (intOf i).toNat)
  case atStart => exact H0
  case round =>
    clear H0
    obtain ⟨k, A, c, hk, rfl, hq, HOWN, hqs, hfz, HARG, HOFF, HBEL⟩ := hrel
    by_cases hlt : k < ms.length
    · obtain ⟨x, hx⟩ : ∃ x, ms[k]? = some x := ⟨_, List.getElem?_eq_getElem hlt⟩
      obtain ⟨cx, hgs⟩ := own_at HARG.out (flat_i64_get hx)
      have hkz : (k : Int) < (ms.length : Int) := by omega
      have hx0 := HU.out x (List.mem_of_getElem? hx)
      have HPUT := hid (fun W => put_walk x hx0.1 (by omega) W)
      have hwx : IntKind.u64.wrap x = x := IntWalk.u64_in _ (by omega)
      have HN : Hid (packs (ns ++ ms.take (k + 1)) = packs (ns ++ ms.take k) ++ pack x) := hid (by rw [take_nextV hx, ← List.append_assoc, packs_append, packs_one])
      have hSZ : ((packs (ns ++ ms.take k)).length + (pack x).length) * 1 ≤ 140737488355328 := by
        have h1 := packs_len (ns ++ ms.take k)
        have h2 := (pack_len x).1
        have h3 := HSZ.out
        rw [List.length_append, List.length_take] at h1
        omega
      clear hx hx0
      have HK : Hid (∀ V, Below wr.heap.size wr V → ((fun V => Below wr.heap.size wr V ∧ V.cell? ⟨q, 0, none⟩ = some (.slice A (packs (ns ++ ms.take k)).length c)) : World → Prop) V) := hid fun V hV => ⟨hV, keepb hV hq⟩
      go_wp2_with fail
      refine wp_region_F (S := (fun V => Below wr.heap.size wr V ∧ V.cell? ⟨q, 0, none⟩ = some (.slice A (packs (ns ++ ms.take k)).length c))) [4, 5] (by kernel_rfl) (HK.out _ (bD (Below.refl _ _))) (fun hHeld => ?_)
      refine wpAnyF_pure (i := 1) (v := ?vg1_1_1) rfl (by kernel_rfl) (by kernel_rfl) (by kernel_rfl) (fun _ _ _ h => h) (Or.inl ⟨by rfl, ?hyg1_1_1⟩) ?restg1_1_1
      case hyg1_1_1 => (intro w hSw; clear hSw; go_simp; (all_goals with_reducible rfl))
      try simp only [Act.put, List.setIfInBounds_toArray, List.set_cons_zero, List.set_cons_succ, List.getElem_toArray, List.getElem_cons_succ, List.getElem_cons_zero]
      refine wpAnyF_pure (i := 2) (v := ?vg1_2_2) rfl (by kernel_rfl) (by kernel_rfl) (by kernel_rfl) (fun _ _ _ h => h) (Or.inl ⟨by rfl, ?hyg1_2_2⟩) ?restg1_2_2
      case hyg1_2_2 => (intro w hSw; clear hSw; go_simp; (all_goals with_reducible rfl))
      try simp only [Act.put, List.setIfInBounds_toArray, List.set_cons_zero, List.set_cons_succ, List.getElem_toArray, List.getElem_cons_succ, List.getElem_cons_zero]
      refine wpAnyF_take [4, 5] (i := 0) (v := ?vg1_3_0) rfl (by kernel_rfl) (by kernel_rfl) (by kernel_rfl) (by kernel_rfl) (fun _ _ _ h => h) (Or.inl ⟨by rfl, ?hyg1_3_0⟩) (by assumption) ?restg1_3_0
      case hyg1_3_0 => (intro w hSw; (try dsimp only at hSw); go_simp; (all_goals with_reducible rfl))
      try simp only [Act.put, List.setIfInBounds_toArray, List.set_cons_zero, List.set_cons_succ, List.getElem_toArray, List.getElem_cons_succ, List.getElem_cons_zero]
      refine wpAnyF_one (i := 3) (by kernel_rfl) rfl (fun K hK => ?_)
      go_simp
      go_at_call 53
      refine (HPUT.out _).mono ?_
      rintro e w2 ⟨A2, c2, rfl, o2, b2⟩
      have HO2 := hid o2
      clear o2
      go_wp2_with fail
      refine hK.out _ _ (HK.out _ (bT hHeld.1 b2)) (fun hHeld => ?_)
      clear hK K
      try simp only [Act.put, List.setIfInBounds_toArray, List.set_cons_zero, List.set_cons_succ, List.getElem_toArray, List.getElem_cons_succ, List.getElem_cons_zero]
      refine wpAnyF_oneD (i := 4) (by kernel_rfl) (by kernel_rfl) rfl (fun K hK => ?_)
      refine step_app3 rfl rfl el_bytes rfl (own_below HOWN.out hHeld.1 (Nat.le_refl _)) rfl (rd_own HO2.out) (one_u8 _) hSZ (by have := hHeld.1.size; omega) ?_
      intro A3 c3 w3 o3 b3 g3 h3
      have cq := (b3.cell (p := ⟨q, 0, none⟩) (Nat.lt_succ_self q)).trans hHeld.2
      have fq := (b3.frozen (p := ⟨q, 0, none⟩) (Nat.lt_succ_self q)).trans ((hHeld.1.frozen (p := ⟨q, 0, none⟩) hqs).trans hfz)
      have HO3 := hid o3
      have HG3 := hid (own_grown (own_below HARG.out hHeld.1 (Nat.le_refl _)) g3 (fun y hy e => HOFF.out _ e (by injection hy with hy; exact hy.symm)))
      have HH3 := hid h3
      have HB3 := hid b3
      have HB4 := hid hHeld.1
      clear o3 g3 h3 b3
      refine hK.out _ _ ?_
      clear hK K
      try simp only [Act.put, List.setIfInBounds_toArray, List.set_cons_zero, List.set_cons_succ, List.getElem_toArray, List.getElem_cons_succ, List.getElem_cons_zero]
      refine wpAnyF_oneD (i := 5) (by kernel_rfl) (by kernel_rfl) rfl (fun K hK => ?_)
      go_simp
      refine hK.out _ _ ?_
      clear hK K
      try simp only [Act.put, List.setIfInBounds_toArray, List.set_cons_zero, List.set_cons_succ, List.getElem_toArray, List.getElem_cons_succ, List.getElem_cons_zero]
      refine wpAnyF_done (by kernel_rfl) ?_ _
      go_wp2_with fail
      go_roundw
      case rel =>
        refine ⟨k + 1, A3, c3, by omega, by go_num, ?_, hid ?_, ?_, ?_, hid ?_, hid ?_, hid ?_⟩
        all_goals (try rw [HN.out, List.length_append])
        · go_simp
        · rw [List.flatMap_append]; exact ownsRow_setCell_below HO3.out (a := ⟨q, 0, none⟩) (Nat.lt_succ_self q) _
        · have h1 := HB4.out.size; have h2 := HB3.out.size; simp; omega
        · go_simp
        · exact ownsRow_setCell_below HG3.out (a := ⟨q, 0, none⟩) (Nat.lt_succ_self q) _
        · intro y hy e
          subst e
          rcases HH3.out with h | h
          · exact HOFF.out _ (h.symm.trans hy) rfl
          · rw [hy] at h
            injection h with h
            have h8 := HB4.out.size
            have h9 := (HARG.out.lt y rfl).2
            omega
        · exact ((HBEL.out.trans (HB4.out.mono (Nat.le_of_lt hqs))).trans (HB3.out.mono (Nat.le_succ q))).setCell (Nat.le_refl q) _
      case measure => simp [intOf]; omega
    · obtain rfl : k = ms.length := by omega
      have hkz : ¬ ((ms.length : Int) < (ms.length : Int)) := by omega
      rw [List.take_length] at hq HOWN
      go_wp2_with fail
      go_end0
      exact ⟨rfl, ⟨A, c, hq, HOWN.out, hqs, hfz⟩, HBEL.out⟩
/-- With numbers laid anew. -/
theorem encPut_new {ns : List Int} (ms : List Int) {q : Nat} {w : World} (h : InkN q ns w) (cs : Array Value) (hcs : cs.toList = ms.flatMap i64c) (hms : u64s ms) (hsz : ns.length + ms.length ≤ 20000) (m : Nat) (hm : ms.length = m) (g : Nat) (hg : w.heap.size = g) :
    Calls Try.prog 52 #[.slice (some ⟨g, 0, none⟩) m m, .pointer (some ⟨q, 0, none⟩)] (w.alloc (.cells cs 3)) fun e w' => e = .returned (.tuple #[]) ∧ InkN q (ns ++ ms) w' ∧ Below q w w' := by
  obtain ⟨A, c, hq, hown, hqs, hfz⟩ := h
  subst hm hg
  have hl : ms.length = cs.size := by rw [← Array.length_toList, hcs, (flatMap_get (cells := i64c) (sz := 1) (l := ms) (fun _ _ => rfl)).1, Nat.mul_one]
  have b0 : Below w.heap.size w (w.alloc (.cells cs 3)) := bA (Below.refl _ _) _
  have ha := World.ownsRow_lit (base := q + 1) (e := 3) (size := 1) w cs ms.length hqs (by simp [maxLen]; omega) (by omega)
  rw [hcs] at ha
  refine (encPut_walk ns ms q w.heap.size _ A c hms hsz (keepb b0 hq) (own_below hown b0 (Nat.le_refl _)) (by simp; omega) (by rw [b0.frozen (p := ⟨q, 0, none⟩) hqs]; exact hfz) ha (fun y hy => by have := (hown.lt y hy).2; omega)).mono ?_
  rintro e w' ⟨h1, h2, h3⟩
  exact ⟨h1, h2, (b0.mono (Nat.le_of_lt hqs)).trans h3⟩
end Go.Proofs.Ytphgdpjfolkafaa
