/- The document's SavedBytes. -/
import Derived.Test.YtphgdpjfolkafaaCkN
import Derived.Test.YtphgdpjfolkafaaCkW
import Derived.Test.YtphgdpjfolkafaaWrapR
import Derived.Test.YtphgdpjfolkafaaRegF
namespace Go.Proofs.Ytphgdpjfolkafaa
open Go.ChangeShapes Go.WideShapes Go.ChangeAt Go.RowKit
set_option linter.unusedVariables false
set_option linter.unusedSimpArgs false
theorem two_ints (a b : Int) : ∀ u ∈ (#[Value.int .i64 a, Value.int .i64 b] : Array Value).toList, u.oneCell' = true := by
  intro u hu; simp at hu; rcases hu with rfl | rfl <;> rfl
/-- The numbers so far, in a row of the call's own. -/
def NRel {α : Type} (base : Nat) (ns : List Int) (f : List α → List Int) (l : List α) (W : World) (s i : Value) (wr : World) : Prop :=
  ∃ k N A c, k ≤ l.length ∧ i = .int .i64 (k : Nat) ∧ N = ns.length + 2 * k ∧ s = .slice A N c ∧ Hid (wr.ownsRow base 3 1 (.slice A N c) N ((ns ++ f (l.take k)).flatMap i64c)) ∧ Below W.heap.size W wr
def BRel (ns : List Int) (W : World) (s i : Value) (wr : World) : Prop :=
  ∃ k A c, k ≤ ns.length ∧ i = .int .i64 (k : Nat) ∧ s = .slice A (packs (ns.take k)).length c ∧ Hid (wr.ownsRow W.heap.size 5 1 (.slice A (packs (ns.take k)).length c) (packs (ns.take k)).length ((packs (ns.take k)).flatMap u8c)) ∧ Below W.heap.size W wr
set_option maxRecDepth 100000 in
set_option maxHeartbeats 8000000 in
theorem savedBytes_walk (s : Saved) (w : World) (A B : Option Addr) (c d : Nat) (hv : Rd w w.heap.size A 2 s.vals.length (s.vals.flatMap Val.cells)) (hm : Rd w w.heap.size B 2 s.mail.length (s.mail.flatMap Mail.cells)) :
    Calls Try.prog 18 #[.agg (svC s A c B d)] w (RetL 5 1 w (encV s).1.length ((encV s).1.flatMap u8c) (encV s).2) := by
  have b00 : Below w.heap.size w (w.alloc (.cells (svC s A c B d) 36)) := bA (Below.refl _ _) _
  have HMAY := hid (savedMay_walk s (w.alloc (.cells (svC s A c B d) 36)) A B c d ((hv.below b00).any (by omega)) ((hm.below b00).any (by omega)))
  cases hs : svB s with
  | false =>
    rw [encV_bad hs]
    rw [hs] at HMAY
    obtain ⟨st, ph, fr, vs, ms⟩ := s
    clear hs
    unfold svC at *
    simp only at *
    go_enter Try.func18, Try.ntmps18
    go_wp2_with fail
    refine HMAY.out.mono ?_
    rintro e w1 ⟨rfl, b1⟩
    go_wp2_with fail
    go_ret2
    exact retL_nilB _ _ _ (bT b00 b1)
  | true =>
    rw [encV_ok hs]
    rw [hs] at HMAY
    have hok := svB_ok hs
    have HU := hid (nums_ok hok)
    have HNS := hid (nums_of s)
    have HNL := hid (nums_len s)
    have HPL := hid (packs_len (nums s))
    have HPB := hid (packs_byte (nums_ok hok))
    obtain ⟨⟨o1, o2, o3, o4⟩, o5, o6, _⟩ := hok
    generalize hP : packs (nums s) = P at *
    have HP := hid hP
    clear hP hs
    generalize nums s = NS at *
    have HB0 := hid b00
    obtain ⟨st, ph, fr, vs, ms⟩ := s
    unfold svC at *
    simp only at *
    have HO5 := hid o5
    have HO6 := hid o6
    have HNP := hid (fun k : Nat => packs_len (NS.take k))
    clear o1 o2 o5 o6
    have q0 : (w.alloc (.cells #[.int .i64 st, .int .i64 ph, .bool fr, .slice A vs.length c, .slice B ms.length d] 36)).cell? ⟨w.heap.size, 0, none⟩ = some (.int .i64 st) := by go_simp
    have q1 : (w.alloc (.cells #[.int .i64 st, .int .i64 ph, .bool fr, .slice A vs.length c, .slice B ms.length d] 36)).cell? ⟨w.heap.size, 1, none⟩ = some (.int .i64 ph) := by go_simp
    have q2 : (w.alloc (.cells #[.int .i64 st, .int .i64 ph, .bool fr, .slice A vs.length c, .slice B ms.length d] 36)).cell? ⟨w.heap.size, 2, none⟩ = some (.bool fr) := by go_simp
    have q3 : (w.alloc (.cells #[.int .i64 st, .int .i64 ph, .bool fr, .slice A vs.length c, .slice B ms.length d] 36)).cell? ⟨w.heap.size, 3, none⟩ = some (.slice A vs.length c) := by go_simp
    have q4 : (w.alloc (.cells #[.int .i64 st, .int .i64 ph, .bool fr, .slice A vs.length c, .slice B ms.length d] 36)).cell? ⟨w.heap.size, 4, none⟩ = some (.slice B ms.length d) := by go_simp
    clear b00
    cases fr
    case' false => obtain ⟨f, hf⟩ : ∃ f : Int, f = 0 := ⟨_, rfl⟩
    case' true => obtain ⟨f, hf⟩ : ∃ f : Int, f = 1 := ⟨_, rfl⟩
    case false =>
      have HF := hid hf
      clear hf
      go_enter Try.func18, Try.ntmps18
      go_wp2_with fail
      refine HMAY.out.mono ?_
      rintro e w1 ⟨rfl, b1⟩
      have q0 := keepb b1 q0
      have q1 := keepb b1 q1
      have q2 := keepb b1 q2
      have q3 := keepb b1 q3
      have q4 := keepb b1 q4
      have HB1 := hid (bT HB0.out b1)
      have hz1 : w.heap.size + 1 ≤ w1.heap.size := by have := b1.size; simpa using this
      have HLT := hid (World.ownsRow_lit (base := w1.heap.size) (e := 3) (size := 1) w1 #[.int .i64 st, .int .i64 ph, .int .i64 0, .int .i64 vs.length] 4 (Nat.le_refl _) (by simp [maxLen]) rfl)
      have HLU := hid (World.ownsRow_lit (base := w1.heap.size) (e := 3) (size := 1) w1 #[.int .i64 st, .int .i64 ph, .int .i64 1, .int .i64 vs.length] 4 (Nat.le_refl _) (by simp [maxLen]) rfl)
      have q2a := keepb (bA (Below.refl w1.heap.size w1) (.cells #[.int .i64 st, .int .i64 ph, .int .i64 0, .int .i64 vs.length] 3)) q2
      have q3a := keepb (bA (Below.refl w1.heap.size w1) (.cells #[.int .i64 st, .int .i64 ph, .int .i64 0, .int .i64 vs.length] 3)) q3
      have q4a := keepb (bA (Below.refl w1.heap.size w1) (.cells #[.int .i64 st, .int .i64 ph, .int .i64 0, .int .i64 vs.length] 3)) q4
      go_wp2_with fail
      go_loopw [4, 5] (fun s i wr => NRel w1.heap.size [st, ph, f, (vs.length : Int)] numsV vs w1 s i wr) (fun _ i _ => vs.length - (intOf i).toNat)
      case atStart =>
        refine ⟨0, 4, _, _, by omega, rfl, rfl, rfl, hid ?_, ?_⟩
        · rw [HF.out]
          first
          | exact HLT.out
          | exact HLU.out
        · exact bA (Below.refl _ _) _
      case round =>
        have q4w := q4
        clear q0 q1 q2 q2a q3a q4a HLT HLU
        obtain ⟨k, N, A4, c4, hkl, rfl, hN, rfl, HOWN, hbel⟩ := hrel
        have HN := hid hN
        have hN2 : N ≤ 20000 := by simp only [List.length_cons, List.length_nil] at hN; omega
        clear hN
        have hb0 := bT HB1.out hbel
        have q3 := keepb hbel q3
        have q4 := keepb hbel q4
        have hsz := hbel.size
        by_cases hlt : k < vs.length
        · obtain ⟨x, hx⟩ : ∃ x, vs[k]? = some x := ⟨_, List.getElem?_eq_getElem hlt⟩
          obtain ⟨b, off, rfl, hb, c0, c1⟩ := vals_cells (hv.below hb0) rfl hx
          have hkz : (k : Int) < (vs.length : Int) := by omega
          have hox := HO5.out x (List.mem_of_getElem? hx)
          obtain ⟨xa, xl⟩ := x
          obtain ⟨⟨h1, h2⟩, h3, h4⟩ := hox
          simp only at c0 c1 h1 h2 h3 h4
          have HT : Hid (numsV (vs.take (k + 1)) = numsV (vs.take k) ++ [xa + 1, xl + 1]) := hid (by rw [take_nextV hx, numsV_snoc])
          have hw1 : IntKind.i64.wrap (xa + 1) = xa + 1 := IntWalk.i64_in _ (by omega)
          have hw2 : IntKind.i64.wrap (xl + 1) = xl + 1 := IntWalk.i64_in _ (by omega)
          have hSZ : (N + 2) * 8 ≤ 140737488355328 := by omega
          clear hx h1 h2 h3 h4 hb0
          have HK : Hid (∀ V, Below wr.heap.size wr V → ((fun V => Below wr.heap.size wr V ∧ V.cell? ⟨w.heap.size, 3, none⟩ = some (.slice (some ⟨b, off, none⟩) vs.length c) ∧ V.cell? ⟨b, off + k * 2, none⟩ = some (.int .i64 xa) ∧ V.cell? ⟨b, off + k * 2 + 1, none⟩ = some (.int .i64 xl)) : World → Prop) V) := hid fun V hV => ⟨hV, keepb hV q3, keepb hV c0, keepb hV c1⟩
          go_wp2_with fail
          refine wp_region_F (S := (fun V => Below wr.heap.size wr V ∧ V.cell? ⟨w.heap.size, 3, none⟩ = some (.slice (some ⟨b, off, none⟩) vs.length c) ∧ V.cell? ⟨b, off + k * 2, none⟩ = some (.int .i64 xa) ∧ V.cell? ⟨b, off + k * 2 + 1, none⟩ = some (.int .i64 xl))) [16] (by kernel_rfl) (HK.out _ (bD (Below.refl _ _))) (fun hHeld => ?_)
          refine wpAnyF_pure (i := 0) (v := ?vg1_1_0) rfl (by kernel_rfl) (by kernel_rfl) (by kernel_rfl) (fun _ _ _ h => h) (Or.inl ⟨by rfl, ?hyg1_1_0⟩) ?restg1_1_0
          case hyg1_1_0 => (intro w hSw; clear hSw; go_simp; (all_goals with_reducible rfl))
          try simp only [Act.put, List.setIfInBounds_toArray, List.set_cons_zero, List.set_cons_succ, List.getElem_toArray, List.getElem_cons_succ, List.getElem_cons_zero]
          refine wpAnyF_pure (i := 1) (v := ?vg1_2_1) rfl (by kernel_rfl) (by kernel_rfl) (by kernel_rfl) (fun _ _ _ h => h) (Or.inl ⟨by rfl, ?hyg1_2_1⟩) ?restg1_2_1
          case hyg1_2_1 => (intro w hSw; clear hSw; go_simp; (all_goals with_reducible rfl))
          try simp only [Act.put, List.setIfInBounds_toArray, List.set_cons_zero, List.set_cons_succ, List.getElem_toArray, List.getElem_cons_succ, List.getElem_cons_zero]
          refine wpAnyF_pure (i := 3) (v := ?vg1_3_3) rfl (by kernel_rfl) (by kernel_rfl) (by kernel_rfl) (fun _ _ _ h => h) (Or.inl ⟨by rfl, ?hyg1_3_3⟩) ?restg1_3_3
          case hyg1_3_3 => (intro w hSw; clear hSw; go_simp; (all_goals with_reducible rfl))
          try simp only [Act.put, List.setIfInBounds_toArray, List.set_cons_zero, List.set_cons_succ, List.getElem_toArray, List.getElem_cons_succ, List.getElem_cons_zero]
          refine wpAnyF_pure (i := 8) (v := ?vg1_4_8) rfl (by kernel_rfl) (by kernel_rfl) (by kernel_rfl) (fun _ _ _ h => h) (Or.inl ⟨by rfl, ?hyg1_4_8⟩) ?restg1_4_8
          case hyg1_4_8 => (intro w hSw; clear hSw; go_simp; (all_goals with_reducible rfl))
          try simp only [Act.put, List.setIfInBounds_toArray, List.set_cons_zero, List.set_cons_succ, List.getElem_toArray, List.getElem_cons_succ, List.getElem_cons_zero]
          refine wpAnyF_pure (i := 10) (v := ?vg1_5_10) rfl (by kernel_rfl) (by kernel_rfl) (by kernel_rfl) (fun _ _ _ h => h) (Or.inl ⟨by rfl, ?hyg1_5_10⟩) ?restg1_5_10
          case hyg1_5_10 => (intro w hSw; clear hSw; go_simp; (all_goals with_reducible rfl))
          try simp only [Act.put, List.setIfInBounds_toArray, List.set_cons_zero, List.set_cons_succ, List.getElem_toArray, List.getElem_cons_succ, List.getElem_cons_zero]
          refine wpAnyF_take [4, 5, 6, 7, 15, 16, 17] (i := 2) (v := ?vg1_6_2) rfl (by kernel_rfl) (by kernel_rfl) (by kernel_rfl) (by kernel_rfl) (fun _ _ _ h => h) (Or.inl ⟨by rfl, ?hyg1_6_2⟩) (by assumption) ?restg1_6_2
          case hyg1_6_2 => (intro w hSw; (try dsimp only at hSw); go_simp; (all_goals with_reducible rfl))
          try simp only [Act.put, List.setIfInBounds_toArray, List.set_cons_zero, List.set_cons_succ, List.getElem_toArray, List.getElem_cons_succ, List.getElem_cons_zero]
          refine wpAnyF_pure (i := 4) (v := ?vg1_7_4) rfl (by kernel_rfl) (by kernel_rfl) (by kernel_rfl) (fun _ _ _ h => h) (Or.inl ⟨by rfl, ?hyg1_7_4⟩) ?restg1_7_4
          case hyg1_7_4 => (intro w hSw; clear hSw; go_simp; (all_goals with_reducible rfl))
          try simp only [Act.put, List.setIfInBounds_toArray, List.set_cons_zero, List.set_cons_succ, List.getElem_toArray, List.getElem_cons_succ, List.getElem_cons_zero]
          refine wpAnyF_pure (i := 5) (v := ?vg1_8_5) rfl (by kernel_rfl) (by kernel_rfl) (by kernel_rfl) (fun _ _ _ h => h) (Or.inl ⟨by rfl, ?hyg1_8_5⟩) ?restg1_8_5
          case hyg1_8_5 => (intro w hSw; clear hSw; go_simp; (all_goals with_reducible rfl))
          try simp only [Act.put, List.setIfInBounds_toArray, List.set_cons_zero, List.set_cons_succ, List.getElem_toArray, List.getElem_cons_succ, List.getElem_cons_zero]
          refine wpAnyF_take [7, 15, 16, 17] (i := 6) (v := ?vg1_9_6) rfl (by kernel_rfl) (by kernel_rfl) (by kernel_rfl) (by kernel_rfl) (fun _ _ _ h => h) (Or.inl ⟨by rfl, ?hyg1_9_6⟩) (by assumption) ?restg1_9_6
          case hyg1_9_6 => (intro w hSw; (try dsimp only at hSw); go_simp; (all_goals with_reducible rfl))
          try simp only [Act.put, List.setIfInBounds_toArray, List.set_cons_zero, List.set_cons_succ, List.getElem_toArray, List.getElem_cons_succ, List.getElem_cons_zero]
          refine wpAnyF_pure (i := 7) (v := ?vg1_10_7) rfl (by kernel_rfl) (by kernel_rfl) (by kernel_rfl) (fun _ _ _ h => h) (Or.inl ⟨by rfl, ?hyg1_10_7⟩) ?restg1_10_7
          case hyg1_10_7 => (intro w hSw; clear hSw; go_simp; (all_goals with_reducible rfl))
          try simp only [Act.put, List.setIfInBounds_toArray, List.set_cons_zero, List.set_cons_succ, List.getElem_toArray, List.getElem_cons_succ, List.getElem_cons_zero]
          refine wpAnyF_take [11, 12, 13, 14, 15, 16, 17] (i := 9) (v := ?vg1_11_9) rfl (by kernel_rfl) (by kernel_rfl) (by kernel_rfl) (by kernel_rfl) (fun _ _ _ h => h) (Or.inl ⟨by rfl, ?hyg1_11_9⟩) (by assumption) ?restg1_11_9
          case hyg1_11_9 => (intro w hSw; (try dsimp only at hSw); go_simp; (all_goals with_reducible rfl))
          try simp only [Act.put, List.setIfInBounds_toArray, List.set_cons_zero, List.set_cons_succ, List.getElem_toArray, List.getElem_cons_succ, List.getElem_cons_zero]
          refine wpAnyF_pure (i := 11) (v := ?vg1_12_11) rfl (by kernel_rfl) (by kernel_rfl) (by kernel_rfl) (fun _ _ _ h => h) (Or.inl ⟨by rfl, ?hyg1_12_11⟩) ?restg1_12_11
          case hyg1_12_11 => (intro w hSw; clear hSw; go_simp; (all_goals with_reducible rfl))
          try simp only [Act.put, List.setIfInBounds_toArray, List.set_cons_zero, List.set_cons_succ, List.getElem_toArray, List.getElem_cons_succ, List.getElem_cons_zero]
          refine wpAnyF_pure (i := 12) (v := ?vg1_13_12) rfl (by kernel_rfl) (by kernel_rfl) (by kernel_rfl) (fun _ _ _ h => h) (Or.inl ⟨by rfl, ?hyg1_13_12⟩) ?restg1_13_12
          case hyg1_13_12 => (intro w hSw; clear hSw; go_simp; (all_goals with_reducible rfl))
          try simp only [Act.put, List.setIfInBounds_toArray, List.set_cons_zero, List.set_cons_succ, List.getElem_toArray, List.getElem_cons_succ, List.getElem_cons_zero]
          refine wpAnyF_take [14, 15, 16, 17] (i := 13) (v := ?vg1_14_13) rfl (by kernel_rfl) (by kernel_rfl) (by kernel_rfl) (by kernel_rfl) (fun _ _ _ h => h) (Or.inl ⟨by rfl, ?hyg1_14_13⟩) (by assumption) ?restg1_14_13
          case hyg1_14_13 => (intro w hSw; (try dsimp only at hSw); go_simp; (all_goals with_reducible rfl))
          try simp only [Act.put, List.setIfInBounds_toArray, List.set_cons_zero, List.set_cons_succ, List.getElem_toArray, List.getElem_cons_succ, List.getElem_cons_zero]
          refine wpAnyF_pure (i := 14) (v := ?vg1_15_14) rfl (by kernel_rfl) (by kernel_rfl) (by kernel_rfl) (fun _ _ _ h => h) (Or.inl ⟨by rfl, ?hyg1_15_14⟩) ?restg1_15_14
          case hyg1_15_14 => (intro w hSw; clear hSw; go_simp; (all_goals with_reducible rfl))
          try simp only [Act.put, List.setIfInBounds_toArray, List.set_cons_zero, List.set_cons_succ, List.getElem_toArray, List.getElem_cons_succ, List.getElem_cons_zero]
          refine wpAnyF_one (i := 15) (by kernel_rfl) rfl (fun K hK => ?_)
          go_simp
          refine hK.out _ _ (HK.out _ (bD (bA (Below.refl _ _) _))) (fun hHeld => ?_)
          clear hK K
          try simp only [Act.put, List.setIfInBounds_toArray, List.set_cons_zero, List.set_cons_succ, List.getElem_toArray, List.getElem_cons_succ, List.getElem_cons_zero]
          refine wpAnyF_oneD (i := 16) (by kernel_rfl) (by kernel_rfl) rfl (fun K hK => ?_)
          refine step_app3 rfl rfl el_ints rfl (own_below HOWN.out hHeld.1 (Nat.le_refl _)) rfl (rd_newAt _ _ _ 1 2 _ (by simp) rfl).drew (two_ints _ _) hSZ (by have := hHeld.1.size; omega) ?_
          intro A3 c3 w3 o3 b3 g3 h3
          have HO3 := hid o3
          have HB3 := hid b3
          have HB4 := hid hHeld.1
          clear o3 g3 h3 b3
          refine hK.out _ _ ?_
          clear hK K
          try simp only [Act.put, List.setIfInBounds_toArray, List.set_cons_zero, List.set_cons_succ, List.getElem_toArray, List.getElem_cons_succ, List.getElem_cons_zero]
          refine wpAnyF_pure (i := 17) (v := ?vg1_18_17) rfl (by kernel_rfl) (by kernel_rfl) (by kernel_rfl) (fun _ _ _ h => h) (Or.inl ⟨by rfl, ?hyg1_18_17⟩) ?restg1_18_17
          case hyg1_18_17 => (intro w hSw; clear hSw; go_simp; (all_goals with_reducible rfl))
          try simp only [Act.put, List.setIfInBounds_toArray, List.set_cons_zero, List.set_cons_succ, List.getElem_toArray, List.getElem_cons_succ, List.getElem_cons_zero]
          refine wpAnyF_done (by kernel_rfl) ?_ _
          go_wp2_with fail
          go_roundw
          case rel => exact ⟨k + 1, N + 2, A3, c3, by omega, by go_num, by have := HN.out; omega, rfl, hid (by rw [HT.out, ← List.append_assoc, List.flatMap_append]; exact HO3.out), (bT hbel HB4.out).trans (HB3.out.mono (by omega))⟩
          case measure => simp [intOf]; omega
        · obtain rfl : k = vs.length := by omega
          have hkz : ¬ ((vs.length : Int) < (vs.length : Int)) := by omega
          rw [List.take_length] at HOWN
          have hSZ : (N + 1) * 8 ≤ 140737488355328 := by omega
          go_wp2_with (at_builtin; refine wp_app3 _ rfl rfl el_ints rfl (own_below HOWN.out (bA (Below.refl _ _) _) (Nat.le_refl _)) rfl (rd_new _ _ _ 1 1 rfl) (one1 _ _) hSZ (Nat.le_trans hsz (by simp)) ?_; intro A5 c5 w5 o5 b5 g5 h5)
          have HO5' := hid o5
          have HB5 := hid ((hbel.trans (bA (Below.refl wr.heap.size wr) _ |>.mono hsz)).trans b5)
          have q4b := keepb HB5.out q4w
          have HN5 : Hid (([st, ph, f, (vs.length : Int)] ++ numsV vs ++ [(ms.length : Int)]).length = N + 1) := hid (by have := HN.out; rw [List.length_append, List.length_append, numsV_len]; simp only [List.length_cons, List.length_nil] at *; omega)
          clear q3 o5 b5 g5 h5 HOWN hbel hb0 hkz
          have q4 := q4b
          go_wp2_with fail
          go_loopw [4, 6] (fun s i wr => NRel w1.heap.size ([st, ph, f, (vs.length : Int)] ++ numsV vs ++ [(ms.length : Int)]) numsM ms w1 s i wr) (fun _ i _ => ms.length - (intOf i).toNat)
          case atStart => exact ⟨0, N + 1, _, _, by omega, rfl, by rw [HN5.out], rfl, hid (by rw [List.take_zero, show numsM [] = [] from rfl, List.append_nil, List.flatMap_append]; exact HO5'.out), HB5.out⟩
          case round =>
            clear HO5' HB5 HN q4
            obtain ⟨m, N2, A4, c4, hml, rfl, hN, rfl, HOWN, hbel⟩ := hrel
            rw [HN5.out] at hN
            have HN2 := hid hN
            have hN3 : N2 ≤ 40000 := by omega
            clear hN hSZ
            have hb0 := bT HB1.out hbel
            have q4 := keepb hbel q4w
            have hsz := hbel.size
            by_cases hlm : m < ms.length
            · obtain ⟨x, hx⟩ : ∃ x, ms[m]? = some x := ⟨_, List.getElem?_eq_getElem hlm⟩
              obtain ⟨b, off, rfl, hb, c0, c1⟩ := mail_cells (hm.below hb0) rfl hx
              have hmz : (m : Int) < (ms.length : Int) := by omega
              obtain ⟨xa, xl⟩ := x
              simp only at c0 c1
              have HT : Hid (numsM (ms.take (m + 1)) = numsM (ms.take m) ++ [xa, xl]) := hid (by rw [take_nextV hx, numsM_snoc])
              have hSZ : (N2 + 2) * 8 ≤ 140737488355328 := by omega
              clear hx hb0
              have HK : Hid (∀ V, Below wr.heap.size wr V → ((fun V => Below wr.heap.size wr V ∧ V.cell? ⟨w.heap.size, 4, none⟩ = some (.slice (some ⟨b, off, none⟩) ms.length d) ∧ V.cell? ⟨b, off + m * 2, none⟩ = some (.int .i64 xa) ∧ V.cell? ⟨b, off + m * 2 + 1, none⟩ = some (.int .i64 xl)) : World → Prop) V) := hid fun V hV => ⟨hV, keepb hV q4, keepb hV c0, keepb hV c1⟩
              go_wp2_with fail
              refine wp_region_F (S := (fun V => Below wr.heap.size wr V ∧ V.cell? ⟨w.heap.size, 4, none⟩ = some (.slice (some ⟨b, off, none⟩) ms.length d) ∧ V.cell? ⟨b, off + m * 2, none⟩ = some (.int .i64 xa) ∧ V.cell? ⟨b, off + m * 2 + 1, none⟩ = some (.int .i64 xl))) [14] (by kernel_rfl) (HK.out _ (bD (Below.refl _ _))) (fun hHeld => ?_)
              refine wpAnyF_pure (i := 0) (v := ?vg2_1_0) rfl (by kernel_rfl) (by kernel_rfl) (by kernel_rfl) (fun _ _ _ h => h) (Or.inl ⟨by rfl, ?hyg2_1_0⟩) ?restg2_1_0
              case hyg2_1_0 => (intro w hSw; clear hSw; go_simp; (all_goals with_reducible rfl))
              try simp only [Act.put, List.setIfInBounds_toArray, List.set_cons_zero, List.set_cons_succ, List.getElem_toArray, List.getElem_cons_succ, List.getElem_cons_zero]
              refine wpAnyF_pure (i := 1) (v := ?vg2_2_1) rfl (by kernel_rfl) (by kernel_rfl) (by kernel_rfl) (fun _ _ _ h => h) (Or.inl ⟨by rfl, ?hyg2_2_1⟩) ?restg2_2_1
              case hyg2_2_1 => (intro w hSw; clear hSw; go_simp; (all_goals with_reducible rfl))
              try simp only [Act.put, List.setIfInBounds_toArray, List.set_cons_zero, List.set_cons_succ, List.getElem_toArray, List.getElem_cons_succ, List.getElem_cons_zero]
              refine wpAnyF_pure (i := 3) (v := ?vg2_3_3) rfl (by kernel_rfl) (by kernel_rfl) (by kernel_rfl) (fun _ _ _ h => h) (Or.inl ⟨by rfl, ?hyg2_3_3⟩) ?restg2_3_3
              case hyg2_3_3 => (intro w hSw; clear hSw; go_simp; (all_goals with_reducible rfl))
              try simp only [Act.put, List.setIfInBounds_toArray, List.set_cons_zero, List.set_cons_succ, List.getElem_toArray, List.getElem_cons_succ, List.getElem_cons_zero]
              refine wpAnyF_pure (i := 7) (v := ?vg2_4_7) rfl (by kernel_rfl) (by kernel_rfl) (by kernel_rfl) (fun _ _ _ h => h) (Or.inl ⟨by rfl, ?hyg2_4_7⟩) ?restg2_4_7
              case hyg2_4_7 => (intro w hSw; clear hSw; go_simp; (all_goals with_reducible rfl))
              try simp only [Act.put, List.setIfInBounds_toArray, List.set_cons_zero, List.set_cons_succ, List.getElem_toArray, List.getElem_cons_succ, List.getElem_cons_zero]
              refine wpAnyF_pure (i := 9) (v := ?vg2_5_9) rfl (by kernel_rfl) (by kernel_rfl) (by kernel_rfl) (fun _ _ _ h => h) (Or.inl ⟨by rfl, ?hyg2_5_9⟩) ?restg2_5_9
              case hyg2_5_9 => (intro w hSw; clear hSw; go_simp; (all_goals with_reducible rfl))
              try simp only [Act.put, List.setIfInBounds_toArray, List.set_cons_zero, List.set_cons_succ, List.getElem_toArray, List.getElem_cons_succ, List.getElem_cons_zero]
              refine wpAnyF_take [4, 5, 6, 13, 14, 15] (i := 2) (v := ?vg2_6_2) rfl (by kernel_rfl) (by kernel_rfl) (by kernel_rfl) (by kernel_rfl) (fun _ _ _ h => h) (Or.inl ⟨by rfl, ?hyg2_6_2⟩) (by assumption) ?restg2_6_2
              case hyg2_6_2 => (intro w hSw; (try dsimp only at hSw); go_simp; (all_goals with_reducible rfl))
              try simp only [Act.put, List.setIfInBounds_toArray, List.set_cons_zero, List.set_cons_succ, List.getElem_toArray, List.getElem_cons_succ, List.getElem_cons_zero]
              refine wpAnyF_pure (i := 4) (v := ?vg2_7_4) rfl (by kernel_rfl) (by kernel_rfl) (by kernel_rfl) (fun _ _ _ h => h) (Or.inl ⟨by rfl, ?hyg2_7_4⟩) ?restg2_7_4
              case hyg2_7_4 => (intro w hSw; clear hSw; go_simp; (all_goals with_reducible rfl))
              try simp only [Act.put, List.setIfInBounds_toArray, List.set_cons_zero, List.set_cons_succ, List.getElem_toArray, List.getElem_cons_succ, List.getElem_cons_zero]
              refine wpAnyF_pure (i := 5) (v := ?vg2_8_5) rfl (by kernel_rfl) (by kernel_rfl) (by kernel_rfl) (fun _ _ _ h => h) (Or.inl ⟨by rfl, ?hyg2_8_5⟩) ?restg2_8_5
              case hyg2_8_5 => (intro w hSw; clear hSw; go_simp; (all_goals with_reducible rfl))
              try simp only [Act.put, List.setIfInBounds_toArray, List.set_cons_zero, List.set_cons_succ, List.getElem_toArray, List.getElem_cons_succ, List.getElem_cons_zero]
              refine wpAnyF_take [13, 14, 15] (i := 6) (v := ?vg2_9_6) rfl (by kernel_rfl) (by kernel_rfl) (by kernel_rfl) (by kernel_rfl) (fun _ _ _ h => h) (Or.inl ⟨by rfl, ?hyg2_9_6⟩) (by assumption) ?restg2_9_6
              case hyg2_9_6 => (intro w hSw; (try dsimp only at hSw); go_simp; (all_goals with_reducible rfl))
              try simp only [Act.put, List.setIfInBounds_toArray, List.set_cons_zero, List.set_cons_succ, List.getElem_toArray, List.getElem_cons_succ, List.getElem_cons_zero]
              refine wpAnyF_take [10, 11, 12, 13, 14, 15] (i := 8) (v := ?vg2_10_8) rfl (by kernel_rfl) (by kernel_rfl) (by kernel_rfl) (by kernel_rfl) (fun _ _ _ h => h) (Or.inl ⟨by rfl, ?hyg2_10_8⟩) (by assumption) ?restg2_10_8
              case hyg2_10_8 => (intro w hSw; (try dsimp only at hSw); go_simp; (all_goals with_reducible rfl))
              try simp only [Act.put, List.setIfInBounds_toArray, List.set_cons_zero, List.set_cons_succ, List.getElem_toArray, List.getElem_cons_succ, List.getElem_cons_zero]
              refine wpAnyF_pure (i := 10) (v := ?vg2_11_10) rfl (by kernel_rfl) (by kernel_rfl) (by kernel_rfl) (fun _ _ _ h => h) (Or.inl ⟨by rfl, ?hyg2_11_10⟩) ?restg2_11_10
              case hyg2_11_10 => (intro w hSw; clear hSw; go_simp; (all_goals with_reducible rfl))
              try simp only [Act.put, List.setIfInBounds_toArray, List.set_cons_zero, List.set_cons_succ, List.getElem_toArray, List.getElem_cons_succ, List.getElem_cons_zero]
              refine wpAnyF_pure (i := 11) (v := ?vg2_12_11) rfl (by kernel_rfl) (by kernel_rfl) (by kernel_rfl) (fun _ _ _ h => h) (Or.inl ⟨by rfl, ?hyg2_12_11⟩) ?restg2_12_11
              case hyg2_12_11 => (intro w hSw; clear hSw; go_simp; (all_goals with_reducible rfl))
              try simp only [Act.put, List.setIfInBounds_toArray, List.set_cons_zero, List.set_cons_succ, List.getElem_toArray, List.getElem_cons_succ, List.getElem_cons_zero]
              refine wpAnyF_take [13, 14, 15] (i := 12) (v := ?vg2_13_12) rfl (by kernel_rfl) (by kernel_rfl) (by kernel_rfl) (by kernel_rfl) (fun _ _ _ h => h) (Or.inl ⟨by rfl, ?hyg2_13_12⟩) (by assumption) ?restg2_13_12
              case hyg2_13_12 => (intro w hSw; (try dsimp only at hSw); go_simp; (all_goals with_reducible rfl))
              try simp only [Act.put, List.setIfInBounds_toArray, List.set_cons_zero, List.set_cons_succ, List.getElem_toArray, List.getElem_cons_succ, List.getElem_cons_zero]
              refine wpAnyF_one (i := 13) (by kernel_rfl) rfl (fun K hK => ?_)
              go_simp
              refine hK.out _ _ (HK.out _ (bD (bA (Below.refl _ _) _))) (fun hHeld => ?_)
              clear hK K
              try simp only [Act.put, List.setIfInBounds_toArray, List.set_cons_zero, List.set_cons_succ, List.getElem_toArray, List.getElem_cons_succ, List.getElem_cons_zero]
              refine wpAnyF_oneD (i := 14) (by kernel_rfl) (by kernel_rfl) rfl (fun K hK => ?_)
              refine step_app3 rfl rfl el_ints rfl (own_below HOWN.out hHeld.1 (Nat.le_refl _)) rfl (rd_newAt _ _ _ 1 2 _ (by simp) rfl).drew (two_ints _ _) hSZ (by have := hHeld.1.size; omega) ?_
              intro A3 c3 w3 o3 b3 g3 h3
              have HO3 := hid o3
              have HB3 := hid b3
              have HB4 := hid hHeld.1
              clear o3 g3 h3 b3
              refine hK.out _ _ ?_
              clear hK K
              try simp only [Act.put, List.setIfInBounds_toArray, List.set_cons_zero, List.set_cons_succ, List.getElem_toArray, List.getElem_cons_succ, List.getElem_cons_zero]
              refine wpAnyF_pure (i := 15) (v := ?vg2_16_15) rfl (by kernel_rfl) (by kernel_rfl) (by kernel_rfl) (fun _ _ _ h => h) (Or.inl ⟨by rfl, ?hyg2_16_15⟩) ?restg2_16_15
              case hyg2_16_15 => (intro w hSw; clear hSw; go_simp; (all_goals with_reducible rfl))
              try simp only [Act.put, List.setIfInBounds_toArray, List.set_cons_zero, List.set_cons_succ, List.getElem_toArray, List.getElem_cons_succ, List.getElem_cons_zero]
              refine wpAnyF_done (by kernel_rfl) ?_ _
              go_wp2_with fail
              go_roundw
              case rel => exact ⟨m + 1, N2 + 2, A3, c3, by omega, by go_num, by rw [HN5.out]; have := HN2.out; omega, rfl, hid (by rw [HT.out, ← List.append_assoc, List.flatMap_append]; exact HO3.out), (bT hbel HB4.out).trans (HB3.out.mono (by omega))⟩
              case measure => simp [intOf]; omega
            · obtain rfl : m = ms.length := by omega
              have hmz : ¬ ((ms.length : Int) < (ms.length : Int)) := by omega
              rw [List.take_length] at HOWN
              have HLN : Hid (NS.length = N2) := hid (by have h1 := HN2.out; have h2 := HNL.out; have h3 := HN5.out; rw [List.length_append, List.length_append, numsV_len] at h3; simp only [List.length_cons, List.length_nil] at *; omega)
              have hE : NS = [st, ph, f, (vs.length : Int)] ++ numsV vs ++ [(ms.length : Int)] ++ numsM ms := by rw [HNS.out, HF.out]; rfl
              have HON : Hid (wr.ownsRow w1.heap.size 3 1 (.slice A4 N2 c4) N2 (NS.flatMap i64c)) := hid (by have h := HOWN.out; rw [← hE] at h; exact h)
              clear hE
              clear HOWN HN2 HN5 HNS q4w
              have HRD := hid (rd_own HON.out)
              clear HON
              go_wp2_with fail
              go_loopw [7, 8] (fun s i wp => BRel NS wr s i wp) (fun _ i _ => NS.length - (intOf i).toNat)
              case atStart => exact ⟨0, none, 0, by omega, rfl, rfl, hid (World.ownsRow_nil _ _ _ _), Below.refl _ _⟩
              case round =>
                obtain ⟨j, A6, c6, hj, rfl, rfl, HOB, hbb⟩ := hrel
                have hb1 := bT hb0 hbb
                have hsz6 := hbb.size
                have hjN : j ≤ N2 := by have := HLN.out; omega
                by_cases hlj : j < N2
                · obtain ⟨x, hx⟩ : ∃ x, NS[j]? = some x := ⟨_, List.getElem?_eq_getElem (by have := HLN.out; omega)⟩
                  obtain ⟨b, off, rfl, hb, hcs⟩ := (HRD.out.below hbb).at_ hlj
                  have cx := hcs _ _ (flat_i64_get hx)
                  have hjz : (j : Int) < (N2 : Int) := by omega
                  have hx0 := HU.out x (List.mem_of_getElem? hx)
                  have HPUT := hid (fun W => packed_any x hx0.1 (by omega) W)
                  have hwx : IntKind.u64.wrap x = x := IntWalk.u64_in _ (by omega)
                  have HPN : Hid (packs (NS.take (j + 1)) = packs (NS.take j) ++ pack x) := hid (by rw [take_nextV hx, packs_append, packs_one])
                  have hSZ : ((packs (NS.take j)).length + (pack x).length) * 1 ≤ 140737488355328 := by
                    have h1 := HNP.out j
                    have h2 := (pack_len x).1
                    rw [List.length_take] at h1
                    omega
                  clear hx hx0 hcs
                  go_wp2_with fail
                  refine (HPUT.out _).mono ?_
                  rintro e w7 ⟨A7, c7, rfl, o7, b7⟩
                  have HO7 := hid o7
                  clear o7
                  go_wp2_with (at_builtin; refine wp_app3 _ rfl rfl el_bytes rfl (own_below HOB.out b7 (Nat.le_refl _)) rfl (rd_own HO7.out) (one_u8 _) hSZ (Nat.le_trans hsz6 b7.size) ?_; intro A8 c8 w8 o8 b8 g8 h8)
                  have HO8 := hid o8
                  clear o8 g8 h8
                  go_wp2_with fail
                  go_roundw
                  case rel => exact ⟨j + 1, A8, c8, by have := HLN.out; omega, by go_num, by rw [HPN.out, List.length_append], hid (by rw [HPN.out, List.length_append, List.flatMap_append]; exact HO8.out), (bT hbb b7).trans b8⟩
                  case measure => simp [intOf]; have := HLN.out; omega
                · obtain rfl : j = N2 := by omega
                  have hjz : ¬ ((j : Int) < (j : Int)) := by omega
                  have e1 : packs (NS.take j) = P := by rw [← HLN.out, List.take_length, HP.out]
                  rw [e1] at HOB
                  rw [e1]
                  have HWR := hid (wrapped_walk P wr A6 P.length c6 (rd_own HOB.out) rfl HPB.out (by have := HPL.out; have := HNL.out; omega))
                  clear e1
                  go_wp2_with fail
                  refine HWR.out.mono ?_
                  rintro e w9 ⟨A9, c9, rfl, o9, b9⟩
                  have HO9 := hid o9
                  clear o9
                  go_wp2_with fail
                  go_ret2
                  exact ⟨A9, c9, rfl, own_more HO9.out hb1.size, bT hb1 b9⟩
    case true =>
      have HF := hid hf
      clear hf
      go_enter Try.func18, Try.ntmps18
      go_wp2_with fail
      refine HMAY.out.mono ?_
      rintro e w1 ⟨rfl, b1⟩
      have q0 := keepb b1 q0
      have q1 := keepb b1 q1
      have q2 := keepb b1 q2
      have q3 := keepb b1 q3
      have q4 := keepb b1 q4
      have HB1 := hid (bT HB0.out b1)
      have hz1 : w.heap.size + 1 ≤ w1.heap.size := by have := b1.size; simpa using this
      have HLT := hid (World.ownsRow_lit (base := w1.heap.size) (e := 3) (size := 1) w1 #[.int .i64 st, .int .i64 ph, .int .i64 0, .int .i64 vs.length] 4 (Nat.le_refl _) (by simp [maxLen]) rfl)
      have HLU := hid (World.ownsRow_lit (base := w1.heap.size) (e := 3) (size := 1) w1 #[.int .i64 st, .int .i64 ph, .int .i64 1, .int .i64 vs.length] 4 (Nat.le_refl _) (by simp [maxLen]) rfl)
      have q2a := keepb (bA (Below.refl w1.heap.size w1) (.cells #[.int .i64 st, .int .i64 ph, .int .i64 0, .int .i64 vs.length] 3)) q2
      have q3a := keepb (bA (Below.refl w1.heap.size w1) (.cells #[.int .i64 st, .int .i64 ph, .int .i64 0, .int .i64 vs.length] 3)) q3
      have q4a := keepb (bA (Below.refl w1.heap.size w1) (.cells #[.int .i64 st, .int .i64 ph, .int .i64 0, .int .i64 vs.length] 3)) q4
      go_wp2_with fail
      go_loopw [4, 5] (fun s i wr => NRel w1.heap.size [st, ph, f, (vs.length : Int)] numsV vs w1 s i wr) (fun _ i _ => vs.length - (intOf i).toNat)
      case atStart =>
        refine ⟨0, 4, _, _, by omega, rfl, rfl, rfl, hid ?_, ?_⟩
        · rw [HF.out]
          first
          | exact HLT.out
          | exact HLU.out
        · exact bA (Below.refl _ _) _
      case round =>
        have q4w := q4
        clear q0 q1 q2 q2a q3a q4a HLT HLU
        obtain ⟨k, N, A4, c4, hkl, rfl, hN, rfl, HOWN, hbel⟩ := hrel
        have HN := hid hN
        have hN2 : N ≤ 20000 := by simp only [List.length_cons, List.length_nil] at hN; omega
        clear hN
        have hb0 := bT HB1.out hbel
        have q3 := keepb hbel q3
        have q4 := keepb hbel q4
        have hsz := hbel.size
        by_cases hlt : k < vs.length
        · obtain ⟨x, hx⟩ : ∃ x, vs[k]? = some x := ⟨_, List.getElem?_eq_getElem hlt⟩
          obtain ⟨b, off, rfl, hb, c0, c1⟩ := vals_cells (hv.below hb0) rfl hx
          have hkz : (k : Int) < (vs.length : Int) := by omega
          have hox := HO5.out x (List.mem_of_getElem? hx)
          obtain ⟨xa, xl⟩ := x
          obtain ⟨⟨h1, h2⟩, h3, h4⟩ := hox
          simp only at c0 c1 h1 h2 h3 h4
          have HT : Hid (numsV (vs.take (k + 1)) = numsV (vs.take k) ++ [xa + 1, xl + 1]) := hid (by rw [take_nextV hx, numsV_snoc])
          have hw1 : IntKind.i64.wrap (xa + 1) = xa + 1 := IntWalk.i64_in _ (by omega)
          have hw2 : IntKind.i64.wrap (xl + 1) = xl + 1 := IntWalk.i64_in _ (by omega)
          have hSZ : (N + 2) * 8 ≤ 140737488355328 := by omega
          clear hx h1 h2 h3 h4 hb0
          have HK : Hid (∀ V, Below wr.heap.size wr V → ((fun V => Below wr.heap.size wr V ∧ V.cell? ⟨w.heap.size, 3, none⟩ = some (.slice (some ⟨b, off, none⟩) vs.length c) ∧ V.cell? ⟨b, off + k * 2, none⟩ = some (.int .i64 xa) ∧ V.cell? ⟨b, off + k * 2 + 1, none⟩ = some (.int .i64 xl)) : World → Prop) V) := hid fun V hV => ⟨hV, keepb hV q3, keepb hV c0, keepb hV c1⟩
          go_wp2_with fail
          refine wp_region_F (S := (fun V => Below wr.heap.size wr V ∧ V.cell? ⟨w.heap.size, 3, none⟩ = some (.slice (some ⟨b, off, none⟩) vs.length c) ∧ V.cell? ⟨b, off + k * 2, none⟩ = some (.int .i64 xa) ∧ V.cell? ⟨b, off + k * 2 + 1, none⟩ = some (.int .i64 xl))) [16] (by kernel_rfl) (HK.out _ (bD (Below.refl _ _))) (fun hHeld => ?_)
          refine wpAnyF_pure (i := 0) (v := ?vg3_1_0) rfl (by kernel_rfl) (by kernel_rfl) (by kernel_rfl) (fun _ _ _ h => h) (Or.inl ⟨by rfl, ?hyg3_1_0⟩) ?restg3_1_0
          case hyg3_1_0 => (intro w hSw; clear hSw; go_simp; (all_goals with_reducible rfl))
          try simp only [Act.put, List.setIfInBounds_toArray, List.set_cons_zero, List.set_cons_succ, List.getElem_toArray, List.getElem_cons_succ, List.getElem_cons_zero]
          refine wpAnyF_pure (i := 1) (v := ?vg3_2_1) rfl (by kernel_rfl) (by kernel_rfl) (by kernel_rfl) (fun _ _ _ h => h) (Or.inl ⟨by rfl, ?hyg3_2_1⟩) ?restg3_2_1
          case hyg3_2_1 => (intro w hSw; clear hSw; go_simp; (all_goals with_reducible rfl))
          try simp only [Act.put, List.setIfInBounds_toArray, List.set_cons_zero, List.set_cons_succ, List.getElem_toArray, List.getElem_cons_succ, List.getElem_cons_zero]
          refine wpAnyF_pure (i := 3) (v := ?vg3_3_3) rfl (by kernel_rfl) (by kernel_rfl) (by kernel_rfl) (fun _ _ _ h => h) (Or.inl ⟨by rfl, ?hyg3_3_3⟩) ?restg3_3_3
          case hyg3_3_3 => (intro w hSw; clear hSw; go_simp; (all_goals with_reducible rfl))
          try simp only [Act.put, List.setIfInBounds_toArray, List.set_cons_zero, List.set_cons_succ, List.getElem_toArray, List.getElem_cons_succ, List.getElem_cons_zero]
          refine wpAnyF_pure (i := 8) (v := ?vg3_4_8) rfl (by kernel_rfl) (by kernel_rfl) (by kernel_rfl) (fun _ _ _ h => h) (Or.inl ⟨by rfl, ?hyg3_4_8⟩) ?restg3_4_8
          case hyg3_4_8 => (intro w hSw; clear hSw; go_simp; (all_goals with_reducible rfl))
          try simp only [Act.put, List.setIfInBounds_toArray, List.set_cons_zero, List.set_cons_succ, List.getElem_toArray, List.getElem_cons_succ, List.getElem_cons_zero]
          refine wpAnyF_pure (i := 10) (v := ?vg3_5_10) rfl (by kernel_rfl) (by kernel_rfl) (by kernel_rfl) (fun _ _ _ h => h) (Or.inl ⟨by rfl, ?hyg3_5_10⟩) ?restg3_5_10
          case hyg3_5_10 => (intro w hSw; clear hSw; go_simp; (all_goals with_reducible rfl))
          try simp only [Act.put, List.setIfInBounds_toArray, List.set_cons_zero, List.set_cons_succ, List.getElem_toArray, List.getElem_cons_succ, List.getElem_cons_zero]
          refine wpAnyF_take [4, 5, 6, 7, 15, 16, 17] (i := 2) (v := ?vg3_6_2) rfl (by kernel_rfl) (by kernel_rfl) (by kernel_rfl) (by kernel_rfl) (fun _ _ _ h => h) (Or.inl ⟨by rfl, ?hyg3_6_2⟩) (by assumption) ?restg3_6_2
          case hyg3_6_2 => (intro w hSw; (try dsimp only at hSw); go_simp; (all_goals with_reducible rfl))
          try simp only [Act.put, List.setIfInBounds_toArray, List.set_cons_zero, List.set_cons_succ, List.getElem_toArray, List.getElem_cons_succ, List.getElem_cons_zero]
          refine wpAnyF_pure (i := 4) (v := ?vg3_7_4) rfl (by kernel_rfl) (by kernel_rfl) (by kernel_rfl) (fun _ _ _ h => h) (Or.inl ⟨by rfl, ?hyg3_7_4⟩) ?restg3_7_4
          case hyg3_7_4 => (intro w hSw; clear hSw; go_simp; (all_goals with_reducible rfl))
          try simp only [Act.put, List.setIfInBounds_toArray, List.set_cons_zero, List.set_cons_succ, List.getElem_toArray, List.getElem_cons_succ, List.getElem_cons_zero]
          refine wpAnyF_pure (i := 5) (v := ?vg3_8_5) rfl (by kernel_rfl) (by kernel_rfl) (by kernel_rfl) (fun _ _ _ h => h) (Or.inl ⟨by rfl, ?hyg3_8_5⟩) ?restg3_8_5
          case hyg3_8_5 => (intro w hSw; clear hSw; go_simp; (all_goals with_reducible rfl))
          try simp only [Act.put, List.setIfInBounds_toArray, List.set_cons_zero, List.set_cons_succ, List.getElem_toArray, List.getElem_cons_succ, List.getElem_cons_zero]
          refine wpAnyF_take [7, 15, 16, 17] (i := 6) (v := ?vg3_9_6) rfl (by kernel_rfl) (by kernel_rfl) (by kernel_rfl) (by kernel_rfl) (fun _ _ _ h => h) (Or.inl ⟨by rfl, ?hyg3_9_6⟩) (by assumption) ?restg3_9_6
          case hyg3_9_6 => (intro w hSw; (try dsimp only at hSw); go_simp; (all_goals with_reducible rfl))
          try simp only [Act.put, List.setIfInBounds_toArray, List.set_cons_zero, List.set_cons_succ, List.getElem_toArray, List.getElem_cons_succ, List.getElem_cons_zero]
          refine wpAnyF_pure (i := 7) (v := ?vg3_10_7) rfl (by kernel_rfl) (by kernel_rfl) (by kernel_rfl) (fun _ _ _ h => h) (Or.inl ⟨by rfl, ?hyg3_10_7⟩) ?restg3_10_7
          case hyg3_10_7 => (intro w hSw; clear hSw; go_simp; (all_goals with_reducible rfl))
          try simp only [Act.put, List.setIfInBounds_toArray, List.set_cons_zero, List.set_cons_succ, List.getElem_toArray, List.getElem_cons_succ, List.getElem_cons_zero]
          refine wpAnyF_take [11, 12, 13, 14, 15, 16, 17] (i := 9) (v := ?vg3_11_9) rfl (by kernel_rfl) (by kernel_rfl) (by kernel_rfl) (by kernel_rfl) (fun _ _ _ h => h) (Or.inl ⟨by rfl, ?hyg3_11_9⟩) (by assumption) ?restg3_11_9
          case hyg3_11_9 => (intro w hSw; (try dsimp only at hSw); go_simp; (all_goals with_reducible rfl))
          try simp only [Act.put, List.setIfInBounds_toArray, List.set_cons_zero, List.set_cons_succ, List.getElem_toArray, List.getElem_cons_succ, List.getElem_cons_zero]
          refine wpAnyF_pure (i := 11) (v := ?vg3_12_11) rfl (by kernel_rfl) (by kernel_rfl) (by kernel_rfl) (fun _ _ _ h => h) (Or.inl ⟨by rfl, ?hyg3_12_11⟩) ?restg3_12_11
          case hyg3_12_11 => (intro w hSw; clear hSw; go_simp; (all_goals with_reducible rfl))
          try simp only [Act.put, List.setIfInBounds_toArray, List.set_cons_zero, List.set_cons_succ, List.getElem_toArray, List.getElem_cons_succ, List.getElem_cons_zero]
          refine wpAnyF_pure (i := 12) (v := ?vg3_13_12) rfl (by kernel_rfl) (by kernel_rfl) (by kernel_rfl) (fun _ _ _ h => h) (Or.inl ⟨by rfl, ?hyg3_13_12⟩) ?restg3_13_12
          case hyg3_13_12 => (intro w hSw; clear hSw; go_simp; (all_goals with_reducible rfl))
          try simp only [Act.put, List.setIfInBounds_toArray, List.set_cons_zero, List.set_cons_succ, List.getElem_toArray, List.getElem_cons_succ, List.getElem_cons_zero]
          refine wpAnyF_take [14, 15, 16, 17] (i := 13) (v := ?vg3_14_13) rfl (by kernel_rfl) (by kernel_rfl) (by kernel_rfl) (by kernel_rfl) (fun _ _ _ h => h) (Or.inl ⟨by rfl, ?hyg3_14_13⟩) (by assumption) ?restg3_14_13
          case hyg3_14_13 => (intro w hSw; (try dsimp only at hSw); go_simp; (all_goals with_reducible rfl))
          try simp only [Act.put, List.setIfInBounds_toArray, List.set_cons_zero, List.set_cons_succ, List.getElem_toArray, List.getElem_cons_succ, List.getElem_cons_zero]
          refine wpAnyF_pure (i := 14) (v := ?vg3_15_14) rfl (by kernel_rfl) (by kernel_rfl) (by kernel_rfl) (fun _ _ _ h => h) (Or.inl ⟨by rfl, ?hyg3_15_14⟩) ?restg3_15_14
          case hyg3_15_14 => (intro w hSw; clear hSw; go_simp; (all_goals with_reducible rfl))
          try simp only [Act.put, List.setIfInBounds_toArray, List.set_cons_zero, List.set_cons_succ, List.getElem_toArray, List.getElem_cons_succ, List.getElem_cons_zero]
          refine wpAnyF_one (i := 15) (by kernel_rfl) rfl (fun K hK => ?_)
          go_simp
          refine hK.out _ _ (HK.out _ (bD (bA (Below.refl _ _) _))) (fun hHeld => ?_)
          clear hK K
          try simp only [Act.put, List.setIfInBounds_toArray, List.set_cons_zero, List.set_cons_succ, List.getElem_toArray, List.getElem_cons_succ, List.getElem_cons_zero]
          refine wpAnyF_oneD (i := 16) (by kernel_rfl) (by kernel_rfl) rfl (fun K hK => ?_)
          refine step_app3 rfl rfl el_ints rfl (own_below HOWN.out hHeld.1 (Nat.le_refl _)) rfl (rd_newAt _ _ _ 1 2 _ (by simp) rfl).drew (two_ints _ _) hSZ (by have := hHeld.1.size; omega) ?_
          intro A3 c3 w3 o3 b3 g3 h3
          have HO3 := hid o3
          have HB3 := hid b3
          have HB4 := hid hHeld.1
          clear o3 g3 h3 b3
          refine hK.out _ _ ?_
          clear hK K
          try simp only [Act.put, List.setIfInBounds_toArray, List.set_cons_zero, List.set_cons_succ, List.getElem_toArray, List.getElem_cons_succ, List.getElem_cons_zero]
          refine wpAnyF_pure (i := 17) (v := ?vg3_18_17) rfl (by kernel_rfl) (by kernel_rfl) (by kernel_rfl) (fun _ _ _ h => h) (Or.inl ⟨by rfl, ?hyg3_18_17⟩) ?restg3_18_17
          case hyg3_18_17 => (intro w hSw; clear hSw; go_simp; (all_goals with_reducible rfl))
          try simp only [Act.put, List.setIfInBounds_toArray, List.set_cons_zero, List.set_cons_succ, List.getElem_toArray, List.getElem_cons_succ, List.getElem_cons_zero]
          refine wpAnyF_done (by kernel_rfl) ?_ _
          go_wp2_with fail
          go_roundw
          case rel => exact ⟨k + 1, N + 2, A3, c3, by omega, by go_num, by have := HN.out; omega, rfl, hid (by rw [HT.out, ← List.append_assoc, List.flatMap_append]; exact HO3.out), (bT hbel HB4.out).trans (HB3.out.mono (by omega))⟩
          case measure => simp [intOf]; omega
        · obtain rfl : k = vs.length := by omega
          have hkz : ¬ ((vs.length : Int) < (vs.length : Int)) := by omega
          rw [List.take_length] at HOWN
          have hSZ : (N + 1) * 8 ≤ 140737488355328 := by omega
          go_wp2_with (at_builtin; refine wp_app3 _ rfl rfl el_ints rfl (own_below HOWN.out (bA (Below.refl _ _) _) (Nat.le_refl _)) rfl (rd_new _ _ _ 1 1 rfl) (one1 _ _) hSZ (Nat.le_trans hsz (by simp)) ?_; intro A5 c5 w5 o5 b5 g5 h5)
          have HO5' := hid o5
          have HB5 := hid ((hbel.trans (bA (Below.refl wr.heap.size wr) _ |>.mono hsz)).trans b5)
          have q4b := keepb HB5.out q4w
          have HN5 : Hid (([st, ph, f, (vs.length : Int)] ++ numsV vs ++ [(ms.length : Int)]).length = N + 1) := hid (by have := HN.out; rw [List.length_append, List.length_append, numsV_len]; simp only [List.length_cons, List.length_nil] at *; omega)
          clear q3 o5 b5 g5 h5 HOWN hbel hb0 hkz
          have q4 := q4b
          go_wp2_with fail
          go_loopw [4, 6] (fun s i wr => NRel w1.heap.size ([st, ph, f, (vs.length : Int)] ++ numsV vs ++ [(ms.length : Int)]) numsM ms w1 s i wr) (fun _ i _ => ms.length - (intOf i).toNat)
          case atStart => exact ⟨0, N + 1, _, _, by omega, rfl, by rw [HN5.out], rfl, hid (by rw [List.take_zero, show numsM [] = [] from rfl, List.append_nil, List.flatMap_append]; exact HO5'.out), HB5.out⟩
          case round =>
            clear HO5' HB5 HN q4
            obtain ⟨m, N2, A4, c4, hml, rfl, hN, rfl, HOWN, hbel⟩ := hrel
            rw [HN5.out] at hN
            have HN2 := hid hN
            have hN3 : N2 ≤ 40000 := by omega
            clear hN hSZ
            have hb0 := bT HB1.out hbel
            have q4 := keepb hbel q4w
            have hsz := hbel.size
            by_cases hlm : m < ms.length
            · obtain ⟨x, hx⟩ : ∃ x, ms[m]? = some x := ⟨_, List.getElem?_eq_getElem hlm⟩
              obtain ⟨b, off, rfl, hb, c0, c1⟩ := mail_cells (hm.below hb0) rfl hx
              have hmz : (m : Int) < (ms.length : Int) := by omega
              obtain ⟨xa, xl⟩ := x
              simp only at c0 c1
              have HT : Hid (numsM (ms.take (m + 1)) = numsM (ms.take m) ++ [xa, xl]) := hid (by rw [take_nextV hx, numsM_snoc])
              have hSZ : (N2 + 2) * 8 ≤ 140737488355328 := by omega
              clear hx hb0
              have HK : Hid (∀ V, Below wr.heap.size wr V → ((fun V => Below wr.heap.size wr V ∧ V.cell? ⟨w.heap.size, 4, none⟩ = some (.slice (some ⟨b, off, none⟩) ms.length d) ∧ V.cell? ⟨b, off + m * 2, none⟩ = some (.int .i64 xa) ∧ V.cell? ⟨b, off + m * 2 + 1, none⟩ = some (.int .i64 xl)) : World → Prop) V) := hid fun V hV => ⟨hV, keepb hV q4, keepb hV c0, keepb hV c1⟩
              go_wp2_with fail
              refine wp_region_F (S := (fun V => Below wr.heap.size wr V ∧ V.cell? ⟨w.heap.size, 4, none⟩ = some (.slice (some ⟨b, off, none⟩) ms.length d) ∧ V.cell? ⟨b, off + m * 2, none⟩ = some (.int .i64 xa) ∧ V.cell? ⟨b, off + m * 2 + 1, none⟩ = some (.int .i64 xl))) [14] (by kernel_rfl) (HK.out _ (bD (Below.refl _ _))) (fun hHeld => ?_)
              refine wpAnyF_pure (i := 0) (v := ?vg4_1_0) rfl (by kernel_rfl) (by kernel_rfl) (by kernel_rfl) (fun _ _ _ h => h) (Or.inl ⟨by rfl, ?hyg4_1_0⟩) ?restg4_1_0
              case hyg4_1_0 => (intro w hSw; clear hSw; go_simp; (all_goals with_reducible rfl))
              try simp only [Act.put, List.setIfInBounds_toArray, List.set_cons_zero, List.set_cons_succ, List.getElem_toArray, List.getElem_cons_succ, List.getElem_cons_zero]
              refine wpAnyF_pure (i := 1) (v := ?vg4_2_1) rfl (by kernel_rfl) (by kernel_rfl) (by kernel_rfl) (fun _ _ _ h => h) (Or.inl ⟨by rfl, ?hyg4_2_1⟩) ?restg4_2_1
              case hyg4_2_1 => (intro w hSw; clear hSw; go_simp; (all_goals with_reducible rfl))
              try simp only [Act.put, List.setIfInBounds_toArray, List.set_cons_zero, List.set_cons_succ, List.getElem_toArray, List.getElem_cons_succ, List.getElem_cons_zero]
              refine wpAnyF_pure (i := 3) (v := ?vg4_3_3) rfl (by kernel_rfl) (by kernel_rfl) (by kernel_rfl) (fun _ _ _ h => h) (Or.inl ⟨by rfl, ?hyg4_3_3⟩) ?restg4_3_3
              case hyg4_3_3 => (intro w hSw; clear hSw; go_simp; (all_goals with_reducible rfl))
              try simp only [Act.put, List.setIfInBounds_toArray, List.set_cons_zero, List.set_cons_succ, List.getElem_toArray, List.getElem_cons_succ, List.getElem_cons_zero]
              refine wpAnyF_pure (i := 7) (v := ?vg4_4_7) rfl (by kernel_rfl) (by kernel_rfl) (by kernel_rfl) (fun _ _ _ h => h) (Or.inl ⟨by rfl, ?hyg4_4_7⟩) ?restg4_4_7
              case hyg4_4_7 => (intro w hSw; clear hSw; go_simp; (all_goals with_reducible rfl))
              try simp only [Act.put, List.setIfInBounds_toArray, List.set_cons_zero, List.set_cons_succ, List.getElem_toArray, List.getElem_cons_succ, List.getElem_cons_zero]
              refine wpAnyF_pure (i := 9) (v := ?vg4_5_9) rfl (by kernel_rfl) (by kernel_rfl) (by kernel_rfl) (fun _ _ _ h => h) (Or.inl ⟨by rfl, ?hyg4_5_9⟩) ?restg4_5_9
              case hyg4_5_9 => (intro w hSw; clear hSw; go_simp; (all_goals with_reducible rfl))
              try simp only [Act.put, List.setIfInBounds_toArray, List.set_cons_zero, List.set_cons_succ, List.getElem_toArray, List.getElem_cons_succ, List.getElem_cons_zero]
              refine wpAnyF_take [4, 5, 6, 13, 14, 15] (i := 2) (v := ?vg4_6_2) rfl (by kernel_rfl) (by kernel_rfl) (by kernel_rfl) (by kernel_rfl) (fun _ _ _ h => h) (Or.inl ⟨by rfl, ?hyg4_6_2⟩) (by assumption) ?restg4_6_2
              case hyg4_6_2 => (intro w hSw; (try dsimp only at hSw); go_simp; (all_goals with_reducible rfl))
              try simp only [Act.put, List.setIfInBounds_toArray, List.set_cons_zero, List.set_cons_succ, List.getElem_toArray, List.getElem_cons_succ, List.getElem_cons_zero]
              refine wpAnyF_pure (i := 4) (v := ?vg4_7_4) rfl (by kernel_rfl) (by kernel_rfl) (by kernel_rfl) (fun _ _ _ h => h) (Or.inl ⟨by rfl, ?hyg4_7_4⟩) ?restg4_7_4
              case hyg4_7_4 => (intro w hSw; clear hSw; go_simp; (all_goals with_reducible rfl))
              try simp only [Act.put, List.setIfInBounds_toArray, List.set_cons_zero, List.set_cons_succ, List.getElem_toArray, List.getElem_cons_succ, List.getElem_cons_zero]
              refine wpAnyF_pure (i := 5) (v := ?vg4_8_5) rfl (by kernel_rfl) (by kernel_rfl) (by kernel_rfl) (fun _ _ _ h => h) (Or.inl ⟨by rfl, ?hyg4_8_5⟩) ?restg4_8_5
              case hyg4_8_5 => (intro w hSw; clear hSw; go_simp; (all_goals with_reducible rfl))
              try simp only [Act.put, List.setIfInBounds_toArray, List.set_cons_zero, List.set_cons_succ, List.getElem_toArray, List.getElem_cons_succ, List.getElem_cons_zero]
              refine wpAnyF_take [13, 14, 15] (i := 6) (v := ?vg4_9_6) rfl (by kernel_rfl) (by kernel_rfl) (by kernel_rfl) (by kernel_rfl) (fun _ _ _ h => h) (Or.inl ⟨by rfl, ?hyg4_9_6⟩) (by assumption) ?restg4_9_6
              case hyg4_9_6 => (intro w hSw; (try dsimp only at hSw); go_simp; (all_goals with_reducible rfl))
              try simp only [Act.put, List.setIfInBounds_toArray, List.set_cons_zero, List.set_cons_succ, List.getElem_toArray, List.getElem_cons_succ, List.getElem_cons_zero]
              refine wpAnyF_take [10, 11, 12, 13, 14, 15] (i := 8) (v := ?vg4_10_8) rfl (by kernel_rfl) (by kernel_rfl) (by kernel_rfl) (by kernel_rfl) (fun _ _ _ h => h) (Or.inl ⟨by rfl, ?hyg4_10_8⟩) (by assumption) ?restg4_10_8
              case hyg4_10_8 => (intro w hSw; (try dsimp only at hSw); go_simp; (all_goals with_reducible rfl))
              try simp only [Act.put, List.setIfInBounds_toArray, List.set_cons_zero, List.set_cons_succ, List.getElem_toArray, List.getElem_cons_succ, List.getElem_cons_zero]
              refine wpAnyF_pure (i := 10) (v := ?vg4_11_10) rfl (by kernel_rfl) (by kernel_rfl) (by kernel_rfl) (fun _ _ _ h => h) (Or.inl ⟨by rfl, ?hyg4_11_10⟩) ?restg4_11_10
              case hyg4_11_10 => (intro w hSw; clear hSw; go_simp; (all_goals with_reducible rfl))
              try simp only [Act.put, List.setIfInBounds_toArray, List.set_cons_zero, List.set_cons_succ, List.getElem_toArray, List.getElem_cons_succ, List.getElem_cons_zero]
              refine wpAnyF_pure (i := 11) (v := ?vg4_12_11) rfl (by kernel_rfl) (by kernel_rfl) (by kernel_rfl) (fun _ _ _ h => h) (Or.inl ⟨by rfl, ?hyg4_12_11⟩) ?restg4_12_11
              case hyg4_12_11 => (intro w hSw; clear hSw; go_simp; (all_goals with_reducible rfl))
              try simp only [Act.put, List.setIfInBounds_toArray, List.set_cons_zero, List.set_cons_succ, List.getElem_toArray, List.getElem_cons_succ, List.getElem_cons_zero]
              refine wpAnyF_take [13, 14, 15] (i := 12) (v := ?vg4_13_12) rfl (by kernel_rfl) (by kernel_rfl) (by kernel_rfl) (by kernel_rfl) (fun _ _ _ h => h) (Or.inl ⟨by rfl, ?hyg4_13_12⟩) (by assumption) ?restg4_13_12
              case hyg4_13_12 => (intro w hSw; (try dsimp only at hSw); go_simp; (all_goals with_reducible rfl))
              try simp only [Act.put, List.setIfInBounds_toArray, List.set_cons_zero, List.set_cons_succ, List.getElem_toArray, List.getElem_cons_succ, List.getElem_cons_zero]
              refine wpAnyF_one (i := 13) (by kernel_rfl) rfl (fun K hK => ?_)
              go_simp
              refine hK.out _ _ (HK.out _ (bD (bA (Below.refl _ _) _))) (fun hHeld => ?_)
              clear hK K
              try simp only [Act.put, List.setIfInBounds_toArray, List.set_cons_zero, List.set_cons_succ, List.getElem_toArray, List.getElem_cons_succ, List.getElem_cons_zero]
              refine wpAnyF_oneD (i := 14) (by kernel_rfl) (by kernel_rfl) rfl (fun K hK => ?_)
              refine step_app3 rfl rfl el_ints rfl (own_below HOWN.out hHeld.1 (Nat.le_refl _)) rfl (rd_newAt _ _ _ 1 2 _ (by simp) rfl).drew (two_ints _ _) hSZ (by have := hHeld.1.size; omega) ?_
              intro A3 c3 w3 o3 b3 g3 h3
              have HO3 := hid o3
              have HB3 := hid b3
              have HB4 := hid hHeld.1
              clear o3 g3 h3 b3
              refine hK.out _ _ ?_
              clear hK K
              try simp only [Act.put, List.setIfInBounds_toArray, List.set_cons_zero, List.set_cons_succ, List.getElem_toArray, List.getElem_cons_succ, List.getElem_cons_zero]
              refine wpAnyF_pure (i := 15) (v := ?vg4_16_15) rfl (by kernel_rfl) (by kernel_rfl) (by kernel_rfl) (fun _ _ _ h => h) (Or.inl ⟨by rfl, ?hyg4_16_15⟩) ?restg4_16_15
              case hyg4_16_15 => (intro w hSw; clear hSw; go_simp; (all_goals with_reducible rfl))
              try simp only [Act.put, List.setIfInBounds_toArray, List.set_cons_zero, List.set_cons_succ, List.getElem_toArray, List.getElem_cons_succ, List.getElem_cons_zero]
              refine wpAnyF_done (by kernel_rfl) ?_ _
              go_wp2_with fail
              go_roundw
              case rel => exact ⟨m + 1, N2 + 2, A3, c3, by omega, by go_num, by rw [HN5.out]; have := HN2.out; omega, rfl, hid (by rw [HT.out, ← List.append_assoc, List.flatMap_append]; exact HO3.out), (bT hbel HB4.out).trans (HB3.out.mono (by omega))⟩
              case measure => simp [intOf]; omega
            · obtain rfl : m = ms.length := by omega
              have hmz : ¬ ((ms.length : Int) < (ms.length : Int)) := by omega
              rw [List.take_length] at HOWN
              have HLN : Hid (NS.length = N2) := hid (by have h1 := HN2.out; have h2 := HNL.out; have h3 := HN5.out; rw [List.length_append, List.length_append, numsV_len] at h3; simp only [List.length_cons, List.length_nil] at *; omega)
              have hE : NS = [st, ph, f, (vs.length : Int)] ++ numsV vs ++ [(ms.length : Int)] ++ numsM ms := by rw [HNS.out, HF.out]; rfl
              have HON : Hid (wr.ownsRow w1.heap.size 3 1 (.slice A4 N2 c4) N2 (NS.flatMap i64c)) := hid (by have h := HOWN.out; rw [← hE] at h; exact h)
              clear hE
              clear HOWN HN2 HN5 HNS q4w
              have HRD := hid (rd_own HON.out)
              clear HON
              go_wp2_with fail
              go_loopw [7, 8] (fun s i wp => BRel NS wr s i wp) (fun _ i _ => NS.length - (intOf i).toNat)
              case atStart => exact ⟨0, none, 0, by omega, rfl, rfl, hid (World.ownsRow_nil _ _ _ _), Below.refl _ _⟩
              case round =>
                obtain ⟨j, A6, c6, hj, rfl, rfl, HOB, hbb⟩ := hrel
                have hb1 := bT hb0 hbb
                have hsz6 := hbb.size
                have hjN : j ≤ N2 := by have := HLN.out; omega
                by_cases hlj : j < N2
                · obtain ⟨x, hx⟩ : ∃ x, NS[j]? = some x := ⟨_, List.getElem?_eq_getElem (by have := HLN.out; omega)⟩
                  obtain ⟨b, off, rfl, hb, hcs⟩ := (HRD.out.below hbb).at_ hlj
                  have cx := hcs _ _ (flat_i64_get hx)
                  have hjz : (j : Int) < (N2 : Int) := by omega
                  have hx0 := HU.out x (List.mem_of_getElem? hx)
                  have HPUT := hid (fun W => packed_any x hx0.1 (by omega) W)
                  have hwx : IntKind.u64.wrap x = x := IntWalk.u64_in _ (by omega)
                  have HPN : Hid (packs (NS.take (j + 1)) = packs (NS.take j) ++ pack x) := hid (by rw [take_nextV hx, packs_append, packs_one])
                  have hSZ : ((packs (NS.take j)).length + (pack x).length) * 1 ≤ 140737488355328 := by
                    have h1 := HNP.out j
                    have h2 := (pack_len x).1
                    rw [List.length_take] at h1
                    omega
                  clear hx hx0 hcs
                  go_wp2_with fail
                  refine (HPUT.out _).mono ?_
                  rintro e w7 ⟨A7, c7, rfl, o7, b7⟩
                  have HO7 := hid o7
                  clear o7
                  go_wp2_with (at_builtin; refine wp_app3 _ rfl rfl el_bytes rfl (own_below HOB.out b7 (Nat.le_refl _)) rfl (rd_own HO7.out) (one_u8 _) hSZ (Nat.le_trans hsz6 b7.size) ?_; intro A8 c8 w8 o8 b8 g8 h8)
                  have HO8 := hid o8
                  clear o8 g8 h8
                  go_wp2_with fail
                  go_roundw
                  case rel => exact ⟨j + 1, A8, c8, by have := HLN.out; omega, by go_num, by rw [HPN.out, List.length_append], hid (by rw [HPN.out, List.length_append, List.flatMap_append]; exact HO8.out), (bT hbb b7).trans b8⟩
                  case measure => simp [intOf]; have := HLN.out; omega
                · obtain rfl : j = N2 := by omega
                  have hjz : ¬ ((j : Int) < (j : Int)) := by omega
                  have e1 : packs (NS.take j) = P := by rw [← HLN.out, List.take_length, HP.out]
                  rw [e1] at HOB
                  rw [e1]
                  have HWR := hid (wrapped_walk P wr A6 P.length c6 (rd_own HOB.out) rfl HPB.out (by have := HPL.out; have := HNL.out; omega))
                  clear e1
                  go_wp2_with fail
                  refine HWR.out.mono ?_
                  rintro e w9 ⟨A9, c9, rfl, o9, b9⟩
                  have HO9 := hid o9
                  clear o9
                  go_wp2_with fail
                  go_ret2
                  exact ⟨A9, c9, rfl, own_more HO9.out hb1.size, bT hb1 b9⟩
end Go.Proofs.Ytphgdpjfolkafaa
