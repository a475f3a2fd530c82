/- The document's GapsOf. -/
import Derived.Test.YtifpngjipkmdcaaGaps
import Derived.Test.YtifpngjipkmdcaaMem
namespace Go.Proofs.Ytifpngjipkmdcaa
open Go.ChangeShapes Go.WideShapes Go.ChangeAt Go.RowKit
set_option linter.unusedVariables false
set_option linter.unusedSimpArgs false
def GapsOfRel (l : List Int) (w : World) (s i : Value) (wr : World) : Prop :=
  ∃ (k m c : Nat) (A : Option Addr), k ≤ l.length ∧ Hid (m = (gapB l k).length) ∧ m ≤ 10 * (k + 1) ∧ i = .int .i64 k ∧ s = .slice A m c ∧ wr.ownsRow w.heap.size 5 1 (.slice A m c) m ((gapB l k).flatMap u8c) ∧ Hid (∀ j : Nat, j < k → 0 ≤ gapAt l j) ∧ Below w.heap.size w wr
set_option maxRecDepth 100000 in
set_option maxHeartbeats 4000000 in
theorem gapsOf_walk (l : List Int) (w : World) (A : Option Addr) (n c : Nat) (hr : Rd w w.heap.size A 1 n (l.flatMap i64c)) (hL : l.length = n) (hn : n ≤ 9223372036854775807) :
    Calls Try.prog 101 #[.slice A n c] w (RetL 5 1 w (gapsV l).1.length ((gapsV l).1.flatMap u8c) (gapsV l).2) := by
  by_cases hbig : 2000 < n
  · have e : gapsV l = ([], 1) := by unfold gapsV; rw [if_pos (by omega)]
    rw [e]
    clear hL hr
    go_enter Try.func101, Try.ntmps101
    go_wp2_with fail
    go_ret2
    exact ⟨none, 0, rfl, World.ownsRow_nil _ _ _ _, Below.refl _ _⟩
  · have hsm : (n : Int) ≤ 2000 := by omega
    have HL := hid hL
    have HN := hid (show n ≤ 2000 by omega)
    have V2 : Hid (∀ (k : Nat) (x : Int), l[k]? = some x → ¬ (0 ≤ x ∧ x ≤ 1152921504606846976) → gapsV l = ([], 2)) := hid (fun k x hx h => by unfold gapsV; rw [if_neg (by omega), if_neg (fun hp => h (hp k x hx))])
    have V3 : Hid (Packable l → ∀ k : Nat, k < n → ¬ 0 ≤ gapAt l k → gapsV l = ([], 3)) := hid (fun hp k hk h => by unfold gapsV; rw [if_neg (by omega), if_pos hp, if_neg (fun hs => h (hs k (by omega)))])
    have V0 : Hid (Packable l → Rises l → gapsV l = (gapB l n, 0)) := hid (fun hp hs => by unfold gapsV; rw [if_neg (by omega), if_pos hp, if_pos hs, hL])
    generalize gapsV l = v at V2 V3 V0 ⊢
    obtain ⟨vl, vr⟩ := v
    clear hL hbig
    go_enter Try.func101, Try.ntmps101
    go_wp2_with fail
    go_loop [4] (RangeRel l) (fun i => n - (intOf i).toNat)
    case atStart => exact ⟨0, by omega, rfl, hid (fun j x h => by omega)⟩
    case round =>
      obtain ⟨k, hk, rfl, HO⟩ := hrel
      by_cases hlt : k < n
      · obtain ⟨x, hx⟩ : ∃ x, l[k]? = some x := ⟨_, List.getElem?_eq_getElem (by rw [HL.out]; exact hlt)⟩
        obtain ⟨b, off, rfl, hb, c0⟩ := int_cell hr HL.out hx
        have HX := hid hx
        clear hx
        by_cases hok : 0 ≤ x ∧ x ≤ 1152921504606846976
        · have HK := hid hok
          have hin := inB_yes hok
          clear hok
          go_wp2_with (go_at_call 40; refine (In_walk _ _ _ _).mono ?_; rintro e w' ⟨rfl, rfl⟩)
          go_round
          case rel => exact ⟨k + 1, by rw [HL.out]; omega, by go_num, hid (range_next HX.out HK.out HO.out)⟩
          case measure => simp [intOf]; omega
        · have HV := hid (V2.out k x HX.out hok)
          have hin := inB_no hok
          clear hok
          go_wp2_with (go_at_call 40; refine (In_walk _ _ _ _).mono ?_; rintro e w' ⟨rfl, rfl⟩)
          go_ret2
          have hv := HV.out
          injection hv with hv1 hv2
          subst hv1
          subst hv2
          exact ⟨none, 0, rfl, World.ownsRow_nil _ _ _ _, Below.refl _ _⟩
      · have HP : Hid (Packable l) := hid (fun j x hx => HO.out j x (by have := (List.getElem?_eq_some_iff.1 hx).1; have := HL.out; omega) hx)
        have hp := hid (fun w => packed_any (n : Int) (by omega) (by omega) w)
        have hpl := pack_len (n : Int)
        go_wp2_with fail
        refine (hp.out _).mono ?_
        rintro e w1 ⟨A1, q1, rfl, o1, b1⟩
        go_wp2_with fail
        go_loopw [5, 6] (GapsOfRel l w) (fun _ i _ => n - (intOf i).toNat)
        case atStart =>
          have e0 : gapB l 0 = pack (n : Int) := by unfold gapB; rw [HL.out]; simp
          exact ⟨0, (pack (n : Int)).length, q1, A1, by omega, hid (by rw [e0]), by omega, rfl, rfl, by rw [e0]; exact o1, hid (fun j h => by omega), b1⟩
        case round =>
          obtain ⟨j, m, c', A', hj, HM, hm10, rfl, rfl, hown, HS, hbel⟩ := hrel
          by_cases hlt2 : j < n
          · obtain ⟨x, hx⟩ : ∃ x, l[j]? = some x := ⟨_, List.getElem?_eq_getElem (by rw [HL.out]; exact hlt2)⟩
            obtain ⟨b, off, rfl, hb, c0⟩ := int_cell (hr.below hbel) HL.out hx
            obtain ⟨hx0, hx1⟩ := HP.out j x hx
            have hj2 : j < 2000 := by have := HN.out; omega
            have HGB := hid (gapB_succ l j)
            by_cases hj0 : 0 < j
            · obtain ⟨y, hy⟩ : ∃ y, l[j - 1]? = some y := ⟨_, List.getElem?_eq_getElem (by rw [HL.out]; omega)⟩
              obtain ⟨b', off', hA, hb', c1⟩ := int_cell (hr.below hbel) HL.out hy
              injection hA with hA
              injection hA with hA1 hA2
              subst hA1
              subst hA2
              obtain ⟨hy0, hy1⟩ := HP.out (j - 1) y hy
              have hg : gapAt l j = x - y := by unfold gapAt lastv; rw [if_neg (by omega)]; simp [List.getD, hx, hy]
              have HG := hid hg
              have HX := hid hx
              clear hx hg hy
              have z1 : (1 : Int) ≤ j := by omega
              have z2 : (j : Int) - 1 < n := by omega
              have z3 : (0 : Int) ≤ (j : Int) - 1 := by omega
              have z4 : (j : Int) < n := by omega
              by_cases hlow : x - y < 0
              · have HV := hid (V3.out HP.out j hlt2 (by rw [HG.out]; omega))
                go_wp2_with fail
                go_quiet (fail)
                go_wp2_with fail
                go_ret2
                have hv := HV.out
                injection hv with hv1 hv2
                subst hv1
                subst hv2
                exact ⟨none, 0, rfl, World.ownsRow_nil _ _ _ _, below_drewN hbel _⟩
              · have hp2 := hid (fun w => packed_any (x - y) (by omega) (by omega) w)
                have hpl2 := (pack_len (x - y)).1
                have hj3 : (m + (pack (x - y)).length) * 1 ≤ 140737488355328 := by omega
                have hxq : 0 ≤ x - y := by omega
                generalize hpk : pack (x - y) = pk at *
                have HPK := hid hpk
                clear hpk hlow
                go_wp2_with fail
                go_quiet (fail)
                go_wp2_with fail
                refine (hp2.out _).mono ?_
                rintro e w2 ⟨A2, q2, rfl, o2, b2⟩
                have hown2 := own_below (w := wr.drewN _) (base' := w.heap.size) hown b2 (Nat.le_refl _)
                have hbq := bT (below_drewN hbel _) b2
                go_wp2_with (at_builtin; refine wp_app1 _ rfl rfl el_bytes rfl hown2 rfl (rd_own o2) (one_u8 pk) hj3 (Nat.le_trans hbel.size b2.size) ?_; intro A3 c3 w3 hown3 hb3 hg3)
                go_roundw
                case rel =>
                  have e1 : gapB l (j + 1) = gapB l j ++ pk := by rw [HGB.out, HG.out, HPK.out]
                  exact ⟨j + 1, m + pk.length, c3, A3, by rw [HL.out]; omega, hid (by rw [e1, List.length_append, ← HM.out]), by omega, by go_num, rfl, by rw [e1, List.flatMap_append]; exact hown3, hid (rises_next (by rw [HG.out]; omega) HS.out), hbq.trans hb3⟩
                case measure => simp [intOf]; omega
            · obtain rfl : j = 0 := by omega
              have hg : gapAt l 0 = x := by unfold gapAt lastv; simp [List.getD, hx]
              have HG := hid hg
              clear hx hg
              have hp2 := hid (fun w => packed_any x (by omega) (by omega) w)
              have hpl2 := (pack_len x).1
              have hj3 : (m + (pack x).length) * 1 ≤ 140737488355328 := by omega
              generalize hpk : pack x = pk at *
              have HPK := hid hpk
              clear hpk hj0
              simp only [Nat.add_zero] at c0
              rw [show ((0 : Nat) : Int) = 0 from rfl]
              go_wp2_with fail
              refine (hp2.out _).mono ?_
              rintro e w2 ⟨A2, q2, rfl, o2, b2⟩
              have hown2 := own_below (base' := w.heap.size) hown b2 (Nat.le_refl _)
              go_wp2_with (at_builtin; refine wp_app1 _ rfl rfl el_bytes rfl hown2 rfl (rd_own o2) (one_u8 pk) hj3 (Nat.le_trans hbel.size b2.size) ?_; intro A3 c3 w3 hown3 hb3 hg3)
              go_roundw
              case rel =>
                have e1 : gapB l (0 + 1) = gapB l 0 ++ pk := by rw [HGB.out, HG.out, HPK.out]
                exact ⟨0 + 1, m + pk.length, c3, A3, by rw [HL.out]; omega, hid (by rw [e1, List.length_append, ← HM.out]), by omega, by go_num, rfl, by rw [e1, List.flatMap_append]; exact hown3, hid (rises_next (by rw [HG.out]; omega) HS.out), (bT hbel b2).trans hb3⟩
              case measure => simp [intOf]; omega
          · obtain rfl : j = n := by have := HL.out; omega
            have hv := V0.out HP.out (fun i hi => HS.out i (by have := HL.out; omega))
            have HVV := hid hv
            clear hv hm10 HS V0 V2 V3
            go_wp2_with fail
            go_ret2
            have hv := HVV.out
            injection hv with hv1 hv2
            rw [hv1, hv2, ← HM.out]
            exact ⟨A', c', rfl, hown, hbel⟩
end Go.Proofs.Ytifpngjipkmdcaa
