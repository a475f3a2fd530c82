/- The document's Ungapped. -/
import Derived.Test.YtiemcicgohldeaaUnw
namespace Go.Proofs.Ytiemcicgohldeaa
open Go.ChangeShapes Go.WideShapes Go.ChangeAt Go.RowKit
set_option linter.unusedVariables false
set_option linter.unusedSimpArgs false
def UngOfRel (l : List Int) (V : List Int × Int × Int) (M : Nat) (w : World) (x s t : Value) (wr : World) : Prop :=
  ∃ (m c a : Nat) (A : Option Addr) (q : Int) (acc : List Int), m ≤ M ∧ Hid (acc.length = m) ∧ a ≤ l.length ∧ x = .int .i64 a ∧ t = .int .i64 q ∧ s = .slice A m c ∧ 0 ≤ q ∧ q ≤ 1152921504606846976 ∧ Hid (V = ungGo l (M - m) a q acc) ∧
    wr.ownsRow w.heap.size 3 1 (.slice A m c) m (acc.flatMap i64c) ∧ Below w.heap.size w wr
def lenOf : Value → Nat | .slice _ n _ => n | _ => 0
set_option maxRecDepth 100000 in
set_option maxHeartbeats 2000000 in
theorem ungapped_walk (l : List Int) (w : World) (A : Option Addr) (n c : Nat) (hr : Rd w w.heap.size A 1 n (l.flatMap u8c)) (hL : l.length = n) (hl : ∀ x ∈ l, 0 ≤ x ∧ x ≤ 255) (hn : n ≤ 140737488355328) (hcap : n ≤ c) :
    Calls Try.prog 61 #[.slice A n c] w (RetLN 3 1 w (ungV l).1.length ((ungV l).1.flatMap i64c) (ungV l).2.1 (ungV l).2.2) := by
  have HV : Hid (ungV l = if (getv l).2.2 ≠ 0 then ([], 0, (getv l).2.2) else if 2000 < (getv l).1 then ([], 0, 1) else ungGo l (getv l).1.toNat (getv l).2.1.toNat 0 []) := hid rfl
  have hg := getv_ok l hl
  have hu0 := unpacked_walk l w A n c hr hl (by omega)
  unfold tri at hu0
  have HU0 := hid hu0
  clear hu0
  have HLl := hid hL
  have HB := hid hl
  generalize hq : getv l = r at *
  have HQ := hid hq
  clear hq hl hL
  generalize ungV l = V at *
  obtain ⟨r1, r2, r3⟩ := r
  simp only at HV HU0
  rcases hg with ⟨g0, g1, g2, g3, g4⟩ | ⟨g0, g1, g2, g3⟩
  · simp only at g0 g1 g2 g3 g4
    subst g0
    obtain ⟨a0, rfl⟩ := Int.eq_ofNat_of_zero_le (show 0 ≤ r2 by omega)
    obtain ⟨M, rfl⟩ := Int.eq_ofNat_of_zero_le g1
    by_cases hM : 2000 < M
    · have HV2 : Hid (V = ([], 0, 1)) := hid (by rw [HV.out, if_neg (by simp), if_pos (by omega)])
      have hMi : (2000 : Int) < (M : Int) := by omega
      clear HV
      go_enter Try.func61, Try.ntmps61
      go_wp2_with fail
      refine HU0.out.mono ?_
      rintro e w1 ⟨rfl, rfl⟩
      go_wp2_with fail
      go_ret3
      rw [HV2.out]
      exact retLN_nil _ _ _ _ _ (Below.refl _ _)
    · have HV2 : Hid (V = ungGo l M a0 0 []) := hid (by rw [HV.out, if_neg (by simp), if_neg (by omega)]; simp)
      have hMi : (M : Int) ≤ 2000 := by omega
      clear HV hM
      go_enter Try.func61, Try.ntmps61
      go_wp2_with fail
      refine HU0.out.mono ?_
      rintro e w1 ⟨rfl, rfl⟩
      go_wp2_with fail
      go_loopw [6, 8, 9] (UngOfRel l V M w) (fun _ s _ _ => M - lenOf s)
      case atStart => exact ⟨0, 0, a0, none, 0, [], by omega, hid rfl, by omega, rfl, rfl, rfl, by omega, by omega, hid (by rw [HV2.out]; rfl), World.ownsRow_nil _ _ _ _, Below.refl _ _⟩
      case round =>
        obtain ⟨m, c', a, A', q', acc, hj, HA, ha, rfl, rfl, rfl, hq0, hq1, HU, hown, hbel⟩ := hrel
        by_cases hlt : m < M
        · obtain ⟨t, ht⟩ : ∃ t, M - m = t + 1 := ⟨M - m - 1, by omega⟩
          have HU2 := HU.out
          rw [ht, ungGo] at HU2
          have hmc : (m : Int) < (M : Int) := by omega
          have hmc2 : decide ((m : Int) < (M : Int)) = true := by simpa using hmc
          by_cases hca : c = a
          · have hdr : l.drop a = [] := List.drop_of_length_le (by have := HLl.out; omega)
            rw [hdr] at HU2
            have eg : getv [] = (0, 0, 4) := rfl
            rw [eg, if_pos (by decide)] at HU2
            have HV3 := hid HU2
            have hu := unpacked_walk [] wr A 0 0 Rd.nil_ (by simp) (by omega)
            unfold tri at hu
            rw [eg] at hu
            have hnc : n = c := by have := HLl.out; omega
            subst hca
            subst hnc
            have HUU := hid hu
            clear hu HU2 hdr ht HU eg
            go_wp2_with fail
            refine HUU.out.mono ?_
            rintro e w2 ⟨rfl, rfl⟩
            go_wp2_with fail
            go_ret3
            rw [HV3.out]
            exact retLN_nil _ _ _ _ _ hbel
          · have hg := getv_ok (l.drop a) (fun x hx => HB.out x (List.mem_of_mem_drop hx))
            have hcut := (hr.below hbel).cut (k := a) (cap := c) (by rw [← HLl.out]; exact ha) hcap
            rw [if_neg hca, drop_flat (cells := u8c) (sz := 1) (fun _ => rfl), Nat.mul_one] at hcut
            have hu := unpacked_walk (l.drop a) wr (Option.map (fun x => x.add a) A) (n - a) (c - a) (hcut.any (by decide)) (fun x hx => HB.out x (List.mem_of_mem_drop hx)) (by omega)
            unfold tri at hu
            have HN := hid hu
            rw [List.length_drop] at hg
            clear hu hcut
            generalize getv (l.drop a) = r at HU2 hg HN
            obtain ⟨r1, r2, r3⟩ := r
            simp only at HU2 HN
            have HT := hid ht
            have z1 : (a : Int) ≤ (n : Int) := by have := HLl.out; omega
            have z2 : (n : Int) ≤ (c : Int) := by omega
            clear ht HU
            rcases hg with ⟨g0, g1, g2, g3, g4⟩ | ⟨g0, g1, g2, g3⟩
            · simp only at g0 g1 g2 g3 g4
              subst g0
              obtain ⟨k, rfl⟩ := Int.eq_ofNat_of_zero_le (show 0 ≤ r2 by omega)
              rw [if_neg (by simp)] at HU2
              by_cases hov : 1152921504606846976 < q' + r1
              · rw [if_pos hov] at HU2
                have HV3 := hid HU2
                have hov2 : 1152921504606846976 - q' < r1 := by omega
                clear HU2 hov
                go_wp2_with fail
                refine HN.out.mono ?_
                rintro e w2 ⟨rfl, rfl⟩
                go_wp2_with fail
                go_ret3
                rw [HV3.out]
                exact retLN_nil _ _ _ _ _ hbel
              · rw [if_neg hov] at HU2
                have HV3 := hid HU2
                have hov1 : r1 ≤ 1152921504606846976 - q' := by omega
                have hov2 : q' + r1 ≤ 1152921504606846976 := by omega
                have hm8 : (m + 1) * 8 ≤ 140737488355328 := by omega
                have hak : (a : Int) + (k : Int) ≤ 140737488355328 := by have := HLl.out; omega
                clear hov HU2
                go_wp2_with fail
                refine HN.out.mono ?_
                rintro e w2 ⟨rfl, rfl⟩
                go_wp2_with (at_builtin; refine wp_app1 _ rfl rfl el_ints rfl (hown.alloc _) rfl (rd_new _ _ _ 1 1 rfl) (ints_one .i64 [q' + r1]) hm8 (Nat.le_trans hbel.size (by simp)) ?_; intro A3 c3 w3 hown3 hb3 hg3)
                go_roundw
                case rel =>
                  refine ⟨m + 1, c3, a + k, A3, q' + r1, acc ++ [q' + r1], by omega, hid (by rw [List.length_append, HA.out]; rfl), by omega, by go_num, rfl, rfl, by omega, by omega, hid ?_, by rw [List.flatMap_append]; exact hown3, (bA hbel _).trans hb3⟩
                  rw [HV3.out, show M - (m + 1) = t by have := HT.out; omega, Int.toNat_natCast]
                case measure => simp [lenOf]; omega
            · simp only at g0 g1 g2 g3
              subst g2 g3
              have hb : (r3 == 0) = false := by rw [beq_eq_false_iff_ne]; omega
              rw [if_pos (by omega)] at HU2
              have HV3 := hid HU2
              clear HU2
              go_wp2_with fail
              refine HN.out.mono ?_
              rintro e w2 ⟨rfl, rfl⟩
              go_wp2_with fail
              go_ret3
              rw [HV3.out]
              exact retLN_nil _ _ _ _ _ hbel
        · obtain rfl : m = M := by omega
          have HV3 : Hid (V = (acc, (a : Int), 0)) := hid (by rw [HU.out, Nat.sub_self]; rfl)
          clear HU
          go_wp2_with fail
          go_ret3
          rw [HV3.out]
          simp only
          rw [HA.out]
          exact ⟨A', c', rfl, hown, hbel⟩
  · simp only at g0 g1 g2 g3
    subst g2 g3
    have hb : (r3 == 0) = false := by rw [beq_eq_false_iff_ne]; omega
    have HV2 : Hid (V = ([], 0, r3)) := hid (by rw [HV.out, if_pos (by simp; omega)])
    clear HV
    go_enter Try.func61, Try.ntmps61
    go_wp2_with fail
    refine HU0.out.mono ?_
    rintro e w1 ⟨rfl, rfl⟩
    go_wp2_with fail
    go_ret3
    rw [HV2.out]
    exact retLN_nil _ _ _ _ _ (Below.refl _ _)
end Go.Proofs.Ytiemcicgohldeaa
