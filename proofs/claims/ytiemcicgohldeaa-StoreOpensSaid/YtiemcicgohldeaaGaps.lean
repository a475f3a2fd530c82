/- varint.Gaps. -/
import Derived.Test.YtiemcicgohldeaaPack
import Derived.Test.YtiemcicgohldeaaBase
import Derived.Test.YtiemcicgohldeaaBytes
namespace Go.Proofs.Ytiemcicgohldeaa
open Go.ChangeShapes Go.WideShapes Go.ChangeAt Go.RowKit
set_option linter.unusedVariables false
set_option linter.unusedSimpArgs false
def lastv (l : List Int) (k : Nat) : Int := if k = 0 then 0 else l.getD (k - 1) 0
def gapAt (l : List Int) (k : Nat) : Int := l.getD k 0 - lastv l k
def gapB (l : List Int) (k : Nat) : List Int := pack l.length ++ (List.range k).flatMap fun i => pack (gapAt l i)
def Packable (l : List Int) : Prop := ∀ (j : Nat) (x : Int), l[j]? = some x → 0 ≤ x ∧ x ≤ 1152921504606846976
def Rises (l : List Int) : Prop := ∀ j : Nat, j < l.length → 0 ≤ gapAt l j
open Classical in
/-- The bytes of a list that rises, or what is wrong. -/
noncomputable def gapsV (l : List Int) : List Int × Int := if 2000 < l.length then ([], 1) else if Packable l then (if Rises l then (gapB l l.length, 0) else ([], 3)) else ([], 2)
theorem gapB_succ (l : List Int) (k : Nat) : gapB l (k + 1) = gapB l k ++ pack (gapAt l k) := by
  unfold gapB
  rw [List.range_succ, List.flatMap_append, List.append_assoc]
  simp
theorem gapB_len (l : List Int) : ∀ k, (gapB l k).length ≤ 10 * (k + 1)
  | 0 => by have := (pack_len l.length).1; simp [gapB]; omega
  | k + 1 => by
    have h1 := gapB_len l k
    have h2 := (pack_len (gapAt l k)).1
    rw [gapB_succ, List.length_append]
    omega
theorem int_cell {w : World} {B n k : Nat} {A : Option Addr} {l : List Int} {x : Int} (h : Rd w B A 1 n (l.flatMap i64c)) (hl : l.length = n) (hk : l[k]? = some x) :
    ∃ b off, A = some ⟨b, off, none⟩ ∧ b < B ∧ w.cell? ⟨b, off + k, none⟩ = some (.int .i64 x) := by
  have hkl := (List.getElem?_eq_some_iff.1 hk).1
  obtain ⟨b, off, rfl, hb, hc⟩ := h.at_ (show k < n by omega)
  have c0 := hc _ _ ((flatMap_get (l := l) (cells := i64c) (sz := 1) (fun _ _ => rfl)).2 k x 0 _ hk rfl)
  simp only [Nat.mul_one, Nat.add_zero] at c0
  exact ⟨b, off, rfl, hb, c0⟩
def RangeRel (l : List Int) (i : Value) : Prop := ∃ k : Nat, k ≤ l.length ∧ i = .int .i64 k ∧ Hid (∀ (j : Nat) (x : Int), j < k → l[j]? = some x → 0 ≤ x ∧ x ≤ 1152921504606846976)
def GapsRel (l : List Int) (w : World) (s t i : Value) (wr : World) : Prop :=
  ∃ (k m c : Nat) (A : Option Addr) (q : Int), k ≤ l.length ∧ Hid (m = (gapB l k).length) ∧ m ≤ 10 * (k + 1) ∧ i = .int .i64 k ∧ Hid (q = lastv l k) ∧ 0 ≤ q ∧ q ≤ 1152921504606846976 ∧ t = .int .i64 q ∧ s = .slice A m c ∧ wr.ownsRow w.heap.size 5 1 (.slice A m c) m ((gapB l k).flatMap u8c) ∧ Hid (∀ j : Nat, j < k → 0 ≤ gapAt l j) ∧ Below w.heap.size w wr
theorem rises_next {l : List Int} {k : Nat} (h : 0 ≤ gapAt l k) (H : ∀ j : Nat, j < k → 0 ≤ gapAt l j) : ∀ j : Nat, j < k + 1 → 0 ≤ gapAt l j := by
  intro j hj
  by_cases e : j < k
  · exact H j e
  · obtain rfl : j = k := by omega
    exact h
theorem range_next {l : List Int} {k : Nat} {y : Int} (hy : l[k]? = some y) (h : 0 ≤ y ∧ y ≤ 1152921504606846976) (H : ∀ (j : Nat) (x : Int), j < k → l[j]? = some x → 0 ≤ x ∧ x ≤ 1152921504606846976) : ∀ (j : Nat) (x : Int), j < k + 1 → l[j]? = some x → 0 ≤ x ∧ x ≤ 1152921504606846976 := by
  intro j x hj hx
  by_cases e : j < k
  · exact H j x e hx
  · obtain rfl : j = k := by omega
    rw [hy] at hx
    injection hx with hx
    subst hx
    exact h
set_option maxHeartbeats 4000000 in
theorem gaps_walk (l : List Int) (w : World) (A : Option Addr) (n c : Nat) (hr : Rd w w.heap.size A 1 n (l.flatMap i64c)) (hL : l.length = n) (hn : n ≤ 9223372036854775807) :
    Calls Try.prog 65 #[.slice A n c] w (RetL 5 1 w (gapsV l).1.length ((gapsV l).1.flatMap u8c) (gapsV l).2) := by
  by_cases hbig : 2000 < n
  · have e : gapsV l = ([], 1) := by unfold gapsV; rw [if_pos (by omega)]
    rw [e]
    clear hL hr
    go_enter Try.func65, Try.ntmps65
    go_wp2_with fail
    go_ret2
    exact ⟨none, 0, rfl, World.ownsRow_nil _ _ _ _, Below.refl _ _⟩
  · have hsm : (n : Int) ≤ 2000 := by omega
    have HL := hid hL
    have HN := hid (show n ≤ 2000 by omega)
    have V2 : Hid (∀ (k : Nat) (x : Int), l[k]? = some x → ¬ (0 ≤ x ∧ x ≤ 1152921504606846976) → gapsV l = ([], 2)) := hid (fun k x hx h => by unfold gapsV; rw [if_neg (by omega), if_neg (fun hp => h (hp k x hx))])
    have V3 : Hid (Packable l → ∀ k : Nat, k < n → ¬ 0 ≤ gapAt l k → gapsV l = ([], 3)) := hid (fun hp k hk h => by unfold gapsV; rw [if_neg (by omega), if_pos hp, if_neg (fun hs => h (hs k (by omega)))])
    have V0 : Hid (Packable l → Rises l → gapsV l = (gapB l n, 0)) := hid (fun hp hs => by unfold gapsV; rw [if_neg (by omega), if_pos hp, if_pos hs, hL])
    generalize gapsV l = v at V2 V3 V0 ⊢
    obtain ⟨vl, vr⟩ := v
    clear hL hbig
    go_enter Try.func65, Try.ntmps65
    go_wp2_with fail
    go_loop [15] (RangeRel l) (fun i => n - (intOf i).toNat)
    case atStart => exact ⟨0, by omega, rfl, hid (fun j x h => by omega)⟩
    case round =>
      obtain ⟨k, hk, rfl, HO⟩ := hrel
      by_cases hlt : k < n
      · obtain ⟨x, hx⟩ : ∃ x, l[k]? = some x := ⟨_, List.getElem?_eq_getElem (by rw [HL.out]; exact hlt)⟩
        obtain ⟨b, off, rfl, hb, c0⟩ := int_cell hr HL.out hx
        have HX := hid hx
        clear hx
        by_cases hok : 0 ≤ x ∧ x ≤ 1152921504606846976
        · have HK := hid hok
          obtain ⟨h1, h2⟩ := hok
          go_wp2_with fail
          go_round
          case rel => exact ⟨k + 1, by rw [HL.out]; omega, by go_num, hid (range_next HX.out HK.out HO.out)⟩
          case measure => simp [intOf]; omega
        · have HV := hid (V2.out k x HX.out hok)
          have hd : x < 0 ∨ (0 ≤ x ∧ 1152921504606846976 < x) := by omega
          clear hok
          rcases hd with h1 | ⟨h1, h2⟩
          all_goals
            go_wp2_with fail
            go_ret2
            have hv := HV.out
            injection hv with hv1 hv2
            subst hv1
            subst hv2
            exact ⟨none, 0, rfl, World.ownsRow_nil _ _ _ _, Below.refl _ _⟩
      · have HP : Hid (Packable l) := hid (fun j x hx => HO.out j x (by have := (List.getElem?_eq_some_iff.1 hx).1; have := HL.out; omega) hx)
        have hp := hid (fun w => put_walk (n : Int) (by omega) (by omega) w)
        have hpl := pack_len (n : Int)
        go_wp2_with fail
        refine (hp.out _).mono ?_
        rintro e w1 ⟨A1, q1, rfl, o1, b1⟩
        go_wp2_with fail
        go_loopw [6, 7, 32] (GapsRel l w) (fun _ _ i _ => n - (intOf i).toNat)
        case atStart =>
          have e0 : gapB l 0 = pack (n : Int) := by unfold gapB; rw [HL.out]; simp
          exact ⟨0, (pack (n : Int)).length, q1, A1, 0, by omega, hid (by rw [e0]), by omega, rfl, hid rfl, by omega, by omega, rfl, rfl, by rw [e0]; exact o1, hid (fun j h => by omega), b1⟩
        case round =>
          obtain ⟨j, m, c', A', q, hj, HM, hm10, rfl, HQ, hq0, hq1, rfl, rfl, hown, HS, hbel⟩ := hrel
          by_cases hlt2 : j < n
          · obtain ⟨x, hx⟩ : ∃ x, l[j]? = some x := ⟨_, List.getElem?_eq_getElem (by rw [HL.out]; exact hlt2)⟩
            obtain ⟨b, off, rfl, hb, c0⟩ := int_cell (hr.below hbel) HL.out hx
            obtain ⟨hx0, hx1⟩ := HP.out j x hx
            have hg : gapAt l j = x - q := by unfold gapAt; rw [← HQ.out]; simp [List.getD, hx]
            have HG := hid hg
            have HX := hid hx
            clear hx hg
            by_cases hlow : x < q
            · have HV := hid (V3.out HP.out j hlt2 (by rw [HG.out]; omega))
              go_wp2_with fail
              go_ret2
              have hv := HV.out
              injection hv with hv1 hv2
              subst hv1
              subst hv2
              exact ⟨none, 0, rfl, World.ownsRow_nil _ _ _ _, hbel⟩
            · have hp2 := hid (fun w => put_walk (x - q) (by omega) (by omega) w)
              have hpl2 := (pack_len (x - q)).1
              have hj2 : j < 2000 := by have := HN.out; omega
              have hj3 : (m + (pack (x - q)).length) * 1 ≤ 140737488355328 := by omega
              have HGB := hid (gapB_succ l j)
              have hxq : q ≤ x := by omega
              generalize hpk : pack (x - q) = pk at *
              have HPK := hid hpk
              clear hpk
              go_wp2_with fail
              refine (hp2.out _).mono ?_
              rintro e w2 ⟨A2, q2, rfl, o2, b2⟩
              have hown2 := own_below (base' := w.heap.size) hown b2 (Nat.le_refl _)
              go_wp2_with (at_builtin; refine wp_app1 _ rfl rfl el_bytes rfl hown2 rfl (rd_own o2) (one_u8 pk) hj3 (Nat.le_trans hbel.size b2.size) ?_; intro A3 c3 w3 hown3 hb3 hg3)
              go_roundw
              case rel =>
                have e1 : gapB l (j + 1) = gapB l j ++ pk := by rw [HGB.out, HG.out, HPK.out]
                exact ⟨j + 1, m + pk.length, c3, A3, x, by rw [HL.out]; omega, hid (by rw [e1, List.length_append, ← HM.out]), by omega, by go_num, hid (by unfold lastv; rw [if_neg (by omega)]; have := HX.out; simp [List.getD, this]), hx0, hx1, rfl, rfl, by rw [e1, List.flatMap_append]; exact hown3, hid (rises_next (by rw [HG.out]; omega) HS.out), (bT hbel b2).trans hb3⟩
              case measure => simp [intOf]; omega
          · obtain rfl : j = n := by have := HL.out; omega
            have hv := V0.out HP.out (fun i hi => HS.out i (by have := HL.out; omega))
            have HVV := hid hv
            clear hv hm10 HS HQ V0 V2 V3
            go_wp2_with fail
            go_ret2
            have hv := HVV.out
            injection hv with hv1 hv2
            rw [hv1, hv2, ← HM.out]
            exact ⟨A', c', rfl, hown, hbel⟩
end Go.Proofs.Ytiemcicgohldeaa
