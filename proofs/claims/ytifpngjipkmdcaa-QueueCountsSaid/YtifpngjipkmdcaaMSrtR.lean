/- The document's IsOrdered. -/
import Derived.Test.YtifpngjipkmdcaaMSrt
namespace Go.Proofs.Ytifpngjipkmdcaa
open Go.ChangeShapes Go.WideShapes Go.ChangeAt Go.RowKit
set_option linter.unusedVariables false
set_option linter.unusedSimpArgs false
theorem ahead_walk (a b : Mail) (w : World) : Calls Try.prog 85 #[.agg #[.int .i64 a.to, .int .i64 a.val], .agg #[.int .i64 b.to, .int .i64 b.val]] w fun e w' => e = .returned (.bool (mlt a b)) ∧ Below w.heap.size w w' := by
  generalize hF : mlt a b = F
  have HF := hid hF
  clear hF
  by_cases h : a.to = b.to
  · have HV : Hid (F = decide (a.val < b.val)) := hid (by rw [← HF.out]; simp [mlt, h])
    have hb : (a.to != b.to) = false := by simpa using h
    go_enter Try.func85, Try.ntmps85
    go_wp2_with fail
    go_ret
    exact ⟨by rw [HV.out]; rfl, bA (bA (Below.refl _ _) _) _⟩
  · have HV : Hid (F = decide (a.to < b.to)) := hid (by rw [← HF.out]; simp [mlt, h])
    have hb : (a.to != b.to) = true := by simpa using h
    go_enter Try.func85, Try.ntmps85
    go_wp2_with fail
    go_ret
    exact ⟨by rw [HV.out]; rfl, bA (bA (Below.refl _ _) _) _⟩
set_option maxRecDepth 100000 in
set_option maxHeartbeats 4000000 in
theorem isOrdered_walk (l : List Mail) (w : World) (A : Option Addr) (c : Nat) (hr : Rd w w.heap.size A 2 l.length (l.flatMap Mail.cells)) (hl : l.length ≤ 140737488355328) :
    Calls Try.prog 45 #[.slice A l.length c] w fun e w' => e = .returned (.bool (ordB l)) ∧ Below w.heap.size w w' := by
  generalize hF : ordB l = F
  have HF := hid hF
  clear hF
  go_enter Try.func45, Try.ntmps45
  go_wp2_with fail
  go_loopw [3] (fun i wr => ∃ k : Nat, i = .int .i64 ((k : Int) + 1) ∧ k ≤ l.length ∧ Below w.heap.size w wr ∧ Hid (∀ j, j < k → adj l j)) (fun i _ => l.length + 1 - (intOf i).toNat)
  case atStart => exact ⟨0, by go_num, by omega, Below.refl _ _, hid fun j hj => by omega⟩
  case round =>
    obtain ⟨m, rfl, hk, hbel, HO⟩ := hrel
    by_cases hlt : m + 1 < l.length
    · obtain ⟨x, hx⟩ : ∃ x, l[m + 1]? = some x := ⟨_, List.getElem?_eq_getElem (by omega)⟩
      obtain ⟨y, hy⟩ : ∃ y, l[m]? = some y := ⟨_, List.getElem?_eq_getElem (by omega)⟩
      obtain ⟨b, off, rfl, hb, c0, c1⟩ := mcells (hr.below hbel) rfl hx
      obtain ⟨b', off', hbb, hb', d0, d1⟩ := mcells (hr.below hbel) rfl hy
      injection hbb with hbb
      injection hbb with e1 e2
      subst e1 e2
      have HO2 := hid fun q => ahead_walk x y (wr.drewN q)
      have HX := hid hx
      have HY := hid hy
      have hbr := hbel.size
      have hm1 : (m : Int) + 1 < (l.length : Int) := by omega
      have hm2 : (0 : Int) ≤ (m : Int) + 1 := by omega
      have hm3 : (m : Int) + 1 ≤ (l.length : Int) := by omega
      have hm4 : (m : Int) < (l.length : Int) := by omega
      have hm5 : (0 : Int) ≤ (m : Int) := by omega
      have hw1 : IntKind.i64.wrap (m : Int) = (m : Int) := IntWalk.i64_in _ (by omega)
      have hw2 : IntKind.i64.wrap ((m : Int) + 1 - 1) = (m : Int) := by rw [show (m : Int) + 1 - 1 = (m : Int) by omega]; exact hw1
      have hm6 : (m : Int) ≤ (l.length : Int) := by omega
      have hbr2 : b < wr.heap.size := by omega
      have hk : ∀ (q : Nat) (w3 : World), Below (wr.drewN q).heap.size (wr.drewN q) w3 → w3.cell? ⟨b, off + (m + 1) * 2, none⟩ = some (.int .i64 x.to) ∧ w3.cell? ⟨b, off + (m + 1) * 2 + 1, none⟩ = some (.int .i64 x.val) ∧ w3.cell? ⟨b, off + m * 2, none⟩ = some (.int .i64 y.to) ∧ w3.cell? ⟨b, off + m * 2 + 1, none⟩ = some (.int .i64 y.val) := fun q w3 h3 =>
        ⟨keepb h3 (by simpa using c0), keepb h3 (by simpa using c1), keepb h3 (by simpa using d0), keepb h3 (by simpa using d1)⟩
      have HK := hid hk
      clear hx hy
      cases hv : mlt x y with
      | true =>
        rw [hv] at HO2
        have HV : Hid (F = false) := hid (by rw [← HF.out]; exact ordB_no HY.out HX.out hv)
        go_wp2_with fail
        go_region_held3 (fun w' => w'.cell? ⟨b, off + (m + 1) * 2, none⟩ = some (.int .i64 x.to) ∧ w'.cell? ⟨b, off + (m + 1) * 2 + 1, none⟩ = some (.int .i64 x.val) ∧ w'.cell? ⟨b, off + m * 2, none⟩ = some (.int .i64 y.to) ∧ w'.cell? ⟨b, off + m * 2 + 1, none⟩ = some (.int .i64 y.val)) (first | exact HK.out _ _ b3 | go_keep) ((go_at_call 85; refine (HO2.out 1).mono ?_; rintro r w3 ⟨rfl, b3⟩))
        all_goals
          have hB : Below w.heap.size w w3 := (below_drewN hbel 1).trans (b3.mono (by simpa using hbr))
          go_wp2_with fail
          go_ret
          exact ⟨by rw [HV.out]; rfl, hB⟩
      | false =>
        rw [hv] at HO2
        have HV : Hid (∀ j, j < m + 1 → adj l j) := hid fun j hj => by
          rcases Nat.lt_or_ge j m with h | h
          · exact HO.out j h
          · obtain rfl : j = m := by omega
            intro u v hu hv2
            rw [HY.out] at hu
            rw [HX.out] at hv2
            injection hu with hu
            injection hv2 with hv2
            rw [← hu, ← hv2]
            exact hv
        go_wp2_with fail
        go_region_held3 (fun w' => w'.cell? ⟨b, off + (m + 1) * 2, none⟩ = some (.int .i64 x.to) ∧ w'.cell? ⟨b, off + (m + 1) * 2 + 1, none⟩ = some (.int .i64 x.val) ∧ w'.cell? ⟨b, off + m * 2, none⟩ = some (.int .i64 y.to) ∧ w'.cell? ⟨b, off + m * 2 + 1, none⟩ = some (.int .i64 y.val)) (first | exact HK.out _ _ b3 | go_keep) ((go_at_call 85; refine (HO2.out 1).mono ?_; rintro r w3 ⟨rfl, b3⟩))
        all_goals
          have hB : Below w.heap.size w w3 := (below_drewN hbel 1).trans (b3.mono (by simpa using hbr))
          go_wp2_with fail
          go_roundw
          case rel => exact ⟨m + 1, by go_num, by omega, hB, HV⟩
          case measure => simp [intOf] <;> omega
    · have hk1 : ¬ ((m : Int) + 1 < (l.length : Int)) := by omega
      have hall : ∀ i, adj l i := fun i => by
        rcases Nat.lt_or_ge i m with h | h
        · exact HO.out i h
        · exact adj_out (by omega)
      have HV : Hid (F = true) := hid (by rw [← HF.out]; exact ordB_yes hall)
      go_wp2_with fail
      go_ret
      exact ⟨by rw [HV.out]; rfl, hbel⟩
end Go.Proofs.Ytifpngjipkmdcaa
