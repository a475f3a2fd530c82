/- slices.Equal at mail. -/
import Derived.Test.YtphgdpjfolkafaaMem
namespace Go.Proofs.Ytphgdpjfolkafaa
open Go.ChangeShapes Go.WideShapes Go.ChangeAt Go.RowKit
set_option linter.unusedVariables false
set_option linter.unusedSimpArgs false
section
open Classical
noncomputable def eqL (l m : List Mail) : Bool := decide (l = m)
end
theorem eqL_yes {l m : List Mail} (h : l = m) : eqL l m = true := by unfold eqL; exact @decide_eq_true _ (_) h
theorem eqL_no {l m : List Mail} (h : l ≠ m) : eqL l m = false := by unfold eqL; exact @decide_eq_false _ (_) h
theorem mail_cells {w : World} {B n k : Nat} {A : Option Addr} {l : List Mail} {x : Mail} (h : Rd w B A 2 n (l.flatMap Mail.cells)) (hl : l.length = n) (hk : l[k]? = some x) :
    ∃ b off, A = some ⟨b, off, none⟩ ∧ b < B ∧ w.cell? ⟨b, off + k * 2, none⟩ = some (.int .i64 x.to) ∧ w.cell? ⟨b, off + k * 2 + 1, none⟩ = some (.int .i64 x.val) := by
  have hk' := (List.getElem?_eq_some_iff.1 hk).1
  obtain ⟨b, off, rfl, hb, hc⟩ := h.2 (by omega)
  obtain ⟨_, hg⟩ := flatMap_get (cells := Mail.cells) (sz := 2) (l := l) (fun _ _ => rfl)
  refine ⟨b, off, rfl, hb, ?_, ?_⟩
  · exact hc _ _ (hg k x 0 _ hk rfl)
  · rw [Nat.add_assoc]; exact hc _ _ (hg k x 1 _ hk rfl)
set_option maxHeartbeats 1000000 in
theorem eqM_walk (l m : List Mail) (w : World) (A A' : Option Addr) (n n' c c' : Nat) (h1 : Rd w w.heap.size A 2 n (l.flatMap Mail.cells)) (h2 : Rd w w.heap.size A' 2 n' (m.flatMap Mail.cells)) (hl : l.length = n) (hm : m.length = n') (hn : n ≤ 140737488355328) (hn' : n' ≤ 140737488355328) :
    Calls Try.prog 95 #[.slice A n c, .slice A' n' c'] w fun e w' => e = .returned (.bool (eqL l m)) ∧ Below w.heap.size w w' := by
  generalize hF : eqL l m = F
  have HF := hid hF
  have HL := hid hl
  have HM := hid hm
  clear hF hl hm
  by_cases he : n = n'
  · obtain rfl : n = n' := he
    have hez : ((n : Int) != (n : Int)) = false := by simp
    go_enter Try.func95, Try.ntmps95
    go_wp2_with fail
    go_loopw [13] (fun i wr => ∃ k : Nat, k ≤ n ∧ i = .int .i64 k ∧ Below w.heap.size w wr ∧ Hid (l.take k = m.take k)) (fun i _ => n - (intOf i).toNat)
    case atStart => exact ⟨0, by omega, rfl, Below.refl _ _, hid (by simp)⟩
    case round =>
      obtain ⟨k, hk, rfl, hbel, HT⟩ := hrel
      by_cases hlt : k < n
      · obtain ⟨x, hx⟩ : ∃ x, l[k]? = some x := ⟨_, List.getElem?_eq_getElem (by rw [HL.out]; exact hlt)⟩
        obtain ⟨y, hy⟩ : ∃ y, m[k]? = some y := ⟨_, List.getElem?_eq_getElem (by rw [HM.out]; exact hlt)⟩
        obtain ⟨b, off, rfl, hb, c0, c1⟩ := mail_cells (h1.below hbel) HL.out hx
        obtain ⟨b', off', rfl, hb', d0, d1⟩ := mail_cells (h2.below hbel) HM.out hy
        have hkz : (k : Int) < (n : Int) := by omega
        have HX := hid hx
        have HY := hid hy
        clear hx hy
        obtain ⟨xt, xv⟩ := x
        obtain ⟨yt, yv⟩ := y
        simp only at c0 c1 d0 d1
        by_cases ht : xt = yt
        · subst ht
          by_cases hv : xv = yv
          · subst hv
            go_wp2_with fail
            go_quiet (fail)
            go_wp2_with fail
            go_roundw
            case rel => exact ⟨k + 1, by omega, by go_num, below_drewN hbel _, hid (by rw [take_nextV HX.out, take_nextV HY.out, HT.out])⟩
            case measure => simp [intOf]; omega
          · have HV : Hid (F = false) := hid (by rw [← HF.out]; exact eqL_no fun e => by have := HX.out; rw [e, HY.out] at this; injection this with this; injection this with _ h; exact hv h.symm)
            have hvb : (xv == yv) = false := by simpa using hv
            clear hv
            go_wp2_with fail
            go_quiet (fail)
            go_wp2_with fail
            go_ret
            exact ⟨by rw [HV.out]; rfl, below_drewN hbel _⟩
        · have HV : Hid (F = false) := hid (by rw [← HF.out]; exact eqL_no fun e => by have := HX.out; rw [e, HY.out] at this; injection this with this; injection this with h _; exact ht h.symm)
          have htb : (xt == yt) = false := by simpa using ht
          clear ht
          go_wp2_with fail
          go_quiet (fail)
          go_wp2_with fail
          go_ret
          exact ⟨by rw [HV.out]; rfl, below_drewN hbel _⟩
      · obtain rfl : k = n := by omega
        have hkz : ¬ ((k : Int) < (k : Int)) := by omega
        have HV : Hid (F = true) := hid (by rw [← HF.out]; refine eqL_yes ?_; have := HT.out; rwa [List.take_of_length_le (by rw [HL.out]; exact Nat.le_refl _), List.take_of_length_le (by rw [HM.out]; exact Nat.le_refl _)] at this)
        go_wp2_with fail
        go_ret
        exact ⟨by rw [HV.out]; rfl, hbel⟩
  · have hez : ((n : Int) != (n' : Int)) = true := by simp; omega
    have hez2 : (n == n') = false := by simpa using he
    have HV : Hid (F = false) := hid (by rw [← HF.out]; exact eqL_no fun e => he (by rw [← HL.out, ← HM.out, e]))
    clear he
    go_enter Try.func95, Try.ntmps95
    go_wp2_with fail
    go_ret
    exact ⟨by rw [HV.out]; rfl, Below.refl _ _⟩
end Go.Proofs.Ytphgdpjfolkafaa
