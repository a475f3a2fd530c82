/- Is mail in order? slices.IsSortedFunc, the document's IsOrdered. -/
import Derived.Test.YtifpngjipkmdcaaMOrd
namespace Go.Proofs.Ytifpngjipkmdcaa
open Go.ChangeShapes Go.WideShapes Go.ChangeAt Go.RowKit
set_option linter.unusedVariables false
set_option linter.unusedSimpArgs false
/-- The pair at i and i + 1 is in order. -/
def adj (l : List Mail) (i : Nat) : Prop := ∀ x y, l[i]? = some x → l[i + 1]? = some y → mlt y x = false
section
open Classical
noncomputable def ordB (l : List Mail) : Bool := decide (∀ i, adj l i)
end
theorem ordB_yes {l : List Mail} (h : ∀ i, adj l i) : ordB l = true := by unfold ordB; exact @decide_eq_true _ (_) h
theorem ordB_no {l : List Mail} {i : Nat} {x y : Mail} (hx : l[i]? = some x) (hy : l[i + 1]? = some y) (h : mlt y x = true) : ordB l = false := by
  unfold ordB; rw [decide_eq_false_iff_not]; intro h2; have := h2 i x y hx hy; rw [h] at this; cases this
theorem adj_out {l : List Mail} {i : Nat} (h : l.length ≤ i + 1) : adj l i := fun x y hx hy => by
  have := (List.getElem?_eq_some_iff.1 hy).1; omega
theorem ordB_srt {l : List Mail} (h : ordB l = true) : Srt mlt l := by
  unfold ordB at h
  have h2 : ∀ i, adj l i := @of_decide_eq_true _ (_) h
  unfold Srt
  rw [List.pairwise_iff_getElem]
  intro i j hi hj hij
  obtain ⟨d, rfl⟩ : ∃ d, j = i + 1 + d := ⟨j - (i + 1), by omega⟩
  clear hij
  induction d with
  | zero => exact h2 i _ _ (List.getElem?_eq_getElem hi) (List.getElem?_eq_getElem hj)
  | succ d ih =>
    have h3 := ih (by omega)
    have h4 := h2 (i + 1 + d) _ _ (List.getElem?_eq_getElem (by omega)) (List.getElem?_eq_getElem (by omega))
    exact mlt_strict.le_trans h3 h4
/-- The cells of the mail 'k'. -/
theorem mcells {w : World} {B n k : Nat} {A : Option Addr} {l : List Mail} {x : Mail} (h : Rd w B A 2 n (l.flatMap Mail.cells)) (hl : l.length = n) (hk : l[k]? = some x) :
    ∃ b off, A = some ⟨b, off, none⟩ ∧ b < B ∧ w.cell? ⟨b, off + k * 2, none⟩ = some (.int .i64 x.to) ∧ w.cell? ⟨b, off + k * 2 + 1, none⟩ = some (.int .i64 x.val) := by
  have hkl := (List.getElem?_eq_some_iff.1 hk).1
  obtain ⟨b, off, rfl, hb, hc⟩ := h.2 (show 0 < n by omega)
  have hg := (flatMap_get (l := l) (cells := Mail.cells) (sz := 2) (fun _ _ => rfl)).2 k x
  have c0 := hc _ _ (hg 0 _ hk rfl)
  have c1 := hc _ _ (hg 1 _ hk rfl)
  simp only [Nat.add_zero, ← Nat.add_assoc] at c0 c1
  exact ⟨b, off, rfl, hb, c0, c1⟩
set_option maxRecDepth 100000 in
set_option maxHeartbeats 4000000 in
theorem isSorted_walk (l : List Mail) (w : World) (A : Option Addr) (c : Nat) (hr : Rd w w.heap.size A 2 l.length (l.flatMap Mail.cells)) (hl : l.length ≤ 140737488355328) :
    Calls Try.prog 42 #[.slice A l.length c, .func (.func 43) #[] #[]] w fun e w' => e = .returned (.bool (ordB l)) ∧ Below w.heap.size w w' := by
  generalize hF : ordB l = F
  have HF := hid hF
  clear hF
  go_enter Try.func42, Try.ntmps42
  go_wp2_with fail
  go_loopw [5] (fun i wr => ∃ k : Nat, i = .int .i64 ((k : Int) - 1) ∧ k ≤ l.length ∧ Below w.heap.size w wr ∧ Hid (∀ j, k ≤ j + 1 → adj l j)) (fun i _ => (intOf i + 1).toNat)
  case atStart => exact ⟨l.length, by go_num, by omega, Below.refl _ _, hid fun j hj => adj_out (by omega)⟩
  case round =>
    obtain ⟨k, rfl, hk, hbel, HO⟩ := hrel
    by_cases hlt : 2 ≤ k
    · obtain ⟨m, rfl⟩ : ∃ m, k = m + 2 := ⟨k - 2, by omega⟩
      obtain ⟨x, hx⟩ : ∃ x, l[m + 1]? = some x := ⟨_, List.getElem?_eq_getElem (by omega)⟩
      obtain ⟨y, hy⟩ : ∃ y, l[m]? = some y := ⟨_, List.getElem?_eq_getElem (by omega)⟩
      obtain ⟨b, off, rfl, hb, c0, c1⟩ := mcells (hr.below hbel) rfl hx
      obtain ⟨b', off', hbb, hb', d0, d1⟩ := mcells (hr.below hbel) rfl hy
      injection hbb with hbb
      injection hbb with e1 e2
      subst e1 e2
      have HO2 := hid fun q => order_walk x y (wr.drewN q)
      have HX := hid hx
      have HY := hid hy
      have hbr := hbel.size
      have e0 : (((m + 2 : Nat) : Int) - 1) = ((m + 1 : Nat) : Int) := by omega
      rw [e0]
      have hm1 : (m : Int) + 1 < (l.length : Int) := by omega
      have hm2 : (0 : Int) ≤ (m : Int) + 1 := by omega
      have hm3 : (m : Int) + 1 ≤ (l.length : Int) := by omega
      have hm4 : (m : Int) < (l.length : Int) := by omega
      have hm5 : (0 : Int) ≤ (m : Int) := by omega
      have hw1 : IntKind.i64.wrap (m : Int) = (m : Int) := IntWalk.i64_in _ (by omega)
      have hw2 : IntKind.i64.wrap ((m : Int) + 1 - 1) = (m : Int) := by rw [show (m : Int) + 1 - 1 = (m : Int) by omega]; exact hw1
      have hm6 : (m : Int) ≤ (l.length : Int) := by omega
      have hbr2 : b < wr.heap.size := by omega
      have hk : ∀ (q : Nat) (w3 : World), Below (wr.drewN q).heap.size (wr.drewN q) w3 → w3.cell? ⟨b, off + (m + 1) * 2, none⟩ = some (.int .i64 x.to) ∧ w3.cell? ⟨b, off + (m + 1) * 2 + 1, none⟩ = some (.int .i64 x.val) ∧ w3.cell? ⟨b, off + m * 2, none⟩ = some (.int .i64 y.to) ∧ w3.cell? ⟨b, off + m * 2 + 1, none⟩ = some (.int .i64 y.val) := fun q w3 h3 =>
        ⟨keepb h3 (by simpa using c0), keepb h3 (by simpa using c1), keepb h3 (by simpa using d0), keepb h3 (by simpa using d1)⟩
      have HK := hid hk
      clear hx hy
      cases hv : mlt x y with
      | true =>
        have HV : Hid (F = false) := hid (by rw [← HF.out]; exact ordB_no HY.out HX.out hv)
        have hd : decide (ordV x y < 0) = true := by rw [ordV_neg, hv]
        have hd2 : ordV x y < 0 := by simpa using hd
        go_wp2_with fail
        go_region_held3 (fun w' => w'.cell? ⟨b, off + (m + 1) * 2, none⟩ = some (.int .i64 x.to) ∧ w'.cell? ⟨b, off + (m + 1) * 2 + 1, none⟩ = some (.int .i64 x.val) ∧ w'.cell? ⟨b, off + m * 2, none⟩ = some (.int .i64 y.to) ∧ w'.cell? ⟨b, off + m * 2 + 1, none⟩ = some (.int .i64 y.val)) (first | exact HK.out _ _ b3 | go_keep) ((go_at_call 43; refine (HO2.out 1).mono ?_; rintro r w3 ⟨rfl, b3⟩))
        all_goals
          have hB : Below w.heap.size w w3 := (below_drewN hbel 1).trans (b3.mono (by simpa using hbr))
          go_wp2_with fail
          go_ret
          exact ⟨by rw [HV.out]; rfl, hB⟩
      | false =>
        have HV : Hid (∀ j, m + 1 ≤ j + 1 → adj l j) := hid fun j hj => by
          rcases Nat.lt_or_ge j (m + 1) with h | h
          · obtain rfl : j = m := by omega
            intro u v hu hv2
            rw [HY.out] at hu
            rw [HX.out] at hv2
            injection hu with hu
            injection hv2 with hv2
            rw [← hu, ← hv2]
            exact hv
          · exact HO.out j (by omega)
        have hd : decide (ordV x y < 0) = false := by rw [ordV_neg, hv]
        have hd2 : ¬ (ordV x y < 0) := by simpa using hd
        go_wp2_with fail
        go_region_held3 (fun w' => w'.cell? ⟨b, off + (m + 1) * 2, none⟩ = some (.int .i64 x.to) ∧ w'.cell? ⟨b, off + (m + 1) * 2 + 1, none⟩ = some (.int .i64 x.val) ∧ w'.cell? ⟨b, off + m * 2, none⟩ = some (.int .i64 y.to) ∧ w'.cell? ⟨b, off + m * 2 + 1, none⟩ = some (.int .i64 y.val)) (first | exact HK.out _ _ b3 | go_keep) ((go_at_call 43; refine (HO2.out 1).mono ?_; rintro r w3 ⟨rfl, b3⟩))
        all_goals
          have hB : Below w.heap.size w w3 := (below_drewN hbel 1).trans (b3.mono (by simpa using hbr))
          go_wp2_with fail
          go_roundw
          case rel => exact ⟨m + 1, by go_num, by omega, hB, HV⟩
          case measure => simp [intOf] <;> omega
    · have hk1 : ¬ ((0 : Int) < (k : Int) - 1) := by omega
      have HV : Hid (F = true) := hid (by rw [← HF.out]; exact ordB_yes fun i => HO.out i (by omega))
      go_wp2_with fail
      go_ret
      exact ⟨by rw [HV.out]; rfl, hbel⟩
end Go.Proofs.Ytifpngjipkmdcaa
