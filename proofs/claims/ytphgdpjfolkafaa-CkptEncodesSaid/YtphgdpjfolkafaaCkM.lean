/- May something be saved? -/
import Derived.Test.YtphgdpjfolkafaaCkP
import Derived.Test.YtphgdpjfolkafaaMSrtR
namespace Go.Proofs.Ytphgdpjfolkafaa
open Go.ChangeShapes Go.WideShapes Go.ChangeAt Go.RowKit
set_option linter.unusedVariables false
set_option linter.unusedSimpArgs false
theorem vals_cells {w : World} {B n k : Nat} {A : Option Addr} {l : List Val} {x : Val} (h : Rd w B A 2 n (l.flatMap Val.cells)) (hl : l.length = n) (hk : l[k]? = some x) :
    ∃ b off, A = some ⟨b, off, none⟩ ∧ b < B ∧ w.cell? ⟨b, off + k * 2, none⟩ = some (.int .i64 x.a) ∧ w.cell? ⟨b, off + k * 2 + 1, none⟩ = some (.int .i64 x.label) := by
  have hk' := (List.getElem?_eq_some_iff.1 hk).1
  obtain ⟨b, off, rfl, hb, hc⟩ := h.2 (by omega)
  obtain ⟨_, hg⟩ := flatMap_get (cells := Val.cells) (sz := 2) (l := l) (fun _ _ => rfl)
  refine ⟨b, off, rfl, hb, ?_, ?_⟩
  · exact hc _ _ (hg k x 0 _ hk rfl)
  · rw [Nat.add_assoc]; exact hc _ _ (hg k x 1 _ hk rfl)
def valB1 (x : Val) : Bool := inB x.a (-1) 4398046511104 && inB x.label (-1) 199
theorem valB1_yes {x : Val} (h : svVal x) : valB1 x = true := by
  obtain ⟨h1, h2, h3⟩ := h
  unfold valB1; rw [inB_yes h1, inB_yes ⟨h2, h3⟩]; rfl
theorem valB1_no {x : Val} (h : ¬ svVal x) : valB1 x = false := by
  unfold valB1
  by_cases h1 : -1 ≤ x.a ∧ x.a ≤ 4398046511104
  · rw [inB_no (n := x.label) (fun h2 => h ⟨h1, h2⟩)]; simp
  · rw [inB_no h1]; rfl
def mlB (m : Mail) : Bool := inB m.to 0 199 && inB m.val 0 4398046511104
theorem mlB_yes {m : Mail} (h : mlOk m) : mlB m = true := by
  obtain ⟨h1, h2, h3⟩ := h
  unfold mlB; rw [inB_yes h1, inB_yes ⟨h2, h3⟩]; rfl
theorem mlB_no {m : Mail} (h : ¬ mlOk m) : mlB m = false := by
  unfold mlB
  by_cases h1 : 0 ≤ m.to ∧ m.to ≤ 199
  · rw [inB_no (n := m.val) (fun h2 => h ⟨h1, h2⟩)]; simp
  · rw [inB_no h1]; rfl
theorem svB_val {s : Saved} {k : Nat} {x : Val} (h : s.vals[k]? = some x) (hx : ¬ svVal x) : svB s = false := svB_no fun hc => hx (hc.2.1 x (List.mem_of_getElem? h))
theorem svB_mail {s : Saved} {k : Nat} {x : Mail} (h : s.mail[k]? = some x) (hx : ¬ mlOk x) : svB s = false := svB_no fun hc => hx (hc.2.2.1 x (List.mem_of_getElem? h))
theorem all_of_get {α : Type} {p : α → Prop} {l : List α} {n : Nat} (hn : l.length ≤ n) (h : ∀ (i : Nat) x, i < n → l[i]? = some x → p x) : ∀ x ∈ l, p x := fun x hx => by
  obtain ⟨i, hi, e⟩ := List.mem_iff_getElem.1 hx
  exact h i x (by omega) (by rw [List.getElem?_eq_getElem hi, e])
theorem get_more {α : Type} {p : α → Prop} {l : List α} {k : Nat} {y : α} (h : ∀ (i : Nat) x, i < k → l[i]? = some x → p x) (hy : l[k]? = some y) (py : p y) : ∀ (i : Nat) x, i < k + 1 → l[i]? = some x → p x := fun i x hi hx => by
  rcases Nat.lt_or_eq_of_le (Nat.le_of_lt_succ hi) with hi | rfl
  · exact h i x hi hx
  · rw [hy] at hx; injection hx with hx; subst hx; exact py
def VRel (W : World) (l : List Val) (i : Value) (wr : World) : Prop := ∃ k : Nat, k ≤ l.length ∧ i = .int .i64 k ∧ Hid (∀ (j : Nat) x, j < k → l[j]? = some x → svVal x) ∧ Below W.heap.size W wr
def MRel (W : World) (l : List Mail) (i : Value) (wr : World) : Prop := ∃ k : Nat, k ≤ l.length ∧ i = .int .i64 k ∧ Hid (∀ (j : Nat) x, j < k → l[j]? = some x → mlOk x) ∧ Below W.heap.size W wr
set_option maxRecDepth 100000 in
set_option maxHeartbeats 8000000 in
theorem may_walk (s : Saved) (w : World) (A B : Option Addr) (c d : Nat) (hv : Rd w w.heap.size A 2 s.vals.length (s.vals.flatMap Val.cells)) (hm : Rd w w.heap.size B 2 s.mail.length (s.mail.flatMap Mail.cells)) :
    Calls Try.prog 51 #[.agg (svC s A c B d)] w fun e w' => e = .returned (.bool (svB s)) ∧ Below w.heap.size w w' := by
  generalize hF : svB s = F
  have HF := hid hF
  clear hF
  have HNO : Hid (¬ svOk s → F = false) := hid fun h => by rw [← HF.out]; exact svB_no h
  obtain ⟨st, ph, fr, vs, ms⟩ := s
  unfold svC
  simp only at *
  have hcase : st < 0 ∨ (¬ st < 0 ∧ 100000 < st) ∨ ((¬ st < 0 ∧ ¬ 100000 < st) ∧ (ph ≠ 0 ∧ ph ≠ 1)) ∨ ((¬ st < 0 ∧ ¬ 100000 < st) ∧ (ph = 0 ∨ ph = 1) ∧ 200 < (vs.length : Int)) ∨ ((¬ st < 0 ∧ ¬ 100000 < st) ∧ (ph = 0 ∨ ph = 1) ∧ ¬ 200 < (vs.length : Int) ∧ 5000 < (ms.length : Int)) ∨ ((¬ st < 0 ∧ ¬ 100000 < st) ∧ (ph = 0 ∨ ph = 1) ∧ ¬ 200 < (vs.length : Int) ∧ ¬ 5000 < (ms.length : Int)) := by omega
  rcases hcase with h1 | ⟨h1, h2⟩ | ⟨⟨h1, h2⟩, h3, h4⟩ | ⟨⟨h1, h2⟩, h3, h4⟩ | ⟨⟨h1, h2⟩, h3, h4, h5⟩ | ⟨⟨h1, h2⟩, h3, h4, h5⟩
  · have HV : Hid (F = false) := hid (HNO.out fun h => by have := h.1.1.1; simp only at this; omega)
    go_enter Try.func51, Try.ntmps51
    go_wp2_with fail
    go_ret
    exact ⟨by rw [HV.out]; rfl, bA (Below.refl _ _) _⟩
  · have HV : Hid (F = false) := hid (HNO.out fun h => by have := h.1.1.2; simp only at this; omega)
    go_enter Try.func51, Try.ntmps51
    go_wp2_with fail
    go_ret
    exact ⟨by rw [HV.out]; rfl, bA (Below.refl _ _) _⟩
  · have HV : Hid (F = false) := hid (HNO.out fun h => by have := h.1.2.1; simp only at this; omega)
    have hb1 : (ph != 0) = true := by simpa using h3
    have hb2 : (ph != 1) = true := by simpa using h4
    go_enter Try.func51, Try.ntmps51
    go_wp2_with fail
    go_ret
    exact ⟨by rw [HV.out]; rfl, bA (Below.refl _ _) _⟩
  · have HV : Hid (F = false) := hid (HNO.out fun h => by have := h.1.2.2.1; simp only at this; omega)
    rcases h3 with rfl | rfl
    all_goals
      go_enter Try.func51, Try.ntmps51
      go_wp2_with fail
      go_ret
      exact ⟨by rw [HV.out]; rfl, bA (Below.refl _ _) _⟩
  · have HV : Hid (F = false) := hid (HNO.out fun h => by have := h.1.2.2.2; simp only at this; omega)
    rcases h3 with rfl | rfl
    all_goals
      go_enter Try.func51, Try.ntmps51
      go_wp2_with fail
      go_ret
      exact ⟨by rw [HV.out]; rfl, bA (Below.refl _ _) _⟩
  · have HFIT : Hid (svFits ⟨st, ph, fr, vs, ms⟩) := hid ⟨⟨by dsimp only; omega, by dsimp only; omega⟩, by dsimp only; omega, by dsimp only; omega, by dsimp only; omega⟩
    clear HNO
    obtain ⟨W, hW⟩ : ∃ W, W = w.alloc (.cells #[.int .i64 st, .int .i64 ph, .bool fr, .slice A vs.length c, .slice B ms.length d] 36) := ⟨_, rfl⟩
    have b0 : Below w.heap.size w W := by rw [hW]; exact bA (Below.refl _ _) _
    have hWs : W.heap.size = w.heap.size + 1 := by rw [hW]; simp
    have q3 : W.cell? ⟨w.heap.size, 3, none⟩ = some (.slice A vs.length c) := by rw [hW]; go_simp
    have q4 : W.cell? ⟨w.heap.size, 4, none⟩ = some (.slice B ms.length d) := by rw [hW]; go_simp
    rcases h3 with rfl | rfl
    all_goals
      go_enter Try.func51, Try.ntmps51
      go_wp2_with fail
      rw [← hW]
      clear hW
      go_loopw [42] (fun i wr => VRel W vs i wr) (fun i _ => vs.length - (intOf i).toNat)
      case atStart => exact ⟨0, by omega, rfl, hid fun i x h => by omega, Below.refl _ _⟩
      case round =>
        obtain ⟨k, hkl, rfl, HV1, hbel⟩ := hrel
        have q3 := keepb hbel q3
        have q4 := keepb hbel q4
        have hb0 := bT b0 hbel
        have hsz := hbel.size
        by_cases hlt : k < vs.length
        · obtain ⟨x, hx⟩ : ∃ x, vs[k]? = some x := ⟨_, List.getElem?_eq_getElem hlt⟩
          obtain ⟨b, off, rfl, hb, c0, c1⟩ := vals_cells (hv.below hb0) rfl hx
          have hkz : (k : Int) < (vs.length : Int) := by omega
          have HX := hid hx
          clear hx
          obtain ⟨xa, xl⟩ := x
          simp only at c0 c1
          have hcs : xa < -1 ∨ (¬ xa < -1 ∧ 4398046511104 < xa) ∨ ((¬ xa < -1 ∧ ¬ 4398046511104 < xa) ∧ xl < -1) ∨ ((¬ xa < -1 ∧ ¬ 4398046511104 < xa) ∧ ¬ xl < -1 ∧ 200 ≤ xl) ∨ ((¬ xa < -1 ∧ ¬ 4398046511104 < xa) ∧ ¬ xl < -1 ∧ ¬ 200 ≤ xl) := by omega
          rcases hcs with g1 | ⟨g1, g2⟩ | ⟨⟨g1, g2⟩, g3⟩ | ⟨⟨g1, g2⟩, g3, g4⟩ | ⟨⟨g1, g2⟩, g3, g4⟩
          rotate_right
          · go_wp2_with fail
            go_roundw
            case rel => exact ⟨k + 1, by omega, by go_num, hid (get_more HV1.out HX.out (by show (_ ∧ _) ∧ _ ∧ _; dsimp only; omega)), bA hbel _⟩
            case measure => simp [intOf]; omega
          all_goals
            have HV : Hid (F = false) := hid (by rw [← HF.out]; exact svB_val HX.out (fun h => by obtain ⟨⟨_, _⟩, _, _⟩ := h; simp only at *; omega))
            go_wp2_with fail
            go_ret
            exact ⟨by rw [HV.out]; rfl, bA hb0 _⟩
        · have HAV : Hid (∀ x ∈ vs, svVal x) := hid (all_of_get (by omega) HV1.out)
          have hkz : ¬ ((k : Int) < (vs.length : Int)) := by omega
          clear hkl HV1
          go_wp2_with fail
          go_loopw [68] (fun i wm => MRel wr ms i wm) (fun i _ => ms.length - (intOf i).toNat)
          case atStart => exact ⟨0, by omega, rfl, hid fun i x h => by omega, Below.refl _ _⟩
          case round =>
            obtain ⟨m, hml, rfl, HM1, hbm⟩ := hrel
            have q4 := keepb hbm q4
            have hb1 := bT hb0 hbm
            have hsz2 := hbm.size
            by_cases hlm : m < ms.length
            · obtain ⟨x, hx⟩ : ∃ x, ms[m]? = some x := ⟨_, List.getElem?_eq_getElem hlm⟩
              obtain ⟨b, off, rfl, hb, c0, c1⟩ := mail_cells (hm.below hb1) rfl hx
              have hmz : (m : Int) < (ms.length : Int) := by omega
              have HX := hid hx
              clear hx
              obtain ⟨xa, xl⟩ := x
              simp only at c0 c1
              have hcs : xa < 0 ∨ (¬ xa < 0 ∧ 200 ≤ xa) ∨ ((¬ xa < 0 ∧ ¬ 200 ≤ xa) ∧ xl < 0) ∨ ((¬ xa < 0 ∧ ¬ 200 ≤ xa) ∧ ¬ xl < 0 ∧ 4398046511104 < xl) ∨ ((¬ xa < 0 ∧ ¬ 200 ≤ xa) ∧ ¬ xl < 0 ∧ ¬ 4398046511104 < xl) := by omega
              rcases hcs with g1 | ⟨g1, g2⟩ | ⟨⟨g1, g2⟩, g3⟩ | ⟨⟨g1, g2⟩, g3, g4⟩ | ⟨⟨g1, g2⟩, g3, g4⟩
              rotate_right
              · go_wp2_with fail
                go_roundw
                case rel => exact ⟨m + 1, by omega, by go_num, hid (get_more HM1.out HX.out (by show (_ ∧ _) ∧ _ ∧ _; dsimp only; omega)), bA hbm _⟩
                case measure => simp [intOf]; omega
              all_goals
                have HV : Hid (F = false) := hid (by rw [← HF.out]; exact svB_mail HX.out (fun h => by obtain ⟨⟨_, _⟩, _, _⟩ := h; simp only at *; omega))
                go_wp2_with fail
                go_ret
                exact ⟨by rw [HV.out]; rfl, bA hb1 _⟩
            · have HAM : Hid (∀ x ∈ ms, mlOk x) := hid (all_of_get (by omega) HM1.out)
              have hmz : ¬ ((m : Int) < (ms.length : Int)) := by omega
              have HSO := hid (sort_walk ms wr B d ((hm.below hb1).any (by omega)) (by omega))
              have HN : Hid (¬ 5000 < ms.length) := hid (by omega)
              go_wp2_with fail
              refine HSO.out.mono ?_
              rintro e w2 ⟨A1, c1, rfl, o1, b1⟩
              have q4 := keepb b1 q4
              have hb2 := bT hb1 b1
              have HEQ := hid (eqM_walk (sortV ms).1 ms w2 A1 B _ _ c1 d (rd_own o1) ((hm.below hb2).any (by omega)) rfl rfl (by have := sortV_len ms; omega) (by omega))
              clear o1
              go_wp2_with fail
              refine HEQ.out.mono ?_
              rintro e w3 ⟨rfl, b3⟩
              go_wp2_with fail
              go_ret
              exact ⟨by rw [ord_srt HN.out, ← svB_eq HFIT.out HAV.out HAM.out, HF.out]; rfl, bT hb2 b3⟩
end Go.Proofs.Ytphgdpjfolkafaa
