/- rounds.quiet: what becomes of a round in which nothing was said. -/
import Derived.Test.YteefemiieidpaaaRndS
import Derived.Test.YteefemiieidpaaaAnsW
namespace Go.Proofs.Yteefemiieidpaaa
open Go.ChangeShapes Go.WideShapes Go.ChangeAt Go.RowKit
set_option linter.unusedVariables false
set_option linter.unusedSimpArgs false
def lblB (x : Val) : Bool := x.label != -1
def lblAll (l : List Val) : Bool := l.all lblB
theorem lblAll_bad {l : List Val} {k : Nat} {x : Val} (h : l[k]? = some x) (hx : lblB x = false) : lblAll l = false := by
  unfold lblAll
  rw [List.all_eq_false]
  exact ⟨x, List.mem_of_getElem? h, by rw [hx]; decide⟩
theorem lblAll_yes {l : List Val} (h : ∀ (k : Nat) x, k < l.length → l[k]? = some x → lblB x = true) : lblAll l = true := by
  unfold lblAll
  rw [List.all_eq_true]
  intro x hx
  obtain ⟨k, hk, e⟩ := List.mem_iff_getElem.1 hx
  exact h k x hk (by rw [List.getElem?_eq_getElem hk, e])
theorem notLbl_walk (x : Val) (w : World) : Calls Try.prog 50 #[.agg #[.int .i64 x.a, .int .i64 x.label]] w fun e w' => e = .returned (.bool (!lblB x)) ∧ Below w.heap.size w w' := by
  cases hx : lblB x with
  | true =>
    have hb : (x.label == -1) = false := by unfold lblB at hx; simpa using hx
    clear hx
    go_enter Try.func50, Try.ntmps50
    go_wp2_with fail
    go_ret
    exact ⟨rfl, bA (Below.refl _ _) _⟩
  | false =>
    have hb : (x.label == -1) = true := by unfold lblB at hx; simpa using hx
    clear hx
    go_enter Try.func50, Try.ntmps50
    go_wp2_with fail
    go_ret
    exact ⟨rfl, bA (Below.refl _ _) _⟩
set_option maxHeartbeats 2000000 in
theorem idxLbl_walk (l : List Val) (w : World) (A : Option Addr) (c : Nat) (hr : Rd w w.heap.size A 2 l.length (l.flatMap Val.cells)) (hl : l.length ≤ 140737488355328) :
    Calls Try.prog 69 #[.slice A l.length c, .func (.func 50) #[] #[]] w fun e w' => ∃ i : Int, e = .returned (.int .i64 i) ∧ (lblAll l = true → i = -1) ∧ (lblAll l = false → 0 ≤ i) ∧ Below w.heap.size w w' := by
  go_enter Try.func69, Try.ntmps69
  go_wp2_with fail
  go_loopw [8] (fun i wr => ∃ k : Nat, k ≤ l.length ∧ i = .int .i64 (k : Nat) ∧ Below w.heap.size w wr ∧ Hid (∀ (j : Nat) x, j < k → l[j]? = some x → lblB x = true)) (fun i _ => l.length - (intOf i).toNat)
  case atStart => exact ⟨0, Nat.zero_le _, rfl, Below.refl _ _, hid (fun j x h => by omega)⟩
  case round =>
    obtain ⟨k, hk, rfl, hbel, HN⟩ := hrel
    by_cases hlt : k < l.length
    · obtain ⟨x, hx⟩ : ∃ x, l[k]? = some x := ⟨_, List.getElem?_eq_getElem hlt⟩
      obtain ⟨b, off, rfl, hb, c0, c1⟩ := vcells (hr.below hbel) rfl hx
      have hkz : (k : Int) < (l.length : Int) := by omega
      have HX := hid hx
      have HC := hid (notLbl_walk x wr)
      clear hx
      cases hn : lblB x with
      | false =>
        rw [hn] at HC
        have HV := hid (lblAll_bad HX.out hn)
        obtain ⟨xt, xv⟩ := x
        simp only [Bool.not_false] at HC c0 c1
        clear hn
        go_wp2_with fail
        refine HC.out.mono ?_
        rintro e w2 ⟨rfl, b2⟩
        go_wp2_with fail
        go_ret
        exact ⟨_, rfl, (fun h => by rw [HV.out] at h; cases h), (fun _ => by omega), bT hbel b2⟩
      | true =>
        rw [hn] at HC
        have HN2 := hid hn
        have HNX : Hid (∀ (j : Nat) y, j < k + 1 → l[j]? = some y → lblB y = true) := hid (fun j y hj hy => by
          by_cases e : j = k
          · subst e
            have h2 := HX.out
            rw [hy] at h2
            injection h2 with h2
            rw [h2]
            exact HN2.out
          · exact HN.out j y (by omega) hy)
        obtain ⟨xt, xv⟩ := x
        simp only [Bool.not_true] at HC c0 c1
        clear hn
        go_wp2_with fail
        refine HC.out.mono ?_
        rintro e w2 ⟨rfl, b2⟩
        go_wp2_with fail
        go_roundw
        case rel => exact ⟨k + 1, by omega, by go_num, bT hbel b2, HNX⟩
        case measure => (simp [intOf]) <;> omega
    · obtain rfl : k = l.length := by omega
      have HV : Hid (lblAll l = true) := hid (lblAll_yes HN.out)
      go_wp2_with fail
      go_ret
      exact ⟨-1, rfl, (fun _ => rfl), (fun h => by rw [HV.out] at h; cases h), hbel⟩
theorem anyLbl_walk (l : List Val) (w : World) (A : Option Addr) (c : Nat) (hr : Rd w w.heap.size A 2 l.length (l.flatMap Val.cells)) (hl : l.length ≤ 140737488355328) :
    Calls Try.prog 49 #[.slice A l.length c, .func (.func 50) #[] #[]] w fun e w' => e = .returned (.bool (!lblAll l)) ∧ Below w.heap.size w w' := by
  have HI := hid (idxLbl_walk l w A c hr hl)
  generalize lblAll l = F at *
  go_enter Try.func49, Try.ntmps49
  go_wp2_with fail
  refine HI.out.mono ?_
  rintro e w1 ⟨i, rfl, h1, h2, b1⟩
  cases F with
  | true =>
    have hi := h1 rfl
    subst hi
    clear h1 h2
    go_wp2_with fail
    go_ret
    exact ⟨rfl, b1⟩
  | false =>
    have hi := h2 rfl
    clear h1 h2
    go_wp2_with fail
    go_ret
    exact ⟨rfl, b1⟩
section
variable {N R : Nat} {w wr : World} {T : Tags} {j : Job} {EA : Option Addr} {ec : Nat} {st ph : Int} {fr dn : Bool} {VA : Option Addr} {vc : Nat} {vs : List Val} {MA : Option Addr} {mc : Nat} {m : List (ML Int)} {code : Int}
theorem RO.setPh (h : RO N R w wr T j EA ec st ph fr dn VA vc vs MA mc m code) (x : Int) : RO N R w (wr.setCell ⟨R, 5, none⟩ (.int .i64 x)) T j EA ec st x fr dn VA vc vs MA mc m code ∧ Keep (fun t => t = 1) T wr (wr.setCell ⟨R, 5, none⟩ (.int .i64 x)) := by
  have ks : Keep (fun t => t = 1) T wr (wr.setCell ⟨R, 5, none⟩ (.int .i64 x)) := Keep.refl.setCell (fun _ => h.obj.tag) _
  have hb : Below N wr (wr.setCell ⟨R, 5, none⟩ (.int .i64 x)) := ks.old h.t0 (by omega) (Nat.le_of_lt h.size)
  exact ⟨⟨h.obj.store 5 _, h.vals.keep ks (by omega) Agree.refl, h.mail.keep ks (by omega) Agree.refl, fun u x hx => (h.rows u x hx).keep ks (by omega) Agree.refl, h.edges.below hb, h.t0, h.bl.trans hb, h.nl⟩, ks⟩
theorem RO.setFr (h : RO N R w wr T j EA ec st ph fr dn VA vc vs MA mc m code) (x : Bool) : RO N R w (wr.setCell ⟨R, 6, none⟩ (.bool x)) T j EA ec st ph x dn VA vc vs MA mc m code ∧ Keep (fun t => t = 1) T wr (wr.setCell ⟨R, 6, none⟩ (.bool x)) := by
  have ks : Keep (fun t => t = 1) T wr (wr.setCell ⟨R, 6, none⟩ (.bool x)) := Keep.refl.setCell (fun _ => h.obj.tag) _
  have hb : Below N wr (wr.setCell ⟨R, 6, none⟩ (.bool x)) := ks.old h.t0 (by omega) (Nat.le_of_lt h.size)
  exact ⟨⟨h.obj.store 6 _, h.vals.keep ks (by omega) Agree.refl, h.mail.keep ks (by omega) Agree.refl, fun u x hx => (h.rows u x hx).keep ks (by omega) Agree.refl, h.edges.below hb, h.t0, h.bl.trans hb, h.nl⟩, ks⟩
theorem RO.setDn (h : RO N R w wr T j EA ec st ph fr dn VA vc vs MA mc m code) (x : Bool) : RO N R w (wr.setCell ⟨R, 7, none⟩ (.bool x)) T j EA ec st ph fr x VA vc vs MA mc m code ∧ Keep (fun t => t = 1) T wr (wr.setCell ⟨R, 7, none⟩ (.bool x)) := by
  have ks : Keep (fun t => t = 1) T wr (wr.setCell ⟨R, 7, none⟩ (.bool x)) := Keep.refl.setCell (fun _ => h.obj.tag) _
  have hb : Below N wr (wr.setCell ⟨R, 7, none⟩ (.bool x)) := ks.old h.t0 (by omega) (Nat.le_of_lt h.size)
  exact ⟨⟨h.obj.store 7 _, h.vals.keep ks (by omega) Agree.refl, h.mail.keep ks (by omega) Agree.refl, fun u x hx => (h.rows u x hx).keep ks (by omega) Agree.refl, h.edges.below hb, h.t0, h.bl.trans hb, h.nl⟩, ks⟩
end
/-- Phase, fresh and done behind a round in which nothing was said. -/
def quietV (k ph : Int) (vs : List Val) : Int × Bool × Bool :=
  if k ≠ 3 then (ph, false, true) else if ph = 0 then (1, true, false) else if lblAll vs = false then (0, true, false) else (ph, false, true)
set_option maxRecDepth 100000 in
set_option maxHeartbeats 4000000 in
theorem quiet_round {N R : Nat} {w w0 : World} {T : Tags} {j : Job} {EA : Option Addr} {ec : Nat} {st ph : Int} {VA : Option Addr} {vc : Nat} {vs : List Val} {MA : Option Addr} {mc : Nat} {m : List (ML Int)} {c0 : Int} (h0 : RO N R w w0 T j EA ec st ph false false VA vc vs MA mc m c0) (hv : vs.length ≤ 200) :
    Calls Try.prog 24 #[.pointer (some ⟨R, 0, none⟩)] w0 fun e w' => e = .returned (.tuple #[]) ∧
      RO N R w w' T j EA ec st (quietV j.kind ph vs).1 (quietV j.kind ph vs).2.1 (quietV j.kind ph vs).2.2 VA vc vs MA mc m c0 ∧ Keep (fun t => t = 1) T w0 w' := by
  have r8 := h0.obj.cell (i := 8) rfl
  have HC := hid (anyLbl_walk vs w0 VA vc h0.vals.row.rd (by omega))
  have H0 := hid h0
  unfold quietV
  by_cases hk : j.kind = 3
  · rw [if_neg (by simp [hk])]
    have hkb : (j.kind == 3) = true := by simpa using hk
    have hkb2 : (j.kind != 3) = false := by simpa using hk
    clear hk h0
    by_cases hp : ph = 0
    · rw [if_pos hp]
      have hpb : (ph == 0) = true := by simpa using hp
      clear hp
      go_enter Try.func24, Try.ntmps24
      go_wp2_with fail
      refine HC.out.mono ?_
      rintro e w1 ⟨rfl, b1⟩
      have h1 := H0.out.below b1 (T' := T) Agree.refl
      have r2 := h1.obj.cell (i := 2) rfl
      have r5 := h1.obj.cell (i := 5) rfl
      have r6 := h1.obj.cell (i := 6) rfl
      have rf := h1.obj.free
      have hp := h1.setPh 1
      have hq := hp.1.setFr true
      have HP := hid hp
      have HQ := hid hq
      have HB := hid b1
      clear h1 hp hq b1
      go_wp2_with fail
      go_end0
      exact ⟨rfl, HQ.out.1, (Keep.below HB.out).trans (HP.out.2.trans HQ.out.2 Agree.refl) Agree.refl⟩
    · rw [if_neg hp]
      have hpb : (ph == 0) = false := by simpa using hp
      clear hp
      cases hl : lblAll vs with
      | false =>
        rw [hl] at HC
        simp only [Bool.not_false] at HC
        rw [if_pos rfl]
        clear hl
        go_enter Try.func24, Try.ntmps24
        go_wp2_with fail
        refine HC.out.mono ?_
        rintro e w1 ⟨rfl, b1⟩
        have h1 := H0.out.below b1 (T' := T) Agree.refl
        have r2 := h1.obj.cell (i := 2) rfl
        have r5 := h1.obj.cell (i := 5) rfl
        have r6 := h1.obj.cell (i := 6) rfl
        have rf := h1.obj.free
        have hp := h1.setPh 0
        have hq := hp.1.setFr true
        have HP := hid hp
        have HQ := hid hq
        have HB := hid b1
        clear h1 hp hq b1
        go_wp2_with fail
        go_end0
        exact ⟨rfl, HQ.out.1, (Keep.below HB.out).trans (HP.out.2.trans HQ.out.2 Agree.refl) Agree.refl⟩
      | true =>
        rw [hl] at HC
        simp only [Bool.not_true] at HC
        rw [if_neg (by simp)]
        clear hl
        go_enter Try.func24, Try.ntmps24
        go_wp2_with fail
        refine HC.out.mono ?_
        rintro e w1 ⟨rfl, b1⟩
        have h1 := H0.out.below b1 (T' := T) Agree.refl
        have r2 := h1.obj.cell (i := 2) rfl
        have r5 := h1.obj.cell (i := 5) rfl
        have r7 := h1.obj.cell (i := 7) rfl
        have rf := h1.obj.free
        have hp := h1.setDn true
        have HP := hid hp
        have HB := hid b1
        clear h1 hp b1
        go_wp2_with fail
        go_end0
        exact ⟨rfl, HP.out.1, (Keep.below HB.out).trans HP.out.2 Agree.refl⟩
  · rw [if_pos hk]
    have hkb : (j.kind == 3) = false := by simpa using hk
    have hkb2 : (j.kind != 3) = true := by simpa using hk
    clear hk h0
    go_enter Try.func24, Try.ntmps24
    go_wp2_with fail
    refine HC.out.mono ?_
    rintro e w1 ⟨rfl, b1⟩
    have h1 := H0.out.below b1 (T' := T) Agree.refl
    have r2 := h1.obj.cell (i := 2) rfl
    have r7 := h1.obj.cell (i := 7) rfl
    have rf := h1.obj.free
    have hp := h1.setDn true
    have HP := hid hp
    have HB := hid b1
    clear h1 hp b1
    go_wp2_with fail
    go_end0
    exact ⟨rfl, HP.out.1, (Keep.below HB.out).trans HP.out.2 Agree.refl⟩
end Go.Proofs.Yteefemiieidpaaa
