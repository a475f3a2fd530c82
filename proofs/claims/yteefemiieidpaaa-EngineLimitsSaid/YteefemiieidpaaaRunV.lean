/- A run of the rounds, plain. -/
import Derived.Test.YteefemiieidpaaaNxtP
import Derived.Test.YteefemiieidpaaaBegN
namespace Go.Proofs.Yteefemiieidpaaa
open Go.RowKit Go.ChangeShapes Go.WideShapes Go.ChangeAt
set_option linter.unusedVariables false
set_option linter.unusedSimpArgs false
def normS (s : State) : State := { s with mail := s.mail.map fun x => ⟨none, 0, x.l⟩ }
theorem norm_lists (s : State) : lists (normS s).mail = lists s.mail := by unfold normS lists; rw [List.map_map]; rfl
noncomputable def stepN (j : Job) (p : State × Int) : State × Int := (normS (nextP j p.1).1, (nextP j p.1).2)
noncomputable def runF (j : Job) : Nat → State × Int → State × Int
  | 0, p => p
  | n + 1, p => if p.2 = 0 ∧ p.1.done = false then runF j n (stepN j p) else p
noncomputable def runV (j : Job) : State × Int := runF j 100003 (normS (begV j).1, (begV j).2)
noncomputable def leftS (j : Job) (p : State × Int) : Nat := if p.2 = 0 ∧ p.1.done = false then (if stB j p.1 = true then 100002 - p.1.step.toNat else 1) else 0
theorem leftS_le (j : Job) (p : State × Int) : leftS j p ≤ 100002 := by
  unfold leftS
  split
  · split <;> omega
  · omega
theorem runF_stop {j : Job} {p : State × Int} (h : ¬ (p.2 = 0 ∧ p.1.done = false)) : ∀ n, runF j n p = p
  | 0 => rfl
  | n + 1 => by unfold runF; rw [if_neg h]
theorem stB_norm (j : Job) (s : State) : stB j (normS s) = stB j s := stB_lists (norm_lists s)
theorem stepN_less {j : Job} {p : State × Int} (h : p.2 = 0 ∧ p.1.done = false) : leftS j (stepN j p) + 1 ≤ leftS j p := by
  have hz : ∀ (s : State) (r : Int), r ≠ 0 → leftS j (normS s, r) = 0 := fun s r hr => by unfold leftS; rw [if_neg (fun h => hr h.1)]
  by_cases hstep : stB j p.1 = true
  · have e0 : leftS j p = 100002 - p.1.step.toNat := by unfold leftS; rw [if_pos h, if_pos hstep]
    have hst := stB_ok hstep
    have hb := hst.1
    have h1 : 2 ≤ leftS j p := by rw [e0]; omega
    unfold stepN nextP
    by_cases e1 : jobV j ≠ 0
    · rw [if_pos e1, hz _ _ e1]; omega
    · rw [if_neg e1, if_neg (by rw [hstep]; simp), if_neg (by rw [h.2]; simp)]
      by_cases e4 : p.1.step = 100000
      · rw [if_pos e4, hz _ _ (by decide)]; omega
      · rw [if_neg e4]
        by_cases e5 : (madeP j p.1 p.1.vals.length).2 = 0
        · have hs := (made_size (j := j) (s := p.1) (by simpa using e1) hst).2.2.2 e5
          have e6 : (normS (madeP j p.1 p.1.vals.length).1).step = p.1.step + 1 := hs
          rw [e0]
          unfold leftS
          split
          · split
            · rw [e6]; omega
            · omega
          · omega
        · rw [hz _ _ e5]; omega
  · have e3 : stB j p.1 = false := by simpa using hstep
    have e0 : leftS j p = 1 := by unfold leftS; rw [if_pos h, if_neg (by rw [e3]; simp)]
    have h1 : leftS j (stepN j p) = 0 := by
      unfold stepN nextP
      by_cases e1 : jobV j ≠ 0
      · rw [if_pos e1]; exact hz _ _ e1
      · rw [if_neg e1, if_pos e3]; exact hz _ _ (by decide)
    rw [h1, e0]; exact Nat.le_refl _
/-- Where a run stands: n rounds at most are left. -/
def RunTo (j : Job) (p : State × Int) : Prop := ∃ n, leftS j p ≤ n ∧ runF j n p = runV j
theorem runTo_start (j : Job) : RunTo j (normS (begV j).1, (begV j).2) := ⟨100003, by have := leftS_le j (normS (begV j).1, (begV j).2); omega, rfl⟩
theorem runTo_step {j : Job} {p : State × Int} (h : RunTo j p) (hr : p.2 = 0 ∧ p.1.done = false) : RunTo j (stepN j p) := by
  obtain ⟨n, h1, h2⟩ := h
  have h3 := stepN_less (j := j) hr
  cases n with
  | zero => omega
  | succ n =>
    refine ⟨n, by omega, ?_⟩
    unfold runF at h2
    rw [if_pos hr] at h2
    exact h2
theorem runTo_end {j : Job} {p : State × Int} (h : RunTo j p) (hr : ¬ (p.2 = 0 ∧ p.1.done = false)) : p = runV j := by
  obtain ⟨n, h1, h2⟩ := h
  rw [runF_stop hr] at h2
  exact h2
def SmallS (s : State) : Prop := s.vals.length ≤ 1200 ∧ s.mail.length ≤ 1200 ∧ ∀ x ∈ s.mail, x.l.length ≤ 1200
theorem small_norm {s : State} (h : SmallS s) : SmallS (normS s) := by
  refine ⟨h.1, by show (s.mail.map _).length ≤ 1200; rw [List.length_map]; exact h.2.1, fun x hx => ?_⟩
  have hx2 : x ∈ s.mail.map fun x => (⟨none, 0, x.l⟩ : ML Int) := hx
  obtain ⟨y, hy, rfl⟩ := List.mem_map.1 hx2
  exact h.2.2 y hy
theorem small_step {j : Job} {p : State × Int} (h : SmallS p.1) : SmallS (stepN j p).1 := small_norm (nextP_size (Nat.le_refl _) h.1 h.2.1 h.2.2)
theorem small_beg (j : Job) : SmallS (normS (begV j).1) := by
  obtain ⟨h1, h2, h3⟩ := begV_ok j
  exact small_norm ⟨by omega, by omega, fun x hx => by rw [h3 x hx]; simp⟩
/-- One round, whatever the rows' places. -/
theorem next_norm {j : Job} {p : State × Int} {m : List (ML Int)} (h : lists m = lists p.1.mail) : (nextP j { p.1 with mail := m }).2 = (stepN j p).2 ∧ ∃ m', (nextP j { p.1 with mail := m }).1 = { (stepN j p).1 with mail := m' } ∧ lists m' = lists (stepN j p).1.mail := by
  obtain ⟨h1, m', h2, h3⟩ := nextP_lists (j := j) h
  exact ⟨h1, m', h2, h3.trans (norm_lists _).symm⟩
theorem beg_norm (j : Job) : ∃ m', (begV j).1 = { normS (begV j).1 with mail := m' } ∧ lists m' = lists (normS (begV j).1).mail := ⟨(begV j).1.mail, rfl, (norm_lists _).symm⟩
theorem retSn_lists {w w' : World} {s : State} {m : List (ML Int)} {err : Int} {e : Ending} (hm : lists m = lists s.mail) (h : RetSn w { s with mail := m } err e w') : RetSn w s err e w' := by
  obtain ⟨A, c, B, k, m2, h1, h2, h3, h4, h5⟩ := h
  exact ⟨A, c, B, k, m2, h1, h2.trans hm, h3, h4, h5⟩
theorem retSn_norm {w w' : World} {s : State} {err : Int} {e : Ending} (h : RetSn w s err e w') : RetSn w (normS s) err e w' := by
  obtain ⟨A, c, B, k, m, h1, h2, h3, h4, h5⟩ := h
  exact ⟨A, c, B, k, m, h1, h2.trans (norm_lists s).symm, h3, h4, h5⟩
/-- Rows that lie from B on, and not in g. -/
def GridX (w : World) (B : Nat) (g : Option Nat) (A : Option Addr) (m : List (ML Int)) : Prop :=
  (Part.mk A 1 m.length (m.flatMap ML.cells)).ok w B g ∧ ∀ x ∈ m, (Part.mk x.A 1 x.l.length (x.l.flatMap i64c)).ok w B g
theorem GridX.led {w : World} {B : Nat} {g : Option Nat} {A : Option Addr} {m : List (ML Int)} (h : GridX w B g A m) : Grid i64c 1 w w.heap.size A m :=
  ⟨h.1.to, fun x hx p hp => by obtain rfl := List.mem_singleton.1 hp; exact (h.2 x hx).to⟩
theorem part_any {w : World} {B B' : Nat} {g : Option Nat} {p : Part} (h : p.ok w B g) (hB : B' ≤ B) : p.ok w B' none :=
  ⟨h.1, fun hn => by
    obtain ⟨b, off, e, hb, _, hBb, hc⟩ := h.2 hn
    exact ⟨b, off, e, hb, (fun e => by cases e), by omega, hc⟩⟩
theorem part_off {w : World} {B B' X : Nat} {g : Option Nat} {p : Part} (h : p.ok w B g) (hX : X < B) (hB : B' ≤ B) : p.ok w B' (some X) :=
  ⟨h.1, fun hn => by
    obtain ⟨b, off, e, hb, _, hBb, hc⟩ := h.2 hn
    exact ⟨b, off, e, hb, (fun e => by injection e with e; omega), by omega, hc⟩⟩
/-- A row known earlier does not lie in a later block. -/
theorem part_ne {w w1 : World} {B X : Nat} {g : Option Nat} {p : Part} (h : p.ok w B g) (h1 : p.rd w1 w1.heap.size) (hX : w1.heap.size ≤ X) : p.ok w B (some X) :=
  ⟨h.1, fun hn => by
    obtain ⟨b, off, e, hb, _, hBb, hc⟩ := h.2 hn
    obtain ⟨b2, off2, e2, hb2, _⟩ := h1.2 hn
    rw [e] at e2
    injection e2 with e2
    injection e2 with e3 _
    exact ⟨b, off, e, hb, (fun e => by injection e with e; omega), hBb, hc⟩⟩
theorem grid_ne {w w1 : World} {B B1 X : Nat} {A : Option Addr} {m : List (ML Int)} (h : NewGridR w B A m) (h1 : NewGridR w1 B1 A m) (hX : w1.heap.size ≤ X) : GridX w B (some X) A m :=
  ⟨part_ne h.1 h1.1.to hX, fun x hx => part_ne (h.2 x hx) (h1.2 x hx).to hX⟩
theorem part_store6 {w : World} {B b : Nat} {g : Option Nat} {p : Part} (h : p.ok w B g) (hb : b < B) (v0 v1 v2 v3 v4 v5 : Value) : p.ok ((((((w.setCell ⟨b, 0, none⟩ v0).setCell ⟨b, 1, none⟩ v1).setCell ⟨b, 2, none⟩ v2).setCell ⟨b, 3, none⟩ v3).setCell ⟨b, 4, none⟩ v4).setCell ⟨b, 5, none⟩ v5) B g :=
  (((((h.store (a := ⟨b, 0, none⟩) hb v0).store (a := ⟨b, 1, none⟩) hb v1).store (a := ⟨b, 2, none⟩) hb v2).store (a := ⟨b, 3, none⟩) hb v3).store (a := ⟨b, 4, none⟩) hb v4).store (a := ⟨b, 5, none⟩) hb v5
theorem grid_store6 {w : World} {B b : Nat} {g : Option Nat} {A : Option Addr} {m : List (ML Int)} (h : (Part.mk A 1 m.length (m.flatMap ML.cells)).ok w B g ∧ ∀ x ∈ m, (Part.mk x.A 1 x.l.length (x.l.flatMap i64c)).ok w B g) (hb : b < B) (v0 v1 v2 v3 v4 v5 : Value) : GridX ((((((w.setCell ⟨b, 0, none⟩ v0).setCell ⟨b, 1, none⟩ v1).setCell ⟨b, 2, none⟩ v2).setCell ⟨b, 3, none⟩ v3).setCell ⟨b, 4, none⟩ v4).setCell ⟨b, 5, none⟩ v5) B g A m :=
  ⟨part_store6 h.1 hb v0 v1 v2 v3 v4 v5, fun x hx => part_store6 (h.2 x hx) hb v0 v1 v2 v3 v4 v5⟩
theorem below_store6 {w0 w : World} {B b : Nat} (h : Below B w0 w) (hb : B ≤ b) (v0 v1 v2 v3 v4 v5 : Value) : Below B w0 ((((((w.setCell ⟨b, 0, none⟩ v0).setCell ⟨b, 1, none⟩ v1).setCell ⟨b, 2, none⟩ v2).setCell ⟨b, 3, none⟩ v3).setCell ⟨b, 4, none⟩ v4).setCell ⟨b, 5, none⟩ v5) :=
  (((((h.setCell (p := ⟨b, 0, none⟩) hb v0).setCell (p := ⟨b, 1, none⟩) hb v1).setCell (p := ⟨b, 2, none⟩) hb v2).setCell (p := ⟨b, 3, none⟩) hb v3).setCell (p := ⟨b, 4, none⟩) hb v4).setCell (p := ⟨b, 5, none⟩) hb v5
end Go.Proofs.Yteefemiieidpaaa
