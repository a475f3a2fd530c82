/- What is saved, in five cells; what Decode hands back. -/
import Derived.Test.YtphgdpjfolkafaaDoorCkJ
namespace Go.Proofs.YtphgdpjfolkafaaDoor
open Go.ChangeShapes Go.WideShapes Go.ChangeAt Go.RowKit
set_option linter.unusedVariables false
set_option linter.unusedSimpArgs false
theorem takeV_lo2 {l l' : List Int} {bad bad' : Bool} {most r : Int} (h : takeV l bad most = (r, l', bad')) (hl : ∀ x ∈ l, 0 ≤ x ∧ x ≤ 255) : ∀ x ∈ l', 0 ≤ x ∧ x ≤ 255 := by
  cases hb : takeBad l bad most with
  | true => rw [takeV_bad hb] at h; injection h with _ h; injection h with h _; subst h; exact hl
  | false => rw [takeV_ok hb] at h; injection h with _ h; injection h with h _; subst h; exact fun x hx => hl x (List.mem_of_mem_drop hx)
theorem unwV_byte {b : List Int} (hb : ∀ x ∈ b, 0 ≤ x ∧ x ≤ 255) : ∀ x ∈ (unwV b).1, 0 ≤ x ∧ x ≤ 255 := by
  rcases unwV_cases b hb with ⟨e, h1, h2, h3⟩ | ⟨n, k, h1, h2, h4, h5, ⟨h6, h7⟩ | ⟨h6, h7, h8⟩ | ⟨h6, h7⟩⟩
  · rw [h3]; intro x hx; cases hx
  · rw [h7]; intro x hx; cases hx
  · rw [h8]; intro x hx; cases hx
  · unfold unwV
    rw [h1]
    simp only
    rw [if_neg (by omega), if_neg (by omega), if_neg (by omega)]
    split
    · exact fun x hx => hb x (List.mem_of_mem_drop (List.mem_of_mem_take hx))
    · intro x hx; cases hx
/-- What is saved lies in five cells. -/
structure DS (w1 : World) (p s : Nat) (x : Saved) (A : Option Addr) (c : Nat) (B : Option Addr) (d : Nat) (wr : World) : Prop where
  c0 : wr.cell? ⟨s, 0, none⟩ = some (.int .i64 x.step)
  c1 : wr.cell? ⟨s, 1, none⟩ = some (.int .i64 x.phase)
  c2 : wr.cell? ⟨s, 2, none⟩ = some (.bool x.fresh)
  c3 : wr.cell? ⟨s, 3, none⟩ = some (.slice A x.vals.length c)
  c4 : wr.cell? ⟨s, 4, none⟩ = some (.slice B x.mail.length d)
  fz : ∀ o, wr.frozen? ⟨s, o, none⟩ = false
  sz : s < wr.heap.size
  bl : Below p w1 wr
theorem DS.wrote {w1 : World} {p s : Nat} {x : Saved} {A : Option Addr} {c : Nat} {B : Option Addr} {d : Nat} {wr w' : World} (h : DS w1 p s x A c B d wr) (hw : Wrote p wr w') (hps : p < s) : DS w1 p s x A c B d w' := by
  have hne : s ≠ p := by omega
  exact ⟨hw.keep hne h.c0, hw.keep hne h.c1, hw.keep hne h.c2, hw.keep hne h.c3, hw.keep hne h.c4, fun o => hw.frz hne (h.fz o), by rw [hw.size]; exact h.sz, h.bl.trans hw.below⟩
def RetSv (w : World) (x : Saved) (r : Int) (e : Ending) (w' : World) : Prop :=
  ∃ A c B d, e = .returned (.tuple #[.agg (svC x A c B d), .int .i64 r]) ∧ w'.ownsRow w.heap.size 61 2 (.slice A x.vals.length c) x.vals.length (x.vals.flatMap Val.cells) ∧ w'.ownsRow w.heap.size 63 2 (.slice B x.mail.length d) x.mail.length (x.mail.flatMap Mail.cells) ∧ Below w.heap.size w w'
theorem retSv_zero {w w' : World} (r : Int) (b : Below w.heap.size w w') : RetSv w svZero r (.returned (.tuple #[.agg #[.int .i64 0, .int .i64 0, .bool false, .slice none 0 0, .slice none 0 0], .int .i64 r])) w' :=
  ⟨none, 0, none, 0, rfl, World.ownsRow_nil _ _ _ _, World.ownsRow_nil _ _ _ _, b⟩
end Go.Proofs.YtphgdpjfolkafaaDoor
