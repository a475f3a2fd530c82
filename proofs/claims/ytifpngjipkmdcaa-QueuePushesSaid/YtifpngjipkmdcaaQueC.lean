/- queue.Count. -/
import Derived.Test.YtifpngjipkmdcaaQueO
namespace Go.Proofs.Ytifpngjipkmdcaa
open Go.ChangeShapes Go.WideShapes Go.ChangeAt Go.RowKit
set_option linter.unusedVariables false
set_option linter.unusedSimpArgs false
/-- A number, an errno: none is told by 9. -/
def RetC (w : World) (r : Option Nat) (e : Ending) (w' : World) : Prop :=
  (∃ m f : Int, e = .returned (.tuple #[.int .i64 m, .int .i64 f]) ∧ (r = none → m = 0 ∧ f = 9) ∧ ∀ k : Nat, r = some k → m = k ∧ f = 0) ∧ Below w.heap.size w w'
set_option maxHeartbeats 2000000 in
theorem count_walk (q : Queue) (w : World) (A B : Option Addr) (c d : Nat) (hl : Rd w w.heap.size A 2 q.loose.length (q.loose.flatMap Mail.cells)) (hg : Grid u8c 1 w w.heap.size B q.runs) (hll : q.loose.length ≤ 140737488355328) (hrl : q.runs.length ≤ 140737488355328) (hx : RunsOk q) :
    Calls Try.prog 25 #[.agg #[.int .i64 q.budget, .slice A q.loose.length c, .slice B q.runs.length d]] w (RetC w (countV q)) := by
  have b0 : Below w.heap.size w (w.alloc (.cells #[.int .i64 q.budget, .slice A q.loose.length c, .slice B q.runs.length d] 53)) := bA (Below.refl _ _) _
  have HO := hid (open_walkQ q _ A B c d (rdb hl (by decide) b0) (hg.b (by decide) b0) hll hrl hx)
  generalize countV q = R at *
  obtain ⟨bu, lo, rs⟩ := q
  simp only at *
  unfold RetO at HO
  go_enter Try.func25, Try.ntmps25
  go_wp2_with fail
  refine HO.out.mono ?_
  rintro e w1 ⟨⟨A1, N, c1, m, ok, rfl, h1, h2, _⟩, b1⟩
  have hcs : R = none ∨ ∃ k, R = some k := by
    cases R with
    | none => exact .inl rfl
    | some k => exact .inr ⟨k, rfl⟩
  rcases hcs with hR | ⟨k, hR⟩
  · have hk := h1 hR
    subst hk
    have HR := hid hR
    clear h1 h2 hR
    go_wp2_with fail
    go_ret2
    exact ⟨⟨0, 9, rfl, (fun _ => ⟨rfl, rfl⟩), (fun k hk => by rw [HR.out] at hk; cases hk)⟩, bT b0 b1⟩
  · obtain ⟨e1, e2⟩ := h2 k hR
    subst e1
    have HR := hid hR
    have HK := hid e2
    clear h1 h2 hR e2
    go_wp2_with fail
    go_ret2
    exact ⟨⟨(m : Int), 0, rfl, (fun h => by rw [HR.out] at h; cases h), (fun j hj => by rw [HR.out] at hj; injection hj with hj; exact ⟨by rw [HK.out, hj], rfl⟩)⟩, bT b0 b1⟩
end Go.Proofs.Ytifpngjipkmdcaa
