/- link.Open and the document's answer; the statement. -/
import Derived.Test.YtblabipgehkllaaLink
namespace Go.Proofs.Ytblabipgehkllaa
open Go.ChangeShapes Go.WideShapes Go.ChangeAt Go.RowKit
set_option linter.unusedVariables false
def lopV (e r : Int) : Value := .tuple #[.agg #[.int .i64 e, .int .i64 0, .slice none 0 0], .agg #[.int .i64 e, .int .i64 0], .int .i64 r]
/-- A cell that was there reads as it did. -/
theorem keepc' {W W' : World} (b : Below W.heap.size W W') {p : Addr} {v : Value} (h : W.cell? p = some v) : W'.cell? p = some v :=
  (b.cell (World.block_lt_of_cell? W _ h)).trans h
theorem lopen_walk (e : Int) (w : World) (r v : Int) (h : (endsB e 0 = true ∧ r = 0 ∧ v = e) ∨ (endsB e 0 = false ∧ r = 2 ∧ v = 0)) :
    Calls Try.prog 31 #[.int .i64 e] w fun x w' => x = .returned (lopV v r) ∧ Below w.heap.size w w' := by
  rcases h with ⟨h, rfl, rfl⟩ | ⟨h, rfl, rfl⟩
  · go_enter Try.func31, Try.ntmps31
    go_wp2_with (go_at_call 74; refine (ends_walk _ _ _).mono ?_; rintro e w' ⟨rfl, rfl⟩)
    exact bodyPost_ret (v := lopV v 0) (by simp [results, lopV, Try.results31, go_sem]) rfl ⟨rfl, bA (bA (Below.refl _ _) _) _⟩
  · go_enter Try.func31, Try.ntmps31
    go_wp2_with (go_at_call 74; refine (ends_walk _ _ _).mono ?_; rintro e w' ⟨rfl, rfl⟩)
    exact bodyPost_ret (v := lopV 0 2) (by simp [results, lopV, Try.results31, go_sem]) rfl ⟨rfl, bA (bA (Below.refl _ _) _) _⟩
theorem lopened_walk (e : Int) (w : World) (r v : Int) (h : (endsB e 0 = true ∧ r = 0 ∧ v = e) ∨ (endsB e 0 = false ∧ r = 2 ∧ v = 0)) :
    Calls Try.prog 32 #[.int .i64 e] w fun x w' => x = .returned (lopV v r) ∧ Below w.heap.size w w' := by
  have hE : endsB e 0 = inB e 0 1099511627776 := by simp [endsB, inB]
  rw [hE] at h
  clear hE
  rcases h with ⟨h, rfl, rfl⟩ | ⟨h, rfl, rfl⟩
  · go_enter Try.func32, Try.ntmps32
    go_wp2_with (go_at_call 72; refine (In_walk _ _ _ _).mono ?_; rintro e w' ⟨rfl, rfl⟩)
    exact bodyPost_ret (v := lopV v 0) (by simp [results, lopV, Try.results32, go_sem]) rfl ⟨rfl, bA (bA (Below.refl _ _) _) _⟩
  · go_enter Try.func32, Try.ntmps32
    go_wp2_with (go_at_call 72; refine (In_walk _ _ _ _).mono ?_; rintro e w' ⟨rfl, rfl⟩)
    exact bodyPost_ret (v := lopV 0 2) (by simp [results, lopV, Try.results32, go_sem]) rfl ⟨rfl, bA (bA (Below.refl _ _) _) _⟩
theorem sameSender_nil (e : Int) (w : World) :
    Calls Try.prog 33 #[.agg #[.int .i64 e, .int .i64 0, .slice none 0 0], .agg #[.int .i64 e, .int .i64 0, .slice none 0 0]] w fun x w' => x = .returned (.bool true) ∧ Below w.heap.size w w' := by
  go_enter Try.func33, Try.ntmps33
  go_wp2_with fail
  refine (sameMails_walk [] _ none none 0 0 Rd.nil_ Rd.nil_ (by simp)).mono ?_
  rintro r w1 ⟨rfl, b1⟩
  go_wp2_with fail
  go_ret
  exact ⟨rfl, bT (bA (bA (Below.refl _ _) _) _) b1⟩
theorem law_LinkOpens (w : World) (a : Int) (wa : (Lit.int .i64 a).wf = true) :
    Calls Try.prog 7 #[.int .i64 a] w fun e w' => e = .returned (.bool true) ∧ Below w.heap.size w w' := by
  obtain ⟨r, v, h⟩ : ∃ r v : Int, (endsB a 0 = true ∧ r = 0 ∧ v = a) ∨ (endsB a 0 = false ∧ r = 2 ∧ v = 0) := by
    cases h : endsB a 0
    · exact ⟨2, 0, .inr ⟨rfl, rfl, rfl⟩⟩
    · exact ⟨0, a, .inl ⟨rfl, rfl, rfl⟩⟩
  have c1 := hid (fun w => lopen_walk a w r v h)
  have c2 := hid (fun w => lopened_walk a w r v h)
  clear h
  go_enter Try.func7, Try.ntmps7
  go_wp2_with fail
  refine (c1.out _).mono ?_
  rintro e w1 ⟨rfl, b1⟩
  unfold lopV
  go_wp2_with fail
  refine (c2.out _).mono ?_
  rintro e w2 ⟨rfl, b2⟩
  unfold lopV
  have s0 : w2.cell? ⟨w1.heap.size, 0, none⟩ = some (.int .i64 v) := keepc' b2 (by go_simp)
  have s1 : w2.cell? ⟨w1.heap.size, 1, none⟩ = some (.int .i64 0) := keepc' b2 (by go_simp)
  have s2 : w2.cell? ⟨w1.heap.size, 2, none⟩ = some (.slice none 0 0) := keepc' b2 (by go_simp)
  have q0 : w2.cell? ⟨w1.heap.size + 1, 0, none⟩ = some (.int .i64 v) := keepc' b2 (by go_simp)
  have q1 : w2.cell? ⟨w1.heap.size + 1, 1, none⟩ = some (.int .i64 0) := keepc' b2 (by go_simp)
  have hz1 : w1.heap.size + 1 < w2.heap.size := by have := b2.size; simp at this; omega
  have hz2 : w1.heap.size < w2.heap.size := by omega
  go_wp2_with fail
  refine (sameSender_nil v _).mono ?_
  rintro e w3 ⟨rfl, b3⟩
  go_wp2_with fail
  go_ret
  exact ⟨by simp, bT (bA (bA (bT (bA (bA b1 _) _) b2) _) _) b3⟩
end Go.Proofs.Ytblabipgehkllaa
