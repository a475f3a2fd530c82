/- A run of mail out of its bytes: what it answers. -/
import Derived.Test.YtifpngjipkmdcaaSmallR
import Derived.Test.YtifpngjipkmdcaaCka
namespace Go.Proofs.Ytifpngjipkmdcaa
open Go.ChangeShapes Go.WideShapes Go.ChangeAt Go.RowKit
set_option linter.unusedVariables false
set_option linter.unusedSimpArgs false
/-- The values behind the ends, one by one. -/
def runBad (b : List Int) (v : Int) (n : Nat) : Bool := takeBad (b.drop n) false 4398046511104 || decide (200 ≤ v)
def runGo (b : List Int) : List Int → Nat → Option (List Mail × Nat)
  | [], n => some ([], n)
  | v :: to, n => if runBad b v n then none else
    match runGo b to (n + (getv (b.drop n)).2.1.toNat) with
    | none => none
    | some r => some (⟨v, (getv (b.drop n)).1⟩ :: r.1, r.2)
def runK (b : List Int) (to : List Int) (n : Nat) (acc : List Mail) : Option (List Mail × Nat) := (runGo b to n).map fun r => (acc ++ r.1, r.2)
theorem runK_nil (b : List Int) (n : Nat) (acc : List Mail) : runK b [] n acc = some (acc, n) := by simp [runK, runGo]
theorem runK_start (b to : List Int) (n : Nat) : runGo b to n = runK b to n [] := by
  unfold runK
  cases runGo b to n with
  | none => rfl
  | some r => rfl
theorem runK_bad {b : List Int} {v : Int} {to : List Int} {n : Nat} {acc : List Mail} (h : runBad b v n = true) : runK b (v :: to) n acc = none := by
  unfold runK; rw [runGo, if_pos h]; rfl
theorem runK_step {b : List Int} {v r : Int} {k : Nat} {to : List Int} {n : Nat} {acc : List Mail} (h : runBad b v n = false) (h1 : (getv (b.drop n)).1 = r) (h2 : (getv (b.drop n)).2.1 = (k : Int)) : runK b (v :: to) n acc = runK b to (n + k) (acc ++ [⟨v, r⟩]) := by
  unfold runK
  rw [runGo, if_neg (by rw [h]; decide), h1, h2, Int.toNat_natCast]
  cases runGo b to (n + k) with
  | none => rfl
  | some r => simp
/-- The run; none where there is none. -/
noncomputable def runV (b : List Int) : List Mail :=
  if (ungV b).2.2 ≠ 0 ∨ 1000 < (ungV b).1.length then [] else
  match runGo b (ungV b).1 (ungV b).2.1.toNat with
  | none => []
  | some r => if r.2 = b.length ∧ ordB r.1 = true then r.1 else []
theorem runV_err {b : List Int} (h : (ungV b).2.2 ≠ 0 ∨ 1000 < (ungV b).1.length) : runV b = [] := by unfold runV; rw [if_pos h]
theorem runV_none {b : List Int} (h : ¬ ((ungV b).2.2 ≠ 0 ∨ 1000 < (ungV b).1.length)) (h2 : runGo b (ungV b).1 (ungV b).2.1.toNat = none) : runV b = [] := by unfold runV; rw [if_neg h, h2]
theorem runV_some {b : List Int} (h : ¬ ((ungV b).2.2 ≠ 0 ∨ 1000 < (ungV b).1.length)) {l : List Mail} {m : Nat} (h2 : runGo b (ungV b).1 (ungV b).2.1.toNat = some (l, m)) : runV b = if m = b.length ∧ ordB l = true then l else [] := by unfold runV; rw [if_neg h, h2]
theorem runGo_len (b : List Int) : ∀ (to : List Int) (n : Nat) (l : List Mail) (m : Nat), runGo b to n = some (l, m) → l.length = to.length
  | [], n, l, m, h => by simp only [runGo, Option.some.injEq, Prod.mk.injEq] at h; rw [← h.1]; rfl
  | v :: to, n, l, m, h => by
    rw [runGo] at h
    split at h
    · cases h
    · split at h
      · cases h
      · rename_i r hr
        simp only [Option.some.injEq, Prod.mk.injEq] at h
        rw [← h.1, List.length_cons, List.length_cons, runGo_len b to _ r.1 r.2 hr]
theorem runV_len (b : List Int) : (runV b).length ≤ 1000 := by
  by_cases h : (ungV b).2.2 ≠ 0 ∨ 1000 < (ungV b).1.length
  · rw [runV_err h]; exact Nat.zero_le _
  · cases h2 : runGo b (ungV b).1 (ungV b).2.1.toNat with
    | none => rw [runV_none h h2]; exact Nat.zero_le _
    | some r =>
      rw [runV_some h (l := r.1) (m := r.2) h2]
      have := runGo_len b _ _ r.1 r.2 h2
      split
      · omega
      · exact Nat.zero_le _
/-- A number that is small, told of the two kinds of bound. -/
theorem runBad_or {b : List Int} {v : Int} {n : Nat} : runBad b v n = true ↔ takeBad (b.drop n) false 4398046511104 = true ∨ 200 ≤ v := by
  unfold runBad; rw [Bool.or_eq_true, decide_eq_true_eq]
end Go.Proofs.Ytifpngjipkmdcaa
