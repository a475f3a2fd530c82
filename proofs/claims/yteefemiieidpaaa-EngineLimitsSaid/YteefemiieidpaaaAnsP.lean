/- What a state of a job may be; what rounds.Answer says. No program in sight. -/
import Derived.Test.YteefemiieidpaaaStateD
import Derived.Test.YteefemiieidpaaaJob
namespace Go.Proofs.Yteefemiieidpaaa
open Go.RowKit Go.ChangeShapes Go.WideShapes Go.ChangeAt
set_option linter.unusedVariables false
set_option linter.unusedSimpArgs false
def topV (k : Int) : Int := if k = 1 then 4398046511104 else 199
def valOk (k : Int) (x : Val) : Prop := (-1 ≤ x.a ∧ x.a ≤ topV k) ∧ -1 ≤ x.label ∧ x.label ≤ 199
/-- The pair at i and i + 1 rises. -/
def adjI (l : List Int) (i : Nat) : Prop := ∀ x y, l[i]? = some x → l[i + 1]? = some y → x ≤ y
def rowOk (k : Int) (l : List Int) : Prop := (∀ i, adjI l i) ∧ ∀ (i : Nat) (x : Int), l[i]? = some x → 0 ≤ x ∧ x ≤ topV k
def manyM : List (ML Int) → Nat
  | [] => 0
  | x :: m => x.l.length + manyM m
theorem manyM_snoc (m : List (ML Int)) (x : ML Int) : manyM (m ++ [x]) = manyM m + x.l.length := by
  induction m with
  | nil => simp [manyM]
  | cons a m ih => simp only [List.cons_append, manyM, ih]; omega
theorem manyM_take {m : List (ML Int)} {k : Nat} {x : ML Int} (h : m[k]? = some x) : manyM (m.take (k + 1)) = manyM (m.take k) + x.l.length := by
  rw [List.take_add_one, h]
  exact manyM_snoc _ _
theorem manyM_le {b : Nat} : ∀ (m : List (ML Int)), (∀ x ∈ m, x.l.length ≤ b) → manyM m ≤ m.length * b
  | [], _ => by simp [manyM]
  | a :: m, h => by
    have h1 := manyM_le m (fun x hx => h x (List.mem_cons_of_mem _ hx))
    have h2 := h a (List.mem_cons_self ..)
    simp only [manyM, List.length_cons, Nat.add_mul]; omega
def stOk (j : Job) (s : State) : Prop :=
  (0 ≤ s.step ∧ s.step ≤ 100000) ∧ (s.phase = 0 ∨ s.phase = 1 ∧ j.kind = 3) ∧ (s.vals.length : Int) = j.graph.n ∧ (s.mail.length : Int) = j.graph.n ∧ (∀ (i : Nat) x, s.vals[i]? = some x → valOk j.kind x) ∧ (∀ (i : Nat) (x : ML Int), s.mail[i]? = some x → rowOk j.kind x.l) ∧ ¬ (s.fresh = true ∧ s.done = true) ∧ manyM s.mail ≤ 5000 ∧ (manyM s.mail = 0 ∨ s.fresh = false ∧ s.done = false)
section
open Classical
noncomputable def stB (j : Job) (s : State) : Bool := decide (stOk j s)
noncomputable def risesB (l : List Int) : Bool := decide (∀ i, adjI l i)
end
theorem stB_yes {j : Job} {s : State} (h : stOk j s) : stB j s = true := by unfold stB; exact @decide_eq_true _ (_) h
theorem stB_no {j : Job} {s : State} (h : ¬ stOk j s) : stB j s = false := by unfold stB; exact @decide_eq_false _ (_) h
theorem stB_ok {j : Job} {s : State} (h : stB j s = true) : stOk j s := by unfold stB at h; exact @of_decide_eq_true _ (_) h
theorem risesB_yes {l : List Int} (h : ∀ i, adjI l i) : risesB l = true := by unfold risesB; exact @decide_eq_true _ (_) h
theorem risesB_ok {l : List Int} (h : risesB l = true) : ∀ i, adjI l i := by unfold risesB at h; exact @of_decide_eq_true _ (_) h
theorem risesB_bad {l : List Int} (h : risesB l = false) : ¬ ∀ i, adjI l i := by unfold risesB at h; exact @of_decide_eq_false _ (_) h
theorem risesB_no {l : List Int} {i : Nat} {x y : Int} (hx : l[i]? = some x) (hy : l[i + 1]? = some y) (h : y < x) : risesB l = false := by
  unfold risesB; refine @decide_eq_false _ (_) fun h2 => ?_; have := h2 i x y hx hy; omega
theorem adjI_out {l : List Int} {i : Nat} (h : l.length ≤ i + 1) : adjI l i := fun x y hx hy => by
  have := (List.getElem?_eq_some_iff.1 hy).1; omega
/-- Of a list that rises. -/
theorem rises_le {l : List Int} (h : ∀ i, adjI l i) : ∀ (d i : Nat) (x y : Int), l[i]? = some x → l[i + d]? = some y → x ≤ y
  | 0, i, x, y, hx, hy => by
    rw [Nat.add_zero, hx] at hy; injection hy with hy; omega
  | d + 1, i, x, y, hx, hy => by
    have hl := (List.getElem?_eq_some_iff.1 hy).1
    obtain ⟨z, hz⟩ : ∃ z, l[i + d]? = some z := ⟨_, List.getElem?_eq_getElem (by omega)⟩
    have h1 := rises_le h d i x z hx hz
    have h2 := h (i + d) z y hz (by rw [show i + d + 1 = i + (d + 1) by omega]; exact hy)
    omega
/-- First and last tell all. -/
theorem rowOk_ends {k : Int} {l : List Int} {n : Nat} {a b : Int} (hn : l.length = n + 1) (h : ∀ i, adjI l i) (ha : l[0]? = some a) (hb : l[n]? = some b) (h0 : 0 ≤ a) (h1 : b ≤ topV k) : rowOk k l :=
  ⟨h, fun i x hx => by
    have hi := (List.getElem?_eq_some_iff.1 hx).1
    have e1 := rises_le h i 0 a x ha (by rw [Nat.zero_add]; exact hx)
    have e2 := rises_le h (n - i) i x b hx (by rw [show i + (n - i) = n by omega]; exact hb)
    omega⟩
theorem rowOk_nil {k : Int} {l : List Int} (h : l.length = 0) : rowOk k l := by
  obtain rfl := List.length_eq_zero_iff.1 h
  exact ⟨fun i x y hx => by simp at hx, fun i x hx => by simp at hx⟩
def pickV (k : Int) (x : Val) : Int := if k = 3 then x.label else x.a
noncomputable def ansV (j : Job) (s : State) : List Int × Int :=
  if jobV j ≠ 0 then ([], jobV j) else if stB j s = false then ([], 9) else if s.done = false then ([], 12) else (s.vals.map (pickV j.kind), 0)
theorem ansV_job {j : Job} {s : State} (h : jobV j ≠ 0) : ansV j s = ([], jobV j) := by unfold ansV; rw [if_pos h]
theorem ansV_state {j : Job} {s : State} (h : jobV j = 0) (h2 : stB j s = false) : ansV j s = ([], 9) := by unfold ansV; rw [if_neg (by simpa using h), if_pos h2]
theorem ansV_wait {j : Job} {s : State} (h : jobV j = 0) (h2 : stB j s = true) (h3 : s.done = false) : ansV j s = ([], 12) := by
  unfold ansV; rw [if_neg (by simpa using h), if_neg (by rw [h2]; simp), if_pos h3]
theorem ansV_ok {j : Job} {s : State} (h : jobV j = 0) (h2 : stB j s = true) (h3 : s.done = true) : ansV j s = (s.vals.map (pickV j.kind), 0) := by
  unfold ansV; rw [if_neg (by simpa using h), if_neg (by rw [h2]; simp), if_neg (by rw [h3]; simp)]
theorem jobV_kind {j : Job} (h : jobV j = 0) : 1 ≤ j.kind ∧ j.kind ≤ 3 := by
  unfold jobV at h
  by_cases hg : graphV j.graph = 0
  · rw [if_neg (by simpa using hg)] at h
    by_cases hk : 1 ≤ j.kind ∧ j.kind ≤ 3
    · exact hk
    · rw [if_pos hk] at h; simp at h
  · rw [if_pos hg] at h; exact absurd h hg
end Go.Proofs.Yteefemiieidpaaa
