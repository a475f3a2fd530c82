/- What is reached from a vertex: by rounds; by a search. Plain. -/
import Derived.Test.YtifpngjipkmdcaaGrowP
namespace Go.Proofs.Ytifpngjipkmdcaa
set_option linter.unusedVariables false
set_option linter.unusedSimpArgs false
/-- Reached along edges. -/
inductive Rch (l : List (Nat × Nat)) (v : Nat) : Nat → Prop
  | refl : Rch l v v
  | step {a b : Nat} : Rch l v a → (a, b) ∈ l → Rch l v b
open Classical in
noncomputable def rchB (l : List (Nat × Nat)) (v u : Nat) : Bool := decide (Rch l v u)
theorem rchB_iff {l : List (Nat × Nat)} {v u : Nat} : rchB l v u = true ↔ Rch l v u := by unfold rchB; simp
theorem rch_lt {n : Nat} {l : List (Nat × Nat)} (hl : ∀ e ∈ l, e.1 < n ∧ e.2 < n) {v : Nat} (hv : v < n) {u : Nat} (h : Rch l v u) : u < n := by
  induction h with
  | refl => exact hv
  | step _ he _ => exact (hl _ he).2
/-- One round over the edges. -/
def flood1 (f : Nat → Bool) (e : Nat × Nat) : Nat → Bool := if f e.1 = true then upd f e.2 true else f
def flood (f : Nat → Bool) (l : List (Nat × Nat)) : Nat → Bool := l.foldl flood1 f
def floods (l : List (Nat × Nat)) (v : Nat) : Nat → (Nat → Bool)
  | 0 => upd (fun _ => false) v true
  | k + 1 => flood (floods l v k) l
theorem list_snoc_ind' {α : Type} (p : List α → Prop) (h0 : p []) (h1 : ∀ l a, p l → p (l ++ [a])) : ∀ l, p l := by
  intro l
  have : ∀ l : List α, p l.reverse := by
    intro l
    induction l with
    | nil => exact h0
    | cons a l ih => rw [List.reverse_cons]; exact h1 _ _ ih
  have h := this l.reverse
  rwa [List.reverse_reverse] at h
theorem flood_snoc (f : Nat → Bool) (l : List (Nat × Nat)) (e : Nat × Nat) : flood f (l ++ [e]) = flood1 (flood f l) e := by unfold flood; rw [List.foldl_append]; rfl
theorem flood1_up (f : Nat → Bool) (e : Nat × Nat) (v : Nat) (h : f v = true) : flood1 f e v = true := by
  unfold flood1 upd
  split
  · dsimp only; split
    · rfl
    · exact h
  · exact h
theorem flood_up (f : Nat → Bool) : ∀ l v, f v = true → flood f l v = true := by
  refine list_snoc_ind' _ (fun v h => h) (fun l e ih v h => ?_)
  rw [flood_snoc]
  exact flood1_up _ _ _ (ih v h)
theorem flood_edge (f : Nat → Bool) : ∀ l, ∀ e ∈ l, f e.1 = true → flood f l e.2 = true := by
  refine list_snoc_ind' _ (fun e h => by cases h) (fun l x ih e h hf => ?_)
  rw [flood_snoc]
  rcases List.mem_append.1 h with h | h
  · exact flood1_up _ _ _ (ih e h hf)
  · obtain rfl := List.mem_singleton.1 h
    unfold flood1 upd
    rw [if_pos (flood_up f l _ hf)]
    simp
theorem flood_rch {L : List (Nat × Nat)} {v : Nat} {f : Nat → Bool} (hf : ∀ u, f u = true → Rch L v u) : ∀ l, (∀ e ∈ l, e ∈ L) → ∀ u, flood f l u = true → Rch L v u := by
  refine list_snoc_ind' _ (fun _ u h => hf u h) (fun l e ih hl u h => ?_)
  have hi := ih (fun x hx => hl x (List.mem_append_left _ hx))
  have he : e ∈ L := hl e (List.mem_append_right _ (List.mem_singleton.2 rfl))
  rw [flood_snoc] at h
  unfold flood1 upd at h
  split at h
  · rename_i h1
    dsimp only at h
    split at h
    · subst_vars; exact (hi _ h1).step he
    · exact hi u h
  · exact hi u h
theorem floods_rch (l : List (Nat × Nat)) (v : Nat) : ∀ k u, floods l v k u = true → Rch l v u
  | 0, u, h => by
    unfold floods upd at h
    dsimp only at h
    split at h
    · subst_vars; exact .refl
    · cases h
  | k + 1, u, h => flood_rch (floods_rch l v k) l (fun _ h => h) u h
theorem floods_up (l : List (Nat × Nat)) (v : Nat) : ∀ k, floods l v k v = true
  | 0 => by simp [floods, upd]
  | k + 1 => flood_up _ _ _ (floods_up l v k)
/-- After n rounds over edges below n just what is reached is marked. -/
theorem floods_all (n : Nat) (l : List (Nat × Nat)) (hl : ∀ e ∈ l, e.1 < n ∧ e.2 < n) (v : Nat) : ∀ u, u < n → floods l v n u = rchB l v u := by
  have main := grows n (fun k u => Rch l v u → floods l v k u = true) (fun k u _ h hr => flood_up _ _ _ (h hr)) (fun k h => by
    obtain ⟨u, hu, hg⟩ := h
    have hg' : Rch l v u ∧ ¬ floods l v k u = true := Classical.byContradiction fun hc => hg fun hr => Classical.byContradiction fun hf => hc ⟨hr, hf⟩
    have key : ∀ {u : Nat}, Rch l v u → ¬ floods l v k u = true → ∃ y, y < n ∧ Rch l v y ∧ ¬ floods l v k y = true ∧ floods l v (k + 1) y = true := by
      intro u hr
      induction hr with
      | refl => intro h; exact absurd (floods_up l v k) h
      | @step a b hr he ih =>
        intro h
        by_cases ha : floods l v k a = true
        · exact ⟨b, (hl _ he).2, hr.step he, h, flood_edge _ l _ he ha⟩
        · exact ih ha
    obtain ⟨y, hy, hr, h1, h2⟩ := key hg'.1 hg'.2
    exact ⟨y, hy, fun h => h1 (h hr), fun _ => h2⟩)
  intro u hu
  by_cases hr : Rch l v u
  · rw [main u hu hr, rchB_iff.2 hr]
  · have h1 : floods l v n u ≠ true := fun h => hr (floods_rch l v n u h)
    have h2 : rchB l v u ≠ true := fun h => hr (rchB_iff.1 h)
    rw [Bool.eq_false_iff.2 h1, Bool.eq_false_iff.2 h2]
/-- The search: what is marked, what waits, the one in hand and its ends that are still to be looked at. -/
structure Seek (n : Nat) (l : List (Nat × Nat)) (v : Nat) (seen : Nat → Bool) (todo : List Nat) (hand : Nat) (rest : List Nat) : Prop where
  start : seen v = true
  real : ∀ u, seen u = true → Rch l v u
  wait : ∀ u ∈ todo, seen u = true ∧ u < n
  restIn : ∀ b ∈ rest, (hand, b) ∈ l ∧ b < n
  held : seen hand = true ∨ rest = []
  done : ∀ u, seen u = true → u ∈ todo ∨ (∀ b, (u, b) ∈ l → seen b = true ∨ (u = hand ∧ b ∈ rest))
theorem Seek.begin (n : Nat) (l : List (Nat × Nat)) (v : Nat) (hv : v < n) : Seek n l v (upd (fun _ => false) v true) [v] 0 [] := by
  refine ⟨by simp [upd], fun u h => ?_, fun u h => ?_, (fun b h => by cases h), .inr rfl, fun u h => ?_⟩
  · unfold upd at h
    dsimp only at h
    split at h
    · subst_vars; exact .refl
    · cases h
  · obtain rfl := List.mem_singleton.1 h
    exact ⟨by simp [upd], hv⟩
  · unfold upd at h
    dsimp only at h
    split at h
    · subst_vars; exact .inl (List.mem_singleton.2 rfl)
    · cases h
/-- The next one is taken in hand. -/
theorem Seek.take {n : Nat} {l : List (Nat × Nat)} {v : Nat} {seen : Nat → Bool} {todo : List Nat} {hand u : Nat} (h : Seek n l v seen (todo ++ [u]) hand []) {rest : List Nat} (hr : ∀ b, b ∈ rest ↔ (u, b) ∈ l) (hl : ∀ e ∈ l, e.1 < n ∧ e.2 < n) : Seek n l v seen todo u rest := by
  refine ⟨h.start, h.real, fun x hx => h.wait x (List.mem_append_left _ hx), fun b hb => ⟨(hr b).1 hb, (hl _ ((hr b).1 hb)).2⟩, .inl (h.wait u (List.mem_append_right _ (List.mem_singleton.2 rfl))).1, fun x hx => ?_⟩
  rcases h.done x hx with h1 | h1
  · rcases List.mem_append.1 h1 with h1 | h1
    · exact .inl h1
    · obtain rfl := List.mem_singleton.1 h1
      exact .inr fun b hb => .inr ⟨rfl, (hr b).2 hb⟩
  · refine .inr fun b hb => ?_
    rcases h1 b hb with h2 | ⟨_, h2⟩
    · exact .inl h2
    · cases h2
theorem Seek.skip {n : Nat} {l : List (Nat × Nat)} {v : Nat} {seen : Nat → Bool} {todo : List Nat} {hand b : Nat} {rest : List Nat} (h : Seek n l v seen todo hand (b :: rest)) (hb : seen b = true) : Seek n l v seen todo hand rest := by
  refine ⟨h.start, h.real, h.wait, fun x hx => h.restIn x (List.mem_cons_of_mem _ hx), ?_, fun x hx => ?_⟩
  · rcases h.held with h1 | h1
    · exact .inl h1
    · cases h1
  · rcases h.done x hx with h1 | h1
    · exact .inl h1
    · refine .inr fun c hc => ?_
      rcases h1 c hc with h2 | ⟨h2, h3⟩
      · exact .inl h2
      · rcases List.mem_cons.1 h3 with h3 | h3
        · subst h3; exact .inl hb
        · exact .inr ⟨h2, h3⟩
theorem Seek.mark {n : Nat} {l : List (Nat × Nat)} {v : Nat} {seen : Nat → Bool} {todo : List Nat} {hand b : Nat} {rest : List Nat} (h : Seek n l v seen todo hand (b :: rest)) : Seek n l v (upd seen b true) (todo ++ [b]) hand rest := by
  have hs : ∀ x, seen x = true → upd seen b true x = true := fun x hx => by unfold upd; split <;> simp_all
  have hh : seen hand = true := by
    rcases h.held with h1 | h1
    · exact h1
    · cases h1
  have hb := h.restIn b (List.mem_cons_self ..)
  refine ⟨hs _ h.start, fun u hu => ?_, fun u hu => ?_, fun x hx => h.restIn x (List.mem_cons_of_mem _ hx), .inl (hs _ hh), fun x hx => ?_⟩
  · unfold upd at hu
    split at hu
    · subst_vars; exact (h.real _ hh).step hb.1
    · exact h.real u hu
  · rcases List.mem_append.1 hu with h1 | h1
    · exact ⟨hs _ (h.wait u h1).1, (h.wait u h1).2⟩
    · obtain rfl := List.mem_singleton.1 h1
      exact ⟨by simp [upd], hb.2⟩
  · by_cases e : x = b
    · subst e; exact .inl (List.mem_append_right _ (List.mem_singleton.2 rfl))
    · have hx' : seen x = true := by unfold upd at hx; rwa [if_neg e] at hx
      rcases h.done x hx' with h1 | h1
      · exact .inl (List.mem_append_left _ h1)
      · refine .inr fun c hc => ?_
        rcases h1 c hc with h2 | ⟨h2, h3⟩
        · exact .inl (hs _ h2)
        · rcases List.mem_cons.1 h3 with h3 | h3
          · subst h3; exact .inl (by simp [upd])
          · exact .inr ⟨h2, h3⟩
/-- Nothing waits any more: just what is reached is marked. -/
theorem Seek.finish {n : Nat} {l : List (Nat × Nat)} {v : Nat} {seen : Nat → Bool} {hand : Nat} (h : Seek n l v seen [] hand []) : ∀ u, seen u = rchB l v u := by
  have hc : ∀ u, Rch l v u → seen u = true := by
    intro u hu
    induction hu with
    | refl => exact h.start
    | @step a b _ he ih =>
      rcases h.done a ih with h1 | h1
      · cases h1
      · rcases h1 b he with h2 | ⟨_, h2⟩
        · exact h2
        · cases h2
  intro u
  by_cases hr : Rch l v u
  · rw [hc u hr, rchB_iff.2 hr]
  · have h1 : seen u ≠ true := fun hx => hr (h.real u hx)
    have h2 : rchB l v u ≠ true := fun hx => hr (rchB_iff.1 hx)
    rw [Bool.eq_false_iff.2 h1, Bool.eq_false_iff.2 h2]
end Go.Proofs.Ytifpngjipkmdcaa
