/- The least vertex that each one is joined to: by roots, and by rounds. Plain. -/
import Derived.Test.YtifpngjipkmdcaaGrowP
namespace Go.Proofs.Ytifpngjipkmdcaa
/-- Joined by edges, whichever way they go. -/
inductive Joined (l : List (Nat × Nat)) : Nat → Nat → Prop
  | refl (v : Nat) : Joined l v v
  | fwd {u a b : Nat} : Joined l u a → (a, b) ∈ l → Joined l u b
  | bwd {u a b : Nat} : Joined l u b → (a, b) ∈ l → Joined l u a
namespace Joined
variable {l : List (Nat × Nat)}
theorem trans {u v x : Nat} (h : Joined l u v) (k : Joined l v x) : Joined l u x := by
  induction k with
  | refl => exact h
  | fwd _ he ih => exact ih.fwd he
  | bwd _ he ih => exact ih.bwd he
theorem symm {u v : Nat} (h : Joined l u v) : Joined l v u := by
  induction h with
  | refl => exact .refl _
  | fwd _ he ih => exact (Joined.bwd (.refl _) he).trans ih
  | bwd _ he ih => exact (Joined.fwd (.refl _) he).trans ih
theorem mono {l' : List (Nat × Nat)} (hl : ∀ e ∈ l, e ∈ l') {u v : Nat} (h : Joined l u v) : Joined l' u v := by
  induction h with
  | refl => exact .refl _
  | fwd _ he ih => exact ih.fwd (hl _ he)
  | bwd _ he ih => exact ih.bwd (hl _ he)
end Joined
/-- m is the least vertex joined to v. -/
def IsLeast (l : List (Nat × Nat)) (v m : Nat) : Prop := Joined l v m ∧ ∀ u, Joined l v u → m ≤ u
theorem IsLeast.uniq {l : List (Nat × Nat)} {v m m' : Nat} (h : IsLeast l v m) (h' : IsLeast l v m') : m = m' := Nat.le_antisymm (h.2 _ h'.1) (h'.2 _ h.1)
/-- Up to the root. -/
def rootN (f : Nat → Nat) : Nat → Nat → Nat
  | 0, v => v
  | k + 1, v => if f v = v then v else rootN f k (f v)
def root (f : Nat → Nat) (v : Nat) : Nat := rootN f v v
def Down (f : Nat → Nat) : Prop := ∀ v, f v ≤ v
theorem rootN_more {f : Nat → Nat} (hd : Down f) : ∀ (k v : Nat), v ≤ k → rootN f k v = rootN f v v := by
  intro k
  induction k using Nat.strongRecOn with
  | _ k ih =>
    intro v hv
    cases k with
    | zero => obtain rfl : v = 0 := by omega
              rfl
    | succ k =>
      cases v with
      | zero => have := hd 0; simp only [rootN]; rw [if_pos (by omega)]
      | succ v =>
        simp only [rootN]
        by_cases h : f (v + 1) = v + 1
        · rw [if_pos h, if_pos h]
        · rw [if_neg h, if_neg h]
          have h1 := hd (v + 1)
          rw [ih k (by omega) (f (v + 1)) (by omega)]
          by_cases hk : v = k
          · subst hk; rw [ih v (by omega) (f (v + 1)) (by omega)]
          · rw [ih v (by omega) (f (v + 1)) (by omega)]
theorem root_fix {f : Nat → Nat} {v : Nat} (h : f v = v) : root f v = v := by
  unfold root
  cases v with
  | zero => rfl
  | succ v => simp only [rootN]; rw [if_pos h]
theorem root_step {f : Nat → Nat} (hd : Down f) {v : Nat} (h : f v ≠ v) : root f v = root f (f v) := by
  unfold root
  have h1 := hd v
  cases v with
  | zero => omega
  | succ v =>
    simp only [rootN]
    rw [if_neg h, rootN_more hd v (f (v + 1)) (by omega)]
theorem root_ind {f : Nat → Nat} (hd : Down f) (p : Nat → Prop) (h0 : ∀ v, f v = v → p v) (h1 : ∀ v, f v ≠ v → p (f v) → p v) : ∀ v, p v := by
  intro v
  induction v using Nat.strongRecOn with
  | _ v ih =>
    by_cases h : f v = v
    · exact h0 v h
    · exact h1 v h (ih (f v) (by have := hd v; omega))
theorem root_is {f : Nat → Nat} (hd : Down f) : ∀ v, f (root f v) = root f v := by
  refine root_ind hd _ (fun v h => ?_) (fun v h ih => ?_)
  · rw [root_fix h]; exact h
  · rw [root_step hd h]; exact ih
theorem root_le {f : Nat → Nat} (hd : Down f) : ∀ v, root f v ≤ v := by
  refine root_ind hd _ (fun v h => ?_) (fun v h ih => ?_)
  · rw [root_fix h]; exact Nat.le_refl _
  · rw [root_step hd h]; exact Nat.le_trans ih (hd v)
/-- One edge: the greater root hangs on the lesser. -/
def link1 (f : Nat → Nat) (a b : Nat) : Nat → Nat := upd f (max (root f a) (root f b)) (min (root f a) (root f b))
theorem link1_down {f : Nat → Nat} (hd : Down f) (a b : Nat) : Down (link1 f a b) := by
  intro v
  unfold link1 upd
  split
  · omega
  · exact hd v
theorem root_link1 {f : Nat → Nat} (hd : Down f) (a b : Nat) : ∀ v, root (link1 f a b) v = if root f v = max (root f a) (root f b) then min (root f a) (root f b) else root f v := by
  have ha := root_is hd a
  have hb := root_is hd b
  have hd' := link1_down hd a b
  refine root_ind hd _ (fun v h => ?_) (fun v h ih => ?_)
  · rw [root_fix h]
    by_cases e : v = max (root f a) (root f b)
    · rw [if_pos e]
      by_cases e2 : max (root f a) (root f b) = min (root f a) (root f b)
      · have : link1 f a b v = v := by unfold link1 upd; rw [if_pos e]; omega
        rw [root_fix this]; omega
      · have h1 : link1 f a b v = min (root f a) (root f b) := by unfold link1 upd; rw [if_pos e]
        rw [root_step hd' (by omega), h1]
        apply root_fix
        unfold link1 upd
        rw [if_neg (by omega)]
        rcases Nat.le_total (root f a) (root f b) with h2 | h2
        · rw [Nat.min_eq_left h2]; exact ha
        · rw [Nat.min_eq_right h2]; exact hb
    · rw [if_neg e]
      apply root_fix
      unfold link1 upd
      rw [if_neg e]; exact h
  · have e : v ≠ max (root f a) (root f b) := by
      intro e
      rcases Nat.le_total (root f a) (root f b) with h2 | h2
      · rw [Nat.max_eq_right h2] at e; subst e; exact h hb
      · rw [Nat.max_eq_left h2] at e; subst e; exact h ha
    have h1 : link1 f a b v = f v := by unfold link1 upd; rw [if_neg e]
    rw [root_step hd' (by rw [h1]; exact h), h1, ih, root_step hd h]
/-- All edges. -/
def links (l : List (Nat × Nat)) : Nat → Nat := l.foldl (fun f e => link1 f e.1 e.2) id
theorem links_snoc (l : List (Nat × Nat)) (e : Nat × Nat) : links (l ++ [e]) = link1 (links l) e.1 e.2 := by unfold links; rw [List.foldl_append]; rfl
theorem list_snoc_ind {α : Type} (p : List α → Prop) (h0 : p []) (h1 : ∀ l a, p l → p (l ++ [a])) : ∀ l, p l := by
  intro l
  have : ∀ l : List α, p l.reverse := by
    intro l
    induction l with
    | nil => exact h0
    | cons a l ih => rw [List.reverse_cons]; exact h1 _ _ ih
  have h := this l.reverse
  rwa [List.reverse_reverse] at h
theorem links_down : ∀ l, Down (links l) := by
  refine list_snoc_ind _ (fun v => Nat.le_refl _) (fun l e ih => ?_)
  rw [links_snoc]
  exact link1_down ih _ _
theorem links_joined : ∀ l v, Joined l v (root (links l) v) := by
  refine list_snoc_ind _ (fun v => ?_) (fun l e ih v => ?_)
  · rw [root_fix rfl]; exact .refl _
  · rw [links_snoc, root_link1 (links_down l)]
    have hm : ∀ x ∈ l, x ∈ l ++ [e] := fun x hx => List.mem_append_left _ hx
    have hab : Joined (l ++ [e]) (root (links l) e.1) (root (links l) e.2) :=
      ((ih e.1).mono hm).symm.trans ((Joined.fwd (.refl e.1) (List.mem_append_right _ (List.mem_singleton.2 rfl))).trans ((ih e.2).mono hm))
    split
    · rename_i h
      refine ((ih v).mono hm).trans ?_
      rw [h]
      rcases Nat.le_total (root (links l) e.1) (root (links l) e.2) with h2 | h2
      · rw [Nat.max_eq_right h2, Nat.min_eq_left h2]; exact hab.symm
      · rw [Nat.max_eq_left h2, Nat.min_eq_right h2]; exact hab
    · exact (ih v).mono hm
theorem links_same : ∀ l, ∀ e ∈ l, root (links l) e.1 = root (links l) e.2 := by
  refine list_snoc_ind _ (fun e h => by cases h) (fun l x ih e h => ?_)
  rw [links_snoc, root_link1 (links_down l), root_link1 (links_down l)]
  rcases List.mem_append.1 h with h | h
  · rw [ih e h]
  · obtain rfl := List.mem_singleton.1 h
    split <;> split <;> omega
theorem links_const {l : List (Nat × Nat)} {u v : Nat} (h : Joined l u v) : root (links l) u = root (links l) v := by
  induction h with
  | refl => rfl
  | fwd _ he ih => rw [ih]; exact links_same l _ he
  | bwd _ he ih => rw [ih]; exact (links_same l _ he).symm
/-- The root is the least that is joined. -/
theorem links_least (l : List (Nat × Nat)) (v : Nat) : IsLeast l v (root (links l) v) :=
  ⟨links_joined l v, fun u hu => by rw [links_const hu]; exact root_le (links_down l) u⟩
/-- The last loop: each vertex below k hangs on its root. -/
def flat (f : Nat → Nat) (k : Nat) : Nat → Nat := fun v => if v < k then root f v else f v
theorem flat_down {f : Nat → Nat} (hd : Down f) (k : Nat) : Down (flat f k) := by
  intro v; unfold flat; split
  · exact root_le hd v
  · exact hd v
theorem root_flat {f : Nat → Nat} (hd : Down f) (k : Nat) : ∀ v, root (flat f k) v = root f v := by
  have hf := flat_down hd k
  intro v
  induction v using Nat.strongRecOn with
  | _ v ih =>
    by_cases h : flat f k v = v
    · rw [root_fix h]
      unfold flat at h
      split at h
      · exact h.symm
      · rw [root_fix h]
    · rw [root_step hf h]
      have hlt : flat f k v < v := by have := hf v; omega
      rw [ih _ hlt]
      unfold flat at h ⊢
      split
      · rw [root_fix (root_is hd v)]
      · rename_i hk
        rw [if_neg hk] at h
        rw [← root_step hd h]
theorem flat_next {f : Nat → Nat} (k : Nat) : upd (flat f k) k (root f k) = flat f (k + 1) := by
  funext v
  unfold upd flat
  by_cases e : v = k
  · subst e; simp
  · rw [if_neg e]
    by_cases h : v < k
    · rw [if_pos h, if_pos (by omega)]
    · rw [if_neg h, if_neg (by omega)]
/-! ### by rounds -/
def spread1 (f : Nat → Nat) (e : Nat × Nat) : Nat → Nat := if f e.1 < f e.2 then upd f e.2 (f e.1) else upd f e.1 (f e.2)
def spread (f : Nat → Nat) (l : List (Nat × Nat)) : Nat → Nat := l.foldl spread1 f
def spreads (l : List (Nat × Nat)) : Nat → (Nat → Nat)
  | 0 => id
  | k + 1 => spread (spreads l k) l
theorem spread_snoc (f : Nat → Nat) (l : List (Nat × Nat)) (e : Nat × Nat) : spread f (l ++ [e]) = spread1 (spread f l) e := by unfold spread; rw [List.foldl_append]; rfl
theorem spread1_le (f : Nat → Nat) (e : Nat × Nat) (v : Nat) : spread1 f e v ≤ f v := by
  unfold spread1 upd
  split <;> (dsimp only; split <;> (try subst_vars) <;> omega)
theorem spread1_both (f : Nat → Nat) (e : Nat × Nat) : spread1 f e e.2 ≤ f e.1 ∧ spread1 f e e.1 ≤ f e.2 := by
  unfold spread1 upd
  split
  · dsimp only
    refine ⟨by simp, ?_⟩
    split <;> omega
  · dsimp only
    refine ⟨?_, by simp⟩
    split <;> omega
theorem spread_le (f : Nat → Nat) : ∀ l v, spread f l v ≤ f v := by
  refine list_snoc_ind _ (fun v => Nat.le_refl _) (fun l e ih v => ?_)
  rw [spread_snoc]
  exact Nat.le_trans (spread1_le _ _ _) (ih v)
theorem spread_both (f : Nat → Nat) : ∀ l, ∀ e ∈ l, spread f l e.2 ≤ f e.1 ∧ spread f l e.1 ≤ f e.2 := by
  refine list_snoc_ind _ (fun e h => by cases h) (fun l x ih e h => ?_)
  rw [spread_snoc]
  rcases List.mem_append.1 h with h | h
  · exact ⟨Nat.le_trans (spread1_le _ _ _) (ih e h).1, Nat.le_trans (spread1_le _ _ _) (ih e h).2⟩
  · obtain rfl := List.mem_singleton.1 h
    have h1 := spread1_both (spread f l) e
    exact ⟨Nat.le_trans h1.1 (spread_le f l _), Nat.le_trans h1.2 (spread_le f l _)⟩
theorem spread_joined {L : List (Nat × Nat)} {f : Nat → Nat} (hf : ∀ v, Joined L v (f v)) : ∀ l, (∀ e ∈ l, e ∈ L) → ∀ v, Joined L v (spread f l v) := by
  refine list_snoc_ind _ (fun _ v => hf v) (fun l e ih hl v => ?_)
  have h := ih (fun x hx => hl x (List.mem_append_left _ hx))
  have he : e ∈ L := hl e (List.mem_append_right _ (List.mem_singleton.2 rfl))
  rw [spread_snoc]
  unfold spread1 upd
  split
  · dsimp only
    split
    · subst_vars; exact (Joined.bwd (.refl _) he).trans (h _)
    · exact h v
  · dsimp only
    split
    · subst_vars; exact (Joined.fwd (.refl _) he).trans (h _)
    · exact h v
theorem spreads_joined (l : List (Nat × Nat)) : ∀ k v, Joined l v (spreads l k v)
  | 0, v => .refl v
  | k + 1, v => spread_joined (spreads_joined l k) l (fun _ h => h) v
/-- After n rounds over edges below n each vertex has the least that is joined. -/
theorem spreads_least (n : Nat) (l : List (Nat × Nat)) (hl : ∀ e ∈ l, e.1 < n ∧ e.2 < n) : ∀ v, v < n → spreads l n v = root (links l) v := by
  have low : ∀ k v, root (links l) v ≤ spreads l k v := fun k v => (links_least l v).2 _ (spreads_joined l k v)
  refine grows n (fun k v => spreads l k v = root (links l) v) (fun k v _ h => ?_) (fun k h => ?_)
  · have h1 := spread_le (spreads l k) l v
    have h2 := low (k + 1) v
    show spread (spreads l k) l v = _
    have h3 : spread (spreads l k) l v = spreads l (k + 1) v := rfl
    omega
  · obtain ⟨v, hv, hg⟩ := h
    have hm : spreads l k (root (links l) v) = root (links l) (root (links l) v) := by
      have h1 := low k (root (links l) v)
      rw [root_fix (root_is (links_down l) v)] at h1 ⊢
      have h2 : ∀ k u, spreads l k u ≤ u := by
        intro k
        induction k with
        | zero => exact fun u => Nat.le_refl _
        | succ k ih => exact fun u => Nat.le_trans (spread_le _ _ _) (ih u)
      have := h2 k (root (links l) v)
      omega
    have key : ∀ {u x : Nat}, Joined l u x → spreads l k u = root (links l) u → spreads l k x ≠ root (links l) x → ∃ y, y < n ∧ spreads l k y ≠ root (links l) y ∧ spreads l (k + 1) y = root (links l) y := by
      intro u x hj
      induction hj with
      | refl => intro h1 h2; exact absurd h1 h2
      | @fwd a b hj he ih =>
        intro h1 h2
        by_cases ha : spreads l k a = root (links l) a
        · refine ⟨b, (hl _ he).2, h2, ?_⟩
          have h3 := (spread_both (spreads l k) l _ he).1
          have h4 := low (k + 1) b
          have h5 := links_same l _ he
          have h6 : spread (spreads l k) l b = spreads l (k + 1) b := rfl
          simp only at h3 h5
          omega
        · exact ih h1 ha
      | @bwd a b hj he ih =>
        intro h1 h2
        by_cases ha : spreads l k b = root (links l) b
        · refine ⟨a, (hl _ he).1, h2, ?_⟩
          have h3 := (spread_both (spreads l k) l _ he).2
          have h4 := low (k + 1) a
          have h5 := links_same l _ he
          have h6 : spread (spreads l k) l a = spreads l (k + 1) a := rfl
          simp only at h3 h5
          omega
        · exact ih h1 ha
    exact key ((links_joined l v).symm) hm hg
end Go.Proofs.Ytifpngjipkmdcaa
