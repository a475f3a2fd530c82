/- How far it is from a vertex: by rounds; by a search that takes the nearest first. Plain. -/
import Derived.Test.YtifpngjipkmdcaaGrowP
namespace Go.Proofs.Ytifpngjipkmdcaa
set_option linter.unusedVariables false
set_option linter.unusedSimpArgs false
/-- A way from s, and its weight. An edge: from, to, weight. -/
inductive Wlk (l : List (Nat × Nat × Nat)) (s : Nat) : Nat → Nat → Prop
  | refl : Wlk l s s 0
  | step {a b d w : Nat} : Wlk l s a d → (a, b, w) ∈ l → Wlk l s b (d + w)
def IsDist (l : List (Nat × Nat × Nat)) (s v d : Nat) : Prop := Wlk l s v d ∧ ∀ d', Wlk l s v d' → d ≤ d'
theorem IsDist.uniq {l : List (Nat × Nat × Nat)} {s v d d' : Nat} (h : IsDist l s v d) (h' : IsDist l s v d') : d = d' := Nat.le_antisymm (h.2 _ h'.1) (h'.2 _ h.1)
theorem exists_least (p : Nat → Prop) (h : ∃ d, p d) : ∃ d, p d ∧ ∀ d', p d' → d ≤ d' := by
  obtain ⟨d, hd⟩ := h
  induction d using Nat.strongRecOn with
  | _ d ih =>
    by_cases hx : ∃ d', d' < d ∧ p d'
    · obtain ⟨d', h1, h2⟩ := hx
      exact ih d' h1 h2
    · exact ⟨d, hd, fun d' h' => Nat.le_of_not_lt fun hlt => hx ⟨d', hlt, h'⟩⟩
theorem isDist_of {l : List (Nat × Nat × Nat)} {s v d : Nat} (h : Wlk l s v d) : ∃ d', IsDist l s v d' ∧ d' ≤ d := by
  obtain ⟨d', h1, h2⟩ := exists_least (fun d => Wlk l s v d) ⟨d, h⟩
  exact ⟨d', ⟨h1, h2⟩, h2 _ h⟩
theorem isDist_self (l : List (Nat × Nat × Nat)) (s : Nat) : IsDist l s s 0 := ⟨.refl, fun _ _ => Nat.zero_le _⟩
open Classical in
/-- The distance; -1: none. -/
noncomputable def distI (l : List (Nat × Nat × Nat)) (s v : Nat) : Int := if h : ∃ d, IsDist l s v d then ((Classical.choose h : Nat) : Int) else -1
theorem distI_of {l : List (Nat × Nat × Nat)} {s v d : Nat} (h : IsDist l s v d) : distI l s v = (d : Int) := by
  unfold distI
  have hx : ∃ d, IsDist l s v d := ⟨d, h⟩
  rw [dif_pos hx, (Classical.choose_spec hx).uniq h]
theorem distI_none {l : List (Nat × Nat × Nat)} {s v : Nat} (h : ∀ d, ¬ Wlk l s v d) : distI l s v = -1 := by
  unfold distI
  rw [dif_neg (fun ⟨d, hd⟩ => h d hd.1)]
/-! ### by rounds -/
def relax1 (f : Nat → Int) (e : Nat × Nat × Nat) : Nat → Int := if 0 ≤ f e.1 ∧ (f e.2.1 < 0 ∨ f e.1 + e.2.2 < f e.2.1) then upd f e.2.1 (f e.1 + e.2.2) else f
def relax (f : Nat → Int) (l : List (Nat × Nat × Nat)) : Nat → Int := l.foldl relax1 f
def relaxes (l : List (Nat × Nat × Nat)) (s : Nat) : Nat → (Nat → Int)
  | 0 => upd (fun _ => -1) s 0
  | k + 1 => relax (relaxes l s k) l
theorem list_snoc_ind2 {α : Type} (p : List α → Prop) (h0 : p []) (h1 : ∀ l a, p l → p (l ++ [a])) : ∀ l, p l := by
  intro l
  have : ∀ l : List α, p l.reverse := by
    intro l
    induction l with
    | nil => exact h0
    | cons a l ih => rw [List.reverse_cons]; exact h1 _ _ ih
  have h := this l.reverse
  rwa [List.reverse_reverse] at h
theorem relax_snoc (f : Nat → Int) (l : List (Nat × Nat × Nat)) (e : Nat × Nat × Nat) : relax f (l ++ [e]) = relax1 (relax f l) e := by unfold relax; rw [List.foldl_append]; rfl
/-- What a number of the table says: -1, or the weight of a way; at most M. -/
def Says (l : List (Nat × Nat × Nat)) (s : Nat) (f : Nat → Int) : Prop := ∀ v, f v = -1 ∨ ∃ d : Nat, f v = (d : Int) ∧ Wlk l s v d
theorem relax1_says {L : List (Nat × Nat × Nat)} {s : Nat} {f : Nat → Int} (h : Says L s f) {e : Nat × Nat × Nat} (he : e ∈ L) : Says L s (relax1 f e) := by
  intro v
  unfold relax1 upd
  split
  · rename_i hc
    dsimp only
    split
    · subst_vars
      rcases h e.1 with h1 | ⟨d, h1, h2⟩
      · omega
      · exact .inr ⟨d + e.2.2, by omega, h2.step he⟩
    · exact h v
  · exact h v
theorem relax_says {L : List (Nat × Nat × Nat)} {s : Nat} {f : Nat → Int} (h : Says L s f) : ∀ l, (∀ e ∈ l, e ∈ L) → Says L s (relax f l) := by
  refine list_snoc_ind2 _ (fun _ => h) (fun l e ih hl => ?_)
  rw [relax_snoc]
  exact relax1_says (ih fun x hx => hl x (List.mem_append_left _ hx)) (hl e (List.mem_append_right _ (List.mem_singleton.2 rfl)))
theorem relaxes_says (l : List (Nat × Nat × Nat)) (s : Nat) : ∀ k, Says l s (relaxes l s k)
  | 0 => fun v => by
    unfold relaxes upd
    by_cases e : v = s
    · subst e; exact .inr ⟨0, by simp, .refl⟩
    · exact .inl (by simp [e])
  | k + 1 => relax_says (relaxes_says l s k) l (fun _ h => h)
/-- No number grows, and none that is there is lost. -/
def Lower (f g : Nat → Int) : Prop := ∀ v, 0 ≤ f v → 0 ≤ g v ∧ g v ≤ f v
theorem relax1_lower {L : List (Nat × Nat × Nat)} {s : Nat} {f : Nat → Int} (h : Says L s f) (e : Nat × Nat × Nat) : Lower f (relax1 f e) := by
  intro v hv
  unfold relax1 upd
  split
  · rename_i hc
    dsimp only
    split
    · subst_vars; omega
    · omega
  · omega
theorem relax_lower {L : List (Nat × Nat × Nat)} {s : Nat} {f : Nat → Int} (h : Says L s f) : ∀ l, (∀ e ∈ l, e ∈ L) → Lower f (relax f l) := by
  refine list_snoc_ind2 _ (fun _ v hv => ⟨hv, Int.le_refl _⟩) (fun l e ih hl v hv => ?_)
  rw [relax_snoc]
  have hl' : ∀ x ∈ l, x ∈ L := fun x hx => hl x (List.mem_append_left _ hx)
  have h1 := ih hl' v hv
  have h2 := relax1_lower (relax_says h l hl') e v h1.1
  omega
theorem relax1_edge (f : Nat → Int) (e : Nat × Nat × Nat) (h : 0 ≤ f e.1) : 0 ≤ relax1 f e e.2.1 ∧ relax1 f e e.2.1 ≤ f e.1 + e.2.2 := by
  unfold relax1 upd
  split
  · simp; omega
  · omega
theorem relax_edge {L : List (Nat × Nat × Nat)} {s : Nat} {f : Nat → Int} (h : Says L s f) : ∀ l, (∀ e ∈ l, e ∈ L) → ∀ e ∈ l, 0 ≤ f e.1 → 0 ≤ relax f l e.2.1 ∧ relax f l e.2.1 ≤ f e.1 + e.2.2 := by
  refine list_snoc_ind2 _ (fun _ e he => by cases he) (fun l x ih hl e he hf => ?_)
  rw [relax_snoc]
  have hl' : ∀ x ∈ l, x ∈ L := fun x hx => hl x (List.mem_append_left _ hx)
  rcases List.mem_append.1 he with he | he
  · have h1 := ih hl' e he hf
    have h2 := relax1_lower (relax_says h l hl') x _ h1.1
    omega
  · obtain rfl := List.mem_singleton.1 he
    have h1 := relax_lower h l hl' _ hf
    have h2 := relax1_edge (relax f l) e h1.1
    omega
theorem relaxes_self (l : List (Nat × Nat × Nat)) (s : Nat) : ∀ k, relaxes l s k s = 0
  | 0 => by simp [relaxes, upd]
  | k + 1 => by
    have h := relax_lower (relaxes_says l s k) l (fun _ h => h) s (by rw [relaxes_self l s k]; exact Int.le_refl _)
    rw [relaxes_self l s k] at h
    have : relaxes l s (k + 1) s = relax (relaxes l s k) l s := rfl
    omega
/-- After n rounds over edges below n the distances stand. -/
theorem relaxes_dist (n : Nat) (l : List (Nat × Nat × Nat)) (hl : ∀ e ∈ l, e.1 < n ∧ e.2.1 < n) (s : Nat) : ∀ v, v < n → relaxes l s n v = distI l s v := by
  have main := grows n (fun k v => ∀ d, IsDist l s v d → relaxes l s k v = (d : Int)) (fun k v _ h d hd => by
      have h1 := h d hd
      have h2 := relax_lower (relaxes_says l s k) l (fun _ h => h) v (by omega)
      have e : relaxes l s (k + 1) v = relax (relaxes l s k) l v := rfl
      rcases relaxes_says l s (k + 1) v with h3 | ⟨d', h3, h4⟩
      · omega
      · have := hd.2 _ h4; omega) (fun k h => by
    obtain ⟨v, hv, hg⟩ := h
    have key : ∀ {v d : Nat}, Wlk l s v d → IsDist l s v d → relaxes l s k v ≠ (d : Int) → ∃ y, y < n ∧ (∃ d', IsDist l s y d' ∧ relaxes l s k y ≠ (d' : Int) ∧ relaxes l s (k + 1) y = (d' : Int)) := by
      intro v d hw
      induction hw with
      | refl => intro hd h; exact absurd (relaxes_self l s k) h
      | @step a b da w hw he ih =>
        intro hd h
        have hda : IsDist l s a da := ⟨hw, fun d' hd' => by have := hd.2 _ (hd'.step he); omega⟩
        by_cases ha : relaxes l s k a = (da : Int)
        · refine ⟨b, (hl _ he).2, da + w, hd, h, ?_⟩
          have h1 := relax_edge (relaxes_says l s k) l (fun _ h => h) _ he (by show 0 ≤ relaxes l s k a; omega)
          have e : relaxes l s (k + 1) b = relax (relaxes l s k) l b := rfl
          simp only at h1
          rcases relaxes_says l s (k + 1) b with h3 | ⟨d', h3, h4⟩
          · omega
          · have := hd.2 _ h4; omega
        · exact ih hda ha
    have hg' : ∃ d, IsDist l s v d ∧ relaxes l s k v ≠ (d : Int) := Classical.byContradiction fun hc => hg fun d hd => Classical.byContradiction fun hx => hc ⟨d, hd, hx⟩
    obtain ⟨d, hd, hx⟩ := hg'
    obtain ⟨y, hy, d', h1, h2, h3⟩ := key hd.1 hd hx
    exact ⟨y, hy, fun h => h2 (h d' h1), fun d2 hd2 => by rw [h3, h1.uniq hd2]⟩)
  intro v hv
  by_cases hx : ∃ d, Wlk l s v d
  · obtain ⟨d, hd⟩ := hx
    obtain ⟨d', h1, _⟩ := isDist_of hd
    rw [main v hv d' h1, distI_of h1]
  · have hno : ∀ d, ¬ Wlk l s v d := fun d hd => hx ⟨d, hd⟩
    rw [distI_none hno]
    rcases relaxes_says l s n v with h | ⟨d, _, h⟩
    · exact h
    · exact absurd h (hno d)
/-! ### nearest first -/
/-- What is settled (far), what waits (q). -/
structure Near (l : List (Nat × Nat × Nat)) (s : Nat) (far : Nat → Int) (q : List (Nat × Nat)) : Prop where
  set : ∀ v, far v = -1 ∨ ∃ d : Nat, far v = (d : Int) ∧ IsDist l s v d
  real : ∀ x ∈ q, Wlk l s x.1 x.2
  first : far s = 0 ∨ (s, 0) ∈ q
  next : ∀ u b w, (u, b, w) ∈ l → 0 ≤ far u → (0 ≤ far b ∧ far b ≤ far u + w) ∨ (b, (far u).toNat + w) ∈ q
theorem Near.begin (l : List (Nat × Nat × Nat)) (s : Nat) : Near l s (fun _ => -1) [(s, 0)] := by
  refine ⟨fun _ => .inl rfl, fun x hx => ?_, .inr (List.mem_singleton.2 rfl), fun u b w _ h => ?_⟩
  · obtain rfl := List.mem_singleton.1 hx
    exact .refl
  · exact absurd h (by decide)
/-- What waits may lie in another order. -/
theorem Near.perm {l : List (Nat × Nat × Nat)} {s : Nat} {far : Nat → Int} {q q' : List (Nat × Nat)} (h : Near l s far q) (hq : ∀ x, x ∈ q' ↔ x ∈ q) : Near l s far q' :=
  ⟨h.set, fun x hx => h.real x ((hq x).1 hx), h.first.imp id (hq _).2, fun u b w he hu => (h.next u b w he hu).imp id (hq _).2⟩
/-- Taken, and settled already. -/
theorem Near.old {l : List (Nat × Nat × Nat)} {s : Nat} {far : Nat → Int} {q : List (Nat × Nat)} {v d : Nat} (h : Near l s far ((v, d) :: q)) (hv : 0 ≤ far v) : Near l s far q := by
  have hle : far v ≤ (d : Int) := by
    rcases h.set v with h1 | ⟨d', h1, h2⟩
    · omega
    · have := h2.2 _ (h.real (v, d) (List.mem_cons_self ..)); omega
  refine ⟨h.set, fun x hx => h.real x (List.mem_cons_of_mem _ hx), ?_, fun u b w he hu => ?_⟩
  · rcases h.first with h1 | h1
    · exact .inl h1
    · rcases List.mem_cons.1 h1 with h1 | h1
      · injection h1 with h2 h3
        subst h2 h3
        left; omega
      · exact .inr h1
  · rcases h.next u b w he hu with h1 | h1
    · exact .inl h1
    · rcases List.mem_cons.1 h1 with h1 | h1
      · injection h1 with h2 h3
        subst h2 h3
        left; omega
      · exact .inr h1
/-- The nearest one that waits is as far as it says. -/
theorem Near.least {l : List (Nat × Nat × Nat)} {s : Nat} {far : Nat → Int} {q : List (Nat × Nat)} {v d : Nat} (h : Near l s far ((v, d) :: q)) (hmin : ∀ x ∈ q, d ≤ x.2) (hv : far v = -1) : IsDist l s v d := by
  refine ⟨h.real _ (List.mem_cons_self ..), ?_⟩
  have hall : ∀ x ∈ (v, d) :: q, d ≤ x.2 := fun x hx => by
    rcases List.mem_cons.1 hx with rfl | hx
    · exact Nat.le_refl _
    · exact hmin x hx
  have key : ∀ {u d' : Nat}, Wlk l s u d' → d ≤ d' ∨ (0 ≤ far u ∧ far u ≤ (d' : Int)) := by
    intro u d' hw
    induction hw with
    | refl =>
      rcases h.first with h1 | h1
      · right; omega
      · left; exact hall _ h1
    | @step a b da w hw he ih =>
      rcases ih with h1 | ⟨h1, h2⟩
      · left; omega
      · rcases h.next a b w he h1 with ⟨h3, h4⟩ | h3
        · right; omega
        · left
          have := hall _ h3
          simp only at this
          omega
  intro d' hd'
  rcases key hd' with h1 | ⟨h1, _⟩
  · exact h1
  · omega
/-- It is settled, and the ends of its edges wait. -/
theorem Near.settle {l : List (Nat × Nat × Nat)} {s : Nat} {far : Nat → Int} {q q' : List (Nat × Nat)} {v d : Nat} (h : Near l s far ((v, d) :: q)) (hmin : ∀ x ∈ q, d ≤ x.2) (hv : far v = -1)
    (hq : ∀ x, x ∈ q' ↔ x ∈ q ∨ ∃ b w, (v, b, w) ∈ l ∧ x = (b, d + w)) : Near l s (upd far v (d : Int)) q' := by
  have hd := h.least hmin hv
  refine ⟨fun u => ?_, fun x hx => ?_, ?_, fun u b w he hu => ?_⟩
  · unfold upd
    split
    · subst_vars; exact .inr ⟨d, rfl, hd⟩
    · exact h.set u
  · rcases (hq x).1 hx with h1 | ⟨b, w, h1, rfl⟩
    · exact h.real x (List.mem_cons_of_mem _ h1)
    · exact hd.1.step h1
  · by_cases e : s = v
    · subst e
      left
      have := hd.2 0 .refl
      simp [upd]; omega
    · rcases h.first with h1 | h1
      · left; simp [upd, e, h1]
      · rcases List.mem_cons.1 h1 with h1 | h1
        · injection h1 with h2 h3
          exact absurd h2 e
        · exact .inr ((hq _).2 (.inl h1))
  · by_cases e : u = v
    · subst e
      right
      simp only [upd, if_pos]
      exact (hq _).2 (.inr ⟨b, w, he, by simp⟩)
    · have hu' : 0 ≤ far u := by simpa [upd, e] using hu
      have hfu : upd far v (d : Int) u = far u := by simp [upd, e]
      rw [hfu]
      rcases h.next u b w he hu' with ⟨h1, h2⟩ | h1
      · left
        by_cases e2 : b = v
        · subst e2; omega
        · have : upd far v (d : Int) b = far b := by simp [upd, e2]
          rw [this]; exact ⟨h1, h2⟩
      · rcases List.mem_cons.1 h1 with h1 | h1
        · injection h1 with h2 h3
          left
          subst h2
          simp only [upd, if_pos]
          omega
        · exact .inr ((hq _).2 (.inl h1))
/-- Nothing waits: the distances stand. -/
theorem Near.finish {l : List (Nat × Nat × Nat)} {s : Nat} {far : Nat → Int} (h : Near l s far []) : ∀ v, far v = distI l s v := by
  have key : ∀ {u d' : Nat}, Wlk l s u d' → 0 ≤ far u := by
    intro u d' hw
    induction hw with
    | refl =>
      rcases h.first with h1 | h1
      · omega
      · cases h1
    | @step a b da w hw he ih =>
      rcases h.next a b w he ih with ⟨h3, h4⟩ | h3
      · exact h3
      · cases h3
  intro v
  rcases h.set v with h1 | ⟨d, h1, h2⟩
  · rw [h1, distI_none]
    intro d hd
    have := key hd
    omega
  · rw [h1, distI_of h2]
end Go.Proofs.Ytifpngjipkmdcaa
