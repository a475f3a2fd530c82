/- Lists in order: there is one alone; one by one put where it belongs. Plain. -/
namespace Go.Proofs.Ytifpngjipkmdcaa
set_option linter.unusedVariables false
set_option linter.unusedSimpArgs false
/-- A strict order that tells any two apart. -/
structure Strict {α : Type} (lt : α → α → Bool) : Prop where
  irrefl : ∀ a, lt a a = false
  trans : ∀ a b c, lt a b = true → lt b c = true → lt a c = true
  total : ∀ a b, lt a b = false → lt b a = false → a = b
def Srt {α : Type} (lt : α → α → Bool) (l : List α) : Prop := l.Pairwise fun a b => lt b a = false
section
variable {α : Type} {lt : α → α → Bool}
theorem Strict.asymm (h : Strict lt) {a b : α} (hab : lt a b = true) : lt b a = false := by
  cases hb : lt b a
  · rfl
  · have := h.trans a b a hab hb
    rw [h.irrefl] at this
    cases this
theorem Strict.le_trans (h : Strict lt) {a b c : α} (h1 : lt b a = false) (h2 : lt c b = false) : lt c a = false := by
  cases hc : lt c a
  · rfl
  · cases hab : lt a b
    · have := h.total a b hab h1
      subst this
      rw [hc] at h2; cases h2
    · have := h.trans c a b hc hab
      rw [this] at h2; cases h2
/-- A list in order is told by what it holds. -/
theorem srt_uniq (h : Strict lt) {l l' : List α} (hp : l.Perm l') (hs : Srt lt l) (hs' : Srt lt l') : l = l' :=
  List.Perm.eq_of_pairwise (fun a b _ _ h1 h2 => h.total a b h2 h1) hs hs' hp
/-- The list in order. -/
noncomputable def srtOf (lt : α → α → Bool) (l : List α) : List α := l.mergeSort fun a b => !lt b a
theorem srtOf_perm (l : List α) : (srtOf lt l).Perm l := List.mergeSort_perm _ _
theorem srtOf_srt (h : Strict lt) (l : List α) : Srt lt (srtOf lt l) := by
  have := List.pairwise_mergeSort (le := fun a b => !lt b a) (fun a b c h1 h2 => by
    simp only [Bool.not_eq_true'] at h1 h2 ⊢
    exact h.le_trans h1 h2) (fun a b => by
    cases hab : lt b a
    · simp
    · simp [h.asymm hab]) l
  unfold srtOf Srt
  exact this.imp (fun h => by simpa using h)
theorem srtOf_eq (h : Strict lt) {l l' : List α} (hp : l'.Perm l) (hs : Srt lt l') : srtOf lt l = l' :=
  srt_uniq h ((srtOf_perm l).trans hp.symm) (srtOf_srt h l) hs
theorem srtOf_congr (h : Strict lt) {l l' : List α} (hp : l'.Perm l) : srtOf lt l = srtOf lt l' :=
  srt_uniq h ((srtOf_perm l).trans (hp.symm.trans (srtOf_perm l').symm)) (srtOf_srt h l) (srtOf_srt h l')
theorem srtOf_len (l : List α) : (srtOf lt l).length = l.length := (srtOf_perm l).length_eq
/-- x on its way down: behind it all that is greater; without it the list is in order. -/
def Sink (lt : α → α → Bool) (l : List α) (p : List α) (x : α) (q : List α) : Prop := (p ++ x :: q).Perm l ∧ Srt lt (p ++ q) ∧ ∀ y ∈ q, lt x y = true
theorem Sink.begin {p l : List α} {x : α} (hp : p.Perm l) (hs : Srt lt p) : Sink lt (l ++ [x]) p x [] :=
  ⟨hp.append_right [x], by simpa using hs, fun y hy => by cases hy⟩
theorem Sink.down {p q l : List α} {x y : α} (h : Sink lt l (p ++ [y]) x q) (hxy : lt x y = true) : Sink lt l p x (y :: q) := by
  obtain ⟨h1, h2, h3⟩ := h
  refine ⟨List.Perm.trans ?_ h1, by simpa using h2, fun z hz => ?_⟩
  · rw [List.append_assoc]
    exact (List.Perm.swap y x q).append_left p
  · rcases List.mem_cons.1 hz with rfl | hz
    · exact hxy
    · exact h3 z hz
theorem Sink.stop (ho : Strict lt) {p q l : List α} {x : α} (h : Sink lt l p x q) (hp : ∀ p' y, p = p' ++ [y] → lt x y = false) : (p ++ x :: q).Perm l ∧ Srt lt (p ++ x :: q) := by
  obtain ⟨h1, h2, h3⟩ := h
  refine ⟨h1, ?_⟩
  unfold Srt at h2 ⊢
  rw [List.pairwise_append] at h2 ⊢
  obtain ⟨s1, s2, s3⟩ := h2
  refine ⟨s1, List.pairwise_cons.2 ⟨fun y hy => ho.asymm (h3 y hy), s2⟩, fun a ha b hb => ?_⟩
  rcases List.mem_cons.1 hb with rfl | hb
  · rcases List.eq_nil_or_concat p with h0 | ⟨p', y, h0⟩
    · subst h0; cases ha
    · rw [List.concat_eq_append] at h0
      have hy := hp p' y h0
      subst h0
      rcases List.mem_append.1 ha with ha | ha
      · have hay : lt y a = false := (List.pairwise_append.1 s1).2.2 a ha y (List.mem_singleton.2 rfl)
        exact ho.le_trans hay hy
      · obtain rfl := List.mem_singleton.1 ha
        exact hy
  · exact s3 a ha b hb
end
end Go.Proofs.Ytifpngjipkmdcaa
