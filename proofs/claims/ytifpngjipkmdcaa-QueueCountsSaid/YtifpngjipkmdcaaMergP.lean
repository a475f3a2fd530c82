/- Lists in order made one, head by head. Plain. -/
import Derived.Test.YtifpngjipkmdcaaMOrd
import Derived.Test.YtifpngjipkmdcaaHeapP
namespace Go.Proofs.Ytifpngjipkmdcaa
set_option linter.unusedVariables false
set_option linter.unusedSimpArgs false
/-- What is left of a list, and which list it is. -/
structure Hd where
  m : ML Mail
  i : Nat
def Hd.top (h : Hd) : Mail := (h.m.l[0]?).getD ⟨0, 0⟩
def hdC (a b : Hd) : Int := orV (ordV a.top b.top) ((a.i : Int) - (b.i : Int))
def hdlt (a b : Hd) : Bool := decide (hdC a b < 0)
theorem ordV_rev (a b : Mail) : (ordV a b < 0 ↔ 0 < ordV b a) ∧ (ordV a b = 0 ↔ a = b) := by
  obtain ⟨x, y⟩ := a
  obtain ⟨u, v⟩ := b
  unfold ordV orV cmp3
  simp only [Mail.mk.injEq]
  constructor
  · constructor <;> intro h <;> (repeat' split at h) <;> (repeat' split) <;> omega
  · constructor
    · intro h; (repeat' split at h) <;> omega
    · rintro ⟨rfl, rfl⟩; simp
theorem hdlt_iff (a b : Hd) : hdlt a b = true ↔ (mlt a.top b.top = true ∨ (a.top = b.top ∧ a.i < b.i)) := by
  unfold hdlt hdC
  rw [decide_eq_true_eq, ← ordV_neg, decide_eq_true_eq]
  have h := ordV_rev a.top b.top
  unfold orV
  by_cases h0 : ordV a.top b.top = 0
  · rw [if_neg (by omega), h0]
    have := h.2.1 h0
    constructor
    · intro h1; exact .inr ⟨this, by omega⟩
    · rintro (h1 | ⟨_, h1⟩) <;> omega
  · rw [if_pos h0]
    constructor
    · intro h1; exact .inl h1
    · rintro (h1 | ⟨h1, _⟩)
      · exact h1
      · exact absurd (h.2.2 h1) h0
theorem hdlt_no {a b : Hd} : hdlt a b = false ↔ (mlt a.top b.top = false ∧ (a.top = b.top → b.i ≤ a.i)) := by
  have h := hdlt_iff a b
  constructor
  · intro h1
    rw [h1] at h
    have h2 : ¬ (mlt a.top b.top = true ∨ (a.top = b.top ∧ a.i < b.i)) := fun h3 => by have := h.2 h3; cases this
    refine ⟨by cases hm : mlt a.top b.top with | false => rfl | true => exact absurd (.inl hm) h2, fun e => ?_⟩
    rcases Nat.lt_or_ge a.i b.i with h4 | h4
    · exact absurd (.inr ⟨e, h4⟩) h2
    · exact h4
  · rintro ⟨h1, h2⟩
    cases hh : hdlt a b with
    | false => rfl
    | true =>
      rcases h.1 hh with h3 | ⟨h3, h4⟩
      · rw [h1] at h3; cases h3
      · have := h2 h3; omega
theorem hdlt_irr (a : Hd) : hdlt a a = false := hdlt_no.2 ⟨mlt_strict.irrefl _, fun _ => Nat.le_refl _⟩
theorem hdlt_ord : Ord2 hdlt where
  asym x y h := by
    rw [hdlt_no]
    rcases (hdlt_iff x y).1 h with h | ⟨h, h2⟩
    · exact ⟨mlt_strict.asymm h, fun e => by rw [e, mlt_strict.irrefl] at h; cases h⟩
    · exact ⟨by rw [h]; exact mlt_strict.irrefl _, fun _ => by omega⟩
  trans x y z h1 h2 := by
    rw [hdlt_no] at *
    refine ⟨mlt_strict.le_trans h1.1 h2.1, fun e => ?_⟩
    have e1 : y.top = x.top := mlt_strict.total _ _ h1.1 (by rw [← e]; exact h2.1)
    have e2 : z.top = y.top := by rw [e, e1]
    have := h1.2 e1
    have := h2.2 e2
    omega
/-- What is out, and what is left, of all. -/
def MInv (all : List Mail) (H : List Hd) (out : List Mail) : Prop :=
  (out ++ H.flatMap (fun h => h.m.l)).Perm all ∧ Srt mlt out ∧ (∀ x ∈ out, ∀ h ∈ H, ∀ y ∈ h.m.l, mlt y x = false) ∧ ∀ h ∈ H, h.m.l ≠ [] ∧ Srt mlt h.m.l
theorem top_cons {h : Hd} {x : Mail} {t : List Mail} (e : h.m.l = x :: t) : h.top = x := by unfold Hd.top; rw [e]; rfl
theorem MInv.perm {all : List Mail} {H H' : List Hd} {out : List Mail} (h : MInv all H out) (hp : H.Perm H') : MInv all H' out :=
  ⟨((hp.symm.flatMap_right _).append_left out).trans h.1, h.2.1, fun x hx k hk => h.2.2.1 x hx k (hp.mem_iff.2 hk), fun k hk => h.2.2.2 k (hp.mem_iff.2 hk)⟩
theorem MInv.push {all : List Mail} {H : List Hd} {k : Hd} {more : List Mail} (h : MInv all H []) (h1 : k.m.l ≠ []) (h2 : Srt mlt k.m.l) (e : more = all ++ k.m.l) : MInv more (H ++ [k]) [] := by
  subst e
  refine ⟨?_, h.2.1, fun x hx => (by cases hx), fun y hy => ?_⟩
  · rw [List.flatMap_append, ← List.append_assoc]
    simp only [List.flatMap_cons, List.flatMap_nil, List.append_nil]
    exact h.1.append_right _
  · rcases List.mem_append.1 hy with hy | hy
    · exact h.2.2.2 y hy
    · obtain rfl := List.mem_singleton.1 hy
      exact ⟨h1, h2⟩
theorem MInv.pop {all : List Mail} {H : List Hd} {k : Hd} {x : Mail} {t : List Mail} {out : List Mail} (h : MInv all (k :: H) out) (hx : k.m.l = x :: t) (hl : ∀ y ∈ H, hdlt y k = false) :
    MInv all H (out ++ [x]) ∨ t ≠ [] := by
  by_cases ht : t = []
  · refine .inl ⟨?_, ?_, ?_, fun y hy => h.2.2.2 y (List.mem_cons_of_mem _ hy)⟩
    · have := h.1
      rw [List.flatMap_cons, hx, ht] at this
      simpa using this
    · unfold Srt
      rw [List.pairwise_append]
      refine ⟨h.2.1, List.pairwise_singleton _ _, fun a ha b hb => ?_⟩
      obtain rfl := List.mem_singleton.1 hb
      exact h.2.2.1 a ha k (List.mem_cons_self ..) b (by rw [hx]; exact List.mem_cons_self ..)
    · intro a ha y hy b hb
      rcases List.mem_append.1 ha with ha | ha
      · exact h.2.2.1 a ha y (List.mem_cons_of_mem _ hy) b hb
      · obtain rfl := List.mem_singleton.1 ha
        have h1 := (hdlt_no.1 (hl y hy)).1
        rw [top_cons hx] at h1
        obtain ⟨h2, h3⟩ := h.2.2.2 y (List.mem_cons_of_mem _ hy)
        obtain ⟨z, r, hz⟩ := List.exists_cons_of_ne_nil h2
        rw [top_cons hz] at h1
        rw [hz] at hb h3
        rcases List.mem_cons.1 hb with rfl | hb
        · exact h1
        · exact mlt_strict.le_trans h1 ((List.pairwise_cons.1 h3).1 b hb)
  · exact .inr ht
theorem MInv.less {all : List Mail} {H : List Hd} {k k' : Hd} {x : Mail} {t : List Mail} {out : List Mail} (h : MInv all (k :: H) out) (hx : k.m.l = x :: t) (hl : ∀ y ∈ H, hdlt y k = false) (hk : k'.m.l = t) (ht : t ≠ []) :
    MInv all (H ++ [k']) (out ++ [x]) := by
  have hs := (h.2.2.2 k (List.mem_cons_self ..)).2
  rw [hx] at hs
  refine ⟨?_, ?_, ?_, fun y hy => ?_⟩
  · have := h.1
    rw [List.flatMap_cons, hx] at this
    refine List.Perm.trans ?_ this
    rw [List.flatMap_append]
    simp only [List.flatMap_cons, List.flatMap_nil, List.append_nil, hk, List.append_assoc, List.cons_append, List.nil_append]
    exact (List.Perm.cons x List.perm_append_comm).append_left out
  · unfold Srt
    rw [List.pairwise_append]
    refine ⟨h.2.1, List.pairwise_singleton _ _, fun a ha b hb => ?_⟩
    obtain rfl := List.mem_singleton.1 hb
    exact h.2.2.1 a ha k (List.mem_cons_self ..) b (by rw [hx]; exact List.mem_cons_self ..)
  · intro a ha y hy b hb
    rcases List.mem_append.1 hy with hy | hy
    · rcases List.mem_append.1 ha with ha | ha
      · exact h.2.2.1 a ha y (List.mem_cons_of_mem _ hy) b hb
      · obtain rfl := List.mem_singleton.1 ha
        have h1 := (hdlt_no.1 (hl y hy)).1
        rw [top_cons hx] at h1
        obtain ⟨h2, h3⟩ := h.2.2.2 y (List.mem_cons_of_mem _ hy)
        obtain ⟨z, r, hz⟩ := List.exists_cons_of_ne_nil h2
        rw [top_cons hz] at h1
        rw [hz] at hb h3
        rcases List.mem_cons.1 hb with rfl | hb
        · exact h1
        · exact mlt_strict.le_trans h1 ((List.pairwise_cons.1 h3).1 b hb)
    · obtain rfl := List.mem_singleton.1 hy
      rw [hk] at hb
      rcases List.mem_append.1 ha with ha | ha
      · exact h.2.2.1 a ha k (List.mem_cons_self ..) b (by rw [hx]; exact List.mem_cons_of_mem _ hb)
      · obtain rfl := List.mem_singleton.1 ha
        exact (List.pairwise_cons.1 hs).1 b hb
  · rcases List.mem_append.1 hy with hy | hy
    · exact h.2.2.2 y (List.mem_cons_of_mem _ hy)
    · obtain rfl := List.mem_singleton.1 hy
      rw [hk]
      exact ⟨ht, (List.pairwise_cons.1 hs).2⟩
theorem MInv.done {all out : List Mail} (h : MInv all [] out) : srtOf mlt all = out :=
  srtOf_eq mlt_strict (by simpa using h.1) h.2.1
theorem MInv.start : MInv [] [] [] := ⟨by simp, List.Pairwise.nil, fun x hx => (by cases hx), fun h hh => by cases hh⟩
end Go.Proofs.Ytifpngjipkmdcaa
