/- What the document's Followed makes: plain. -/
import Derived.Test.YteefemiieidpaaaRndP
import Derived.Test.YteefemiieidpaaaRndI
import Derived.Test.YteefemiieidpaaaNumI
namespace Go.Proofs.Yteefemiieidpaaa
open Go.RowKit Go.ChangeShapes Go.WideShapes Go.ChangeAt
set_option linter.unusedVariables false
set_option linter.unusedSimpArgs false
theorem fm_add {α β : Type} (f g : α → List β) : ∀ l : List α, (l.flatMap fun x => f x ++ g x).Perm (l.flatMap f ++ l.flatMap g)
  | [] => List.Perm.refl _
  | a :: l => by
    simp only [List.flatMap_cons]
    have h := fm_add f g l
    have h1 : (f a ++ g a ++ l.flatMap fun x => f x ++ g x).Perm (f a ++ g a ++ (l.flatMap f ++ l.flatMap g)) := h.append_left _
    refine h1.trans ?_
    have e1 : f a ++ g a ++ (l.flatMap f ++ l.flatMap g) = f a ++ ((g a ++ l.flatMap f) ++ l.flatMap g) := by simp
    have e2 : f a ++ l.flatMap f ++ (g a ++ l.flatMap g) = f a ++ ((l.flatMap f ++ g a) ++ l.flatMap g) := by simp
    rw [e1, e2]
    exact (List.perm_append_comm.append_right _).append_left _
theorem fm_nil {α β : Type} : ∀ l : List α, (l.flatMap fun _ => ([] : List β)) = []
  | [] => rfl
  | _ :: l => by rw [List.flatMap_cons, fm_nil l]; rfl
theorem fm_swap {α β γ : Type} (f : α → β → List γ) : ∀ (la : List α) (bs : List β), (la.flatMap fun a => bs.flatMap (f a)).Perm (bs.flatMap fun b => la.flatMap fun a => f a b)
  | [], bs => by rw [List.flatMap_nil]; simp only [List.flatMap_nil]; rw [fm_nil]
  | a :: la, bs => by
    simp only [List.flatMap_cons]
    exact ((fm_swap f la bs).append_left _).trans (fm_add (f a) (fun b => la.flatMap fun a => f a b) bs).symm
theorem fm_one {β : Type} (F : Nat → List β) (a : Nat) : ∀ n : Nat, a < n → ((List.range n).flatMap fun v => if v = a then F v else []) = F a
  | 0, h => absurd h (by omega)
  | n + 1, h => by
    rw [List.range_succ, List.flatMap_append, List.flatMap_singleton]
    by_cases e : n = a
    · subst e
      rw [if_pos rfl]
      have : ((List.range n).flatMap fun v => if v = n then F v else []) = [] := by
        rw [List.flatMap_eq_nil_iff]
        intro v hv
        have := List.mem_range.1 hv
        rw [if_neg (by omega)]
      rw [this]; rfl
    · rw [if_neg e, List.append_nil]; exact fm_one F a n (by omega)
theorem fm_perm {α β : Type} {f g : α → List β} : ∀ l : List α, (∀ x ∈ l, (f x).Perm (g x)) → (l.flatMap f).Perm (l.flatMap g)
  | [], _ => List.Perm.refl _
  | a :: l, h => by
    simp only [List.flatMap_cons]
    exact (h a (List.mem_cons_self ..)).append (fm_perm l fun x hx => h x (List.mem_cons_of_mem _ hx))
theorem filterMapFlat {α β γ : Type} (p : β → Bool) (m : β → γ) (f : α → List β) : ∀ l : List α, ((l.flatMap f).filter p).map m = l.flatMap fun a => ((f a).filter p).map m
  | [] => rfl
  | a :: l => by simp only [List.flatMap_cons, List.filter_append, List.map_append]; rw [filterMapFlat p m f l]
theorem sorted_eq {l l' : List Int} (h : l.Perm l') (h1 : l.Pairwise (· ≤ ·)) (h2 : l'.Pairwise (· ≤ ·)) : l = l' :=
  List.Perm.eq_of_pairwise (fun a b _ _ h3 h4 => by omega) h1 h2 h
/-- What the document puts into a vertex's mail at an edge. -/
noncomputable def edgeBag (j : Job) (s : State) (u : Nat) (e : Edge) : List Int :=
  (if (waysV j.kind s.phase).1 = true ∧ e.dst = u ∧ (wakeAt j s e.src.toNat).2 = true then [(sayV j.kind (wakeAt j s e.src.toNat).1 s.phase e.wt).1] else []) ++
  (if (waysV j.kind s.phase).2.1 = true ∧ e.src = u ∧ (wakeAt j s e.dst.toNat).2 = true then [(sayV j.kind (wakeAt j s e.dst.toNat).1 s.phase e.wt).1] else [])
noncomputable def docRow (j : Job) (s : State) (u : Nat) (es : List Edge) : List Int := es.foldl (fun l e => (edgeBag j s u e).foldl (fun l n => insN n l) l) []
theorem insAll_perm : ∀ (b l : List Int), (b.foldl (fun l n => insN n l) l).Perm (l ++ b)
  | [], l => by simp
  | n :: b, l => by
    refine (insAll_perm b (insN n l)).trans ?_
    refine ((insN_perm n l).append_right b).trans ?_
    exact List.perm_middle.symm
theorem insAll_sorted : ∀ (b l : List Int), l.Pairwise (· ≤ ·) → (b.foldl (fun l n => insN n l) l).Pairwise (· ≤ ·)
  | [], _, h => h
  | n :: b, l, h => insAll_sorted b _ (insN_sorted n l h)
theorem docFold_perm (j : Job) (s : State) (u : Nat) : ∀ (es : List Edge) (l : List Int), (es.foldl (fun l e => (edgeBag j s u e).foldl (fun l n => insN n l) l) l).Perm (l ++ es.flatMap (edgeBag j s u))
  | [], l => by simp
  | e :: es, l => by
    refine (docFold_perm j s u es _).trans ?_
    rw [List.flatMap_cons, ← List.append_assoc]
    exact (insAll_perm _ _).append_right _
theorem docFold_sorted (j : Job) (s : State) (u : Nat) : ∀ (es : List Edge) (l : List Int), l.Pairwise (· ≤ ·) → (es.foldl (fun l e => (edgeBag j s u e).foldl (fun l n => insN n l) l) l).Pairwise (· ≤ ·)
  | [], _, h => h
  | e :: es, l, h => docFold_sorted j s u es _ (insAll_sorted _ _ h)
theorem docRow_step {j : Job} {s : State} {u k : Nat} {es : List Edge} {e : Edge} (h : es[k]? = some e) : docRow j s u (es.take (k + 1)) = (edgeBag j s u e).foldl (fun l n => insN n l) (docRow j s u (es.take k)) := by
  unfold docRow
  rw [take_nextV h, List.foldl_append]; rfl
theorem docRow_len (j : Job) (s : State) (u : Nat) (es : List Edge) : (docRow j s u es).length ≤ 2 * es.length := by
  have h := (docFold_perm j s u es []).length_eq
  unfold docRow
  rw [h, List.nil_append]
  induction es with
  | nil => simp
  | cons e es ih =>
    have h2 : (edgeBag j s u e).length ≤ 2 := by
      unfold edgeBag
      rw [List.length_append]
      have h3 : ∀ (c : Prop) [Decidable c] (x : Int), (if c then [x] else []).length ≤ 1 := fun c _ x => by split <;> simp
      have := h3 ((waysV j.kind s.phase).1 = true ∧ e.dst = u ∧ (wakeAt j s e.src.toNat).2 = true) (sayV j.kind (wakeAt j s e.src.toNat).1 s.phase e.wt).1
      have := h3 ((waysV j.kind s.phase).2.1 = true ∧ e.src = u ∧ (wakeAt j s e.dst.toNat).2 = true) (sayV j.kind (wakeAt j s e.dst.toNat).1 s.phase e.wt).1
      omega
    have h4 := ih (docFold_perm j s u es []).length_eq
    rw [List.flatMap_cons, List.length_append, List.length_cons]
    omega
theorem pushAll_code (l : List (Int × Int × Int)) : (∀ a ∈ l, a.2.2 = 0 ∨ a.2.2 = 6) → ∀ s : Int × List (List Int), (pushAll s l).1 = if ∃ a ∈ l, a.2.2 ≠ 0 then 6 else s.1 := by
  induction l with
  | nil => intro _ s; simp [pushAll]
  | cons a l ih =>
    intro h s
    show (pushAll (pushSay s a) l).1 = _
    rw [ih (fun b hb => h b (List.mem_cons_of_mem _ hb))]
    have ha := h a (List.mem_cons_self ..)
    by_cases h1 : ∃ b ∈ l, b.2.2 ≠ 0
    · rw [if_pos h1, if_pos]
      obtain ⟨b, hb, h2⟩ := h1
      exact ⟨b, List.mem_cons_of_mem _ hb, h2⟩
    · rw [if_neg h1]
      unfold pushSay
      by_cases h2 : a.2.2 ≠ 0
      · rw [if_pos h2, if_pos ⟨a, List.mem_cons_self .., h2⟩]
        rcases ha with ha | ha
        · exact absurd ha h2
        · exact ha
      · rw [if_neg h2, if_neg]
        rintro ⟨b, hb, h3⟩
        rcases List.mem_cons.1 hb with rfl | hb
        · exact h2 h3
        · exact h1 ⟨b, hb, h3⟩
theorem pushAll_rows (l : List (Int × Int × Int)) : (∀ a ∈ l, a.2.2 = 0) → ∀ (c : Int) (L : List (List Int)), (∀ a ∈ l, 0 ≤ a.1 ∧ a.1 < L.length) → ∀ (u : Nat) (x : List Int), L[u]? = some x → (pushAll (c, L) l).2[u]? = some (x ++ (l.filter fun a : Int × Int × Int => decide (a.1 = (u : Int))).map (·.2.1)) := by
  induction l with
  | nil => intro _ c L _ u x h; simpa [pushAll] using h
  | cons a l ih =>
    intro h c L hr u x hx
    have ha := h a (List.mem_cons_self ..)
    have hra := hr a (List.mem_cons_self ..)
    have e1 : pushSay (c, L) a = (c, L.set a.1.toNat (L.getD a.1.toNat [] ++ [a.2.1])) := by unfold pushSay; rw [if_neg (by simpa using ha)]
    show (pushAll (pushSay (c, L) a) l).2[u]? = _
    rw [e1]
    have hlen : (L.set a.1.toNat (L.getD a.1.toNat [] ++ [a.2.1])).length = L.length := List.length_set ..
    have hul := (List.getElem?_eq_some_iff.1 hx).1
    by_cases hu : a.1 = u
    · have hx2 : (L.set a.1.toNat (L.getD a.1.toNat [] ++ [a.2.1]))[u]? = some (x ++ [a.2.1]) := by
        have : a.1.toNat = u := by omega
        rw [this, List.getElem?_set_self hul, List.getD_eq_getElem?_getD, hx]; rfl
      rw [ih (fun b hb => h b (List.mem_cons_of_mem _ hb)) c _ (fun b hb => by rw [hlen]; exact hr b (List.mem_cons_of_mem _ hb)) u _ hx2]
      rw [List.filter_cons, if_pos (by simpa using hu)]
      simp
    · have hx2 : (L.set a.1.toNat (L.getD a.1.toNat [] ++ [a.2.1]))[u]? = some x := by rw [List.getElem?_set_ne (by omega)]; exact hx
      rw [ih (fun b hb => h b (List.mem_cons_of_mem _ hb)) c _ (fun b hb => by rw [hlen]; exact hr b (List.mem_cons_of_mem _ hb)) u _ hx2]
      rw [List.filter_cons, if_neg (by simpa using hu)]
theorem sayV_fine {j : Job} {s : State} (hj : jobV j = 0) (h : stOk j s) {v : Nat} {wt : Int} (hw : 0 ≤ wt ∧ wt ≤ 1099511627776) (hs : (wakeAt j s v).2 = true) :
    ((sayV j.kind (wakeAt j s v).1 s.phase wt).2 = 0 ∨ (sayV j.kind (wakeAt j s v).1 s.phase wt).2 = 6) ∧ (j.kind ≠ 1 → (sayV j.kind (wakeAt j s v).1 s.phase wt).2 = 0) := by
  obtain ⟨h1, h2⟩ := wakeAt_ok hj h v
  have h3 := h2 hs
  have hb : ¬ (vB j.kind (wakeAt j s v).1 = false ∨ (wakeAt j s v).1.a = -1 ∨ ¬ (0 ≤ wt ∧ wt ≤ 1099511627776)) := by
    rw [vB_okR h1]
    rintro (h4 | h4 | h4)
    · cases h4
    · omega
    · exact h4 hw
  unfold sayV
  rw [if_neg (by rw [kindB_okR hj h]; simp), if_neg hb]
  refine ⟨?_, fun hk => by rw [if_pos hk]⟩
  split
  · exact .inl rfl
  · split
    · exact .inr rfl
    · exact .inl rfl
theorem ways_in {j : Job} {s : State} (hj : jobV j = 0) (h : stOk j s) (hi : (waysV j.kind s.phase).2.1 = true) : j.kind ≠ 1 := by
  intro hk
  have hp := h.2.1
  unfold waysV at hi
  rw [if_pos (kindB_okR hj h)] at hi
  simp [hk] at hi
  rcases hp with hp | ⟨hp, h3⟩
  · omega
  · omega
theorem newVals_atF {j : Job} {s : State} {n k : Nat} (h : k < n) : (newVals j s n)[k]? = some (wakeAt j s k).1 := by
  unfold newVals
  rw [List.getElem?_map, List.getElem?_range h]; rfl
/-- Where each word's error comes from. -/
theorem says_err {j : Job} {s : State} (hj : jobV j = 0) (h : stOk j s) (hE : ∀ e ∈ j.graph.edges, edgeOk j.graph.n e) {n : Nat} {a : Int × Int × Int} (ha : a ∈ fullSays j s n) :
    (a.2.2 = 0 ∨ a.2.2 = 6) ∧ 0 ≤ a.1 ∧ a.1 < j.graph.n ∧ (a.2.2 ≠ 0 → ∃ e ∈ j.graph.edges, (waysV j.kind s.phase).1 = true ∧ (wakeAt j s e.src.toNat).2 = true ∧ (sayV j.kind (wakeAt j s e.src.toNat).1 s.phase e.wt).2 ≠ 0) := by
  unfold fullSays at ha
  obtain ⟨v, hv, ha⟩ := List.mem_flatMap.1 ha
  unfold sayOf at ha
  by_cases hs : (wakeAt j s v).2 = true
  · rw [if_pos hs] at ha
    obtain ⟨e, he, ha⟩ := List.mem_flatMap.1 ha
    have hok := hE e he
    have hf := sayV_fine hj h hok.2.2 hs
    unfold edgeSays at ha
    rcases List.mem_append.1 ha with ha | ha
    · by_cases hc : (waysV j.kind s.phase).1 = true ∧ e.src = (v : Int)
      · rw [if_pos hc] at ha
        obtain rfl := List.mem_singleton.1 ha
        refine ⟨hf.1, hok.2.1.1, hok.2.1.2, fun hne => ⟨e, he, hc.1, ?_, ?_⟩⟩
        · rw [hc.2, Int.toNat_natCast]; exact hs
        · rw [hc.2, Int.toNat_natCast]; exact hne
      · rw [if_neg hc] at ha; cases ha
    · by_cases hc : (waysV j.kind s.phase).2.1 = true ∧ e.dst = (v : Int)
      · rw [if_pos hc] at ha
        obtain rfl := List.mem_singleton.1 ha
        have h0 := hf.2 (ways_in hj h hc.1)
        exact ⟨hf.1, hok.1.1, hok.1.2, fun hne => absurd h0 hne⟩
      · rw [if_neg hc] at ha; cases ha
  · rw [if_neg hs] at ha; cases ha
/-- An error on the way out is the round's. -/
theorem madeP_err {j : Job} {s : State} (hj : jobV j = 0) (h : stOk j s) (hE : ∀ e ∈ j.graph.edges, edgeOk j.graph.n e) {e : Edge} (he : e ∈ j.graph.edges) (ho : (waysV j.kind s.phase).1 = true) (hs : (wakeAt j s e.src.toNat).2 = true) (hne : (sayV j.kind (wakeAt j s e.src.toNat).1 s.phase e.wt).2 ≠ 0) :
    madeP j s s.vals.length = (zeroS, (sayV j.kind (wakeAt j s e.src.toNat).1 s.phase e.wt).2) := by
  have hok := hE e he
  have hn : (s.vals.length : Int) = j.graph.n := h.2.2.1
  have h6 : (sayV j.kind (wakeAt j s e.src.toNat).1 s.phase e.wt).2 = 6 := by
    rcases (sayV_fine hj h hok.2.2 hs).1 with h0 | h0
    · exact absurd h0 hne
    · exact h0
  have hc : (pushAll (0, List.replicate s.vals.length []) (fullSays j s s.vals.length)).1 = 6 := by
    rw [pushAll_code _ (fun a ha => (says_err hj h hE ha).1), if_pos]
    refine ⟨(e.dst, sayV j.kind (wakeAt j s e.src.toNat).1 s.phase e.wt), ?_, hne⟩
    unfold fullSays
    refine List.mem_flatMap.2 ⟨e.src.toNat, List.mem_range.2 (by have := hok.1; omega), ?_⟩
    unfold sayOf
    rw [if_pos hs]
    refine List.mem_flatMap.2 ⟨e, he, ?_⟩
    unfold edgeSays
    refine List.mem_append.2 (.inl ?_)
    rw [if_pos ⟨ho, by have := hok.1.1; omega⟩]
    exact List.mem_singleton.2 rfl
  unfold madeP
  rw [hc, if_pos (by decide), h6]
noncomputable def docRows (j : Job) (s : State) : List (List Int) := (List.range s.vals.length).map fun u => docRow j s u j.graph.edges
theorem bag_perm {j : Job} {s : State} {n : Nat} (hE : ∀ e ∈ j.graph.edges, edgeOk (n : Int) e) (u : Nat) :
    (((fullSays j s n).filter fun a : Int × Int × Int => decide (a.1 = (u : Int))).map (·.2.1)).Perm (j.graph.edges.flatMap (edgeBag j s u)) := by
  unfold fullSays
  rw [filterMapFlat]
  have e1 : (fun v => ((sayOf j s v).filter fun a : Int × Int × Int => decide (a.1 = (u : Int))).map (·.2.1)) = fun v => j.graph.edges.flatMap fun e => if (wakeAt j s v).2 = true then ((edgeSays (waysV j.kind s.phase).1 (waysV j.kind s.phase).2.1 j.kind s.phase v (wakeAt j s v).1 e).filter fun a : Int × Int × Int => decide (a.1 = (u : Int))).map (·.2.1) else [] := by
    funext v
    unfold sayOf
    by_cases hs : (wakeAt j s v).2 = true
    · rw [if_pos hs, filterMapFlat]; simp only [hs, if_true]
    · rw [if_neg hs]; simp only [hs]; rw [show (j.graph.edges.flatMap fun e => if (false : Bool) = true then ((edgeSays (waysV j.kind s.phase).1 (waysV j.kind s.phase).2.1 j.kind s.phase v (wakeAt j s v).1 e).filter fun a : Int × Int × Int => decide (a.1 = (u : Int))).map (·.2.1) else []) = [] from by simp [fm_nil]]; rfl
  rw [e1]
  refine (fm_swap _ _ _).trans (fm_perm _ fun e he => ?_)
  have hok := hE e he
  have e2 : ∀ v : Nat, (if (wakeAt j s v).2 = true then ((edgeSays (waysV j.kind s.phase).1 (waysV j.kind s.phase).2.1 j.kind s.phase v (wakeAt j s v).1 e).filter fun a : Int × Int × Int => decide (a.1 = (u : Int))).map (·.2.1) else []) =
      (if v = e.src.toNat then (if (waysV j.kind s.phase).1 = true ∧ e.dst = u ∧ (wakeAt j s v).2 = true then [(sayV j.kind (wakeAt j s v).1 s.phase e.wt).1] else []) else []) ++
      (if v = e.dst.toNat then (if (waysV j.kind s.phase).2.1 = true ∧ e.src = u ∧ (wakeAt j s v).2 = true then [(sayV j.kind (wakeAt j s v).1 s.phase e.wt).1] else []) else []) := by
    intro v
    by_cases hs : (wakeAt j s v).2 = true
    · rw [if_pos hs]
      unfold edgeSays
      rw [List.filter_append, List.map_append]
      congr 1
      · by_cases hv : v = e.src.toNat
        · have hv2 : e.src = (v : Int) := by have := hok.1.1; omega
          rw [if_pos hv]
          by_cases ho : (waysV j.kind s.phase).1 = true
          · rw [if_pos ⟨ho, hv2⟩]
            by_cases hd : e.dst = (u : Int)
            · rw [if_pos ⟨ho, hd, hs⟩]; simp [hd]
            · rw [if_neg (fun h => hd h.2.1)]; simp [hd]
          · rw [if_neg (fun h => ho h.1), if_neg (fun h => ho h.1)]; rfl
        · have hv2 : ¬ e.src = (v : Int) := by intro h; apply hv; omega
          rw [if_neg hv, if_neg (fun h => hv2 h.2)]; rfl
      · by_cases hv : v = e.dst.toNat
        · have hv2 : e.dst = (v : Int) := by have := hok.2.1.1; omega
          rw [if_pos hv]
          by_cases ho : (waysV j.kind s.phase).2.1 = true
          · rw [if_pos ⟨ho, hv2⟩]
            by_cases hd : e.src = (u : Int)
            · rw [if_pos ⟨ho, hd, hs⟩]; simp [hd]
            · rw [if_neg (fun h => hd h.2.1)]; simp [hd]
          · rw [if_neg (fun h => ho h.1), if_neg (fun h => ho h.1)]; rfl
        · have hv2 : ¬ e.dst = (v : Int) := by intro h; apply hv; omega
          rw [if_neg hv, if_neg (fun h => hv2 h.2)]; rfl
    · rw [if_neg hs]; simp [hs]
  simp only [e2]
  refine (fm_add _ _ _).trans ?_
  rw [fm_one (fun v => if (waysV j.kind s.phase).1 = true ∧ e.dst = u ∧ (wakeAt j s v).2 = true then [(sayV j.kind (wakeAt j s v).1 s.phase e.wt).1] else []) e.src.toNat n (by have := hok.1; omega), fm_one (fun v => if (waysV j.kind s.phase).2.1 = true ∧ e.src = u ∧ (wakeAt j s v).2 = true then [(sayV j.kind (wakeAt j s v).1 s.phase e.wt).1] else []) e.dst.toNat n (by have := hok.2.1; omega)]
  exact List.Perm.refl _
/-- Where nothing goes wrong, the round's mail is the document's. -/
theorem madeP_doc {j : Job} {s : State} (hj : jobV j = 0) (h : stOk j s) (hE : ∀ e ∈ j.graph.edges, edgeOk j.graph.n e) (hok : ∀ e ∈ j.graph.edges, (waysV j.kind s.phase).1 = true → (wakeAt j s e.src.toNat).2 = true → (sayV j.kind (wakeAt j s e.src.toNat).1 s.phase e.wt).2 = 0) :
    madeP j s s.vals.length = (⟨s.step + 1, (if anyM (docRows j s) = true then (s.phase, false, false) else quietV j.kind s.phase (newVals j s s.vals.length)).1, (if anyM (docRows j s) = true then (s.phase, false, false) else quietV j.kind s.phase (newVals j s s.vals.length)).2.1, (if anyM (docRows j s) = true then (s.phase, false, false) else quietV j.kind s.phase (newVals j s s.vals.length)).2.2, newVals j s s.vals.length, (docRows j s).map fun l => ⟨none, 0, l⟩⟩, 0) := by
  have hn : (s.vals.length : Int) = j.graph.n := h.2.2.1
  have h0 : ∀ a ∈ fullSays j s s.vals.length, a.2.2 = 0 := fun a ha => by
    obtain ⟨_, _, _, h4⟩ := says_err hj h hE ha
    by_cases h5 : a.2.2 = 0
    · exact h5
    · obtain ⟨e, he, h6, h7, h8⟩ := h4 h5
      exact absurd (hok e he h6 h7) h8
  have hc : (pushAll (0, List.replicate s.vals.length []) (fullSays j s s.vals.length)).1 = 0 := by
    rw [pushAll_code _ (fun a ha => .inl (h0 a ha)), if_neg]
    rintro ⟨a, ha, h5⟩
    exact h5 (h0 a ha)
  have hrows : (pushAll (0, List.replicate s.vals.length []) (fullSays j s s.vals.length)).2.map srtI = docRows j s := by
    apply List.ext_getElem?
    intro u
    by_cases hu : u < s.vals.length
    · have h1 := pushAll_rows _ h0 0 (List.replicate s.vals.length []) (fun a ha => by rw [List.length_replicate, hn]; exact (says_err hj h hE ha).2.imp_right And.left) u [] (by rw [List.getElem?_replicate, if_pos hu])
      rw [List.getElem?_map, h1]
      unfold docRows
      rw [List.getElem?_map, List.getElem?_range hu]
      show some _ = some _
      congr 1
      refine sorted_eq ?_ (srtI_sorted _) (docFold_sorted j s u _ [] List.Pairwise.nil)
      refine (srtI_perm _).trans ?_
      refine List.Perm.trans ?_ (docFold_perm j s u j.graph.edges []).symm
      exact bag_perm (by rw [hn]; exact hE) u
    · have l1 : ((pushAll (0, List.replicate s.vals.length []) (fullSays j s s.vals.length)).2.map srtI).length = s.vals.length := by rw [List.length_map, pushAll_len, List.length_replicate]
      have l2 : (docRows j s).length = s.vals.length := by unfold docRows; simp
      rw [List.getElem?_eq_none (by omega), List.getElem?_eq_none (by omega)]
  unfold madeP
  rw [hc, if_neg (by simp)]
  have hany : ((pushAll (0, List.replicate s.vals.length []) (fullSays j s s.vals.length)).2.all fun l => l.length == 0) = !anyM (docRows j s) := by
    rw [← hrows, ← anyM_all, List.all_map]
    congr 1
    funext x
    simp [srtI_len]
  dsimp only
  rw [hany]
  have hm : ((pushAll (0, List.replicate s.vals.length []) (fullSays j s s.vals.length)).2.map fun l => (⟨none, 0, srtI l⟩ : ML Int)) = (docRows j s).map fun l => ⟨none, 0, l⟩ := by
    rw [← hrows, List.map_map]; rfl
  rw [hm]
  cases anyM (docRows j s) <;> simp
end Go.Proofs.Yteefemiieidpaaa
