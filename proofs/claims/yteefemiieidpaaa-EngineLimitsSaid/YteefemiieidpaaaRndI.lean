/- A round's beginning in memory; zero states handed back. -/
import Derived.Test.YteefemiieidpaaaRndC
import Derived.Test.YteefemiieidpaaaRndP
namespace Go.Proofs.Yteefemiieidpaaa
open Go.ChangeShapes Go.WideShapes Go.ChangeAt Go.RowKit
set_option linter.unusedVariables false
set_option linter.unusedSimpArgs false
theorem cellR {V : World} {b o b' o' : Nat} {u v : Value} (h : V.cell? ⟨b, o, none⟩ = some u) (hne : b ≠ b' ∨ o ≠ o') : (V.setCell ⟨b', o', none⟩ v).cell? ⟨b, o, none⟩ = some u :=
  (World.cell?_setCell_other (w := V) (a := ⟨b', o', none⟩) (b := ⟨b, o, none⟩) (v := v) (by intro e; injection e with e1 e2; rcases hne with h | h <;> omega)).trans h
theorem retSt_zero0 {w w' : World} {err : Int} (b : Below w.heap.size w w') : RetSt w zeroS err (.returned (.tuple #[.agg #[.int .i64 0, .int .i64 0, .bool false, .bool false, .slice none 0 0, .slice none 0 0], .int .i64 err])) w' :=
  ⟨none, 0, none, 0, [], rfl, rfl, Rd.nil_, ⟨Rd.nil_, fun x hx => by cases hx⟩, b⟩
/-- What a call hands back as a state and an errno, its rows in blocks of the call's own. -/
def RetSn (w : World) (s : State) (err : Int) (e : Ending) (w' : World) : Prop :=
  ∃ A c B k m, e = .returned (.tuple #[.agg (stCells { s with mail := m } A c B k), .int .i64 err]) ∧ lists m = lists s.mail ∧ (Part.mk A 2 s.vals.length (s.vals.flatMap Val.cells)).ok w' w.heap.size none ∧ NewGridR w' w.heap.size B m ∧ Below w.heap.size w w'
theorem RetSn.st {w w' : World} {s : State} {err : Int} {e : Ending} (h : RetSn w s err e w') : RetSt w s err e w' := by
  obtain ⟨A, c, B, k, m, h1, h2, h3, h4, h5⟩ := h
  exact ⟨A, c, B, k, m, h1, h2, h3.to, h4.grid, h5⟩
theorem part_nil {w : World} {B sz : Nat} {A : Option Addr} {g : Option Nat} : (Part.mk A sz 0 []).ok w B g := ⟨by simp, fun h => absurd h (by simp)⟩
theorem retSn_zero0 {w w' : World} {err : Int} (b : Below w.heap.size w w') : RetSn w zeroS err (.returned (.tuple #[.agg #[.int .i64 0, .int .i64 0, .bool false, .bool false, .slice none 0 0, .slice none 0 0], .int .i64 err])) w' :=
  ⟨none, 0, none, 0, [], rfl, rfl, part_nil, ⟨part_nil, fun x hx => by cases hx⟩, b⟩
theorem NewGridR.less {w : World} {B B' : Nat} {A : Option Addr} {m : List (ML Int)} (h : NewGridR w B A m) (hb : B' ≤ B) : NewGridR w B' A m := ⟨h.1.less hb, fun x hx => (h.2 x hx).less hb⟩
theorem NewGridR.below {w w' : World} {B : Nat} {A : Option Addr} {m : List (ML Int)} (h : NewGridR w B A m) (hb : Below w.heap.size w w') : NewGridR w' B A m := ⟨h.1.below hb, fun x hx => (h.2 x hx).below hb⟩
theorem own_part {w : World} {base sz n c : Nat} {e : TypeId} {A : Option Addr} {xs : List Value} (h : w.ownsRow base e sz (.slice A n c) n xs) : (Part.mk A sz n xs).ok w base none :=
  ⟨h.1, fun hn => by
    obtain ⟨b, off, e1, hb, hc⟩ := (rd_own h).2 hn
    exact ⟨b, off, e1, hb, (fun e => by cases e), (h.lt b (by rw [e1]; rfl)).1, hc⟩⟩
theorem heaped_new {w : World} {base c : Nat} {e : TypeId} {A : Option Addr} {m : List (ML Int)} (h : Heaped ML.cells (ML.parts i64c 1) w base e 1 A c m) : NewGridR w base A m :=
  ⟨own_part h.1, fun x hx => by
    have h2 := h.2 x hx _ (List.mem_singleton.2 rfl)
    exact ⟨h2.1, fun hn => by
      obtain ⟨b, off, e1, hb, _, hB, hc⟩ := h2.2 hn
      exact ⟨b, off, e1, hb, (fun e => by cases e), hB, hc⟩⟩⟩
theorem RO.retN {N R : Nat} {w wr wf : World} {T : Tags} {j : Job} {EA : Option Addr} {ec : Nat} {st ph : Int} {fr dn : Bool} {VA : Option Addr} {vc : Nat} {vs : List Val} {MA : Option Addr} {mc : Nat} {m : List (ML Int)} {code : Int} (h : RO N R w wr T j EA ec st ph fr dn VA vc vs MA mc m code) (hk : Keep (fun t => t = 0) T wr wf) :
    (Part.mk VA 2 vs.length (vs.flatMap Val.cells)).ok wf N none ∧ NewGridR wf N MA m := by
  refine ⟨(h.vals.row.keep (T' := T) hk (by decide) Agree.refl).part h.t0 (by decide), (h.mail.row.keep (T' := T) hk (by decide) Agree.refl).part h.t0 (by decide), fun x hx => ?_⟩
  obtain ⟨u, hu⟩ := List.mem_iff_getElem?.1 hx
  exact ((h.rows u x hu).row.keep (T' := T) hk (by omega) Agree.refl).part h.t0 (by omega)
theorem RO.init {N R G B B2 : Nat} {w wx : World} {j : Job} {EA : Option Addr} {ec : Nat} {st ph : Int} {VA : Option Addr} {vc : Nat} {vs : List Val} {n : Nat}
    (hR : wx.heap[R]? = some (.cells #[.int .i64 j.graph.n, .slice EA j.graph.edges.length ec, .int .i64 j.kind, .int .i64 j.source, .int .i64 st, .int .i64 ph, .bool false, .bool false, .slice VA vs.length vc, .slice (some ⟨G, 0, none⟩) n n, .int .i64 0] 52 (0, 0)))
    (hv : wx.ownsRow B 50 2 (.slice VA vs.length vc) vs.length (vs.flatMap Val.cells)) (hm : wx.ownsRow B2 53 1 (.slice (some ⟨G, 0, none⟩) n n) n (List.replicate n (Value.slice none 0 0)))
    (hRG : R ≠ G) (hV : ∀ k, (Value.slice VA vs.length vc).ownBlock = some k → k ≠ R ∧ k ≠ G ∧ N + 3 ≤ k) (hN : N + 3 ≤ R) (hG : N + 3 ≤ G) (he : Rd wx N EA 3 j.graph.edges.length (j.graph.edges.flatMap Edge.cells)) (hb : Below N w wx) :
    ∃ T : Tags, RO N R w wx T j EA ec st ph false false VA vc vs (some ⟨G, 0, none⟩) n (List.replicate n ⟨none, 0, []⟩) 0 ∧ ∀ b, b < N + 3 → T b = 0 := by
  refine ⟨fun b => if b = R then 1 else if b = G then 3 else if b < N + 3 then 0 else 2, ⟨⟨?_, ?_⟩, ⟨own_more hv (Nat.zero_le _), fun k hk => ?_⟩, ⟨?_, fun k hk => ?_⟩, fun u x hx => ?_, he, fun b hb2 => ?_, hb, by omega⟩, fun b hb2 => ?_⟩
  · rw [List.length_replicate]; exact hR
  · simp
  · obtain ⟨h1, h2, h3⟩ := hV k hk
    simp [h1, h2, show ¬ k < N + 3 by omega]
  · rw [← flat_rep_ml, List.length_replicate]; exact own_more hm (Nat.zero_le _)
  · have : k = G := by
      injection hk with hk; exact hk.symm
    subst this
    simp [Ne.symm hRG]
  · have hx2 := List.mem_of_getElem? hx
    obtain rfl := (List.mem_replicate.1 hx2).2
    exact TOwn.nil_
  · show (if b = R then 1 else if b = G then 3 else if b < N + 3 then 0 else 2) = 0
    rw [if_neg (by omega), if_neg (by omega), if_pos (by omega)]
  · show (if b = R then 1 else if b = G then 3 else if b < N + 3 then 0 else 2) = 0
    rw [if_neg (by omega), if_neg (by omega), if_pos (by omega)]
/-- A vertex's value is put down. -/
theorem RO.setVal {N R : Nat} {w wr : World} {T : Tags} {j : Job} {EA : Option Addr} {ec : Nat} {st ph : Int} {fr dn : Bool} {g vc : Nat} {vs : List Val} {MA : Option Addr} {mc : Nat} {m : List (ML Int)} {code : Int} (h : RO N R w wr T j EA ec st ph fr dn (some ⟨g, 0, none⟩) vc vs MA mc m code) {v : Nat} (hv : v < vs.length) (x : Val) :
    RO N R w ((wr.setCell ⟨g, v * 2, none⟩ (.int .i64 x.a)).setCell ⟨g, v * 2 + 1, none⟩ (.int .i64 x.label)) T j EA ec st ph fr dn (some ⟨g, 0, none⟩) vc (vs.set v x) MA mc m code ∧ Keep (fun t => t = 2) T wr ((wr.setCell ⟨g, v * 2, none⟩ (.int .i64 x.a)).setCell ⟨g, v * 2 + 1, none⟩ (.int .i64 x.label)) := by
  have htg : T g = 2 := h.vals.2 g rfl
  have hgl : g < wr.heap.size := h.vals.lt g rfl
  have ks : Keep (fun t => t = 2) T wr ((wr.setCell ⟨g, v * 2, none⟩ (.int .i64 x.a)).setCell ⟨g, v * 2 + 1, none⟩ (.int .i64 x.label)) := ((Keep.refl (w := wr)).setCell (p := ⟨g, v * 2, none⟩) (fun _ => htg) _).setCell (p := ⟨g, v * 2 + 1, none⟩) (fun _ => htg) _
  have hb : Below N wr _ := ks.old h.t0 (by omega) (Nat.le_of_lt h.size)
  have h2 := (h.vals.set (v * 2) (.int .i64 x.a)).set (v * 2 + 1) (.int .i64 x.label)
  have e1 : ((vs.flatMap Val.cells).set (v * 2) (.int .i64 x.a)).set (v * 2 + 1) (.int .i64 x.label) = (vs.set v x).flatMap Val.cells := by
    obtain ⟨y, hy⟩ : ∃ y, vs[v]? = some y := ⟨_, List.getElem?_eq_getElem hv⟩
    have f1 := flat_set (cells := Val.cells) (sz := 2) (fun _ => rfl) (v := .int .i64 x.a) (y := (⟨x.a, y.label⟩ : Val)) (j := 0) (by decide) vs v y hy rfl
    have hy2 : (vs.set v ⟨x.a, y.label⟩)[v]? = some ⟨x.a, y.label⟩ := List.getElem?_set_self hv
    have f2 := flat_set (cells := Val.cells) (sz := 2) (fun _ => rfl) (v := .int .i64 x.label) (y := x) (j := 1) (by decide) (vs.set v ⟨x.a, y.label⟩) v ⟨x.a, y.label⟩ hy2 rfl
    rw [List.set_set] at f2
    rw [Nat.add_zero] at f1
    rw [f2, f1]
  rw [e1] at h2
  have e2 : (vs.set v x).length = vs.length := List.length_set ..
  exact ⟨⟨by rw [e2]; exact h.obj.keep ks (by omega) Agree.refl, by rw [e2]; exact h2, h.mail.keep ks (by omega) Agree.refl, fun u y hy => (h.rows u y hy).keep ks (by omega) Agree.refl, h.edges.below hb, h.t0, h.bl.trans hb, h.nl⟩, ks⟩
/-- A vertex's mail has been sorted in place. -/
theorem RO.sorted {N R : Nat} {w wr w' : World} {T : Tags} {j : Job} {EA : Option Addr} {ec : Nat} {st ph : Int} {fr dn : Bool} {VA : Option Addr} {vc : Nat} {vs : List Val} {MA : Option Addr} {mc : Nat} {m : List (ML Int)} {code : Int} (h : RO N R w wr T j EA ec st ph fr dn VA vc vs MA mc m code) {u : Nat} {x : ML Int} {l : List Int} (hx : m[u]? = some x) (hl : l.length = x.l.length) (ho : w'.ownsRow 0 3 1 (.slice x.A x.l.length x.c) x.l.length (l.flatMap i64c)) (hg : wr.grownBy w' (Value.slice x.A x.l.length x.c).ownBlock) :
    RO N R w w' T j EA ec st ph fr dn VA vc vs MA mc (m.set u ⟨x.A, x.c, l⟩) code ∧ Keep (fun t => t = 10 + u) T wr w' := by
  have hr := h.rows u x hx
  have hk : Keep (fun t => t = 10 + u) T wr w' := Keep.grown hg hr.2
  have hul := (List.getElem?_eq_some_iff.1 hx).1
  have hb : Below N wr w' := hk.old h.t0 (by omega) (Nat.le_of_lt h.size)
  have e0 : (m.set u (⟨x.A, x.c, l⟩ : ML Int)).length = m.length := List.length_set ..
  have e1 : (m.set u (⟨x.A, x.c, l⟩ : ML Int)).flatMap ML.cells = m.flatMap ML.cells := by
    have f := flat_set (cells := ML.cells) (sz := 1) (fun _ => rfl) (v := .slice x.A x.l.length x.c) (y := (⟨x.A, x.c, l⟩ : ML Int)) (j := 0) (by decide) m u x hx (by simp [ML.cells, hl])
    rw [f]
    have h9 := (flatMap_get (l := m) (cells := ML.cells) (sz := 1) (fun _ _ => rfl)).2 u x 0 _ hx rfl
    obtain ⟨h10, h11⟩ := List.getElem?_eq_some_iff.1 h9
    rw [← h11]
    exact List.set_getElem_self _
  refine ⟨⟨by rw [e0]; exact h.obj.keep hk (by omega) Agree.refl, h.vals.keep hk (by omega) Agree.refl, by rw [e0, e1]; exact h.mail.keep hk (by omega) Agree.refl, fun u2 y hy => ?_, h.edges.below hb, h.t0, h.bl.trans hb, h.nl⟩, hk⟩
  by_cases e : u = u2
  · subst e
    rw [List.getElem?_set_self hul] at hy
    injection hy with hy
    subst hy
    exact ⟨by show w'.ownsRow 0 _ 1 (.slice x.A l.length x.c) l.length (l.flatMap i64c); rw [hl]; exact ho, by show ∀ k, (Value.slice x.A l.length x.c).ownBlock = some k → T k = 10 + u; rw [hl]; exact hr.2⟩
  · rw [List.getElem?_set_ne e] at hy
    exact (h.rows u2 y hy).keep hk (by omega) Agree.refl
theorem RO.ret {N R : Nat} {w wr wf : World} {T : Tags} {j : Job} {EA : Option Addr} {ec : Nat} {st ph : Int} {fr dn : Bool} {VA : Option Addr} {vc : Nat} {vs : List Val} {MA : Option Addr} {mc : Nat} {m : List (ML Int)} {code : Int} (h : RO N R w wr T j EA ec st ph fr dn VA vc vs MA mc m code) (hk : Keep (fun t => t = 0) T wr wf) :
    Rd wf wf.heap.size VA 2 vs.length (vs.flatMap Val.cells) ∧ Grid i64c 1 wf wf.heap.size MA m := by
  refine ⟨(h.vals.row.keep (T' := T) hk (by decide) Agree.refl).rd, (h.mail.row.keep (T' := T) hk (by decide) Agree.refl).rd, fun x hx p hp => ?_⟩
  obtain rfl := List.mem_singleton.1 hp
  obtain ⟨u, hu⟩ := List.mem_iff_getElem?.1 hx
  exact ((h.rows u x hu).row.keep (T' := T) hk (by omega) Agree.refl).rd
def anyM (l : List (List Int)) : Bool := l.any fun x => decide (0 < x.length)
theorem anyM_take {l : List (List Int)} {k : Nat} {x : List Int} (h : l[k]? = some x) : anyM (l.take (k + 1)) = (anyM (l.take k) || decide (0 < x.length)) := by
  unfold anyM; rw [take_nextV h, List.any_append]; simp
theorem anyM_all (l : List (List Int)) : l.all (fun x => x.length == 0) = !anyM l := by
  unfold anyM
  rw [List.not_any_eq_all_not]
  congr 1
  funext x
  cases x <;> simp
theorem srt_step {L : List (List Int)} {m : List (ML Int)} {k : Nat} {x : ML Int} (h : lists m = (L.take k).map srtI ++ L.drop k) (hx : m[k]? = some x) : L[k]? = some x.l ∧ lists (m.set k ⟨x.A, x.c, srtI x.l⟩) = (L.take (k + 1)).map srtI ++ L.drop (k + 1) := by
  have h1 : (lists m)[k]? = some x.l := by unfold lists; rw [List.getElem?_map, hx]; rfl
  have hkm := (List.getElem?_eq_some_iff.1 hx).1
  have hl := congrArg List.length h
  simp only [lists, List.length_map, List.length_append, List.length_take, List.length_drop] at hl
  have hk : k < L.length := by omega
  have e0 : ((L.take k).map srtI).length = k := by rw [List.length_map, List.length_take]; omega
  have h2 : L[k]? = some x.l := by
    rw [h, List.getElem?_append_right (by omega), e0, Nat.sub_self, List.getElem?_drop, Nat.add_zero] at h1
    exact h1
  refine ⟨h2, ?_⟩
  unfold lists at h ⊢
  rw [List.map_set, h, List.set_append_right _ _ (by omega), e0, Nat.sub_self, take_nextV h2, List.map_append, List.append_assoc]
  congr 1
  obtain ⟨h3, h4⟩ := List.getElem?_eq_some_iff.1 h2
  rw [List.drop_eq_getElem_cons h3, h4]
  rfl
theorem nextP_job {j : Job} {s : State} (h : jobV j ≠ 0) : nextP j s = (zeroS, jobV j) := by unfold nextP; rw [if_pos h]
theorem nextP_state {j : Job} {s : State} (h : jobV j = 0) (h2 : stB j s = false) : nextP j s = (zeroS, 9) := by unfold nextP; rw [if_neg (by simpa using h), if_pos h2]
theorem nextP_done {j : Job} {s : State} (h : jobV j = 0) (h2 : stB j s = true) (h3 : s.done = true) : nextP j s = (s, 0) := by unfold nextP; rw [if_neg (by simpa using h), if_neg (by rw [h2]; simp), if_pos h3]
theorem nextP_full {j : Job} {s : State} (h : jobV j = 0) (h2 : stB j s = true) (h3 : s.done = false) (h4 : s.step = 100000) : nextP j s = (zeroS, 10) := by unfold nextP; rw [if_neg (by simpa using h), if_neg (by rw [h2]; simp), if_neg (by rw [h3]; simp), if_pos h4]
theorem nextP_made {j : Job} {s : State} (h : jobV j = 0) (h2 : stB j s = true) (h3 : s.done = false) (h4 : s.step ≠ 100000) : nextP j s = madeP j s s.vals.length := by unfold nextP; rw [if_neg (by simpa using h), if_neg (by rw [h2]; simp), if_neg (by rw [h3]; simp), if_neg h4]
theorem jobV_graph {j : Job} (h : jobV j = 0) : graphFits j.graph ∧ ∀ e ∈ j.graph.edges, edgeOk j.graph.n e := by
  unfold jobV at h
  by_cases hg : graphV j.graph = 0
  · exact graphV_ok.1 hg
  · rw [if_pos hg] at h; exact absurd h hg
theorem set_same {α : Type} {l : List α} {k : Nat} {x : α} (h : l[k]? = some x) : l.set k x = l := by
  obtain ⟨h1, h2⟩ := List.getElem?_eq_some_iff.1 h
  rw [← h2]; exact List.set_getElem_self _
theorem newVals_len (j : Job) (s : State) (n : Nat) : (newVals j s n).length = n := by unfold newVals; simp
theorem newVals_at {j : Job} {s : State} {n k : Nat} (h : k < n) : (newVals j s n)[k]? = some (wakeAt j s k).1 := by
  unfold newVals
  rw [List.getElem?_map, List.getElem?_range h]; rfl
theorem vs_step {j : Job} {s : State} {k : Nat} (h : k < s.vals.length) : ((newVals j s s.vals.length).take k ++ s.vals.drop k).set k (wakeAt j s k).1 = (newVals j s s.vals.length).take (k + 1) ++ s.vals.drop (k + 1) := by
  have h1 : ((newVals j s s.vals.length).take k).length = k := by rw [List.length_take, newVals_len]; omega
  rw [List.set_append_right _ _ (by omega), h1, Nat.sub_self, take_nextV (newVals_at h), List.append_assoc]
  congr 1
  rw [List.drop_eq_getElem_cons h]
  rfl
theorem vs_at {j : Job} {s : State} {k : Nat} {x : Val} (h : s.vals[k]? = some x) : ((newVals j s s.vals.length).take k ++ s.vals.drop k)[k]? = some x := by
  have hk := (List.getElem?_eq_some_iff.1 h).1
  have h1 : ((newVals j s s.vals.length).take k).length = k := by rw [List.length_take, newVals_len]; omega
  rw [List.getElem?_append_right (by omega), h1, Nat.sub_self, List.getElem?_drop, Nat.add_zero, h]
theorem says_step {j : Job} {s : State} {k : Nat} : (List.range (k + 1)).flatMap (sayOf j s) = (List.range k).flatMap (sayOf j s) ++ sayOf j s k := by
  rw [List.range_succ, List.flatMap_append, List.flatMap_singleton]
end Go.Proofs.Yteefemiieidpaaa
