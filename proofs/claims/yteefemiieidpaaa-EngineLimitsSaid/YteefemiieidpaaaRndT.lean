/- A round under way, in memory. -/
import Derived.Test.YteefemiieidpaaaTag
import Derived.Test.YteefemiieidpaaaAnsP
import Derived.Test.YteefemiieidpaaaSays
import Derived.Test.YteefemiieidpaaaWays
namespace Go.Proofs.Yteefemiieidpaaa
open Go.RowKit Go.ChangeShapes Go.WideShapes Go.ChangeAt
set_option linter.unusedVariables false
set_option linter.unusedSimpArgs false
theorem TOwn.set {w : World} {T : Tags} {t sz g n c : Nat} {e : TypeId} {xs : List Value} (h : TOwn w T t e sz (some ⟨g, 0, none⟩) c n xs) (i : Nat) (v : Value) : TOwn (w.setCell ⟨g, i, none⟩ v) T t e sz (some ⟨g, 0, none⟩) c n (xs.set i v) :=
  ⟨(h.1.stored i v).1, h.2⟩
theorem TOwn.head {w : World} {T : Tags} {t sz n c : Nat} {e : TypeId} {A : Option Addr} {xs : List Value} (h : TOwn w T t e sz A c n xs) (hn : 0 < n) : ∃ g, A = some ⟨g, 0, none⟩ ∧ g < w.heap.size ∧ T g = t ∧ (∀ i v, xs[i]? = some v → w.cell? ⟨g, i, none⟩ = some v) ∧ ∀ o, w.frozen? ⟨g, o, none⟩ = false := by
  have h' := h
  obtain ⟨h1, h2⟩ := h
  rcases h1.2 with ⟨_, h0⟩ | ⟨g, cap, cur, hv, hb, hg, r⟩
  · omega
  · injection hv with hA hx hc
    subst hA hc
    refine ⟨g, rfl, (Array.getElem?_eq_some_iff.1 hg).1, h2 g rfl, fun i v hi => (own_at h1 hi).1, fun o => ?_⟩
    unfold World.frozen?
    simp [hg]
/-- Rounds' state as it is made: R the round's block. -/
structure RO (N R : Nat) (w wr : World) (T : Tags) (j : Job) (EA : Option Addr) (ec : Nat) (st ph : Int) (fr dn : Bool) (VA : Option Addr) (vc : Nat) (vs : List Val) (MA : Option Addr) (mc : Nat) (m : List (ML Int)) (code : Int) : Prop where
  obj : TObj wr T 1 R #[.int .i64 j.graph.n, .slice EA j.graph.edges.length ec, .int .i64 j.kind, .int .i64 j.source, .int .i64 st, .int .i64 ph, .bool fr, .bool dn, .slice VA vs.length vc, .slice MA m.length mc, .int .i64 code] 52
  vals : TOwn wr T 2 50 2 VA vc vs.length (vs.flatMap Val.cells)
  mail : TOwn wr T 3 53 1 MA mc m.length (m.flatMap ML.cells)
  rows : ∀ u x, m[u]? = some x → TOwn wr T (10 + u) 3 1 x.A x.c x.l.length (x.l.flatMap i64c)
  edges : Rd wr N EA 3 j.graph.edges.length (j.graph.edges.flatMap Edge.cells)
  t0 : ∀ b, b < N → T b = 0
  bl : Below N w wr
  nl : N ≤ R
section
variable {N R : Nat} {w wr w' : World} {T T' : Tags} {j : Job} {EA : Option Addr} {ec : Nat} {st ph : Int} {fr dn : Bool} {VA : Option Addr} {vc : Nat} {vs : List Val} {MA : Option Addr} {mc : Nat} {m : List (ML Int)} {code : Int}
theorem RO.size (h : RO N R w wr T j EA ec st ph fr dn VA vc vs MA mc m code) : N < wr.heap.size := by have := h.obj.lt; have := h.nl; omega
theorem RO.keep {S : Nat → Prop} (h : RO N R w wr T j EA ec st ph fr dn VA vc vs MA mc m code) (hk : Keep S T wr w') (h0 : ¬ S 0) (h1 : ¬ S 1) (h2 : ¬ S 2) (h3 : ¬ S 3) (h4 : ∀ u, ¬ S (10 + u)) (ha : Agree wr.heap.size T T') : RO N R w w' T' j EA ec st ph fr dn VA vc vs MA mc m code := by
  have hb : Below N wr w' := hk.old h.t0 h0 (Nat.le_of_lt h.size)
  exact ⟨h.obj.keep hk h1 ha, h.vals.keep hk h2 ha, h.mail.keep hk h3 ha, fun u x hx => (h.rows u x hx).keep hk (h4 u) ha, h.edges.below hb, fun b hb2 => (ha b (by have := h.size; omega)).trans (h.t0 b hb2), h.bl.trans hb, h.nl⟩
theorem RO.below (h : RO N R w wr T j EA ec st ph fr dn VA vc vs MA mc m code) (hb : Below wr.heap.size wr w') (ha : Agree wr.heap.size T T') : RO N R w w' T' j EA ec st ph fr dn VA vc vs MA mc m code := h.keep (S := fun _ => False) (Keep.below hb) (fun h => h) (fun h => h) (fun h => h) (fun h => h) (fun _ h => h) ha
theorem RO.alloc (h : RO N R w wr T j EA ec st ph fr dn VA vc vs MA mc m code) (o : Obj) : RO N R w (wr.alloc o) (upd wr.heap.size T 0) j EA ec st ph fr dn VA vc vs MA mc m code := h.below ((Below.refl _ _).alloc (Nat.le_refl _) o) (agree_upd (Nat.le_refl _))
theorem RO.drew (h : RO N R w wr T j EA ec st ph fr dn VA vc vs MA mc m code) : RO N R w wr.drew T j EA ec st ph fr dn VA vc vs MA mc m code := h.below (Below.refl wr.heap.size wr).drew Agree.refl
/-- A vertex's row has grown; where it lies is put down. -/
theorem RO.push (h : RO N R w wr T j EA ec st ph fr dn VA vc vs MA mc m code) {u : Nat} {x y : ML Int} {g : Nat} (hMA : MA = some ⟨g, 0, none⟩) (hx : m[u]? = some x) (ho : TOwn w' (upd wr.heap.size T (10 + u)) (10 + u) 3 1 y.A y.c y.l.length (y.l.flatMap i64c)) (hk : Keep (fun t => t = 10 + u) T wr w') :
    RO N R w (w'.setCell ⟨g, u, none⟩ (.slice y.A y.l.length y.c)) (upd wr.heap.size T (10 + u)) j EA ec st ph fr dn VA vc vs MA mc (m.set u y) code ∧ Keep (fun t => t = 3 ∨ 10 ≤ t) T wr (w'.setCell ⟨g, u, none⟩ (.slice y.A y.l.length y.c)) := by
  have hN := h.size
  have hul := (List.getElem?_eq_some_iff.1 hx).1
  have ha : Agree wr.heap.size T (upd wr.heap.size T (10 + u)) := agree_upd (Nat.le_refl _)
  have hb : Below N wr w' := hk.old h.t0 (by omega) (by omega)
  have hm := h.mail
  rw [hMA] at hm
  have htg : T g = 3 := hm.2 g rfl
  have hgl : g < wr.heap.size := hm.lt g rfl
  have hNg : N ≤ g := by
    rcases Nat.lt_or_ge g N with h1 | h1
    · have := h.t0 g h1; omega
    · exact h1
  have ks : Keep (fun t => t = 3) (upd wr.heap.size T (10 + u)) w' (w'.setCell ⟨g, u, none⟩ (.slice y.A y.l.length y.c)) := Keep.refl.setCell (show g < w'.heap.size → upd wr.heap.size T (10 + u) g = 3 from fun _ => (ha g hgl).trans htg) _
  have kk : Keep (fun t => t = 3 ∨ 10 ≤ t) T wr (w'.setCell ⟨g, u, none⟩ (.slice y.A y.l.length y.c)) := (hk.more (fun t ht => .inr (by omega))).trans (ks.more (fun t ht => .inl ht)) ha
  refine ⟨⟨?_, (h.vals.keep hk (by omega) ha).keep ks (by omega) Agree.refl, ?_, fun u2 x2 hx2 => ?_, ?_, fun b hb2 => (ha b (by omega)).trans (h.t0 b hb2), (h.bl.trans hb).setCell hNg _, h.nl⟩, kk⟩
  · rw [List.length_set]; exact (h.obj.keep hk (by omega) ha).keep ks (by omega) Agree.refl
  · have h1 := (hm.keep hk (by omega) ha).set u (.slice y.A y.l.length y.c)
    rw [List.length_set, hMA]
    have e1 := flat_set (cells := ML.cells) (sz := 1) (fun _ => rfl) (v := .slice y.A y.l.length y.c) (y := y) (j := 0) (by decide) m u x hx rfl
    rw [Nat.mul_one, Nat.add_zero] at e1
    rw [e1]; exact h1
  · by_cases e : u = u2
    · subst e
      rw [List.getElem?_set_self hul] at hx2
      injection hx2 with hx2
      subst hx2
      exact ho.keep ks (by omega) Agree.refl
    · rw [List.getElem?_set_ne e] at hx2
      exact ((h.rows u2 x2 hx2).keep hk (by omega) ha).keep ks (by omega) Agree.refl
  · exact (h.edges.below hb).below ((Below.refl N w').setCell hNg _)
theorem RO.setCode (h : RO N R w wr T j EA ec st ph fr dn VA vc vs MA mc m code) (x : Int) : RO N R w (wr.setCell ⟨R, 10, none⟩ (.int .i64 x)) T j EA ec st ph fr dn VA vc vs MA mc m x ∧ Keep (fun t => t = 1) T wr (wr.setCell ⟨R, 10, none⟩ (.int .i64 x)) := by
  have ks : Keep (fun t => t = 1) T wr (wr.setCell ⟨R, 10, none⟩ (.int .i64 x)) := Keep.refl.setCell (fun _ => h.obj.tag) _
  have hb : Below N wr (wr.setCell ⟨R, 10, none⟩ (.int .i64 x)) := ks.old h.t0 (by omega) (Nat.le_of_lt h.size)
  exact ⟨⟨h.obj.store 10 _, h.vals.keep ks (by omega) Agree.refl, h.mail.keep ks (by omega) Agree.refl, fun u x hx => (h.rows u x hx).keep ks (by omega) Agree.refl, h.edges.below hb, h.t0, h.bl.trans hb, h.nl⟩, ks⟩
end
/-- What goes along an edge from a vertex that said: to whom, what, and what is wrong. -/
noncomputable def edgeSays (out inn : Bool) (k p : Int) (v : Int) (x : Val) (e : Edge) : List (Int × Int × Int) :=
  (if out = true ∧ e.src = v then [(e.dst, sayV k x p e.wt)] else []) ++ (if inn = true ∧ e.dst = v then [(e.src, sayV k x p e.wt)] else [])
/-- One saying comes. -/
def pushSay (s : Int × List (List Int)) (a : Int × Int × Int) : Int × List (List Int) := if a.2.2 ≠ 0 then (a.2.2, s.2) else (s.1, s.2.set a.1.toNat (s.2.getD a.1.toNat [] ++ [a.2.1]))
def pushAll (s : Int × List (List Int)) (l : List (Int × Int × Int)) : Int × List (List Int) := l.foldl pushSay s
theorem pushAll_append (s : Int × List (List Int)) (l l' : List (Int × Int × Int)) : pushAll s (l ++ l') = pushAll (pushAll s l) l' := List.foldl_append
theorem pushSay_len (s : Int × List (List Int)) (a : Int × Int × Int) : (pushSay s a).2.length = s.2.length := by unfold pushSay; split <;> simp
theorem pushAll_len (l : List (Int × Int × Int)) : ∀ s : Int × List (List Int), (pushAll s l).2.length = s.2.length := by
  induction l with
  | nil => intro s; rfl
  | cons a l ih => intro s; show (pushAll (pushSay s a) l).2.length = _; rw [ih, pushSay_len]
end Go.Proofs.Yteefemiieidpaaa
