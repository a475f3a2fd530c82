/- The document's OpenedPart. -/
import Derived.Test.YtiemcicgohldeaaStoU
import Derived.Test.YtiemcicgohldeaaStoO
namespace Go.Proofs.Ytiemcicgohldeaa
open Go.ChangeShapes Go.WideShapes Go.ChangeAt Go.RowKit
set_option linter.unusedVariables false
set_option linter.unusedSimpArgs false
/-- What stands while OpenedPart reads hops: N the result's block, P the part's. -/
structure OJ (N P : Nat) (w wr : World) (T : Tags) (a b n : Int) (A : Option Addr) (c : Nat) (B : Option Addr) (d : Nat) (mo mi : List (ML Hop)) : Prop where
  np : N < P
  res : TObj wr T 0 N #[.int .i64 0, .int .i64 0, .int .i64 0, .slice none 0 0, .slice none 0 0] 26
  prt : TObj wr T 0 P #[.int .i64 a, .int .i64 b, .int .i64 n, .slice A mo.length c, .slice B mi.length d] 26
  out : TOwn wr T 2 64 1 A c mo.length (mo.flatMap ML.cells)
  inn : TOwn wr T 3 64 1 B d mi.length (mi.flatMap ML.cells)
  ro : ∀ x ∈ mo, TRow wr T 1 x.A 2 x.l.length (x.l.flatMap Hop.cells)
  ri : ∀ x ∈ mi, TRow wr T 1 x.A 2 x.l.length (x.l.flatMap Hop.cells)
  t0 : ∀ b, b ≤ P → T b = 0
  bl : Below N w wr
section
variable {N P : Nat} {w wr w' : World} {T : Tags} {a b n : Int} {A : Option Addr} {c : Nat} {B : Option Addr} {d : Nat} {mo mi : List (ML Hop)}
theorem OJ.keep {T' : Tags} {S : Nat → Prop} (h : OJ N P w wr T a b n A c B d mo mi) (hk : Keep S T wr w') (h0 : ¬ S 0) (h1 : ¬ S 1) (h2 : ¬ S 2) (h3 : ¬ S 3) (ha : Agree wr.heap.size T T') : OJ N P w w' T' a b n A c B d mo mi := by
  have hp := h.prt.lt
  have hb : Below (P + 1) wr w' := hk.old (fun b hb => h.t0 b (by omega)) h0 (by omega)
  exact ⟨h.np, h.res.keep hk h0 ha, h.prt.keep hk h0 ha, h.out.keep hk h2 ha, h.inn.keep hk h3 ha, fun x hx => (h.ro x hx).keep hk h1 ha, fun x hx => (h.ri x hx).keep hk h1 ha, fun b hb2 => (ha b (by omega)).trans (h.t0 b hb2), h.bl.trans (hb.mono (by have := h.np; omega))⟩
theorem OJ.alloc (h : OJ N P w wr T a b n A c B d mo mi) (o : Obj) : OJ N P w (wr.alloc o) T a b n A c B d mo mi := h.keep (S := fun _ => False) (Keep.refl.alloc o) (fun h => h) (fun h => h) (fun h => h) (fun h => h) Agree.refl
theorem OJ.drew (h : OJ N P w wr T a b n A c B d mo mi) : OJ N P w wr.drew T a b n A c B d mo mi := h.keep (S := fun _ => False) Keep.refl.drew (fun h => h) (fun h => h) (fun h => h) (fun h => h) Agree.refl
theorem OJ.below (h : OJ N P w wr T a b n A c B d mo mi) (hb : Below wr.heap.size wr w') : OJ N P w w' (upd wr.heap.size T 1) a b n A c B d mo mi := h.keep (S := fun _ => False) (Keep.below hb) (fun h => h) (fun h => h) (fun h => h) (fun h => h) (agree_upd (Nat.le_refl _))
theorem OJ.pushO {y : ML Hop} {A' : Option Addr} {c' : Nat} (h : OJ N P w wr T a b n A c B d mo mi) (hy : TRow wr T 1 y.A 2 y.l.length (y.l.flatMap Hop.cells)) (ho : TOwn w' (upd wr.heap.size T 2) 2 64 1 A' c' (mo.length + 1) (mo.flatMap ML.cells ++ ML.cells y)) (hk : Keep (fun x => x = 2) T wr w') :
    TObj w' (upd wr.heap.size T 2) 0 P #[.int .i64 a, .int .i64 b, .int .i64 n, .slice A mo.length c, .slice B mi.length d] 26 ∧ OJ N P w (w'.setCell ⟨P, 3, none⟩ (.slice A' (mo.length + 1) c')) (upd wr.heap.size T 2) a b n A' c' B d (mo ++ [y]) mi := by
  have hp := h.prt.lt
  have hnp := h.np
  have hb : Below (P + 1) wr w' := hk.old (fun b hb => h.t0 b (by omega)) (by decide) (by omega)
  have ha : Agree wr.heap.size T (upd wr.heap.size T 2) := agree_upd (Nat.le_refl _)
  have hz2 : upd wr.heap.size T 2 P = 0 := (ha P hp).trans (h.t0 P (Nat.le_refl _))
  have ks : Keep (fun x => x = 0) (upd wr.heap.size T 2) w' (w'.setCell ⟨P, 3, none⟩ (.slice A' (mo.length + 1) c')) := Keep.refl.setCell (fun _ => hz2) _
  have e1 : (mo ++ [y]).length = mo.length + 1 := by simp
  have e2 : (mo ++ [y]).flatMap ML.cells = mo.flatMap ML.cells ++ ML.cells y := by simp
  have hpr := h.prt.keep hk (by decide) ha
  refine ⟨hpr, ⟨hnp, ?_, ?_, ?_, (h.inn.keep hk (by decide) ha).keep ks (by decide) Agree.refl, fun x hx => ?_, fun x hx => ((h.ri x hx).keep hk (by decide) ha).keep ks (by decide) Agree.refl, fun b hb2 => (ha b (by omega)).trans (h.t0 b hb2), ?_⟩⟩
  · have hr := h.res.keep hk (by decide) ha
    refine ⟨?_, hr.tag⟩
    simp only [World.setCell, Array.getElem?_modify]
    rw [if_neg (by omega)]; exact hr.blk
  · rw [e1]; exact hpr.store 3 _
  · rw [e1, e2]; exact ho.keep ks (by decide) Agree.refl
  · rcases List.mem_append.1 hx with hx | hx
    · exact ((h.ro x hx).keep hk (by decide) ha).keep ks (by decide) Agree.refl
    · obtain rfl := List.mem_singleton.1 hx
      exact (hy.keep hk (by decide) ha).keep ks (by decide) Agree.refl
  · exact (h.bl.trans (hb.mono (by omega))).setCell (by show N ≤ P; omega) _
theorem OJ.pushI {y : ML Hop} {A' : Option Addr} {c' : Nat} (h : OJ N P w wr T a b n A c B d mo mi) (hy : TRow wr T 1 y.A 2 y.l.length (y.l.flatMap Hop.cells)) (ho : TOwn w' (upd wr.heap.size T 3) 3 64 1 A' c' (mi.length + 1) (mi.flatMap ML.cells ++ ML.cells y)) (hk : Keep (fun x => x = 3) T wr w') :
    TObj w' (upd wr.heap.size T 3) 0 P #[.int .i64 a, .int .i64 b, .int .i64 n, .slice A mo.length c, .slice B mi.length d] 26 ∧ OJ N P w (w'.setCell ⟨P, 4, none⟩ (.slice A' (mi.length + 1) c')) (upd wr.heap.size T 3) a b n A c A' c' mo (mi ++ [y]) := by
  have hp := h.prt.lt
  have hnp := h.np
  have hb : Below (P + 1) wr w' := hk.old (fun b hb => h.t0 b (by omega)) (by decide) (by omega)
  have ha : Agree wr.heap.size T (upd wr.heap.size T 3) := agree_upd (Nat.le_refl _)
  have hz2 : upd wr.heap.size T 3 P = 0 := (ha P hp).trans (h.t0 P (Nat.le_refl _))
  have ks : Keep (fun x => x = 0) (upd wr.heap.size T 3) w' (w'.setCell ⟨P, 4, none⟩ (.slice A' (mi.length + 1) c')) := Keep.refl.setCell (fun _ => hz2) _
  have e1 : (mi ++ [y]).length = mi.length + 1 := by simp
  have e2 : (mi ++ [y]).flatMap ML.cells = mi.flatMap ML.cells ++ ML.cells y := by simp
  have hpr := h.prt.keep hk (by decide) ha
  refine ⟨hpr, ⟨hnp, ?_, ?_, (h.out.keep hk (by decide) ha).keep ks (by decide) Agree.refl, ?_, fun x hx => ((h.ro x hx).keep hk (by decide) ha).keep ks (by decide) Agree.refl, fun x hx => ?_, fun b hb2 => (ha b (by omega)).trans (h.t0 b hb2), ?_⟩⟩
  · have hr := h.res.keep hk (by decide) ha
    refine ⟨?_, hr.tag⟩
    simp only [World.setCell, Array.getElem?_modify]
    rw [if_neg (by omega)]; exact hr.blk
  · rw [e1]; exact hpr.store 4 _
  · rw [e1, e2]; exact ho.keep ks (by decide) Agree.refl
  · rcases List.mem_append.1 hx with hx | hx
    · exact ((h.ri x hx).keep hk (by decide) ha).keep ks (by decide) Agree.refl
    · obtain rfl := List.mem_singleton.1 hx
      exact (hy.keep hk (by decide) ha).keep ks (by decide) Agree.refl
  · exact (h.bl.trans (hb.mono (by omega))).setCell (by show N ≤ P; omega) _
end
def OtR (N P : Nat) (a b n : Int) (ink : List Int) (M : Nat) (r0 : List Int) (w : World) (v12 v16 v17 v18 : Value) (wr : World) : Prop :=
  ∃ (T : Tags) (A : Option Addr) (c : Nat) (B : Option Addr) (d : Nat) (mo mi : List (ML Hop)) (at' : Nat), v12 = .int .i64 (at' : Nat) ∧ v18 = .int .i64 (mo.length : Nat) ∧ v16 = .int .i64 (hopsMany (lists mo) : Nat) ∧ v17 = .int .i64 (hopsMany (lists mi) : Nat) ∧
    Hid (mi.length = mo.length) ∧ mo.length ≤ M ∧ Hid (OJ N P w wr T a b n A c B d mo mi) ∧ Hid (partGo n M r0 = putP (lists mo) (lists mi) (partGo n (M - mo.length) (ink.drop at'))) ∧ hopsMany (lists mo) ≤ 600 * mo.length ∧ hopsMany (lists mi) ≤ 600 * mo.length ∧ at' ≤ ink.length
theorem OJ.stBl {N P : Nat} {w wr w' : World} {T : Tags} {a b n : Int} {A : Option Addr} {c : Nat} {B : Option Addr} {d : Nat} {mo mi : List (ML Hop)} (h : OJ N P w wr T a b n A c B d mo mi) {S : Nat → Prop} (hk : Keep S T wr w') (h0 : ¬ S 0) (i : Nat) (u : Value) : Below P wr (w'.setCell ⟨P, i, none⟩ u) :=
  Below.setCell (hk.old (B := P) (fun b hb => h.t0 b (by omega)) h0 (by have := h.prt.lt; omega)) (Nat.le_refl _) u
theorem TRow.setOld {w : World} {T : Tags} {t sz n : Nat} {A : Option Addr} {xs : List Value} (h : TRow w T t A sz n xs) {p : Addr} {tp : Nat} (hp : T p.block = tp) (hne : tp ≠ t) (u : Value) : TRow (w.setCell p u) T t A sz n xs :=
  h.keep (S := fun x => x = tp) (Keep.refl.setCell (fun _ => hp) u) (fun h => hne h.symm) Agree.refl
theorem mineV_ok {a b n : Int} (ha : 0 ≤ a ∧ a ≤ 7) (hb : b ≤ 8) (hn : 0 ≤ n ∧ n ≤ 200) : ((mineV a n b).2 = 0 ↔ a < b) := by
  unfold mineV
  by_cases h : a < b
  · rw [if_pos (by omega), if_pos (by omega)]; simp [h]
  · constructor
    · intro h2
      by_cases h3 : 0 ≤ n ∧ n ≤ 200 ∧ 1 ≤ b ∧ b ≤ 8
      · rw [if_pos h3, if_neg (by omega)] at h2; cases h2
      · rw [if_neg h3] at h2; cases h2
    · intro h2; omega
end Go.Proofs.Ytiemcicgohldeaa
