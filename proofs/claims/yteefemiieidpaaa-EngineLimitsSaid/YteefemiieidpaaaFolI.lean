/- The document's round as it is made, in memory. -/
import Derived.Test.YteefemiieidpaaaFolP
namespace Go.Proofs.Yteefemiieidpaaa
open Go.RowKit Go.ChangeShapes Go.WideShapes Go.ChangeAt
set_option linter.unusedVariables false
set_option linter.unusedSimpArgs false
/-- Six cells put down one by one. -/
theorem store6 {S : Nat → Prop} {T : Tags} {w0 w w1 : World} {B b t : Nat} {e : TypeId} {a0 a1 a2 a3 a4 a5 : Value} (h : TObj w T t b #[a0, a1, a2, a3, a4, a5] e) (hk : Keep S T w1 w) (hs : S t) (hb : Below B w0 w) (hB : B ≤ b) (v0 v1 v2 v3 v4 v5 : Value) :
    ∃ wf, wf = ((((((w.setCell ⟨b, 0, none⟩ v0).setCell ⟨b, 1, none⟩ v1).setCell ⟨b, 2, none⟩ v2).setCell ⟨b, 3, none⟩ v3).setCell ⟨b, 4, none⟩ v4).setCell ⟨b, 5, none⟩ v5) ∧ TObj wf T t b #[v0, v1, v2, v3, v4, v5] e ∧ Keep S T w1 wf ∧ Below B w0 wf := by
  have ht : S (T b) := by rw [h.tag]; exact hs
  have h0 : TObj _ T t b #[v0, a1, a2, a3, a4, a5] e := h.store 0 v0
  have h1 : TObj _ T t b #[v0, v1, a2, a3, a4, a5] e := h0.store 1 v1
  have h2 : TObj _ T t b #[v0, v1, v2, a3, a4, a5] e := h1.store 2 v2
  have h3 : TObj _ T t b #[v0, v1, v2, v3, a4, a5] e := h2.store 3 v3
  have h4 : TObj _ T t b #[v0, v1, v2, v3, v4, a5] e := h3.store 4 v4
  have h5 : TObj _ T t b #[v0, v1, v2, v3, v4, v5] e := h4.store 5 v5
  have k := (((((hk.setCell (p := ⟨b, 0, none⟩) (fun _ => ht) v0).setCell (p := ⟨b, 1, none⟩) (fun _ => ht) v1).setCell (p := ⟨b, 2, none⟩) (fun _ => ht) v2).setCell (p := ⟨b, 3, none⟩) (fun _ => ht) v3).setCell (p := ⟨b, 4, none⟩) (fun _ => ht) v4).setCell (p := ⟨b, 5, none⟩) (fun _ => ht) v5
  have bb := (((((hb.setCell (p := ⟨b, 0, none⟩) hB v0).setCell (p := ⟨b, 1, none⟩) hB v1).setCell (p := ⟨b, 2, none⟩) hB v2).setCell (p := ⟨b, 3, none⟩) hB v3).setCell (p := ⟨b, 4, none⟩) hB v4).setCell (p := ⟨b, 5, none⟩) hB v5
  exact ⟨_, rfl, h5, k, bb⟩
/-- R: the state that is made; G: who says. -/
structure FO (N R G : Nat) (w wr : World) (T : Tags) (jc sc zc : Array Value) (st ph : Int) (VA : Option Addr) (vc : Nat) (vs : List Val) (MA : Option Addr) (mc : Nat) (m : List (ML Int)) (bs : List Bool) : Prop where
  obj : TObj wr T 1 R #[.int .i64 st, .int .i64 ph, .bool false, .bool false, .slice VA vs.length vc, .slice MA m.length mc] 30
  vals : TOwn wr T 2 50 2 VA vc vs.length (vs.flatMap Val.cells)
  mail : TOwn wr T 3 53 1 MA mc m.length (m.flatMap ML.cells)
  rows : ∀ x ∈ m, TRow wr T 7 x.A 1 x.l.length (x.l.flatMap i64c)
  said : TOwn wr T 4 4 1 (some ⟨G, 0, none⟩) bs.length bs.length (bs.map Value.bool)
  jobo : TObj wr T 0 N jc 26
  sto : TObj wr T 0 (N + 1) sc 30
  reso : TObj wr T 6 (N + 2) zc 30
  t0 : ∀ b, b < N + 2 → T b = 0
  bl : Below N w wr
  nl : N + 3 ≤ R
section
variable {N R G : Nat} {w wr w' : World} {T T' : Tags} {jc sc zc : Array Value} {st ph : Int} {VA : Option Addr} {vc : Nat} {vs : List Val} {MA : Option Addr} {mc : Nat} {m : List (ML Int)} {bs : List Bool}
theorem FO.size (h : FO N R G w wr T jc sc zc st ph VA vc vs MA mc m bs) : N + 3 < wr.heap.size := by have := h.obj.lt; have := h.nl; omega
theorem FO.keep {S : Nat → Prop} (h : FO N R G w wr T jc sc zc st ph VA vc vs MA mc m bs) (hk : Keep S T wr w') (h0 : ∀ t, t ≤ 7 → t ≠ 5 → ¬ S t) (ha : Agree wr.heap.size T T') : FO N R G w w' T' jc sc zc st ph VA vc vs MA mc m bs := by
  have hb : Below (N + 2) wr w' := hk.old h.t0 (h0 0 (by omega) (by omega)) (by have := h.size; omega)
  exact ⟨h.obj.keep hk (h0 1 (by omega) (by omega)) ha, h.vals.keep hk (h0 2 (by omega) (by omega)) ha, h.mail.keep hk (h0 3 (by omega) (by omega)) ha, fun x hx => (h.rows x hx).keep hk (h0 7 (by omega) (by omega)) ha, h.said.keep hk (h0 4 (by omega) (by omega)) ha, h.jobo.keep hk (h0 0 (by omega) (by omega)) ha, h.sto.keep hk (h0 0 (by omega) (by omega)) ha, h.reso.keep hk (h0 6 (by omega) (by omega)) ha, fun b hb2 => (ha b (by have := h.size; omega)).trans (h.t0 b hb2), h.bl.trans (hb.mono (by omega)), h.nl⟩
theorem FO.below (h : FO N R G w wr T jc sc zc st ph VA vc vs MA mc m bs) (hb : Below wr.heap.size wr w') (ha : Agree wr.heap.size T T') : FO N R G w w' T' jc sc zc st ph VA vc vs MA mc m bs := h.keep (S := fun _ => False) (Keep.below hb) (fun _ _ _ h => h) ha
theorem FO.drew (h : FO N R G w wr T jc sc zc st ph VA vc vs MA mc m bs) : FO N R G w wr.drew T jc sc zc st ph VA vc vs MA mc m bs := h.below (Below.refl wr.heap.size wr).drew Agree.refl
/-- A value has been appended, the row put down. -/
theorem FO.pushVal (h : FO N R G w wr T jc sc zc st ph VA vc vs MA mc m bs) {x : Val} {A' : Option Addr} {c' : Nat} {T1 : Tags} (ha : Agree wr.heap.size T T1) (ho : TOwn w' T1 2 50 2 A' c' (vs.length + 1) (vs.flatMap Val.cells ++ Val.cells x)) (hk : Keep (fun t => t = 2) T wr w') :
    FO N R G w (w'.setCell ⟨R, 4, none⟩ (.slice A' (vs.length + 1) c')) T1 jc sc zc st ph A' c' (vs ++ [x]) MA mc m bs := by
  have hb : Below (N + 2) wr w' := hk.old h.t0 (by omega) (by have := h.size; omega)
  have o1 := h.obj.keep hk (by omega) ha
  have ks : Keep (fun t => t = 1) T1 w' (w'.setCell ⟨R, 4, none⟩ (.slice A' (vs.length + 1) c')) := Keep.refl.setCell (fun _ => o1.tag) _
  have e1 : (vs ++ [x]).length = vs.length + 1 := by simp
  have e2 : (vs ++ [x]).flatMap Val.cells = vs.flatMap Val.cells ++ Val.cells x := by simp
  have hb2 : Below (N + 2) w' (w'.setCell ⟨R, 4, none⟩ (.slice A' (vs.length + 1) c')) := (Below.refl _ _).setCell (by have := h.nl; show N + 2 ≤ R; omega) _
  refine ⟨?_, ?_, (h.mail.keep hk (by omega) ha).keep ks (by omega) Agree.refl, fun x hx => ((h.rows x hx).keep hk (by omega) ha).keep ks (by omega) Agree.refl, (h.said.keep hk (by omega) ha).keep ks (by omega) Agree.refl, (h.jobo.keep hk (by omega) ha).keep ks (by omega) Agree.refl, (h.sto.keep hk (by omega) ha).keep ks (by omega) Agree.refl, (h.reso.keep hk (by omega) ha).keep ks (by omega) Agree.refl, fun b hb2 => (ha b (by have := h.size; omega)).trans (h.t0 b hb2), h.bl.trans ((hb.trans hb2).mono (by omega)), h.nl⟩
  · rw [e1]; exact o1.store 4 _
  · rw [e1, e2]; exact ho.keep ks (by omega) Agree.refl
/-- A row of mail has been appended, the grid put down. -/
theorem FO.pushMail (h : FO N R G w wr T jc sc zc st ph VA vc vs MA mc m bs) {x : ML Int} {A' : Option Addr} {c' : Nat} {T1 : Tags} (ha : Agree wr.heap.size T T1) (hx : TRow wr T 7 x.A 1 x.l.length (x.l.flatMap i64c)) (ho : TOwn w' T1 3 53 1 A' c' (m.length + 1) (m.flatMap ML.cells ++ ML.cells x)) (hk : Keep (fun t => t = 3) T wr w') :
    FO N R G w (w'.setCell ⟨R, 5, none⟩ (.slice A' (m.length + 1) c')) T1 jc sc zc st ph VA vc vs A' c' (m ++ [x]) bs := by
  have hb : Below (N + 2) wr w' := hk.old h.t0 (by omega) (by have := h.size; omega)
  have o1 := h.obj.keep hk (by omega) ha
  have ks : Keep (fun t => t = 1) T1 w' (w'.setCell ⟨R, 5, none⟩ (.slice A' (m.length + 1) c')) := Keep.refl.setCell (fun _ => o1.tag) _
  have e1 : (m ++ [x]).length = m.length + 1 := by simp
  have e2 : (m ++ [x]).flatMap ML.cells = m.flatMap ML.cells ++ ML.cells x := by simp
  have hb2 : Below (N + 2) w' (w'.setCell ⟨R, 5, none⟩ (.slice A' (m.length + 1) c')) := (Below.refl _ _).setCell (by have := h.nl; show N + 2 ≤ R; omega) _
  refine ⟨?_, (h.vals.keep hk (by omega) ha).keep ks (by omega) Agree.refl, ?_, fun y hy => ?_, (h.said.keep hk (by omega) ha).keep ks (by omega) Agree.refl, (h.jobo.keep hk (by omega) ha).keep ks (by omega) Agree.refl, (h.sto.keep hk (by omega) ha).keep ks (by omega) Agree.refl, (h.reso.keep hk (by omega) ha).keep ks (by omega) Agree.refl, fun b hb2 => (ha b (by have := h.size; omega)).trans (h.t0 b hb2), h.bl.trans ((hb.trans hb2).mono (by omega)), h.nl⟩
  · rw [e1]; exact o1.store 5 _
  · rw [e1, e2]; exact ho.keep ks (by omega) Agree.refl
  · rcases List.mem_append.1 hy with hy | hy
    · exact ((h.rows y hy).keep hk (by omega) ha).keep ks (by omega) Agree.refl
    · obtain rfl := List.mem_singleton.1 hy
      exact (hx.keep hk (by omega) ha).keep ks (by omega) Agree.refl
/-- Whether a vertex says is put down. -/
theorem FO.setSaid (h : FO N R G w wr T jc sc zc st ph VA vc vs MA mc m bs) (k : Nat) (b : Bool) :
    FO N R G w (wr.setCell ⟨G, k, none⟩ (.bool b)) T jc sc zc st ph VA vc vs MA mc m (bs.set k b) ∧ Keep (fun t => t = 4) T wr (wr.setCell ⟨G, k, none⟩ (.bool b)) := by
  have ks : Keep (fun t => t = 4) T wr (wr.setCell ⟨G, k, none⟩ (.bool b)) := Keep.refl.setCell (fun hl => h.said.2 G rfl) _
  have hb : Below (N + 2) wr (wr.setCell ⟨G, k, none⟩ (.bool b)) := ks.old h.t0 (by omega) (by have := h.size; omega)
  refine ⟨⟨h.obj.keep ks (by omega) Agree.refl, h.vals.keep ks (by omega) Agree.refl, h.mail.keep ks (by omega) Agree.refl, fun x hx => (h.rows x hx).keep ks (by omega) Agree.refl, ?_, h.jobo.keep ks (by omega) Agree.refl, h.sto.keep ks (by omega) Agree.refl, h.reso.keep ks (by omega) Agree.refl, h.t0, h.bl.trans (hb.mono (by omega)), h.nl⟩, ks⟩
  rw [List.length_set, List.map_set]
  exact h.said.set k _
theorem FO.init {j : Job} {n : Nat} (hR : wr.heap[R]? = some (.cells #[.int .i64 st, .int .i64 ph, .bool false, .bool false, .slice none 0 0, .slice none 0 0] 30 (0, 0))) (hs : wr.ownsRow (N + 3) 4 1 (.slice (some ⟨G, 0, none⟩) n n) n (List.replicate n (.bool false)))
    (hRG : R ≠ G) (hN : N + 3 ≤ R) (hj : TObj wr (fun _ => 0) 0 N jc 26) (hst : TObj wr (fun _ => 0) 0 (N + 1) sc 30) (hre : TObj wr (fun _ => 0) 0 (N + 2) zc 30) (hb : Below N w wr) :
    ∃ T : Tags, FO N R G w wr T jc sc zc st ph none 0 [] none 0 [] (List.replicate n false) := by
  have hG := (hs.lt G rfl).1
  have z0 : ∀ b, b < N + 2 → (if b = R then 1 else if b = G then 4 else if b = N + 2 then 6 else 0 : Nat) = 0 := fun b hb2 => by rw [if_neg (by omega), if_neg (by omega), if_neg (by omega)]
  have z6 : (if N + 2 = R then 1 else if N + 2 = G then 4 else if N + 2 = N + 2 then 6 else 0 : Nat) = 6 := by rw [if_neg (by omega), if_neg (by omega), if_pos rfl]
  refine ⟨fun b => if b = R then 1 else if b = G then 4 else if b = N + 2 then 6 else 0, ⟨⟨hR, by simp⟩, TOwn.nil_, TOwn.nil_, (fun x hx => by cases hx), ⟨?_, fun k hk => ?_⟩, ⟨hj.blk, z0 _ (by omega)⟩, ⟨hst.blk, z0 _ (by omega)⟩, ⟨hre.blk, z6⟩, z0, hb, hN⟩⟩
  · rw [List.map_replicate, List.length_replicate]; exact own_more hs (Nat.zero_le _)
  · have : k = G := by
      injection hk with hk; exact hk.symm
    subst this
    show (if k = R then 1 else if k = k then 4 else if k = N + 2 then 6 else 0 : Nat) = 4
    rw [if_neg (Ne.symm hRG), if_pos rfl]
theorem FO.ret {wf : World} (h : FO N R G w wr T jc sc zc st ph VA vc vs MA mc m bs) (hk : Keep (fun t => t = 1 ∨ t = 6) T wr wf) :
    (Part.mk VA 2 vs.length (vs.flatMap Val.cells)).ok wf N none ∧ NewGridR wf N MA m := by
  have h0 : ∀ b, b < N → T b = 0 := fun b hb => h.t0 b (by omega)
  exact ⟨(h.vals.row.keep (T' := T) hk (by omega) Agree.refl).part h0 (by decide), (h.mail.row.keep (T' := T) hk (by omega) Agree.refl).part h0 (by decide), fun x hx => ((h.rows x hx).keep (T' := T) hk (by omega) Agree.refl).part h0 (by decide)⟩
end
end Go.Proofs.Yteefemiieidpaaa
