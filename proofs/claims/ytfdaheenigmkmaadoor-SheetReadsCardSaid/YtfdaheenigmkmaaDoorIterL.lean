/- A range over an iterator that keeps what is left in one cell of its own (strings.Lines): a law for such a loop; the contract of strings.Lines. -/
import Derived.RangeFuncNested
import Derived.RangeFuncBound
import Derived.RangeFuncCalls
import Derived.RangeFuncLeaves
import Derived.Shelf.Abstract
import Derived.Shelf.RegionOpen
import Derived.WalkKit
import Derived.OwnWalkIn
import Derived.TacticsInMore
import Derived.LoopNIn
import Derived.LoopIn
import Derived.Test.YtfdaheenigmkmaaDoorRdP
import Derived.Test.YtfdaheenigmkmaaDoorShelfR
namespace Go.Proofs.YtfdaheenigmkmaaDoor
open Go.RowKit Go.Shelf
set_option linter.unusedVariables false
set_option linter.unusedSimpArgs false
attribute [local go_sem] Oper.semAt_some
/-- What the loop's machinery and the iterator do leaves it true. -/
structure Stb (bx B : Nat) (J : World → Prop) : Prop where
  cell : ∀ W v, J W → J (W.setCell ⟨bx, 0, none⟩ v)
  put : ∀ W l o o', J W → B ≤ l → W.heap[l]? = some o → o.isCells = false → J (W.putObj l o')
  new : ∀ W o, J W → J (W.alloc o)
  draw : ∀ W k, J W → J (W.drewN k)
def SameBox (bx : Nat) (W W' : World) : Prop := W'.cell? ⟨bx, 0, none⟩ = W.cell? ⟨bx, 0, none⟩ ∧ W'.frozen? ⟨bx, 0, none⟩ = W.frozen? ⟨bx, 0, none⟩
/-- The contract of such an iterator: all of xs comes, or a round has left for good. -/
def IterBox {α : Type} (P : Program) (n gf bx : Nat) (enc : α → Value) (v0 : Value) (xs : List α) : Prop :=
  ∀ (l B : Nat) (J : List α → World → Prop) (Jx : World → Prop) (W : World), bx < B → bx < W.heap.size → W.cell? ⟨bx, 0, none⟩ = some v0 → W.frozen? ⟨bx, 0, none⟩ = false →
    (∀ s, Stb bx B (J s)) → Stb bx B Jx →
    (∀ pre x W1, J pre W1 → pre ++ [x] <+: xs → YieldAt Fence.wide (n - 1) P l #[enc x] W1 fun e W' =>
      (e = .returned (.bool true) ∧ J (pre ++ [x]) W' ∧ SameBox bx W1 W' ∧ W1.heap.size ≤ W'.heap.size) ∨ (e = .returned (.bool false) ∧ Jx W')) →
    J [] W →
    CallsIn Fence.wide n P gf (#[.func (.yield l) #[] #[]] ++ #[.pointer (some ⟨bx, 0, none⟩)]) W fun e W' => (∃ v, e = .returned v) ∧ (J xs W' ∨ Jx W')
/-- How a round may end. -/
def endsRound {α : Type} (bx B : Nat) (I : List α → World → Prop) (Ix : World → Prop) (s : List α) (W : World) : Exit → Act → World → Prop
  | .normal, _, W' => KeepsFrom B W W' ∧ SameBox bx W W' ∧ W.heap.size ≤ W'.heap.size ∧ I s W'
  | .ret, _, W' => KeepsFrom B W W' ∧ Ix W'
  | _, _, _ => False
theorem box_put {W : World} {bx l : Nat} (o : Obj) (h : l ≠ bx) : SameBox bx W (W.putObj l o) := by
  have hb : (W.putObj l o).heap[bx]? = W.heap[bx]? := World.putObj_heap_other (by omega)
  exact ⟨by unfold World.cell?; simp only [hb], by unfold World.frozen?; simp only [hb]⟩
theorem SameBox.trans {bx : Nat} {A B C : World} (h : SameBox bx A B) (h2 : SameBox bx B C) : SameBox bx A C := ⟨h2.1.trans h.1, h2.2.trans h.2⟩
theorem putObj_size (W : World) (l : Nat) (o : Obj) : (W.putObj l o).heap.size = W.heap.size := by simp [World.putObj]
theorem iter_law {P : Program} {α : Type} {g : Operand} {p : Tmp} {assign body : Code} {Q : Exit → Act → World → Prop} {a : Act} {w : World} {n gf bx : Nat} {enc : α → Value} {v0 : Value} {xs : List α}
    (h1 : 1 ≤ n) (hg : a.eval g = .func (.func gf) #[] #[.pointer (some ⟨bx, 0, none⟩)]) (eg : ∀ args w, (callFunc gf args).run P w = .ok (.enter gf args) w) (hbx : bx < w.heap.size)
    (hc : w.cell? ⟨bx, 0, none⟩ = some v0) (hf : w.frozen? ⟨bx, 0, none⟩ = false) (hseq : IterBox P (n - 1) gf bx enc v0 xs)
    (I : List α → World → Prop) (Ix : World → Prop) (hI : ∀ s, Stb bx w.heap.size (I s)) (hIx : Stb bx w.heap.size Ix) (h0 : I [] w) (a₁ : α → Act)
    (hassign : ∀ (l : Nat) (x : α) (W : World) (K : Act → World → Prop), K (a₁ x) W →
      assign.wpIn (Fence.wide.inRound l) (n - 1 - 1) P (Exit.then K (fun _ _ _ => False)) { tmps := a.tmps.setIfInBounds p (enc x), defers := [] } W)
    (hbody : ∀ (l : Nat) (pre : List α) (x : α) (W : World), I pre W → pre ++ [x] <+: xs → body.wpIn (Fence.wide.inRound l) (n - 1 - 1) P (endsRound bx w.heap.size I Ix (pre ++ [x]) W) (a₁ x) W)
    (hdone : ∀ (D : Nat) (W : World), w.heap.size ≤ D → I xs W → W.heap[D]? = some (.deferred (some [])) → Q .normal { a with defers := { target := .collected D, args := #[] } :: a.defers } W)
    (hstop : ∀ (D : Nat) (W : World), w.heap.size ≤ D → Ix W → W.heap[D]? = some (.deferred (some [])) → Code.ret.wpIn Fence.wide n P Q { a with defers := { target := .collected D, args := #[] } :: a.defers } W) :
    (Code.rangeFunc g #[p] assign body).wpIn Fence.wide n P Q a w := by
  refine wpIn_rangeFunc fun fn hfn => ?_
  obtain ⟨L, hL⟩ : ∃ L : LoopState → Option Code → Obj, L = fun st pe => .loop { state := st, pending := pe, fn, tmps := a.tmps, params := #[p], assign, body, defers := w.heap.size } := ⟨_, rfl⟩
  obtain ⟨W1, hW1⟩ : ∃ W1, W1 = (w.alloc (.deferred (some []))).alloc (L .ready none) := ⟨_, rfl⟩
  have sz1 : W1.heap.size = w.heap.size + 2 := by rw [hW1]; simp
  have atL : W1.heap[w.heap.size + 1]? = some (L .ready none) := by
    rw [hW1]; have := World.alloc_heap_new (w.alloc (.deferred (some []))) (L .ready none); rwa [World.size_alloc] at this
  have atD : W1.heap[w.heap.size]? = some (.deferred (some [])) := by
    rw [hW1]; exact (Below.heap_alloc _ _ _ (by simp)).trans (World.alloc_heap_new w _)
  have atB : W1.heap[bx]? = w.heap[bx]? := by
    rw [hW1]; exact (Below.heap_alloc _ _ _ (by simp; omega)).trans (Below.heap_alloc _ _ _ hbx)
  refine ⟨w.heap.size + 1, [{ target := .collected w.heap.size, args := #[] }], W1, { target := .fn (.func gf) #[.pointer (some ⟨bx, 0, none⟩)], args := #[.func (.yield (w.heap.size + 1)) #[] #[]] }, W1, gf,
    #[.func (.yield (w.heap.size + 1)) #[] #[]] ++ #[.pointer (some ⟨bx, 0, none⟩)], W1, ?_, ?_, ?_, ?_, fun _ => h1, ?_⟩
  · rw [hW1, hL]; exact run_enterLoop_outer _ _ _ _ _
  · simp only [resolve, hg]; simp [go_sem]
  · intro f' hf'; trivial
  · simp [invoke, go_sem, eg]
  let Bk : World → Obj → Prop := fun W o => W.heap[w.heap.size + 1]? = some o ∧ W.heap[w.heap.size]? = some (.deferred (some []))
  have stB : ∀ o, o.isCells = false → ∀ {J : World → Prop}, Stb bx w.heap.size J → Stb bx (w.heap.size + 2) (fun W => J W ∧ Bk W o) := fun o ho J hJ =>
    { cell := fun W v h => ⟨hJ.cell W v h.1, by
        constructor
        · rw [show (W.setCell ⟨bx, 0, none⟩ v).heap[w.heap.size + 1]? = W.heap[w.heap.size + 1]? by simp only [World.setCell, Array.getElem?_modify]; rw [if_neg (by omega)]]; exact h.2.1
        · rw [show (W.setCell ⟨bx, 0, none⟩ v).heap[w.heap.size]? = W.heap[w.heap.size]? by simp only [World.setCell, Array.getElem?_modify]; rw [if_neg (by omega)]]; exact h.2.2⟩
      put := fun W l o1 o2 h hl h1 h2 => ⟨hJ.put W l o1 o2 h.1 (by omega) h1 h2, (World.putObj_heap_other (by omega)).trans h.2.1, (World.putObj_heap_other (by omega)).trans h.2.2⟩
      new := fun W o1 h => ⟨hJ.new W o1 h.1, (Below.heap_alloc _ _ _ (Array.getElem?_eq_some_iff.1 h.2.1).1).trans h.2.1, (Below.heap_alloc _ _ _ (Array.getElem?_eq_some_iff.1 h.2.2).1).trans h.2.2⟩
      draw := fun W k h => ⟨hJ.draw W k h.1, h.2⟩ }
  have ncL : ∀ st pe, (L st pe).isCells = false := fun st pe => by rw [hL]; rfl
  refine (hseq (w.heap.size + 1) (w.heap.size + 2) (fun s W => I s W ∧ Bk W (L .ready none)) (fun W => Ix W ∧ Bk W (L .done (some .ret))) W1 (by omega) (by omega)
    (by unfold World.cell? at hc ⊢; simp only [atB]; exact hc) (by unfold World.frozen? at hf ⊢; simp only [atB]; exact hf)
    (fun s => stB _ (ncL _ _) (hI s)) (stB _ (ncL _ _) hIx) ?_ ⟨by rw [hW1]; exact (hI []).new _ _ ((hI []).new _ _ h0), atL, atD⟩).mono ?_
  · rintro pre x W ⟨hi, hl, hd⟩ hpre
    have hlt := (Array.getElem?_eq_some_iff.1 hl).1
    have hl' := hl
    rw [hL] at hl
    have hy := run_yield (P := P) (args := #[enc x]) hl rfl
    refine ⟨fn, _, assign, body, hy, roundIn_of_wpIn hfn ?_⟩
    have hz : (Array.zip #[p] #[enc x]).foldl (fun tmps (t, v) => tmps.setIfInBounds t v) a.tmps = a.tmps.setIfInBounds p (enc x) := by simp
    show assign.wpIn _ _ P _ { tmps := (Array.zip #[p] #[enc x]).foldl (fun tmps (t, v) => tmps.setIfInBounds t v) a.tmps, defers := [] } W
    rw [hz]
    refine hassign _ x W _ ⟨_, run_beginRound hl rfl, ?_⟩
    obtain ⟨W2, hW2⟩ : ∃ W2, W2 = W.putObj (w.heap.size + 1) (L .busy none) := ⟨_, rfl⟩
    have e2 : W.putObj (w.heap.size + 1) (.loop { state := .busy, pending := none, fn, tmps := a.tmps, params := #[p], assign, body, defers := w.heap.size }) = W2 := by rw [hW2, hL]
    show body.wpIn _ _ P _ _ (W.putObj (w.heap.size + 1) (.loop { state := .busy, pending := none, fn, tmps := a.tmps, params := #[p], assign, body, defers := w.heap.size }))
    rw [e2]
    have l2 : W2.heap[w.heap.size + 1]? = some (L .busy none) := by rw [hW2]; exact World.putObj_heap_same hlt
    have d2 : W2.heap[w.heap.size]? = some (.deferred (some [])) := by rw [hW2]; exact (World.putObj_heap_other (by omega)).trans hd
    have b2 : SameBox bx W W2 := by rw [hW2]; exact box_put _ (by omega)
    have s2 : W2.heap.size = W.heap.size := by rw [hW2]; exact putObj_size _ _ _
    refine wpIn_mono (hbody _ pre x W2 (by rw [hW2]; exact (hI _).put _ _ _ _ hi (by omega) hl' (ncL _ _)) hpre) ?_
    have fin : ∀ (jump : Option Code) (W3 : World), KeepsFrom w.heap.size W2 W3 → ∃ W4, (Instr.endRound (w.heap.size + 1) jump).run P W3 = .ok (.bool jump.isNone) W4 ∧ W4 = W3.putObj (w.heap.size + 1) (L (if jump.isNone then .ready else .done) jump) ∧ W3.heap[w.heap.size + 1]? = some (L .busy none) ∧ Bk W4 (L (if jump.isNone then .ready else .done) jump) := fun jump W3 hk => by
      have l3 := hk.same _ _ (by omega) l2 (ncL _ _)
      have l3' := l3
      rw [hL] at l3
      refine ⟨_, run_endRound (P := P) jump l3, by rw [hL], l3', ?_, ?_⟩
      · rw [hL]; exact World.putObj_heap_same (Array.getElem?_eq_some_iff.1 l3').1
      · exact (World.putObj_heap_other (by omega)).trans (hk.same _ _ (Nat.le_refl _) d2 rfl)
    rintro e a3 W3 hp
    cases e with
    | normal =>
      obtain ⟨hk, hb, hs, hi3⟩ := hp
      obtain ⟨W4, hr, rfl, l3, k4⟩ := fin none W3 hk
      exact ⟨_, _, hr, .inl ⟨rfl, ⟨(hI _).put _ _ _ _ hi3 (by omega) l3 (ncL _ _), k4⟩, (b2.trans hb).trans (box_put _ (by omega)), by rw [putObj_size]; omega⟩⟩
    | ret =>
      obtain ⟨hk, hi3⟩ := hp
      obtain ⟨W4, hr, rfl, l3, k4⟩ := fin (some .ret) W3 hk
      exact ⟨_, _, hr, .inr ⟨rfl, hIx.put _ _ _ _ hi3 (by omega) l3 (ncL _ _), k4⟩⟩
    | exit id => exact hp.elim
    | goto t => exact hp.elim
    | panic ch => exact hp.elim
    | outgrown => exact hp.elim
  · rintro e W2 ⟨⟨v, rfl⟩, (⟨hi, hl, hd⟩ | ⟨hi, hl, hd⟩)⟩
    · have hl' := hl
      rw [hL] at hl
      exact ⟨none, _, run_endLoop (P := P) hl (by simp), hdone _ _ (Nat.le_refl _) ((hI _).put _ _ _ _ hi (by omega) hl' (ncL _ _)) ((World.putObj_heap_other (by omega)).trans hd)⟩
    · have hl' := hl
      rw [hL] at hl
      exact ⟨some .ret, _, run_endLoop (P := P) hl (by simp), hstop _ _ (Nat.le_refl _) (hIx.put _ _ _ _ hi (by omega) hl' (ncL _ _)) ((World.putObj_heap_other (by omega)).trans hd)⟩
theorem bytesOf (R : ByteArray) : R = ⟨R.data.toList.toArray⟩ := by obtain ⟨⟨l⟩⟩ := R; rfl
def boxLen (bx : Nat) (W : World) : Nat := match W.cell? ⟨bx, 0, none⟩ with | some (.string s) => s.size | _ => 0
theorem lines_calls (s : ByteArray) (w : World) : Calls Tryd.prog 11 #[.string s] w fun e w' => e = .returned (.func (.func 19) #[] #[.pointer (some ⟨w.heap.size, 0, none⟩)]) ∧ w' = w.alloc (.cells #[.string s] 9) := by
  go_enter Tryd.func11, Tryd.ntmps11
  go_wp2_with fail
  go_ret
  exact ⟨rfl, rfl⟩
def LnsR (t : List UInt8) (bx : Nat) (J : List (List UInt8) → World → Prop) (wr : World) : Prop :=
  ∃ (pre : List (List UInt8)) (R : ByteArray), Hid (linesL t = pre ++ linesL R.data.toList) ∧ wr.cell? ⟨bx, 0, none⟩ = some (.string R) ∧ wr.frozen? ⟨bx, 0, none⟩ = false ∧ Hid (J pre wr) ∧ bx < wr.heap.size ∧ R.size ≤ 5000000
set_option maxRecDepth 100000 in
set_option maxHeartbeats 4000000 in
theorem lines_iter (n : Nat) (hn : 2 ≤ n) (bx : Nat) (t : List UInt8) (ht : t.length ≤ 5000000) : IterBox Tryd.prog n 19 bx (fun l : List UInt8 => .string ⟨l.toArray⟩) (.string ⟨t.toArray⟩) (linesL t) := by
  intro l B J Jx W hbB hbx hc hf hJ hJx hY h0
  have HY := hid hY
  have H0 := hid h0
  have hn1 : 1 ≤ n := by omega
  clear hY h0
  refine callsIn_of_wp Tryd.func19 rfl trivial ?_ rfl
  simp only [Tryd.ntmps19, List.size_toArray, List.length_cons, List.length_nil, Nat.reduceAdd, Nat.reduceSub, Array.replicate_succ, Array.replicate_zero, List.push_toArray, List.append_toArray, List.nil_append, List.cons_append]
  gi_wp2
  gi_loopw [3] (fun _ wr => LnsR t bx J wr) (fun _ wr => boxLen bx wr)
  case atStart => exact ⟨[], ⟨t.toArray⟩, hid rfl, hc, hf, H0, hbx, by show t.toArray.size ≤ _; simpa using ht⟩
  case round =>
    clear hc hf H0 hbx
    obtain ⟨pre, R, HP, hc, hf, HJ, hbx, hR⟩ := hrel
    by_cases hz : R.size = 0
    · have hnz : ¬ (0 : Int) < (R.size : Int) := by omega
      have hnil : R.data.toList = [] := List.length_eq_zero_iff.1 (by rw [Array.length_toList]; exact hz)
      have HE := hid (show J (linesL t) wr by rw [HP.out, hnil, linesL_nil, List.append_nil]; exact HJ.out)
      gi_wp2
      go_end0
      exact ⟨⟨_, rfl⟩, .inl HE.out⟩
    · have hnz : (0 : Int) < (R.size : Int) := by omega
      have hne : R.data.toList ≠ [] := fun e => hz (by show R.data.size = 0; rw [← Array.length_toList, e]; rfl)
      rcases idx_cases R.data.toList with ⟨hno, hix⟩ | ⟨a, r, hno, hcut, hix⟩
      · have HIB := hid (fun V => show Calls Tryd.prog 20 #[.string R, .int .u8 10] V fun e w' => e = .returned (.int .i64 (-1)) ∧ V = w' from by
          have h := Tryd.strings_IndexByte R 10 V
          rw [show ((10 : Int).toNat.toUInt8) = 10 from rfl, hix] at h; exact h.mono fun e w' h => ⟨h.1, h.2.symm⟩)
        have hpre : pre ++ [R.data.toList] <+: linesL t := by rw [HP.out, linesL_last hno hne]; exact List.prefix_refl _
        obtain ⟨fn, tmps, assign, body, hy, hR2⟩ := HY.out pre R.data.toList (wr.setCell ⟨bx, 0, none⟩ (.string ⟨#[]⟩)) ((hJ pre).cell _ _ HJ.out) hpre
        rw [← bytesOf R] at hy
        have HP2 := hid (show linesL t = (pre ++ [R.data.toList]) ++ linesL (⟨#[]⟩ : ByteArray).data.toList by rw [HP.out, linesL_last hno hne]; simp [linesL_nil])
        clear HIB
        have HIB := hid (fun V => show Calls Tryd.prog 20 #[.string R, .int .u8 10] V fun e w' => e = .returned (.int .i64 (-1)) ∧ V = w' from by
          have h := Tryd.strings_IndexByte R 10 V
          rw [show ((10 : Int).toNat.toUInt8) = 10 from rfl, hix] at h; exact h.mono fun e w' h => ⟨h.1, h.2.symm⟩)
        gi_wp2_with (refine ⟨trivial, ?_⟩; gi_at_call 20; refine (callsIn_wide.2 (HIB.out _)).mono ?_; rintro e w' ⟨rfl, rfl⟩)
        refine hR2.mono ?_
        rintro e W3 (⟨rfl, hJ3, hb3, hs3⟩ | ⟨rfl, hx3⟩)
        · have hc3 : W3.cell? ⟨bx, 0, none⟩ = some (.string ⟨#[]⟩) := hb3.1.trans (World.cell?_setCell_same' _ _ _ (by rw [hc]; rfl))
          have HR := hid (show LnsR t bx J W3 from ⟨_, ⟨#[]⟩, HP2, hc3, hb3.2.trans (by simpa using hf), hid hJ3, by simp at hs3; omega, by decide⟩)
          have hm : boxLen bx W3 < boxLen bx wr := by unfold boxLen; rw [hc3, hc]; show 0 < R.size; omega
          gi_wp2
          go_roundw
          case rel => exact HR.out
          case measure => exact hm
        · gi_wp2
          refine bodyPost_ret (results_none rfl _ _ _) rfl ?_
          exact ⟨⟨_, rfl⟩, .inr hx3⟩
      · have hsz : R.size = a.length + 1 + r.length := by
          show R.data.size = _
          rw [← Array.length_toList, hcut]; simp; omega
        have e1 : R.extract 0 (a.length + 1) = ⟨(a ++ [10]).toArray⟩ := by
          rw [Lib.extract_eq, hcut, List.drop_zero, show a ++ 10 :: r = (a ++ [10]) ++ r by simp, List.take_left' (by simp)]
        have e2 : R.extract (a.length + 1) R.size = ⟨r.toArray⟩ := by
          rw [Lib.extract_eq, hcut, hsz, show a ++ 10 :: r = (a ++ [10]) ++ r by simp, List.drop_left' (by simp), List.take_of_length_le (by omega)]
        have HIB := hid (fun V => show Calls Tryd.prog 20 #[.string R, .int .u8 10] V fun e w' => e = .returned (.int .i64 (a.length : Int)) ∧ V = w' from by
          have h := Tryd.strings_IndexByte R 10 V
          rw [show ((10 : Int).toNat.toUInt8) = 10 from rfl, hix] at h; exact h.mono fun e w' h => ⟨h.1, h.2.symm⟩)
        have hpre : pre ++ [a ++ [10]] <+: linesL t := by rw [HP.out, hcut, linesL_cut hno]; exact ⟨linesL r, by simp⟩
        obtain ⟨r2, hr2⟩ : ∃ r2, r2 = R.extract (a.length + 1) R.size := ⟨_, rfl⟩
        have HR2 := hid (show r2.data.toList = r by rw [hr2, e2])
        rw [← hr2] at e2
        obtain ⟨fn, tmps, assign, body, hy, hR2⟩ := HY.out pre (a ++ [10]) (wr.setCell ⟨bx, 0, none⟩ (.string r2)).drew ((hJ pre).draw _ 1 ((hJ pre).cell _ _ HJ.out)) hpre
        have hr2' := hr2.symm
        have HSZ := hid hsz
        have hs2 : r2.size < R.size := by rw [e2]; show r.toArray.size < _; simp; omega
        have HP2 := hid (show linesL t = (pre ++ [a ++ [10]]) ++ linesL r2.data.toList by rw [HR2.out, HP.out, hcut, linesL_cut hno]; simp)
        have hwr : IntKind.i64.wrap ((a.length : Int) + 1) = (a.length : Int) + 1 := IntWalk.i64_in _ (by omega)
        have hlz : (a.length : Int) + 1 ≤ (R.size : Int) := by omega
        have hc1 : ((wr.setCell ⟨bx, 0, none⟩ (.string r2)).drew).cell? ⟨bx, 0, none⟩ = some (.string r2) := World.cell?_setCell_same' _ _ _ (by rw [hc]; rfl)
        have hfr1 : ((wr.setCell ⟨bx, 0, none⟩ (.string r2)).drew).frozen? ⟨bx, 0, none⟩ = false := by
          show (wr.setCell ⟨bx, 0, none⟩ (.string r2)).frozen? ⟨bx, 0, none⟩ = false
          simpa using hf
        have hsz1 : (wr.setCell ⟨bx, 0, none⟩ (.string r2)).drew.heap.size = wr.heap.size := by
          show (wr.setCell ⟨bx, 0, none⟩ (.string r2)).heap.size = _
          simp
        have HRR := hid (fun (W3 : World) (h1 : J (pre ++ [a ++ [10]]) W3) (h2 : SameBox bx (wr.setCell ⟨bx, 0, none⟩ (.string r2)).drew W3) (h3 : (wr.setCell ⟨bx, 0, none⟩ (.string r2)).drew.heap.size ≤ W3.heap.size) =>
          (show LnsR t bx J W3 from ⟨_, r2, HP2, h2.1.trans hc1, h2.2.trans hfr1, hid h1, by omega, by omega⟩))
        have HMM := hid (fun (W3 : World) (h2 : SameBox bx (wr.setCell ⟨bx, 0, none⟩ (.string r2)).drew W3) => (show boxLen bx W3 < boxLen bx wr by unfold boxLen; rw [h2.1.trans hc1, hc]; exact hs2))
        clear hsz e2 hr2 HP hc1 hfr1 hsz1
        gi_wp2_with (refine ⟨trivial, ?_⟩; gi_at_call 20; refine (callsIn_wide.2 (HIB.out _)).mono ?_; rintro e w' ⟨rfl, rfl⟩)
        have hmx : Tryd.prog.follows .mixedOrders = true := by kernel_rfl
        gi_region_with_o (fail)
        all_goals gi_wp2
        all_goals refine hR2.mono ?_
        all_goals rintro e W3 (⟨rfl, hJ3, hb3, hs3⟩ | ⟨rfl, hx3⟩)
        all_goals first
          | (gi_wp2
             go_roundw
             case rel => exact HRR.out _ hJ3 hb3 hs3
             case measure => exact HMM.out _ hb3)
          | (gi_wp2
             refine bodyPost_ret (results_none rfl _ _ _) rfl ?_
             exact ⟨⟨_, rfl⟩, .inr hx3⟩)
end Go.Proofs.YtfdaheenigmkmaaDoor
