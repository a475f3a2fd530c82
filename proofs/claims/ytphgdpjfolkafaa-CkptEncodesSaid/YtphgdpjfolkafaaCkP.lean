/- What a worker saves: in memory; what its bytes are. -/
import Derived.Test.YtphgdpjfolkafaaEqM
import Derived.Test.YtphgdpjfolkafaaMSort
import Derived.Test.YtphgdpjfolkafaaWrap
namespace Go.Proofs.Ytphgdpjfolkafaa
open Go.ChangeShapes Go.WideShapes Go.ChangeAt Go.RowKit
set_option linter.unusedVariables false
set_option linter.unusedSimpArgs false
structure Saved where
  step : Int
  phase : Int
  fresh : Bool
  vals : List Val
  mail : List Mail
def svC (s : Saved) (A : Option Addr) (c : Nat) (B : Option Addr) (d : Nat) : Array Value := #[.int .i64 s.step, .int .i64 s.phase, .bool s.fresh, .slice A s.vals.length c, .slice B s.mail.length d]
section
variable {H : Type} {enc : TypeId × Value → H} {W : World}
def SavedArg (W : World) (cs : List Value) (s : Saved) : Prop :=
  ∃ A c B d, cs = [.int .i64 s.step, .int .i64 s.phase, .bool s.fresh, .slice A s.vals.length c, .slice B s.mail.length d] ∧ I64 s.step ∧ I64 s.phase ∧ Flat W W.heap.size 16 2 Val.cells A c s.vals ∧ (∀ x ∈ s.vals, x.wf) ∧ Flat W W.heap.size 16 2 Mail.cells B d s.mail ∧ ∀ x ∈ s.mail, x.wf
theorem opn_Saved : Opn enc Try.prog W 36 (SavedArg W) :=
  (opn_struct Try.underlying36 (by kernel_rfl) (opnF_cons (n := 1) rfl (by kernel_rfl) opn_i64 (opnF_cons (n := 1) rfl (by kernel_rfl) opn_i64 (opnF_cons (n := 1) rfl (by kernel_rfl) (opn_bool Try.underlying4) (opnF_cons (n := 1) rfl (by kernel_rfl) opn_vals (opnF_cons (n := 1) rfl (by kernel_rfl) opn_mails opnF_nil)))))).mono (fun cs x h => by
    obtain ⟨a, b, e, f, g, _⟩ := x
    obtain ⟨⟨h0, z0⟩, ⟨h1, z1⟩, h3, ⟨A, c, h4, w4, w5⟩, ⟨A', c', h5, w6, w7⟩, hn⟩ := h
    exact ⟨⟨a, b, e, f, g⟩, A, c, A', c', glue h0 (glue h1 (glue h3 (glue h4 (glue h5 hn)))), z0, z1, w4, w5, w6, w7⟩)
end
def svVal (x : Val) : Prop := (-1 ≤ x.a ∧ x.a ≤ 4398046511104) ∧ -1 ≤ x.label ∧ x.label ≤ 199
def mlOk (m : Mail) : Prop := (0 ≤ m.to ∧ m.to ≤ 199) ∧ 0 ≤ m.val ∧ m.val ≤ 4398046511104
def svFits (s : Saved) : Prop := (0 ≤ s.step ∧ s.step ≤ 100000) ∧ (s.phase = 0 ∨ s.phase = 1) ∧ s.vals.length ≤ 200 ∧ s.mail.length ≤ 5000
def svOk (s : Saved) : Prop := svFits s ∧ (∀ x ∈ s.vals, svVal x) ∧ (∀ m ∈ s.mail, mlOk m) ∧ ordB s.mail = true
section
open Classical
noncomputable def svB (s : Saved) : Bool := decide (svOk s)
end
theorem svB_yes {s : Saved} (h : svOk s) : svB s = true := by unfold svB; exact @decide_eq_true _ (_) h
theorem svB_no {s : Saved} (h : ¬ svOk s) : svB s = false := by unfold svB; exact @decide_eq_false _ (_) h
theorem svB_ok {s : Saved} (h : svB s = true) : svOk s := by unfold svB at h; exact @of_decide_eq_true _ (_) h
theorem svB_eq {s : Saved} (h1 : svFits s) (h2 : ∀ x ∈ s.vals, svVal x) (h3 : ∀ m ∈ s.mail, mlOk m) : svB s = ordB s.mail := by
  cases h : ordB s.mail with
  | true => exact svB_yes ⟨h1, h2, h3, h⟩
  | false => exact svB_no fun hc => by rw [hc.2.2.2] at h; cases h
theorem ordB_of_srt {l : List Mail} (h : Srt mlt l) : ordB l = true := by
  refine ordB_yes fun i x y hx hy => ?_
  obtain ⟨h1, e1⟩ := List.getElem?_eq_some_iff.1 hx
  obtain ⟨h2, e2⟩ := List.getElem?_eq_some_iff.1 hy
  have := List.pairwise_iff_getElem.1 h i (i + 1) h1 h2 (Nat.lt_succ_self i)
  rw [e1, e2] at this
  exact this
theorem ord_srt {l : List Mail} (h : ¬ 5000 < l.length) : eqL (sortV l).1 l = ordB l := by
  rw [sortV_ok h]
  show eqL (srtOf mlt l) l = ordB l
  cases ho : ordB l with
  | true => exact eqL_yes (srtOf_eq mlt_strict (List.Perm.refl _) (ordB_srt ho))
  | false =>
    refine eqL_no fun e => ?_
    have hs := srtOf_srt mlt_strict l
    rw [e] at hs
    rw [ordB_of_srt hs] at ho
    cases ho
/-- The numbers of what is saved. -/
def numsV (vs : List Val) : List Int := vs.flatMap fun x => [x.a + 1, x.label + 1]
def numsM (ms : List Mail) : List Int := ms.flatMap fun m => [m.to, m.val]
def b01 (b : Bool) : Int := if b then 1 else 0
def nums (s : Saved) : List Int := [s.step, s.phase, b01 s.fresh, s.vals.length] ++ numsV s.vals ++ [(s.mail.length : Int)] ++ numsM s.mail
def packs (l : List Int) : List Int := l.flatMap pack
noncomputable def encV (s : Saved) : List Int × Int := if svB s = true then wrapV (packs (nums s)) else ([], 9)
theorem encV_bad {s : Saved} (h : svB s = false) : encV s = ([], 9) := by unfold encV; rw [h]; rfl
theorem encV_ok {s : Saved} (h : svB s = true) : encV s = wrapV (packs (nums s)) := by unfold encV; rw [if_pos h]
theorem packs_append (a b : List Int) : packs (a ++ b) = packs a ++ packs b := by unfold packs; rw [List.flatMap_append]
theorem packs_one (n : Int) : packs [n] = pack n := by simp [packs]
theorem numsV_snoc (l : List Val) (x : Val) : numsV (l ++ [x]) = numsV l ++ [x.a + 1, x.label + 1] := by simp [numsV]
theorem numsM_snoc (l : List Mail) (x : Mail) : numsM (l ++ [x]) = numsM l ++ [x.to, x.val] := by simp [numsM]
theorem numsV_len (l : List Val) : (numsV l).length = 2 * l.length := by induction l with | nil => rfl | cons a l ih => unfold numsV at *; rw [List.flatMap_cons, List.length_append, ih, List.length_cons]; simp; omega
theorem numsM_len (l : List Mail) : (numsM l).length = 2 * l.length := by induction l with | nil => rfl | cons a l ih => unfold numsM at *; rw [List.flatMap_cons, List.length_append, ih, List.length_cons]; simp; omega
theorem packs_len (l : List Int) : (packs l).length ≤ 10 * l.length := by
  induction l with
  | nil => simp [packs]
  | cons a l ih => unfold packs at *; rw [List.flatMap_cons, List.length_append, List.length_cons]; have := (pack_len a).1; omega
def u64s (l : List Int) : Prop := ∀ n ∈ l, 0 ≤ n ∧ n ≤ 9223372036854775807
theorem packs_byte {l : List Int} (h : u64s l) : ∀ x ∈ packs l, 0 ≤ x ∧ x ≤ 255 := fun x hx => by
  obtain ⟨n, hn, hx⟩ := List.mem_flatMap.1 hx
  have := h n hn
  exact pack_byte n this.1 (by omega) x hx
theorem nums_ok {s : Saved} (h : svOk s) : u64s (nums s) := by
  obtain ⟨⟨h1, h2, h3, h4⟩, h5, h6, _⟩ := h
  intro n hn
  unfold nums at hn
  simp only [List.mem_append, List.mem_cons, List.not_mem_nil, or_false] at hn
  rcases hn with ((((rfl | rfl | rfl | rfl) | hn) | rfl) | hn)
  · omega
  · omega
  · unfold b01; split <;> omega
  · omega
  · obtain ⟨x, hx, hn⟩ := List.mem_flatMap.1 hn
    have := h5 x hx
    unfold svVal at this
    simp only [List.mem_cons, List.not_mem_nil, or_false] at hn
    rcases hn with rfl | rfl <;> omega
  · omega
  · obtain ⟨x, hx, hn⟩ := List.mem_flatMap.1 hn
    have := h6 x hx
    unfold mlOk at this
    simp only [List.mem_cons, List.not_mem_nil, or_false] at hn
    rcases hn with rfl | rfl <;> omega
theorem nums_len (s : Saved) : (nums s).length = 5 + 2 * s.vals.length + 2 * s.mail.length := by
  unfold nums; simp only [List.length_append, numsV_len, numsM_len, List.length_cons, List.length_nil]; omega
theorem wrapV_len (l : List Int) : (wrapV l).1.length ≤ l.length + 14 := by
  unfold wrapV; split
  · simp
  · have := (pack_len l.length).1
    have hq : (quad (sumV (pack l.length ++ l))).length = 4 := rfl
    show (wrapB l).length ≤ _
    unfold wrapB
    rw [List.length_append, List.length_append, hq]
    omega
theorem encV_len (s : Saved) : (encV s).1.length ≤ 200000 := by
  cases h : svB s with
  | false => rw [encV_bad h]; simp
  | true =>
    rw [encV_ok h]
    have h1 := wrapV_len (packs (nums s))
    have h2 := packs_len (nums s)
    have h3 := nums_len s
    obtain ⟨⟨_, _, h4, h5⟩, _⟩ := svB_ok h
    have h6 : (encV s).1 = (wrapV (packs (nums s))).1 := by rw [encV_ok h]
    omega
end Go.Proofs.Ytphgdpjfolkafaa
