/- EqM, CkP, CkM, CkN, CkE, CkW, CkB, CkS: joined. -/
import Derived.Test.YtifpngjipkmdcaaMem
import Derived.Test.YtifpngjipkmdcaaMSort
import Derived.Test.YtifpngjipkmdcaaWrap
import Derived.Test.YtifpngjipkmdcaaOrds
import Derived.Test.YtifpngjipkmdcaaRegF
import Derived.Test.YtifpngjipkmdcaaWrapR
/- slices.Equal at mail. -/
namespace Go.Proofs.Ytifpngjipkmdcaa
open Go.ChangeShapes Go.WideShapes Go.ChangeAt Go.RowKit
set_option linter.unusedVariables false
set_option linter.unusedSimpArgs false
section
open Classical
noncomputable def eqL (l m : List Mail) : Bool := decide (l = m)
end
theorem eqL_yes {l m : List Mail} (h : l = m) : eqL l m = true := by unfold eqL; exact @decide_eq_true _ (_) h
theorem eqL_no {l m : List Mail} (h : l ≠ m) : eqL l m = false := by unfold eqL; exact @decide_eq_false _ (_) h
theorem mail_cells {w : World} {B n k : Nat} {A : Option Addr} {l : List Mail} {x : Mail} (h : Rd w B A 2 n (l.flatMap Mail.cells)) (hl : l.length = n) (hk : l[k]? = some x) :
    ∃ b off, A = some ⟨b, off, none⟩ ∧ b < B ∧ w.cell? ⟨b, off + k * 2, none⟩ = some (.int .i64 x.to) ∧ w.cell? ⟨b, off + k * 2 + 1, none⟩ = some (.int .i64 x.val) := by
  have hk' := (List.getElem?_eq_some_iff.1 hk).1
  obtain ⟨b, off, rfl, hb, hc⟩ := h.2 (by omega)
  obtain ⟨_, hg⟩ := flatMap_get (cells := Mail.cells) (sz := 2) (l := l) (fun _ _ => rfl)
  refine ⟨b, off, rfl, hb, ?_, ?_⟩
  · exact hc _ _ (hg k x 0 _ hk rfl)
  · rw [Nat.add_assoc]; exact hc _ _ (hg k x 1 _ hk rfl)
set_option maxHeartbeats 1000000 in
theorem eqM_walk (l m : List Mail) (w : World) (A A' : Option Addr) (n n' c c' : Nat) (h1 : Rd w w.heap.size A 2 n (l.flatMap Mail.cells)) (h2 : Rd w w.heap.size A' 2 n' (m.flatMap Mail.cells)) (hl : l.length = n) (hm : m.length = n') (hn : n ≤ 140737488355328) (hn' : n' ≤ 140737488355328) :
    Calls Try.prog 108 #[.slice A n c, .slice A' n' c'] w fun e w' => e = .returned (.bool (eqL l m)) ∧ Below w.heap.size w w' := by
  generalize hF : eqL l m = F
  have HF := hid hF
  have HL := hid hl
  have HM := hid hm
  clear hF hl hm
  by_cases he : n = n'
  · obtain rfl : n = n' := he
    have hez : ((n : Int) != (n : Int)) = false := by simp
    go_enter Try.func108, Try.ntmps108
    go_wp2_with fail
    go_loopw [13] (fun i wr => ∃ k : Nat, k ≤ n ∧ i = .int .i64 k ∧ Below w.heap.size w wr ∧ Hid (l.take k = m.take k)) (fun i _ => n - (intOf i).toNat)
    case atStart => exact ⟨0, by omega, rfl, Below.refl _ _, hid (by simp)⟩
    case round =>
      obtain ⟨k, hk, rfl, hbel, HT⟩ := hrel
      by_cases hlt : k < n
      · obtain ⟨x, hx⟩ : ∃ x, l[k]? = some x := ⟨_, List.getElem?_eq_getElem (by rw [HL.out]; exact hlt)⟩
        obtain ⟨y, hy⟩ : ∃ y, m[k]? = some y := ⟨_, List.getElem?_eq_getElem (by rw [HM.out]; exact hlt)⟩
        obtain ⟨b, off, rfl, hb, c0, c1⟩ := mail_cells (h1.below hbel) HL.out hx
        obtain ⟨b', off', rfl, hb', d0, d1⟩ := mail_cells (h2.below hbel) HM.out hy
        have hkz : (k : Int) < (n : Int) := by omega
        have HX := hid hx
        have HY := hid hy
        clear hx hy
        obtain ⟨xt, xv⟩ := x
        obtain ⟨yt, yv⟩ := y
        simp only at c0 c1 d0 d1
        by_cases ht : xt = yt
        · subst ht
          by_cases hv : xv = yv
          · subst hv
            go_wp2_with fail
            go_quiet (fail)
            go_wp2_with fail
            go_roundw
            case rel => exact ⟨k + 1, by omega, by go_num, below_drewN hbel _, hid (by rw [take_nextV HX.out, take_nextV HY.out, HT.out])⟩
            case measure => simp [intOf]; omega
          · have HV : Hid (F = false) := hid (by rw [← HF.out]; exact eqL_no fun e => by have := HX.out; rw [e, HY.out] at this; injection this with this; injection this with _ h; exact hv h.symm)
            have hvb : (xv == yv) = false := by simpa using hv
            clear hv
            go_wp2_with fail
            go_quiet (fail)
            go_wp2_with fail
            go_ret
            exact ⟨by rw [HV.out]; rfl, below_drewN hbel _⟩
        · have HV : Hid (F = false) := hid (by rw [← HF.out]; exact eqL_no fun e => by have := HX.out; rw [e, HY.out] at this; injection this with this; injection this with h _; exact ht h.symm)
          have htb : (xt == yt) = false := by simpa using ht
          clear ht
          go_wp2_with fail
          go_quiet (fail)
          go_wp2_with fail
          go_ret
          exact ⟨by rw [HV.out]; rfl, below_drewN hbel _⟩
      · obtain rfl : k = n := by omega
        have hkz : ¬ ((k : Int) < (k : Int)) := by omega
        have HV : Hid (F = true) := hid (by rw [← HF.out]; refine eqL_yes ?_; have := HT.out; rwa [List.take_of_length_le (by rw [HL.out]; exact Nat.le_refl _), List.take_of_length_le (by rw [HM.out]; exact Nat.le_refl _)] at this)
        go_wp2_with fail
        go_ret
        exact ⟨by rw [HV.out]; rfl, hbel⟩
  · have hez : ((n : Int) != (n' : Int)) = true := by simp; omega
    have hez2 : (n == n') = false := by simpa using he
    have HV : Hid (F = false) := hid (by rw [← HF.out]; exact eqL_no fun e => he (by rw [← HL.out, ← HM.out, e]))
    clear he
    go_enter Try.func108, Try.ntmps108
    go_wp2_with fail
    go_ret
    exact ⟨by rw [HV.out]; rfl, Below.refl _ _⟩
end Go.Proofs.Ytifpngjipkmdcaa

/- What a worker saves: in memory; what its bytes are. -/
namespace Go.Proofs.Ytifpngjipkmdcaa
open Go.ChangeShapes Go.WideShapes Go.ChangeAt Go.RowKit
set_option linter.unusedVariables false
set_option linter.unusedSimpArgs false
structure Saved where
  step : Int
  phase : Int
  fresh : Bool
  vals : List Val
  mail : List Mail
def svC (s : Saved) (A : Option Addr) (c : Nat) (B : Option Addr) (d : Nat) : Array Value := #[.int .i64 s.step, .int .i64 s.phase, .bool s.fresh, .slice A s.vals.length c, .slice B s.mail.length d]
section
variable {H : Type} {enc : TypeId × Value → H} {W : World}
def SavedArg (W : World) (cs : List Value) (s : Saved) : Prop :=
  ∃ A c B d, cs = [.int .i64 s.step, .int .i64 s.phase, .bool s.fresh, .slice A s.vals.length c, .slice B s.mail.length d] ∧ I64 s.step ∧ I64 s.phase ∧ Flat W W.heap.size 16 2 Val.cells A c s.vals ∧ (∀ x ∈ s.vals, x.wf) ∧ Flat W W.heap.size 16 2 Mail.cells B d s.mail ∧ ∀ x ∈ s.mail, x.wf
end
def svVal (x : Val) : Prop := (-1 ≤ x.a ∧ x.a ≤ 4398046511104) ∧ -1 ≤ x.label ∧ x.label ≤ 199
def mlOk (m : Mail) : Prop := (0 ≤ m.to ∧ m.to ≤ 199) ∧ 0 ≤ m.val ∧ m.val ≤ 4398046511104
def svFits (s : Saved) : Prop := (0 ≤ s.step ∧ s.step ≤ 100000) ∧ (s.phase = 0 ∨ s.phase = 1) ∧ s.vals.length ≤ 200 ∧ s.mail.length ≤ 5000
def svOk (s : Saved) : Prop := svFits s ∧ (∀ x ∈ s.vals, svVal x) ∧ (∀ m ∈ s.mail, mlOk m) ∧ ordB s.mail = true
section
open Classical
noncomputable def svB (s : Saved) : Bool := decide (svOk s)
end
theorem svB_yes {s : Saved} (h : svOk s) : svB s = true := by unfold svB; exact @decide_eq_true _ (_) h
theorem svB_no {s : Saved} (h : ¬ svOk s) : svB s = false := by unfold svB; exact @decide_eq_false _ (_) h
theorem svB_ok {s : Saved} (h : svB s = true) : svOk s := by unfold svB at h; exact @of_decide_eq_true _ (_) h
theorem svB_eq {s : Saved} (h1 : svFits s) (h2 : ∀ x ∈ s.vals, svVal x) (h3 : ∀ m ∈ s.mail, mlOk m) : svB s = ordB s.mail := by
  cases h : ordB s.mail with
  | true => exact svB_yes ⟨h1, h2, h3, h⟩
  | false => exact svB_no fun hc => by rw [hc.2.2.2] at h; cases h
theorem ordB_of_srt {l : List Mail} (h : Srt mlt l) : ordB l = true := by
  refine ordB_yes fun i x y hx hy => ?_
  obtain ⟨h1, e1⟩ := List.getElem?_eq_some_iff.1 hx
  obtain ⟨h2, e2⟩ := List.getElem?_eq_some_iff.1 hy
  have := List.pairwise_iff_getElem.1 h i (i + 1) h1 h2 (Nat.lt_succ_self i)
  rw [e1, e2] at this
  exact this
theorem ord_srt {l : List Mail} (h : ¬ 5000 < l.length) : eqL (sortV l).1 l = ordB l := by
  rw [sortV_ok h]
  show eqL (srtOf mlt l) l = ordB l
  cases ho : ordB l with
  | true => exact eqL_yes (srtOf_eq mlt_strict (List.Perm.refl _) (ordB_srt ho))
  | false =>
    refine eqL_no fun e => ?_
    have hs := srtOf_srt mlt_strict l
    rw [e] at hs
    rw [ordB_of_srt hs] at ho
    cases ho
/-- The numbers of what is saved. -/
def numsV (vs : List Val) : List Int := vs.flatMap fun x => [x.a + 1, x.label + 1]
def numsM (ms : List Mail) : List Int := ms.flatMap fun m => [m.to, m.val]
def b01 (b : Bool) : Int := if b then 1 else 0
def nums (s : Saved) : List Int := [s.step, s.phase, b01 s.fresh, s.vals.length] ++ numsV s.vals ++ [(s.mail.length : Int)] ++ numsM s.mail
def packs (l : List Int) : List Int := l.flatMap pack
noncomputable def encV (s : Saved) : List Int × Int := if svB s = true then wrapV (packs (nums s)) else ([], 9)
theorem encV_bad {s : Saved} (h : svB s = false) : encV s = ([], 9) := by unfold encV; rw [h]; rfl
theorem encV_ok {s : Saved} (h : svB s = true) : encV s = wrapV (packs (nums s)) := by unfold encV; rw [if_pos h]
theorem packs_append (a b : List Int) : packs (a ++ b) = packs a ++ packs b := by unfold packs; rw [List.flatMap_append]
theorem packs_one (n : Int) : packs [n] = pack n := by simp [packs]
theorem numsV_snoc (l : List Val) (x : Val) : numsV (l ++ [x]) = numsV l ++ [x.a + 1, x.label + 1] := by simp [numsV]
theorem numsM_snoc (l : List Mail) (x : Mail) : numsM (l ++ [x]) = numsM l ++ [x.to, x.val] := by simp [numsM]
theorem numsV_len (l : List Val) : (numsV l).length = 2 * l.length := by induction l with | nil => rfl | cons a l ih => unfold numsV at *; rw [List.flatMap_cons, List.length_append, ih, List.length_cons]; simp; omega
theorem numsM_len (l : List Mail) : (numsM l).length = 2 * l.length := by induction l with | nil => rfl | cons a l ih => unfold numsM at *; rw [List.flatMap_cons, List.length_append, ih, List.length_cons]; simp; omega
theorem packs_len (l : List Int) : (packs l).length ≤ 10 * l.length := by
  induction l with
  | nil => simp [packs]
  | cons a l ih => unfold packs at *; rw [List.flatMap_cons, List.length_append, List.length_cons]; have := (pack_len a).1; omega
def u64s (l : List Int) : Prop := ∀ n ∈ l, 0 ≤ n ∧ n ≤ 9223372036854775807
theorem packs_byte {l : List Int} (h : u64s l) : ∀ x ∈ packs l, 0 ≤ x ∧ x ≤ 255 := fun x hx => by
  obtain ⟨n, hn, hx⟩ := List.mem_flatMap.1 hx
  have := h n hn
  exact pack_byte n this.1 (by omega) x hx
theorem nums_ok {s : Saved} (h : svOk s) : u64s (nums s) := by
  obtain ⟨⟨h1, h2, h3, h4⟩, h5, h6, _⟩ := h
  intro n hn
  unfold nums at hn
  simp only [List.mem_append, List.mem_cons, List.not_mem_nil, or_false] at hn
  rcases hn with ((((rfl | rfl | rfl | rfl) | hn) | rfl) | hn)
  · omega
  · omega
  · unfold b01; split <;> omega
  · omega
  · obtain ⟨x, hx, hn⟩ := List.mem_flatMap.1 hn
    have := h5 x hx
    unfold svVal at this
    simp only [List.mem_cons, List.not_mem_nil, or_false] at hn
    rcases hn with rfl | rfl <;> omega
  · omega
  · obtain ⟨x, hx, hn⟩ := List.mem_flatMap.1 hn
    have := h6 x hx
    unfold mlOk at this
    simp only [List.mem_cons, List.not_mem_nil, or_false] at hn
    rcases hn with rfl | rfl <;> omega
theorem nums_len (s : Saved) : (nums s).length = 5 + 2 * s.vals.length + 2 * s.mail.length := by
  unfold nums; simp only [List.length_append, numsV_len, numsM_len, List.length_cons, List.length_nil]; omega
theorem ckWrap_len (l : List Int) : (wrapV l).1.length ≤ l.length + 14 := by
  unfold wrapV; split
  · simp
  · have := (pack_len l.length).1
    have hq : (quad (sumV (pack l.length ++ l))).length = 4 := rfl
    show (wrapB l).length ≤ _
    unfold wrapB
    rw [List.length_append, List.length_append, hq]
    omega
theorem encV_len (s : Saved) : (encV s).1.length ≤ 200000 := by
  cases h : svB s with
  | false => rw [encV_bad h]; simp
  | true =>
    rw [encV_ok h]
    have h1 := ckWrap_len (packs (nums s))
    have h2 := packs_len (nums s)
    have h3 := nums_len s
    obtain ⟨⟨_, _, h4, h5⟩, _⟩ := svB_ok h
    have h6 : (encV s).1 = (wrapV (packs (nums s))).1 := by rw [encV_ok h]
    omega
end Go.Proofs.Ytifpngjipkmdcaa

/- May something be saved? -/
namespace Go.Proofs.Ytifpngjipkmdcaa
open Go.ChangeShapes Go.WideShapes Go.ChangeAt Go.RowKit
set_option linter.unusedVariables false
set_option linter.unusedSimpArgs false
theorem vals_cells {w : World} {B n k : Nat} {A : Option Addr} {l : List Val} {x : Val} (h : Rd w B A 2 n (l.flatMap Val.cells)) (hl : l.length = n) (hk : l[k]? = some x) :
    ∃ b off, A = some ⟨b, off, none⟩ ∧ b < B ∧ w.cell? ⟨b, off + k * 2, none⟩ = some (.int .i64 x.a) ∧ w.cell? ⟨b, off + k * 2 + 1, none⟩ = some (.int .i64 x.label) := by
  have hk' := (List.getElem?_eq_some_iff.1 hk).1
  obtain ⟨b, off, rfl, hb, hc⟩ := h.2 (by omega)
  obtain ⟨_, hg⟩ := flatMap_get (cells := Val.cells) (sz := 2) (l := l) (fun _ _ => rfl)
  refine ⟨b, off, rfl, hb, ?_, ?_⟩
  · exact hc _ _ (hg k x 0 _ hk rfl)
  · rw [Nat.add_assoc]; exact hc _ _ (hg k x 1 _ hk rfl)
def valB1 (x : Val) : Bool := inB x.a (-1) 4398046511104 && inB x.label (-1) 199
theorem valB1_yes {x : Val} (h : svVal x) : valB1 x = true := by
  obtain ⟨h1, h2, h3⟩ := h
  unfold valB1; rw [inB_yes h1, inB_yes ⟨h2, h3⟩]; rfl
theorem valB1_no {x : Val} (h : ¬ svVal x) : valB1 x = false := by
  unfold valB1
  by_cases h1 : -1 ≤ x.a ∧ x.a ≤ 4398046511104
  · rw [inB_no (n := x.label) (fun h2 => h ⟨h1, h2⟩)]; simp
  · rw [inB_no h1]; rfl
def mlB (m : Mail) : Bool := inB m.to 0 199 && inB m.val 0 4398046511104
theorem mlB_yes {m : Mail} (h : mlOk m) : mlB m = true := by
  obtain ⟨h1, h2, h3⟩ := h
  unfold mlB; rw [inB_yes h1, inB_yes ⟨h2, h3⟩]; rfl
theorem mlB_no {m : Mail} (h : ¬ mlOk m) : mlB m = false := by
  unfold mlB
  by_cases h1 : 0 ≤ m.to ∧ m.to ≤ 199
  · rw [inB_no (n := m.val) (fun h2 => h ⟨h1, h2⟩)]; simp
  · rw [inB_no h1]; rfl
theorem svB_val {s : Saved} {k : Nat} {x : Val} (h : s.vals[k]? = some x) (hx : ¬ svVal x) : svB s = false := svB_no fun hc => hx (hc.2.1 x (List.mem_of_getElem? h))
theorem svB_mail {s : Saved} {k : Nat} {x : Mail} (h : s.mail[k]? = some x) (hx : ¬ mlOk x) : svB s = false := svB_no fun hc => hx (hc.2.2.1 x (List.mem_of_getElem? h))
theorem all_of_get {α : Type} {p : α → Prop} {l : List α} {n : Nat} (hn : l.length ≤ n) (h : ∀ (i : Nat) x, i < n → l[i]? = some x → p x) : ∀ x ∈ l, p x := fun x hx => by
  obtain ⟨i, hi, e⟩ := List.mem_iff_getElem.1 hx
  exact h i x (by omega) (by rw [List.getElem?_eq_getElem hi, e])
theorem get_more {α : Type} {p : α → Prop} {l : List α} {k : Nat} {y : α} (h : ∀ (i : Nat) x, i < k → l[i]? = some x → p x) (hy : l[k]? = some y) (py : p y) : ∀ (i : Nat) x, i < k + 1 → l[i]? = some x → p x := fun i x hi hx => by
  rcases Nat.lt_or_eq_of_le (Nat.le_of_lt_succ hi) with hi | rfl
  · exact h i x hi hx
  · rw [hy] at hx; injection hx with hx; subst hx; exact py
def VRel (W : World) (l : List Val) (i : Value) (wr : World) : Prop := ∃ k : Nat, k ≤ l.length ∧ i = .int .i64 k ∧ Hid (∀ (j : Nat) x, j < k → l[j]? = some x → svVal x) ∧ Below W.heap.size W wr
def MRel (W : World) (l : List Mail) (i : Value) (wr : World) : Prop := ∃ k : Nat, k ≤ l.length ∧ i = .int .i64 k ∧ Hid (∀ (j : Nat) x, j < k → l[j]? = some x → mlOk x) ∧ Below W.heap.size W wr
end Go.Proofs.Ytifpngjipkmdcaa

/- The document's SavedMay. -/
namespace Go.Proofs.Ytifpngjipkmdcaa
open Go.ChangeShapes Go.WideShapes Go.ChangeAt Go.RowKit
set_option linter.unusedVariables false
set_option linter.unusedSimpArgs false
set_option maxHeartbeats 2000000 in
theorem mailMay_walk (x : Mail) (w : World) : Calls Try.prog 75 #[.agg #[.int .i64 x.to, .int .i64 x.val]] w fun e w' => e = .returned (.bool (mlB x)) ∧ Below w.heap.size w w' := by
  have HI := hid (fun n lo hi => In_walk n lo hi)
  generalize hF : mlB x = F
  have HF := hid hF
  clear hF
  cases h1 : inB x.to 0 199 with
  | false =>
    have HV : Hid (F = false) := hid (by rw [← HF.out]; unfold mlB; rw [h1]; rfl)
    go_enter Try.func75, Try.ntmps75
    go_wp2_with (go_at_call 40; refine (HI.out _ _ _ _).mono ?_; rintro e w2 ⟨rfl, rfl⟩)
    go_ret
    exact ⟨by rw [HV.out]; rfl, bA (Below.refl _ _) _⟩
  | true =>
    have HV : Hid (F = inB x.val 0 4398046511104) := hid (by rw [← HF.out]; unfold mlB; rw [h1]; rfl)
    go_enter Try.func75, Try.ntmps75
    go_wp2_with (go_at_call 40; refine (HI.out _ _ _ _).mono ?_; rintro e w2 ⟨rfl, rfl⟩)
    go_ret
    exact ⟨by rw [HV.out]; rfl, bA (Below.refl _ _) _⟩
end Go.Proofs.Ytifpngjipkmdcaa

/- ckpt.Encode: its closure, which puts numbers. -/
namespace Go.Proofs.Ytifpngjipkmdcaa
open Go.ChangeShapes Go.WideShapes Go.ChangeAt Go.RowKit
set_option linter.unusedVariables false
set_option linter.unusedSimpArgs false
/-- The bytes of the numbers put so far, in a row of the call's own to which a cell leads. -/
def InkN (q : Nat) (ns : List Int) (w : World) : Prop := ∃ A c, w.cell? ⟨q, 0, none⟩ = some (.slice A (packs ns).length c) ∧ w.ownsRow (q + 1) 5 1 (.slice A (packs ns).length c) (packs ns).length ((packs ns).flatMap u8c) ∧ q < w.heap.size ∧ w.frozen? ⟨q, 0, none⟩ = false
def PutN (q g : Nat) (ns ms : List Int) (w : World) (i : Value) (wr : World) : Prop :=
  ∃ k A c, k ≤ ms.length ∧ i = .int .i64 (k : Nat) ∧ wr.cell? ⟨q, 0, none⟩ = some (.slice A (packs (ns ++ ms.take k)).length c) ∧ Hid (wr.ownsRow (q + 1) 5 1 (.slice A (packs (ns ++ ms.take k)).length c) (packs (ns ++ ms.take k)).length ((packs (ns ++ ms.take k)).flatMap u8c)) ∧ q < wr.heap.size ∧ wr.frozen? ⟨q, 0, none⟩ = false ∧ Hid (wr.ownsRow (q + 1) 3 1 (.slice (some ⟨g, 0, none⟩) ms.length ms.length) ms.length (ms.flatMap i64c)) ∧ Hid (∀ y, (Value.slice A (packs (ns ++ ms.take k)).length c).ownBlock = some y → y ≠ g) ∧ Hid (Below q w wr)
end Go.Proofs.Ytifpngjipkmdcaa

/- ckpt.Encode. -/
namespace Go.Proofs.Ytifpngjipkmdcaa
open Go.ChangeShapes Go.WideShapes Go.ChangeAt Go.RowKit
set_option linter.unusedVariables false
set_option linter.unusedSimpArgs false
theorem retL_nilB (w w' : World) (err : Int) (b : Below w.heap.size w w') : RetL 5 1 w 0 [] err (.returned (.tuple #[.slice none 0 0, .int .i64 err])) w' := ⟨none, 0, rfl, World.ownsRow_nil _ _ _ _, b⟩
theorem nums_of (s : Saved) : nums s = [s.step, s.phase, b01 s.fresh, (s.vals.length : Int)] ++ numsV s.vals ++ [(s.mail.length : Int)] ++ numsM s.mail := rfl
theorem InkN.below {q : Nat} {ns : List Int} {w w' : World} (h : InkN q ns w) (hb : Below w.heap.size w w') : InkN q ns w' := by
  obtain ⟨A, c, h1, h2, h3, h4⟩ := h
  exact ⟨A, c, keepb hb h1, own_below h2 hb (Nat.le_refl _), Nat.lt_of_lt_of_le h3 hb.size, (hb.frozen (p := ⟨q, 0, none⟩) h3).trans h4⟩
def EVRel (q : Nat) (ns : List Int) (l : List Val) (W : World) (i : Value) (wr : World) : Prop := ∃ k : Nat, k ≤ l.length ∧ i = .int .i64 k ∧ Hid (InkN q (ns ++ numsV (l.take k)) wr) ∧ Below q W wr
def EMRel (q : Nat) (ns : List Int) (l : List Mail) (W : World) (i : Value) (wr : World) : Prop := ∃ k : Nat, k ≤ l.length ∧ i = .int .i64 k ∧ Hid (InkN q (ns ++ numsM (l.take k)) wr) ∧ Below q W wr
end Go.Proofs.Ytifpngjipkmdcaa

/- The document's SavedBytes. -/
namespace Go.Proofs.Ytifpngjipkmdcaa
open Go.ChangeShapes Go.WideShapes Go.ChangeAt Go.RowKit
set_option linter.unusedVariables false
set_option linter.unusedSimpArgs false
theorem two_ints (a b : Int) : ∀ u ∈ (#[Value.int .i64 a, Value.int .i64 b] : Array Value).toList, u.oneCell' = true := by
  intro u hu; simp at hu; rcases hu with rfl | rfl <;> rfl
/-- The numbers so far, in a row of the call's own. -/
def NRel {α : Type} (base : Nat) (ns : List Int) (f : List α → List Int) (l : List α) (W : World) (s i : Value) (wr : World) : Prop :=
  ∃ k N A c, k ≤ l.length ∧ i = .int .i64 (k : Nat) ∧ N = ns.length + 2 * k ∧ s = .slice A N c ∧ Hid (wr.ownsRow base 3 1 (.slice A N c) N ((ns ++ f (l.take k)).flatMap i64c)) ∧ Below W.heap.size W wr
def BRel (ns : List Int) (W : World) (s i : Value) (wr : World) : Prop :=
  ∃ k A c, k ≤ ns.length ∧ i = .int .i64 (k : Nat) ∧ s = .slice A (packs (ns.take k)).length c ∧ Hid (wr.ownsRow W.heap.size 5 1 (.slice A (packs (ns.take k)).length c) (packs (ns.take k)).length ((packs (ns.take k)).flatMap u8c)) ∧ Below W.heap.size W wr
end Go.Proofs.Ytifpngjipkmdcaa

/- The statements' copy of what is saved; alike. -/
namespace Go.Proofs.Ytifpngjipkmdcaa
open Go.ChangeShapes Go.WideShapes Go.ChangeAt Go.RowKit
set_option linter.unusedVariables false
set_option linter.unusedSimpArgs false
end Go.Proofs.Ytifpngjipkmdcaa

