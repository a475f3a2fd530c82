/- EqM, CkP, CkM, CkN, CkE, CkW, CkB, CkS: joined. -/
import Derived.Test.YtphgdpjfolkafaaDoorMem
import Derived.Test.YtphgdpjfolkafaaDoorMSort
import Derived.Test.YtphgdpjfolkafaaDoorWrap
import Derived.Test.YtphgdpjfolkafaaDoorMSrtR
import Derived.Test.YtphgdpjfolkafaaDoorRegF
import Derived.Test.YtphgdpjfolkafaaDoorWrapR
/- slices.Equal at mail. -/
namespace Go.Proofs.YtphgdpjfolkafaaDoor
open Go.ChangeShapes Go.WideShapes Go.ChangeAt Go.RowKit
set_option linter.unusedVariables false
set_option linter.unusedSimpArgs false
section
open Classical
noncomputable def eqL (l m : List Mail) : Bool := decide (l = m)
end
theorem eqL_yes {l m : List Mail} (h : l = m) : eqL l m = true := by unfold eqL; exact @decide_eq_true _ (_) h
theorem eqL_no {l m : List Mail} (h : l ≠ m) : eqL l m = false := by unfold eqL; exact @decide_eq_false _ (_) h
theorem mail_cells {w : World} {B n k : Nat} {A : Option Addr} {l : List Mail} {x : Mail} (h : Rd w B A 2 n (l.flatMap Mail.cells)) (hl : l.length = n) (hk : l[k]? = some x) :
    ∃ b off, A = some ⟨b, off, none⟩ ∧ b < B ∧ w.cell? ⟨b, off + k * 2, none⟩ = some (.int .i64 x.to) ∧ w.cell? ⟨b, off + k * 2 + 1, none⟩ = some (.int .i64 x.val) := by
  have hk' := (List.getElem?_eq_some_iff.1 hk).1
  obtain ⟨b, off, rfl, hb, hc⟩ := h.2 (by omega)
  obtain ⟨_, hg⟩ := flatMap_get (cells := Mail.cells) (sz := 2) (l := l) (fun _ _ => rfl)
  refine ⟨b, off, rfl, hb, ?_, ?_⟩
  · exact hc _ _ (hg k x 0 _ hk rfl)
  · rw [Nat.add_assoc]; exact hc _ _ (hg k x 1 _ hk rfl)
set_option maxHeartbeats 1000000 in
theorem eqM_walk (l m : List Mail) (w : World) (A A' : Option Addr) (n n' c c' : Nat) (h1 : Rd w w.heap.size A 2 n (l.flatMap Mail.cells)) (h2 : Rd w w.heap.size A' 2 n' (m.flatMap Mail.cells)) (hl : l.length = n) (hm : m.length = n') (hn : n ≤ 140737488355328) (hn' : n' ≤ 140737488355328) :
    Calls Tryd.prog 44 #[.slice A n c, .slice A' n' c'] w fun e w' => e = .returned (.bool (eqL l m)) ∧ Below w.heap.size w w' := by
  generalize hF : eqL l m = F
  have HF := hid hF
  have HL := hid hl
  have HM := hid hm
  clear hF hl hm
  by_cases he : n = n'
  · obtain rfl : n = n' := he
    have hez : ((n : Int) != (n : Int)) = false := by simp
    go_enter Tryd.func44, Tryd.ntmps44
    go_wp2_with fail
    go_loopw [13] (fun i wr => ∃ k : Nat, k ≤ n ∧ i = .int .i64 k ∧ Below w.heap.size w wr ∧ Hid (l.take k = m.take k)) (fun i _ => n - (intOf i).toNat)
    case atStart => exact ⟨0, by omega, rfl, Below.refl _ _, hid (by simp)⟩
    case round =>
      obtain ⟨k, hk, rfl, hbel, HT⟩ := hrel
      by_cases hlt : k < n
      · obtain ⟨x, hx⟩ : ∃ x, l[k]? = some x := ⟨_, List.getElem?_eq_getElem (by rw [HL.out]; exact hlt)⟩
        obtain ⟨y, hy⟩ : ∃ y, m[k]? = some y := ⟨_, List.getElem?_eq_getElem (by rw [HM.out]; exact hlt)⟩
        obtain ⟨b, off, rfl, hb, c0, c1⟩ := mail_cells (h1.below hbel) HL.out hx
        obtain ⟨b', off', rfl, hb', d0, d1⟩ := mail_cells (h2.below hbel) HM.out hy
        have hkz : (k : Int) < (n : Int) := by omega
        have HX := hid hx
        have HY := hid hy
        clear hx hy
        obtain ⟨xt, xv⟩ := x
        obtain ⟨yt, yv⟩ := y
        simp only at c0 c1 d0 d1
        by_cases ht : xt = yt
        · subst ht
          by_cases hv : xv = yv
          · subst hv
            go_wp2_with fail
            go_quiet (fail)
            go_wp2_with fail
            go_roundw
            case rel => exact ⟨k + 1, by omega, by go_num, below_drewN hbel _, hid (by rw [take_nextV HX.out, take_nextV HY.out, HT.out])⟩
            case measure => simp [intOf]; omega
          · have HV : Hid (F = false) := hid (by rw [← HF.out]; exact eqL_no fun e => by have := HX.out; rw [e, HY.out] at this; injection this with this; injection this with _ h; exact hv h.symm)
            have hvb : (xv == yv) = false := by simpa using hv
            clear hv
            go_wp2_with fail
            go_quiet (fail)
            go_wp2_with fail
            go_ret
            exact ⟨by rw [HV.out]; rfl, below_drewN hbel _⟩
        · have HV : Hid (F = false) := hid (by rw [← HF.out]; exact eqL_no fun e => by have := HX.out; rw [e, HY.out] at this; injection this with this; injection this with h _; exact ht h.symm)
          have htb : (xt == yt) = false := by simpa using ht
          clear ht
          go_wp2_with fail
          go_quiet (fail)
          go_wp2_with fail
          go_ret
          exact ⟨by rw [HV.out]; rfl, below_drewN hbel _⟩
      · obtain rfl : k = n := by omega
        have hkz : ¬ ((k : Int) < (k : Int)) := by omega
        have HV : Hid (F = true) := hid (by rw [← HF.out]; refine eqL_yes ?_; have := HT.out; rwa [List.take_of_length_le (by rw [HL.out]; exact Nat.le_refl _), List.take_of_length_le (by rw [HM.out]; exact Nat.le_refl _)] at this)
        go_wp2_with fail
        go_ret
        exact ⟨by rw [HV.out]; rfl, hbel⟩
  · have hez : ((n : Int) != (n' : Int)) = true := by simp; omega
    have hez2 : (n == n') = false := by simpa using he
    have HV : Hid (F = false) := hid (by rw [← HF.out]; exact eqL_no fun e => he (by rw [← HL.out, ← HM.out, e]))
    clear he
    go_enter Tryd.func44, Tryd.ntmps44
    go_wp2_with fail
    go_ret
    exact ⟨by rw [HV.out]; rfl, Below.refl _ _⟩
end Go.Proofs.YtphgdpjfolkafaaDoor

/- What a worker saves: in memory; what its bytes are. -/
namespace Go.Proofs.YtphgdpjfolkafaaDoor
open Go.ChangeShapes Go.WideShapes Go.ChangeAt Go.RowKit
set_option linter.unusedVariables false
set_option linter.unusedSimpArgs false
structure Saved where
  step : Int
  phase : Int
  fresh : Bool
  vals : List Val
  mail : List Mail
def svC (s : Saved) (A : Option Addr) (c : Nat) (B : Option Addr) (d : Nat) : Array Value := #[.int .i64 s.step, .int .i64 s.phase, .bool s.fresh, .slice A s.vals.length c, .slice B s.mail.length d]
section
variable {H : Type} {enc : TypeId × Value → H} {W : World}
def SavedArg (W : World) (cs : List Value) (s : Saved) : Prop :=
  ∃ A c B d, cs = [.int .i64 s.step, .int .i64 s.phase, .bool s.fresh, .slice A s.vals.length c, .slice B s.mail.length d] ∧ I64 s.step ∧ I64 s.phase ∧ Flat W W.heap.size 16 2 Val.cells A c s.vals ∧ (∀ x ∈ s.vals, x.wf) ∧ Flat W W.heap.size 16 2 Mail.cells B d s.mail ∧ ∀ x ∈ s.mail, x.wf
theorem opn_Saved : Opn enc Tryd.prog W 29 (SavedArg W) :=
  (opn_struct Tryd.underlying29 (by kernel_rfl) (opnF_cons (n := 1) rfl (by kernel_rfl) opn_i64 (opnF_cons (n := 1) rfl (by kernel_rfl) opn_i64 (opnF_cons (n := 1) rfl (by kernel_rfl) (opn_bool Tryd.underlying4) (opnF_cons (n := 1) rfl (by kernel_rfl) opn_vals (opnF_cons (n := 1) rfl (by kernel_rfl) opn_mails opnF_nil)))))).mono (fun cs x h => by
    obtain ⟨a, b, e, f, g, _⟩ := x
    obtain ⟨⟨h0, z0⟩, ⟨h1, z1⟩, h3, ⟨A, c, h4, w4, w5⟩, ⟨A', c', h5, w6, w7⟩, hn⟩ := h
    exact ⟨⟨a, b, e, f, g⟩, A, c, A', c', glue h0 (glue h1 (glue h3 (glue h4 (glue h5 hn)))), z0, z1, w4, w5, w6, w7⟩)
end
def svVal (x : Val) : Prop := (-1 ≤ x.a ∧ x.a ≤ 4398046511104) ∧ -1 ≤ x.label ∧ x.label ≤ 199
def mlOk (m : Mail) : Prop := (0 ≤ m.to ∧ m.to ≤ 199) ∧ 0 ≤ m.val ∧ m.val ≤ 4398046511104
def svFits (s : Saved) : Prop := (0 ≤ s.step ∧ s.step ≤ 100000) ∧ (s.phase = 0 ∨ s.phase = 1) ∧ s.vals.length ≤ 200 ∧ s.mail.length ≤ 5000
def svOk (s : Saved) : Prop := svFits s ∧ (∀ x ∈ s.vals, svVal x) ∧ (∀ m ∈ s.mail, mlOk m) ∧ ordB s.mail = true
section
open Classical
noncomputable def svB (s : Saved) : Bool := decide (svOk s)
end
theorem svB_yes {s : Saved} (h : svOk s) : svB s = true := by unfold svB; exact @decide_eq_true _ (_) h
theorem svB_no {s : Saved} (h : ¬ svOk s) : svB s = false := by unfold svB; exact @decide_eq_false _ (_) h
theorem svB_ok {s : Saved} (h : svB s = true) : svOk s := by unfold svB at h; exact @of_decide_eq_true _ (_) h
theorem svB_eq {s : Saved} (h1 : svFits s) (h2 : ∀ x ∈ s.vals, svVal x) (h3 : ∀ m ∈ s.mail, mlOk m) : svB s = ordB s.mail := by
  cases h : ordB s.mail with
  | true => exact svB_yes ⟨h1, h2, h3, h⟩
  | false => exact svB_no fun hc => by rw [hc.2.2.2] at h; cases h
theorem ordB_of_srt {l : List Mail} (h : Srt mlt l) : ordB l = true := by
  refine ordB_yes fun i x y hx hy => ?_
  obtain ⟨h1, e1⟩ := List.getElem?_eq_some_iff.1 hx
  obtain ⟨h2, e2⟩ := List.getElem?_eq_some_iff.1 hy
  have := List.pairwise_iff_getElem.1 h i (i + 1) h1 h2 (Nat.lt_succ_self i)
  rw [e1, e2] at this
  exact this
theorem ord_srt {l : List Mail} (h : ¬ 5000 < l.length) : eqL (sortV l).1 l = ordB l := by
  rw [sortV_ok h]
  show eqL (srtOf mlt l) l = ordB l
  cases ho : ordB l with
  | true => exact eqL_yes (srtOf_eq mlt_strict (List.Perm.refl _) (ordB_srt ho))
  | false =>
    refine eqL_no fun e => ?_
    have hs := srtOf_srt mlt_strict l
    rw [e] at hs
    rw [ordB_of_srt hs] at ho
    cases ho
/-- The numbers of what is saved. -/
def numsV (vs : List Val) : List Int := vs.flatMap fun x => [x.a + 1, x.label + 1]
def numsM (ms : List Mail) : List Int := ms.flatMap fun m => [m.to, m.val]
def b01 (b : Bool) : Int := if b then 1 else 0
def nums (s : Saved) : List Int := [s.step, s.phase, b01 s.fresh, s.vals.length] ++ numsV s.vals ++ [(s.mail.length : Int)] ++ numsM s.mail
def packs (l : List Int) : List Int := l.flatMap pack
noncomputable def encV (s : Saved) : List Int × Int := if svB s = true then wrapV (packs (nums s)) else ([], 9)
theorem encV_bad {s : Saved} (h : svB s = false) : encV s = ([], 9) := by unfold encV; rw [h]; rfl
theorem encV_ok {s : Saved} (h : svB s = true) : encV s = wrapV (packs (nums s)) := by unfold encV; rw [if_pos h]
theorem packs_append (a b : List Int) : packs (a ++ b) = packs a ++ packs b := by unfold packs; rw [List.flatMap_append]
theorem packs_one (n : Int) : packs [n] = pack n := by simp [packs]
theorem numsV_snoc (l : List Val) (x : Val) : numsV (l ++ [x]) = numsV l ++ [x.a + 1, x.label + 1] := by simp [numsV]
theorem numsM_snoc (l : List Mail) (x : Mail) : numsM (l ++ [x]) = numsM l ++ [x.to, x.val] := by simp [numsM]
theorem numsV_len (l : List Val) : (numsV l).length = 2 * l.length := by induction l with | nil => rfl | cons a l ih => unfold numsV at *; rw [List.flatMap_cons, List.length_append, ih, List.length_cons]; simp; omega
theorem numsM_len (l : List Mail) : (numsM l).length = 2 * l.length := by induction l with | nil => rfl | cons a l ih => unfold numsM at *; rw [List.flatMap_cons, List.length_append, ih, List.length_cons]; simp; omega
theorem packs_len (l : List Int) : (packs l).length ≤ 10 * l.length := by
  induction l with
  | nil => simp [packs]
  | cons a l ih => unfold packs at *; rw [List.flatMap_cons, List.length_append, List.length_cons]; have := (pack_len a).1; omega
def u64s (l : List Int) : Prop := ∀ n ∈ l, 0 ≤ n ∧ n ≤ 9223372036854775807
theorem packs_byte {l : List Int} (h : u64s l) : ∀ x ∈ packs l, 0 ≤ x ∧ x ≤ 255 := fun x hx => by
  obtain ⟨n, hn, hx⟩ := List.mem_flatMap.1 hx
  have := h n hn
  exact pack_byte n this.1 (by omega) x hx
theorem nums_ok {s : Saved} (h : svOk s) : u64s (nums s) := by
  obtain ⟨⟨h1, h2, h3, h4⟩, h5, h6, _⟩ := h
  intro n hn
  unfold nums at hn
  simp only [List.mem_append, List.mem_cons, List.not_mem_nil, or_false] at hn
  rcases hn with ((((rfl | rfl | rfl | rfl) | hn) | rfl) | hn)
  · omega
  · omega
  · unfold b01; split <;> omega
  · omega
  · obtain ⟨x, hx, hn⟩ := List.mem_flatMap.1 hn
    have := h5 x hx
    unfold svVal at this
    simp only [List.mem_cons, List.not_mem_nil, or_false] at hn
    rcases hn with rfl | rfl <;> omega
  · omega
  · obtain ⟨x, hx, hn⟩ := List.mem_flatMap.1 hn
    have := h6 x hx
    unfold mlOk at this
    simp only [List.mem_cons, List.not_mem_nil, or_false] at hn
    rcases hn with rfl | rfl <;> omega
theorem nums_len (s : Saved) : (nums s).length = 5 + 2 * s.vals.length + 2 * s.mail.length := by
  unfold nums; simp only [List.length_append, numsV_len, numsM_len, List.length_cons, List.length_nil]; omega
theorem ckWrap_len (l : List Int) : (wrapV l).1.length ≤ l.length + 14 := by
  unfold wrapV; split
  · simp
  · have := (pack_len l.length).1
    have hq : (quad (sumV (pack l.length ++ l))).length = 4 := rfl
    show (wrapB l).length ≤ _
    unfold wrapB
    rw [List.length_append, List.length_append, hq]
    omega
theorem encV_len (s : Saved) : (encV s).1.length ≤ 200000 := by
  cases h : svB s with
  | false => rw [encV_bad h]; simp
  | true =>
    rw [encV_ok h]
    have h1 := ckWrap_len (packs (nums s))
    have h2 := packs_len (nums s)
    have h3 := nums_len s
    obtain ⟨⟨_, _, h4, h5⟩, _⟩ := svB_ok h
    have h6 : (encV s).1 = (wrapV (packs (nums s))).1 := by rw [encV_ok h]
    omega
end Go.Proofs.YtphgdpjfolkafaaDoor

/- May something be saved? -/
namespace Go.Proofs.YtphgdpjfolkafaaDoor
open Go.ChangeShapes Go.WideShapes Go.ChangeAt Go.RowKit
set_option linter.unusedVariables false
set_option linter.unusedSimpArgs false
theorem vals_cells {w : World} {B n k : Nat} {A : Option Addr} {l : List Val} {x : Val} (h : Rd w B A 2 n (l.flatMap Val.cells)) (hl : l.length = n) (hk : l[k]? = some x) :
    ∃ b off, A = some ⟨b, off, none⟩ ∧ b < B ∧ w.cell? ⟨b, off + k * 2, none⟩ = some (.int .i64 x.a) ∧ w.cell? ⟨b, off + k * 2 + 1, none⟩ = some (.int .i64 x.label) := by
  have hk' := (List.getElem?_eq_some_iff.1 hk).1
  obtain ⟨b, off, rfl, hb, hc⟩ := h.2 (by omega)
  obtain ⟨_, hg⟩ := flatMap_get (cells := Val.cells) (sz := 2) (l := l) (fun _ _ => rfl)
  refine ⟨b, off, rfl, hb, ?_, ?_⟩
  · exact hc _ _ (hg k x 0 _ hk rfl)
  · rw [Nat.add_assoc]; exact hc _ _ (hg k x 1 _ hk rfl)
def valB1 (x : Val) : Bool := inB x.a (-1) 4398046511104 && inB x.label (-1) 199
theorem valB1_yes {x : Val} (h : svVal x) : valB1 x = true := by
  obtain ⟨h1, h2, h3⟩ := h
  unfold valB1; rw [inB_yes h1, inB_yes ⟨h2, h3⟩]; rfl
theorem valB1_no {x : Val} (h : ¬ svVal x) : valB1 x = false := by
  unfold valB1
  by_cases h1 : -1 ≤ x.a ∧ x.a ≤ 4398046511104
  · rw [inB_no (n := x.label) (fun h2 => h ⟨h1, h2⟩)]; simp
  · rw [inB_no h1]; rfl
def mlB (m : Mail) : Bool := inB m.to 0 199 && inB m.val 0 4398046511104
theorem mlB_yes {m : Mail} (h : mlOk m) : mlB m = true := by
  obtain ⟨h1, h2, h3⟩ := h
  unfold mlB; rw [inB_yes h1, inB_yes ⟨h2, h3⟩]; rfl
theorem mlB_no {m : Mail} (h : ¬ mlOk m) : mlB m = false := by
  unfold mlB
  by_cases h1 : 0 ≤ m.to ∧ m.to ≤ 199
  · rw [inB_no (n := m.val) (fun h2 => h ⟨h1, h2⟩)]; simp
  · rw [inB_no h1]; rfl
theorem svB_val {s : Saved} {k : Nat} {x : Val} (h : s.vals[k]? = some x) (hx : ¬ svVal x) : svB s = false := svB_no fun hc => hx (hc.2.1 x (List.mem_of_getElem? h))
theorem svB_mail {s : Saved} {k : Nat} {x : Mail} (h : s.mail[k]? = some x) (hx : ¬ mlOk x) : svB s = false := svB_no fun hc => hx (hc.2.2.1 x (List.mem_of_getElem? h))
theorem all_of_get {α : Type} {p : α → Prop} {l : List α} {n : Nat} (hn : l.length ≤ n) (h : ∀ (i : Nat) x, i < n → l[i]? = some x → p x) : ∀ x ∈ l, p x := fun x hx => by
  obtain ⟨i, hi, e⟩ := List.mem_iff_getElem.1 hx
  exact h i x (by omega) (by rw [List.getElem?_eq_getElem hi, e])
theorem get_more {α : Type} {p : α → Prop} {l : List α} {k : Nat} {y : α} (h : ∀ (i : Nat) x, i < k → l[i]? = some x → p x) (hy : l[k]? = some y) (py : p y) : ∀ (i : Nat) x, i < k + 1 → l[i]? = some x → p x := fun i x hi hx => by
  rcases Nat.lt_or_eq_of_le (Nat.le_of_lt_succ hi) with hi | rfl
  · exact h i x hi hx
  · rw [hy] at hx; injection hx with hx; subst hx; exact py
def VRel (W : World) (l : List Val) (i : Value) (wr : World) : Prop := ∃ k : Nat, k ≤ l.length ∧ i = .int .i64 k ∧ Hid (∀ (j : Nat) x, j < k → l[j]? = some x → svVal x) ∧ Below W.heap.size W wr
def MRel (W : World) (l : List Mail) (i : Value) (wr : World) : Prop := ∃ k : Nat, k ≤ l.length ∧ i = .int .i64 k ∧ Hid (∀ (j : Nat) x, j < k → l[j]? = some x → mlOk x) ∧ Below W.heap.size W wr
set_option maxRecDepth 100000 in
set_option maxHeartbeats 8000000 in
theorem ckMay_walk (s : Saved) (w : World) (A B : Option Addr) (c d : Nat) (hv : Rd w w.heap.size A 2 s.vals.length (s.vals.flatMap Val.cells)) (hm : Rd w w.heap.size B 2 s.mail.length (s.mail.flatMap Mail.cells)) :
    Calls Tryd.prog 30 #[.agg (svC s A c B d)] w fun e w' => e = .returned (.bool (svB s)) ∧ Below w.heap.size w w' := by
  generalize hF : svB s = F
  have HF := hid hF
  clear hF
  have HNO : Hid (¬ svOk s → F = false) := hid fun h => by rw [← HF.out]; exact svB_no h
  obtain ⟨st, ph, fr, vs, ms⟩ := s
  unfold svC
  simp only at *
  have hcase : st < 0 ∨ (¬ st < 0 ∧ 100000 < st) ∨ ((¬ st < 0 ∧ ¬ 100000 < st) ∧ (ph ≠ 0 ∧ ph ≠ 1)) ∨ ((¬ st < 0 ∧ ¬ 100000 < st) ∧ (ph = 0 ∨ ph = 1) ∧ 200 < (vs.length : Int)) ∨ ((¬ st < 0 ∧ ¬ 100000 < st) ∧ (ph = 0 ∨ ph = 1) ∧ ¬ 200 < (vs.length : Int) ∧ 5000 < (ms.length : Int)) ∨ ((¬ st < 0 ∧ ¬ 100000 < st) ∧ (ph = 0 ∨ ph = 1) ∧ ¬ 200 < (vs.length : Int) ∧ ¬ 5000 < (ms.length : Int)) := by omega
  rcases hcase with h1 | ⟨h1, h2⟩ | ⟨⟨h1, h2⟩, h3, h4⟩ | ⟨⟨h1, h2⟩, h3, h4⟩ | ⟨⟨h1, h2⟩, h3, h4, h5⟩ | ⟨⟨h1, h2⟩, h3, h4, h5⟩
  · have HV : Hid (F = false) := hid (HNO.out fun h => by have := h.1.1.1; simp only at this; omega)
    go_enter Tryd.func30, Tryd.ntmps30
    go_wp2_with fail
    go_ret
    exact ⟨by rw [HV.out]; rfl, bA (Below.refl _ _) _⟩
  · have HV : Hid (F = false) := hid (HNO.out fun h => by have := h.1.1.2; simp only at this; omega)
    go_enter Tryd.func30, Tryd.ntmps30
    go_wp2_with fail
    go_ret
    exact ⟨by rw [HV.out]; rfl, bA (Below.refl _ _) _⟩
  · have HV : Hid (F = false) := hid (HNO.out fun h => by have := h.1.2.1; simp only at this; omega)
    have hb1 : (ph != 0) = true := by simpa using h3
    have hb2 : (ph != 1) = true := by simpa using h4
    go_enter Tryd.func30, Tryd.ntmps30
    go_wp2_with fail
    go_ret
    exact ⟨by rw [HV.out]; rfl, bA (Below.refl _ _) _⟩
  · have HV : Hid (F = false) := hid (HNO.out fun h => by have := h.1.2.2.1; simp only at this; omega)
    rcases h3 with rfl | rfl
    all_goals
      go_enter Tryd.func30, Tryd.ntmps30
      go_wp2_with fail
      go_ret
      exact ⟨by rw [HV.out]; rfl, bA (Below.refl _ _) _⟩
  · have HV : Hid (F = false) := hid (HNO.out fun h => by have := h.1.2.2.2; simp only at this; omega)
    rcases h3 with rfl | rfl
    all_goals
      go_enter Tryd.func30, Tryd.ntmps30
      go_wp2_with fail
      go_ret
      exact ⟨by rw [HV.out]; rfl, bA (Below.refl _ _) _⟩
  · have HFIT : Hid (svFits ⟨st, ph, fr, vs, ms⟩) := hid ⟨⟨by dsimp only; omega, by dsimp only; omega⟩, by dsimp only; omega, by dsimp only; omega, by dsimp only; omega⟩
    clear HNO
    obtain ⟨W, hW⟩ : ∃ W, W = w.alloc (.cells #[.int .i64 st, .int .i64 ph, .bool fr, .slice A vs.length c, .slice B ms.length d] 29) := ⟨_, rfl⟩
    have b0 : Below w.heap.size w W := by rw [hW]; exact bA (Below.refl _ _) _
    have hWs : W.heap.size = w.heap.size + 1 := by rw [hW]; simp
    have q3 : W.cell? ⟨w.heap.size, 3, none⟩ = some (.slice A vs.length c) := by rw [hW]; go_simp
    have q4 : W.cell? ⟨w.heap.size, 4, none⟩ = some (.slice B ms.length d) := by rw [hW]; go_simp
    rcases h3 with rfl | rfl
    all_goals
      go_enter Tryd.func30, Tryd.ntmps30
      go_wp2_with fail
      rw [← hW]
      clear hW
      go_loopw [42] (fun i wr => VRel W vs i wr) (fun i _ => vs.length - (intOf i).toNat)
      case atStart => exact ⟨0, by omega, rfl, hid fun i x h => by omega, Below.refl _ _⟩
      case round =>
        obtain ⟨k, hkl, rfl, HV1, hbel⟩ := hrel
        have q3 := keepb hbel q3
        have q4 := keepb hbel q4
        have hb0 := bT b0 hbel
        have hsz := hbel.size
        by_cases hlt : k < vs.length
        · obtain ⟨x, hx⟩ : ∃ x, vs[k]? = some x := ⟨_, List.getElem?_eq_getElem hlt⟩
          obtain ⟨b, off, rfl, hb, c0, c1⟩ := vals_cells (hv.below hb0) rfl hx
          have hkz : (k : Int) < (vs.length : Int) := by omega
          have HX := hid hx
          clear hx
          obtain ⟨xa, xl⟩ := x
          simp only at c0 c1
          have hcs : xa < -1 ∨ (¬ xa < -1 ∧ 4398046511104 < xa) ∨ ((¬ xa < -1 ∧ ¬ 4398046511104 < xa) ∧ xl < -1) ∨ ((¬ xa < -1 ∧ ¬ 4398046511104 < xa) ∧ ¬ xl < -1 ∧ 200 ≤ xl) ∨ ((¬ xa < -1 ∧ ¬ 4398046511104 < xa) ∧ ¬ xl < -1 ∧ ¬ 200 ≤ xl) := by omega
          rcases hcs with g1 | ⟨g1, g2⟩ | ⟨⟨g1, g2⟩, g3⟩ | ⟨⟨g1, g2⟩, g3, g4⟩ | ⟨⟨g1, g2⟩, g3, g4⟩
          rotate_right
          · go_wp2_with fail
            go_roundw
            case rel => exact ⟨k + 1, by omega, by go_num, hid (get_more HV1.out HX.out (by show (_ ∧ _) ∧ _ ∧ _; dsimp only; omega)), bA hbel _⟩
            case measure => simp [intOf]; omega
          all_goals
            have HV : Hid (F = false) := hid (by rw [← HF.out]; exact svB_val HX.out (fun h => by obtain ⟨⟨_, _⟩, _, _⟩ := h; simp only at *; omega))
            go_wp2_with fail
            go_ret
            exact ⟨by rw [HV.out]; rfl, bA hb0 _⟩
        · have HAV : Hid (∀ x ∈ vs, svVal x) := hid (all_of_get (by omega) HV1.out)
          have hkz : ¬ ((k : Int) < (vs.length : Int)) := by omega
          clear hkl HV1
          go_wp2_with fail
          go_loopw [68] (fun i wm => MRel wr ms i wm) (fun i _ => ms.length - (intOf i).toNat)
          case atStart => exact ⟨0, by omega, rfl, hid fun i x h => by omega, Below.refl _ _⟩
          case round =>
            obtain ⟨m, hml, rfl, HM1, hbm⟩ := hrel
            have q4 := keepb hbm q4
            have hb1 := bT hb0 hbm
            have hsz2 := hbm.size
            by_cases hlm : m < ms.length
            · obtain ⟨x, hx⟩ : ∃ x, ms[m]? = some x := ⟨_, List.getElem?_eq_getElem hlm⟩
              obtain ⟨b, off, rfl, hb, c0, c1⟩ := mail_cells (hm.below hb1) rfl hx
              have hmz : (m : Int) < (ms.length : Int) := by omega
              have HX := hid hx
              clear hx
              obtain ⟨xa, xl⟩ := x
              simp only at c0 c1
              have hcs : xa < 0 ∨ (¬ xa < 0 ∧ 200 ≤ xa) ∨ ((¬ xa < 0 ∧ ¬ 200 ≤ xa) ∧ xl < 0) ∨ ((¬ xa < 0 ∧ ¬ 200 ≤ xa) ∧ ¬ xl < 0 ∧ 4398046511104 < xl) ∨ ((¬ xa < 0 ∧ ¬ 200 ≤ xa) ∧ ¬ xl < 0 ∧ ¬ 4398046511104 < xl) := by omega
              rcases hcs with g1 | ⟨g1, g2⟩ | ⟨⟨g1, g2⟩, g3⟩ | ⟨⟨g1, g2⟩, g3, g4⟩ | ⟨⟨g1, g2⟩, g3, g4⟩
              rotate_right
              · go_wp2_with fail
                go_roundw
                case rel => exact ⟨m + 1, by omega, by go_num, hid (get_more HM1.out HX.out (by show (_ ∧ _) ∧ _ ∧ _; dsimp only; omega)), bA hbm _⟩
                case measure => simp [intOf]; omega
              all_goals
                have HV : Hid (F = false) := hid (by rw [← HF.out]; exact svB_mail HX.out (fun h => by obtain ⟨⟨_, _⟩, _, _⟩ := h; simp only at *; omega))
                go_wp2_with fail
                go_ret
                exact ⟨by rw [HV.out]; rfl, bA hb1 _⟩
            · have HAM : Hid (∀ x ∈ ms, mlOk x) := hid (all_of_get (by omega) HM1.out)
              have hmz : ¬ ((m : Int) < (ms.length : Int)) := by omega
              have HSO := hid (sort_walk ms wr B d ((hm.below hb1).any (by omega)) (by omega))
              have HN : Hid (¬ 5000 < ms.length) := hid (by omega)
              go_wp2_with fail
              refine HSO.out.mono ?_
              rintro e w2 ⟨A1, c1, rfl, o1, b1⟩
              have q4 := keepb b1 q4
              have hb2 := bT hb1 b1
              have HEQ := hid (eqM_walk (sortV ms).1 ms w2 A1 B _ _ c1 d (rd_own o1) ((hm.below hb2).any (by omega)) rfl rfl (by have := sortV_len ms; omega) (by omega))
              clear o1
              go_wp2_with fail
              refine HEQ.out.mono ?_
              rintro e w3 ⟨rfl, b3⟩
              go_wp2_with fail
              go_ret
              exact ⟨by rw [ord_srt HN.out, ← svB_eq HFIT.out HAV.out HAM.out, HF.out]; rfl, bT hb2 b3⟩
end Go.Proofs.YtphgdpjfolkafaaDoor

/- The document's SavedMay. -/
namespace Go.Proofs.YtphgdpjfolkafaaDoor
open Go.ChangeShapes Go.WideShapes Go.ChangeAt Go.RowKit
set_option linter.unusedVariables false
set_option linter.unusedSimpArgs false
theorem top1_walk (w : World) : Calls Tryd.prog 66 #[.int .i64 1] w fun e w' => e = .returned (.int .i64 4398046511104) ∧ w = w' := by
  go_enter Tryd.func66, Tryd.ntmps66
  go_wp2_with fail
  go_ret
  exact ⟨rfl, rfl⟩
set_option maxHeartbeats 2000000 in
theorem valueMay1_walk (x : Val) (w : World) : Calls Tryd.prog 55 #[.int .i64 1, .agg #[.int .i64 x.a, .int .i64 x.label]] w fun e w' => e = .returned (.bool (valB1 x)) ∧ Below w.heap.size w w' := by
  have HT := hid top1_walk
  have HI := hid (fun n lo hi => In_walk n lo hi)
  generalize hF : valB1 x = F
  have HF := hid hF
  clear hF
  cases h1 : inB x.a (-1) 4398046511104 with
  | false =>
    have HV : Hid (F = false) := hid (by rw [← HF.out]; unfold valB1; rw [h1]; rfl)
    go_enter Tryd.func55, Tryd.ntmps55
    go_wp2_with fail
    go_quiet ((first | (go_at_call 66; exact qsame (HT.out _)) | (go_at_call 16; exact qsame (HI.out _ _ _ _))))
    go_wp2_with fail
    go_ret
    exact ⟨by rw [HV.out]; rfl, below_drewN (bA (Below.refl _ _) _) _⟩
  | true =>
    have HV : Hid (F = inB x.label (-1) 199) := hid (by rw [← HF.out]; unfold valB1; rw [h1]; rfl)
    go_enter Tryd.func55, Tryd.ntmps55
    go_wp2_with fail
    go_quiet ((first | (go_at_call 66; exact qsame (HT.out _)) | (go_at_call 16; exact qsame (HI.out _ _ _ _))))
    go_wp2_with fail
    go_ret
    exact ⟨by rw [HV.out]; rfl, below_drewN (bA (Below.refl _ _) _) _⟩
set_option maxHeartbeats 2000000 in
theorem mailMay_walk (x : Mail) (w : World) : Calls Tryd.prog 56 #[.agg #[.int .i64 x.to, .int .i64 x.val]] w fun e w' => e = .returned (.bool (mlB x)) ∧ Below w.heap.size w w' := by
  have HI := hid (fun n lo hi => In_walk n lo hi)
  generalize hF : mlB x = F
  have HF := hid hF
  clear hF
  cases h1 : inB x.to 0 199 with
  | false =>
    have HV : Hid (F = false) := hid (by rw [← HF.out]; unfold mlB; rw [h1]; rfl)
    go_enter Tryd.func56, Tryd.ntmps56
    go_wp2_with (go_at_call 16; refine (HI.out _ _ _ _).mono ?_; rintro e w2 ⟨rfl, rfl⟩)
    go_ret
    exact ⟨by rw [HV.out]; rfl, bA (Below.refl _ _) _⟩
  | true =>
    have HV : Hid (F = inB x.val 0 4398046511104) := hid (by rw [← HF.out]; unfold mlB; rw [h1]; rfl)
    go_enter Tryd.func56, Tryd.ntmps56
    go_wp2_with (go_at_call 16; refine (HI.out _ _ _ _).mono ?_; rintro e w2 ⟨rfl, rfl⟩)
    go_ret
    exact ⟨by rw [HV.out]; rfl, bA (Below.refl _ _) _⟩
set_option maxRecDepth 100000 in
set_option maxHeartbeats 8000000 in
theorem savedMay_walk (s : Saved) (w : World) (A B : Option Addr) (c d : Nat) (hv : Rd w w.heap.size A 2 s.vals.length (s.vals.flatMap Val.cells)) (hm : Rd w w.heap.size B 2 s.mail.length (s.mail.flatMap Mail.cells)) :
    Calls Tryd.prog 47 #[.agg (svC s A c B d)] w fun e w' => e = .returned (.bool (svB s)) ∧ Below w.heap.size w w' := by
  generalize hF : svB s = F
  have HF := hid hF
  clear hF
  have HNO : Hid (¬ svOk s → F = false) := hid fun h => by rw [← HF.out]; exact svB_no h
  have HI := hid (fun n lo hi => In_walk n lo hi)
  have HVM := hid valueMay1_walk
  have HMM := hid mailMay_walk
  obtain ⟨st, ph, fr, vs, ms⟩ := s
  unfold svC
  simp only at *
  have hcase : ¬ (0 ≤ st ∧ st ≤ 100000) ∨ ((0 ≤ st ∧ st ≤ 100000) ∧ ¬ (0 ≤ ph ∧ ph ≤ 1)) ∨ ((0 ≤ st ∧ st ≤ 100000) ∧ (0 ≤ ph ∧ ph ≤ 1) ∧ 200 < (vs.length : Int)) ∨ ((0 ≤ st ∧ st ≤ 100000) ∧ (0 ≤ ph ∧ ph ≤ 1) ∧ ¬ 200 < (vs.length : Int) ∧ 5000 < (ms.length : Int)) ∨ ((0 ≤ st ∧ st ≤ 100000) ∧ (0 ≤ ph ∧ ph ≤ 1) ∧ ¬ 200 < (vs.length : Int) ∧ ¬ 5000 < (ms.length : Int)) := by omega
  rcases hcase with h1 | ⟨h1, h3⟩ | ⟨h1, h3, h4⟩ | ⟨h1, h3, h4, h5⟩ | ⟨h1, h3, h4, h5⟩
  · have HV : Hid (F = false) := hid (HNO.out fun h => by have := h.1.1; simp only at this; omega)
    have i1 := inB_no h1
    go_enter Tryd.func47, Tryd.ntmps47
    go_wp2_with (go_at_call 16; refine (HI.out _ _ _ _).mono ?_; rintro e w2 ⟨rfl, rfl⟩)
    go_ret
    exact ⟨by rw [HV.out]; rfl, bA (Below.refl _ _) _⟩
  · have HV : Hid (F = false) := hid (HNO.out fun h => by have := h.1.2.1; simp only at this; omega)
    have i1 := inB_yes h1
    have i2 := inB_no h3
    clear h1 h3
    go_enter Tryd.func47, Tryd.ntmps47
    go_wp2_with (go_at_call 16; refine (HI.out _ _ _ _).mono ?_; rintro e w2 ⟨rfl, rfl⟩)
    go_ret
    exact ⟨by rw [HV.out]; rfl, bA (Below.refl _ _) _⟩
  · have HV : Hid (F = false) := hid (HNO.out fun h => by have := h.1.2.2.1; simp only at this; omega)
    have i1 := inB_yes h1
    have i2 := inB_yes h3
    clear h1 h3
    go_enter Tryd.func47, Tryd.ntmps47
    go_wp2_with (go_at_call 16; refine (HI.out _ _ _ _).mono ?_; rintro e w2 ⟨rfl, rfl⟩)
    go_ret
    exact ⟨by rw [HV.out]; rfl, bA (Below.refl _ _) _⟩
  · have HV : Hid (F = false) := hid (HNO.out fun h => by have := h.1.2.2.2; simp only at this; omega)
    have i1 := inB_yes h1
    have i2 := inB_yes h3
    clear h1 h3
    go_enter Tryd.func47, Tryd.ntmps47
    go_wp2_with (go_at_call 16; refine (HI.out _ _ _ _).mono ?_; rintro e w2 ⟨rfl, rfl⟩)
    go_ret
    exact ⟨by rw [HV.out]; rfl, bA (Below.refl _ _) _⟩
  · have HFIT : Hid (svFits ⟨st, ph, fr, vs, ms⟩) := hid ⟨⟨by dsimp only; omega, by dsimp only; omega⟩, by dsimp only; omega, by dsimp only; omega, by dsimp only; omega⟩
    clear HNO
    have i1 := inB_yes h1
    have i2 := inB_yes h3
    clear h1 h3
    obtain ⟨W, hW⟩ : ∃ W, W = w.alloc (.cells #[.int .i64 st, .int .i64 ph, .bool fr, .slice A vs.length c, .slice B ms.length d] 29) := ⟨_, rfl⟩
    have b0 : Below w.heap.size w W := by rw [hW]; exact bA (Below.refl _ _) _
    have hWs : W.heap.size = w.heap.size + 1 := by rw [hW]; simp
    have q3 : W.cell? ⟨w.heap.size, 3, none⟩ = some (.slice A vs.length c) := by rw [hW]; go_simp
    have q4 : W.cell? ⟨w.heap.size, 4, none⟩ = some (.slice B ms.length d) := by rw [hW]; go_simp
    go_enter Tryd.func47, Tryd.ntmps47
    go_wp2_with (go_at_call 16; refine (HI.out _ _ _ _).mono ?_; rintro e w2 ⟨rfl, rfl⟩)
    rw [← hW]
    clear hW
    go_loopw [3] (fun i wr => VRel W vs i wr) (fun i _ => vs.length - (intOf i).toNat)
    case atStart => exact ⟨0, by omega, rfl, hid fun i x h => by omega, Below.refl _ _⟩
    case round =>
      obtain ⟨k, hkl, rfl, HV1, hbel⟩ := hrel
      have q3 := keepb hbel q3
      have q4 := keepb hbel q4
      have hb0 := bT b0 hbel
      have hsz := hbel.size
      by_cases hlt : k < vs.length
      · obtain ⟨x, hx⟩ : ∃ x, vs[k]? = some x := ⟨_, List.getElem?_eq_getElem hlt⟩
        obtain ⟨b, off, rfl, hb, c0, c1⟩ := vals_cells (hv.below hb0) rfl hx
        have hkz : (k : Int) < (vs.length : Int) := by omega
        have HX := hid hx
        clear hx
        by_cases hok : svVal x
        · have e1 := valB1_yes hok
          go_wp2_with fail
          refine (HVM.out x _).mono ?_
          rintro e w2 ⟨rfl, b2⟩
          go_wp2_with fail
          go_roundw
          case rel => exact ⟨k + 1, by omega, by go_num, hid (get_more HV1.out HX.out hok), bT hbel b2⟩
          case measure => simp [intOf]; omega
        · have HV : Hid (F = false) := hid (by rw [← HF.out]; exact svB_val HX.out hok)
          have e1 := valB1_no hok
          go_wp2_with fail
          refine (HVM.out x _).mono ?_
          rintro e w2 ⟨rfl, b2⟩
          go_wp2_with fail
          go_ret
          exact ⟨by rw [HV.out]; rfl, bT hb0 b2⟩
      · have HAV : Hid (∀ x ∈ vs, svVal x) := hid (all_of_get (by omega) HV1.out)
        have hkz : ¬ ((k : Int) < (vs.length : Int)) := by omega
        clear hkl HV1
        go_wp2_with fail
        go_loopw [4] (fun i wm => MRel wr ms i wm) (fun i _ => ms.length - (intOf i).toNat)
        case atStart => exact ⟨0, by omega, rfl, hid fun i x h => by omega, Below.refl _ _⟩
        case round =>
          obtain ⟨m, hml, rfl, HM1, hbm⟩ := hrel
          have q4 := keepb hbm q4
          have hb1 := bT hb0 hbm
          have hsz2 := hbm.size
          by_cases hlm : m < ms.length
          · obtain ⟨x, hx⟩ : ∃ x, ms[m]? = some x := ⟨_, List.getElem?_eq_getElem hlm⟩
            obtain ⟨b, off, rfl, hb, c0, c1⟩ := mail_cells (hm.below hb1) rfl hx
            have hmz : (m : Int) < (ms.length : Int) := by omega
            have HX := hid hx
            clear hx
            by_cases hok : mlOk x
            · have e1 := mlB_yes hok
              go_wp2_with fail
              refine (HMM.out x _).mono ?_
              rintro e w2 ⟨rfl, b2⟩
              go_wp2_with fail
              go_roundw
              case rel => exact ⟨m + 1, by omega, by go_num, hid (get_more HM1.out HX.out hok), bT hbm b2⟩
              case measure => simp [intOf]; omega
            · have HV : Hid (F = false) := hid (by rw [← HF.out]; exact svB_mail HX.out hok)
              have e1 := mlB_no hok
              go_wp2_with fail
              refine (HMM.out x _).mono ?_
              rintro e w2 ⟨rfl, b2⟩
              go_wp2_with fail
              go_ret
              exact ⟨by rw [HV.out]; rfl, bT hb1 b2⟩
          · have HAM : Hid (∀ x ∈ ms, mlOk x) := hid (all_of_get (by omega) HM1.out)
            have hmz : ¬ ((m : Int) < (ms.length : Int)) := by omega
            have HSO := hid (isOrdered_walk ms wr B d ((hm.below hb1).any (by omega)) (by omega))
            go_wp2_with fail
            refine HSO.out.mono ?_
            rintro e w2 ⟨rfl, b2⟩
            go_wp2_with fail
            go_ret
            exact ⟨by rw [← svB_eq HFIT.out HAV.out HAM.out, HF.out]; rfl, bT hb1 b2⟩
end Go.Proofs.YtphgdpjfolkafaaDoor

/- ckpt.Encode: its closure, which puts numbers. -/
namespace Go.Proofs.YtphgdpjfolkafaaDoor
open Go.ChangeShapes Go.WideShapes Go.ChangeAt Go.RowKit
set_option linter.unusedVariables false
set_option linter.unusedSimpArgs false
/-- The bytes of the numbers put so far, in a row of the call's own to which a cell leads. -/
def InkN (q : Nat) (ns : List Int) (w : World) : Prop := ∃ A c, w.cell? ⟨q, 0, none⟩ = some (.slice A (packs ns).length c) ∧ w.ownsRow (q + 1) 5 1 (.slice A (packs ns).length c) (packs ns).length ((packs ns).flatMap u8c) ∧ q < w.heap.size ∧ w.frozen? ⟨q, 0, none⟩ = false
def PutN (q g : Nat) (ns ms : List Int) (w : World) (i : Value) (wr : World) : Prop :=
  ∃ k A c, k ≤ ms.length ∧ i = .int .i64 (k : Nat) ∧ wr.cell? ⟨q, 0, none⟩ = some (.slice A (packs (ns ++ ms.take k)).length c) ∧ Hid (wr.ownsRow (q + 1) 5 1 (.slice A (packs (ns ++ ms.take k)).length c) (packs (ns ++ ms.take k)).length ((packs (ns ++ ms.take k)).flatMap u8c)) ∧ q < wr.heap.size ∧ wr.frozen? ⟨q, 0, none⟩ = false ∧ Hid (wr.ownsRow (q + 1) 3 1 (.slice (some ⟨g, 0, none⟩) ms.length ms.length) ms.length (ms.flatMap i64c)) ∧ Hid (∀ y, (Value.slice A (packs (ns ++ ms.take k)).length c).ownBlock = some y → y ≠ g) ∧ Hid (Below q w wr)
end Go.Proofs.YtphgdpjfolkafaaDoor

/- ckpt.Encode. -/
namespace Go.Proofs.YtphgdpjfolkafaaDoor
open Go.ChangeShapes Go.WideShapes Go.ChangeAt Go.RowKit
set_option linter.unusedVariables false
set_option linter.unusedSimpArgs false
theorem retL_nilB (w w' : World) (err : Int) (b : Below w.heap.size w w') : RetL 5 1 w 0 [] err (.returned (.tuple #[.slice none 0 0, .int .i64 err])) w' := ⟨none, 0, rfl, World.ownsRow_nil _ _ _ _, b⟩
theorem nums_of (s : Saved) : nums s = [s.step, s.phase, b01 s.fresh, (s.vals.length : Int)] ++ numsV s.vals ++ [(s.mail.length : Int)] ++ numsM s.mail := rfl
theorem InkN.below {q : Nat} {ns : List Int} {w w' : World} (h : InkN q ns w) (hb : Below w.heap.size w w') : InkN q ns w' := by
  obtain ⟨A, c, h1, h2, h3, h4⟩ := h
  exact ⟨A, c, keepb hb h1, own_below h2 hb (Nat.le_refl _), Nat.lt_of_lt_of_le h3 hb.size, (hb.frozen (p := ⟨q, 0, none⟩) h3).trans h4⟩
def EVRel (q : Nat) (ns : List Int) (l : List Val) (W : World) (i : Value) (wr : World) : Prop := ∃ k : Nat, k ≤ l.length ∧ i = .int .i64 k ∧ Hid (InkN q (ns ++ numsV (l.take k)) wr) ∧ Below q W wr
def EMRel (q : Nat) (ns : List Int) (l : List Mail) (W : World) (i : Value) (wr : World) : Prop := ∃ k : Nat, k ≤ l.length ∧ i = .int .i64 k ∧ Hid (InkN q (ns ++ numsM (l.take k)) wr) ∧ Below q W wr
end Go.Proofs.YtphgdpjfolkafaaDoor

/- The document's SavedBytes. -/
namespace Go.Proofs.YtphgdpjfolkafaaDoor
open Go.ChangeShapes Go.WideShapes Go.ChangeAt Go.RowKit
set_option linter.unusedVariables false
set_option linter.unusedSimpArgs false
theorem two_ints (a b : Int) : ∀ u ∈ (#[Value.int .i64 a, Value.int .i64 b] : Array Value).toList, u.oneCell' = true := by
  intro u hu; simp at hu; rcases hu with rfl | rfl <;> rfl
/-- The numbers so far, in a row of the call's own. -/
def NRel {α : Type} (base : Nat) (ns : List Int) (f : List α → List Int) (l : List α) (W : World) (s i : Value) (wr : World) : Prop :=
  ∃ k N A c, k ≤ l.length ∧ i = .int .i64 (k : Nat) ∧ N = ns.length + 2 * k ∧ s = .slice A N c ∧ Hid (wr.ownsRow base 3 1 (.slice A N c) N ((ns ++ f (l.take k)).flatMap i64c)) ∧ Below W.heap.size W wr
def BRel (ns : List Int) (W : World) (s i : Value) (wr : World) : Prop :=
  ∃ k A c, k ≤ ns.length ∧ i = .int .i64 (k : Nat) ∧ s = .slice A (packs (ns.take k)).length c ∧ Hid (wr.ownsRow W.heap.size 5 1 (.slice A (packs (ns.take k)).length c) (packs (ns.take k)).length ((packs (ns.take k)).flatMap u8c)) ∧ Below W.heap.size W wr
set_option maxRecDepth 100000 in
set_option maxHeartbeats 8000000 in
theorem savedBytes_walk (s : Saved) (w : World) (A B : Option Addr) (c d : Nat) (hv : Rd w w.heap.size A 2 s.vals.length (s.vals.flatMap Val.cells)) (hm : Rd w w.heap.size B 2 s.mail.length (s.mail.flatMap Mail.cells)) :
    Calls Tryd.prog 35 #[.agg (svC s A c B d)] w (RetL 5 1 w (encV s).1.length ((encV s).1.flatMap u8c) (encV s).2) := by
  have b00 : Below w.heap.size w (w.alloc (.cells (svC s A c B d) 29)) := bA (Below.refl _ _) _
  have HMAY := hid (savedMay_walk s (w.alloc (.cells (svC s A c B d) 29)) A B c d ((hv.below b00).any (by omega)) ((hm.below b00).any (by omega)))
  cases hs : svB s with
  | false =>
    rw [encV_bad hs]
    rw [hs] at HMAY
    obtain ⟨st, ph, fr, vs, ms⟩ := s
    clear hs
    unfold svC at *
    simp only at *
    go_enter Tryd.func35, Tryd.ntmps35
    go_wp2_with fail
    refine HMAY.out.mono ?_
    rintro e w1 ⟨rfl, b1⟩
    go_wp2_with fail
    go_ret2
    exact retL_nilB _ _ _ (bT b00 b1)
  | true =>
    rw [encV_ok hs]
    rw [hs] at HMAY
    have hok := svB_ok hs
    have HU := hid (nums_ok hok)
    have HNS := hid (nums_of s)
    have HNL := hid (nums_len s)
    have HPL := hid (packs_len (nums s))
    have HPB := hid (packs_byte (nums_ok hok))
    obtain ⟨⟨o1, o2, o3, o4⟩, o5, o6, _⟩ := hok
    generalize hP : packs (nums s) = P at *
    have HP := hid hP
    clear hP hs
    generalize nums s = NS at *
    have HB0 := hid b00
    obtain ⟨st, ph, fr, vs, ms⟩ := s
    unfold svC at *
    simp only at *
    have HO5 := hid o5
    have HO6 := hid o6
    have HNP := hid (fun k : Nat => packs_len (NS.take k))
    clear o1 o2 o5 o6
    have q0 : (w.alloc (.cells #[.int .i64 st, .int .i64 ph, .bool fr, .slice A vs.length c, .slice B ms.length d] 29)).cell? ⟨w.heap.size, 0, none⟩ = some (.int .i64 st) := by go_simp
    have q1 : (w.alloc (.cells #[.int .i64 st, .int .i64 ph, .bool fr, .slice A vs.length c, .slice B ms.length d] 29)).cell? ⟨w.heap.size, 1, none⟩ = some (.int .i64 ph) := by go_simp
    have q2 : (w.alloc (.cells #[.int .i64 st, .int .i64 ph, .bool fr, .slice A vs.length c, .slice B ms.length d] 29)).cell? ⟨w.heap.size, 2, none⟩ = some (.bool fr) := by go_simp
    have q3 : (w.alloc (.cells #[.int .i64 st, .int .i64 ph, .bool fr, .slice A vs.length c, .slice B ms.length d] 29)).cell? ⟨w.heap.size, 3, none⟩ = some (.slice A vs.length c) := by go_simp
    have q4 : (w.alloc (.cells #[.int .i64 st, .int .i64 ph, .bool fr, .slice A vs.length c, .slice B ms.length d] 29)).cell? ⟨w.heap.size, 4, none⟩ = some (.slice B ms.length d) := by go_simp
    clear b00
    cases fr
    case' false => obtain ⟨f, hf⟩ : ∃ f : Int, f = 0 := ⟨_, rfl⟩
    case' true => obtain ⟨f, hf⟩ : ∃ f : Int, f = 1 := ⟨_, rfl⟩
    case false =>
      have HF := hid hf
      clear hf
      go_enter Tryd.func35, Tryd.ntmps35
      go_wp2_with fail
      refine HMAY.out.mono ?_
      rintro e w1 ⟨rfl, b1⟩
      have q0 := keepb b1 q0
      have q1 := keepb b1 q1
      have q2 := keepb b1 q2
      have q3 := keepb b1 q3
      have q4 := keepb b1 q4
      have HB1 := hid (bT HB0.out b1)
      have hz1 : w.heap.size + 1 ≤ w1.heap.size := by have := b1.size; simpa using this
      have HLT := hid (World.ownsRow_lit (base := w1.heap.size) (e := 3) (size := 1) w1 #[.int .i64 st, .int .i64 ph, .int .i64 0, .int .i64 vs.length] 4 (Nat.le_refl _) (by simp [maxLen]) rfl)
      have HLU := hid (World.ownsRow_lit (base := w1.heap.size) (e := 3) (size := 1) w1 #[.int .i64 st, .int .i64 ph, .int .i64 1, .int .i64 vs.length] 4 (Nat.le_refl _) (by simp [maxLen]) rfl)
      have q2a := keepb (bA (Below.refl w1.heap.size w1) (.cells #[.int .i64 st, .int .i64 ph, .int .i64 0, .int .i64 vs.length] 3)) q2
      have q3a := keepb (bA (Below.refl w1.heap.size w1) (.cells #[.int .i64 st, .int .i64 ph, .int .i64 0, .int .i64 vs.length] 3)) q3
      have q4a := keepb (bA (Below.refl w1.heap.size w1) (.cells #[.int .i64 st, .int .i64 ph, .int .i64 0, .int .i64 vs.length] 3)) q4
      go_wp2_with fail
      go_loopw [4, 5] (fun s i wr => NRel w1.heap.size [st, ph, f, (vs.length : Int)] numsV vs w1 s i wr) (fun _ i _ => vs.length - (intOf i).toNat)
      case atStart =>
        refine ⟨0, 4, _, _, by omega, rfl, rfl, rfl, hid ?_, ?_⟩
        · rw [HF.out]
          first
          | exact HLT.out
          | exact HLU.out
        · exact bA (Below.refl _ _) _
      case round =>
        have q4w := q4
        clear q0 q1 q2 q2a q3a q4a HLT HLU
        obtain ⟨k, N, A4, c4, hkl, rfl, hN, rfl, HOWN, hbel⟩ := hrel
        have HN := hid hN
        have hN2 : N ≤ 20000 := by simp only [List.length_cons, List.length_nil] at hN; omega
        clear hN
        have hb0 := bT HB1.out hbel
        have q3 := keepb hbel q3
        have q4 := keepb hbel q4
        have hsz := hbel.size
        by_cases hlt : k < vs.length
        · obtain ⟨x, hx⟩ : ∃ x, vs[k]? = some x := ⟨_, List.getElem?_eq_getElem hlt⟩
          obtain ⟨b, off, rfl, hb, c0, c1⟩ := vals_cells (hv.below hb0) rfl hx
          have hkz : (k : Int) < (vs.length : Int) := by omega
          have hox := HO5.out x (List.mem_of_getElem? hx)
          obtain ⟨xa, xl⟩ := x
          obtain ⟨⟨h1, h2⟩, h3, h4⟩ := hox
          simp only at c0 c1 h1 h2 h3 h4
          have HT : Hid (numsV (vs.take (k + 1)) = numsV (vs.take k) ++ [xa + 1, xl + 1]) := hid (by rw [take_nextV hx, numsV_snoc])
          have hw1 : IntKind.i64.wrap (xa + 1) = xa + 1 := IntWalk.i64_in _ (by omega)
          have hw2 : IntKind.i64.wrap (xl + 1) = xl + 1 := IntWalk.i64_in _ (by omega)
          have hSZ : (N + 2) * 8 ≤ 140737488355328 := by omega
          clear hx h1 h2 h3 h4 hb0
          have HK : Hid (∀ V, Below wr.heap.size wr V → ((fun V => Below wr.heap.size wr V ∧ V.cell? ⟨w.heap.size, 3, none⟩ = some (.slice (some ⟨b, off, none⟩) vs.length c) ∧ V.cell? ⟨b, off + k * 2, none⟩ = some (.int .i64 xa) ∧ V.cell? ⟨b, off + k * 2 + 1, none⟩ = some (.int .i64 xl)) : World → Prop) V) := hid fun V hV => ⟨hV, keepb hV q3, keepb hV c0, keepb hV c1⟩
          go_wp2_with fail
          refine wp_region_F (S := (fun V => Below wr.heap.size wr V ∧ V.cell? ⟨w.heap.size, 3, none⟩ = some (.slice (some ⟨b, off, none⟩) vs.length c) ∧ V.cell? ⟨b, off + k * 2, none⟩ = some (.int .i64 xa) ∧ V.cell? ⟨b, off + k * 2 + 1, none⟩ = some (.int .i64 xl))) [16] (by kernel_rfl) (HK.out _ (bD (Below.refl _ _))) (fun hHeld => ?_)
          refine wpAnyF_pure (i := 0) (v := ?vg1_1_0) rfl (by kernel_rfl) (by kernel_rfl) (by kernel_rfl) (fun _ _ _ h => h) (Or.inl ⟨by rfl, ?hyg1_1_0⟩) ?restg1_1_0
          case hyg1_1_0 => (intro w hSw; clear hSw; go_simp; (all_goals with_reducible rfl))
          try simp only [Act.put, List.setIfInBounds_toArray, List.set_cons_zero, List.set_cons_succ, List.getElem_toArray, List.getElem_cons_succ, List.getElem_cons_zero]
          refine wpAnyF_pure (i := 1) (v := ?vg1_2_1) rfl (by kernel_rfl) (by kernel_rfl) (by kernel_rfl) (fun _ _ _ h => h) (Or.inl ⟨by rfl, ?hyg1_2_1⟩) ?restg1_2_1
          case hyg1_2_1 => (intro w hSw; clear hSw; go_simp; (all_goals with_reducible rfl))
          try simp only [Act.put, List.setIfInBounds_toArray, List.set_cons_zero, List.set_cons_succ, List.getElem_toArray, List.getElem_cons_succ, List.getElem_cons_zero]
          refine wpAnyF_pure (i := 3) (v := ?vg1_3_3) rfl (by kernel_rfl) (by kernel_rfl) (by kernel_rfl) (fun _ _ _ h => h) (Or.inl ⟨by rfl, ?hyg1_3_3⟩) ?restg1_3_3
          case hyg1_3_3 => (intro w hSw; clear hSw; go_simp; (all_goals with_reducible rfl))
          try simp only [Act.put, List.setIfInBounds_toArray, List.set_cons_zero, List.set_cons_succ, List.getElem_toArray, List.getElem_cons_succ, List.getElem_cons_zero]
          refine wpAnyF_pure (i := 8) (v := ?vg1_4_8) rfl (by kernel_rfl) (by kernel_rfl) (by kernel_rfl) (fun _ _ _ h => h) (Or.inl ⟨by rfl, ?hyg1_4_8⟩) ?restg1_4_8
          case hyg1_4_8 => (intro w hSw; clear hSw; go_simp; (all_goals with_reducible rfl))
          try simp only [Act.put, List.setIfInBounds_toArray, List.set_cons_zero, List.set_cons_succ, List.getElem_toArray, List.getElem_cons_succ, List.getElem_cons_zero]
          refine wpAnyF_pure (i := 10) (v := ?vg1_5_10) rfl (by kernel_rfl) (by kernel_rfl) (by kernel_rfl) (fun _ _ _ h => h) (Or.inl ⟨by rfl, ?hyg1_5_10⟩) ?restg1_5_10
          case hyg1_5_10 => (intro w hSw; clear hSw; go_simp; (all_goals with_reducible rfl))
          try simp only [Act.put, List.setIfInBounds_toArray, List.set_cons_zero, List.set_cons_succ, List.getElem_toArray, List.getElem_cons_succ, List.getElem_cons_zero]
          refine wpAnyF_take [4, 5, 6, 7, 15, 16, 17] (i := 2) (v := ?vg1_6_2) rfl (by kernel_rfl) (by kernel_rfl) (by kernel_rfl) (by kernel_rfl) (fun _ _ _ h => h) (Or.inl ⟨by rfl, ?hyg1_6_2⟩) (by assumption) ?restg1_6_2
          case hyg1_6_2 => (intro w hSw; (try dsimp only at hSw); go_simp; (all_goals with_reducible rfl))
          try simp only [Act.put, List.setIfInBounds_toArray, List.set_cons_zero, List.set_cons_succ, List.getElem_toArray, List.getElem_cons_succ, List.getElem_cons_zero]
          refine wpAnyF_pure (i := 4) (v := ?vg1_7_4) rfl (by kernel_rfl) (by kernel_rfl) (by kernel_rfl) (fun _ _ _ h => h) (Or.inl ⟨by rfl, ?hyg1_7_4⟩) ?restg1_7_4
          case hyg1_7_4 => (intro w hSw; clear hSw; go_simp; (all_goals with_reducible rfl))
          try simp only [Act.put, List.setIfInBounds_toArray, List.set_cons_zero, List.set_cons_succ, List.getElem_toArray, List.getElem_cons_succ, List.getElem_cons_zero]
          refine wpAnyF_pure (i := 5) (v := ?vg1_8_5) rfl (by kernel_rfl) (by kernel_rfl) (by kernel_rfl) (fun _ _ _ h => h) (Or.inl ⟨by rfl, ?hyg1_8_5⟩) ?restg1_8_5
          case hyg1_8_5 => (intro w hSw; clear hSw; go_simp; (all_goals with_reducible rfl))
          try simp only [Act.put, List.setIfInBounds_toArray, List.set_cons_zero, List.set_cons_succ, List.getElem_toArray, List.getElem_cons_succ, List.getElem_cons_zero]
          refine wpAnyF_take [7, 15, 16, 17] (i := 6) (v := ?vg1_9_6) rfl (by kernel_rfl) (by kernel_rfl) (by kernel_rfl) (by kernel_rfl) (fun _ _ _ h => h) (Or.inl ⟨by rfl, ?hyg1_9_6⟩) (by assumption) ?restg1_9_6
          case hyg1_9_6 => (intro w hSw; (try dsimp only at hSw); go_simp; (all_goals with_reducible rfl))
          try simp only [Act.put, List.setIfInBounds_toArray, List.set_cons_zero, List.set_cons_succ, List.getElem_toArray, List.getElem_cons_succ, List.getElem_cons_zero]
          refine wpAnyF_pure (i := 7) (v := ?vg1_10_7) rfl (by kernel_rfl) (by kernel_rfl) (by kernel_rfl) (fun _ _ _ h => h) (Or.inl ⟨by rfl, ?hyg1_10_7⟩) ?restg1_10_7
          case hyg1_10_7 => (intro w hSw; clear hSw; go_simp; (all_goals with_reducible rfl))
          try simp only [Act.put, List.setIfInBounds_toArray, List.set_cons_zero, List.set_cons_succ, List.getElem_toArray, List.getElem_cons_succ, List.getElem_cons_zero]
          refine wpAnyF_take [11, 12, 13, 14, 15, 16, 17] (i := 9) (v := ?vg1_11_9) rfl (by kernel_rfl) (by kernel_rfl) (by kernel_rfl) (by kernel_rfl) (fun _ _ _ h => h) (Or.inl ⟨by rfl, ?hyg1_11_9⟩) (by assumption) ?restg1_11_9
          case hyg1_11_9 => (intro w hSw; (try dsimp only at hSw); go_simp; (all_goals with_reducible rfl))
          try simp only [Act.put, List.setIfInBounds_toArray, List.set_cons_zero, List.set_cons_succ, List.getElem_toArray, List.getElem_cons_succ, List.getElem_cons_zero]
          refine wpAnyF_pure (i := 11) (v := ?vg1_12_11) rfl (by kernel_rfl) (by kernel_rfl) (by kernel_rfl) (fun _ _ _ h => h) (Or.inl ⟨by rfl, ?hyg1_12_11⟩) ?restg1_12_11
          case hyg1_12_11 => (intro w hSw; clear hSw; go_simp; (all_goals with_reducible rfl))
          try simp only [Act.put, List.setIfInBounds_toArray, List.set_cons_zero, List.set_cons_succ, List.getElem_toArray, List.getElem_cons_succ, List.getElem_cons_zero]
          refine wpAnyF_pure (i := 12) (v := ?vg1_13_12) rfl (by kernel_rfl) (by kernel_rfl) (by kernel_rfl) (fun _ _ _ h => h) (Or.inl ⟨by rfl, ?hyg1_13_12⟩) ?restg1_13_12
          case hyg1_13_12 => (intro w hSw; clear hSw; go_simp; (all_goals with_reducible rfl))
          try simp only [Act.put, List.setIfInBounds_toArray, List.set_cons_zero, List.set_cons_succ, List.getElem_toArray, List.getElem_cons_succ, List.getElem_cons_zero]
          refine wpAnyF_take [14, 15, 16, 17] (i := 13) (v := ?vg1_14_13) rfl (by kernel_rfl) (by kernel_rfl) (by kernel_rfl) (by kernel_rfl) (fun _ _ _ h => h) (Or.inl ⟨by rfl, ?hyg1_14_13⟩) (by assumption) ?restg1_14_13
          case hyg1_14_13 => (intro w hSw; (try dsimp only at hSw); go_simp; (all_goals with_reducible rfl))
          try simp only [Act.put, List.setIfInBounds_toArray, List.set_cons_zero, List.set_cons_succ, List.getElem_toArray, List.getElem_cons_succ, List.getElem_cons_zero]
          refine wpAnyF_pure (i := 14) (v := ?vg1_15_14) rfl (by kernel_rfl) (by kernel_rfl) (by kernel_rfl) (fun _ _ _ h => h) (Or.inl ⟨by rfl, ?hyg1_15_14⟩) ?restg1_15_14
          case hyg1_15_14 => (intro w hSw; clear hSw; go_simp; (all_goals with_reducible rfl))
          try simp only [Act.put, List.setIfInBounds_toArray, List.set_cons_zero, List.set_cons_succ, List.getElem_toArray, List.getElem_cons_succ, List.getElem_cons_zero]
          refine wpAnyF_one (i := 15) (by kernel_rfl) rfl (fun K hK => ?_)
          go_simp
          refine hK.out _ _ (HK.out _ (bD (bA (Below.refl _ _) _))) (fun hHeld => ?_)
          clear hK K
          try simp only [Act.put, List.setIfInBounds_toArray, List.set_cons_zero, List.set_cons_succ, List.getElem_toArray, List.getElem_cons_succ, List.getElem_cons_zero]
          refine wpAnyF_oneD (i := 16) (by kernel_rfl) (by kernel_rfl) rfl (fun K hK => ?_)
          refine step_app3 rfl rfl el_ints rfl (own_below HOWN.out hHeld.1 (Nat.le_refl _)) rfl (rd_newAt _ _ _ 1 2 _ (by simp) rfl).drew (two_ints _ _) hSZ (by have := hHeld.1.size; omega) ?_
          intro A3 c3 w3 o3 b3 g3 h3
          have HO3 := hid o3
          have HB3 := hid b3
          have HB4 := hid hHeld.1
          clear o3 g3 h3 b3
          refine hK.out _ _ ?_
          clear hK K
          try simp only [Act.put, List.setIfInBounds_toArray, List.set_cons_zero, List.set_cons_succ, List.getElem_toArray, List.getElem_cons_succ, List.getElem_cons_zero]
          refine wpAnyF_pure (i := 17) (v := ?vg1_18_17) rfl (by kernel_rfl) (by kernel_rfl) (by kernel_rfl) (fun _ _ _ h => h) (Or.inl ⟨by rfl, ?hyg1_18_17⟩) ?restg1_18_17
          case hyg1_18_17 => (intro w hSw; clear hSw; go_simp; (all_goals with_reducible rfl))
          try simp only [Act.put, List.setIfInBounds_toArray, List.set_cons_zero, List.set_cons_succ, List.getElem_toArray, List.getElem_cons_succ, List.getElem_cons_zero]
          refine wpAnyF_done (by kernel_rfl) ?_ _
          go_wp2_with fail
          go_roundw
          case rel => exact ⟨k + 1, N + 2, A3, c3, by omega, by go_num, by have := HN.out; omega, rfl, hid (by rw [HT.out, ← List.append_assoc, List.flatMap_append]; exact HO3.out), (bT hbel HB4.out).trans (HB3.out.mono (by omega))⟩
          case measure => simp [intOf]; omega
        · obtain rfl : k = vs.length := by omega
          have hkz : ¬ ((vs.length : Int) < (vs.length : Int)) := by omega
          rw [List.take_length] at HOWN
          have hSZ : (N + 1) * 8 ≤ 140737488355328 := by omega
          go_wp2_with (at_builtin; refine wp_app3 _ rfl rfl el_ints rfl (own_below HOWN.out (bA (Below.refl _ _) _) (Nat.le_refl _)) rfl (rd_new _ _ _ 1 1 rfl) (one1 _ _) hSZ (Nat.le_trans hsz (by simp)) ?_; intro A5 c5 w5 o5 b5 g5 h5)
          have HO5' := hid o5
          have HB5 := hid ((hbel.trans (bA (Below.refl wr.heap.size wr) _ |>.mono hsz)).trans b5)
          have q4b := keepb HB5.out q4w
          have HN5 : Hid (([st, ph, f, (vs.length : Int)] ++ numsV vs ++ [(ms.length : Int)]).length = N + 1) := hid (by have := HN.out; rw [List.length_append, List.length_append, numsV_len]; simp only [List.length_cons, List.length_nil] at *; omega)
          clear q3 o5 b5 g5 h5 HOWN hbel hb0 hkz
          have q4 := q4b
          go_wp2_with fail
          go_loopw [4, 6] (fun s i wr => NRel w1.heap.size ([st, ph, f, (vs.length : Int)] ++ numsV vs ++ [(ms.length : Int)]) numsM ms w1 s i wr) (fun _ i _ => ms.length - (intOf i).toNat)
          case atStart => exact ⟨0, N + 1, _, _, by omega, rfl, by rw [HN5.out], rfl, hid (by rw [List.take_zero, show numsM [] = [] from rfl, List.append_nil, List.flatMap_append]; exact HO5'.out), HB5.out⟩
          case round =>
            clear HO5' HB5 HN q4
            obtain ⟨m, N2, A4, c4, hml, rfl, hN, rfl, HOWN, hbel⟩ := hrel
            rw [HN5.out] at hN
            have HN2 := hid hN
            have hN3 : N2 ≤ 40000 := by omega
            clear hN hSZ
            have hb0 := bT HB1.out hbel
            have q4 := keepb hbel q4w
            have hsz := hbel.size
            by_cases hlm : m < ms.length
            · obtain ⟨x, hx⟩ : ∃ x, ms[m]? = some x := ⟨_, List.getElem?_eq_getElem hlm⟩
              obtain ⟨b, off, rfl, hb, c0, c1⟩ := mail_cells (hm.below hb0) rfl hx
              have hmz : (m : Int) < (ms.length : Int) := by omega
              obtain ⟨xa, xl⟩ := x
              simp only at c0 c1
              have HT : Hid (numsM (ms.take (m + 1)) = numsM (ms.take m) ++ [xa, xl]) := hid (by rw [take_nextV hx, numsM_snoc])
              have hSZ : (N2 + 2) * 8 ≤ 140737488355328 := by omega
              clear hx hb0
              have HK : Hid (∀ V, Below wr.heap.size wr V → ((fun V => Below wr.heap.size wr V ∧ V.cell? ⟨w.heap.size, 4, none⟩ = some (.slice (some ⟨b, off, none⟩) ms.length d) ∧ V.cell? ⟨b, off + m * 2, none⟩ = some (.int .i64 xa) ∧ V.cell? ⟨b, off + m * 2 + 1, none⟩ = some (.int .i64 xl)) : World → Prop) V) := hid fun V hV => ⟨hV, keepb hV q4, keepb hV c0, keepb hV c1⟩
              go_wp2_with fail
              refine wp_region_F (S := (fun V => Below wr.heap.size wr V ∧ V.cell? ⟨w.heap.size, 4, none⟩ = some (.slice (some ⟨b, off, none⟩) ms.length d) ∧ V.cell? ⟨b, off + m * 2, none⟩ = some (.int .i64 xa) ∧ V.cell? ⟨b, off + m * 2 + 1, none⟩ = some (.int .i64 xl))) [14] (by kernel_rfl) (HK.out _ (bD (Below.refl _ _))) (fun hHeld => ?_)
              refine wpAnyF_pure (i := 0) (v := ?vg2_1_0) rfl (by kernel_rfl) (by kernel_rfl) (by kernel_rfl) (fun _ _ _ h => h) (Or.inl ⟨by rfl, ?hyg2_1_0⟩) ?restg2_1_0
              case hyg2_1_0 => (intro w hSw; clear hSw; go_simp; (all_goals with_reducible rfl))
              try simp only [Act.put, List.setIfInBounds_toArray, List.set_cons_zero, List.set_cons_succ, List.getElem_toArray, List.getElem_cons_succ, List.getElem_cons_zero]
              refine wpAnyF_pure (i := 1) (v := ?vg2_2_1) rfl (by kernel_rfl) (by kernel_rfl) (by kernel_rfl) (fun _ _ _ h => h) (Or.inl ⟨by rfl, ?hyg2_2_1⟩) ?restg2_2_1
              case hyg2_2_1 => (intro w hSw; clear hSw; go_simp; (all_goals with_reducible rfl))
              try simp only [Act.put, List.setIfInBounds_toArray, List.set_cons_zero, List.set_cons_succ, List.getElem_toArray, List.getElem_cons_succ, List.getElem_cons_zero]
              refine wpAnyF_pure (i := 3) (v := ?vg2_3_3) rfl (by kernel_rfl) (by kernel_rfl) (by kernel_rfl) (fun _ _ _ h => h) (Or.inl ⟨by rfl, ?hyg2_3_3⟩) ?restg2_3_3
              case hyg2_3_3 => (intro w hSw; clear hSw; go_simp; (all_goals with_reducible rfl))
              try simp only [Act.put, List.setIfInBounds_toArray, List.set_cons_zero, List.set_cons_succ, List.getElem_toArray, List.getElem_cons_succ, List.getElem_cons_zero]
              refine wpAnyF_pure (i := 7) (v := ?vg2_4_7) rfl (by kernel_rfl) (by kernel_rfl) (by kernel_rfl) (fun _ _ _ h => h) (Or.inl ⟨by rfl, ?hyg2_4_7⟩) ?restg2_4_7
              case hyg2_4_7 => (intro w hSw; clear hSw; go_simp; (all_goals with_reducible rfl))
              try simp only [Act.put, List.setIfInBounds_toArray, List.set_cons_zero, List.set_cons_succ, List.getElem_toArray, List.getElem_cons_succ, List.getElem_cons_zero]
              refine wpAnyF_pure (i := 9) (v := ?vg2_5_9) rfl (by kernel_rfl) (by kernel_rfl) (by kernel_rfl) (fun _ _ _ h => h) (Or.inl ⟨by rfl, ?hyg2_5_9⟩) ?restg2_5_9
              case hyg2_5_9 => (intro w hSw; clear hSw; go_simp; (all_goals with_reducible rfl))
              try simp only [Act.put, List.setIfInBounds_toArray, List.set_cons_zero, List.set_cons_succ, List.getElem_toArray, List.getElem_cons_succ, List.getElem_cons_zero]
              refine wpAnyF_take [4, 5, 6, 13, 14, 15] (i := 2) (v := ?vg2_6_2) rfl (by kernel_rfl) (by kernel_rfl) (by kernel_rfl) (by kernel_rfl) (fun _ _ _ h => h) (Or.inl ⟨by rfl, ?hyg2_6_2⟩) (by assumption) ?restg2_6_2
              case hyg2_6_2 => (intro w hSw; (try dsimp only at hSw); go_simp; (all_goals with_reducible rfl))
              try simp only [Act.put, List.setIfInBounds_toArray, List.set_cons_zero, List.set_cons_succ, List.getElem_toArray, List.getElem_cons_succ, List.getElem_cons_zero]
              refine wpAnyF_pure (i := 4) (v := ?vg2_7_4) rfl (by kernel_rfl) (by kernel_rfl) (by kernel_rfl) (fun _ _ _ h => h) (Or.inl ⟨by rfl, ?hyg2_7_4⟩) ?restg2_7_4
              case hyg2_7_4 => (intro w hSw; clear hSw; go_simp; (all_goals with_reducible rfl))
              try simp only [Act.put, List.setIfInBounds_toArray, List.set_cons_zero, List.set_cons_succ, List.getElem_toArray, List.getElem_cons_succ, List.getElem_cons_zero]
              refine wpAnyF_pure (i := 5) (v := ?vg2_8_5) rfl (by kernel_rfl) (by kernel_rfl) (by kernel_rfl) (fun _ _ _ h => h) (Or.inl ⟨by rfl, ?hyg2_8_5⟩) ?restg2_8_5
              case hyg2_8_5 => (intro w hSw; clear hSw; go_simp; (all_goals with_reducible rfl))
              try simp only [Act.put, List.setIfInBounds_toArray, List.set_cons_zero, List.set_cons_succ, List.getElem_toArray, List.getElem_cons_succ, List.getElem_cons_zero]
              refine wpAnyF_take [13, 14, 15] (i := 6) (v := ?vg2_9_6) rfl (by kernel_rfl) (by kernel_rfl) (by kernel_rfl) (by kernel_rfl) (fun _ _ _ h => h) (Or.inl ⟨by rfl, ?hyg2_9_6⟩) (by assumption) ?restg2_9_6
              case hyg2_9_6 => (intro w hSw; (try dsimp only at hSw); go_simp; (all_goals with_reducible rfl))
              try simp only [Act.put, List.setIfInBounds_toArray, List.set_cons_zero, List.set_cons_succ, List.getElem_toArray, List.getElem_cons_succ, List.getElem_cons_zero]
              refine wpAnyF_take [10, 11, 12, 13, 14, 15] (i := 8) (v := ?vg2_10_8) rfl (by kernel_rfl) (by kernel_rfl) (by kernel_rfl) (by kernel_rfl) (fun _ _ _ h => h) (Or.inl ⟨by rfl, ?hyg2_10_8⟩) (by assumption) ?restg2_10_8
              case hyg2_10_8 => (intro w hSw; (try dsimp only at hSw); go_simp; (all_goals with_reducible rfl))
              try simp only [Act.put, List.setIfInBounds_toArray, List.set_cons_zero, List.set_cons_succ, List.getElem_toArray, List.getElem_cons_succ, List.getElem_cons_zero]
              refine wpAnyF_pure (i := 10) (v := ?vg2_11_10) rfl (by kernel_rfl) (by kernel_rfl) (by kernel_rfl) (fun _ _ _ h => h) (Or.inl ⟨by rfl, ?hyg2_11_10⟩) ?restg2_11_10
              case hyg2_11_10 => (intro w hSw; clear hSw; go_simp; (all_goals with_reducible rfl))
              try simp only [Act.put, List.setIfInBounds_toArray, List.set_cons_zero, List.set_cons_succ, List.getElem_toArray, List.getElem_cons_succ, List.getElem_cons_zero]
              refine wpAnyF_pure (i := 11) (v := ?vg2_12_11) rfl (by kernel_rfl) (by kernel_rfl) (by kernel_rfl) (fun _ _ _ h => h) (Or.inl ⟨by rfl, ?hyg2_12_11⟩) ?restg2_12_11
              case hyg2_12_11 => (intro w hSw; clear hSw; go_simp; (all_goals with_reducible rfl))
              try simp only [Act.put, List.setIfInBounds_toArray, List.set_cons_zero, List.set_cons_succ, List.getElem_toArray, List.getElem_cons_succ, List.getElem_cons_zero]
              refine wpAnyF_take [13, 14, 15] (i := 12) (v := ?vg2_13_12) rfl (by kernel_rfl) (by kernel_rfl) (by kernel_rfl) (by kernel_rfl) (fun _ _ _ h => h) (Or.inl ⟨by rfl, ?hyg2_13_12⟩) (by assumption) ?restg2_13_12
              case hyg2_13_12 => (intro w hSw; (try dsimp only at hSw); go_simp; (all_goals with_reducible rfl))
              try simp only [Act.put, List.setIfInBounds_toArray, List.set_cons_zero, List.set_cons_succ, List.getElem_toArray, List.getElem_cons_succ, List.getElem_cons_zero]
              refine wpAnyF_one (i := 13) (by kernel_rfl) rfl (fun K hK => ?_)
              go_simp
              refine hK.out _ _ (HK.out _ (bD (bA (Below.refl _ _) _))) (fun hHeld => ?_)
              clear hK K
              try simp only [Act.put, List.setIfInBounds_toArray, List.set_cons_zero, List.set_cons_succ, List.getElem_toArray, List.getElem_cons_succ, List.getElem_cons_zero]
              refine wpAnyF_oneD (i := 14) (by kernel_rfl) (by kernel_rfl) rfl (fun K hK => ?_)
              refine step_app3 rfl rfl el_ints rfl (own_below HOWN.out hHeld.1 (Nat.le_refl _)) rfl (rd_newAt _ _ _ 1 2 _ (by simp) rfl).drew (two_ints _ _) hSZ (by have := hHeld.1.size; omega) ?_
              intro A3 c3 w3 o3 b3 g3 h3
              have HO3 := hid o3
              have HB3 := hid b3
              have HB4 := hid hHeld.1
              clear o3 g3 h3 b3
              refine hK.out _ _ ?_
              clear hK K
              try simp only [Act.put, List.setIfInBounds_toArray, List.set_cons_zero, List.set_cons_succ, List.getElem_toArray, List.getElem_cons_succ, List.getElem_cons_zero]
              refine wpAnyF_pure (i := 15) (v := ?vg2_16_15) rfl (by kernel_rfl) (by kernel_rfl) (by kernel_rfl) (fun _ _ _ h => h) (Or.inl ⟨by rfl, ?hyg2_16_15⟩) ?restg2_16_15
              case hyg2_16_15 => (intro w hSw; clear hSw; go_simp; (all_goals with_reducible rfl))
              try simp only [Act.put, List.setIfInBounds_toArray, List.set_cons_zero, List.set_cons_succ, List.getElem_toArray, List.getElem_cons_succ, List.getElem_cons_zero]
              refine wpAnyF_done (by kernel_rfl) ?_ _
              go_wp2_with fail
              go_roundw
              case rel => exact ⟨m + 1, N2 + 2, A3, c3, by omega, by go_num, by rw [HN5.out]; have := HN2.out; omega, rfl, hid (by rw [HT.out, ← List.append_assoc, List.flatMap_append]; exact HO3.out), (bT hbel HB4.out).trans (HB3.out.mono (by omega))⟩
              case measure => simp [intOf]; omega
            · obtain rfl : m = ms.length := by omega
              have hmz : ¬ ((ms.length : Int) < (ms.length : Int)) := by omega
              rw [List.take_length] at HOWN
              have HLN : Hid (NS.length = N2) := hid (by have h1 := HN2.out; have h2 := HNL.out; have h3 := HN5.out; rw [List.length_append, List.length_append, numsV_len] at h3; simp only [List.length_cons, List.length_nil] at *; omega)
              have hE : NS = [st, ph, f, (vs.length : Int)] ++ numsV vs ++ [(ms.length : Int)] ++ numsM ms := by rw [HNS.out, HF.out]; rfl
              have HON : Hid (wr.ownsRow w1.heap.size 3 1 (.slice A4 N2 c4) N2 (NS.flatMap i64c)) := hid (by have h := HOWN.out; rw [← hE] at h; exact h)
              clear hE
              clear HOWN HN2 HN5 HNS q4w
              have HRD := hid (rd_own HON.out)
              clear HON
              go_wp2_with fail
              go_loopw [7, 8] (fun s i wp => BRel NS wr s i wp) (fun _ i _ => NS.length - (intOf i).toNat)
              case atStart => exact ⟨0, none, 0, by omega, rfl, rfl, hid (World.ownsRow_nil _ _ _ _), Below.refl _ _⟩
              case round =>
                obtain ⟨j, A6, c6, hj, rfl, rfl, HOB, hbb⟩ := hrel
                have hb1 := bT hb0 hbb
                have hsz6 := hbb.size
                have hjN : j ≤ N2 := by have := HLN.out; omega
                by_cases hlj : j < N2
                · obtain ⟨x, hx⟩ : ∃ x, NS[j]? = some x := ⟨_, List.getElem?_eq_getElem (by have := HLN.out; omega)⟩
                  obtain ⟨b, off, rfl, hb, hcs⟩ := (HRD.out.below hbb).at_ hlj
                  have cx := hcs _ _ (flat_i64_get hx)
                  have hjz : (j : Int) < (N2 : Int) := by omega
                  have hx0 := HU.out x (List.mem_of_getElem? hx)
                  have HPUT := hid (fun W => packed_any x hx0.1 (by omega) W)
                  have hwx : IntKind.u64.wrap x = x := IntWalk.u64_in _ (by omega)
                  have HPN : Hid (packs (NS.take (j + 1)) = packs (NS.take j) ++ pack x) := hid (by rw [take_nextV hx, packs_append, packs_one])
                  have hSZ : ((packs (NS.take j)).length + (pack x).length) * 1 ≤ 140737488355328 := by
                    have h1 := HNP.out j
                    have h2 := (pack_len x).1
                    rw [List.length_take] at h1
                    omega
                  clear hx hx0 hcs
                  go_wp2_with fail
                  refine (HPUT.out _).mono ?_
                  rintro e w7 ⟨A7, c7, rfl, o7, b7⟩
                  have HO7 := hid o7
                  clear o7
                  go_wp2_with (at_builtin; refine wp_app3 _ rfl rfl el_bytes rfl (own_below HOB.out b7 (Nat.le_refl _)) rfl (rd_own HO7.out) (one_u8 _) hSZ (Nat.le_trans hsz6 b7.size) ?_; intro A8 c8 w8 o8 b8 g8 h8)
                  have HO8 := hid o8
                  clear o8 g8 h8
                  go_wp2_with fail
                  go_roundw
                  case rel => exact ⟨j + 1, A8, c8, by have := HLN.out; omega, by go_num, by rw [HPN.out, List.length_append], hid (by rw [HPN.out, List.length_append, List.flatMap_append]; exact HO8.out), (bT hbb b7).trans b8⟩
                  case measure => simp [intOf]; have := HLN.out; omega
                · obtain rfl : j = N2 := by omega
                  have hjz : ¬ ((j : Int) < (j : Int)) := by omega
                  have e1 : packs (NS.take j) = P := by rw [← HLN.out, List.take_length, HP.out]
                  rw [e1] at HOB
                  rw [e1]
                  have HWR := hid (wrapped_walk P wr A6 P.length c6 (rd_own HOB.out) rfl HPB.out (by have := HPL.out; have := HNL.out; omega))
                  clear e1
                  go_wp2_with fail
                  refine HWR.out.mono ?_
                  rintro e w9 ⟨A9, c9, rfl, o9, b9⟩
                  have HO9 := hid o9
                  clear o9
                  go_wp2_with fail
                  go_ret2
                  exact ⟨A9, c9, rfl, own_more HO9.out hb1.size, bT hb1 b9⟩
    case true =>
      have HF := hid hf
      clear hf
      go_enter Tryd.func35, Tryd.ntmps35
      go_wp2_with fail
      refine HMAY.out.mono ?_
      rintro e w1 ⟨rfl, b1⟩
      have q0 := keepb b1 q0
      have q1 := keepb b1 q1
      have q2 := keepb b1 q2
      have q3 := keepb b1 q3
      have q4 := keepb b1 q4
      have HB1 := hid (bT HB0.out b1)
      have hz1 : w.heap.size + 1 ≤ w1.heap.size := by have := b1.size; simpa using this
      have HLT := hid (World.ownsRow_lit (base := w1.heap.size) (e := 3) (size := 1) w1 #[.int .i64 st, .int .i64 ph, .int .i64 0, .int .i64 vs.length] 4 (Nat.le_refl _) (by simp [maxLen]) rfl)
      have HLU := hid (World.ownsRow_lit (base := w1.heap.size) (e := 3) (size := 1) w1 #[.int .i64 st, .int .i64 ph, .int .i64 1, .int .i64 vs.length] 4 (Nat.le_refl _) (by simp [maxLen]) rfl)
      have q2a := keepb (bA (Below.refl w1.heap.size w1) (.cells #[.int .i64 st, .int .i64 ph, .int .i64 0, .int .i64 vs.length] 3)) q2
      have q3a := keepb (bA (Below.refl w1.heap.size w1) (.cells #[.int .i64 st, .int .i64 ph, .int .i64 0, .int .i64 vs.length] 3)) q3
      have q4a := keepb (bA (Below.refl w1.heap.size w1) (.cells #[.int .i64 st, .int .i64 ph, .int .i64 0, .int .i64 vs.length] 3)) q4
      go_wp2_with fail
      go_loopw [4, 5] (fun s i wr => NRel w1.heap.size [st, ph, f, (vs.length : Int)] numsV vs w1 s i wr) (fun _ i _ => vs.length - (intOf i).toNat)
      case atStart =>
        refine ⟨0, 4, _, _, by omega, rfl, rfl, rfl, hid ?_, ?_⟩
        · rw [HF.out]
          first
          | exact HLT.out
          | exact HLU.out
        · exact bA (Below.refl _ _) _
      case round =>
        have q4w := q4
        clear q0 q1 q2 q2a q3a q4a HLT HLU
        obtain ⟨k, N, A4, c4, hkl, rfl, hN, rfl, HOWN, hbel⟩ := hrel
        have HN := hid hN
        have hN2 : N ≤ 20000 := by simp only [List.length_cons, List.length_nil] at hN; omega
        clear hN
        have hb0 := bT HB1.out hbel
        have q3 := keepb hbel q3
        have q4 := keepb hbel q4
        have hsz := hbel.size
        by_cases hlt : k < vs.length
        · obtain ⟨x, hx⟩ : ∃ x, vs[k]? = some x := ⟨_, List.getElem?_eq_getElem hlt⟩
          obtain ⟨b, off, rfl, hb, c0, c1⟩ := vals_cells (hv.below hb0) rfl hx
          have hkz : (k : Int) < (vs.length : Int) := by omega
          have hox := HO5.out x (List.mem_of_getElem? hx)
          obtain ⟨xa, xl⟩ := x
          obtain ⟨⟨h1, h2⟩, h3, h4⟩ := hox
          simp only at c0 c1 h1 h2 h3 h4
          have HT : Hid (numsV (vs.take (k + 1)) = numsV (vs.take k) ++ [xa + 1, xl + 1]) := hid (by rw [take_nextV hx, numsV_snoc])
          have hw1 : IntKind.i64.wrap (xa + 1) = xa + 1 := IntWalk.i64_in _ (by omega)
          have hw2 : IntKind.i64.wrap (xl + 1) = xl + 1 := IntWalk.i64_in _ (by omega)
          have hSZ : (N + 2) * 8 ≤ 140737488355328 := by omega
          clear hx h1 h2 h3 h4 hb0
          have HK : Hid (∀ V, Below wr.heap.size wr V → ((fun V => Below wr.heap.size wr V ∧ V.cell? ⟨w.heap.size, 3, none⟩ = some (.slice (some ⟨b, off, none⟩) vs.length c) ∧ V.cell? ⟨b, off + k * 2, none⟩ = some (.int .i64 xa) ∧ V.cell? ⟨b, off + k * 2 + 1, none⟩ = some (.int .i64 xl)) : World → Prop) V) := hid fun V hV => ⟨hV, keepb hV q3, keepb hV c0, keepb hV c1⟩
          go_wp2_with fail
          refine wp_region_F (S := (fun V => Below wr.heap.size wr V ∧ V.cell? ⟨w.heap.size, 3, none⟩ = some (.slice (some ⟨b, off, none⟩) vs.length c) ∧ V.cell? ⟨b, off + k * 2, none⟩ = some (.int .i64 xa) ∧ V.cell? ⟨b, off + k * 2 + 1, none⟩ = some (.int .i64 xl))) [16] (by kernel_rfl) (HK.out _ (bD (Below.refl _ _))) (fun hHeld => ?_)
          refine wpAnyF_pure (i := 0) (v := ?vg3_1_0) rfl (by kernel_rfl) (by kernel_rfl) (by kernel_rfl) (fun _ _ _ h => h) (Or.inl ⟨by rfl, ?hyg3_1_0⟩) ?restg3_1_0
          case hyg3_1_0 => (intro w hSw; clear hSw; go_simp; (all_goals with_reducible rfl))
          try simp only [Act.put, List.setIfInBounds_toArray, List.set_cons_zero, List.set_cons_succ, List.getElem_toArray, List.getElem_cons_succ, List.getElem_cons_zero]
          refine wpAnyF_pure (i := 1) (v := ?vg3_2_1) rfl (by kernel_rfl) (by kernel_rfl) (by kernel_rfl) (fun _ _ _ h => h) (Or.inl ⟨by rfl, ?hyg3_2_1⟩) ?restg3_2_1
          case hyg3_2_1 => (intro w hSw; clear hSw; go_simp; (all_goals with_reducible rfl))
          try simp only [Act.put, List.setIfInBounds_toArray, List.set_cons_zero, List.set_cons_succ, List.getElem_toArray, List.getElem_cons_succ, List.getElem_cons_zero]
          refine wpAnyF_pure (i := 3) (v := ?vg3_3_3) rfl (by kernel_rfl) (by kernel_rfl) (by kernel_rfl) (fun _ _ _ h => h) (Or.inl ⟨by rfl, ?hyg3_3_3⟩) ?restg3_3_3
          case hyg3_3_3 => (intro w hSw; clear hSw; go_simp; (all_goals with_reducible rfl))
          try simp only [Act.put, List.setIfInBounds_toArray, List.set_cons_zero, List.set_cons_succ, List.getElem_toArray, List.getElem_cons_succ, List.getElem_cons_zero]
          refine wpAnyF_pure (i := 8) (v := ?vg3_4_8) rfl (by kernel_rfl) (by kernel_rfl) (by kernel_rfl) (fun _ _ _ h => h) (Or.inl ⟨by rfl, ?hyg3_4_8⟩) ?restg3_4_8
          case hyg3_4_8 => (intro w hSw; clear hSw; go_simp; (all_goals with_reducible rfl))
          try simp only [Act.put, List.setIfInBounds_toArray, List.set_cons_zero, List.set_cons_succ, List.getElem_toArray, List.getElem_cons_succ, List.getElem_cons_zero]
          refine wpAnyF_pure (i := 10) (v := ?vg3_5_10) rfl (by kernel_rfl) (by kernel_rfl) (by kernel_rfl) (fun _ _ _ h => h) (Or.inl ⟨by rfl, ?hyg3_5_10⟩) ?restg3_5_10
          case hyg3_5_10 => (intro w hSw; clear hSw; go_simp; (all_goals with_reducible rfl))
          try simp only [Act.put, List.setIfInBounds_toArray, List.set_cons_zero, List.set_cons_succ, List.getElem_toArray, List.getElem_cons_succ, List.getElem_cons_zero]
          refine wpAnyF_take [4, 5, 6, 7, 15, 16, 17] (i := 2) (v := ?vg3_6_2) rfl (by kernel_rfl) (by kernel_rfl) (by kernel_rfl) (by kernel_rfl) (fun _ _ _ h => h) (Or.inl ⟨by rfl, ?hyg3_6_2⟩) (by assumption) ?restg3_6_2
          case hyg3_6_2 => (intro w hSw; (try dsimp only at hSw); go_simp; (all_goals with_reducible rfl))
          try simp only [Act.put, List.setIfInBounds_toArray, List.set_cons_zero, List.set_cons_succ, List.getElem_toArray, List.getElem_cons_succ, List.getElem_cons_zero]
          refine wpAnyF_pure (i := 4) (v := ?vg3_7_4) rfl (by kernel_rfl) (by kernel_rfl) (by kernel_rfl) (fun _ _ _ h => h) (Or.inl ⟨by rfl, ?hyg3_7_4⟩) ?restg3_7_4
          case hyg3_7_4 => (intro w hSw; clear hSw; go_simp; (all_goals with_reducible rfl))
          try simp only [Act.put, List.setIfInBounds_toArray, List.set_cons_zero, List.set_cons_succ, List.getElem_toArray, List.getElem_cons_succ, List.getElem_cons_zero]
          refine wpAnyF_pure (i := 5) (v := ?vg3_8_5) rfl (by kernel_rfl) (by kernel_rfl) (by kernel_rfl) (fun _ _ _ h => h) (Or.inl ⟨by rfl, ?hyg3_8_5⟩) ?restg3_8_5
          case hyg3_8_5 => (intro w hSw; clear hSw; go_simp; (all_goals with_reducible rfl))
          try simp only [Act.put, List.setIfInBounds_toArray, List.set_cons_zero, List.set_cons_succ, List.getElem_toArray, List.getElem_cons_succ, List.getElem_cons_zero]
          refine wpAnyF_take [7, 15, 16, 17] (i := 6) (v := ?vg3_9_6) rfl (by kernel_rfl) (by kernel_rfl) (by kernel_rfl) (by kernel_rfl) (fun _ _ _ h => h) (Or.inl ⟨by rfl, ?hyg3_9_6⟩) (by assumption) ?restg3_9_6
          case hyg3_9_6 => (intro w hSw; (try dsimp only at hSw); go_simp; (all_goals with_reducible rfl))
          try simp only [Act.put, List.setIfInBounds_toArray, List.set_cons_zero, List.set_cons_succ, List.getElem_toArray, List.getElem_cons_succ, List.getElem_cons_zero]
          refine wpAnyF_pure (i := 7) (v := ?vg3_10_7) rfl (by kernel_rfl) (by kernel_rfl) (by kernel_rfl) (fun _ _ _ h => h) (Or.inl ⟨by rfl, ?hyg3_10_7⟩) ?restg3_10_7
          case hyg3_10_7 => (intro w hSw; clear hSw; go_simp; (all_goals with_reducible rfl))
          try simp only [Act.put, List.setIfInBounds_toArray, List.set_cons_zero, List.set_cons_succ, List.getElem_toArray, List.getElem_cons_succ, List.getElem_cons_zero]
          refine wpAnyF_take [11, 12, 13, 14, 15, 16, 17] (i := 9) (v := ?vg3_11_9) rfl (by kernel_rfl) (by kernel_rfl) (by kernel_rfl) (by kernel_rfl) (fun _ _ _ h => h) (Or.inl ⟨by rfl, ?hyg3_11_9⟩) (by assumption) ?restg3_11_9
          case hyg3_11_9 => (intro w hSw; (try dsimp only at hSw); go_simp; (all_goals with_reducible rfl))
          try simp only [Act.put, List.setIfInBounds_toArray, List.set_cons_zero, List.set_cons_succ, List.getElem_toArray, List.getElem_cons_succ, List.getElem_cons_zero]
          refine wpAnyF_pure (i := 11) (v := ?vg3_12_11) rfl (by kernel_rfl) (by kernel_rfl) (by kernel_rfl) (fun _ _ _ h => h) (Or.inl ⟨by rfl, ?hyg3_12_11⟩) ?restg3_12_11
          case hyg3_12_11 => (intro w hSw; clear hSw; go_simp; (all_goals with_reducible rfl))
          try simp only [Act.put, List.setIfInBounds_toArray, List.set_cons_zero, List.set_cons_succ, List.getElem_toArray, List.getElem_cons_succ, List.getElem_cons_zero]
          refine wpAnyF_pure (i := 12) (v := ?vg3_13_12) rfl (by kernel_rfl) (by kernel_rfl) (by kernel_rfl) (fun _ _ _ h => h) (Or.inl ⟨by rfl, ?hyg3_13_12⟩) ?restg3_13_12
          case hyg3_13_12 => (intro w hSw; clear hSw; go_simp; (all_goals with_reducible rfl))
          try simp only [Act.put, List.setIfInBounds_toArray, List.set_cons_zero, List.set_cons_succ, List.getElem_toArray, List.getElem_cons_succ, List.getElem_cons_zero]
          refine wpAnyF_take [14, 15, 16, 17] (i := 13) (v := ?vg3_14_13) rfl (by kernel_rfl) (by kernel_rfl) (by kernel_rfl) (by kernel_rfl) (fun _ _ _ h => h) (Or.inl ⟨by rfl, ?hyg3_14_13⟩) (by assumption) ?restg3_14_13
          case hyg3_14_13 => (intro w hSw; (try dsimp only at hSw); go_simp; (all_goals with_reducible rfl))
          try simp only [Act.put, List.setIfInBounds_toArray, List.set_cons_zero, List.set_cons_succ, List.getElem_toArray, List.getElem_cons_succ, List.getElem_cons_zero]
          refine wpAnyF_pure (i := 14) (v := ?vg3_15_14) rfl (by kernel_rfl) (by kernel_rfl) (by kernel_rfl) (fun _ _ _ h => h) (Or.inl ⟨by rfl, ?hyg3_15_14⟩) ?restg3_15_14
          case hyg3_15_14 => (intro w hSw; clear hSw; go_simp; (all_goals with_reducible rfl))
          try simp only [Act.put, List.setIfInBounds_toArray, List.set_cons_zero, List.set_cons_succ, List.getElem_toArray, List.getElem_cons_succ, List.getElem_cons_zero]
          refine wpAnyF_one (i := 15) (by kernel_rfl) rfl (fun K hK => ?_)
          go_simp
          refine hK.out _ _ (HK.out _ (bD (bA (Below.refl _ _) _))) (fun hHeld => ?_)
          clear hK K
          try simp only [Act.put, List.setIfInBounds_toArray, List.set_cons_zero, List.set_cons_succ, List.getElem_toArray, List.getElem_cons_succ, List.getElem_cons_zero]
          refine wpAnyF_oneD (i := 16) (by kernel_rfl) (by kernel_rfl) rfl (fun K hK => ?_)
          refine step_app3 rfl rfl el_ints rfl (own_below HOWN.out hHeld.1 (Nat.le_refl _)) rfl (rd_newAt _ _ _ 1 2 _ (by simp) rfl).drew (two_ints _ _) hSZ (by have := hHeld.1.size; omega) ?_
          intro A3 c3 w3 o3 b3 g3 h3
          have HO3 := hid o3
          have HB3 := hid b3
          have HB4 := hid hHeld.1
          clear o3 g3 h3 b3
          refine hK.out _ _ ?_
          clear hK K
          try simp only [Act.put, List.setIfInBounds_toArray, List.set_cons_zero, List.set_cons_succ, List.getElem_toArray, List.getElem_cons_succ, List.getElem_cons_zero]
          refine wpAnyF_pure (i := 17) (v := ?vg3_18_17) rfl (by kernel_rfl) (by kernel_rfl) (by kernel_rfl) (fun _ _ _ h => h) (Or.inl ⟨by rfl, ?hyg3_18_17⟩) ?restg3_18_17
          case hyg3_18_17 => (intro w hSw; clear hSw; go_simp; (all_goals with_reducible rfl))
          try simp only [Act.put, List.setIfInBounds_toArray, List.set_cons_zero, List.set_cons_succ, List.getElem_toArray, List.getElem_cons_succ, List.getElem_cons_zero]
          refine wpAnyF_done (by kernel_rfl) ?_ _
          go_wp2_with fail
          go_roundw
          case rel => exact ⟨k + 1, N + 2, A3, c3, by omega, by go_num, by have := HN.out; omega, rfl, hid (by rw [HT.out, ← List.append_assoc, List.flatMap_append]; exact HO3.out), (bT hbel HB4.out).trans (HB3.out.mono (by omega))⟩
          case measure => simp [intOf]; omega
        · obtain rfl : k = vs.length := by omega
          have hkz : ¬ ((vs.length : Int) < (vs.length : Int)) := by omega
          rw [List.take_length] at HOWN
          have hSZ : (N + 1) * 8 ≤ 140737488355328 := by omega
          go_wp2_with (at_builtin; refine wp_app3 _ rfl rfl el_ints rfl (own_below HOWN.out (bA (Below.refl _ _) _) (Nat.le_refl _)) rfl (rd_new _ _ _ 1 1 rfl) (one1 _ _) hSZ (Nat.le_trans hsz (by simp)) ?_; intro A5 c5 w5 o5 b5 g5 h5)
          have HO5' := hid o5
          have HB5 := hid ((hbel.trans (bA (Below.refl wr.heap.size wr) _ |>.mono hsz)).trans b5)
          have q4b := keepb HB5.out q4w
          have HN5 : Hid (([st, ph, f, (vs.length : Int)] ++ numsV vs ++ [(ms.length : Int)]).length = N + 1) := hid (by have := HN.out; rw [List.length_append, List.length_append, numsV_len]; simp only [List.length_cons, List.length_nil] at *; omega)
          clear q3 o5 b5 g5 h5 HOWN hbel hb0 hkz
          have q4 := q4b
          go_wp2_with fail
          go_loopw [4, 6] (fun s i wr => NRel w1.heap.size ([st, ph, f, (vs.length : Int)] ++ numsV vs ++ [(ms.length : Int)]) numsM ms w1 s i wr) (fun _ i _ => ms.length - (intOf i).toNat)
          case atStart => exact ⟨0, N + 1, _, _, by omega, rfl, by rw [HN5.out], rfl, hid (by rw [List.take_zero, show numsM [] = [] from rfl, List.append_nil, List.flatMap_append]; exact HO5'.out), HB5.out⟩
          case round =>
            clear HO5' HB5 HN q4
            obtain ⟨m, N2, A4, c4, hml, rfl, hN, rfl, HOWN, hbel⟩ := hrel
            rw [HN5.out] at hN
            have HN2 := hid hN
            have hN3 : N2 ≤ 40000 := by omega
            clear hN hSZ
            have hb0 := bT HB1.out hbel
            have q4 := keepb hbel q4w
            have hsz := hbel.size
            by_cases hlm : m < ms.length
            · obtain ⟨x, hx⟩ : ∃ x, ms[m]? = some x := ⟨_, List.getElem?_eq_getElem hlm⟩
              obtain ⟨b, off, rfl, hb, c0, c1⟩ := mail_cells (hm.below hb0) rfl hx
              have hmz : (m : Int) < (ms.length : Int) := by omega
              obtain ⟨xa, xl⟩ := x
              simp only at c0 c1
              have HT : Hid (numsM (ms.take (m + 1)) = numsM (ms.take m) ++ [xa, xl]) := hid (by rw [take_nextV hx, numsM_snoc])
              have hSZ : (N2 + 2) * 8 ≤ 140737488355328 := by omega
              clear hx hb0
              have HK : Hid (∀ V, Below wr.heap.size wr V → ((fun V => Below wr.heap.size wr V ∧ V.cell? ⟨w.heap.size, 4, none⟩ = some (.slice (some ⟨b, off, none⟩) ms.length d) ∧ V.cell? ⟨b, off + m * 2, none⟩ = some (.int .i64 xa) ∧ V.cell? ⟨b, off + m * 2 + 1, none⟩ = some (.int .i64 xl)) : World → Prop) V) := hid fun V hV => ⟨hV, keepb hV q4, keepb hV c0, keepb hV c1⟩
              go_wp2_with fail
              refine wp_region_F (S := (fun V => Below wr.heap.size wr V ∧ V.cell? ⟨w.heap.size, 4, none⟩ = some (.slice (some ⟨b, off, none⟩) ms.length d) ∧ V.cell? ⟨b, off + m * 2, none⟩ = some (.int .i64 xa) ∧ V.cell? ⟨b, off + m * 2 + 1, none⟩ = some (.int .i64 xl))) [14] (by kernel_rfl) (HK.out _ (bD (Below.refl _ _))) (fun hHeld => ?_)
              refine wpAnyF_pure (i := 0) (v := ?vg4_1_0) rfl (by kernel_rfl) (by kernel_rfl) (by kernel_rfl) (fun _ _ _ h => h) (Or.inl ⟨by rfl, ?hyg4_1_0⟩) ?restg4_1_0
              case hyg4_1_0 => (intro w hSw; clear hSw; go_simp; (all_goals with_reducible rfl))
              try simp only [Act.put, List.setIfInBounds_toArray, List.set_cons_zero, List.set_cons_succ, List.getElem_toArray, List.getElem_cons_succ, List.getElem_cons_zero]
              refine wpAnyF_pure (i := 1) (v := ?vg4_2_1) rfl (by kernel_rfl) (by kernel_rfl) (by kernel_rfl) (fun _ _ _ h => h) (Or.inl ⟨by rfl, ?hyg4_2_1⟩) ?restg4_2_1
              case hyg4_2_1 => (intro w hSw; clear hSw; go_simp; (all_goals with_reducible rfl))
              try simp only [Act.put, List.setIfInBounds_toArray, List.set_cons_zero, List.set_cons_succ, List.getElem_toArray, List.getElem_cons_succ, List.getElem_cons_zero]
              refine wpAnyF_pure (i := 3) (v := ?vg4_3_3) rfl (by kernel_rfl) (by kernel_rfl) (by kernel_rfl) (fun _ _ _ h => h) (Or.inl ⟨by rfl, ?hyg4_3_3⟩) ?restg4_3_3
              case hyg4_3_3 => (intro w hSw; clear hSw; go_simp; (all_goals with_reducible rfl))
              try simp only [Act.put, List.setIfInBounds_toArray, List.set_cons_zero, List.set_cons_succ, List.getElem_toArray, List.getElem_cons_succ, List.getElem_cons_zero]
              refine wpAnyF_pure (i := 7) (v := ?vg4_4_7) rfl (by kernel_rfl) (by kernel_rfl) (by kernel_rfl) (fun _ _ _ h => h) (Or.inl ⟨by rfl, ?hyg4_4_7⟩) ?restg4_4_7
              case hyg4_4_7 => (intro w hSw; clear hSw; go_simp; (all_goals with_reducible rfl))
              try simp only [Act.put, List.setIfInBounds_toArray, List.set_cons_zero, List.set_cons_succ, List.getElem_toArray, List.getElem_cons_succ, List.getElem_cons_zero]
              refine wpAnyF_pure (i := 9) (v := ?vg4_5_9) rfl (by kernel_rfl) (by kernel_rfl) (by kernel_rfl) (fun _ _ _ h => h) (Or.inl ⟨by rfl, ?hyg4_5_9⟩) ?restg4_5_9
              case hyg4_5_9 => (intro w hSw; clear hSw; go_simp; (all_goals with_reducible rfl))
              try simp only [Act.put, List.setIfInBounds_toArray, List.set_cons_zero, List.set_cons_succ, List.getElem_toArray, List.getElem_cons_succ, List.getElem_cons_zero]
              refine wpAnyF_take [4, 5, 6, 13, 14, 15] (i := 2) (v := ?vg4_6_2) rfl (by kernel_rfl) (by kernel_rfl) (by kernel_rfl) (by kernel_rfl) (fun _ _ _ h => h) (Or.inl ⟨by rfl, ?hyg4_6_2⟩) (by assumption) ?restg4_6_2
              case hyg4_6_2 => (intro w hSw; (try dsimp only at hSw); go_simp; (all_goals with_reducible rfl))
              try simp only [Act.put, List.setIfInBounds_toArray, List.set_cons_zero, List.set_cons_succ, List.getElem_toArray, List.getElem_cons_succ, List.getElem_cons_zero]
              refine wpAnyF_pure (i := 4) (v := ?vg4_7_4) rfl (by kernel_rfl) (by kernel_rfl) (by kernel_rfl) (fun _ _ _ h => h) (Or.inl ⟨by rfl, ?hyg4_7_4⟩) ?restg4_7_4
              case hyg4_7_4 => (intro w hSw; clear hSw; go_simp; (all_goals with_reducible rfl))
              try simp only [Act.put, List.setIfInBounds_toArray, List.set_cons_zero, List.set_cons_succ, List.getElem_toArray, List.getElem_cons_succ, List.getElem_cons_zero]
              refine wpAnyF_pure (i := 5) (v := ?vg4_8_5) rfl (by kernel_rfl) (by kernel_rfl) (by kernel_rfl) (fun _ _ _ h => h) (Or.inl ⟨by rfl, ?hyg4_8_5⟩) ?restg4_8_5
              case hyg4_8_5 => (intro w hSw; clear hSw; go_simp; (all_goals with_reducible rfl))
              try simp only [Act.put, List.setIfInBounds_toArray, List.set_cons_zero, List.set_cons_succ, List.getElem_toArray, List.getElem_cons_succ, List.getElem_cons_zero]
              refine wpAnyF_take [13, 14, 15] (i := 6) (v := ?vg4_9_6) rfl (by kernel_rfl) (by kernel_rfl) (by kernel_rfl) (by kernel_rfl) (fun _ _ _ h => h) (Or.inl ⟨by rfl, ?hyg4_9_6⟩) (by assumption) ?restg4_9_6
              case hyg4_9_6 => (intro w hSw; (try dsimp only at hSw); go_simp; (all_goals with_reducible rfl))
              try simp only [Act.put, List.setIfInBounds_toArray, List.set_cons_zero, List.set_cons_succ, List.getElem_toArray, List.getElem_cons_succ, List.getElem_cons_zero]
              refine wpAnyF_take [10, 11, 12, 13, 14, 15] (i := 8) (v := ?vg4_10_8) rfl (by kernel_rfl) (by kernel_rfl) (by kernel_rfl) (by kernel_rfl) (fun _ _ _ h => h) (Or.inl ⟨by rfl, ?hyg4_10_8⟩) (by assumption) ?restg4_10_8
              case hyg4_10_8 => (intro w hSw; (try dsimp only at hSw); go_simp; (all_goals with_reducible rfl))
              try simp only [Act.put, List.setIfInBounds_toArray, List.set_cons_zero, List.set_cons_succ, List.getElem_toArray, List.getElem_cons_succ, List.getElem_cons_zero]
              refine wpAnyF_pure (i := 10) (v := ?vg4_11_10) rfl (by kernel_rfl) (by kernel_rfl) (by kernel_rfl) (fun _ _ _ h => h) (Or.inl ⟨by rfl, ?hyg4_11_10⟩) ?restg4_11_10
              case hyg4_11_10 => (intro w hSw; clear hSw; go_simp; (all_goals with_reducible rfl))
              try simp only [Act.put, List.setIfInBounds_toArray, List.set_cons_zero, List.set_cons_succ, List.getElem_toArray, List.getElem_cons_succ, List.getElem_cons_zero]
              refine wpAnyF_pure (i := 11) (v := ?vg4_12_11) rfl (by kernel_rfl) (by kernel_rfl) (by kernel_rfl) (fun _ _ _ h => h) (Or.inl ⟨by rfl, ?hyg4_12_11⟩) ?restg4_12_11
              case hyg4_12_11 => (intro w hSw; clear hSw; go_simp; (all_goals with_reducible rfl))
              try simp only [Act.put, List.setIfInBounds_toArray, List.set_cons_zero, List.set_cons_succ, List.getElem_toArray, List.getElem_cons_succ, List.getElem_cons_zero]
              refine wpAnyF_take [13, 14, 15] (i := 12) (v := ?vg4_13_12) rfl (by kernel_rfl) (by kernel_rfl) (by kernel_rfl) (by kernel_rfl) (fun _ _ _ h => h) (Or.inl ⟨by rfl, ?hyg4_13_12⟩) (by assumption) ?restg4_13_12
              case hyg4_13_12 => (intro w hSw; (try dsimp only at hSw); go_simp; (all_goals with_reducible rfl))
              try simp only [Act.put, List.setIfInBounds_toArray, List.set_cons_zero, List.set_cons_succ, List.getElem_toArray, List.getElem_cons_succ, List.getElem_cons_zero]
              refine wpAnyF_one (i := 13) (by kernel_rfl) rfl (fun K hK => ?_)
              go_simp
              refine hK.out _ _ (HK.out _ (bD (bA (Below.refl _ _) _))) (fun hHeld => ?_)
              clear hK K
              try simp only [Act.put, List.setIfInBounds_toArray, List.set_cons_zero, List.set_cons_succ, List.getElem_toArray, List.getElem_cons_succ, List.getElem_cons_zero]
              refine wpAnyF_oneD (i := 14) (by kernel_rfl) (by kernel_rfl) rfl (fun K hK => ?_)
              refine step_app3 rfl rfl el_ints rfl (own_below HOWN.out hHeld.1 (Nat.le_refl _)) rfl (rd_newAt _ _ _ 1 2 _ (by simp) rfl).drew (two_ints _ _) hSZ (by have := hHeld.1.size; omega) ?_
              intro A3 c3 w3 o3 b3 g3 h3
              have HO3 := hid o3
              have HB3 := hid b3
              have HB4 := hid hHeld.1
              clear o3 g3 h3 b3
              refine hK.out _ _ ?_
              clear hK K
              try simp only [Act.put, List.setIfInBounds_toArray, List.set_cons_zero, List.set_cons_succ, List.getElem_toArray, List.getElem_cons_succ, List.getElem_cons_zero]
              refine wpAnyF_pure (i := 15) (v := ?vg4_16_15) rfl (by kernel_rfl) (by kernel_rfl) (by kernel_rfl) (fun _ _ _ h => h) (Or.inl ⟨by rfl, ?hyg4_16_15⟩) ?restg4_16_15
              case hyg4_16_15 => (intro w hSw; clear hSw; go_simp; (all_goals with_reducible rfl))
              try simp only [Act.put, List.setIfInBounds_toArray, List.set_cons_zero, List.set_cons_succ, List.getElem_toArray, List.getElem_cons_succ, List.getElem_cons_zero]
              refine wpAnyF_done (by kernel_rfl) ?_ _
              go_wp2_with fail
              go_roundw
              case rel => exact ⟨m + 1, N2 + 2, A3, c3, by omega, by go_num, by rw [HN5.out]; have := HN2.out; omega, rfl, hid (by rw [HT.out, ← List.append_assoc, List.flatMap_append]; exact HO3.out), (bT hbel HB4.out).trans (HB3.out.mono (by omega))⟩
              case measure => simp [intOf]; omega
            · obtain rfl : m = ms.length := by omega
              have hmz : ¬ ((ms.length : Int) < (ms.length : Int)) := by omega
              rw [List.take_length] at HOWN
              have HLN : Hid (NS.length = N2) := hid (by have h1 := HN2.out; have h2 := HNL.out; have h3 := HN5.out; rw [List.length_append, List.length_append, numsV_len] at h3; simp only [List.length_cons, List.length_nil] at *; omega)
              have hE : NS = [st, ph, f, (vs.length : Int)] ++ numsV vs ++ [(ms.length : Int)] ++ numsM ms := by rw [HNS.out, HF.out]; rfl
              have HON : Hid (wr.ownsRow w1.heap.size 3 1 (.slice A4 N2 c4) N2 (NS.flatMap i64c)) := hid (by have h := HOWN.out; rw [← hE] at h; exact h)
              clear hE
              clear HOWN HN2 HN5 HNS q4w
              have HRD := hid (rd_own HON.out)
              clear HON
              go_wp2_with fail
              go_loopw [7, 8] (fun s i wp => BRel NS wr s i wp) (fun _ i _ => NS.length - (intOf i).toNat)
              case atStart => exact ⟨0, none, 0, by omega, rfl, rfl, hid (World.ownsRow_nil _ _ _ _), Below.refl _ _⟩
              case round =>
                obtain ⟨j, A6, c6, hj, rfl, rfl, HOB, hbb⟩ := hrel
                have hb1 := bT hb0 hbb
                have hsz6 := hbb.size
                have hjN : j ≤ N2 := by have := HLN.out; omega
                by_cases hlj : j < N2
                · obtain ⟨x, hx⟩ : ∃ x, NS[j]? = some x := ⟨_, List.getElem?_eq_getElem (by have := HLN.out; omega)⟩
                  obtain ⟨b, off, rfl, hb, hcs⟩ := (HRD.out.below hbb).at_ hlj
                  have cx := hcs _ _ (flat_i64_get hx)
                  have hjz : (j : Int) < (N2 : Int) := by omega
                  have hx0 := HU.out x (List.mem_of_getElem? hx)
                  have HPUT := hid (fun W => packed_any x hx0.1 (by omega) W)
                  have hwx : IntKind.u64.wrap x = x := IntWalk.u64_in _ (by omega)
                  have HPN : Hid (packs (NS.take (j + 1)) = packs (NS.take j) ++ pack x) := hid (by rw [take_nextV hx, packs_append, packs_one])
                  have hSZ : ((packs (NS.take j)).length + (pack x).length) * 1 ≤ 140737488355328 := by
                    have h1 := HNP.out j
                    have h2 := (pack_len x).1
                    rw [List.length_take] at h1
                    omega
                  clear hx hx0 hcs
                  go_wp2_with fail
                  refine (HPUT.out _).mono ?_
                  rintro e w7 ⟨A7, c7, rfl, o7, b7⟩
                  have HO7 := hid o7
                  clear o7
                  go_wp2_with (at_builtin; refine wp_app3 _ rfl rfl el_bytes rfl (own_below HOB.out b7 (Nat.le_refl _)) rfl (rd_own HO7.out) (one_u8 _) hSZ (Nat.le_trans hsz6 b7.size) ?_; intro A8 c8 w8 o8 b8 g8 h8)
                  have HO8 := hid o8
                  clear o8 g8 h8
                  go_wp2_with fail
                  go_roundw
                  case rel => exact ⟨j + 1, A8, c8, by have := HLN.out; omega, by go_num, by rw [HPN.out, List.length_append], hid (by rw [HPN.out, List.length_append, List.flatMap_append]; exact HO8.out), (bT hbb b7).trans b8⟩
                  case measure => simp [intOf]; have := HLN.out; omega
                · obtain rfl : j = N2 := by omega
                  have hjz : ¬ ((j : Int) < (j : Int)) := by omega
                  have e1 : packs (NS.take j) = P := by rw [← HLN.out, List.take_length, HP.out]
                  rw [e1] at HOB
                  rw [e1]
                  have HWR := hid (wrapped_walk P wr A6 P.length c6 (rd_own HOB.out) rfl HPB.out (by have := HPL.out; have := HNL.out; omega))
                  clear e1
                  go_wp2_with fail
                  refine HWR.out.mono ?_
                  rintro e w9 ⟨A9, c9, rfl, o9, b9⟩
                  have HO9 := hid o9
                  clear o9
                  go_wp2_with fail
                  go_ret2
                  exact ⟨A9, c9, rfl, own_more HO9.out hb1.size, bT hb1 b9⟩
end Go.Proofs.YtphgdpjfolkafaaDoor

/- The statements' copy of what is saved; alike. -/
namespace Go.Proofs.YtphgdpjfolkafaaDoor
open Go.ChangeShapes Go.WideShapes Go.ChangeAt Go.RowKit
set_option linter.unusedVariables false
set_option linter.unusedSimpArgs false
set_option maxHeartbeats 4000000 in
theorem sameSaved_walk (s : Saved) (w : World) (A A' B B' : Option Addr) (c c' d d' : Nat) (h1 : Rd w w.heap.size A 2 s.vals.length (s.vals.flatMap Val.cells)) (h2 : Rd w w.heap.size A' 2 s.vals.length (s.vals.flatMap Val.cells)) (g1 : Rd w w.heap.size B 2 s.mail.length (s.mail.flatMap Mail.cells)) (g2 : Rd w w.heap.size B' 2 s.mail.length (s.mail.flatMap Mail.cells)) (hvn : s.vals.length ≤ 140737488355328) (hmn : s.mail.length ≤ 140737488355328) :
    Calls Tryd.prog 8 #[.agg (svC s A c B d), .agg (svC s A' c' B' d')] w fun e w' => e = .returned (.bool true) ∧ Below w.heap.size w w' := by
  obtain ⟨st, ph, fr, vs, ms⟩ := s
  unfold svC
  simp only at *
  have b0 : Below w.heap.size w ((w.alloc (.cells #[.int .i64 st, .int .i64 ph, .bool fr, .slice A vs.length c, .slice B ms.length d] 29)).alloc (.cells #[.int .i64 st, .int .i64 ph, .bool fr, .slice A' vs.length c', .slice B' ms.length d'] 29)) := bA (bA (Below.refl _ _) _) _
  go_enter Tryd.func8, Tryd.ntmps8
  go_wp2_with fail
  refine (sameValues_walk vs _ A A' c c' ((h1.below b0).any (by decide)) ((h2.below b0).any (by decide)) hvn).mono ?_
  rintro e w1 ⟨rfl, b1⟩
  have c4 := keepb b1 (show World.cell? _ ⟨w.heap.size, 4, none⟩ = some (.slice B ms.length d) by go_simp)
  have d4 := keepb b1 (show World.cell? _ ⟨w.heap.size + 1, 4, none⟩ = some (.slice B' ms.length d') by go_simp)
  have B1 := hid (bT b0 b1)
  clear b1 b0
  go_wp2_with fail
  refine (sameMails_walk ms _ B B' d d' ((g1.below B1.out).any (by decide)) ((g2.below B1.out).any (by decide)) hmn).mono ?_
  rintro e w2 ⟨rfl, b2⟩
  go_wp2_with fail
  go_ret
  exact ⟨rfl, bT B1.out b2⟩
end Go.Proofs.YtphgdpjfolkafaaDoor

