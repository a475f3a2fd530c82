/- Counts and reports: board.counts, board.report, the document's countsMay, ReportFault. -/
import Derived.Test.YtaipjckcckfnaaaBoardP
import Derived.Test.YtaipjckcckfnaaaLibI
import Derived.Test.YtaipjckcckfnaaaIn
namespace Go.Proofs.Ytaipjckcckfnaaa
open Go.ChangeShapes Go.WideShapes Go.ChangeAt Go.RowKit
set_option linter.unusedVariables false
section
open Classical
noncomputable def cntB (l : List Int) (wk : Int) : Bool := decide (cntOk l wk)
end
theorem cntB_yes {l : List Int} {wk : Int} (h : cntOk l wk) : cntB l wk = true := by unfold cntB; exact @decide_eq_true _ (_) h
theorem cntB_no {l : List Int} {wk : Int} (h : ¬ cntOk l wk) : cntB l wk = false := by unfold cntB; exact @decide_eq_false _ (_) h
theorem cntB_ok {l : List Int} {wk : Int} (h : cntB l wk = true) : cntOk l wk := by unfold cntB at h; exact @of_decide_eq_true _ (_) h
theorem cntB_bad {l : List Int} {wk : Int} (h : cntB l wk = false) : ¬ cntOk l wk := by unfold cntB at h; exact @of_decide_eq_false _ (_) h
/-- The cell of the number 'k'. -/
theorem icellB {w : World} {B n k : Nat} {A : Option Addr} {l : List Int} {x : Int} (h : Rd w B A 1 n (l.flatMap i64c)) (hl : l.length = n) (hk : l[k]? = some x) : ∃ b off, A = some ⟨b, off, none⟩ ∧ b < B ∧ w.cell? ⟨b, off + k, none⟩ = some (.int .i64 x) := by
  have hkl := (List.getElem?_eq_some_iff.1 hk).1
  obtain ⟨b, off, rfl, hb, hc⟩ := h.2 (show 0 < n by omega)
  have hg := (flatMap_get (l := l) (cells := i64c) (sz := 1) (fun _ _ => rfl)).2 k x 0 _ hk rfl
  have := hc _ _ hg
  exact ⟨b, off, rfl, hb, by simpa using this⟩
theorem okOne {l : List Int} {k : Nat} {x : Int} (hx : l[k]? = some x) (h : 0 ≤ x ∧ x ≤ 1099511627776) (H : ∀ (j : Nat) y, j < k → l[j]? = some y → 0 ≤ y ∧ y ≤ 1099511627776) : ∀ (j : Nat) y, j < k + 1 → l[j]? = some y → 0 ≤ y ∧ y ≤ 1099511627776 := fun j y hj hy => by
  rcases Nat.lt_or_ge j k with h2 | h2
  · exact H j y h2 hy
  · obtain rfl : j = k := by omega
    rw [hx] at hy; injection hy with hy; rw [← hy]; exact h
theorem okAll {l : List Int} (H : ∀ (j : Nat) y, j < l.length → l[j]? = some y → 0 ≤ y ∧ y ≤ 1099511627776) : ∀ n ∈ l, 0 ≤ n ∧ n ≤ 1099511627776 := fun n hn => by
  obtain ⟨k, hk⟩ := List.mem_iff_getElem?.1 hn
  exact H k n (List.getElem?_eq_some_iff.1 hk).1 hk
set_option maxHeartbeats 2000000 in
theorem counts_walk (l : List Int) (wk : Int) (w : World) (A : Option Addr) (c : Nat) (hr : Rd w w.heap.size A 1 l.length (l.flatMap i64c)) (hl : l.length * 8 ≤ 140737488355328) :
    Calls Try.prog 23 #[.slice A l.length c, .int .i64 wk] w fun e w' => e = .returned (.bool (cntB l wk)) ∧ w = w' := by
  generalize hF : cntB l wk = F
  have HF := hid hF
  clear hF
  go_enter Try.func23, Try.ntmps23
  go_wp2_with fail
  go_loopw [6, 9] (fun _ i wr => ∃ k : Nat, k ≤ l.length ∧ i = .int .i64 k ∧ w = wr ∧ Hid (∀ (j : Nat) y, j < k → l[j]? = some y → 0 ≤ y ∧ y ≤ 1099511627776)) (fun _ i _ => l.length - (intOf i).toNat)
  case atStart => exact ⟨0, by omega, rfl, rfl, hid fun j y hj => by omega⟩
  case round =>
    obtain ⟨k, hk, rfl, rfl, H0⟩ := hrel
    by_cases hlt : k < l.length
    · obtain ⟨x, hx⟩ : ∃ x, l[k]? = some x := ⟨_, List.getElem?_eq_getElem hlt⟩
      obtain ⟨b, off, rfl, hb, c0⟩ := icellB hr rfl hx
      have hkz : (k : Int) < (l.length : Int) := by omega
      have HX := hid hx
      clear hx
      by_cases h0 : x < 0
      · have HV : Hid (F = false) := hid (by rw [← HF.out]; exact cntB_no fun h => by have := (h.2 x (List.mem_of_getElem? HX.out)).1; omega)
        go_wp2_with fail
        go_ret
        exact ⟨by rw [HV.out]; rfl, rfl⟩
      · by_cases h1 : 1099511627776 < x
        · have HV : Hid (F = false) := hid (by rw [← HF.out]; exact cntB_no fun h => by have := (h.2 x (List.mem_of_getElem? HX.out)).2; omega)
          go_wp2_with fail
          go_ret
          exact ⟨by rw [HV.out]; rfl, rfl⟩
        · have HN := hid (okOne HX.out ⟨by omega, by omega⟩ H0.out)
          go_wp2_with fail
          go_roundw
          case rel => exact ⟨k + 1, by omega, by go_num, by first | rfl | trivial, HN⟩
          case measure => simp [intOf]; omega
    · obtain rfl : k = l.length := by omega
      have HA := hid (okAll H0.out)
      by_cases h2 : (l.length : Int) = wk
      · have HV : Hid (F = true) := hid (by rw [← HF.out]; exact cntB_yes ⟨h2, HA.out⟩)
        subst h2
        go_wp2_with fail
        go_ret
        exact ⟨by rw [HV.out]; simp, rfl⟩
      · have HV : Hid (F = false) := hid (by rw [← HF.out]; exact cntB_no fun h => h2 h.1)
        have hb2 : ((l.length : Int) == wk) = false := by simpa using h2
        clear h2
        go_wp2_with fail
        go_ret
        exact ⟨by rw [HV.out]; rfl, rfl⟩
set_option maxHeartbeats 2000000 in
theorem countsMay_walk (l : List Int) (wk : Int) (w : World) (A : Option Addr) (c : Nat) (hr : Rd w w.heap.size A 1 l.length (l.flatMap i64c)) (hl : l.length * 8 ≤ 140737488355328) :
    Calls Try.prog 25 #[.slice A l.length c, .int .i64 wk] w fun e w' => e = .returned (.bool (cntB l wk)) ∧ w = w' := by
  generalize hF : cntB l wk = F
  have HF := hid hF
  clear hF
  by_cases h2 : (l.length : Int) = wk
  · have hb2 : ((l.length : Int) != wk) = false := by simpa using h2
    go_enter Try.func25, Try.ntmps25
    go_wp2_with fail
    go_loopw [5] (fun i wr => ∃ k : Nat, k ≤ l.length ∧ i = .int .i64 k ∧ w = wr ∧ Hid (∀ (j : Nat) y, j < k → l[j]? = some y → 0 ≤ y ∧ y ≤ 1099511627776)) (fun i _ => l.length - (intOf i).toNat)
    case atStart => exact ⟨0, by omega, rfl, rfl, hid fun j y hj => by omega⟩
    case round =>
      obtain ⟨k, hk, rfl, rfl, H0⟩ := hrel
      by_cases hlt : k < l.length
      · obtain ⟨x, hx⟩ : ∃ x, l[k]? = some x := ⟨_, List.getElem?_eq_getElem hlt⟩
        obtain ⟨b, off, rfl, hb, c0⟩ := icellB hr rfl hx
        have hkz : (k : Int) < (l.length : Int) := by omega
        have HX := hid hx
        have hI := fun w => In_walk x 0 1099511627776 w
        clear hx
        by_cases h0 : 0 ≤ x ∧ x ≤ 1099511627776
        · have HN := hid (okOne HX.out h0 H0.out)
          rw [inB_yes h0] at hI
          have HI := hid hI
          clear hI
          go_wp2_with fail
          refine (HI.out _).mono ?_
          rintro e w' ⟨rfl, rfl⟩
          go_wp2_with fail
          go_roundw
          case rel => exact ⟨k + 1, by omega, by go_num, by first | rfl | trivial, HN⟩
          case measure => simp [intOf]; omega
        · have HV : Hid (F = false) := hid (by rw [← HF.out]; exact cntB_no fun h => h0 (h.2 x (List.mem_of_getElem? HX.out)))
          rw [inB_no h0] at hI
          have HI := hid hI
          clear hI
          go_wp2_with fail
          refine (HI.out _).mono ?_
          rintro e w' ⟨rfl, rfl⟩
          go_wp2_with fail
          go_ret
          exact ⟨by rw [HV.out]; rfl, rfl⟩
      · obtain rfl : k = l.length := by omega
        have HV : Hid (F = true) := hid (by rw [← HF.out]; exact cntB_yes ⟨h2, okAll H0.out⟩)
        go_wp2_with fail
        go_ret
        exact ⟨by rw [HV.out]; rfl, rfl⟩
  · have HV : Hid (F = false) := hid (by rw [← HF.out]; exact cntB_no fun h => h2 h.1)
    have hb2 : ((l.length : Int) != wk) = true := by simpa using h2
    clear h2
    go_enter Try.func25, Try.ntmps25
    go_wp2_with fail
    go_ret
    exact ⟨by rw [HV.out]; rfl, rfl⟩
theorem repV_cases (wk ep st : Int) (r : Report) :
    (r.worker < 0 ∧ repV wk ep st r = 2) ∨ (¬ r.worker < 0 ∧ wk ≤ r.worker ∧ repV wk ep st r = 2) ∨ (¬ r.worker < 0 ∧ ¬ wk ≤ r.worker ∧ cntB r.sent wk = false ∧ repV wk ep st r = 2) ∨ (¬ r.worker < 0 ∧ ¬ wk ≤ r.worker ∧ cntB r.sent wk = true ∧ cntB r.got wk = false ∧ repV wk ep st r = 2) ∨
    (¬ r.worker < 0 ∧ ¬ wk ≤ r.worker ∧ cntB r.sent wk = true ∧ cntB r.got wk = true ∧
      ((r.waking < 0 ∧ repV wk ep st r = 2) ∨ (¬ r.waking < 0 ∧ 1099511627776 < r.waking ∧ repV wk ep st r = 2) ∨ (¬ r.waking < 0 ∧ ¬ 1099511627776 < r.waking ∧ r.opn < 0 ∧ repV wk ep st r = 2) ∨ (¬ r.waking < 0 ∧ ¬ 1099511627776 < r.waking ∧ ¬ r.opn < 0 ∧ 1099511627776 < r.opn ∧ repV wk ep st r = 2) ∨
        (¬ r.waking < 0 ∧ ¬ 1099511627776 < r.waking ∧ ¬ r.opn < 0 ∧ ¬ 1099511627776 < r.opn ∧
          (((r.epoch != ep) = true ∧ repV wk ep st r = 11) ∨ ((r.epoch != ep) = false ∧ (r.step != st) = true ∧ repV wk ep st r = 11) ∨ ((r.epoch != ep) = false ∧ (r.step != st) = false ∧ repV wk ep st r = 0))))) := by
  have hno : ¬ repFits wk r → repV wk ep st r = 2 := fun h => by unfold repV; rw [if_pos h]
  by_cases h1 : r.worker < 0
  · exact .inl ⟨h1, hno fun h => by have := h.1.1; omega⟩
  refine .inr ?_
  by_cases h2 : wk ≤ r.worker
  · exact .inl ⟨h1, h2, hno fun h => by have := h.1.2; omega⟩
  refine .inr ?_
  cases h3 : cntB r.sent wk with
  | false => exact .inl ⟨h1, h2, rfl, hno fun h => cntB_bad h3 h.2.1⟩
  | true =>
    refine .inr ?_
    cases h4 : cntB r.got wk with
    | false => exact .inl ⟨h1, h2, rfl, rfl, hno fun h => cntB_bad h4 h.2.2.1⟩
    | true =>
      refine .inr ⟨h1, h2, rfl, rfl, ?_⟩
      by_cases h5 : r.waking < 0
      · exact .inl ⟨h5, hno fun h => by have := h.2.2.2.1.1; omega⟩
      refine .inr ?_
      by_cases h6 : 1099511627776 < r.waking
      · exact .inl ⟨h5, h6, hno fun h => by have := h.2.2.2.1.2; omega⟩
      refine .inr ?_
      by_cases h7 : r.opn < 0
      · exact .inl ⟨h5, h6, h7, hno fun h => by have := h.2.2.2.2.1; omega⟩
      refine .inr ?_
      by_cases h8 : 1099511627776 < r.opn
      · exact .inl ⟨h5, h6, h7, h8, hno fun h => by have := h.2.2.2.2.2; omega⟩
      refine .inr ⟨h5, h6, h7, h8, ?_⟩
      have hfit : repFits wk r := ⟨⟨by omega, by omega⟩, cntB_ok h3, cntB_ok h4, ⟨by omega, by omega⟩, by omega, by omega⟩
      have hv : repV wk ep st r = if r.epoch ≠ ep ∨ r.step ≠ st then 11 else 0 := by unfold repV; rw [if_neg (by simpa using hfit)]
      by_cases h9 : r.epoch = ep
      · refine .inr ?_
        by_cases h10 : r.step = st
        · exact .inr ⟨by simpa using h9, by simpa using h10, by rw [hv, if_neg (by simp [h9, h10])]⟩
        · exact .inl ⟨by simpa using h9, by simpa using h10, by rw [hv, if_pos (.inr h10)]⟩
      · exact .inl ⟨by simpa using h9, by rw [hv, if_pos (.inl h9)]⟩
def boardC (wk ep st : Int) (A : Option Addr) (n c : Nat) : Array Value := #[.int .i64 wk, .int .i64 ep, .int .i64 st, .slice A n c]
def repC (x : MRep) : Array Value := #[.int .i64 x.r.worker, .int .i64 x.r.epoch, .int .i64 x.r.step, .slice x.A x.r.sent.length x.c, .slice x.A' x.r.got.length x.c', .int .i64 x.r.waking, .int .i64 x.r.opn]
set_option maxRecDepth 100000 in
set_option maxHeartbeats 8000000 in
theorem report_walk (wk ep st : Int) (A : Option Addr) (n c : Nat) (x : MRep) (w : World) (hx : x.rd w w.heap.size) (hs : x.r.sent.length * 8 ≤ 140737488355328) (hg : x.r.got.length * 8 ≤ 140737488355328) :
    Calls Try.prog 15 #[.agg (boardC wk ep st A n c), .agg (repC x)] w fun e w' => e = .returned (.int .i64 (repV wk ep st x.r)) ∧ Below w.heap.size w w' := by
  have b0 := bA (bA (Below.refl w.heap.size w) (.cells (boardC wk ep st A n c) 24)) (.cells (repC x) 33)
  have hS := counts_walk x.r.sent wk _ x.A x.c (rdb hx.1 (by decide) b0) hs
  have hG := counts_walk x.r.got wk _ x.A' x.c' (rdb hx.2 (by decide) b0) hg
  have hcase := repV_cases wk ep st x.r
  obtain ⟨xA, xc, xA', xc', worker, epoch, step, sent, got, waking, opn⟩ := x
  unfold boardC repC at *
  simp only at *
  generalize repV wk ep st ⟨worker, epoch, step, sent, got, waking, opn⟩ = F at *
  rcases hcase with ⟨h1, hv⟩ | ⟨h1, h2, hv⟩ | ⟨h1, h2, h3, hv⟩ | ⟨h1, h2, h3, h4, hv⟩ | ⟨h1, h2, h3, h4, hcase⟩
  · have HV := hid hv
    clear hv hS hG
    go_enter Try.func15, Try.ntmps15
    go_wp2_with fail
    go_ret
    exact ⟨by rw [HV.out]; rfl, b0⟩
  · have HV := hid hv
    clear hv hS hG
    go_enter Try.func15, Try.ntmps15
    go_wp2_with fail
    go_ret
    exact ⟨by rw [HV.out]; rfl, b0⟩
  · rw [h3] at hS
    have HV := hid hv
    have HS := hid hS
    clear hv hS hG h3
    go_enter Try.func15, Try.ntmps15
    go_wp2_with fail
    refine HS.out.mono ?_
    rintro e w2 ⟨rfl, rfl⟩
    go_wp2_with fail
    go_ret
    exact ⟨by rw [HV.out]; rfl, b0⟩
  · rw [h3] at hS
    rw [h4] at hG
    have HV := hid hv
    have HS := hid hS
    have HG := hid hG
    clear hv hS hG h3 h4
    go_enter Try.func15, Try.ntmps15
    go_wp2_with fail
    refine HS.out.mono ?_
    rintro e w2 ⟨rfl, rfl⟩
    go_wp2_with fail
    refine HG.out.mono ?_
    rintro e w2 ⟨rfl, rfl⟩
    go_wp2_with fail
    go_ret
    exact ⟨by rw [HV.out]; rfl, b0⟩
  · rw [h3] at hS
    rw [h4] at hG
    have HS := hid hS
    have HG := hid hG
    clear hS hG h3 h4
    rcases hcase with ⟨h5, hv⟩ | ⟨h5, h6, hv⟩ | ⟨h5, h6, h7, hv⟩ | ⟨h5, h6, h7, h8, hv⟩ | ⟨h5, h6, h7, h8, ⟨h9, hv⟩ | ⟨h9, h10, hv⟩ | ⟨h9, h10, hv⟩⟩
    all_goals
      have HV := hid hv
      clear hv
      go_enter Try.func15, Try.ntmps15
      go_wp2_with fail
      refine HS.out.mono ?_
      rintro e w2 ⟨rfl, rfl⟩
      go_wp2_with fail
      refine HG.out.mono ?_
      rintro e w2 ⟨rfl, rfl⟩
      go_wp2_with fail
      go_ret
      exact ⟨by rw [HV.out]; rfl, b0⟩
end Go.Proofs.Ytaipjckcckfnaaa
