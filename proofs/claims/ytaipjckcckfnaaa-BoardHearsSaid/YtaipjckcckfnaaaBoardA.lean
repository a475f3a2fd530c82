/- The document's reports: ReportFault, reportBy. -/
import Derived.Test.YtaipjckcckfnaaaBoardW
import Derived.Test.YtaipjckcckfnaaaBoard
namespace Go.Proofs.Ytaipjckcckfnaaa
open Go.ChangeShapes Go.WideShapes Go.ChangeAt Go.RowKit
set_option linter.unusedVariables false
set_option maxRecDepth 100000 in
set_option maxHeartbeats 8000000 in
theorem fault_walk (wk ep st : Int) (hwk : 1 ≤ wk ∧ wk ≤ 8) (A : Option Addr) (n c : Nat) (x : MRep) (w : World) (hx : x.rd w w.heap.size) (hs : x.r.sent.length * 8 ≤ 140737488355328) (hg : x.r.got.length * 8 ≤ 140737488355328) :
    Calls Try.prog 17 #[.agg (boardC wk ep st A n c), .agg (repC x)] w fun e w' => e = .returned (.int .i64 (repV wk ep st x.r)) ∧ Below w.heap.size w w' := by
  have b0 := bA (bA (Below.refl w.heap.size w) (.cells (boardC wk ep st A n c) 24)) (.cells (repC x) 33)
  have hS := countsMay_walk x.r.sent wk _ x.A x.c (rdb hx.1 (by decide) b0) hs
  have hG := countsMay_walk x.r.got wk _ x.A' x.c' (rdb hx.2 (by decide) b0) hg
  have HI := hid (fun n lo hi => In_walk n lo hi)
  have hcase := repV_cases wk ep st x.r
  have hwr : IntKind.i64.wrap (wk - 1) = wk - 1 := IntWalk.i64_in _ (by omega)
  obtain ⟨xA, xc, xA', xc', worker, epoch, step, sent, got, waking, opn⟩ := x
  unfold boardC repC at *
  simp only at *
  generalize repV wk ep st ⟨worker, epoch, step, sent, got, waking, opn⟩ = F at *
  have h12 : (worker < 0 ∧ F = 2) ∨ (¬ worker < 0 ∧ wk ≤ worker ∧ F = 2) → inB worker 0 (wk - 1) = false := fun h => inB_no (by omega)
  have h3 : ¬ worker < 0 ∧ ¬ wk ≤ worker → inB worker 0 (wk - 1) = true := fun h => inB_yes (by omega)
  rcases hcase with ⟨h1, hv⟩ | ⟨h1, h2, hv⟩ | ⟨h1, h2, hs1, hv⟩ | ⟨h1, h2, hs1, hs2, hv⟩ | ⟨h1, h2, hs1, hs2, hcase⟩
  · have HV := hid hv
    have HB := hid (h12 (.inl ⟨h1, hv⟩))
    clear hv hS hG h12 h3 h1
    go_enter Try.func17, Try.ntmps17
    go_wp2_with fail
    refine (HI.out _ _ _ _).mono ?_
    rintro e w2 ⟨rfl, rfl⟩
    rw [HB.out]
    go_wp2_with fail
    go_ret
    exact ⟨by rw [HV.out]; rfl, b0⟩
  · have HV := hid hv
    have HB := hid (h12 (.inr ⟨h1, h2, hv⟩))
    clear hv hS hG h12 h3 h1 h2
    go_enter Try.func17, Try.ntmps17
    go_wp2_with fail
    refine (HI.out _ _ _ _).mono ?_
    rintro e w2 ⟨rfl, rfl⟩
    rw [HB.out]
    go_wp2_with fail
    go_ret
    exact ⟨by rw [HV.out]; rfl, b0⟩
  · rw [hs1] at hS
    have HV := hid hv
    have HS := hid hS
    have HB := hid (h3 ⟨h1, h2⟩)
    clear hv hS hG h12 h3 h1 h2 hs1
    go_enter Try.func17, Try.ntmps17
    go_wp2_with fail
    refine (HI.out _ _ _ _).mono ?_
    rintro e w2 ⟨rfl, rfl⟩
    rw [HB.out]
    go_wp2_with fail
    refine HS.out.mono ?_
    rintro e w2 ⟨rfl, rfl⟩
    go_wp2_with fail
    go_ret
    exact ⟨by rw [HV.out]; rfl, b0⟩
  · rw [hs1] at hS
    rw [hs2] at hG
    have HV := hid hv
    have HS := hid hS
    have HG := hid hG
    have HB := hid (h3 ⟨h1, h2⟩)
    clear hv hS hG h12 h3 h1 h2 hs1 hs2
    go_enter Try.func17, Try.ntmps17
    go_wp2_with fail
    refine (HI.out _ _ _ _).mono ?_
    rintro e w2 ⟨rfl, rfl⟩
    rw [HB.out]
    go_wp2_with fail
    refine HS.out.mono ?_
    rintro e w2 ⟨rfl, rfl⟩
    go_wp2_with fail
    refine HG.out.mono ?_
    rintro e w2 ⟨rfl, rfl⟩
    go_wp2_with fail
    go_ret
    exact ⟨by rw [HV.out]; rfl, b0⟩
  · rw [hs1] at hS
    rw [hs2] at hG
    have HS := hid hS
    have HG := hid hG
    have HB := hid (h3 ⟨h1, h2⟩)
    clear hS hG h12 h3 h1 h2 hs1 hs2
    have hcase2 : (inB waking 0 1099511627776 = false ∧ F = 2) ∨ (inB waking 0 1099511627776 = true ∧ inB opn 0 1099511627776 = false ∧ F = 2) ∨ (inB waking 0 1099511627776 = true ∧ inB opn 0 1099511627776 = true ∧ (((epoch != ep) = true ∧ F = 11) ∨ ((epoch != ep) = false ∧ (step != st) = true ∧ F = 11) ∨ ((epoch != ep) = false ∧ (step != st) = false ∧ F = 0))) := by
      rcases hcase with ⟨h5, hv⟩ | ⟨h5, h6, hv⟩ | ⟨h5, h6, h7, hv⟩ | ⟨h5, h6, h7, h8, hv⟩ | ⟨h5, h6, h7, h8, h9⟩
      · exact .inl ⟨inB_no (by omega), hv⟩
      · exact .inl ⟨inB_no (by omega), hv⟩
      · exact .inr (.inl ⟨inB_yes (by omega), inB_no (by omega), hv⟩)
      · exact .inr (.inl ⟨inB_yes (by omega), inB_no (by omega), hv⟩)
      · exact .inr (.inr ⟨inB_yes (by omega), inB_yes (by omega), h9⟩)
    clear hcase
    rcases hcase2 with ⟨h5, hv⟩ | ⟨h5, h6, hv⟩ | ⟨h5, h6, hv⟩
    · have HV := hid hv
      have H5 := hid h5
      clear hv h5
      go_enter Try.func17, Try.ntmps17
      go_wp2_with fail
      refine (HI.out _ _ _ _).mono ?_
      rintro e w2 ⟨rfl, rfl⟩
      rw [HB.out]
      go_wp2_with fail
      refine HS.out.mono ?_
      rintro e w2 ⟨rfl, rfl⟩
      go_wp2_with fail
      refine HG.out.mono ?_
      rintro e w2 ⟨rfl, rfl⟩
      go_wp2_with fail
      refine (HI.out _ _ _ _).mono ?_
      rintro e w2 ⟨rfl, rfl⟩
      rw [H5.out]
      go_wp2_with fail
      go_ret
      exact ⟨by rw [HV.out]; rfl, b0⟩
    · have HV := hid hv
      have H5 := hid h5
      have H6 := hid h6
      clear hv h5 h6
      go_enter Try.func17, Try.ntmps17
      go_wp2_with fail
      refine (HI.out _ _ _ _).mono ?_
      rintro e w2 ⟨rfl, rfl⟩
      rw [HB.out]
      go_wp2_with fail
      refine HS.out.mono ?_
      rintro e w2 ⟨rfl, rfl⟩
      go_wp2_with fail
      refine HG.out.mono ?_
      rintro e w2 ⟨rfl, rfl⟩
      go_wp2_with fail
      refine (HI.out _ _ _ _).mono ?_
      rintro e w2 ⟨rfl, rfl⟩
      rw [H5.out]
      go_wp2_with fail
      refine (HI.out _ _ _ _).mono ?_
      rintro e w2 ⟨rfl, rfl⟩
      rw [H6.out]
      go_wp2_with fail
      go_ret
      exact ⟨by rw [HV.out]; rfl, b0⟩
    · have H5 := hid h5
      have H6 := hid h6
      clear h5 h6
      rcases hv with ⟨h9, hv⟩ | ⟨h9, h10, hv⟩ | ⟨h9, h10, hv⟩
      all_goals
        have HV := hid hv
        clear hv
        go_enter Try.func17, Try.ntmps17
        go_wp2_with fail
        refine (HI.out _ _ _ _).mono ?_
        rintro e w2 ⟨rfl, rfl⟩
        rw [HB.out]
        go_wp2_with fail
        refine HS.out.mono ?_
        rintro e w2 ⟨rfl, rfl⟩
        go_wp2_with fail
        refine HG.out.mono ?_
        rintro e w2 ⟨rfl, rfl⟩
        go_wp2_with fail
        refine (HI.out _ _ _ _).mono ?_
        rintro e w2 ⟨rfl, rfl⟩
        rw [H5.out]
        go_wp2_with fail
        refine (HI.out _ _ _ _).mono ?_
        rintro e w2 ⟨rfl, rfl⟩
        rw [H6.out]
        go_wp2_with fail
        go_ret
        exact ⟨by rw [HV.out]; rfl, b0⟩
/-- The place of a worker's report; -1: none. -/
def repIx (l : List Report) (v : Int) : Int := match l.findIdx? (fun r => r.worker == v) with | some i => i | none => -1
theorem repIx_at {l : List Report} {v : Int} {k : Nat} {r : Report} (hr : l[k]? = some r) (hv : r.worker = v) (hb : ∀ (j : Nat) y, j < k → l[j]? = some y → y.worker ≠ v) : repIx l v = k := by
  have hk := (List.getElem?_eq_some_iff.1 hr).1
  have : l.findIdx? (fun r => r.worker == v) = some k := by
    rw [List.findIdx?_eq_some_iff_getElem]
    refine ⟨hk, ?_, fun j hj => ?_⟩
    · rw [(List.getElem?_eq_some_iff.1 hr).2]; simpa using hv
    · have := hb j _ hj (List.getElem?_eq_getElem (by omega)); simpa using this
  unfold repIx; rw [this]
theorem repIx_none {l : List Report} {v : Int} (hb : ∀ (j : Nat) y, l[j]? = some y → y.worker ≠ v) : repIx l v = -1 := by
  have : l.findIdx? (fun r => r.worker == v) = none := by
    rw [List.findIdx?_eq_none_iff]
    intro x hx
    obtain ⟨j, hj⟩ := List.mem_iff_getElem?.1 hx
    have := hb j x hj
    simpa using this
  unfold repIx; rw [this]
def repsOf (l : List MRep) : List Report := l.map (·.r)
theorem repsOf_get {l : List MRep} {k : Nat} {x : MRep} (h : l[k]? = some x) : (repsOf l)[k]? = some x.r := by
  unfold repsOf; rw [List.getElem?_map, h]; rfl
theorem repsOf_len (l : List MRep) : (repsOf l).length = l.length := by simp [repsOf]
theorem repsOf_some {l : List MRep} {k : Nat} {r : Report} (h : (repsOf l)[k]? = some r) : ∃ x, l[k]? = some x ∧ x.r = r := by
  unfold repsOf at h; rw [List.getElem?_map] at h
  cases hx : l[k]? with
  | none => rw [hx] at h; cases h
  | some x => rw [hx] at h; exact ⟨x, rfl, by simpa using h⟩
set_option maxRecDepth 100000 in
set_option maxHeartbeats 2000000 in
theorem repBy_walk (wk ep st v : Int) (A : Option Addr) (c : Nat) (l : List MRep) (w : World) (hr : Rd w w.heap.size A 7 l.length (l.flatMap MRep.cells)) (hn : l.length * 88 ≤ 140737488355328) :
    Calls Try.prog 18 #[.agg (boardC wk ep st A l.length c), .int .i64 v] w fun e w' => e = .returned (.int .i64 (repIx (repsOf l) v)) ∧ Below w.heap.size w w' := by
  unfold boardC
  generalize hF : repIx (repsOf l) v = F
  have HF := hid hF
  clear hF
  obtain ⟨W, hW⟩ : ∃ W, W = w.alloc (.cells #[.int .i64 wk, .int .i64 ep, .int .i64 st, .slice A l.length c] 24) := ⟨_, rfl⟩
  have q3 : W.cell? ⟨w.heap.size, 3, none⟩ = some (.slice A l.length c) := by rw [hW]; go_simp
  have bW : Below w.heap.size w W := hW ▸ bA (Below.refl _ _) _
  go_enter Try.func18, Try.ntmps18
  go_wp2_with fail
  go_loopw [5] (fun i wr => ∃ k : Nat, k ≤ l.length ∧ i = .int .i64 k ∧ W = wr ∧ Hid (∀ (j : Nat) y, j < k → (repsOf l)[j]? = some y → y.worker ≠ v)) (fun i _ => l.length - (intOf i).toNat)
  case atStart => exact ⟨0, by omega, rfl, hW, hid fun j y hj => by omega⟩
  case round =>
    obtain ⟨k, hk, rfl, rfl, H0⟩ := hrel
    clear hW
    by_cases hlt : k < l.length
    · obtain ⟨x, hx⟩ : ∃ x, l[k]? = some x := ⟨_, List.getElem?_eq_getElem hlt⟩
      obtain ⟨b, off, rfl, hb, c0, -⟩ := rep_cells (hr.below bW) rfl hx
      have HX := hid (repsOf_get hx)
      have hkz : (k : Int) < (l.length : Int) := by omega
      clear hx
      by_cases hv : x.r.worker = v
      · have HV : Hid (F = k) := hid (by rw [← HF.out]; exact repIx_at HX.out hv H0.out)
        have hvb : (x.r.worker == v) = true := by simpa using hv
        clear hv
        go_wp2_with fail
        go_ret
        exact ⟨by rw [HV.out]; rfl, bW⟩
      · have HN : Hid (∀ (j : Nat) y, j < k + 1 → (repsOf l)[j]? = some y → y.worker ≠ v) := hid fun j y hj hy => by
          rcases Nat.lt_or_ge j k with h2 | h2
          · exact H0.out j y h2 hy
          · obtain rfl : j = k := by omega
            rw [HX.out] at hy; injection hy with hy; rw [← hy]; exact hv
        have hvb : (x.r.worker == v) = false := by simpa using hv
        clear hv
        go_wp2_with fail
        go_roundw
        case rel => exact ⟨k + 1, by omega, by go_num, by first | rfl | trivial, HN⟩
        case measure => simp [intOf]; omega
    · obtain rfl : k = l.length := by omega
      have HV : Hid (F = -1) := hid (by rw [← HF.out]; exact repIx_none fun j y hy => H0.out j y (by have := (List.getElem?_eq_some_iff.1 hy).1; rw [repsOf_len] at this; exact this) hy)
      go_wp2_with fail
      go_ret
      exact ⟨by rw [HV.out]; rfl, bW⟩
end Go.Proofs.Ytaipjckcckfnaaa
