/- The document's GraphFault; the statement's copy of a graph. -/
import Derived.Test.YtfdaheenigmkmaaDoorGraph
import Derived.Test.YtfdaheenigmkmaaDoorMem
namespace Go.Proofs.YtfdaheenigmkmaaDoor
open Go.ChangeShapes Go.WideShapes Go.ChangeAt Go.RowKit
set_option linter.unusedVariables false
set_option linter.unusedSimpArgs false
set_option maxHeartbeats 2000000 in
theorem graphFault_walk (g : Graph) (w : World) (A : Option Addr) (c : Nat) (hr : Rd w w.heap.size A 3 g.edges.length (g.edges.flatMap Edge.cells)) (hl : g.edges.length ≤ 9223372036854775807) :
    Calls Tryd.prog 18 #[.agg #[.int .i64 g.n, .slice A g.edges.length c]] w fun e w' => e = .returned (.int .i64 (graphV g)) ∧ Below w.heap.size w w' := by
  obtain ⟨n, l⟩ := g
  simp only at hr hl ⊢
  by_cases hfit : graphFits ⟨n, l⟩
  · have HV : Hid ((∀ e ∈ l, edgeOk n e) → graphV ⟨n, l⟩ = 0) := hid (fun h => graphV_ok.2 ⟨hfit, h⟩)
    have HV2 : Hid (¬ (∀ e ∈ l, edgeOk n e) → graphV ⟨n, l⟩ = 2) := hid (fun h => by unfold graphV; rw [if_pos hfit, if_neg h])
    obtain ⟨h1, h2, h3⟩ := hfit
    simp only at h1 h2 h3
    have i0 := inB_yes ⟨h1, h2⟩
    generalize graphV ⟨n, l⟩ = r at *
    go_enter Tryd.func18, Tryd.ntmps18
    go_wp2_with (go_at_call 32; refine (In_walk _ _ _ _).mono ?_; rintro e w' ⟨rfl, rfl⟩)
    go_loopw [3] (GraphRel l n (.slice A l.length c) w) (fun i _ => l.length - (intOf i).toNat)
    case atStart => exact ⟨0, by omega, rfl, hid (fun j e h => by omega), bA (Below.refl _ _) _, by simp, by go_simp, by go_simp⟩
    case round =>
      obtain ⟨k, hk, rfl, HO, hbel, hsz, hb0, hb1⟩ := hrel
      by_cases hlt : k < l.length
      · obtain ⟨e, he⟩ : ∃ e, l[k]? = some e := ⟨_, List.getElem?_eq_getElem hlt⟩
        obtain ⟨b, off, rfl, hb, c0, c1, c2⟩ := edge_cells (hr.below hbel) rfl he
        have hbr : b < wr.heap.size := by omega
        have HE := hid he
        clear he
        by_cases hok : edgeOk n e
        · have HK := hid hok
          obtain ⟨hs, hd, hw1, hw2⟩ := hok
          have is1 : inB e.src 0 (n - 1) = true := inB_yes (by omega)
          have is2 : inB e.dst 0 (n - 1) = true := inB_yes (by omega)
          have is3 : inB e.wt 0 1099511627776 = true := inB_yes ⟨hw1, hw2⟩
          clear hs hd
          go_wp2_with (go_at_call 32; refine (In_walk _ _ _ _).mono ?_; rintro e w' ⟨rfl, rfl⟩)
          go_roundw
          case rel => exact ⟨k + 1, by omega, by go_num, hid (okNext HE.out HK.out HO.out), hbel.alloc hbel.size _, by simp; omega, by go_simp, by go_simp⟩
          case measure => simp [intOf]; omega
        · have HB := hid (HV2.out (notAll HE.out hok))
          have hcase : inB e.src 0 (n - 1) = false ∨ (inB e.src 0 (n - 1) = true ∧ inB e.dst 0 (n - 1) = false) ∨ (inB e.src 0 (n - 1) = true ∧ inB e.dst 0 (n - 1) = true ∧ inB e.wt 0 1099511627776 = false) := by
            unfold edgeOk at hok
            simp only [inB, decide_eq_false_iff_not, decide_eq_true_eq]
            omega
          clear hok
          rcases hcase with i1 | ⟨i1, i2⟩ | ⟨i1, i2, i3⟩
          all_goals
            go_wp2_with (go_at_call 32; refine (In_walk _ _ _ _).mono ?_; rintro e w' ⟨rfl, rfl⟩)
            go_ret
            rw [HB.out]
            exact ⟨rfl, hbel.alloc hbel.size _⟩
      · obtain rfl : k = l.length := by omega
        have HB := hid (HV.out (allOk HO.out))
        go_wp2
        go_ret
        rw [HB.out]
        exact ⟨rfl, hbel⟩
  · have HV : Hid (graphV ⟨n, l⟩ = 1) := hid (by unfold graphV; rw [if_neg hfit])
    have hcase : inB n 0 200 = false ∨ (inB n 0 200 = true ∧ 600 < l.length) := by
      unfold graphFits at hfit
      simp only [inB, decide_eq_false_iff_not, decide_eq_true_eq]
      simp only at hfit
      omega
    generalize graphV ⟨n, l⟩ = r at *
    clear hfit
    rcases hcase with h1 | ⟨h1, h2⟩
    all_goals
      go_enter Tryd.func18, Tryd.ntmps18
      go_wp2_with (go_at_call 32; refine (In_walk _ _ _ _).mono ?_; rintro e w' ⟨rfl, rfl⟩)
      go_ret
      rw [HV.out]
      exact ⟨rfl, bA (Below.refl _ _) _⟩
end Go.Proofs.YtfdaheenigmkmaaDoor
