/- The document's WeakOf. -/
import Derived.Test.YtafnbackjjaelaaWeakW
import Derived.Test.YtafnbackjjaelaaLibF
namespace Go.Proofs.Ytafnbackjjaelaa
open Go.ChangeShapes Go.WideShapes Go.ChangeAt Go.RowKit
set_option linter.unusedVariables false
theorem flN_snoc (k : Nat) (f : Nat → Nat) : flN (k + 1) f = flN k f ++ [(f k : Int)] := by
  unfold flN fl; rw [List.range_succ, List.map_append]; rfl
theorem i64_one (x : Int) : ∀ u ∈ (#[Value.int .i64 x] : Array Value).toList, u.oneCell' = true := by
  intro u hu; simp at hu; subst hu; rfl
def WoA (n : Nat) (w1 : World) (s i : Value) (wr : World) : Prop :=
  ∃ (k c : Nat) (A : Option Addr), k ≤ n ∧ i = .int .i64 k ∧ s = .slice A k c ∧ wr.ownsRow w1.heap.size 3 1 (.slice A k c) k ((flN k id).flatMap i64c) ∧ Below w1.heap.size w1 wr
def WoB (F : Nat → Nat → Nat) (m n c : Nat) (A : Option Addr) (w1 : World) (i : Value) (wr : World) : Prop :=
  ∃ k : Nat, k ≤ m ∧ i = .int .i64 k ∧ wr.ownsRow w1.heap.size 3 1 (.slice A n c) n ((flN n (F k)).flatMap i64c) ∧ Below w1.heap.size w1 wr
theorem prs_lt {n : Nat} {l : List Edge} (h : ∀ (k : Nat) (e : Edge), l[k]? = some e → ∃ a b : Nat, e.src = (a : Int) ∧ e.dst = (b : Int) ∧ a < n ∧ b < n) : ∀ e ∈ prs l, e.1 < n ∧ e.2 < n := by
  intro e he
  obtain ⟨x, hx, rfl⟩ := List.mem_map.1 he
  obtain ⟨i, hi, rfl⟩ := List.getElem_of_mem hx
  obtain ⟨a, b, h1, h2, h3, h4⟩ := h i _ (List.getElem?_eq_getElem hi)
  rw [h1, h2]
  simpa using ⟨h3, h4⟩
set_option maxRecDepth 100000 in
set_option maxHeartbeats 4000000 in
theorem weakOf_walk (g : Graph) (w : World) (A : Option Addr) (c : Nat) (hr : Rd w w.heap.size A 3 g.edges.length (g.edges.flatMap Edge.cells)) (hl : g.edges.length ≤ 9223372036854775807) :
    Calls Try.prog 30 #[.agg #[.int .i64 g.n, .slice A g.edges.length c]] w (RetL 3 1 w (weakV g).1.length ((weakV g).1.flatMap i64c) (weakV g).2) := by
  have r0 := (hr.alloc (Nat.le_refl _) (.cells #[.int .i64 g.n, .slice A g.edges.length c] 24)).any (by decide)
  have hc := hid (graphFault_walk g _ A c r0 hl)
  unfold weakV
  by_cases h0 : graphV g = 0
  · rw [if_pos h0]
    rw [h0] at hc
    obtain ⟨⟨h1, h2, h3⟩, hE⟩ := graphV_ok.1 h0
    clear h0
    obtain ⟨n, l⟩ := g
    simp only at h1 h2 h3 hE hc hr hl ⊢
    obtain ⟨n, rfl⟩ := Int.eq_ofNat_of_zero_le h1
    have HE := hid (fun k e he => edge_nat hE (k := k) (e := e) he)
    clear hE
    simp only [Int.toNat_natCast, flN_len]
    have HFin : Hid (flN n (spreads (prs l) n) = flN n (root (links (prs l)))) := hid (fl_ext fun v hv => by rw [spreads_least n (prs l) (prs_lt HE.out) v hv])
    rw [← HFin.out]
    clear HFin
    go_enter Try.func30, Try.ntmps30
    go_wp2_with fail
    refine hc.out.mono ?_
    rintro e w1 ⟨rfl, b1⟩
    have b01 := bT (bA (Below.refl w.heap.size w) (.cells #[.int .i64 n, .slice A l.length c] 24)) b1
    have hz1 : w.heap.size < w1.heap.size := by have := b1.size; simp at this; omega
    have q0 : w1.cell? ⟨w.heap.size, 0, none⟩ = some (.int .i64 n) := keepb b1 (by go_simp)
    have q1 : w1.cell? ⟨w.heap.size, 1, none⟩ = some (.slice A l.length c) := keepb b1 (by go_simp)
    clear b1
    go_wp2_with fail
    go_loopw [5, 6] (WoA n w1) (fun _ i _ => n - (intOf i).toNat)
    case atStart => exact ⟨0, 0, none, by omega, rfl, rfl, World.ownsRow_nil _ _ _ _, Below.refl _ _⟩
    case round =>
      obtain ⟨k, c', A', hk, rfl, rfl, hown, hbel⟩ := hrel
      have p0 := keepb hbel q0
      have p1 := keepb hbel q1
      by_cases hlt : k < n
      · have HS := hid (flN_snoc k id)
        have hltz : (k : Int) < (n : Int) := by omega
        go_wp2_with (at_builtin; refine wp_app1 _ rfl rfl el_ints rfl (hown.alloc _) rfl (rd_new _ _ _ 1 1 rfl) (i64_one _) (by omega) (Nat.le_trans hbel.size (by simp)) ?_; intro A2 c2 w2 hown2 hb2 hg2)
        go_roundw
        case rel => exact ⟨k + 1, c2, A2, by omega, by go_num, rfl, by rw [HS.out, List.flatMap_append]; exact hown2, (hbel.alloc hbel.size _).trans hb2⟩
        case measure => simp [intOf]; omega
      · obtain rfl : n = k := by omega
        clear hlt
        go_wp2_with fail
        go_loopw [7] (WoB (spreads (prs l)) n n c' A' w1) (fun i _ => n - (intOf i).toNat)
        case atStart => exact ⟨0, by omega, rfl, hown, hbel⟩
        case round =>
          clear hown hbel p0 p1
          obtain ⟨k, hk, rfl, hown, hbel⟩ := hrel
          have p0 := keepb hbel q0
          have p1 := keepb hbel q1
          by_cases hlt : k < n
          · have hltz : (k : Int) < (n : Int) := by omega
            go_wp2_with fail
            go_loopw [8] (WoB (fun j => spread (spreads (prs l) k) (prs (l.take j))) l.length n c' A' w1) (fun i _ => l.length - (intOf i).toNat)
            case atStart => exact ⟨0, by omega, rfl, hown, hbel⟩
            case round =>
              clear hown hbel p0 p1
              obtain ⟨j, hj, rfl, hown, hbel⟩ := hrel
              dsimp only at hown
              have p0 := keepb hbel q0
              have p1 := keepb hbel q1
              by_cases hlt2 : j < l.length
              · obtain ⟨e, he⟩ : ∃ e, l[j]? = some e := ⟨_, List.getElem?_eq_getElem hlt2⟩
                obtain ⟨b, off, rfl, hb, c0, c1, c2⟩ := edge_cells (hr.below (bT b01 hbel)) rfl he
                obtain ⟨x, y, hx, hy, hxn, hyn⟩ := HE.out j e he
                obtain ⟨src, dst, wt⟩ := e
                simp only at hx hy c0 c1 c2
                subst hx hy
                have HT := hid (take_next he)
                have HP := hid (prs_snoc (l.take j) ⟨(x : Int), (y : Int), wt⟩)
                simp only [Int.toNat_natCast] at HP
                have HL := hid (spread_snoc (spreads (prs l) k) (prs (l.take j)) (x, y))
                clear he
                generalize spread (spreads (prs l) k) (prs (l.take j)) = F at *
                obtain ⟨g, rfl, hgb, hgs, d0, d1, HO1⟩ := own_atA hown (flat_i64_get (flN_get F hxn))
                obtain ⟨g', hgg, _, _, d2, d3, HO2⟩ := own_atA hown (flat_i64_get (flN_get F hyn))
                obtain rfl : g = g' := by injection hgg with h; injection h
                have HOX := hid HO1
                have HOY := hid HO2
                have hxz : (x : Int) < (n : Int) := by omega
                have hyz : (y : Int) < (n : Int) := by omega
                have hjz : (j : Int) < (l.length : Int) := by omega
                clear hown HO1 HO2 hgg
                by_cases hlr : F x < F y
                · have HN : Hid (spread (spreads (prs l) k) (prs (l.take (j + 1))) = upd F y (F x)) := hid (by rw [HT.out, HP.out, HL.out]; unfold spread1; rw [if_pos hlr])
                  have HS := hid (flN_set (n := n) F (F x) hyn)
                  have hb1 : ((F x : Int) < (F y : Int)) := by omega
                  generalize F x = fx at *
                  generalize F y = fy at *
                  go_wp2_with fail
                  go_quiet (fail)
                  go_wp2
                  go_roundw
                  case rel => exact ⟨j + 1, by omega, by go_num, by dsimp only; rw [HN.out, ← HS.out, ← flat_i64_set]; exact HOY.out _ _ rfl, (below_drewN hbel _).setCell (by simpa using hgb) _⟩
                  case measure => simp [intOf]; omega
                · have HN : Hid (spread (spreads (prs l) k) (prs (l.take (j + 1))) = upd F x (F y)) := hid (by rw [HT.out, HP.out, HL.out]; unfold spread1; rw [if_neg hlr])
                  have HS := hid (flN_set (n := n) F (F y) hxn)
                  have hb1 : ¬ ((F x : Int) < (F y : Int)) := by omega
                  generalize F x = fx at *
                  generalize F y = fy at *
                  go_wp2_with fail
                  go_quiet (fail)
                  go_wp2
                  go_roundw
                  case rel => exact ⟨j + 1, by omega, by go_num, by dsimp only; rw [HN.out, ← HS.out, ← flat_i64_set]; exact HOX.out _ _ rfl, (below_drewN hbel _).setCell (by simpa using hgb) _⟩
                  case measure => simp [intOf]; omega
              · obtain rfl : j = l.length := by omega
                rw [List.take_length] at hown
                go_wp2
                go_roundw
                case rel => exact ⟨k + 1, by omega, by go_num, hown, hbel⟩
                case measure => simp [intOf]; omega
          · obtain rfl : n = k := by omega
            go_wp2
            go_ret2
            exact ⟨_, _, rfl, own_more hown (Nat.le_of_lt hz1), bT b01 hbel⟩
  · rw [if_neg h0]
    have hb : (graphV g == 0) = false := by simpa using h0
    generalize graphV g = r at *
    clear h0
    go_enter Try.func30, Try.ntmps30
    go_wp2_with fail
    refine hc.out.mono ?_
    rintro e w1 ⟨rfl, b1⟩
    go_wp2_with fail
    go_ret2
    exact ⟨none, 0, rfl, World.ownsRow_nil _ _ _ _, bT (bA (Below.refl _ _) _) b1⟩
end Go.Proofs.Ytafnbackjjaelaa
