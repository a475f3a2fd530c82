/- The document's StrongOf. -/
import Derived.Test.YtdmakcenfbfpaaaStrongW
import Derived.Test.YtdmakcenfbfpaaaReachR
namespace Go.Proofs.Ytdmakcenfbfpaaa
open Go.ChangeShapes Go.WideShapes Go.ChangeAt Go.RowKit
set_option linter.unusedVariables false
set_option linter.unusedSimpArgs false
def b8c (b : Bool) : List Value := [.bool b]
theorem flat_b8 : ∀ l : List Bool, l.flatMap b8c = l.map Value.bool
  | [] => rfl
  | a :: l => by rw [List.flatMap_cons, flat_b8 l]; rfl
theorem bcellB {w : World} {B n k : Nat} {A : Option Addr} {l : List Bool} {x : Bool} (h : Rd w B A 1 n (l.flatMap b8c)) (hl : l.length = n) (hk : l[k]? = some x) : ∃ b off, A = some ⟨b, off, none⟩ ∧ b < B ∧ w.cell? ⟨b, off + k, none⟩ = some (.bool x) := by
  have hk' := (List.getElem?_eq_some_iff.1 hk).1
  obtain ⟨b, off, rfl, hb, hc⟩ := h.2 (by omega)
  exact ⟨b, off, rfl, hb, hc _ _ (by rw [flat_b8, List.getElem?_map, hk]; rfl)⟩
theorem el_grid_bool : ElemTy Try.prog 99 97 1 24 := elemTy (z := .slice none 0 0) Try.underlying99 (by decide) (by decide) (by kernel_rfl) rfl
def SrRel (l : List (Nat × Nat)) (n : Nat) (w W : World) (s i : Value) (wr : World) : Prop :=
  ∃ (k c : Nat) (A : Option Addr) (acc : List (ML Bool)), k ≤ n ∧ i = .int .i64 k ∧ s = .slice A k c ∧ Hid (acc.length = k) ∧ Hid (∀ (i : Nat) (x : ML Bool), acc[i]? = some x → x.l = fb n (rchB l i)) ∧ Hid (Heaped ML.cells (ML.parts b8c 1) wr W.heap.size 97 1 A c acc) ∧ Below W.heap.size W wr
def SoRel (l : List (Nat × Nat)) (n : Nat) (W : World) (s i : Value) (wr : World) : Prop :=
  ∃ (k c : Nat) (A : Option Addr), k ≤ n ∧ i = .int .i64 k ∧ s = .slice A k c ∧ Hid (wr.ownsRow W.heap.size 3 1 (.slice A k c) k (((fl n (lb l n)).take k).flatMap i64c)) ∧ Below W.heap.size W wr
set_option maxRecDepth 100000 in
set_option maxHeartbeats 2000000 in
theorem strongOf_walk (g : Graph) (w : World) (A : Option Addr) (c : Nat) (hr : Rd w w.heap.size A 3 g.edges.length (g.edges.flatMap Edge.cells)) (hl : g.edges.length ≤ 9223372036854775807) :
    Calls Try.prog 28 #[.agg #[.int .i64 g.n, .slice A g.edges.length c]] w (RetL 3 1 w (strongV g).1.length ((strongV g).1.flatMap i64c) (strongV g).2) := by
  have b0 := bA (Below.refl w.heap.size w) (.cells #[.int .i64 g.n, .slice A g.edges.length c] 41)
  have HF := hid (graphFault_walk g _ A c (rdb hr (by decide) b0) hl)
  by_cases h0 : graphV g = 0
  · rw [h0] at HF
    obtain ⟨n, hn⟩ := Int.eq_ofNat_of_zero_le (show (0 : Int) ≤ g.n from (graphV_ok.1 h0).1.1)
    obtain ⟨hE, hl6, hn2⟩ := graph_edges h0 hn
    have HSV := hid (strongV_ok h0 hn)
    have HRV : Hid (∀ k : Nat, k < n → reachV g (k : Int) = (fb n (rchB (prs g.edges) k), 0)) := hid fun k hk => by rw [reachV_ok h0 (by omega), hn]; simp
    have HRO := hid (fun (V : World) (hV : Below w.heap.size w V) (k : Nat) => reachOf_walk g (k : Int) V A c (rdb hr (by decide) hV) hl)
    rw [hn] at HF HRO b0 ⊢
    rw [HSV.out, fl_len]
    clear h0 hE hl6 HSV hn
    go_enter Try.func28, Try.ntmps28
    go_wp2_with fail
    refine HF.out.mono ?_
    rintro e w1 ⟨rfl, b1⟩
    have b01 := bT b0 b1
    have q0 : w1.cell? ⟨w.heap.size, 0, none⟩ = some (.int .i64 (n : Int)) := keepb b1 (by go_simp)
    have q1 : w1.cell? ⟨w.heap.size, 1, none⟩ = some (.slice A g.edges.length c) := keepb b1 (by go_simp)
    clear b1 b0 HF
    go_wp2_with fail
    go_loopw [5, 6] (SrRel (prs g.edges) n w w1) (fun _ i _ => n - (intOf i).toNat)
    case atStart => exact ⟨0, 0, none, [], by omega, rfl, rfl, hid rfl, hid (fun i x hx => by cases hx), hid Heaped.nil, Below.refl _ _⟩
    case round =>
      obtain ⟨k, c', A', acc, hk, rfl, rfl, HA, HX, HO, hbel⟩ := hrel
      have q0r := keepb hbel q0
      have q1r := keepb hbel q1
      have b0r := bT b01 hbel
      by_cases hlt : k < n
      · have hkz : (k : Int) < (n : Int) := by omega
        have hcl := HRO.out wr b0r k
        rw [HRV.out k hlt] at hcl
        have hfl := fb_len n (rchB (prs g.edges) k)
        have hc2 : Calls Try.prog 50 #[.agg #[.int .i64 (n : Int), .slice A g.edges.length c], .int .i64 (k : Int)] wr (RetL 4 1 wr (fb n (rchB (prs g.edges) k)).length ((fb n (rchB (prs g.edges) k)).map Value.bool) 0) := hcl
        rw [hfl] at hc2
        unfold RetL at hc2
        have HC := hid hc2
        clear hcl hc2
        have HFL := hid hfl
        have hn24 : (k + 1) * 24 ≤ 140737488355328 := by omega
        clear q0 q1 hfl
        go_wp2_with fail
        refine HC.out.mono ?_
        rintro e w2 ⟨A2, c2, rfl, o2, b2⟩
        have hown := HO.out
        have hown2 := hown.below b2 (Nat.le_refl _)
        have hokp : ∀ o, ∀ p ∈ ML.parts b8c 1 (⟨A2, c2, fb n (rchB (prs g.edges) k)⟩ : ML Bool), p.ok (w2.alloc o) w1.heap.size (Value.slice A' acc.length c').ownBlock := fun o p hp => by
          obtain rfl := List.mem_singleton.1 hp
          have h := (hown.ok o2 (Nat.le_refl _) hbel.size).alloc o
          show Part.ok (w2.alloc o) w1.heap.size _ ⟨A2, 1, (fb n (rchB (prs g.edges) k)).length, (fb n (rchB (prs g.edges) k)).flatMap b8c⟩
          rw [HFL.out, flat_b8]
          exact h
        have hbase : ∀ o, w1.heap.size ≤ (w2.alloc o).heap.size := fun o => by have := (bT hbel b2).size; simp; omega
        have hcell : ML.cells (⟨A2, c2, fb n (rchB (prs g.edges) k)⟩ : ML Bool) = [.slice A2 n c2] := by unfold ML.cells; rw [HFL.out]
        clear hown
        go_wp2_with (at_builtin; refine wp_heap _ rfl rfl el_grid_bool rfl HA.out.symm (hown2.alloc _) ⟨A2, c2, fb n (rchB (prs g.edges) k)⟩ (hokp _) rfl (by rw [hcell]; exact rd_newAt _ _ _ 1 1 _ (by simp) rfl) (one_ML [_]) hn24 (hbase _) ?_; intro A3 c3 w3 hown3 hb3 hg3)
        go_roundw
        case rel => exact ⟨k + 1, c3, A3, acc ++ [⟨A2, c2, fb n (rchB (prs g.edges) k)⟩], by omega, by go_num, rfl, hid (by rw [List.length_append, HA.out]; rfl), hid (fun i x hx => by
          rcases Nat.lt_or_ge i acc.length with hi | hi
          · rw [List.getElem?_append_left hi] at hx; exact HX.out i x hx
          · rw [List.getElem?_append_right hi] at hx
            rcases Nat.eq_zero_or_pos (i - acc.length) with h2 | h2
            · rw [h2] at hx; injection hx with hx; have : i = k := by have := HA.out; omega
              rw [← hx, this]
            · rw [List.getElem?_eq_none (by simp; omega)] at hx; cases hx), hid hown3, (bA (bT hbel b2) _).trans hb3⟩
        case measure => simp [intOf]; omega
      · obtain rfl : n = k := by omega
        have hgr : Grid b8c 1 wr wr.heap.size A' acc := HO.out.led
        have hkz : ¬ ((n : Int) < (n : Int)) := by omega
        clear HO q0 q1 hbel HRO HRV
        go_wp2_with fail
        go_loopw [9, 10] (SoRel (prs g.edges) n wr) (fun _ i _ => n - (intOf i).toNat)
        case atStart => exact ⟨0, 0, none, by omega, rfl, rfl, hid (World.ownsRow_nil _ _ _ _), Below.refl _ _⟩
        case round =>
          obtain ⟨v, c2, A2, hv, rfl, rfl, HO2, hbel2⟩ := hrel
          have q0s := keepb hbel2 q0r
          by_cases hlv : v < n
          · have hvz : (v : Int) < (n : Int) := by omega
            obtain ⟨x, hx⟩ : ∃ x, acc[v]? = some x := ⟨_, List.getElem?_eq_getElem (by rw [HA.out]; exact hlv)⟩
            obtain ⟨b, off, rfl, hb, cx⟩ := ml_cell (hgr.1.below hbel2) rfl hx
            have hxl := HX.out v x hx
            have HXV := hid hx
            have HXL := hid hxl
            have hrx := rdb (Grid.data hgr (List.mem_of_getElem? hx)) (by decide) hbel2
            have hxn : x.l.length = n := by rw [hxl, fb_len]
            have HRX := hid hrx
            rw [hxn] at cx
            clear hx hxl hrx hxn
            go_wp2_with fail
            go_loop [11] (fun i => ∃ u : Nat, u ≤ v ∧ i = .int .i64 u ∧ Hid (∀ x, x < u → com (prs g.edges) v x = false)) (fun i => v + 1 - (intOf i).toNat)
            case atStart => exact ⟨0, by omega, rfl, hid fun x hx => by omega⟩
            case round =>
              obtain ⟨u, hu, rfl, HU⟩ := hrel
              have hun : u < n := by omega
              have huz : (u : Int) < (n : Int) := by omega
              obtain ⟨y, hy⟩ : ∃ y, acc[u]? = some y := ⟨_, List.getElem?_eq_getElem (by rw [HA.out]; exact hun)⟩
              obtain ⟨b2, off2, e2, hb2, cy⟩ := ml_cell (hgr.1.below hbel2) rfl hy
              injection e2 with e2
              injection e2 with e3 e4
              subst e3 e4
              have hyl := HX.out u y hy
              have hry := rdb (Grid.data hgr (List.mem_of_getElem? hy)) (by decide) hbel2
              obtain ⟨bx, ox, hxa, -, ex⟩ := bcellB (k := u) HRX.out rfl (by rw [HXL.out]; exact fb_get _ hun)
              obtain ⟨by_, oy, hya, -, ey⟩ := bcellB (k := v) hry rfl (by rw [hyl]; exact fb_get _ hlv)
              have hyn : y.l.length = n := by rw [hyl, fb_len]
              rw [hyn, hya] at cy
              rw [hxa] at cx
              clear hy hyl hry hyn hya
              cases ha : rchB (prs g.edges) v u with
              | false =>
                have HN := hid (show com (prs g.edges) v u = false by unfold com; rw [ha]; rfl)
                have hne : u < v := by
                  rcases Nat.lt_or_ge u v with h | h
                  · exact h
                  · obtain rfl : u = v := by omega
                    have := HN.out; rw [com_refl] at this; cases this
                rw [ha] at ex
                clear ha ey hxa
                go_wp2_with fail
                go_round
                case rel => exact ⟨u + 1, by omega, by go_num, hid fun x hx => by
                  rcases Nat.lt_or_ge x u with h | h
                  · exact HU.out x h
                  · obtain rfl : x = u := by omega
                    exact HN.out⟩
                case measure => simp [intOf]; omega
              | true =>
                cases hb : rchB (prs g.edges) u v with
                | false =>
                  have HN := hid (show com (prs g.edges) v u = false by unfold com; rw [ha, hb]; rfl)
                  have hne : u < v := by
                    rcases Nat.lt_or_ge u v with h | h
                    · exact h
                    · obtain rfl : u = v := by omega
                      have := HN.out; rw [com_refl] at this; cases this
                  rw [ha] at ex
                  rw [hb] at ey
                  clear ha hb hxa
                  go_wp2_with fail
                  go_round
                  case rel => exact ⟨u + 1, by omega, by go_num, hid fun x hx => by
                    rcases Nat.lt_or_ge x u with h | h
                    · exact HU.out x h
                    · obtain rfl : x = u := by omega
                      exact HN.out⟩
                  case measure => simp [intOf]; omega
                | true =>
                  have HLV := hid (lb_at (v := v) hun HU.out (by unfold com; rw [ha, hb]; rfl))
                  have HT : Hid ((fl n (lb (prs g.edges) n)).take (v + 1) = (fl n (lb (prs g.edges) n)).take v ++ [(u : Int)]) := hid (by rw [take_nextV (fl_get _ hlv), HLV.out])
                  have hown := HO2.out
                  have hn8 : (v + 1) * 8 ≤ 140737488355328 := by omega
                  rw [ha] at ex
                  rw [hb] at ey
                  clear ha hb hxa
                  go_wp2_with (at_builtin; refine wp_app1 _ rfl rfl el_ints rfl (hown.alloc _) rfl (rd_new _ _ _ 1 1 rfl) (one_cellV _ rfl) hn8 (Nat.le_trans hbel2.size (by simp)) ?_; intro A4 c4 w4 hown4 hb4 hg4)
                  go_roundw
                  case rel => exact ⟨v + 1, c4, A4, by omega, by go_num, rfl, hid (by rw [HT.out, List.flatMap_append]; exact hown4), (hbel2.alloc hbel2.size _).trans hb4⟩
                  case measure => simp [intOf]; omega
          · obtain rfl : n = v := by omega
            have hvz : ¬ ((n : Int) < (n : Int)) := by omega
            have hown := HO2.out
            rw [List.take_of_length_le (by rw [fl_len]; exact Nat.le_refl _)] at hown
            go_wp2_with fail
            go_ret2
            exact ⟨_, _, rfl, own_more hown b0r.size, bT b0r hbel2⟩
  · rw [strongV_bad h0]
    have h0b : (graphV g != 0) = true := by simpa using h0
    generalize graphV g = gv at HF h0b
    clear h0
    go_enter Try.func28, Try.ntmps28
    go_wp2_with fail
    refine HF.out.mono ?_
    rintro e w2 ⟨rfl, b2⟩
    go_wp2_with fail
    go_ret2
    exact ⟨none, 0, rfl, World.ownsRow_nil _ _ _ _, bT b0 b2⟩
end Go.Proofs.Ytdmakcenfbfpaaa
