/- The document's ReachOf; the law on paths.Reach. -/
import Derived.Test.YtdmakcenfbfpaaaReachW
namespace Go.Proofs.Ytdmakcenfbfpaaa
open Go.ChangeShapes Go.WideShapes Go.ChangeAt Go.RowKit
set_option linter.unusedVariables false
set_option linter.unusedSimpArgs false
def RfRel (F : Nat → Nat → Bool) (most n G : Nat) (w1 : World) (i : Value) (wr : World) : Prop :=
  ∃ k : Nat, k ≤ most ∧ i = .int .i64 (k : Nat) ∧ wr.ownsRow G 4 1 (.slice (some ⟨G, 0, none⟩) n n) n ((fb n (F k)).map Value.bool) ∧ Below w1.heap.size w1 wr
theorem flood_take {l : List Edge} {f : Nat → Bool} {i a b : Nat} {wt : Int} (h : l[i]? = some ⟨(a : Int), (b : Int), wt⟩) : flood f (prs (l.take (i + 1))) = flood1 (flood f (prs (l.take i))) (a, b) := by
  rw [take_next h, prs_snoc, flood_snoc]; simp
set_option maxRecDepth 100000 in
set_option maxHeartbeats 4000000 in
theorem reachOf_walk (g : Graph) (v : Int) (w : World) (A : Option Addr) (c : Nat) (hr : Rd w w.heap.size A 3 g.edges.length (g.edges.flatMap Edge.cells)) (hl : g.edges.length ≤ 9223372036854775807) :
    Calls Try.prog 50 #[.agg #[.int .i64 g.n, .slice A g.edges.length c], .int .i64 v] w (RetB w (reachV g v).1 (reachV g v).2) := by
  have b0 := bA (Below.refl w.heap.size w) (.cells #[.int .i64 g.n, .slice A g.edges.length c] 41)
  have hc := hid (graphFault_walk g _ A c (rdb hr (by decide) b0) hl)
  have hI := fun w => In_walk v 0 (g.n - 1) w
  by_cases h0 : graphV g = 0
  · rw [h0] at hc
    have hgn := (graphV_ok.1 h0).1
    have hw1 : IntKind.i64.wrap (g.n - 1) = g.n - 1 := IntWalk.i64_in _ (by have := hgn.1; have := hgn.2.1; omega)
    by_cases hv : 0 ≤ v ∧ v < g.n
    · have HRV := hid (reachV_ok h0 hv)
      rw [inB_yes (by omega)] at hI
      obtain ⟨n, hn⟩ := Int.eq_ofNat_of_zero_le (show (0 : Int) ≤ g.n by omega)
      obtain ⟨v, rfl⟩ := Int.eq_ofNat_of_zero_le hv.1
      obtain ⟨hE, hl6, hn2⟩ := graph_edges h0 hn
      have hvn : v < n := by omega
      have hvz : (v : Int) < (n : Int) := by omega
      have HRE : Hid (reachV g v = (fb n (floods (prs g.edges) v n), 0)) := hid (by rw [HRV.out, hn]; simp only [Int.toNat_natCast]; rw [fb_ext fun u hu => (floods_all n (prs g.edges) (prs_ltN hE) v u hu).symm])
      have HE := hid hE
      rw [hn] at hc hI hw1 ⊢
      have HI := hid hI
      obtain ⟨gn, l⟩ := g
      simp only at hn hc hr hl hl6 hE HE HRE ⊢
      clear h0 hv hE HRV hn hI hgn b0
      go_enter Try.func50, Try.ntmps50
      go_wp2_with fail
      refine hc.out.mono ?_
      rintro e w1 ⟨rfl, b1⟩
      have b01 := bT (bA (Below.refl w.heap.size w) (.cells #[.int .i64 (n : Int), .slice A l.length c] 41)) b1
      have hz1 : w.heap.size < w1.heap.size := by have := b1.size; simp at this; omega
      have q0 : w1.cell? ⟨w.heap.size, 0, none⟩ = some (.int .i64 (n : Int)) := keepb b1 (by go_simp)
      have q1 : w1.cell? ⟨w.heap.size, 1, none⟩ = some (.slice A l.length c) := keepb b1 (by go_simp)
      go_wp2_with fail
      refine (HI.out _).mono ?_
      rintro e w' ⟨rfl, rfl⟩
      go_wp2_with (refine wp_make1 rfl rfl Try.underlying97 inf_bool rfl n rfl rfl (by omega) (by omega) ?_; intro w2 o2 b2 hz2; obtain ⟨d0, d1⟩ := own_at o2 (j := v) (v := .bool false) (by simp [hvn]))
      rw [fb_zero] at o2
      have o3 := (o2.stored v (.bool true)).1
      rw [fb_set _ _ hvn] at o3
      have b13 := bS b2 (p := ⟨w1.heap.size, v, none⟩) (Nat.le_refl _) (.bool true)
      clear o2 b2 d0 d1
      go_loopw [8, 9] (fun i _ wr => RfRel (fun k => floods (prs l) v k) n n w1.heap.size w1 i wr) (fun i _ _ => n - (intOf i).toNat)
      case atStart => exact ⟨0, by omega, rfl, o3, b13⟩
      case round =>
        obtain ⟨V, hV⟩ : ∃ V, V = wr := ⟨_, rfl⟩
        subst hV
        obtain ⟨k, hk, rfl, hown, hbel⟩ := hrel
        dsimp only at hown
        have p0 := keepb hbel q0
        have p1 := keepb hbel q1
        have hsz := hbel.size
        by_cases hlt : k < n
        · have hkz : (k : Int) < (n : Int) := by omega
          have HO := hid hown
          have HBL := hid hbel
          clear hown hbel
          go_wp2_with fail
          go_loopw [9] (fun i wr => RfRel (fun i => flood (floods (prs l) v k) (prs (l.take i))) l.length n w1.heap.size w1 i wr) (fun i _ => l.length - (intOf i).toNat)
          case atStart => exact ⟨0, by omega, rfl, HO.out, HBL.out⟩
          case round =>
            obtain ⟨V1, hV1⟩ : ∃ V1, V1 = wr := ⟨_, rfl⟩
            subst hV1
            obtain ⟨i, hi, rfl, hown, hbel⟩ := hrel
            dsimp only at hown
            have q0 := keepb hbel q0
            have q1 := keepb hbel q1
            have hsz1 := hbel.size
            have hb0 := bT b01 hbel
            by_cases hlti : i < l.length
            · obtain ⟨e, he⟩ : ∃ e, l[i]? = some e := ⟨_, List.getElem?_eq_getElem hlti⟩
              obtain ⟨a, b, ha, hb, han, hbn⟩ := HE.out i e he
              obtain ⟨bb, off, rfl, hbb, c0, c1, c2⟩ := edge_cells (hr.below hb0) rfl he
              obtain ⟨src, dst, wt⟩ := e
              simp only at ha hb c0 c1 c2
              subst ha hb
              have HFT := hid (flood_take (f := floods (prs l) v k) he)
              have hiz : (i : Int) < (l.length : Int) := by omega
              have haz : (a : Int) < (n : Int) := by omega
              have hbz : (b : Int) < (n : Int) := by omega
              have hbr : bb < V1.heap.size := by omega
              obtain ⟨f0, f1⟩ := own_at hown (fb_getv _ han)
              obtain ⟨g0, g1⟩ := own_at hown (fb_getv _ hbn)
              have HS := hid (hown.stored b (.bool true)).1
              have HOW := hid hown
              clear he hown
              generalize flood (floods (prs l) v k) (prs (l.take i)) = f at *
              cases hfa : f a with
              | true =>
                rw [hfa] at f0
                have HN : Hid (flood (floods (prs l) v k) (prs (l.take (i + 1))) = upd f b true) := hid (by rw [HFT.out]; unfold flood1; rw [if_pos hfa])
                clear hfa
                go_wp2_with fail
                go_roundw
                case rel => exact ⟨i + 1, by omega, by go_num, by dsimp only; rw [HN.out, ← fb_set _ _ hbn]; exact HS.out, bS hbel (Nat.le_refl _) _⟩
                case measure => simp [intOf]; omega
              | false =>
                rw [hfa] at f0
                have HN : Hid (flood (floods (prs l) v k) (prs (l.take (i + 1))) = f) := hid (by rw [HFT.out]; unfold flood1; rw [if_neg (by rw [hfa]; simp)])
                clear hfa
                go_wp2_with fail
                go_roundw
                case rel => exact ⟨i + 1, by omega, by go_num, by dsimp only; rw [HN.out]; exact HOW.out, hbel⟩
                case measure => simp [intOf]; omega
            · obtain rfl : i = l.length := by omega
              have HFF := hid (show flood (floods (prs l) v k) (prs (l.take l.length)) = floods (prs l) v (k + 1) by rw [List.take_length]; rfl)
              have HOW := hid hown
              clear hown
              go_wp2_with fail
              go_roundw
              case rel => exact ⟨k + 1, by omega, by go_num, by dsimp only; rw [← HFF.out]; exact HOW.out, hbel⟩
              case measure => simp [intOf]; omega
        · obtain rfl : k = n := by omega
          have HO := hid hown
          clear hown
          go_wp2_with fail
          go_ret2
          rw [HRE.out]
          exact ⟨some ⟨w1.heap.size, 0, none⟩, _, by rw [fb_len]; rfl, by rw [fb_len]; exact own_more HO.out b01.size, bT b01 hbel⟩
    · have HRV := hid (reachV_out h0 hv)
      rw [inB_no (by omega)] at hI
      have HI := hid hI
      go_enter Try.func50, Try.ntmps50
      go_wp2_with fail
      refine hc.out.mono ?_
      rintro e w1 ⟨rfl, b1⟩
      have q0 : w1.cell? ⟨w.heap.size, 0, none⟩ = some (.int .i64 g.n) := keepb b1 (by go_simp)
      go_wp2_with fail
      refine (HI.out _).mono ?_
      rintro e w' ⟨rfl, rfl⟩
      go_wp2_with fail
      go_ret2
      rw [HRV.out]
      exact retB_none _ _ _ (bT b0 b1)
  · have HRV := hid (reachV_bad (v := v) h0)
    have hb : (graphV g != 0) = true := by simpa using h0
    generalize graphV g = r at *
    clear h0
    go_enter Try.func50, Try.ntmps50
    go_wp2_with fail
    refine hc.out.mono ?_
    rintro e w1 ⟨rfl, b1⟩
    go_wp2_with fail
    go_ret2
    rw [HRV.out]
    exact retB_none _ _ _ (bT b0 b1)
end Go.Proofs.Ytdmakcenfbfpaaa
