/- paths.Dist. -/
import Derived.Test.YtifpngjipkmdcaaDisP
import Derived.Test.YtifpngjipkmdcaaSpU
namespace Go.Proofs.Ytifpngjipkmdcaa
open Go.ChangeShapes Go.WideShapes Go.ChangeAt Go.RowKit
set_option linter.unusedVariables false
set_option linter.unusedSimpArgs false
theorem own_belowL {w w' : World} {base e sz n L : Nat} {v : Value} {xs : List Value} (h : w.ownsRow base e sz v n xs) (hL : ∀ y, v.ownBlock = some y → y < L) (b : Below L w w') : w'.ownsRow base e sz v n xs := by
  refine ⟨h.1, ?_⟩
  rcases h.2 with h0 | ⟨g, cap, cur, h1, h2, h3, r⟩
  · exact .inl h0
  · exact .inr ⟨g, cap, cur, h1, h2, by rw [b.block g (hL g (by rw [h1]; rfl))]; exact h3, r⟩
/-- The hops, in blocks from base on and below L. -/
def HopsG (w : World) (L base : Nat) (A : Option Addr) (n : Nat) (m : List (ML Hop)) : Prop :=
  OwnHops w base A n m ∧ (∀ y, (Value.slice A m.length n).ownBlock = some y → y < L) ∧ ∀ (i : Nat) (x : ML Hop) (y : Nat), m[i]? = some x → x.blk = some y → y < L
theorem HopsG.below {w w' : World} {L base n : Nat} {A : Option Addr} {m : List (ML Hop)} (h : HopsG w L base A n m) (b : Below L w w') : HopsG w' L base A n m :=
  ⟨⟨⟨own_belowL h.1.1.1 h.2.1 b, fun _ _ _ hp => by cases hp⟩, ⟨fun i x hx => own_belowL (h.1.2.own i x hx) (fun y hy => h.2.2 i x y (by simpa using hx) hy) b, h.1.2.off, h.1.2.apart⟩⟩, h.2⟩
theorem HopsG.store {w : World} {L base n : Nat} {A : Option Addr} {m : List (ML Hop)} (h : HopsG w L base A n m) {a : Addr} (ha : a.block < base) (u : Value) : HopsG (w.setCell a u) L base A n m :=
  ⟨OwnGrid.store h.1 ha u, h.2⟩
theorem HopsG.at_ {w : World} {L base n : Nat} {A : Option Addr} {m : List (ML Hop)} (h : HopsG w L base A n m) {k : Nat} {x : ML Hop} (hx : m[k]? = some x) :
    ∃ b, A = some ⟨b, 0, none⟩ ∧ base ≤ b ∧ b < L ∧ w.cell? ⟨b, k, none⟩ = some (.slice x.A x.l.length x.c) ∧ ∀ V, HopsG V L base A n m → Rd V V.heap.size x.A 2 x.l.length (x.l.flatMap Hop.cells) := by
  have hmk : m[k]? = some x := hx
  obtain ⟨g, hg, h1, h2, h3, _⟩ := own_atA h.1.1.1 (j := k) (v := .slice x.A x.l.length x.c) (by rw [flat_ML, List.getElem?_map, hmk]; rfl)
  exact ⟨g, hg, h1, h.2.1 g (by subst hg; rfl), h3, fun V hV => rd_own (hV.1.2.own k x (by simpa using hmk))⟩
def slcLen2 : Value → Nat
  | .slice _ n _ => n
  | _ => 0
section
open Classical
noncomputable def cntW (n gf : Nat) (w : World) : Nat := ((List.range n).filter fun v => decide (w.cell? ⟨gf, v, none⟩ ≠ some (.int .i64 (-1)))).length
noncomputable def muD (n P gf : Nat) (w : World) : Nat := (n - cntW n gf w) * 1000 + (match w.cell? ⟨P, 0, none⟩ with | some v => slcLen2 v | none => 0)
theorem cntW_eq {n gf base : Nat} {w : World} {f : Nat → Int} (h : w.ownsRow base 3 1 (.slice (some ⟨gf, 0, none⟩) n n) n ((fl n f).flatMap i64c)) : cntW n gf w = settled n f := by
  unfold cntW settled
  congr 1
  apply List.filter_congr
  intro v hv
  have hvn := List.mem_range.1 hv
  obtain ⟨h1, _⟩ := own_at h (flat_i64_get (fl_get f hvn))
  rw [h1]
  by_cases e : f v = -1
  · simp [e]
  · simp [e]
theorem muD_eq {n L P gf base c : Nat} {A : Option Addr} {H : List Sp} {w : World} {f : Nat → Int} (h : w.ownsRow base 3 1 (.slice (some ⟨gf, 0, none⟩) n n) n ((fl n f).flatMap i64c)) (hS : SO w L P A c H) : muD n P gf w = (n - settled n f) * 1000 + H.length := by
  unfold muD; rw [cntW_eq h, hS.all]; rfl
end
def DisR (l : List Edge) (n s L base gf : Nat) (A3 : Option Addr) (m : List (ML Hop)) (w1 wr : World) : Prop :=
  ∃ (A : Option Addr) (c : Nat) (H : List Sp) (f : Nat → Int), Hid (SO wr L (L + 1) A c H) ∧ Hid (HeapF splt (nthL sp0 H) H.length) ∧ Hid (Near (triE l) s f H) ∧ Hid (wr.ownsRow gf 3 1 (.slice (some ⟨gf, 0, none⟩) n n) n ((fl n f).flatMap i64c)) ∧ Hid (HopsG wr L base A3 n m) ∧
    Hid (∀ x ∈ H, x.1 < n ∧ x.2 ≤ settled n f * 1099511627776) ∧ H.length ≤ 1 + 600 * settled n f ∧ Below gf w1 wr ∧ L + 1 < wr.heap.size
def DisI (n L base gf : Nat) (A3 : Option Addr) (m : List (ML Hop)) (w1 : World) (q : List Sp) (hops : List Hop) (v d X : Nat) (f : Nat → Int) (jv : Value) (wr : World) : Prop :=
  ∃ (j : Nat) (A : Option Addr) (c : Nat) (H : List Sp), jv = .int .i64 (j : Nat) ∧ j ≤ hops.length ∧ Hid (SO wr L (L + 1) A c H) ∧ Hid (HeapF splt (nthL sp0 H) H.length) ∧ Hid (H.Perm (q ++ (hops.take j).map (hsp d))) ∧ Hid (wr.ownsRow gf 3 1 (.slice (some ⟨gf, 0, none⟩) n n) n ((fl n f).flatMap i64c)) ∧ Hid (HopsG wr L base A3 n m) ∧
    wr.cell? ⟨X, 0, none⟩ = some (.int .i64 (v : Nat)) ∧ wr.cell? ⟨X, 1, none⟩ = some (.int .i64 (d : Nat)) ∧ Hid (spBlk A c H ≠ some X) ∧ Below gf w1 wr ∧ L + 1 < wr.heap.size
def fill1 (k : Nat) (u : Nat) : Int := if u < k then -1 else 0
theorem fill1_next (n k : Nat) : fl n (upd (fill1 k) k (-1)) = fl n (fill1 (k + 1)) := fl_ext fun u _ => by
  unfold upd fill1
  by_cases e : u = k
  · subst e; rw [if_pos rfl, if_pos (by omega)]
  · rw [if_neg e]
    by_cases e2 : u < k
    · rw [if_pos e2, if_pos (by omega)]
    · rw [if_neg e2, if_neg (by omega)]
theorem fill1_all (n : Nat) : fl n (fill1 n) = fl n (fun _ => -1) := fl_ext fun u hu => if_pos hu
def Fil (n : Nat) (w1 : World) (iv : Value) (wr : World) : Prop :=
  ∃ k : Nat, k ≤ n ∧ iv = .int .i64 (k : Nat) ∧ Hid (wr.ownsRow w1.heap.size 3 1 (.slice (some ⟨w1.heap.size, 0, none⟩) n n) n ((fl n (fill1 k)).flatMap i64c)) ∧ Below w1.heap.size w1 wr
theorem retL_noneD (w w' : World) (err : Int) (b : Below w.heap.size w w') : RetL 3 1 w 0 [] err (.returned (.tuple #[.slice none 0 0, .int .i64 err])) w' := ⟨none, 0, rfl, World.ownsRow_nil _ _ _ _, b⟩
set_option maxRecDepth 100000 in
set_option maxHeartbeats 1000000 in
theorem dist_walk (g : Graph) (s : Int) (w : World) (A : Option Addr) (c : Nat) (hr : Rd w w.heap.size A 3 g.edges.length (g.edges.flatMap Edge.cells)) (hl : g.edges.length ≤ 9223372036854775807) :
    Calls Try.prog 11 #[.agg #[.int .i64 g.n, .slice A g.edges.length c], .int .i64 s] w (RetL 3 1 w (distV g s).1.length ((distV g s).1.flatMap i64c) (distV g s).2) := by
  have b0 := bA (Below.refl w.heap.size w) (.cells #[.int .i64 g.n, .slice A g.edges.length c] 24)
  have hc := hid (check_walk g _ A c (rdb hr (by decide) b0) hl)
  by_cases h0 : graphV g = 0
  · rw [h0] at hc
    by_cases hv : 0 ≤ s ∧ s < g.n
    · obtain ⟨n, hn⟩ := Int.eq_ofNat_of_zero_le (show (0 : Int) ≤ g.n by omega)
      obtain ⟨s, rfl⟩ := Int.eq_ofNat_of_zero_le hv.1
      obtain ⟨hE, hl6, hn2⟩ := graph_edges h0 hn
      have HWE := hid (wt_edges h0 hn)
      have HHP := hid (hops_own g n hn hn2 hE hl6)
      have hsn : s < n := by omega
      have nv1 : ¬ ((s : Int) < 0) := by omega
      have nv2 : ¬ ((n : Int) ≤ (s : Int)) := by omega
      have HRE := hid (distV_ok h0 hn hsn)
      have HL6 := hid hl6
      rw [hn] at hc HHP ⊢
      clear h0 hv hE hn
      go_enter Try.func11, Try.ntmps11
      go_wp2_with fail
      refine hc.out.mono ?_
      rintro e w1 ⟨rfl, b1⟩
      have b01 := bT (bA (Below.refl w.heap.size w) (.cells #[.int .i64 (n : Int), .slice A g.edges.length c] 24)) b1
      have hz1 : w.heap.size < w1.heap.size := by have := b1.size; simp at this; omega
      have q0 : w1.cell? ⟨w.heap.size, 0, none⟩ = some (.int .i64 (n : Int)) := keepb b1 (by go_simp)
      have q1 : w1.cell? ⟨w.heap.size, 1, none⟩ = some (.slice A g.edges.length c) := keepb b1 (by go_simp)
      go_wp2_with (refine wp_make1 rfl rfl Try.underlying26 inf_int rfl n rfl rfl (by omega) (by omega) ?_; intro w2 o2 b2 hz2; have q0 := keepb b2 q0; have q1 := keepb b2 q1)
      have HO2 := hid (show World.ownsRow w2 w1.heap.size 3 1 (.slice (some ⟨w1.heap.size, 0, none⟩) n n) n ((fl n (fill1 0)).flatMap i64c) from by
        have h := o2
        rw [replicate_i64] at h
        have e : List.replicate n (0 : Int) = fl n (fill1 0) := by
          unfold fl
          rw [show (List.range n).map (fill1 0) = (List.range n).map (fun _ => (0 : Int)) from List.map_congr_left (fun u _ => if_neg (by omega))]
          rw [List.map_const', List.length_range]
        rw [e] at h; exact h)
      have HQ0 := hid (keepb b1 (show (w.alloc (.cells #[.int .i64 (n : Int), .slice A g.edges.length c] 24)).cell? ⟨w.heap.size, 0, none⟩ = some (.int .i64 (n : Int)) by go_simp))
      have HQ1 := hid (keepb b1 (show (w.alloc (.cells #[.int .i64 (n : Int), .slice A g.edges.length c] 24)).cell? ⟨w.heap.size, 1, none⟩ = some (.slice A g.edges.length c) by go_simp))
      have HB01 := hid b01
      have HB2 := hid b2
      clear o2 b2 hz2 q0 q1 b1 b01
      go_loopw [8, 32] (fun _ iv wr => Fil n w1 iv wr) (fun _ iv _ => n - (intOf iv).toNat)
      case atStart => exact ⟨0, Nat.zero_le _, rfl, HO2, HB2.out⟩
      case round =>
        clear HO2 HB2
        obtain ⟨k, hk, rfl, HOW, hbel⟩ := hrel
        by_cases hlt : k < n
        · have hkz : (k : Int) < (n : Int) := by omega
          obtain ⟨d0, d1⟩ := own_at HOW.out (flat_i64_get (fl_get (fill1 k) hlt))
          have HO3 := hid (show World.ownsRow (wr.setCell ⟨w1.heap.size, k, none⟩ (.int .i64 (-1))) w1.heap.size 3 1 (.slice (some ⟨w1.heap.size, 0, none⟩) n n) n ((fl n (fill1 (k + 1))).flatMap i64c) from by
            have h := (HOW.out.stored k (.int .i64 (-1))).1
            rw [flat_i64_set, fl_set _ _ hlt, fill1_next] at h; exact h)
          clear HOW
          go_wp2_with fail
          go_roundw
          case rel => exact ⟨k + 1, by omega, by go_num, HO3, bS hbel (Nat.le_refl _) _⟩
          case measure => (simp [intOf]) <;> omega
        · obtain rfl : k = n := by omega
          have hkz : ¬ (k : Int) < (k : Int) := by omega
          have HOW1 := hid (show World.ownsRow wr w1.heap.size 3 1 (.slice (some ⟨w1.heap.size, 0, none⟩) k k) k ((fl k (fun _ => -1)).flatMap i64c) from by have h := HOW.out; rw [fill1_all] at h; exact h)
          have q0 := keepb hbel HQ0.out
          have q1 := keepb hbel HQ1.out
          have HBL := hid hbel
          have hgz : w1.heap.size < wr.heap.size := (HOW1.out.lt w1.heap.size rfl).2
          have HH := hid (HHP.out wr A c (rdb hr (by decide) (bT HB01.out hbel)))
          clear HOW hbel HHP
          go_wp2_with fail
          refine HH.out.mono ?_
          rintro e w3 ⟨A3, m, rfl, hm, hh, hgr, b3⟩
          obtain ⟨L, hL⟩ : ∃ x, w3.heap.size = x := ⟨_, rfl⟩
          obtain ⟨base, hbase⟩ : ∃ x, x = wr.heap.size := ⟨_, rfl⟩
          have hgb : w1.heap.size < base := by omega
          have hbL : base ≤ L := by have := b3.size; omega
          have HGH := hid (show HopsG w3 L base A3 k m from ⟨by rw [hbase]; exact hgr, fun y hy => by rw [← hL]; exact (hgr.1.1.lt y hy).2, fun i x y hx hy => by rw [← hL]; exact (hgr.2.lt (i := i) (x := x) (by simpa using hx) hy).2⟩)
          have HOW3 := hid (own_below HOW1.out b3 (Nat.le_refl _))
          have HB3 := hid (HBL.out.trans (b3.mono HBL.out.size))
          have HML := hid hm
          have HHS := hid hh
          clear hm hh hgr b3 HOW1 HH hbase q0 q1
          obtain ⟨n, hnk⟩ : ∃ n, n = k := ⟨_, rfl⟩
          subst hnk
          have B4 := hid (bA (bA (Below.refl w3.heap.size w3) (.cells #[.int .i64 (s : Int), .int .i64 0] 71)) (.cells #[.slice (some ⟨L, 0, none⟩) 1 1] 73))
          have HSO : Hid (SO ((w3.alloc (.cells #[.int .i64 (s : Int), .int .i64 0] 71)).alloc (.cells #[.slice (some ⟨L, 0, none⟩) 1 1] 73)) L (L + 1) (some ⟨L, 0, none⟩) 1 [(s, 0)]) := hid (by
            refine ⟨by omega, fun y hy => (by have h : (some L : Option Nat) = some y := hy; injection h with h; omega), by rw [← hL]; go_simp, by rw [← hL]; go_simp, ?_, fun _ _ _ hp => by cases hp⟩
            have h := World.ownsRow_lit (base := L) (e := 71) (size := 2) w3 #[.int .i64 (s : Int), .int .i64 0] 1 (by omega) (by simp [maxLen]) rfl
            have h2 := own_below (base' := L) h (bA (Below.refl _ _) (.cells #[.slice (some ⟨L, 0, none⟩) 1 1] 73)) (Nat.le_refl _)
            rw [hL] at h2
            exact h2)
          have HG4 := hid (HGH.out.below (B4.out.mono (by omega)))
          have HF4 := hid (own_below HOW3.out B4.out (Nat.le_refl _))
          have HB4 := hid (HB3.out.trans (B4.out.mono (by omega)))
          have HZ4 : Hid (L + 1 < ((w3.alloc (.cells #[.int .i64 (s : Int), .int .i64 0] 71)).alloc (.cells #[.slice (some ⟨L, 0, none⟩) 1 1] 73)).heap.size) := hid (by simp; omega)
          have hla : HopsOf g.edges n (lists m) := HHS.out
          clear HGH HOW3 HB3 B4
          go_wp2_with fail
          go_loopw [11, 13, 68] (fun _ _ _ wr => DisR g.edges n s L base w1.heap.size A3 m w1 wr) (fun _ _ _ wr => muD n (L + 1) w1.heap.size wr)
          case atStart =>
            refine ⟨some ⟨L, 0, none⟩, 1, [(s, 0)], fun _ => -1, HSO, hid (fun k h1 h2 => by simp at h2; omega), hid (Near.begin _ _), HF4, HG4, hid (fun x hx => ?_), by simp, HB4.out, HZ4.out⟩
            obtain rfl := List.mem_singleton.1 hx
            exact ⟨hsn, Nat.zero_le _⟩
          case round =>
            clear HSO HG4 HF4 HB4 HZ4
            obtain ⟨A5, c5, H, f, HS, HHP, HNE, HFR, HGR, HBD, hHl, hbel, hLz⟩ := hrel
            have HMU := hid (muD_eq HFR.out HS.out)
            have h0 := HS.out.all
            have hst := settled_le n f
            rcases Nat.eq_zero_or_pos H.length with hH0 | hH0
            · have hHe : H = [] := List.eq_nil_of_length_eq_zero hH0
              have HFI := hid (show fl n (distI (triE g.edges) s) = fl n f from fl_ext fun v _ => (by have h := HNE.out; rw [hHe] at h; exact (h.finish v).symm))
              have hz : ¬ (0 : Int) < (H.length : Int) := by omega
              have HBE := hid hbel
              clear hHe
              go_wp2_with fail
              go_ret2
              rw [HRE.out]
              refine ⟨some ⟨w1.heap.size, 0, none⟩, n, ?_, ?_, HB01.out.trans (HBE.out.mono HB01.out.size)⟩
              · dsimp only; rw [fl_len]; rfl
              · dsimp only; rw [fl_len, HFI.out]; exact own_more HFR.out HB01.out.size
            · obtain ⟨q, hq⟩ : ∃ q, H.length = q + 1 := ⟨H.length - 1, by omega⟩
              have hz : (0 : Int) < (H.length : Int) := by omega
              have HPO := hid (spHPop_walk HS.out hq (by omega) HHP.out)
              have HQ := hid hq
              have hta := asSp
              go_wp2_with fail
              refine HPO.out.mono ?_
              rintro e w4 ⟨k, H0, rfl, hl0, hp0, hls, hh0, ho0, hf0⟩
              obtain ⟨v, d⟩ := k
              have hvd := HBD.out (v, d) (hp0.mem_iff.1 (List.mem_cons_self ..))
              have hvn : v < n := hvd.1
              have hdb : d ≤ 200 * 1099511627776 := Nat.le_trans hvd.2 (by omega)
              have HN1 := hid (show Near (triE g.edges) s f ((v, d) :: H0) from HNE.out.perm fun x => hp0.mem_iff)
              have HMIN := hid (show ∀ x ∈ H0, d ≤ x.2 from fun x hx => by have h := hls x hx; simp only [splt, decide_eq_false_iff_not] at h; omega)
              have HBD0 := hid (fun x (hx : x ∈ H0) => HBD.out x (hp0.mem_iff.1 (List.mem_cons_of_mem _ hx)))
              have hgl : w1.heap.size < L := by omega
              have HFR4 := hid (own_hfl HFR.out hf0 (fun x hx => (by
                have h : (some w1.heap.size : Option Nat) = some x := hx
                injection h with h
                exact ⟨by omega, fun e => by have := (HS.out.blk_lt e).1; omega⟩)))
              have HGR4 := hid (HGR.out.below hf0.1)
              have HB4 := hid (hbel.trans (hf0.1.mono (by omega)))
              have HS4 := hid ho0
              have HH4 := hid hh0
              have hL4 : L + 1 < w4.heap.size := Nat.lt_of_lt_of_le hLz hf0.1.size
              obtain ⟨c0, c1⟩ := own_at HFR4.out (flat_i64_get (fl_get f hvn))
              have hvz : (v : Int) < (n : Int) := by omega
              have hgz4 : w1.heap.size < w4.heap.size := by omega
              have hgz4' : w1.heap.size ≠ w4.heap.size := by omega
              have HX : Hid (∀ y, spBlk A5 c5 H0 = some y → y < w4.heap.size) := hid fun y hy => (ho0.blk_lt hy).2
              clear hp0 hls hh0 ho0 hf0 HPO HS HHP HNE HFR HGR hbel h0
              by_cases hfv : f v = -1
              · have heq : (f v != -1) = false := by simp [hfv]
                have hmn : m.length = n := HML.out
                obtain ⟨x, hx⟩ : ∃ x, m[v]? = some x := ⟨_, List.getElem?_eq_getElem (by omega)⟩
                have hxl : x.l = hopsL g.edges v := hla.2 v x.l (by unfold lists; rw [List.getElem?_map, hx]; rfl)
                have hx6 : x.l.length ≤ 600 := by rw [hxl]; exact Nat.le_trans (hopsL_len g.edges v) HL6.out
                obtain ⟨b3, hA3, hb31, hb32, hrow, hrd⟩ := HGR4.out.at_ hx
                subst hA3
                have HRD := hid hrd
                have hbz : b3 < w4.heap.size := by omega
                have hbe : b3 ≠ w1.heap.size := by omega
                have hbe2 : w1.heap.size ≠ b3 := by omega
                have HFV := hid hfv
                have HXL := hid hxl
                have HF5 := hid (show World.ownsRow (w4.setCell ⟨w1.heap.size, v, none⟩ (.int .i64 (d : Int))) w1.heap.size 3 1 (.slice (some ⟨w1.heap.size, 0, none⟩) n n) n ((fl n (upd f v (d : Int))).flatMap i64c) from by
                  have h := (HFR4.out.stored v (.int .i64 (d : Int))).1
                  rw [flat_i64_set, fl_set _ _ hvn] at h; exact h)
                have HB5 := hid (bS HB4.out (p := ⟨w1.heap.size, v, none⟩) (Nat.le_refl _) (.int .i64 (d : Int)))
                have HG5 := hid (HGR4.out.store (a := ⟨w1.heap.size, v, none⟩) hgb (.int .i64 (d : Int)))
                have HS5 := hid (HS4.out.grown (gb_store ⟨rfl, rfl, rfl, Nat.le_refl _, fun _ _ _ => rfl⟩ v (.int .i64 (d : Int)) : w4.grownBy (w4.setCell ⟨w1.heap.size, v, none⟩ (.int .i64 (d : Int))) (some w1.heap.size)) (fun y hy => by
                  injection hy with hy
                  exact ⟨by omega, fun e => by have := (HS4.out.blk_lt e).1; omega⟩))
                have hXe := fun e => Nat.lt_irrefl _ (HX.out w4.heap.size e)
                have HXB : Hid (spBlk A5 c5 H0 ≠ some w4.heap.size) := hid hXe
                have BA := hid (bA (Below.refl (w4.setCell ⟨w1.heap.size, v, none⟩ (.int .i64 (d : Int))).heap.size (w4.setCell ⟨w1.heap.size, v, none⟩ (.int .i64 (d : Int)))) (.cells #[.int .i64 (v : Int), .int .i64 (d : Int)] 71))
                have hzs : (w4.setCell ⟨w1.heap.size, v, none⟩ (.int .i64 (d : Int))).heap.size = w4.heap.size := by simp
                clear HFR4 HB4 hla hrd hfv hxl HGR4 hx
                go_wp2_with fail
                generalize hxll : x.l = hops at *
                go_loopw [13, 68] (fun _ jv wr => DisI n L base w1.heap.size (some ⟨b3, 0, none⟩) m w1 H0 hops v d w4.heap.size (upd f v (d : Int)) jv wr) (fun _ jv _ => hops.length - (intOf jv).toNat)
                case atStart =>
                  refine ⟨0, A5, c5, H0, rfl, Nat.zero_le _, hid (HS5.out.below BA.out), hid (by rw [hl0]; exact HH4.out), hid (by simp), hid (own_below HF5.out (BA.out.mono (by simp)) (Nat.le_refl _)), hid (HG5.out.below (BA.out.mono (by omega))), by go_simp, by go_simp, HXB, HB5.out.trans (BA.out.mono (by omega)), by simp; omega⟩
                case round =>
                  clear HXB
                  obtain ⟨j, A6, c6, H1, rfl, hj, HS6, HH6, HPM, HF6, HG6, k0, k1, HXB, HB6, hL6⟩ := hrel
                  have hXz : w4.heap.size < wr.heap.size := World.block_lt_of_cell? _ _ k0
                  have HLN := hid (HPM.out.length_eq)
                  have hH1 : H1.length ≤ H0.length + j := by rw [HLN.out]; simp; omega
                  by_cases hlt : j < hops.length
                  · obtain ⟨y, hy⟩ : ∃ y, hops[j]? = some y := ⟨_, List.getElem?_eq_getElem hlt⟩
                    obtain ⟨b, w5, rfl, hbn, hw5⟩ := hop_in HWE.out (v := v) (x := y) (by rw [← HXL.out]; exact List.mem_of_getElem? hy)
                    have hrdy := HRD.out _ HG6.out
                    obtain ⟨bh, oh, hxA, hbh, r0, r1⟩ := hcells hrdy rfl hy
                    rw [hxA]
                    have hjz : (j : Int) < (hops.length : Int) := by omega
                    obtain ⟨wv, hwv⟩ : ∃ V, V = wr.alloc (.cells #[.int .i64 (b : Int), .int .i64 (w5 : Int)] 78) := ⟨_, rfl⟩
                    have BV : Below wr.heap.size wr wv := by rw [hwv]; exact bA (Below.refl _ _) _
                    have hwz : wr.heap.size ≤ wv.heap.size := BV.size
                    have v0 := keepb BV k0
                    have v1 := keepb BV k1
                    have HSV := hid (HS6.out.below BV)
                    have HFV6 := hid (own_below HF6.out BV (Nat.le_refl _))
                    have HGV := hid (HG6.out.below (BV.mono (by omega)))
                    have HBV := hid (HB6.trans (BV.mono (by omega)))
                    have HWV := hid hwv
                    clear hwv BV
                    have HPU := hid (spHPush_walk HSV.out (b, d + w5) (zv := (b : Int)) (zf := (d : Int) + (w5 : Int)) rfl (by simp) (by omega) HH6.out)
                    have HTK := hid (show (hops.take (j + 1)).map (hsp d) = (hops.take j).map (hsp d) ++ [(b, d + w5)] by
                      rw [List.take_add_one, hy, List.map_append]; simp [hsp])
                    go_wp2_with fail
                    rw [← HWV.out]
                    refine HPU.out.mono ?_
                    rintro e w7 ⟨rfl, A7, c7, H7, hp7, hh7, ho7, hf7⟩
                    have k0' : w7.cell? ⟨w4.heap.size, 0, none⟩ = some (.int .i64 (v : Nat)) := by rw [World.cell?_of_block (w := wv) (hf7.2.1 w4.heap.size (by omega) (by omega) HXB.out)]; exact v0
                    have k1' : w7.cell? ⟨w4.heap.size, 1, none⟩ = some (.int .i64 (d : Nat)) := by rw [World.cell?_of_block (w := wv) (hf7.2.1 w4.heap.size (by omega) (by omega) HXB.out)]; exact v1
                    have HX7 : Hid (spBlk A7 c7 H7 ≠ some w4.heap.size) := hid (fun e => by
                      rcases hf7.2.2 _ e with h | h
                      · exact HXB.out h
                      · omega)
                    have HF7 := hid (own_hfl HFV6.out hf7 (fun z hz => (by
                      have h : (some w1.heap.size : Option Nat) = some z := hz
                      injection h with h
                      exact ⟨by omega, fun e => by have := (HSV.out.blk_lt e).1; omega⟩)))
                    have HG7 := hid (HGV.out.below hf7.1)
                    have HB7 := hid (HBV.out.trans (hf7.1.mono (by omega)))
                    have hL7 : L + 1 < w7.heap.size := by have := hf7.1.size; omega
                    have HP7 := hid (show H7.Perm (H0 ++ (hops.take (j + 1)).map (hsp d)) by
                      rw [HTK.out, ← List.append_assoc]; exact hp7.trans (List.Perm.append_right _ HPM.out))
                    have HO7 := hid ho7
                    have HH7 := hid hh7
                    clear hp7 hh7 ho7 hf7 HPU HXB k0 k1 v0 v1 HS6 HH6 HF6 HG6 HPM HSV HFV6 HGV HBV HWV
                    go_wp2_with fail
                    go_roundw
                    case rel => exact ⟨j + 1, A7, c7, H7, by go_num, by omega, HO7, HH7, HP7, HF7, HG7, k0', k1', HX7, HB7.out, hL7⟩
                    case measure => (simp [intOf]) <;> omega
                  · obtain rfl : j = hops.length := by omega
                    have hjz : ¬ ((hops.length : Int) < (hops.length : Int)) := by omega
                    have HPM1 := hid (show H1.Perm (H0 ++ hops.map (hsp d)) by have h := HPM.out; rwa [List.take_length] at h)
                    have hsu := settled_upd hvn HFV.out (d := (d : Int)) (by omega)
                    have hsl := settled_le n (upd f v (d : Int))
                    have HNS := hid (HN1.out.settle HMIN.out HFV.out (q' := H1) (fun x => by
                      rw [HPM1.out.mem_iff, List.mem_append, HXL.out, hops_triE HWE.out v d x]))
                    have HBS := hid (show ∀ x ∈ H1, x.1 < n ∧ x.2 ≤ settled n (upd f v (d : Int)) * 1099511627776 from fun x hx => by
                      rw [HPM1.out.mem_iff, List.mem_append] at hx
                      rcases hx with hx | hx
                      · have h := HBD0 x hx
                        exact ⟨h.1, by rw [hsu]; omega⟩
                      · obtain ⟨y, hy, rfl⟩ := List.mem_map.1 hx
                        rw [HXL.out] at hy
                        obtain ⟨b, w5, rfl, hbn, hw5⟩ := hop_in HWE.out hy
                        have := hvd.2
                        exact ⟨by simpa [hsp] using hbn, by rw [hsu]; simp [hsp]; omega⟩)
                    have hH2 : H1.length = q + hops.length := by rw [HLN.out]; simp [hl0]
                    have HMU2 := hid (muD_eq HF6.out HS6.out)
                    clear HPM k0 k1
                    go_wp2_with fail
                    go_roundw
                    case rel => exact ⟨A6, c6, H1, upd f v (d : Int), HS6, HH6, HNS, HF6, HG6, HBS, by rw [hsu, hH2]; have := HQ.out; omega, HB6, hL6⟩
                    case measure => rw [HMU.out, HMU2.out, hH2, hsu]; have := HQ.out; omega
              · have hne : (f v != -1) = true := by simpa using hfv
                have HNO := hid (HN1.out.old (by rcases HN1.out.set v with h | ⟨d', h, _⟩ <;> omega))
                clear hfv
                go_wp2_with fail
                have BA := bA (Below.refl w4.heap.size w4) (.cells #[.int .i64 (v : Int), .int .i64 (d : Int)] 71)
                have hS5 := HS4.out.below BA
                have hF5 := own_below HFR4.out BA (Nat.le_refl _)
                go_roundw
                case rel => exact ⟨A5, c5, H0, f, hid hS5, hid (by rw [hl0]; exact HH4.out), HNO, hid hF5, hid (HGR4.out.below (BA.mono (by omega))), HBD0, by rw [hl0]; have := HQ.out; omega, HB4.out.trans (BA.mono (by omega)), by simp; omega⟩
                case measure => rw [HMU.out, muD_eq hF5 hS5, hl0]; have := HQ.out; omega
    · have HRV := hid (distV_out h0 hv)
      have hcase : s < 0 ∨ (¬ s < 0 ∧ g.n ≤ s) := by omega
      rcases hcase with h1 | ⟨h1, h2⟩
      all_goals
        go_enter Try.func11, Try.ntmps11
        go_wp2_with fail
        refine hc.out.mono ?_
        rintro e w1 ⟨rfl, b1⟩
        have q0 : w1.cell? ⟨w.heap.size, 0, none⟩ = some (.int .i64 g.n) := keepb b1 (by go_simp)
        go_wp2_with fail
        go_ret2
        rw [HRV.out]
        exact retL_noneD _ _ _ (bT b0 b1)
  · have HRV := hid (distV_bad (s := s) h0)
    have hb : (graphV g != 0) = true := by simpa using h0
    generalize graphV g = r at *
    clear h0
    go_enter Try.func11, Try.ntmps11
    go_wp2_with fail
    refine hc.out.mono ?_
    rintro e w1 ⟨rfl, b1⟩
    go_wp2_with fail
    go_ret2
    rw [HRV.out]
    exact retL_noneD _ _ _ (bT b0 b1)
end Go.Proofs.Ytifpngjipkmdcaa
