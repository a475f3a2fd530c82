/- graph.Degrees; the document's DegreesOf. -/
import Derived.Test.YtblabipgehkllaaGraphRef
import Derived.Test.YtblabipgehkllaaLibC
namespace Go.Proofs.Ytblabipgehkllaa
open Go.ChangeShapes Go.WideShapes Go.ChangeAt Go.RowKit
set_option linter.unusedVariables false
def outs (l : List Edge) (v : Nat) : Nat := l.countP fun e => e.src == (v : Int)
def degs (n : Nat) (l : List Edge) : List Int := (List.range n).map fun v => (outs l v : Int)
noncomputable def degV (g : Graph) : List Int × Int := if graphV g = 0 then (degs g.n.toNat g.edges, 0) else ([], graphV g)
theorem degs_len (n : Nat) (l : List Edge) : (degs n l).length = n := by simp [degs]
theorem degs_get {n s : Nat} (l : List Edge) (h : s < n) : (degs n l)[s]? = some (outs l s : Int) := by simp [degs, h]
theorem outs_snoc (l : List Edge) (e : Edge) (v : Nat) : outs (l ++ [e]) v = outs l v + if e.src = (v : Int) then 1 else 0 := by
  unfold outs
  rw [List.countP_append]
  by_cases h : e.src = (v : Int) <;> simp [h]
theorem outs_le (l : List Edge) (v : Nat) : outs l v ≤ l.length := List.countP_le_length
theorem degs_next {n s : Nat} (l : List Edge) (e : Edge) (hs : e.src = (s : Int)) (h : s < n) : degs n (l ++ [e]) = (degs n l).set s ((outs l s : Int) + 1) := by
  apply List.ext_getElem?
  intro j
  rw [List.getElem?_set]
  by_cases hj : j < n
  · rw [degs_get _ hj, outs_snoc, hs, degs_len]
    by_cases e2 : s = j
    · subst e2; simp [h]
    · rw [if_neg e2, degs_get _ hj]
      have : ¬ ((s : Int) = (j : Int)) := by omega
      simp [this]
  · rw [List.getElem?_eq_none (by rw [degs_len]; omega)]
    by_cases e2 : s = j
    · omega
    · rw [if_neg e2, List.getElem?_eq_none (by rw [degs_len]; omega)]
theorem degs_zero (n : Nat) : degs n [] = List.replicate n 0 := by
  apply List.ext_getElem?
  intro j
  by_cases hj : j < n
  · rw [degs_get _ hj]; simp [hj, outs]
  · rw [List.getElem?_eq_none (by rw [degs_len]; omega), List.getElem?_eq_none (by simp; omega)]
theorem take_next {α : Type} {l : List α} {k : Nat} {e : α} (h : l[k]? = some e) : l.take (k + 1) = l.take k ++ [e] := by
  rw [List.take_add_one, h]; rfl
def DegRel (l : List Edge) (n g : Nat) (w : World) (i : Value) (wr : World) : Prop :=
  ∃ k : Nat, k ≤ l.length ∧ i = .int .i64 k ∧ wr.ownsRow w.heap.size 3 1 (.slice (some ⟨g, 0, none⟩) n n) n ((degs n (l.take k)).flatMap i64c) ∧ Below w.heap.size w wr
set_option maxHeartbeats 2000000 in
theorem degrees_walk (g : Graph) (w : World) (A : Option Addr) (c : Nat) (hr : Rd w w.heap.size A 3 g.edges.length (g.edges.flatMap Edge.cells)) (hl : g.edges.length ≤ 9223372036854775807) :
    Calls Try.prog 58 #[.agg #[.int .i64 g.n, .slice A g.edges.length c]] w (RetL 3 1 w (degV g).1.length ((degV g).1.flatMap i64c) (degV g).2) := by
  have r0 := (hr.alloc (Nat.le_refl _) (.cells #[.int .i64 g.n, .slice A g.edges.length c] 52)).any (by decide)
  have hc := hid (check_walk g _ A c r0 hl)
  unfold degV
  by_cases h0 : graphV g = 0
  · rw [if_pos h0]
    rw [h0] at hc
    obtain ⟨⟨h1, h2, h3⟩, hE⟩ := graphV_ok.1 h0
    have HE := hid hE
    clear hE h0
    obtain ⟨n, l⟩ := g
    simp only at h1 h2 h3 HE hc hr hl ⊢
    obtain ⟨n, rfl⟩ := Int.eq_ofNat_of_zero_le h1
    simp only [Int.toNat_natCast, degs_len]
    go_enter Try.func58, Try.ntmps58
    go_wp2_with fail
    refine hc.out.mono ?_
    rintro e w1 ⟨rfl, b1⟩
    have b01 := bT (bA (Below.refl w.heap.size w) (.cells #[.int .i64 n, .slice A l.length c] 52)) b1
    obtain ⟨hc1, hf1⟩ := bcell b1
    have hz1 : w.heap.size < w1.heap.size := by have := b1.size; simp at this; omega
    go_wp2_with (refine wp_make1 rfl rfl Try.underlying24 inf_int rfl n rfl rfl (by omega) (by omega) ?_; intro w2 o2 b2 hz2; obtain ⟨hc2, hf2⟩ := bcell b2; clear hz2)
    have b02 := bT b01 b2
    rw [replicate_i64, ← degs_zero] at o2
    go_loopw [19] (DegRel l n w1.heap.size w) (fun i _ => l.length - (intOf i).toNat)
    case atStart => exact ⟨0, by omega, rfl, own_more o2 (by omega), b02⟩
    case round =>
      obtain ⟨k, hk, rfl, hown, hbel⟩ := hrel
      by_cases hlt : k < l.length
      · obtain ⟨e, he⟩ : ∃ e, l[k]? = some e := ⟨_, List.getElem?_eq_getElem hlt⟩
        obtain ⟨b, off, rfl, hb, c0, c1, c2⟩ := edge_cells (hr.below hbel) rfl he
        obtain ⟨⟨he1, he2⟩, ⟨he3, he4⟩, he5, he6⟩ := HE.out e (List.mem_of_getElem? he)
        obtain ⟨src, dst, wt⟩ := e
        simp only at c0 c1 c2 he1 he2 he3 he4 he5 he6
        obtain ⟨s, rfl⟩ := Int.eq_ofNat_of_zero_le he1
        have HN := hid (degs_next (n := n) (l.take k) ⟨(s : Int), dst, wt⟩ rfl (by omega))
        have HT := hid (take_next he)
        have hle := outs_le (l.take k) s
        have hle2 : (l.take k).length ≤ k := List.length_take_le _ _
        have hown2 := hown.alloc (.cells #[.int .i64 s, .int .i64 dst, .int .i64 wt] 105)
        obtain ⟨d0, d1⟩ := own_at hown2 (flat_i64_get (degs_get (l.take k) (show s < n by omega)))
        have HO := hid ((hown.stored s (.int .i64 ((outs (l.take k) s : Int) + 1))).1.alloc (.cells #[.int .i64 s, .int .i64 dst, .int .i64 wt] 105))
        have hwg : w.heap.size ≤ w1.heap.size := Nat.le_of_lt hz1
        have hbsz := hbel.size
        have hbr : b < wr.heap.size := by have := hbel.size; omega
        have hgr : w1.heap.size < wr.heap.size := by
          rcases hown.2 with ⟨h, _⟩ | ⟨g, _, _, h, _, hg, _⟩
          · cases h
          · injection h with h; injection h with h; injection h with h; subst h; exact (Array.getElem?_eq_some_iff.1 hg).1
        clear he hown hown2
        generalize outs (l.take k) s = q at *
        have z1 : (s : Int) < (n : Int) := he2
        go_wp2
        go_roundw
        case rel => exact ⟨k + 1, by omega, by go_num, by rw [HT.out, HN.out, ← flat_i64_set]; exact HO.out, by go_grown⟩
        case measure => simp [intOf]; omega
      · obtain rfl : k = l.length := by omega
        rw [List.take_length] at hown
        go_wp2
        go_ret2
        exact ⟨_, _, rfl, hown, hbel⟩
  · rw [if_neg h0]
    have hb : (graphV g == 0) = false := by simpa using h0
    generalize graphV g = r at *
    clear h0
    go_enter Try.func58, Try.ntmps58
    go_wp2_with fail
    refine hc.out.mono ?_
    rintro e w1 ⟨rfl, b1⟩
    go_wp2_with fail
    go_ret2
    exact ⟨none, 0, rfl, World.ownsRow_nil _ _ _ _, bT (bA (Below.refl _ _) _) b1⟩
/-! ### the document's -/
def DegOfRel (l : List Edge) (n : Nat) (w : World) (s i : Value) (wr : World) : Prop :=
  ∃ (k c : Nat) (A : Option Addr), k ≤ n ∧ i = .int .i64 k ∧ s = .slice A k c ∧ wr.ownsRow w.heap.size 3 1 (.slice A k c) k (((degs n l).take k).flatMap i64c) ∧ Below w.heap.size w wr
def DegInRel (l : List Edge) (v : Nat) (x i : Value) : Prop :=
  ∃ k : Nat, k ≤ l.length ∧ i = .int .i64 k ∧ x = .int .i64 (outs (l.take k) v)
set_option maxHeartbeats 2000000 in
theorem degreesOf_walk (g : Graph) (w : World) (A : Option Addr) (c : Nat) (hr : Rd w w.heap.size A 3 g.edges.length (g.edges.flatMap Edge.cells)) (hl : g.edges.length ≤ 9223372036854775807) :
    Calls Try.prog 59 #[.agg #[.int .i64 g.n, .slice A g.edges.length c]] w (RetL 3 1 w (degV g).1.length ((degV g).1.flatMap i64c) (degV g).2) := by
  have r0 := (hr.alloc (Nat.le_refl _) (.cells #[.int .i64 g.n, .slice A g.edges.length c] 52)).any (by decide)
  have hc := hid (graphFault_walk g _ A c r0 hl)
  unfold degV
  by_cases h0 : graphV g = 0
  · rw [if_pos h0]
    rw [h0] at hc
    obtain ⟨⟨h1, h2, h3⟩, hE⟩ := graphV_ok.1 h0
    clear hE h0
    obtain ⟨n, l⟩ := g
    simp only at h1 h2 h3 hc hr hl ⊢
    obtain ⟨n, rfl⟩ := Int.eq_ofNat_of_zero_le h1
    simp only [Int.toNat_natCast, degs_len]
    go_enter Try.func59, Try.ntmps59
    go_wp2_with fail
    refine hc.out.mono ?_
    rintro e w1 ⟨rfl, b1⟩
    have b01 := bT (bA (Below.refl w.heap.size w) (.cells #[.int .i64 n, .slice A l.length c] 52)) b1
    have hz1 : w.heap.size < w1.heap.size := by have := b1.size; simp at this; omega
    have k0 : w1.cell? ⟨w.heap.size, 0, none⟩ = some (.int .i64 n) := keepb b1 (by go_simp)
    have k1 : w1.cell? ⟨w.heap.size, 1, none⟩ = some (.slice A l.length c) := keepb b1 (by go_simp)
    go_wp2_with fail
    go_loopw [5, 6] (DegOfRel l n w1) (fun _ i _ => n - (intOf i).toNat)
    case atStart => exact ⟨0, 0, none, by omega, rfl, rfl, World.ownsRow_nil _ _ _ _, Below.refl _ _⟩
    case round =>
      obtain ⟨v, c', A', hv, rfl, rfl, hown, hbel⟩ := hrel
      have q0 := keepb hbel k0
      have q1 := keepb hbel k1
      have r1 := hr.below (bT b01 hbel)
      by_cases hlt : v < n
      · go_wp2_with fail
        go_loop [7, 8] (DegInRel l v) (fun _ i => l.length - (intOf i).toNat)
        case atStart => exact ⟨0, by omega, rfl, rfl⟩
        case round =>
          obtain ⟨k, hk, rfl, rfl⟩ := hrel
          by_cases hlt2 : k < l.length
          · obtain ⟨e, he⟩ : ∃ e, l[k]? = some e := ⟨_, List.getElem?_eq_getElem hlt2⟩
            obtain ⟨b, off, rfl, hb, c0, c1, c2⟩ := edge_cells r1 rfl he
            have HS := hid (outs_snoc (l.take k) e v)
            have HT := hid (take_next he)
            have hle := outs_le (l.take k) v
            have hle2 : (l.take k).length ≤ k := List.length_take_le _ _
            clear he
            by_cases hev : e.src = (v : Int)
            · have hevb : (e.src == (v : Int)) = true := by simpa using hev
              have HV := hid hev
              clear hev
              go_wp2
              go_round
              case rel => exact ⟨k + 1, by omega, by go_num, by rw [HT.out, HS.out, if_pos HV.out]; go_num⟩
              case measure => simp [intOf]; omega
            · have hevb : (e.src == (v : Int)) = false := by simpa using hev
              have HV := hid hev
              clear hev
              go_wp2
              go_round
              case rel => exact ⟨k + 1, by omega, by go_num, by rw [HT.out, HS.out, if_neg HV.out]; go_num⟩
              case measure => simp [intOf]; omega
          · obtain rfl : k = l.length := by omega
            have HT := hid (List.take_length (l := l))
            have HG := hid (take_next (degs_get l hlt))
            rw [HT.out]
            generalize outs l v = q at *
            go_wp2_with (at_builtin; refine wp_app1 _ rfl rfl el_ints rfl (hown.alloc _) rfl (rd_new _ _ _ 1 1 rfl) (ints_one .i64 [(q : Int)]) (by omega) (Nat.le_trans hbel.size (by simp)) ?_; intro A2 c2 w2 hown2 hb2 hg2)
            go_roundw
            case rel => exact ⟨v + 1, c2, A2, by omega, by go_num, rfl, by rw [HG.out, List.flatMap_append]; exact hown2, (hbel.alloc hbel.size _).trans hb2⟩
            case measure => simp [intOf]; omega
      · obtain rfl : v = n := by omega
        rw [List.take_of_length_le (by rw [degs_len]; omega)] at hown
        go_wp2
        go_ret2
        exact ⟨_, _, rfl, own_more hown (by omega), bT b01 hbel⟩
  · rw [if_neg h0]
    have hb : (graphV g == 0) = false := by simpa using h0
    generalize graphV g = r at *
    clear h0
    go_enter Try.func59, Try.ntmps59
    go_wp2_with fail
    refine hc.out.mono ?_
    rintro e w1 ⟨rfl, b1⟩
    go_wp2_with fail
    go_ret2
    exact ⟨none, 0, rfl, World.ownsRow_nil _ _ _ _, bT (bA (Below.refl _ _) _) b1⟩
end Go.Proofs.Ytblabipgehkllaa
