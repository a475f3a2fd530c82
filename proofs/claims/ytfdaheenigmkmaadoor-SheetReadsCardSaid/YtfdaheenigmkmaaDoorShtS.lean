/- sheet.Show. -/
import Derived.Test.YtfdaheenigmkmaaDoorShtC
import Derived.Test.YtfdaheenigmkmaaDoorGraph
import Derived.Test.YtfdaheenigmkmaaDoorGraphRef
namespace Go.Proofs.YtfdaheenigmkmaaDoor
open Go.RowKit Go.ChangeShapes Go.WideShapes Go.ChangeAt
set_option linter.unusedVariables false
set_option linter.unusedSimpArgs false
def lineG (ns : List Nat) : List UInt8 := partL ns ns.length ++ [10]
def edgeNs (e : Edge) : List Nat := [e.src.toNat, e.dst.toNat, e.wt.toNat]
def textG (g : Graph) (k : Nat) : List UInt8 := lineG [g.n.toNat] ++ (g.edges.take k).flatMap fun e => lineG (edgeNs e)
noncomputable def showG (g : Graph) : ByteArray × Int := if graphV g ≠ 0 then (⟨#[]⟩, graphV g) else (⟨(textG g g.edges.length).toArray⟩, 0)
theorem textG_step {g : Graph} {k : Nat} {e : Edge} (h : g.edges[k]? = some e) : textG g (k + 1) = textG g k ++ lineG (edgeNs e) := by
  unfold textG; rw [take_nextV h, List.flatMap_append, List.flatMap_singleton, List.append_assoc]
theorem lineG_len {ns : List Nat} (h : ∀ n ∈ ns, n ≤ 1152921504606846976) (h3 : ns.length ≤ 3) : (lineG ns).length ≤ 61 := by
  have := partL_len h ns.length (Nat.le_refl _)
  unfold lineG
  rw [List.length_append, List.length_singleton]
  omega
theorem textG_len {g : Graph} (hn : g.n.toNat ≤ 1152921504606846976) (he : ∀ e ∈ g.edges, ∀ n ∈ edgeNs e, n ≤ 1152921504606846976) : ∀ k, k ≤ g.edges.length → (textG g k).length ≤ 61 * (k + 1)
  | 0, _ => by
    unfold textG
    have := lineG_len (ns := [g.n.toNat]) (fun n h => by obtain rfl := List.mem_singleton.1 h; exact hn) (by simp)
    simpa using this
  | k + 1, hk => by
    obtain ⟨e, h⟩ : ∃ e, g.edges[k]? = some e := ⟨_, List.getElem?_eq_getElem (by omega)⟩
    have ih := textG_len hn he k (by omega)
    have h2 := lineG_len (he e (List.mem_of_getElem? h)) (Nat.le_refl 3)
    rw [textG_step h, List.length_append]
    omega
def ShgR (g : Graph) (b : Nat) (W : World) (v23 : Value) (wr : World) : Prop :=
  ∃ k : Nat, k ≤ g.edges.length ∧ v23 = .int .i64 (k : Nat) ∧ Hid (Bld wr b (textG g k)) ∧ Hid (Below b W wr)
set_option maxRecDepth 100000 in
set_option maxHeartbeats 4000000 in
theorem sheetShow_walk (g : Graph) (w : World) (A : Option Addr) (c : Nat) (hr : Rd w w.heap.size A 3 g.edges.length (g.edges.flatMap Edge.cells)) (hl : g.edges.length ≤ 9223372036854775807) (hp : PowAt w) (h1 : 4 < w.heap.size) :
    Calls Tryd.prog 16 #[.agg #[.int .i64 g.n, .slice A g.edges.length c]] w fun e w' => e = .returned (.tuple #[.string (showG g).1, .int .i64 (showG g).2]) ∧ Below w.heap.size w w' := by
  have HR := hid hr
  obtain ⟨W, hW⟩ : ∃ W, W = w.alloc (.cells #[.int .i64 g.n, .slice A g.edges.length c] 30) := ⟨_, rfl⟩
  have hBW : Below w.heap.size w W := by rw [hW]; exact bA (Below.refl _ _) _
  have HCK := hid (check_walk g W A c (rdb hr (by decide) hBW) hl)
  have g0 : W.cell? ⟨w.heap.size, 0, none⟩ = some (.int .i64 g.n) := by rw [hW]; go_simp
  have g1 : W.cell? ⟨w.heap.size, 1, none⟩ = some (.slice A g.edges.length c) := by rw [hW]; go_simp
  have HP := hid hp
  clear hr hp
  go_enter Tryd.func16, Tryd.ntmps16
  go_wp2_with fail
  rw [← hW]
  clear hW
  refine HCK.out.mono ?_
  rintro e w1 ⟨rfl, b1⟩
  have HB1 := hid (bT hBW b1)
  have g0 := keepb b1 g0
  have g1 := keepb b1 g1
  clear b1 hBW HCK
  by_cases hg : graphV g = 0
  · have hgb : (graphV g != 0) = false := by simpa using hg
    obtain ⟨hfit, hE⟩ := graphV_ok.1 hg
    have hel : g.edges.length ≤ 600 := hfit.2.2
    have hn0 : 0 ≤ g.n ∧ g.n ≤ 200 := by have := hfit.1; have := hfit.2.1; omega
    have HSV := hid (show showG g = (⟨(textG g g.edges.length).toArray⟩, 0) by unfold showG; rw [if_neg (by simpa using hg)])
    have HEN := hid (show ∀ e ∈ g.edges, ∀ n ∈ edgeNs e, n ≤ 1152921504606846976 from fun e he n hn => by
      have h9 := hE e he
      unfold edgeOk at h9
      unfold edgeNs at hn
      simp only [List.mem_cons, List.not_mem_nil, or_false] at hn
      rcases hn with rfl | rfl | rfl <;> omega)
    have HE0 := hid hE
    have HTL := hid (textG_len (g := g) (by omega) HEN.out)
    obtain ⟨V, hV⟩ : ∃ V, V = w1.alloc (.cells #[.pointer none, .slice none 0 0] 70) := ⟨_, rfl⟩
    obtain ⟨b, hb⟩ : ∃ b, b = w1.heap.size := ⟨_, rfl⟩
    have HB0 := hid (show Bld V b [] by rw [hV, hb]; exact bld_new w1)
    have HBV := hid (show Below w.heap.size w V by rw [hV]; exact bT HB1.out (bA (Below.refl _ _) _))
    have hbw : w.heap.size < b := by rw [hb]; exact World.block_lt_of_cell? _ _ g0
    have hbV : b < V.heap.size := HB0.out.lt
    have g0 : V.cell? ⟨w.heap.size, 0, none⟩ = some (.int .i64 g.n) := by rw [hV]; exact keepb (bA (Below.refl _ _) _) g0
    have g1 : V.cell? ⟨w.heap.size, 1, none⟩ = some (.slice A g.edges.length c) := by rw [hV]; exact keepb (bA (Below.refl _ _) _) g1
    have HPV := hid (show PowAt V from HP.out.below HBV.out)
    have HBq := hid hb
    go_upto_region 6 with fail
    rw [← hV, ← hb]
    clear hV hb
    obtain ⟨X, hX⟩ : ∃ X, X = V.alloc (.cells #[.int .i64 g.n] 3) := ⟨_, rfl⟩
    have hXB : Below V.heap.size V X := by rw [hX]; exact bA (Below.refl _ _) _
    have HL1 := hid (lineC_walk [g.n.toNat] (fun n h => by obtain rfl := List.mem_singleton.1 h; omega) (by simp) b V.heap.size [] X (HB0.out.below hXB) (by rw [hX]; have h := heap_alloc_new V (.cells #[.int .i64 g.n] 3); rw [h]; simp [Int.toNat_of_nonneg hn0.1]) (by omega) (HPV.out.below hXB) (by omega) (by simp))
    have HXV := hid hXB
    clear hXB
    have HBX := hid (HBV.out.trans (HXV.out.mono (by omega)))
    have x1 := keepb HXV.out g1
    go_wp2_with fail
    rw [← hX]
    clear hX
    refine HL1.out.mono ?_
    rintro e w2 ⟨rfl, d2, b2⟩
    have HD2 := hid (show Bld w2 b (textG g 0) by unfold textG; simpa [lineG] using d2)
    have HB2 := hid (HBX.out.trans (b2.mono (by omega)))
    have HP2 := hid (pow_keep (HPV.out.below HXV.out) b2 (by omega))
    have q1 : w2.cell? ⟨w.heap.size, 1, none⟩ = some (.slice A g.edges.length c) := (b2.cell (p := ⟨w.heap.size, 1, none⟩) hbw).trans x1
    clear d2 b2 x1 g0 g1 HL1 HB0 HBX HXV
    go_wp2_with fail
    go_loopw [23] (fun v23 wr => ShgR g b w2 v23 wr) (fun v23 _ => g.edges.length - (intOf v23).toNat)
    case atStart => exact ⟨0, Nat.zero_le _, rfl, HD2, hid (Below.refl _ _)⟩
    case round =>
      clear HD2
      obtain ⟨k, hk, rfl, HBD, HBR⟩ := hrel
      have HBL := hid (HB2.out.trans (HBR.out.mono (by omega)))
      by_cases hlt : k < g.edges.length
      · obtain ⟨e, he⟩ : ∃ e, g.edges[k]? = some e := ⟨_, List.getElem?_eq_getElem hlt⟩
        obtain ⟨bb, off, rfl, hbb, c0, c1, c2⟩ := edge_cells (HR.out.below HBL.out) rfl he
        have hkz : (k : Int) < (g.edges.length : Int) := by omega
        have hsz := HBL.out.size
        have hbw2 : bb < wr.heap.size := by omega
        have hok := HE0.out e (List.mem_of_getElem? he)
        unfold edgeOk at hok
        have HST := hid (textG_step he)
        have htl := HTL.out k (by omega)
        obtain ⟨X, hX⟩ : ∃ X, X = (wr.alloc (.cells #[.int .i64 e.src, .int .i64 e.dst, .int .i64 e.wt] 45)).alloc (.cells #[.int .i64 e.src, .int .i64 e.dst, .int .i64 e.wt] 3) := ⟨_, rfl⟩
        have hXB : Below wr.heap.size wr X := by rw [hX]; exact bA (bA (Below.refl _ _) _) _
        have hbr := HBD.out.lt
        have HLN := hid (lineC_walk (edgeNs e) (HEN.out e (List.mem_of_getElem? he)) (Nat.le_refl 3) b (wr.heap.size + 1) (textG g k) X (HBD.out.below hXB) (by rw [hX]; have h := heap_alloc_new (wr.alloc (.cells #[.int .i64 e.src, .int .i64 e.dst, .int .i64 e.wt] 45)) (.cells #[.int .i64 e.src, .int .i64 e.dst, .int .i64 e.wt] 3); simp only [World.alloc, Array.size_push] at h ⊢; rw [h]; unfold edgeNs; simp [Int.toNat_of_nonneg hok.1.1, Int.toNat_of_nonneg hok.2.1.1, Int.toNat_of_nonneg hok.2.2.1]) (by omega) ((pow_keep HP2.out HBR.out (by omega)).below hXB) (by omega) (by omega))
        have HXB := hid hXB
        clear he hXB hok
        go_wp2_with fail
        rw [← hX]
        clear hX
        refine HLN.out.mono ?_
        rintro e' w5 ⟨rfl, d5, b5⟩
        go_wp2_with fail
        go_roundw
        case rel => exact ⟨k + 1, by omega, by go_num, hid (by rw [HST.out]; exact d5), hid (HBR.out.trans ((HXB.out.mono (by omega)).trans b5))⟩
        case measure => simp [intOf]; omega
      · obtain rfl : k = g.edges.length := by omega
        have HBS := hid (builderString_walk b (textG g g.edges.length) wr HBD.out)
        go_wp2_with fail
        refine HBS.out.mono ?_
        rintro e w7 ⟨rfl, b7⟩
        go_wp2_with fail
        go_ret2
        exact ⟨by rw [HSV.out]; rfl, HBL.out.trans (b7.mono (by omega))⟩
  · have hgb : (graphV g != 0) = true := by simpa using hg
    have HSV := hid (show showG g = (⟨#[]⟩, graphV g) by unfold showG; rw [if_pos hg])
    clear hg
    go_wp2_with fail
    go_ret2
    exact ⟨by rw [HSV.out]; rfl, HB1.out⟩
end Go.Proofs.YtfdaheenigmkmaaDoor
