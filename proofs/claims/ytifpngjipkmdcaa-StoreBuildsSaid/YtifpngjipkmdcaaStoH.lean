/- store's pen: hops. -/
import Derived.Test.YtifpngjipkmdcaaStoD
import Derived.Test.YtifpngjipkmdcaaGaps
import Derived.Test.YtifpngjipkmdcaaSeekW
namespace Go.Proofs.Ytifpngjipkmdcaa
open Go.ChangeShapes Go.WideShapes Go.ChangeAt Go.RowKit
set_option linter.unusedVariables false
set_option linter.unusedSimpArgs false
noncomputable def hopB (hs : List Hop) : List Int := (gapsV (hs.map (·.to))).1 ++ packs (hs.map (·.wt))
theorem gapsV_lenS (l : List Int) : (gapsV l).1.length ≤ 20010 := by
  unfold gapsV
  split
  · simp
  · split
    · split
      · have := gapB_len l l.length; simp only; omega
      · simp
    · simp
theorem hopB_len (hs : List Hop) : (hopB hs).length ≤ 20010 + hs.length * 10 := by
  unfold hopB
  have h1 := gapsV_lenS (hs.map (·.to))
  have h2 := packs_len (hs.map (·.wt))
  rw [List.length_map] at h2
  rw [List.length_append]; omega
theorem po_push {w V w3 : World} {L G c c3 : Nat} {A A3 : Option Addr} {m bs : List Int} (hP : PO w L G A c m) (hB : Below w.heap.size w V)
    (hO : w3.ownsRow L 5 1 (.slice A3 (m.length + bs.length) c3) (m.length + bs.length) (m.flatMap u8c ++ bs.flatMap u8c)) (hB3 : Below L V w3) (hG3 : V.grownBy w3 (Value.slice A m.length c).ownBlock) (H3 : (Value.slice A3 (m.length + bs.length) c3).ownBlock = (Value.slice A m.length c).ownBlock ∨ (Value.slice A3 (m.length + bs.length) c3).ownBlock = some V.heap.size) :
    PO (w3.setCell ⟨G, 0, none⟩ (.slice A3 (m.length + bs.length) c3)) L G A3 c3 (m ++ bs) ∧ PFL w (w3.setCell ⟨G, 0, none⟩ (.slice A3 (m.length + bs.length) c3)) L G (pBlk A c m) (pBlk A3 c3 (m ++ bs)) := by
  have hGs := hP.lt
  have hle := hP.le
  have hGV := Nat.lt_of_lt_of_le hGs hB.size
  have hoG : (Value.slice A m.length c).ownBlock ≠ some G := fun e => hP.off G e rfl
  have c3x := (pn_cell (o := 0) hG3 hGV hoG).trans (keepb hB hP.all)
  have f3x : w3.frozen? ⟨G, 0, none⟩ = false := (pn_frozen hG3 hGV hoG).trans (keepf hB hP.fz hGs)
  have hl2 : (m ++ bs).length = m.length + bs.length := List.length_append
  have HLB := (hB.mono (show L ≤ w.heap.size by omega)).trans hB3
  have hblk : pBlk A3 c3 (m ++ bs) = (Value.slice A3 (m.length + bs.length) c3).ownBlock := by unfold pBlk; rw [hl2]
  have hoff : ∀ y, pBlk A3 c3 (m ++ bs) = some y → y ≠ G := fun y hy e => by
    subst e
    rw [hblk] at hy
    rcases H3 with h4 | h4
    · rw [h4] at hy; exact hoG hy
    · rw [h4] at hy; injection hy with hy; have := hB.size; omega
  constructor
  · refine ⟨hle, hoff, ?_, by simpa using f3x, ?_⟩
    · rw [hl2]; exact World.cell?_setCell_same _ _ _ c3x
    · rw [hl2, List.flatMap_append]
      exact own_grown hO (grown_setCells G [.slice A3 (m.length + bs.length) c3] 0 w3) (fun y hy e => by injection e with e; exact hoff y (by rw [hblk]; exact hy) e.symm)
  · refine ⟨HLB.setCell (by exact hle) _, fun i hi hG ha => ?_, fun i hi => ?_⟩
    · rw [heap_setCell_other w3 ⟨G, 0, none⟩ i _ (by simpa using hG)]
      refine (hG3.block i (Nat.lt_of_lt_of_le hi hB.size) (fun e => ha e.symm)).trans (hB.block i hi)
    · rw [hblk] at hi
      rcases H3 with h4 | h4
      · rw [h4] at hi; exact .inl hi
      · rw [h4] at hi; injection hi with hi
        exact .inr (by rw [← hi]; exact hB.size)
theorem PO.blk_lt {w : World} {L G : Nat} {A : Option Addr} {c : Nat} {l : List Int} (h : PO w L G A c l) {y : Nat} (hy : pBlk A c l = some y) : L ≤ y ∧ y < w.heap.size := h.row.lt y hy
theorem i64_oneS (x : Int) : ∀ u ∈ (#[Value.int .i64 x] : Array Value).toList, u.oneCell' = true := by
  intro u hu; simp at hu; subst hu; rfl
def ToR (n : Nat) (hs : List Hop) (w : World) (s iv : Value) (wr : World) : Prop :=
  ∃ (k c : Nat) (A : Option Addr), k ≤ n ∧ iv = .int .i64 k ∧ s = .slice A k c ∧ wr.ownsRow w.heap.size 3 1 (.slice A k c) k (((hs.take k).map (·.to)).flatMap i64c) ∧ Below w.heap.size w wr
def PnR (n : Nat) (w : World) (L G : Nat) (a : Option Nat) (m : List Int) (hs : List Hop) (iv : Value) (wr : World) : Prop :=
  ∃ (k c' : Nat) (A' : Option Addr), k ≤ n ∧ iv = .int .i64 k ∧ Hid (PO wr L G A' c' (m ++ packs ((hs.take k).map (·.wt)))) ∧ Hid (PFL w wr L G a (pBlk A' c' (m ++ packs ((hs.take k).map (·.wt)))))
set_option maxRecDepth 100000 in
set_option maxHeartbeats 1000000 in
theorem penHops_walk {w : World} {L G : Nat} {A : Option Addr} {c : Nat} {l : List Int} (h : PO w L G A c l) (hs : List Hop) (B : Option Addr) (d n : Nat) (hn : hs.length = n) (hr : ∀ V a', PFL w V L G (pBlk A c l) a' → Rd V V.heap.size B 2 n (hs.flatMap Hop.cells)) (hw : ∀ x ∈ hs, 0 ≤ x.wt ∧ x.wt ≤ 9223372036854775807) (hl : l.length + n * 10 + 30000 ≤ 10000000000) :
    Calls Try.prog 63 #[.pointer (some ⟨G, 0, none⟩), .slice B n d] w fun e w' => e = .returned (.tuple #[]) ∧ ∃ A' c', PO w' L G A' c' (l ++ hopB hs) ∧ PFL w w' L G (pBlk A c l) (pBlk A' c' (l ++ hopB hs)) := by
  have HH := hid h
  have HR := hid hr
  have HN := hid hn
  have HW := hid hw
  have hGs := h.lt
  have hle := h.le
  have HR0 := hid (hr w _ (PFL.below (Below.refl _ _) (Nat.le_trans hle (Nat.le_of_lt hGs))))
  clear h hr hw
  go_enter Try.func63, Try.ntmps63
  go_wp2_with fail
  go_loopw [4, 6, 13] (fun s _ iv wr => ToR n hs w s iv wr) (fun _ _ iv _ => n - (intOf iv).toNat)
  case atStart => exact ⟨0, 0, none, Nat.zero_le _, rfl, rfl, World.ownsRow_nil _ _ _ _, Below.refl _ _⟩
  case round =>
    obtain ⟨k, c', A', hk, rfl, rfl, hown, hbel⟩ := hrel
    have hsz := hbel.size
    by_cases hlt : k < n
    · obtain ⟨x, hx⟩ : ∃ x, hs[k]? = some x := ⟨_, List.getElem?_eq_getElem (by omega)⟩
      have hrd := HR.out wr _ (PFL.below hbel (Nat.le_trans hle (Nat.le_of_lt hGs)))
      obtain ⟨bb, off, rfl, hbb, c0, c1⟩ := hcells hrd HN.out hx
      have hkz : (k : Int) < (n : Int) := by omega
      have hkb : (k + 1) * 8 ≤ 140737488355328 := by omega
      have HT := hid (show (hs.take (k + 1)).map (·.to) = (hs.take k).map (·.to) ++ [x.to] by rw [List.take_add_one, hx]; simp)
      clear hx hrd
      go_wp2_with (at_builtin; refine wp_app1 _ rfl rfl el_ints rfl ((hown.alloc _).alloc _) rfl (rd_newAt _ _ _ 1 1 _ (by simp) rfl) (i64_oneS _) hkb (Nat.le_trans hsz (by simp <;> omega)) ?_; intro A2 c2 w4 hown4 hb4 hg4)
      go_roundw
      case rel => exact ⟨k + 1, c2, A2, by omega, by go_num, rfl, by rw [HT.out, List.flatMap_append]; exact hown4, ((hbel.alloc hsz _).alloc (Nat.le_trans hsz (by simp)) _).trans hb4⟩
      case measure => (simp [intOf]) <;> omega
    · obtain rfl : k = n := by omega
      have hkz : ¬ (k : Int) < (k : Int) := by omega
      have HT := hid (show hs.take k = hs from by rw [← HN.out]; exact List.take_length)
      have HG := hid (gaps_walk (hs.map (·.to)) wr A' k c' (by rw [HT.out] at hown; exact rd_own hown) (by rw [List.length_map]; exact HN.out) (by omega))
      have HBL := hid hbel
      have hgl := gapsV_lenS (hs.map (·.to))
      have HPK := hid (show hopB hs = (gapsV (hs.map (·.to))).1 ++ packs (hs.map (·.wt)) from rfl)
      generalize gapsV (hs.map (·.to)) = gv at HG hgl HPK
      obtain ⟨gb, ge⟩ := gv
      dsimp only at HG hgl HPK
      clear hown hbel
      go_wp2_with fail
      refine HG.out.mono ?_
      rintro e w2 ⟨A2, c2, rfl, o2, b2⟩
      have HB2 := hid (HBL.out.trans (b2.mono hsz))
      have HO2 := hid o2
      have hP2 := HH.out.below HB2.out
      have hF2 := hid (PFL.below (L := L) (G := G) (a := pBlk A c l) HB2.out (Nat.le_trans hle (Nat.le_of_lt hGs)))
      have h0 := hP2.all
      have hf := hP2.fz
      have hGs2 := hP2.lt
      have hSZ : (l.length + gb.length) * 1 ≤ 140737488355328 := by omega
      have HP2 := hid hP2
      have HROW := hid hP2.row
      have hoG : (Value.slice A l.length c).ownBlock ≠ some G := fun e => hP2.off G e rfl
      clear o2 b2 hP2
      go_wp2_with (at_builtin; refine wp_app3 _ rfl rfl el_bytes rfl HROW.out rfl (rd_own HO2.out) (one_u8 gb) hSZ (by omega) ?_; intro A3 c3 w3 o3 b3 g3 h3; have c3x := (pn_cell (o := 0) g3 hGs2 hoG).trans h0; have f3x : w3.frozen? ⟨G, 0, none⟩ = false := (pn_frozen g3 hGs2 hoG).trans hf; have HPP := hid (po_push HP2.out (Below.refl _ _) o3 b3 g3 h3); clear o3 b3 g3 h3)
      have HPO := hid HPP.out.1
      have HFO := hid (hF2.out.trans HPP.out.2)
      have hml : (l ++ gb).length = l.length + gb.length := List.length_append
      clear HPP HP2 hF2 HROW HO2 HB2 HH c3x f3x h0 hf hSZ
      generalize w3.setCell ⟨G, 0, none⟩ (.slice A3 (l.length + gb.length) c3) = wx at *
      go_loopw [10, 39] (fun _ iv wr => PnR k w L G (pBlk A c l) (l ++ gb) hs iv wr) (fun _ iv _ => k - (intOf iv).toNat)
      case atStart => exact ⟨0, c3, A3, Nat.zero_le _, rfl, hid (by simpa [packs] using HPO.out), hid (by simpa [packs] using HFO.out)⟩
      case round =>
        clear HPO HFO
        obtain ⟨j, c4, A4, hj, rfl, HP, HF⟩ := hrel
        have hGr := HP.out.lt
        by_cases hlt2 : j < k
        · obtain ⟨x, hx⟩ : ∃ x, hs[j]? = some x := ⟨_, List.getElem?_eq_getElem (by rw [HN.out]; omega)⟩
          have hrd := HR.out wr _ HF.out
          obtain ⟨bb, off, rfl, hbb, c0, c1⟩ := hcells hrd HN.out hx
          have hkz : (j : Int) < (k : Int) := by omega
          obtain ⟨hx0, hx9⟩ := HW.out x (List.mem_of_getElem? hx)
          have HT := hid (show packs ((hs.take (j + 1)).map (·.wt)) = packs ((hs.take j).map (·.wt)) ++ packs [x.wt] by rw [List.take_add_one, hx]; simp [packs])
          have hpl := packs_len ((hs.take j).map (·.wt))
          rw [List.length_map, List.length_take] at hpl
          obtain ⟨m, hm⟩ : ∃ m, (l ++ gb) ++ packs ((hs.take j).map (·.wt)) = m := ⟨_, rfl⟩
          have hml2 : m.length = l.length + gb.length + (packs ((hs.take j).map (·.wt))).length := by rw [← hm, List.length_append, hml]
          rw [hm] at HP HF
          have HM := hid hm
          obtain ⟨V, hV⟩ : ∃ V, V = (wr.alloc (.cells #[.int .i64 x.to, .int .i64 x.wt] 78)).alloc (.cells #[.int .i64 x.wt] 3) := ⟨_, rfl⟩
          have BV : Below wr.heap.size wr V := by rw [hV]; exact bA (bA (Below.refl _ _) _) _
          have hc1 : V.cell? ⟨wr.heap.size + 1, 0, none⟩ = some (.int .i64 x.wt) := by rw [hV]; go_simp
          have HPV := hid (HP.out.below BV)
          have HPU := hid (penPut_walk HPV.out [x.wt] (wr.heap.size + 1) 1 1 rfl (fun i y hy => by
            rcases i with _ | i
            · simp at hy; subst hy; exact ⟨hc1, hx0, hx9⟩
            · simp at hy) (by omega) (fun e => by have := (HP.out.blk_lt e).2; omega) (by rw [hml2, List.length_singleton]; omega))
          have HFV := hid (HF.out.trans (PFL.below BV (by omega)))
          have HV := hid hV
          clear hx hrd hm BV hc1 hV HPV
          go_wp2_with fail
          rw [← HV.out]
          refine HPU.out.mono ?_
          rintro e w7 ⟨rfl, A7, c7, hp7, hf7⟩
          have hmk : m ++ packs [x.wt] = (l ++ gb) ++ packs ((hs.take (j + 1)).map (·.wt)) := by rw [← HM.out, HT.out, List.append_assoc]
          have HP7 := hid (hmk ▸ hp7)
          have HF7 := hid (hmk ▸ HFV.out.trans hf7)
          clear hp7 hf7 HPU HP HF HFV HV HM
          go_wp2_with fail
          go_roundw
          case rel => exact ⟨j + 1, c7, A7, by omega, by go_num, HP7, HF7⟩
          case measure => (simp [intOf]) <;> omega
        · obtain rfl : j = k := by omega
          have hkz2 : ¬ (j : Int) < (j : Int) := by omega
          rw [HT.out, List.append_assoc, ← HPK.out] at HP HF
          go_wp2_with fail
          go_end0
          exact ⟨rfl, A4, c4, HP.out, HF.out⟩
end Go.Proofs.Ytifpngjipkmdcaa
