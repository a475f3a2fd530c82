/- disk.Remove, the document's Removed. -/
import Derived.Test.YtphgdpjfolkafaaDiskU
namespace Go.Proofs.Ytphgdpjfolkafaa
open Go.ChangeShapes Go.WideShapes Go.ChangeAt Go.RowKit
set_option linter.unusedVariables false
set_option linter.unusedSimpArgs false
def keepsF (n : ByteArray) (f : File) : Bool := !(f.name.toList == n.toList)
theorem files_keeps (l : List MFile) (n : ByteArray) : files (l.filter (keeps n)) = (files l).filter (keepsF n) := by
  unfold files
  rw [List.filter_map]
  rfl
noncomputable def removeF (fs : List File) (n : ByteArray) : List File × Int :=
  if okF fs = false then ([], 9) else match fileAt fs n with | none => ([], 7) | some _ => (fs.filter (keepsF n), 0)
theorem removeF_bad {l : List MFile} {n : ByteArray} (h : okB l = false) : removeF (files l) n = ([], 9) := by unfold removeF; rw [if_pos (by rw [← okB_f]; exact h)]
theorem removeF_none {l : List MFile} {n : ByteArray} (h : okB l = true) (hk : l.findIdx? (named n) = none) : removeF (files l) n = ([], 7) := by
  unfold removeF; rw [if_neg (by rw [← okB_f, h]; simp), fileAt_m, hk]
theorem removeF_some {l : List MFile} {n : ByteArray} {k : Nat} (h : okB l = true) (hk : l.findIdx? (named n) = some k) : removeF (files l) n = ((files l).filter (keepsF n), 0) := by
  unfold removeF; rw [if_neg (by rw [← okB_f, h]; simp), fileAt_m, hk]
theorem removeF_len (fs : List File) (n : ByteArray) : (removeF fs n).1.length ≤ fs.length := by
  unfold removeF; split
  · simp
  · split
    · simp
    · exact List.length_filter_le _ _
/-- One name: only the first place has it. -/
theorem okB_only {l : List MFile} (h : okB l = true) {n : ByteArray} {k j : Nat} {x : MFile} (hk : l.findIdx? (named n) = some k) (hx : l[j]? = some x) : named n x = decide (j = k) := by
  have h2 : diskOk (files l) := by unfold okB at h; exact @of_decide_eq_true _ (_) h
  have h3 := ((diskOk_m l).1 h2).2
  obtain ⟨y, hy, hn, hb⟩ := find_some hk
  have hjl := (List.getElem?_eq_some_iff.1 hx).1
  by_cases e : j = k
  · subst e; rw [hx] at hy; cases hy; simp [hn]
  · rw [decide_eq_false e]
    cases hnx : named n x with
    | false => rfl
    | true =>
      exfalso
      have e1 := named_iff.1 hnx
      have e2 := named_iff.1 hn
      rcases Nat.lt_or_gt_of_ne e with hlt | hlt
      · exact absurd (hb j x hlt hx) (by rw [hnx]; simp)
      · exact (h3 j x hjl hx).2 k y hlt hy (by show y.f.name = x.f.name; rw [e1, e2])
theorem at_none_of {l l' : List MFile} (h : files l' = files l) {n : ByteArray} {r : Option Nat} (hk : l.findIdx? (named n) = r) : l'.findIdx? (named n) = r := by rw [at_of h]; exact hk
set_option maxHeartbeats 2000000 in
theorem removeTest (q : Nat) (n : ByteArray) : TestsName 115 q n := by
  refine ⟨fun args w => Try.call115 args w, fun x w hq => ?_⟩
  have hqs := World.block_lt_of_cell? w _ hq
  simp only at hqs
  have hne : q ≠ w.heap.size := by omega
  generalize hb : named n x = r
  have hb2 : (x.f.name.toList == n.toList) = r := hb
  clear hb
  go_enter Try.func115, Try.ntmps115
  go_wp2_with fail
  go_ret
  exact ⟨by rw [← hb2]; rfl, bA (Below.refl _ _) _⟩
set_option maxRecDepth 100000 in
set_option maxHeartbeats 4000000 in
theorem remove_walk (l : List MFile) (n : ByteArray) (w : World) (A : Option Addr) (c : Nat) (hr : Files w w.heap.size A l) (hn : l.length * 48 ≤ 140737488355328) (hm : Okm l) :
    Calls Try.prog 80 #[.agg #[.slice A l.length c], .string n] w (RetD w (removeF (files l) n).1 (removeF (files l) n).2) := by
  have b0 := bA (bA (bA (Below.refl w.heap.size w) (.cells #[.slice A l.length c] 66)) (.cells #[.string n] 9)) (.cells #[.slice none 0 0] 66)
  cases hok : okB l with
  | false =>
    rw [removeF_bad hok]
    have HO := hid (open_bad l _ A c (Files.b hr b0) hn hm.2 hok)
    clear hok
    go_enter Try.func80, Try.ntmps80
    go_wp2_with fail
    refine HO.out.mono ?_
    rintro e w1 ⟨rfl, b1⟩
    have q : w1.cell? ⟨w.heap.size + 2, 0, none⟩ = some (.slice none 0 0) := keepb b1 (by go_simp)
    have qf : ∀ o, w1.frozen? ⟨w.heap.size + 2, o, none⟩ = false := fun o => by rw [(bcell b1).2 _ _ (by simp)]; go_simp
    go_wp2_with fail
    exact bodyPost_ret (v := .tuple #[.agg #[.slice none 0 0], .int .i64 9]) (by simp [results, Try.results80, go_sem, *]) rfl (retD_bad _ _ _ (bS (bT b0 b1) (by show w.heap.size ≤ w.heap.size + 2; omega) _))
  | true =>
    have HO := hid (open_ok l _ A c (Files.b hr b0) hn hm.1 hm.2 hok)
    cases hk : l.findIdx? (named n) with
    | none =>
      rw [removeF_none hok hk]
      go_enter Try.func80, Try.ntmps80
      go_wp2_with fail
      refine HO.out.mono ?_
      rintro e w1 ⟨p, rfl, A1, c1, l1, hf, hln, g0, f0, hp, hps, hown, b1⟩
      have HFN := hid (find_none_walk l1 n w1 A1 c1 p (by rw [hln]; exact g0) (hown.led.1) (by omega) ((at_of hf n).trans hk))
      have q : w1.cell? ⟨w.heap.size + 2, 0, none⟩ = some (.slice none 0 0) := keepb b1 (by go_simp)
      have nm : w1.cell? ⟨w.heap.size + 1, 0, none⟩ = some (.string n) := keepb b1 (by go_simp)
      have qf : ∀ o, w1.frozen? ⟨w.heap.size + 2, o, none⟩ = false := fun o => by rw [(bcell b1).2 _ _ (by simp)]; go_simp
      have qz : w.heap.size + 2 < w1.heap.size := by have := b1.size; simp at this; omega
      clear hok hk g0 hf
      go_wp2_with fail
      refine HFN.out.mono ?_
      rintro e w2 ⟨rfl, b2⟩
      have q := keepb b2 q
      have qf : ∀ o, w2.frozen? ⟨w.heap.size + 2, o, none⟩ = false := fun o => keepf b2 (qf o) qz
      go_wp2_with fail
      exact bodyPost_ret (v := .tuple #[.agg #[.slice none 0 0], .int .i64 7]) (by simp [results, Try.results80, go_sem, *]) rfl (retD_bad _ _ _ (bS (bT (bT b0 b1) b2) (by show w.heap.size ≤ w.heap.size + 2; omega) _))
    | some k =>
      rw [removeF_some hok hk]
      go_enter Try.func80, Try.ntmps80
      go_wp2_with fail
      refine HO.out.mono ?_
      rintro e w1 ⟨p, rfl, A1, c1, l1, hf, hln, g0, f0, hp, hps, hown, b1⟩
      have HFN := hid (find_some_walk l1 n w1 A1 c1 p k (by rw [hln]; exact g0) (hown.led.1) (by omega) ((at_of hf n).trans hk))
      have q : w1.cell? ⟨w.heap.size + 2, 0, none⟩ = some (.slice none 0 0) := keepb b1 (by go_simp)
      have nm : w1.cell? ⟨w.heap.size + 1, 0, none⟩ = some (.string n) := keepb b1 (by go_simp)
      have qf : ∀ o, w1.frozen? ⟨w.heap.size + 2, o, none⟩ = false := fun o => by rw [(bcell b1).2 _ _ (by simp)]; go_simp
      have qz : w.heap.size + 2 < w1.heap.size := by have := b1.size; simp at this; omega
      have hp2 : w.heap.size + 3 ≤ p := by simpa using hp
      have HF := hid hf
      have HLN := hid hln
      clear hok hk hf hln
      go_wp2_with fail
      refine HFN.out.mono ?_
      rintro e w2 ⟨⟨b, off, rfl, rfl⟩, b2⟩
      have hown2 := hown.below b2 (Nat.le_refl _)
      have q := keepb b2 q
      have nm := keepb b2 nm
      have g0 := keepb b2 g0
      have f0 := keepf b2 f0 hps
      have qf : ∀ o, w2.frozen? ⟨w.heap.size + 2, o, none⟩ = false := fun o => keepf b2 (qf o) qz
      have hps2 : p < w2.heap.size := Nat.lt_of_lt_of_le hps b2.size
      have HD := hid (delete_walk 115 l1 n w2 (p + 1) (some ⟨b, off, none⟩) c1 (w.heap.size + 1) (removeTest _ n) nm (by omega) (by omega) hown2 (by rw [HLN.out]; omega))
      rw [HLN.out] at HD
      clear hown hown2
      go_wp2_with fail
      refine HD.out.mono ?_
      rintro e w3 ⟨rfl, hown3, b3⟩
      have g0 := (b3.cell (p := ⟨p, 0, none⟩) (by show p < p + 1; omega)).trans g0
      have f0 := (b3.frozen (p := ⟨p, 0, none⟩) (by show p < p + 1; omega)).trans f0
      have q := (b3.cell (p := ⟨w.heap.size + 2, 0, none⟩) (by show w.heap.size + 2 < p + 1; omega)).trans q
      have qf : ∀ o, w3.frozen? ⟨w.heap.size + 2, o, none⟩ = false := fun o => (b3.frozen (p := ⟨w.heap.size + 2, o, none⟩) (by show w.heap.size + 2 < p + 1; omega)).trans (qf o)
      have hqp : w.heap.size + 2 ≠ p := by omega
      have HFK := hid (files_keeps l1 n)
      have HO3 := hid hown3
      have HB := hid ((bT (bT b0 b1) b2).trans (b3.mono (show w.heap.size ≤ p + 1 by omega)))
      clear hown3
      go_wp2_with fail
      refine bodyPost_ret (v := .tuple #[.agg #[.slice (some ⟨b, off, none⟩) (l1.filter (keeps n)).length c1], .int .i64 0]) (by simp [results, Try.results80, go_sem, *]) rfl ?_
      have hfin : files (l1.filter (keeps n)) = (files l).filter (keepsF n) := by rw [HFK.out, HF.out]
      refine ⟨some ⟨b, off, none⟩, c1, l1.filter (keeps n), by rw [← hfin, files_length], hfin, ?_, ?_⟩
      · exact ((HO3.out.store (by show p < p + 1; omega) _).store (by show w.heap.size + 2 < p + 1; omega) _).led
      · exact bS (bS HB.out (by show w.heap.size ≤ p; omega) _) (by show w.heap.size ≤ w.heap.size + 2; omega) _

theorem filter_skip {l : List MFile} {p : MFile → Bool} {k : Nat} {x : MFile} (hx : l[k]? = some x) (h : p x = false) : (l.take (k + 1)).filter p = (l.take k).filter p := by
  rw [take_next hx, List.filter_append]; simp [h]
theorem filter_put {l : List MFile} {p : MFile → Bool} {k : Nat} {x : MFile} (hx : l[k]? = some x) (h : p x = true) : (l.take (k + 1)).filter p = (l.take k).filter p ++ [x] := by
  rw [take_next hx, List.filter_append]; simp [h]
def noParts : MFile → List Part := fun _ => []
/-- Files that were chosen lie in a row of their own; the rest of what they lead to is older. -/
theorem chosen {w w' : World} {A1 : Option Addr} {base c : Nat} {e : TypeId} {A : Option Addr} {l acc : List MFile} (h : Files w w.heap.size A1 l) (hb : Below w.heap.size w w') (hsub : ∀ y ∈ acc, ∃ x ∈ l, y.A = x.A ∧ y.f.data = x.f.data) (ho : Heaped MFile.cells noParts w' base e 3 A c acc) : Files w' w'.heap.size A acc :=
  ⟨ho.led.1, fun y hy p hp => by
    obtain rfl := List.mem_singleton.1 hp
    obtain ⟨x, hx, e1, e2⟩ := hsub y hy
    have := Rd.any (sz := 1) (Rd.below (Files.data h hx) hb) (by decide)
    show Rd w' w'.heap.size y.A 1 y.f.data.length (y.f.data.flatMap u8c)
    rw [e1, e2]
    exact this⟩
theorem sub_filter {l : List MFile} {p : MFile → Bool} {k : Nat} : ∀ y ∈ (l.take k).filter p, ∃ x ∈ l, y.A = x.A ∧ y.f.data = x.f.data := fun y hy => ⟨y, List.mem_of_mem_take (List.mem_filter.1 hy).1, rfl, rfl⟩
def RmvRel (l : List MFile) (n : ByteArray) (P : Nat) (v : Value) (w : World) (i : Value) (wr : World) : Prop :=
  ∃ (k m c : Nat) (A : Option Addr) (acc : List MFile), k ≤ l.length ∧ i = .int .i64 k ∧ Hid (acc.length = m) ∧ Hid (acc = (l.take k).filter (keeps n)) ∧ Hid (m ≤ k) ∧ Heaped MFile.cells noParts wr (P + 2) 131 3 A c acc ∧ Below (P + 1) w wr ∧ P + 2 ≤ wr.heap.size ∧
    wr.cell? ⟨P, 0, none⟩ = some v ∧ wr.cell? ⟨P + 1, 0, none⟩ = some (.slice A m c) ∧ wr.frozen? ⟨P + 1, 0, none⟩ = false
set_option maxRecDepth 100000 in
set_option maxHeartbeats 8000000 in
theorem removed_walk (l : List MFile) (n : ByteArray) (w : World) (A : Option Addr) (c : Nat) (hr : Files w w.heap.size A l) (hn : l.length * 48 ≤ 140737488355328) (hm : Okm l) :
    Calls Try.prog 84 #[.agg #[.slice A l.length c], .string n] w (RetD w (removeF (files l) n).1 (removeF (files l) n).2) := by
  have b0 := bA (bA (Below.refl w.heap.size w) (.cells #[.slice A l.length c] 66)) (.cells #[.slice none 0 0] 66)
  have HM := hid (DiskMay_walk l _ A c (rdb hr.1 (by decide) b0) (by omega))
  cases hok : okB l with
  | false =>
    rw [removeF_bad hok]
    rw [hok] at HM
    clear hok
    go_enter Try.func84, Try.ntmps84
    go_wp2_with fail
    refine HM.out.mono ?_
    rintro e w1 ⟨rfl, b1⟩
    have q : w1.cell? ⟨w.heap.size + 1, 0, none⟩ = some (.slice none 0 0) := keepb b1 (by go_simp)
    have qf : ∀ o, w1.frozen? ⟨w.heap.size + 1, o, none⟩ = false := fun o => by rw [(bcell b1).2 _ _ (by simp)]; go_simp
    go_wp2_with fail
    exact bodyPost_ret (v := .tuple #[.agg #[.slice none 0 0], .int .i64 9]) (by simp [results, Try.results84, go_sem, *]) rfl (retD_bad _ _ _ (bS (bT b0 b1) (by show w.heap.size ≤ w.heap.size + 1; omega) _))
  | true =>
    rw [hok] at HM
    cases hk : l.findIdx? (named n) with
    | none =>
      rw [removeF_none hok hk]
      go_enter Try.func84, Try.ntmps84
      go_wp2_with fail
      refine HM.out.mono ?_
      rintro e w1 ⟨rfl, b1⟩
      have b01 := bT b0 b1
      have g0 : w1.cell? ⟨w.heap.size, 0, none⟩ = some (.slice A l.length c) := keepb b1 (by go_simp)
      have q : w1.cell? ⟨w.heap.size + 1, 0, none⟩ = some (.slice none 0 0) := keepb b1 (by go_simp)
      have qf : ∀ o, w1.frozen? ⟨w.heap.size + 1, o, none⟩ = false := fun o => by rw [(bcell b1).2 _ _ (by simp)]; go_simp
      have qz : w.heap.size + 1 < w1.heap.size := by have := b1.size; simp at this; omega
      have HA := hid (FileAt_walk l n w1 A c (rdb hr.1 (by decide) b01) (by omega))
      rw [hk] at HA
      have hat : (atI none : Int) = -1 := rfl
      rw [hat] at HA
      clear hok hk hat
      go_wp2_with fail
      refine HA.out.mono ?_
      rintro e w2 ⟨rfl, b2⟩
      have q := keepb b2 q
      have qf : ∀ o, w2.frozen? ⟨w.heap.size + 1, o, none⟩ = false := fun o => keepf b2 (qf o) qz
      go_wp2_with fail
      exact bodyPost_ret (v := .tuple #[.agg #[.slice none 0 0], .int .i64 7]) (by simp [results, Try.results84, go_sem, *]) rfl (retD_bad _ _ _ (bS (bT b01 b2) (by show w.heap.size ≤ w.heap.size + 1; omega) _))
    | some k0 =>
      rw [removeF_some hok hk]
      have HOK := hid hok
      have HK := hid hk
      go_enter Try.func84, Try.ntmps84
      go_wp2_with fail
      refine HM.out.mono ?_
      rintro e w1 ⟨rfl, b1⟩
      have b01 := bT b0 b1
      have g0 : w1.cell? ⟨w.heap.size, 0, none⟩ = some (.slice A l.length c) := keepb b1 (by go_simp)
      have q : w1.cell? ⟨w.heap.size + 1, 0, none⟩ = some (.slice none 0 0) := keepb b1 (by go_simp)
      have qf : ∀ o, w1.frozen? ⟨w.heap.size + 1, o, none⟩ = false := fun o => by rw [(bcell b1).2 _ _ (by simp)]; go_simp
      have qz : w.heap.size + 1 < w1.heap.size := by have := b1.size; simp at this; omega
      have HA := hid (FileAt_walk l n w1 A c (rdb hr.1 (by decide) b01) (by omega))
      rw [hk] at HA
      have hat : (atI (some k0) : Int) = (k0 : Int) := rfl
      rw [hat] at HA
      clear hok hk hat HM
      go_wp2_with fail
      refine HA.out.mono ?_
      rintro e w2 ⟨rfl, b2⟩
      have b02 := bT b01 b2
      have g0 := keepb b2 g0
      have q := keepb b2 q
      have qf : ∀ o, w2.frozen? ⟨w.heap.size + 1, o, none⟩ = false := fun o => keepf b2 (qf o) qz
      have qz : w.heap.size + 1 < w2.heap.size := Nat.lt_of_lt_of_le qz b2.size
      have HC := hid (DiskCopy_walk l w2 A c (Files.b hr b02) hn hm.1)
      clear HA
      go_wp2_with fail
      refine HC.out.mono ?_
      rintro e w3 ⟨A1, c1, l1, rfl, hf, hln, hown, b3⟩
      have b03 := bT b02 b3
      have q := keepb b3 q
      have qf : ∀ o, w3.frozen? ⟨w.heap.size + 1, o, none⟩ = false := fun o => keepf b3 (qf o) qz
      have qz3 : w.heap.size + 1 < w3.heap.size := Nat.lt_of_lt_of_le qz b3.size
      have HL1 := hid hown.led
      have HOW := hid hown
      have HOK1 := hid (show okB l1 = true by rw [okB_f, hf]; exact HOK.out)
      have HK1 := hid ((at_of hf n).trans HK.out)
      have HF := hid hf
      have HLN := hid hln
      have bX := bA (bA (Below.refl w3.heap.size w3) (.cells #[.slice A1 l.length c1] 66)) (.cells #[.slice none 0 0] 66)
      clear hf hln hown HC
      go_wp2_with fail
      go_loopw [9] (RmvRel l1 n w3.heap.size (.slice A1 l.length c1) ((w3.alloc (.cells #[.slice A1 l.length c1] 66)).alloc (.cells #[.slice none 0 0] 66))) (fun i _ => l.length - (intOf i).toNat)
      case atStart => exact ⟨0, 0, 0, none, [], by omega, rfl, hid rfl, hid (by simp), hid (by omega), Heaped.nil, Below.refl _ _, by simp, by go_simp, by go_simp, by go_simp⟩
      case round =>
        clear g0
        obtain ⟨k, m, c', A', acc, hk, rfl, HAL, HAC, HMK, hown, hbel, hsz, g0, g1, f1⟩ := hrel
        have hl1 : l1.length = l.length := HLN.out
        have hbX := bX.trans (hbel.mono (show w3.heap.size ≤ w3.heap.size + 1 by omega))
        by_cases hlt : k < l.length
        · obtain ⟨x, hx⟩ : ∃ x, l1[k]? = some x := ⟨_, List.getElem?_eq_getElem (by omega)⟩
          have hkz : (k : Int) < (l.length : Int) := by omega
          have HX := hid hx
          have HO := hid (okB_only HOK1.out HK1.out hx)
          clear hx
          by_cases hkk : k = k0
          · subst hkk
            have HS := hid (filter_skip (p := keeps n) HX.out (by unfold keeps; rw [HO.out]; simp))
            clear hl1
            go_wp2_with fail
            go_roundw
            case rel => exact ⟨k + 1, m, c', A', acc, by rw [HLN.out]; omega, by go_num, HAL, hid (by rw [HS.out]; exact HAC.out), hid (by have := HMK.out; omega), hown, hbel, hsz, g0, g1, f1⟩
            case measure => simp [intOf]; omega
          · have hkb : ((k : Int) != (k0 : Int)) = true := by simp; omega
            have HP := hid (filter_put (p := keeps n) HX.out (by unfold keeps; rw [HO.out]; simp [hkk]))
            have hfc := file_cells (HL1.out.1.below hbX) rfl HX.out
            obtain ⟨b, off, rfl, hb, d0, d1, d2⟩ := hfc
            have hn1 : (m + 1) * 48 ≤ 140737488355328 := by have := HMK.out; omega
            have hsz1 : ∀ o, w3.heap.size + 2 ≤ ((wr.alloc o).drew).heap.size := fun o => by have := (bD (bA (Below.refl wr.heap.size wr) o)).size; omega
            have hb8 : b ≠ w3.heap.size + 1 := by omega
            have hz0 : w3.heap.size < wr.heap.size := by omega
            have hz1 : w3.heap.size + 1 < wr.heap.size := by omega
            have hbz : b < wr.heap.size := by omega
            have hcell2 : ∀ (o : Obj) (w4 : World), Below (w3.heap.size + 2) ((wr.alloc o).drew) w4 → w4.cell? ⟨w3.heap.size, 0, none⟩ = some (.slice (some ⟨b, off, none⟩) l.length c1) ∧ w4.cell? ⟨w3.heap.size + 1, 0, none⟩ = some (.slice A' m c') ∧ w4.frozen? ⟨w3.heap.size + 1, 0, none⟩ = false ∧ Below (w3.heap.size + 1) ((w3.alloc (.cells #[.slice (some ⟨b, off, none⟩) l.length c1] 66)).alloc (.cells #[.slice none 0 0] 66)) w4 ∧ w3.heap.size + 2 ≤ w4.heap.size := fun o w4 h2 => by
              have h3 := (((Below.refl (w3.heap.size + 2) wr).alloc (by omega) o).drew).trans h2
              exact ⟨(h3.cell (p := ⟨w3.heap.size, 0, none⟩) (by show w3.heap.size < _; omega)).trans g0, (h3.cell (p := ⟨w3.heap.size + 1, 0, none⟩) (by show w3.heap.size + 1 < _; omega)).trans g1, (h3.frozen (p := ⟨w3.heap.size + 1, 0, none⟩) (by show w3.heap.size + 1 < _; omega)).trans f1, hbel.trans (h3.mono (by omega)), Nat.le_trans hsz h3.size⟩
            clear hl1
            go_wp2_with fail
            go_region_law ((refine step_heap rfl rfl el_files rfl HAL.out.symm (hown.alloc _).drew x (fun p hp => by cases hp) rfl (rd_newAt _ _ _ 3 1 _ (by simp) rfl).drew (one_file _) hn1 (hsz1 _) ?_; intro A2 c2 w4 hown4 hb4 hg4; obtain ⟨gg0, gg1, ff1, bb, ss⟩ := hcell2 _ _ hb4))
            all_goals
              go_wp2
              go_roundw
              case rel =>
                exact ⟨k + 1, m + 1, c2, A2, acc ++ [x], by rw [HLN.out]; omega, by go_num, hid (by rw [List.length_append, HAL.out]; rfl), hid (by rw [HP.out, HAC.out]), hid (by have := HMK.out; omega), hown4.store (by show w3.heap.size + 1 < w3.heap.size + 2; omega) _, bb.setCell (by show w3.heap.size + 1 ≤ w3.heap.size + 1; omega) _, by simpa using ss, (World.cell?_setCell_far _ _ _ _ (by simp)).trans gg0, World.cell?_setCell_same _ _ _ gg1, by simpa using ff1⟩
              case measure => simp [intOf]; omega
        · obtain rfl : k = l.length := by omega
          have hfin : files acc = (files l).filter (keepsF n) := by
            rw [HAC.out, List.take_of_length_le (by omega), files_keeps, HF.out]
          have HFIN := hid hfin
          have q := keepb hbX q
          have qf : ∀ o, wr.frozen? ⟨w.heap.size + 1, o, none⟩ = false := fun o => keepf hbX (qf o) qz3
          have hw8 : w.heap.size + 1 ≠ w3.heap.size + 1 := by omega
          clear hfin hl1
          go_wp2_with fail
          refine bodyPost_ret (v := .tuple #[.agg #[.slice A' m c'], .int .i64 0]) (by simp [results, Try.results84, go_sem, *]) rfl ?_
          have hml : m = ((files l).filter (keepsF n)).length := by rw [← HFIN.out, files_length, HAL.out]
          refine ⟨A', c', acc, by rw [hml], HFIN.out, ?_, bS (bT b03 hbX) (by show w.heap.size ≤ w.heap.size + 1; omega) _⟩
          exact chosen ((HOW.out.below hbX (Nat.le_refl _)).store (by show w.heap.size + 1 < w2.heap.size; omega) _).led (Below.refl _ _) (by rw [HAC.out]; exact sub_filter) (hown.store (by show w.heap.size + 1 < w3.heap.size + 2; omega) _)
end Go.Proofs.Ytphgdpjfolkafaa
