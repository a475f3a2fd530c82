/- disk.Rename, the document's Renamed. -/
import Derived.Test.YtafnbackjjaelaaDoorDiskT
namespace Go.Proofs.YtafnbackjjaelaaDoor
open Go.ChangeShapes Go.WideShapes Go.ChangeAt Go.RowKit
set_option linter.unusedVariables false
def sameN (a b : ByteArray) : Bool := a.toList == b.toList
theorem sameN_iff {a b : ByteArray} : sameN a b = true ↔ a = b := by
  unfold sameN
  rw [beq_iff_eq]
  constructor
  · intro h; rw [ByteArray.toList_eq, ByteArray.toList_eq] at h; exact bytes_inj h
  · intro h; rw [h]
theorem sameN_no {a b : ByteArray} : sameN a b = false ↔ a ≠ b := by
  rw [← Bool.not_eq_true, sameN_iff]
/-- Does a file stay when 'from' gets the name 'to'? -/
def staysF (a b : ByteArray) (f : File) : Bool := !(sameN f.name b && !(sameN a b))
def nameF (a b : ByteArray) (f : File) : File := if sameN f.name a = true then { f with name := b } else f
noncomputable def renameF (fs : List File) (a b : ByteArray) : List File × Int :=
  if okF fs = false then ([], 9) else if ¬ (1 ≤ b.size ∧ b.size ≤ 20) then ([], 1) else match fileAt fs a with | none => ([], 7) | some _ => ((fs.filter (staysF a b)).map (nameF a b), 0)
theorem renameF_bad {l : List MFile} {a b : ByteArray} (h : okB l = false) : renameF (files l) a b = ([], 9) := by unfold renameF; rw [if_pos (by rw [← okB_f]; exact h)]
theorem renameF_size {l : List MFile} {a b : ByteArray} (h : okB l = true) (hb : ¬ (1 ≤ b.size ∧ b.size ≤ 20)) : renameF (files l) a b = ([], 1) := by
  unfold renameF; rw [if_neg (by rw [← okB_f, h]; simp), if_pos hb]
theorem renameF_none {l : List MFile} {a b : ByteArray} (h : okB l = true) (hb : 1 ≤ b.size ∧ b.size ≤ 20) (hk : l.findIdx? (named a) = none) : renameF (files l) a b = ([], 7) := by
  unfold renameF; rw [if_neg (by rw [← okB_f, h]; simp), if_neg (fun h => h hb), fileAt_m, hk]
theorem renameF_some {l : List MFile} {a b : ByteArray} {k : Nat} (h : okB l = true) (hb : 1 ≤ b.size ∧ b.size ≤ 20) (hk : l.findIdx? (named a) = some k) : renameF (files l) a b = (((files l).filter (staysF a b)).map (nameF a b), 0) := by
  unfold renameF; rw [if_neg (by rw [← okB_f, h]; simp), if_neg (fun h => h hb), fileAt_m, hk]
theorem renameF_len (fs : List File) (a b : ByteArray) : (renameF fs a b).1.length ≤ fs.length := by
  unfold renameF; split
  · simp
  · split
    · simp
    · split
      · simp
      · rw [List.length_map]; exact List.length_filter_le _ _
/-- The same name: nothing happens. -/
theorem rename_same (fs : List File) (a b : ByteArray) (h : sameN a b = true) : (fs.filter (staysF a b)).map (nameF a b) = fs := by
  have e1 : fs.filter (staysF a b) = fs := by rw [List.filter_eq_self]; intro f _; simp [staysF, h]
  rw [e1]
  conv => rhs; rw [← List.map_id fs]
  refine List.map_congr_left fun f _ => ?_
  unfold nameF
  split
  · next hf => rw [sameN_iff] at hf h; rw [← h, ← hf]; rfl
  · rfl
/-- Another name: the file that has it goes, and one file gets it. -/
theorem rename_other {l : List MFile} {a b : ByteArray} (h : sameN a b = false) (hok : okB l = true) {j : Nat} {x : MFile} (hj : (l.filter (keeps b)).findIdx? (named a) = some j) (hx : (l.filter (keeps b))[j]? = some x) :
    files ((l.filter (keeps b)).set j ⟨x.A, x.c, { x.f with name := b }⟩) = ((files l).filter (staysF a b)).map (nameF a b) := by
  have e1 : (files l).filter (staysF a b) = files (l.filter (keeps b)) := by
    rw [files_keeps]
    congr 1
    funext f
    show (!(sameN f.name b && !(sameN a b))) = (!(f.name.toList == b.toList))
    rw [h]
    simp [sameN]
  rw [e1, files_set]
  have h2 : diskOk (files l) := by unfold okB at hok; exact @of_decide_eq_true _ (_) hok
  have h3 : (l.filter (keeps b)).Pairwise fun x y => x.f.name ≠ y.f.name := (okTo_all.1 ((diskOk_m l).1 h2).2).2.sublist List.filter_sublist
  obtain ⟨y, hy, hn, hb⟩ := find_some hj
  rw [hx] at hy
  cases hy
  have hjl := (List.getElem?_eq_some_iff.1 hx).1
  apply List.ext_getElem?
  intro i
  by_cases e : i = j
  · subst e
    rw [List.getElem?_set_self (by rw [files_length]; exact hjl), List.getElem?_map]
    have : (files (l.filter (keeps b)))[i]? = some x.f := by unfold files; rw [List.getElem?_map, hx]; rfl
    rw [this]
    have hx2 : sameN x.f.name a = true := hn
    simp [nameF, hx2]
  · rw [List.getElem?_set_ne (fun h => e h.symm), List.getElem?_map]
    cases hz : (files (l.filter (keeps b)))[i]? with
    | none => rfl
    | some f =>
      simp only [Option.map_some]
      congr 1
      unfold nameF
      rw [if_neg]
      intro hf
      unfold files at hz
      rw [List.getElem?_map] at hz
      cases hw : (l.filter (keeps b))[i]? with
      | none => rw [hw] at hz; cases hz
      | some z =>
        rw [hw] at hz
        have hzf : z.f = f := by simpa using hz
        have en : z.f.name = x.f.name := by rw [hzf, sameN_iff.1 hf, (named_iff.1 hn)]
        obtain ⟨hil, hi⟩ := List.getElem?_eq_some_iff.1 hw
        obtain ⟨hjl2, hj2⟩ := List.getElem?_eq_some_iff.1 hx
        have hp := List.pairwise_iff_getElem.1 h3
        rcases Nat.lt_or_gt_of_ne e with hlt | hlt
        · exact hp i j hil hjl2 hlt (by rw [hi, hj2]; exact en)
        · exact hp j i hjl2 hil hlt (by rw [hi, hj2]; exact en.symm)
/-- The file is still there. -/
theorem rename_found {l : List MFile} {a b : ByteArray} (h : sameN a b = false) {k : Nat} (hk : l.findIdx? (named a) = some k) : ∃ j x, (l.filter (keeps b)).findIdx? (named a) = some j ∧ (l.filter (keeps b))[j]? = some x := by
  obtain ⟨x, hx, hn, _⟩ := find_some hk
  have hm : x ∈ l.filter (keeps b) := by
    rw [List.mem_filter]
    refine ⟨List.mem_of_getElem? hx, ?_⟩
    unfold keeps
    cases hb : named b x with
    | false => rfl
    | true => exfalso; exact (sameN_no.1 h) (by rw [← named_iff.1 hn, named_iff.1 hb])
  cases hj : (l.filter (keeps b)).findIdx? (named a) with
  | none => rw [List.findIdx?_eq_none_iff] at hj; exact absurd (hj x hm) (by rw [hn]; simp)
  | some j => obtain ⟨y, hy, _⟩ := find_some hj; exact ⟨j, y, rfl, hy⟩
set_option maxHeartbeats 2000000 in
theorem renameTest (q : Nat) (n : ByteArray) : TestsName 45 q n := by
  refine ⟨fun args w => Tryd.call45 args w, fun x w hq => ?_⟩
  have hqs := World.block_lt_of_cell? w _ hq
  simp only at hqs
  have hne : q ≠ w.heap.size := by omega
  generalize hb : named n x = r
  have hb2 : (x.f.name.toList == n.toList) = r := hb
  clear hb
  go_enter Tryd.func45, Tryd.ntmps45
  go_wp2_with fail
  go_ret
  exact ⟨by rw [← hb2]; rfl, bA (Below.refl _ _) _⟩
set_option maxRecDepth 100000 in
set_option maxHeartbeats 8000000 in
theorem rename_walk (l : List MFile) (a n : ByteArray) (w : World) (A : Option Addr) (c : Nat) (hr : Files w w.heap.size A l) (hn : l.length * 48 ≤ 140737488355328) (hm : Okm l) :
    Calls Tryd.prog 30 #[.agg #[.slice A l.length c], .string a, .string n] w (RetD w (renameF (files l) a n).1 (renameF (files l) a n).2) := by
  have b0 := bA (bA (bA (Below.refl w.heap.size w) (.cells #[.slice A l.length c] 38)) (.cells #[.string n] 9)) (.cells #[.slice none 0 0] 38)
  cases hok : okB l with
  | false =>
    rw [renameF_bad hok]
    have HO := hid (open_bad l _ A c (Files.b hr b0) hn hm.2 hok)
    clear hok
    go_enter Tryd.func30, Tryd.ntmps30
    go_wp2_with fail
    refine HO.out.mono ?_
    rintro e w1 ⟨rfl, b1⟩
    have q : w1.cell? ⟨w.heap.size + 2, 0, none⟩ = some (.slice none 0 0) := keepb b1 (by go_simp)
    have qf : ∀ o, w1.frozen? ⟨w.heap.size + 2, o, none⟩ = false := fun o => by rw [(bcell b1).2 _ _ (by simp)]; go_simp
    go_wp2_with fail
    exact bodyPost_ret (v := .tuple #[.agg #[.slice none 0 0], .int .i64 9]) (by simp [results, Tryd.results30, go_sem, *]) rfl (retD_bad _ _ _ (bS (bT b0 b1) (by show w.heap.size ≤ w.heap.size + 2; omega) _))
  | true =>
    have HO := hid (open_ok l _ A c (Files.b hr b0) hn hm.1 hm.2 hok)
    have hsz0 := toList_nil n
    by_cases hsz : 1 ≤ n.size ∧ n.size ≤ 20
    · have n0 : ¬ (n.toList = []) := fun h => by have := hsz0.1 h; omega
      have n0e : n.toList.isEmpty = false := by simpa using n0
      have n1 : ¬ ((20 : Int) < (n.size : Int)) := by omega
      cases hk : l.findIdx? (named a) with
      | none =>
        rw [renameF_none hok hsz hk]
        clear hsz hsz0
        go_enter Tryd.func30, Tryd.ntmps30
        go_wp2_with fail
        refine HO.out.mono ?_
        rintro e w1 ⟨p, rfl, A1, c1, l1, hf, hln, g0, f0, hp, hps, hown, b1⟩
        have HFN := hid (find_none_walk l1 a w1 A1 c1 p (by rw [hln]; exact g0) (hown.led.1) (by omega) ((at_of hf a).trans hk))
        have q : w1.cell? ⟨w.heap.size + 2, 0, none⟩ = some (.slice none 0 0) := keepb b1 (by go_simp)
        have nm : w1.cell? ⟨w.heap.size + 1, 0, none⟩ = some (.string n) := keepb b1 (by go_simp)
        have qf : ∀ o, w1.frozen? ⟨w.heap.size + 2, o, none⟩ = false := fun o => by rw [(bcell b1).2 _ _ (by simp)]; go_simp
        have qz : w.heap.size + 2 < w1.heap.size := by have := b1.size; simp at this; omega
        clear hok hk g0 hf
        go_wp2_with fail
        refine HFN.out.mono ?_
        rintro e w2 ⟨rfl, b2⟩
        have q := keepb b2 q
        have qf : ∀ o, w2.frozen? ⟨w.heap.size + 2, o, none⟩ = false := fun o => keepf b2 (qf o) qz
        go_wp2_with fail
        exact bodyPost_ret (v := .tuple #[.agg #[.slice none 0 0], .int .i64 7]) (by simp [results, Tryd.results30, go_sem, *]) rfl (retD_bad _ _ _ (bS (bT (bT b0 b1) b2) (by show w.heap.size ≤ w.heap.size + 2; omega) _))
      | some k =>
        rw [renameF_some hok hsz hk]
        clear hsz hsz0
        have HK := hid hk
        have HOK := hid hok
        cases hs : sameN a n with
        | true =>
          have hs2 : (a.toList == n.toList) = true := hs
          have HR := hid (rename_same (files l) a n hs)
          go_enter Tryd.func30, Tryd.ntmps30
          go_wp2_with fail
          refine HO.out.mono ?_
          rintro e w1 ⟨p, rfl, A1, c1, l1, hf, hln, g0, f0, hp, hps, hown, b1⟩
          have HFN := hid (find_some_walk l1 a w1 A1 c1 p k (by rw [hln]; exact g0) (hown.led.1) (by omega) ((at_of hf a).trans hk))
          have q : w1.cell? ⟨w.heap.size + 2, 0, none⟩ = some (.slice none 0 0) := keepb b1 (by go_simp)
          have nm : w1.cell? ⟨w.heap.size + 1, 0, none⟩ = some (.string n) := keepb b1 (by go_simp)
          have qf : ∀ o, w1.frozen? ⟨w.heap.size + 2, o, none⟩ = false := fun o => by rw [(bcell b1).2 _ _ (by simp)]; go_simp
          have qz : w.heap.size + 2 < w1.heap.size := by have := b1.size; simp at this; omega
          have hp2 : w.heap.size + 3 ≤ p := by simpa using hp
          have HF := hid hf
          have HOW := hid hown
          clear hok hk hf hln hs hown
          go_wp2_with fail
          refine HFN.out.mono ?_
          rintro e w2 ⟨⟨b, off, rfl, rfl⟩, b2⟩
          have q := keepb b2 q
          have nm := keepb b2 nm
          have g0 := keepb b2 g0
          have qf : ∀ o, w2.frozen? ⟨w.heap.size + 2, o, none⟩ = false := fun o => keepf b2 (qf o) qz
          have HOW2 := hid (HOW.out.below b2 (Nat.le_refl _))
          go_wp2_with fail
          refine bodyPost_ret (v := .tuple #[.agg #[.slice (some ⟨b, off, none⟩) l.length c1], .int .i64 0]) (by simp [results, Tryd.results30, go_sem, *]) rfl ?_
          rw [HR.out]
          refine ⟨some ⟨b, off, none⟩, c1, l1, by rw [files_length], HF.out, ?_, ?_⟩
          · exact (HOW2.out.store (by show w.heap.size + 2 < p + 1; omega) _).led
          · exact bS (bT (bT b0 b1) b2) (by show w.heap.size ≤ w.heap.size + 2; omega) _
        | false =>
          have hs2 : (a.toList == n.toList) = false := hs
          go_enter Tryd.func30, Tryd.ntmps30
          go_wp2_with fail
          refine HO.out.mono ?_
          rintro e w1 ⟨p, rfl, A1, c1, l1, hf, hln, g0, f0, hp, hps, hown, b1⟩
          have HFN := hid (find_some_walk l1 a w1 A1 c1 p k (by rw [hln]; exact g0) (hown.led.1) (by omega) ((at_of hf a).trans hk))
          have q : w1.cell? ⟨w.heap.size + 2, 0, none⟩ = some (.slice none 0 0) := keepb b1 (by go_simp)
          have nm : w1.cell? ⟨w.heap.size + 1, 0, none⟩ = some (.string n) := keepb b1 (by go_simp)
          have qf : ∀ o, w1.frozen? ⟨w.heap.size + 2, o, none⟩ = false := fun o => by rw [(bcell b1).2 _ _ (by simp)]; go_simp
          have qz : w.heap.size + 2 < w1.heap.size := by have := b1.size; simp at this; omega
          have hp2 : w.heap.size + 3 ≤ p := by simpa using hp
          have HF := hid hf
          have HLN := hid hln
          have hok1 : okB l1 = true := by rw [okB_f, hf]; exact hok
          obtain ⟨j, x, hj, hx⟩ := rename_found (b := n) hs ((at_of hf a).trans hk)
          have HR := hid ((rename_other hs hok1 hj hx).trans (by rw [hf]))
          have HJ := hid hj
          have HX := hid hx
          clear hok hk hf hln hs hj hx hok1
          go_wp2_with fail
          refine HFN.out.mono ?_
          rintro e w2 ⟨⟨b, off, rfl, rfl⟩, b2⟩
          have hown2 := hown.below b2 (Nat.le_refl _)
          have q := keepb b2 q
          have nm := keepb b2 nm
          have g0 := keepb b2 g0
          have f0 := keepf b2 f0 hps
          have qf : ∀ o, w2.frozen? ⟨w.heap.size + 2, o, none⟩ = false := fun o => keepf b2 (qf o) qz
          have hps2 : p < w2.heap.size := Nat.lt_of_lt_of_le hps b2.size
          have HD := hid (delete_walk 45 l1 n w2 (p + 1) (some ⟨b, off, none⟩) c1 (w.heap.size + 1) (renameTest _ n) nm (by omega) (by omega) hown2 (by rw [HLN.out]; omega))
          rw [HLN.out] at HD
          clear hown hown2
          go_wp2_with fail
          refine HD.out.mono ?_
          rintro e w3 ⟨rfl, hown3, b3⟩
          have g0 := (b3.cell (p := ⟨p, 0, none⟩) (by show p < p + 1; omega)).trans g0
          have f0 := (b3.frozen (p := ⟨p, 0, none⟩) (by show p < p + 1; omega)).trans f0
          have q := (b3.cell (p := ⟨w.heap.size + 2, 0, none⟩) (by show w.heap.size + 2 < p + 1; omega)).trans q
          have nm := (b3.cell (p := ⟨w.heap.size + 1, 0, none⟩) (by show w.heap.size + 1 < p + 1; omega)).trans nm
          have qf : ∀ o, w3.frozen? ⟨w.heap.size + 2, o, none⟩ = false := fun o => (b3.frozen (p := ⟨w.heap.size + 2, o, none⟩) (by show w.heap.size + 2 < p + 1; omega)).trans (qf o)
          have hqp : w.heap.size + 2 ≠ p := by omega
          have hmp : w.heap.size + 1 ≠ p := by omega
          have HB := hid ((bT (bT b0 b1) b2).trans (b3.mono (show w.heap.size ≤ p + 1 by omega)))
          obtain ⟨v, hv⟩ : ∃ v : Value, v = .slice (some ⟨b, off, none⟩) (l1.filter (keeps n)).length c1 := ⟨_, rfl⟩
          have hps3 : p < w3.heap.size := by have := b3.size; omega
          have g4 : (w3.setCell ⟨p, 0, none⟩ v).cell? ⟨p, 0, none⟩ = some v := World.cell?_setCell_same _ _ _ g0
          have f4 : (w3.setCell ⟨p, 0, none⟩ v).frozen? ⟨p, 0, none⟩ = false := by simpa using f0
          have q4 : (w3.setCell ⟨p, 0, none⟩ v).cell? ⟨w.heap.size + 2, 0, none⟩ = some (.slice none 0 0) := by go_simp
          have nm4 : (w3.setCell ⟨p, 0, none⟩ v).cell? ⟨w.heap.size + 1, 0, none⟩ = some (.string n) := by go_simp
          have qf4 : ∀ o, (w3.setCell ⟨p, 0, none⟩ v).frozen? ⟨w.heap.size + 2, o, none⟩ = false := fun o => by simpa using qf o
          have hown4 := hown3.store (a := ⟨p, 0, none⟩) (by show p < p + 1; omega) v
          have HB4 := hid (HB.out.setCell (p := ⟨p, 0, none⟩) (by show w.heap.size ≤ p; omega) v)
          have hps4 : p < (w3.setCell ⟨p, 0, none⟩ v).heap.size := by simpa using hps3
          rw [← hv]
          clear q nm qf hown3 HB
          go_wp2_with fail
          clear g0 f0
          subst hv
          generalize w3.setCell ⟨p, 0, none⟩ (.slice (some ⟨b, off, none⟩) (l1.filter (keeps n)).length c1) = W at *
          have hjl := (List.getElem?_eq_some_iff.1 HX.out).1
          obtain rfl : off = 0 := by
            rcases hown4.1.2 with ⟨hv, h0⟩ | ⟨g, cap, cur, hv, _⟩
            · omega
            · injection hv with e1 _ _; injection e1 with e1; injection e1
          have hl2 : (l1.filter (keeps n)).length ≤ 140737488355328 := by have := List.length_filter_le (keeps n) l1; have := HLN.out; omega
          have HFN2 : Hid (∀ wd : World, wd.heap = W.heap → Below w.heap.size w wd → Calls Tryd.prog 43 #[.pointer (some ⟨p, 0, none⟩), .string a] wd fun e w' => e = .returned (.pointer (some ⟨b, j * 3, none⟩)) ∧ w'.cell? ⟨w.heap.size + 1, 0, none⟩ = some (.string n) ∧ w'.cell? ⟨w.heap.size + 2, 0, none⟩ = some (.slice none 0 0) ∧ (∀ o, w'.frozen? ⟨w.heap.size + 2, o, none⟩ = false) ∧ w'.cell? ⟨p, 0, none⟩ = some (.slice (some ⟨b, 0, none⟩) (l1.filter (keeps n)).length c1) ∧ w'.cell? ⟨b, j * 3, none⟩ = some (.string x.f.name) ∧ w'.frozen? ⟨b, j * 3, none⟩ = false ∧ Heaped MFile.cells MFile.parts (w'.setCell ⟨b, j * 3, none⟩ (.string n)) (p + 1) 67 3 (some ⟨b, 0, none⟩) c1 ((l1.filter (keeps n)).set j ⟨x.A, x.c, { x.f with name := n }⟩) ∧ Below w.heap.size w w' ∧ p < b) := by
            refine hid fun wd hwd hB => ?_
            have hc : ∀ ad : Addr, wd.cell? ad = W.cell? ad := fun ad => World.cell?_of_block (w := W) (by rw [hwd])
            have hfz : ∀ ad : Addr, wd.frozen? ad = W.frozen? ad := fun ad => World.frozen?_of_block (w := W) (by rw [hwd])
            have hownd := hown4.sameHeap hwd
            refine (find_some_walk (l1.filter (keeps n)) a wd (some ⟨b, 0, none⟩) c1 p j ((hc _).trans g4) hownd.led.1 hl2 HJ.out).mono ?_
            rintro e w' ⟨⟨b', off', hb', rfl⟩, b5⟩
            injection hb' with hb'
            injection hb' with h1 h2
            subst h1 h2
            have hown5 := hownd.below b5 (Nat.le_refl _)
            obtain ⟨g, hga, hgb, hgs, hgc, hgf, hset⟩ := heap_set (cells := MFile.cells) (sz := 3) (y := ⟨x.A, x.c, { x.f with name := n }⟩) (j := 0) (v := .string n) (fun _ => rfl) hown5 HX.out (by decide) (by simp [MFile.cells]) (fun pt hpt => hown5.2 x (List.mem_of_getElem? HX.out) pt hpt)
            injection hga with hga
            injection hga with hga
            subst hga
            have hps5 : p < wd.heap.size := by rw [hwd]; exact hps4
            refine ⟨by rw [Nat.zero_add], keepb b5 ((hc _).trans nm4), keepb b5 ((hc _).trans q4), fun o => keepf b5 ((hfz _).trans (qf4 o)) (by show w.heap.size + 2 < wd.heap.size; omega), keepb b5 ((hc _).trans g4), hgc 0 _ rfl, hgf _, hset, bT hB b5, by omega⟩
          clear g4 f4 q4 qf4 hown4
          go_region_with ((go_at_call 43; refine (HFN2.out W.drew rfl HB4.out.drew).mono ?_; rintro e w5 ⟨rfl, n5, q5, qf5, g5, x5, xf5, H5, B5, hpb⟩))
          all_goals
            have hbp : b ≠ p := by omega
            have hbq : w.heap.size + 2 ≠ b := by omega
            have HH := hid H5
            have HB5 := hid B5
            clear H5 B5
            go_wp2_with fail
            refine bodyPost_ret (v := .tuple #[.agg #[.slice (some ⟨b, 0, none⟩) (l1.filter (keeps n)).length c1], .int .i64 0]) (by simp [results, Tryd.results30, go_sem, *]) rfl ?_
            rw [← HR.out]
            refine ⟨some ⟨b, 0, none⟩, c1, _, by rw [files_length, List.length_set], rfl, ?_, ?_⟩
            · exact (HH.out.store (a := ⟨w.heap.size + 2, 0, none⟩) (by show w.heap.size + 2 < p + 1; omega) _).led
            · exact bS (bS HB5.out (by show w.heap.size ≤ b; omega) _) (by show w.heap.size ≤ w.heap.size + 2; omega) _
    · rw [renameF_size hok hsz]
      by_cases hz : n.size = 0
      · have n0 : n.toList = [] := hsz0.2 hz
        have n0e : n.toList.isEmpty = true := by simp [n0]
        clear hsz hsz0 hok
        go_enter Tryd.func30, Tryd.ntmps30
        go_wp2_with fail
        refine HO.out.mono ?_
        rintro e w1 ⟨p, rfl, A1, c1, l1, hf, hln, g0, f0, hp, hps, hown, b1⟩
        have q : w1.cell? ⟨w.heap.size + 2, 0, none⟩ = some (.slice none 0 0) := keepb b1 (by go_simp)
        have nm : w1.cell? ⟨w.heap.size + 1, 0, none⟩ = some (.string n) := keepb b1 (by go_simp)
        have qf : ∀ o, w1.frozen? ⟨w.heap.size + 2, o, none⟩ = false := fun o => by rw [(bcell b1).2 _ _ (by simp)]; go_simp
        clear hf hln hown g0
        go_wp2_with fail
        exact bodyPost_ret (v := .tuple #[.agg #[.slice none 0 0], .int .i64 1]) (by simp [results, Tryd.results30, go_sem, *]) rfl (retD_bad _ _ _ (bS (bT b0 b1) (by show w.heap.size ≤ w.heap.size + 2; omega) _))
      · have n0 : ¬ (n.toList = []) := fun h => hz (hsz0.1 h)
        have n0e : n.toList.isEmpty = false := by simpa using n0
        have n1 : (20 : Int) < (n.size : Int) := by omega
        clear hsz hsz0 hok hz
        go_enter Tryd.func30, Tryd.ntmps30
        go_wp2_with fail
        refine HO.out.mono ?_
        rintro e w1 ⟨p, rfl, A1, c1, l1, hf, hln, g0, f0, hp, hps, hown, b1⟩
        have q : w1.cell? ⟨w.heap.size + 2, 0, none⟩ = some (.slice none 0 0) := keepb b1 (by go_simp)
        have nm : w1.cell? ⟨w.heap.size + 1, 0, none⟩ = some (.string n) := keepb b1 (by go_simp)
        have qf : ∀ o, w1.frozen? ⟨w.heap.size + 2, o, none⟩ = false := fun o => by rw [(bcell b1).2 _ _ (by simp)]; go_simp
        clear hf hln hown g0
        go_wp2_with fail
        exact bodyPost_ret (v := .tuple #[.agg #[.slice none 0 0], .int .i64 1]) (by simp [results, Tryd.results30, go_sem, *]) rfl (retD_bad _ _ _ (bS (bT b0 b1) (by show w.heap.size ≤ w.heap.size + 2; omega) _))
end Go.Proofs.YtafnbackjjaelaaDoor
