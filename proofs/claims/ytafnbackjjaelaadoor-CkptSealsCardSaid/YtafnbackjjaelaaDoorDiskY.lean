/- disk.Sync, the document's SyncedTo; the statement. -/
import Derived.Test.YtafnbackjjaelaaDoorDiskR
import Derived.Test.YtafnbackjjaelaaDoorLibH
namespace Go.Proofs.YtafnbackjjaelaaDoor
open Go.ChangeShapes Go.WideShapes Go.ChangeAt Go.RowKit
set_option linter.unusedVariables false
/-- A disk and an error number come back. -/
def RetD (w : World) (fs : List File) (err : Int) (e : Ending) (w' : World) : Prop :=
  ∃ A c l', e = .returned (.tuple #[.agg #[.slice A fs.length c], .int .i64 err]) ∧ files l' = fs ∧ Files w' w'.heap.size A l' ∧ Below w.heap.size w w'
def syncd (f : File) : File := { f with synced := f.data.length }
noncomputable def syncF (fs : List File) (n : ByteArray) : List File × Int :=
  if okF fs = false then ([], 9) else match fileAt fs n with | none => ([], 7) | some i => (match fs[i]? with | some f => (fs.set i (syncd f), 0) | none => ([], 7))
theorem syncF_bad {l : List MFile} {n : ByteArray} (h : okB l = false) : syncF (files l) n = ([], 9) := by unfold syncF; rw [if_pos (by rw [← okB_f]; exact h)]
theorem syncF_none {l : List MFile} {n : ByteArray} (h : okB l = true) (hk : l.findIdx? (named n) = none) : syncF (files l) n = ([], 7) := by
  unfold syncF; rw [if_neg (by rw [← okB_f, h]; simp), fileAt_m, hk]
theorem syncF_some {l : List MFile} {n : ByteArray} {k : Nat} {x : MFile} (h : okB l = true) (hk : l.findIdx? (named n) = some k) (hx : l[k]? = some x) : syncF (files l) n = ((files l).set k (syncd x.f), 0) := by
  unfold syncF; rw [if_neg (by rw [← okB_f, h]; simp), fileAt_m, hk]
  have : (files l)[k]? = some x.f := by unfold files; rw [List.getElem?_map, hx]; rfl
  simp only [this]
theorem retD_bad (w w' : World) (err : Int) (b : Below w.heap.size w w') : RetD w [] err (.returned (.tuple #[.agg #[.slice none 0 0], .int .i64 err])) w' := ⟨none, 0, [], rfl, rfl, Led.nil, b⟩
theorem files_set (l : List MFile) (k : Nat) (y : MFile) : files (l.set k y) = (files l).set k y.f := by unfold files; rw [List.map_set]
theorem files_length (l : List MFile) : (files l).length = l.length := by simp [files]
set_option maxRecDepth 100000 in
set_option maxHeartbeats 4000000 in
theorem sync_walk (l : List MFile) (n : ByteArray) (w : World) (A : Option Addr) (c : Nat) (hr : Files w w.heap.size A l) (hn : l.length * 48 ≤ 140737488355328) (hm : Okm l) :
    Calls Tryd.prog 29 #[.agg #[.slice A l.length c], .string n] w (RetD w (syncF (files l) n).1 (syncF (files l) n).2) := by
  have b0 := bA (bA (Below.refl w.heap.size w) (.cells #[.slice A l.length c] 38)) (.cells #[.slice none 0 0] 38)
  cases hok : okB l with
  | false =>
    rw [syncF_bad hok]
    have HO := hid (open_bad l _ A c (Files.b hr b0) hn hm.2 hok)
    clear hok
    go_enter Tryd.func29, Tryd.ntmps29
    go_wp2_with fail
    refine HO.out.mono ?_
    rintro e w1 ⟨rfl, b1⟩
    have q : w1.cell? ⟨w.heap.size + 1, 0, none⟩ = some (.slice none 0 0) := keepb b1 (by go_simp)
    have qf : ∀ o, w1.frozen? ⟨w.heap.size + 1, o, none⟩ = false := fun o => by rw [(bcell b1).2 _ _ (by simp)]; go_simp
    go_wp2_with fail
    exact bodyPost_ret (v := .tuple #[.agg #[.slice none 0 0], .int .i64 9]) (by simp [results, Tryd.results29, go_sem, *]) rfl (retD_bad _ _ _ (bS (bT b0 b1) (by show w.heap.size ≤ w.heap.size + 1; omega) _))
  | true =>
    have HO := hid (open_ok l _ A c (Files.b hr b0) hn hm.1 hm.2 hok)
    cases hk : l.findIdx? (named n) with
    | none =>
      rw [syncF_none hok hk]
      go_enter Tryd.func29, Tryd.ntmps29
      go_wp2_with fail
      refine HO.out.mono ?_
      rintro e w1 ⟨p, rfl, A1, c1, l1, hf, hln, g0, f0, hp, hps, hown, b1⟩
      have HFN := hid (find_none_walk l1 n w1 A1 c1 p (by rw [hln]; exact g0) (hown.led.1) (by omega) ((at_of hf n).trans hk))
      have q : w1.cell? ⟨w.heap.size + 1, 0, none⟩ = some (.slice none 0 0) := keepb b1 (by go_simp)
      have qf : ∀ o, w1.frozen? ⟨w.heap.size + 1, o, none⟩ = false := fun o => by rw [(bcell b1).2 _ _ (by simp)]; go_simp
      have qz : w.heap.size + 1 < w1.heap.size := by have := b1.size; simp at this; omega
      clear hok hk g0 hf
      go_wp2_with fail
      refine HFN.out.mono ?_
      rintro e w2 ⟨rfl, b2⟩
      have q := keepb b2 q
      have qf : ∀ o, w2.frozen? ⟨w.heap.size + 1, o, none⟩ = false := fun o => keepf b2 (qf o) qz
      go_wp2_with fail
      exact bodyPost_ret (v := .tuple #[.agg #[.slice none 0 0], .int .i64 7]) (by simp [results, Tryd.results29, go_sem, *]) rfl (retD_bad _ _ _ (bS (bT (bT b0 b1) b2) (by show w.heap.size ≤ w.heap.size + 1; omega) _))
    | some k =>
      obtain ⟨x, hx, _, _⟩ := find_some hk
      rw [syncF_some hok hk hx]
      go_enter Tryd.func29, Tryd.ntmps29
      go_wp2_with fail
      refine HO.out.mono ?_
      rintro e w1 ⟨p, rfl, A1, c1, l1, hf, hln, g0, f0, hp, hps, hown, b1⟩
      have HFN := hid (find_some_walk l1 n w1 A1 c1 p k (by rw [hln]; exact g0) (hown.led.1) (by omega) ((at_of hf n).trans hk))
      have q : w1.cell? ⟨w.heap.size + 1, 0, none⟩ = some (.slice none 0 0) := keepb b1 (by go_simp)
      have qf : ∀ o, w1.frozen? ⟨w.heap.size + 1, o, none⟩ = false := fun o => by rw [(bcell b1).2 _ _ (by simp)]; go_simp
      have qz : w.heap.size + 1 < w1.heap.size := by have := b1.size; simp at this; omega
      obtain ⟨x', hx', hxx⟩ := files_get hf hx
      have hp2 : w.heap.size + 2 ≤ p := by simpa using hp
      have HX := hid hx'
      have HXX := hid hxx
      have HF := hid hf
      have HLN := hid hln
      clear hok hk hx hx' hxx hf hln
      go_wp2_with fail
      refine HFN.out.mono ?_
      rintro e w2 ⟨⟨b, off, rfl, rfl⟩, b2⟩
      have hown2 := hown.below b2 (Nat.le_refl _)
      have hpk : ∀ pt ∈ MFile.parts ⟨x'.A, x'.c, syncd x'.f⟩, pt.ok w2 (p + 1) (Value.slice (some ⟨b, off, none⟩) l1.length c1).ownBlock := fun pt hpt => hown2.2 x' (List.mem_of_getElem? HX.out) pt hpt
      obtain ⟨g, hga, hgb, hgs, hgc, hgf, hset⟩ := heap_set (cells := MFile.cells) (sz := 3) (y := ⟨x'.A, x'.c, syncd x'.f⟩) (j := 2) (v := .int .i64 x'.f.data.length) (fun _ => rfl) hown2 HX.out (by decide) (by simp [MFile.cells, syncd]) hpk
      injection hga with hga
      injection hga with ha1 ha2
      subst ha1 ha2
      have d1 := hgc 1 _ rfl
      have d2 := hgc 2 _ rfl
      have df := hgf (k * 3 + 2)
      have q := keepb b2 q
      have qf : ∀ o, w2.frozen? ⟨w.heap.size + 1, o, none⟩ = false := fun o => keepf b2 (qf o) qz
      have g0 := keepb b2 g0
      have HSET := hid hset
      have hpg : p ≠ b := by omega
      have hqg : w.heap.size + 1 ≠ b := by omega
      have hqp : w.heap.size + 1 ≠ p := by omega
      clear hset hgc hgf hown hown2 hpk
      simp only [Nat.zero_add] at *
      go_wp2_with fail
      refine bodyPost_ret (v := .tuple #[.agg #[.slice (some ⟨b, 0, none⟩) l.length c1], .int .i64 0]) (by simp [results, Tryd.results29, go_sem, *]) rfl ?_
      refine ⟨some ⟨b, 0, none⟩, c1, l1.set k ⟨x'.A, x'.c, syncd x'.f⟩, by rw [List.length_set, files_length], by rw [files_set, HF.out, HXX.out], ?_, ?_⟩
      · exact (HSET.out.store (by show w.heap.size + 1 < p + 1; omega) _).led
      · exact bS (bS (bT (bT b0 b1) b2) (by show w.heap.size ≤ b; omega) _) (by show w.heap.size ≤ w.heap.size + 1; omega) _
set_option maxRecDepth 100000 in
set_option maxHeartbeats 4000000 in
theorem syncedTo_walk (l : List MFile) (n : ByteArray) (w : World) (A : Option Addr) (c : Nat) (hr : Files w w.heap.size A l) (hn : l.length * 48 ≤ 140737488355328) (hm : Okm l) :
    Calls Tryd.prog 33 #[.agg #[.slice A l.length c], .string n] w (RetD w (syncF (files l) n).1 (syncF (files l) n).2) := by
  have b0 := bA (bA (Below.refl w.heap.size w) (.cells #[.slice A l.length c] 38)) (.cells #[.slice none 0 0] 38)
  have HM := hid (DiskMay_walk l _ A c (rdb hr.1 (by decide) b0) (by omega))
  cases hok : okB l with
  | false =>
    rw [syncF_bad hok]
    rw [hok] at HM
    clear hok
    go_enter Tryd.func33, Tryd.ntmps33
    go_wp2_with fail
    refine HM.out.mono ?_
    rintro e w1 ⟨rfl, b1⟩
    have q : w1.cell? ⟨w.heap.size + 1, 0, none⟩ = some (.slice none 0 0) := keepb b1 (by go_simp)
    have qf : ∀ o, w1.frozen? ⟨w.heap.size + 1, o, none⟩ = false := fun o => by rw [(bcell b1).2 _ _ (by simp)]; go_simp
    go_wp2_with fail
    exact bodyPost_ret (v := .tuple #[.agg #[.slice none 0 0], .int .i64 9]) (by simp [results, Tryd.results33, go_sem, *]) rfl (retD_bad _ _ _ (bS (bT b0 b1) (by show w.heap.size ≤ w.heap.size + 1; omega) _))
  | true =>
    rw [hok] at HM
    cases hk : l.findIdx? (named n) with
    | none =>
      rw [syncF_none hok hk]
      go_enter Tryd.func33, Tryd.ntmps33
      go_wp2_with fail
      refine HM.out.mono ?_
      rintro e w1 ⟨rfl, b1⟩
      have b01 := bT b0 b1
      have g0 : w1.cell? ⟨w.heap.size, 0, none⟩ = some (.slice A l.length c) := keepb b1 (by go_simp)
      have q : w1.cell? ⟨w.heap.size + 1, 0, none⟩ = some (.slice none 0 0) := keepb b1 (by go_simp)
      have qf : ∀ o, w1.frozen? ⟨w.heap.size + 1, o, none⟩ = false := fun o => by rw [(bcell b1).2 _ _ (by simp)]; go_simp
      have qz : w.heap.size + 1 < w1.heap.size := by have := b1.size; simp at this; omega
      have HA := hid (FileAt_walk l n w1 A c (rdb hr.1 (by decide) b01) (by omega))
      rw [hk] at HA
      have hat : (atI none : Int) = -1 := rfl
      rw [hat] at HA
      clear hok hk hat
      go_wp2_with fail
      refine HA.out.mono ?_
      rintro e w2 ⟨rfl, b2⟩
      have q := keepb b2 q
      have qf : ∀ o, w2.frozen? ⟨w.heap.size + 1, o, none⟩ = false := fun o => keepf b2 (qf o) qz
      go_wp2_with fail
      exact bodyPost_ret (v := .tuple #[.agg #[.slice none 0 0], .int .i64 7]) (by simp [results, Tryd.results33, go_sem, *]) rfl (retD_bad _ _ _ (bS (bT b01 b2) (by show w.heap.size ≤ w.heap.size + 1; omega) _))
    | some k =>
      obtain ⟨x, hx, _, _⟩ := find_some hk
      rw [syncF_some hok hk hx]
      have hkl := (List.getElem?_eq_some_iff.1 hx).1
      go_enter Tryd.func33, Tryd.ntmps33
      go_wp2_with fail
      refine HM.out.mono ?_
      rintro e w1 ⟨rfl, b1⟩
      have b01 := bT b0 b1
      have g0 : w1.cell? ⟨w.heap.size, 0, none⟩ = some (.slice A l.length c) := keepb b1 (by go_simp)
      have q : w1.cell? ⟨w.heap.size + 1, 0, none⟩ = some (.slice none 0 0) := keepb b1 (by go_simp)
      have qf : ∀ o, w1.frozen? ⟨w.heap.size + 1, o, none⟩ = false := fun o => by rw [(bcell b1).2 _ _ (by simp)]; go_simp
      have qz : w.heap.size + 1 < w1.heap.size := by have := b1.size; simp at this; omega
      have HA := hid (FileAt_walk l n w1 A c (rdb hr.1 (by decide) b01) (by omega))
      rw [hk] at HA
      have hat : (atI (some k) : Int) = (k : Int) := rfl
      rw [hat] at HA
      have HX := hid hx
      have hkz : (k : Int) < (l.length : Int) := by omega
      clear hok hk hat hx
      go_wp2_with fail
      refine HA.out.mono ?_
      rintro e w2 ⟨rfl, b2⟩
      have b02 := bT b01 b2
      have g0 := keepb b2 g0
      have q := keepb b2 q
      have qf : ∀ o, w2.frozen? ⟨w.heap.size + 1, o, none⟩ = false := fun o => keepf b2 (qf o) qz
      have qz : w.heap.size + 1 < w2.heap.size := Nat.lt_of_lt_of_le qz b2.size
      have HC := hid (DiskCopy_walk l w2 A c (Files.b hr b02) hn hm.1)
      go_wp2_with fail
      refine HC.out.mono ?_
      rintro e w3 ⟨A1, c1, l1, rfl, hf, hln, hown, b3⟩
      have b03 := bT b02 b3
      have g0 := keepb b3 g0
      have q := keepb b3 q
      have qf : ∀ o, w3.frozen? ⟨w.heap.size + 1, o, none⟩ = false := fun o => keepf b3 (qf o) qz
      have qz3 : w.heap.size + 1 < w3.heap.size := Nat.lt_of_lt_of_le qz b3.size
      obtain ⟨x', hx', hxx⟩ := files_get hf HX.out
      obtain ⟨b, off, rfl, hb, d0, d1, d2⟩ := file_cells (hr.1.below b03) rfl HX.out
      have hpk : ∀ pt ∈ MFile.parts ⟨x'.A, x'.c, syncd x'.f⟩, pt.ok w3 w2.heap.size (Value.slice A1 l1.length c1).ownBlock := fun pt hpt => hown.2 x' (List.mem_of_getElem? hx') pt hpt
      obtain ⟨g, rfl, hgb, hgs, hgc, hgf, hset⟩ := heap_set (cells := MFile.cells) (sz := 3) (y := ⟨x'.A, x'.c, syncd x'.f⟩) (j := 2) (v := .int .i64 x'.f.data.length) (fun _ => rfl) hown hx' (by decide) (by simp [MFile.cells, syncd]) hpk
      have e2 := hgc 2 _ rfl
      have ef := hgf (k * 3 + 2)
      have hgs3 : g < w3.heap.size := by
        have := (hown.1.lt g rfl).2
        exact this
      rw [hxx] at hset
      have hbw : b < w3.heap.size := by have := b03.size; omega
      have HSET := hid hset
      have HXX := hid hxx
      have HF := hid hf
      have HLN := hid hln
      have hqg : w.heap.size + 1 ≠ g := by omega
      have hgw : w.heap.size < w3.heap.size := by omega
      have hgne : g ≠ w3.heap.size := by omega
      clear hset hgc hgf hown hpk hx' hxx hf hln
      go_wp2_with fail
      go_region
      all_goals
        go_wp2_with fail
        refine bodyPost_ret (v := .tuple #[.agg #[.slice (some ⟨g, 0, none⟩) l.length c1], .int .i64 0]) (by simp [results, Tryd.results33, go_sem, *]) rfl ?_
        refine ⟨some ⟨g, 0, none⟩, c1, l1.set k ⟨x'.A, x'.c, syncd x.f⟩, by rw [List.length_set, files_length], by rw [files_set, HF.out], ?_, ?_⟩
        · have hh := ((HSET.out.store (a := ⟨w.heap.size + 1, 0, none⟩) qz (.slice (some ⟨g, 0, none⟩) l.length c1)).alloc (.cells #[.slice (some ⟨g, 0, none⟩) l.length c1] 38)).drew.led
          exact hh
        · exact bD (bA (bS (bS b03 (by show w.heap.size ≤ g; omega) _) (by show w.heap.size ≤ w.heap.size + 1; omega) _) _)
theorem syncF_len (fs : List File) (n : ByteArray) : (syncF fs n).1.length ≤ fs.length := by
  unfold syncF
  split
  · simp
  · split
    · simp
    · split
      · simp
      · simp
end Go.Proofs.YtafnbackjjaelaaDoor
