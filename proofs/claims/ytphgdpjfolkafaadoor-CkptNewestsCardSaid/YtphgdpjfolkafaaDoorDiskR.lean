/- disk.Read, the document's ReadFile; the statement. -/
import Derived.Test.YtphgdpjfolkafaaDoorDiskO
import Derived.Test.YtphgdpjfolkafaaDoorDiskN
import Derived.Test.YtphgdpjfolkafaaDoorSameD
namespace Go.Proofs.YtphgdpjfolkafaaDoor
open Go.ChangeShapes Go.WideShapes Go.ChangeAt Go.RowKit
set_option linter.unusedVariables false
set_option linter.unusedSimpArgs false
set_option maxHeartbeats 2000000 in
theorem disks_walk (l : List MFile) (w : World) (A : Option Addr) (c : Nat) (hr : Files w w.heap.size A l) (hn : l.length * 48 ≤ 140737488355328) (hd : ∀ x ∈ l, x.f.data.length ≤ 140737488355328) :
    Calls Tryd.prog 5 #[.agg #[.slice A l.length c]] w fun e w' => ∃ A' c' l', e = .returned (.agg #[.slice A' l.length c']) ∧ files l' = files l ∧ l'.length = l.length ∧ Led MFile.cells MFile.parts w' w'.heap.size 3 A' l' ∧ Below w.heap.size w w' := by
  have b0 := bA (bA (Below.refl w.heap.size w) (.cells #[.slice A l.length c] 24)) (.cells #[.slice none 0 0] 24)
  have HC := hid (DiskCopy_walk l _ A c (Files.b hr b0) hn hd)
  go_enter Tryd.func5, Tryd.ntmps5
  go_wp2_with fail
  refine HC.out.mono ?_
  rintro e w1 ⟨A1, k1, l1, rfl, hf1, hl1, hown, b1⟩
  have q : w1.cell? ⟨w.heap.size + 1, 0, none⟩ = some (.slice none 0 0) := keepb b1 (by go_simp)
  have qf : ∀ o, w1.frozen? ⟨w.heap.size + 1, o, none⟩ = false := fun o => by rw [(bcell b1).2 _ _ (by simp)]; go_simp
  have HF := hid hf1
  have HL := hid hl1
  clear hf1 hl1
  go_wp2_with fail
  refine bodyPost_ret (v := .agg #[.slice A1 l.length k1]) (by simp [results, Tryd.results5, go_sem, *]) rfl ⟨A1, k1, l1, rfl, HF.out, HL.out, (hown.store (by show w.heap.size + 1 < _; simp) _).led, bS (bT b0 b1) (by show w.heap.size ≤ w.heap.size + 1; omega) _⟩
section
open Classical
noncomputable def okF (fs : List File) : Bool := decide (diskOk fs)
end
theorem okB_f (l : List MFile) : okB l = okF (files l) := rfl
/-- Sizes that an argument has. -/
def Okm (l : List MFile) : Prop := (∀ x ∈ l, x.f.data.length ≤ 140737488355328) ∧ (∀ x ∈ l, x.f.name.size ≤ 140737488351232)
theorem okm_of {l l' : List MFile} (h : files l' = files l) (ho : Okm l) : Okm l' := by
  have hm : ∀ x ∈ l', ∃ y ∈ l, y.f = x.f := fun x hx => by
    have h1 : x.f ∈ files l' := List.mem_map.2 ⟨x, hx, rfl⟩
    rw [h] at h1
    obtain ⟨y, hy, he⟩ := List.mem_map.1 h1
    exact ⟨y, hy, he⟩
  refine ⟨fun x hx => ?_, fun x hx => ?_⟩
  · obtain ⟨y, hy, he⟩ := hm x hx; rw [← he]; exact ho.1 y hy
  · obtain ⟨y, hy, he⟩ := hm x hx; rw [← he]; exact ho.2 y hy
theorem okm_wf {w : World} {l : List MFile} (h : ∀ x ∈ l, x.wf w) : Okm l := ⟨fun x hx => by obtain ⟨_, h1, h2, _⟩ := h x hx; omega, fun x hx => (h x hx).2.2.2.2.2⟩
theorem at_of {l l' : List MFile} (h : files l' = files l) (n : ByteArray) : l'.findIdx? (named n) = l.findIdx? (named n) := by rw [← fileAt_m, h, fileAt_m]
noncomputable def readF (fs : List File) (n : ByteArray) : List Int × Int :=
  if okF fs = false then ([], 9) else match fileAt fs n with | none => ([], 7) | some i => ((fs[i]?.map (·.data)).getD [], 0)
theorem readF_bad {l : List MFile} {n : ByteArray} (h : okB l = false) : readF (files l) n = ([], 9) := by unfold readF; rw [if_pos (by rw [← okB_f]; exact h)]
theorem readF_none {l : List MFile} {n : ByteArray} (h : okB l = true) (hk : l.findIdx? (named n) = none) : readF (files l) n = ([], 7) := by
  unfold readF; rw [if_neg (by rw [← okB_f, h]; simp), fileAt_m, hk]
theorem readF_some {l : List MFile} {n : ByteArray} {k : Nat} {x : MFile} (h : okB l = true) (hk : l.findIdx? (named n) = some k) (hx : l[k]? = some x) : readF (files l) n = (x.f.data, 0) := by
  unfold readF; rw [if_neg (by rw [← okB_f, h]; simp), fileAt_m, hk]
  unfold files; simp [hx]
/-- Bytes and an error number come back. -/
def RetR (w : World) (l : List Int) (err : Int) (e : Ending) (w' : World) : Prop :=
  ∃ A c, e = .returned (.tuple #[.slice A l.length c, .int .i64 err]) ∧ l.length ≤ c ∧ Rd w' w'.heap.size A 1 l.length (l.flatMap u8c) ∧ Below w.heap.size w w'
set_option maxHeartbeats 2000000 in
theorem read_walk (l : List MFile) (n : ByteArray) (w : World) (A : Option Addr) (c : Nat) (hr : Files w w.heap.size A l) (hn : l.length * 48 ≤ 140737488355328) (hm : Okm l) :
    Calls Tryd.prog 13 #[.agg #[.slice A l.length c], .string n] w (RetR w (readF (files l) n).1 (readF (files l) n).2) := by
  have b0 := bA (Below.refl w.heap.size w) (.cells #[.slice A l.length c] 24)
  cases hok : okB l with
  | false =>
    rw [readF_bad hok]
    have HO := hid (open_bad l _ A c (Files.b hr b0) hn hm.2 hok)
    clear hok
    go_enter Tryd.func13, Tryd.ntmps13
    go_wp2_with fail
    refine HO.out.mono ?_
    rintro e w1 ⟨rfl, b1⟩
    go_wp2_with fail
    go_ret2
    exact ⟨none, 0, rfl, Nat.le_refl _, Rd.nil_, bT b0 b1⟩
  | true =>
    have HO := hid (open_cap l _ A c (Files.b hr b0) hn hm.1 hm.2 hok)
    cases hk : l.findIdx? (named n) with
    | none =>
      rw [readF_none hok hk]
      go_enter Tryd.func13, Tryd.ntmps13
      go_wp2_with fail
      refine HO.out.mono ?_
      rintro e w1 ⟨p, rfl, A1, c1, l1, hf, hln, g0, f0, hp, hps, hown, b1, hcap⟩
      have HFN := hid (find_none_walk l1 n w1 A1 c1 p (by rw [hln]; exact g0) (hown.led.1) (by omega) ((at_of hf n).trans hk))
      clear hok hk g0
      go_wp2_with fail
      refine HFN.out.mono ?_
      rintro e w2 ⟨rfl, b2⟩
      go_wp2_with fail
      go_ret2
      exact ⟨none, 0, rfl, Nat.le_refl _, Rd.nil_, bT (bT b0 b1) b2⟩
    | some k =>
      obtain ⟨x, hx, _, _⟩ := find_some hk
      rw [readF_some hok hk hx]
      go_enter Tryd.func13, Tryd.ntmps13
      go_wp2_with fail
      refine HO.out.mono ?_
      rintro e w1 ⟨p, rfl, A1, c1, l1, hf, hln, g0, f0, hp, hps, hown, b1, hcap⟩
      have HFN := hid (find_some_walk l1 n w1 A1 c1 p k (by rw [hln]; exact g0) (hown.led.1) (by omega) ((at_of hf n).trans hk))
      obtain ⟨x', hx', hxx⟩ := files_get hf hx
      have hled := hown.led
      have hdx := Files.data hled (List.mem_of_getElem? hx')
      have HX := hid hx'
      have HXX := hid hxx
      have HCAP : Hid (x.f.data.length ≤ x'.c) := hid (by rw [← hxx]; exact hcap x' (List.mem_of_getElem? hx'))
      clear hok hk g0 hx hx' hxx
      go_wp2_with fail
      refine HFN.out.mono ?_
      rintro e w2 ⟨⟨b, off, rfl, rfl⟩, b2⟩
      obtain ⟨b', off', he, hb, d0, d1, d2⟩ := file_cells (hled.1.below b2) rfl HX.out
      injection he with he
      injection he with he1 he2
      subst he1 he2
      have hd2 := rdb hdx (by decide) b2
      rw [HXX.out] at d1 hd2
      go_wp2_with fail
      go_ret2
      exact ⟨x'.A, x'.c, rfl, HCAP.out, hd2, bT (bT b0 b1) b2⟩
set_option maxHeartbeats 2000000 in
theorem readFile_walk (l : List MFile) (n : ByteArray) (w : World) (A : Option Addr) (c : Nat) (hr : Files w w.heap.size A l) (hn : l.length * 48 ≤ 140737488355328) (hm : Okm l) :
    Calls Tryd.prog 17 #[.agg #[.slice A l.length c], .string n] w (RetR w (readF (files l) n).1 (readF (files l) n).2) := by
  have b0 := bA (Below.refl w.heap.size w) (.cells #[.slice A l.length c] 24)
  have HM := hid (DiskMay_walk l _ A c (rdb hr.1 (by decide) b0) (by omega))
  cases hok : okB l with
  | false =>
    rw [readF_bad hok]
    rw [hok] at HM
    clear hok
    go_enter Tryd.func17, Tryd.ntmps17
    go_wp2_with fail
    refine HM.out.mono ?_
    rintro e w1 ⟨rfl, b1⟩
    go_wp2_with fail
    go_ret2
    exact ⟨none, 0, rfl, Nat.le_refl _, Rd.nil_, bT b0 b1⟩
  | true =>
    rw [hok] at HM
    cases hk : l.findIdx? (named n) with
    | none =>
      rw [readF_none hok hk]
      go_enter Tryd.func17, Tryd.ntmps17
      go_wp2_with fail
      refine HM.out.mono ?_
      rintro e w1 ⟨rfl, b1⟩
      have b01 := bT b0 b1
      have g0 : w1.cell? ⟨w.heap.size, 0, none⟩ = some (.slice A l.length c) := keepb b1 (by go_simp)
      have HA := hid (FileAt_walk l n w1 A c (rdb hr.1 (by decide) b01) (by omega))
      rw [hk] at HA
      have hat : (atI none : Int) = -1 := rfl
      rw [hat] at HA
      clear hok hk hat
      go_wp2_with fail
      refine HA.out.mono ?_
      rintro e w2 ⟨rfl, b2⟩
      go_wp2_with fail
      go_ret2
      exact ⟨none, 0, rfl, Nat.le_refl _, Rd.nil_, bT b01 b2⟩
    | some k =>
      obtain ⟨x, hx, _, _⟩ := find_some hk
      rw [readF_some hok hk hx]
      have hkl := (List.getElem?_eq_some_iff.1 hx).1
      go_enter Tryd.func17, Tryd.ntmps17
      go_wp2_with fail
      refine HM.out.mono ?_
      rintro e w1 ⟨rfl, b1⟩
      have b01 := bT b0 b1
      have g0 : w1.cell? ⟨w.heap.size, 0, none⟩ = some (.slice A l.length c) := keepb b1 (by go_simp)
      have HA := hid (FileAt_walk l n w1 A c (rdb hr.1 (by decide) b01) (by omega))
      rw [hk] at HA
      have hat : (atI (some k) : Int) = (k : Int) := rfl
      rw [hat] at HA
      have HX := hid hx
      have hxm := List.mem_of_getElem? hx
      have hkz : (k : Int) < (l.length : Int) := by omega
      clear hok hk hat hx
      go_wp2_with fail
      refine HA.out.mono ?_
      rintro e w2 ⟨rfl, b2⟩
      have b02 := bT b01 b2
      have g0' := keepb b2 g0
      obtain ⟨b, off, rfl, hb, d0, d1, d2⟩ := file_cells (hr.1.below b02) rfl HX.out
      have HB := hid (Bytes_walk x.f.data w2 x.A x.c (rdb (Files.data hr hxm) (by decide) b02) (hm.1 x hxm))
      go_wp2_with fail
      refine HB.out.mono ?_
      rintro e w3 ⟨A3, c3, rfl, o3, b3⟩
      go_wp2_with fail
      go_ret2
      exact ⟨A3, c3, rfl, own_cap o3, rd_own o3, bT b02 b3⟩
end Go.Proofs.YtphgdpjfolkafaaDoor
