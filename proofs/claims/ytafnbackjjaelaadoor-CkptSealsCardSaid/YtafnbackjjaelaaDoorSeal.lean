/- ckpt.Seal, the document's Sealed. -/
import Derived.Test.YtafnbackjjaelaaDoorSlot
namespace Go.Proofs.YtafnbackjjaelaaDoor
open Go.ChangeShapes Go.WideShapes Go.ChangeAt Go.RowKit
set_option linter.unusedVariables false
noncomputable def sealF (fs : List File) (n : Int) : List File × Int :=
  if n < 0 ∨ 1 < n then ([], 2) else if (syncF fs nextB).2 ≠ 0 then ([], (syncF fs nextB).2) else renameF (syncF fs nextB).1 nextB (slotB n)
theorem sealF_out (fs : List File) {n : Int} (h : n < 0 ∨ 1 < n) : sealF fs n = ([], 2) := by unfold sealF; rw [if_pos h]
theorem sealF_bad (fs : List File) {n : Int} (h : ¬ (n < 0 ∨ 1 < n)) (he : (syncF fs nextB).2 ≠ 0) : sealF fs n = ([], (syncF fs nextB).2) := by unfold sealF; rw [if_neg h, if_pos he]
theorem sealF_ok (fs : List File) {n : Int} (h : ¬ (n < 0 ∨ 1 < n)) (he : ¬ (syncF fs nextB).2 ≠ 0) : sealF fs n = renameF (syncF fs nextB).1 nextB (slotB n) := by unfold sealF; rw [if_neg h, if_neg he]
theorem syncF_leng (fs : List File) (n : ByteArray) : (syncF fs n).1.length ≤ fs.length := by
  unfold syncF; split
  · simp
  · split
    · simp
    · split <;> simp
theorem sealF_len (fs : List File) (n : Int) : (sealF fs n).1.length ≤ fs.length := by
  unfold sealF; split
  · simp
  · split
    · simp
    · exact Nat.le_trans (renameF_len _ _ _) (syncF_leng _ _)
/-- Sizes stay. -/
def FitF (fs : List File) : Prop := ∀ f ∈ fs, f.data.length ≤ 140737488355328 ∧ f.name.size ≤ 140737488351232
theorem fitF_of {l : List MFile} (h : Okm l) : FitF (files l) := fun f hf => by
  obtain ⟨x, hx, rfl⟩ := List.mem_map.1 hf
  exact ⟨h.1 x hx, h.2 x hx⟩
theorem okm_fit {l : List MFile} (h : FitF (files l)) : Okm l := ⟨fun x hx => (h x.f (List.mem_map.2 ⟨x, hx, rfl⟩)).1, fun x hx => (h x.f (List.mem_map.2 ⟨x, hx, rfl⟩)).2⟩
theorem syncF_fit {fs : List File} (h : FitF fs) (n : ByteArray) : FitF (syncF fs n).1 := by
  have h0 : FitF [] := fun f hf => by cases hf
  unfold syncF
  split
  · exact h0
  · split
    · exact h0
    · split
      · next f hf =>
        intro g hg
        rcases List.mem_or_eq_of_mem_set hg with hg | rfl
        · exact h g hg
        · exact h f (List.mem_of_getElem? hf)
      · exact h0
/-- A row stays as it is where a block's first cell is stored that is none of its own. -/
theorem Rd.setFirst {w : World} {B b sz n : Nat} {A : Option Addr} {xs : List Value} {v0 : Value} (h : Rd w B A sz n xs) (hp : w.cell? ⟨b, 0, none⟩ = some v0) (hne : ∀ u, xs[0]? = some u → u ≠ v0) (v : Value) : Rd (w.setCell ⟨b, 0, none⟩ v) B A sz n xs :=
  ⟨h.1, fun hn => by
    obtain ⟨b', off, e, hb, hc⟩ := h.2 hn
    refine ⟨b', off, e, hb, fun j u hu => ?_⟩
    by_cases he : b' = b ∧ off + j = 0
    · obtain ⟨rfl, h0⟩ := he
      obtain ⟨rfl, rfl⟩ : off = 0 ∧ j = 0 := by omega
      have := hc 0 u hu
      rw [Nat.add_zero] at this
      rw [this] at hp
      injection hp with hp
      exact absurd hp (hne u hu)
    · exact (World.cell?_setCell_other (w := w) (a := ⟨b, 0, none⟩) (b := ⟨b', off + j, none⟩) (v := v) (by intro e2; injection e2 with e3 e4; exact he ⟨e3.symm, e4.symm⟩)).trans (hc j u hu)⟩
theorem Files.setFirst {w : World} {b : Nat} {A A0 : Option Addr} {n0 c0 : Nat} {l : List MFile} (h : Files w w.heap.size A l) (hp : w.cell? ⟨b, 0, none⟩ = some (.slice A0 n0 c0)) (v : Value) : Files (w.setCell ⟨b, 0, none⟩ v) (w.setCell ⟨b, 0, none⟩ v).heap.size A l := by
  have hs : (w.setCell ⟨b, 0, none⟩ v).heap.size = w.heap.size := by simp
  rw [hs]
  refine ⟨h.1.setFirst hp (fun u hu e => ?_) v, fun x hx p hp2 => ?_⟩
  · subst e
    cases l with
    | nil => simp at hu
    | cons a l => simp [MFile.cells] at hu
  · have h2 := h.2 x hx p hp2
    obtain rfl := List.mem_singleton.1 hp2
    refine Rd.setFirst h2 hp (fun u hu e => ?_) v
    subst e
    simp only at hu
    cases hd : x.f.data with
    | nil => rw [hd] at hu; simp at hu
    | cons a l => rw [hd] at hu; simp [u8c] at hu
theorem undrew {B : Nat} {w w' : World} (h : Below B w.drew w') : Below B w w' := ⟨h.os, h.tape, h.output, h.size, h.block⟩
set_option maxRecDepth 100000 in
set_option maxHeartbeats 8000000 in
theorem seal_walk (l : List MFile) (n : Int) (w : World) (A : Option Addr) (c : Nat) (hr : Files w w.heap.size A l) (hn : l.length * 48 ≤ 140737488355328) (hm : Okm l) :
    Calls Tryd.prog 15 #[.agg #[.slice A l.length c], .int .i64 n] w (RetD w (sealF (files l) n).1 (sealF (files l) n).2) := by
  have b0 := bA (bA (Below.refl w.heap.size w) (.cells #[.slice A l.length c] 38)) (.cells #[.slice none 0 0] 38)
  by_cases hout : n < 0 ∨ 1 < n
  · rw [sealF_out _ hout]
    by_cases h0 : n < 0
    · clear hout
      go_enter Tryd.func15, Tryd.ntmps15
      go_wp2_with fail
      exact bodyPost_ret (v := .tuple #[.agg #[.slice none 0 0], .int .i64 2]) (by simp [results, Tryd.results15, go_sem, *]) rfl (retD_bad _ _ _ b0)
    · have h1 : 1 < n := by omega
      clear hout
      go_enter Tryd.func15, Tryd.ntmps15
      go_wp2_with fail
      exact bodyPost_ret (v := .tuple #[.agg #[.slice none 0 0], .int .i64 2]) (by simp [results, Tryd.results15, go_sem, *]) rfl (retD_bad _ _ _ b0)
  · have hn0 : ¬ (n < 0) := by omega
    have hn1 : ¬ (1 < n) := by omega
    have hn2 : n = 0 ∨ n = 1 := by omega
    have HSY := hid (sync_walk l nextB _ A c (Files.b hr b0) hn hm)
    have hfit := syncF_fit (fitF_of hm) nextB
    have hlen := syncF_leng (files l) nextB
    rw [files_length] at hlen
    by_cases he : (syncF (files l) nextB).2 ≠ 0
    · rw [sealF_bad _ hout he]
      generalize syncF (files l) nextB = z at *
      obtain ⟨v, r⟩ := z
      simp only at he hlen
      have hrb : (r != 0) = true := by simpa using he
      clear hout hfit
      go_enter Tryd.func15, Tryd.ntmps15
      go_wp2_with fail
      refine HSY.out.mono ?_
      rintro e w1 ⟨A1, c1, l1, rfl, hf1, r1, b1⟩
      have q : w1.cell? ⟨w.heap.size + 1, 0, none⟩ = some (.slice none 0 0) := keepb b1 (by go_simp)
      have qf : ∀ o, w1.frozen? ⟨w.heap.size + 1, o, none⟩ = false := fun o => by rw [(bcell b1).2 _ _ (by simp)]; go_simp
      have qz : w.heap.size + 1 < w1.heap.size := by have := b1.size; simp at this; omega
      clear hf1 r1
      go_wp2_with fail
      exact bodyPost_ret (v := .tuple #[.agg #[.slice none 0 0], .int .i64 r]) (by simp [results, Tryd.results15, go_sem, *]) rfl (retD_bad _ _ _ (bA (bS (bT b0 b1) (by show w.heap.size ≤ w.heap.size + 1; omega) _) _))
    · rw [sealF_ok _ hout he]
      have hrn := renameF_len (syncF (files l) nextB).1 nextB (slotB n)
      have HREN := hid (fun (l1 : List MFile) (hf1 : files l1 = (syncF (files l) nextB).1) (wd : World) (A1 : Option Addr) (c1 : Nat) (r1 : Files wd wd.heap.size A1 l1) => (rename_walk l1 nextB (slotB n) wd A1 c1 r1 (by rw [← files_length, hf1]; omega) (okm_fit (by rw [hf1]; exact hfit))))
      generalize syncF (files l) nextB = z at *
      obtain ⟨v, r⟩ := z
      simp only at he hlen hrn HREN ⊢
      have hr0 : r = 0 := by simpa using he
      subst hr0
      have HSL := hid (slot_walk n hn2)
      clear hout hfit he
      go_enter Tryd.func15, Tryd.ntmps15
      go_wp2_with fail
      refine HSY.out.mono ?_
      rintro e w1 ⟨A1, c1, l1, rfl, hf1, r1, b1⟩
      have q : w1.cell? ⟨w.heap.size + 1, 0, none⟩ = some (.slice none 0 0) := keepb b1 (by go_simp)
      have qf : ∀ o, w1.frozen? ⟨w.heap.size + 1, o, none⟩ = false := fun o => by rw [(bcell b1).2 _ _ (by simp)]; go_simp
      have qz : w.heap.size + 1 < w1.heap.size := by have := b1.size; simp at this; omega
      have hl1 : l1.length = v.length := by rw [← files_length, hf1]
      have bX := bA (Below.refl w1.heap.size w1) (.cells #[.slice A1 v.length c1] 38)
      have q := keepb bX q
      have qf : ∀ o, (w1.alloc (.cells #[.slice A1 v.length c1] 38)).frozen? ⟨w.heap.size + 1, o, none⟩ = false := fun o => keepf bX (qf o) qz
      have g0 : (w1.alloc (.cells #[.slice A1 v.length c1] 38)).cell? ⟨w1.heap.size, 0, none⟩ = some (.slice A1 v.length c1) := by go_simp
      have hzX : w.heap.size + 1 < (w1.alloc (.cells #[.slice A1 v.length c1] 38)).heap.size := by simp; omega
      have HB := hid (bT (bT b0 b1) bX)
      have HR := hid (HREN.out l1 hf1 (w1.alloc (.cells #[.slice A1 v.length c1] 38)).drew A1 c1 (Files.b r1 bX.drew))
      rw [hl1, hf1] at HR
      have HFACT := hid (fun (w5 : World) (h5 : Below (w1.alloc (.cells #[.slice A1 v.length c1] 38)).drew.heap.size (w1.alloc (.cells #[.slice A1 v.length c1] 38)).drew w5) => (⟨keepb h5 q, fun o => keepf h5 (qf o) hzX, HB.out.trans (((Below.refl _ _).drew.trans h5).mono (by have := HB.out.size; exact this))⟩ : w5.cell? ⟨w.heap.size + 1, 0, none⟩ = some (.slice none 0 0) ∧ (∀ o, w5.frozen? ⟨w.heap.size + 1, o, none⟩ = false) ∧ Below w.heap.size w w5))
      clear hf1 r1
      go_wp2_with fail
      go_region_with ((first | (go_at_call 31; refine (HSL.out _).mono ?_; rintro e w5 ⟨rfl, rfl⟩) | (go_at_call 30; refine HR.out.mono ?_; rintro e w6 ⟨A6, c6, l6, rfl, hf6, r6, b6⟩; obtain ⟨q6, qf6, B6⟩ := HFACT.out _ b6)))
      all_goals
        go_wp2_with fail
        exact bodyPost_ret (v := .tuple #[.agg #[.slice A6 _ c6], .int .i64 _]) (by simp [results, Tryd.results15, go_sem, *]) rfl ⟨A6, c6, l6, rfl, hf6, r6.setFirst q6 _, bS B6 (by show w.heap.size ≤ w.heap.size + 1; omega) _⟩
set_option maxRecDepth 100000 in
set_option maxHeartbeats 8000000 in
theorem sealed_walk (l : List MFile) (n : Int) (w : World) (A : Option Addr) (c : Nat) (hr : Files w w.heap.size A l) (hn : l.length * 48 ≤ 140737488355328) (hm : Okm l) :
    Calls Tryd.prog 16 #[.agg #[.slice A l.length c], .int .i64 n] w (RetD w (sealF (files l) n).1 (sealF (files l) n).2) := by
  have b0 := bA (bA (Below.refl w.heap.size w) (.cells #[.slice A l.length c] 38)) (.cells #[.slice none 0 0] 38)
  by_cases hout : n < 0 ∨ 1 < n
  · rw [sealF_out _ hout]
    have i1 : inB n 0 1 = false := inB_no (by omega)
    clear hout
    go_enter Tryd.func16, Tryd.ntmps16
    go_wp2_with fail
    refine (In_walk _ _ _ _).mono ?_
    rintro e w2 ⟨rfl, rfl⟩
    rw [i1]
    go_wp2_with fail
    exact bodyPost_ret (v := .tuple #[.agg #[.slice none 0 0], .int .i64 2]) (by simp [results, Tryd.results16, go_sem, *]) rfl (retD_bad _ _ _ b0)
  · have i1 : inB n 0 1 = true := inB_yes (by omega)
    have hn2 : n = 0 ∨ n = 1 := by omega
    have HSY := hid (syncedTo_walk l nextB _ A c (Files.b hr b0) hn hm)
    have hfit := syncF_fit (fitF_of hm) nextB
    have hlen := syncF_leng (files l) nextB
    rw [files_length] at hlen
    by_cases he : (syncF (files l) nextB).2 ≠ 0
    · rw [sealF_bad _ hout he]
      generalize syncF (files l) nextB = z at *
      obtain ⟨v, r⟩ := z
      simp only at he hlen
      have hrb : (r != 0) = true := by simpa using he
      clear hout hfit
      go_enter Tryd.func16, Tryd.ntmps16
      go_wp2_with fail
      refine (In_walk _ _ _ _).mono ?_
      rintro e w2 ⟨rfl, rfl⟩
      rw [i1]
      go_wp2_with fail
      refine HSY.out.mono ?_
      rintro e w1 ⟨A1, c1, l1, rfl, hf1, r1, b1⟩
      have q : w1.cell? ⟨w.heap.size + 1, 0, none⟩ = some (.slice none 0 0) := keepb b1 (by go_simp)
      have qf : ∀ o, w1.frozen? ⟨w.heap.size + 1, o, none⟩ = false := fun o => by rw [(bcell b1).2 _ _ (by simp)]; go_simp
      have qz : w.heap.size + 1 < w1.heap.size := by have := b1.size; simp at this; omega
      clear hf1 r1
      go_wp2_with fail
      exact bodyPost_ret (v := .tuple #[.agg #[.slice none 0 0], .int .i64 r]) (by simp [results, Tryd.results16, go_sem, *]) rfl (retD_bad _ _ _ (bA (bS (bT b0 b1) (by show w.heap.size ≤ w.heap.size + 1; omega) _) _))
    · rw [sealF_ok _ hout he]
      have hrn := renameF_len (syncF (files l) nextB).1 nextB (slotB n)
      have HREN := hid (fun (l1 : List MFile) (hf1 : files l1 = (syncF (files l) nextB).1) (wd : World) (A1 : Option Addr) (c1 : Nat) (r1 : Files wd wd.heap.size A1 l1) => (renamed_walk l1 nextB (slotB n) wd A1 c1 r1 (by rw [← files_length, hf1]; omega) (okm_fit (by rw [hf1]; exact hfit))))
      generalize syncF (files l) nextB = z at *
      obtain ⟨v, r⟩ := z
      simp only at he hlen hrn HREN ⊢
      have hr0 : r = 0 := by simpa using he
      subst hr0
      have HSL := hid (slotName_walk n hn2)
      clear hout hfit he
      go_enter Tryd.func16, Tryd.ntmps16
      go_wp2_with fail
      refine (In_walk _ _ _ _).mono ?_
      rintro e w2 ⟨rfl, rfl⟩
      rw [i1]
      go_wp2_with fail
      refine HSY.out.mono ?_
      rintro e w1 ⟨A1, c1, l1, rfl, hf1, r1, b1⟩
      have q : w1.cell? ⟨w.heap.size + 1, 0, none⟩ = some (.slice none 0 0) := keepb b1 (by go_simp)
      have qf : ∀ o, w1.frozen? ⟨w.heap.size + 1, o, none⟩ = false := fun o => by rw [(bcell b1).2 _ _ (by simp)]; go_simp
      have qz : w.heap.size + 1 < w1.heap.size := by have := b1.size; simp at this; omega
      have hl1 : l1.length = v.length := by rw [← files_length, hf1]
      have bX := bA (Below.refl w1.heap.size w1) (.cells #[.slice A1 v.length c1] 38)
      have q := keepb bX q
      have qf : ∀ o, (w1.alloc (.cells #[.slice A1 v.length c1] 38)).frozen? ⟨w.heap.size + 1, o, none⟩ = false := fun o => keepf bX (qf o) qz
      have g0 : (w1.alloc (.cells #[.slice A1 v.length c1] 38)).cell? ⟨w1.heap.size, 0, none⟩ = some (.slice A1 v.length c1) := by go_simp
      have hzX : w.heap.size + 1 < (w1.alloc (.cells #[.slice A1 v.length c1] 38)).heap.size := by simp; omega
      have HB := hid (bT (bT b0 b1) bX)
      have HR := hid (fun (w5 : World) (h5 : Below (w1.alloc (.cells #[.slice A1 v.length c1] 38)).drew.heap.size (w1.alloc (.cells #[.slice A1 v.length c1] 38)).drew w5) => HREN.out l1 hf1 w5 A1 c1 (Files.b r1 (bT bX.drew h5)))
      rw [hl1, hf1] at HR
      have HFACT : Hid (∀ w5 : World, Below (w1.alloc (.cells #[.slice A1 v.length c1] 38)).drew.heap.size (w1.alloc (.cells #[.slice A1 v.length c1] 38)).drew w5 → w5.cell? ⟨w.heap.size + 1, 0, none⟩ = some (.slice none 0 0) ∧ (∀ o, w5.frozen? ⟨w.heap.size + 1, o, none⟩ = false) ∧ w5.cell? ⟨w1.heap.size, 0, none⟩ = some (.slice A1 v.length c1) ∧ Below w.heap.size w w5 ∧ w1.heap.size < w5.heap.size ∧ w.heap.size + 1 < w5.heap.size) := hid fun w5 h5 => by
        have hs : w1.heap.size + 1 ≤ w5.heap.size := by have := h5.size; simpa using this
        have hq := qz
        exact ⟨keepb h5 q, fun o => keepf h5 (qf o) hzX, keepb h5 g0, HB.out.trans (((Below.refl _ _).drew.trans h5).mono (by have := HB.out.size; exact this)), by omega, by omega⟩
      have HB0 := hid (Below.refl (w1.alloc (.cells #[.slice A1 v.length c1] 38)).drew.heap.size (w1.alloc (.cells #[.slice A1 v.length c1] 38)).drew)
      have HB1 := hid (show Below (w1.alloc (.cells #[.slice A1 v.length c1] 38)).drew.heap.size (w1.alloc (.cells #[.slice A1 v.length c1] 38)).drew ((w1.alloc (.cells #[.slice A1 v.length c1] 38)).alloc (.cells #[.slice none 0 0] 38)).drew from ⟨rfl, rfl, rfl, by simp, fun k hk => by have := (bA (Below.refl (w1.alloc (.cells #[.slice A1 v.length c1] 38)).heap.size (w1.alloc (.cells #[.slice A1 v.length c1] 38))) (.cells #[.slice none 0 0] 38)).block k hk; exact this⟩)
      have HSL2 : Hid (∀ wx : World, Below (w1.alloc (.cells #[.slice A1 v.length c1] 38)).drew.heap.size (w1.alloc (.cells #[.slice A1 v.length c1] 38)).drew wx → Calls Tryd.prog 35 #[.int .i64 n] wx fun e w5 => e = .returned (.string (slotB n)) ∧ Below (w1.alloc (.cells #[.slice A1 v.length c1] 38)).drew.heap.size (w1.alloc (.cells #[.slice A1 v.length c1] 38)).drew w5 ∧ Below wx.heap.size wx w5) := hid fun wx hx => (HSL.out wx).mono fun e w5 h => ⟨h.1, bT hx h.2, h.2⟩
      have HKA := hid (fun (wx w6 : World) (h : Below (wx.alloc (.cells #[.slice none 0 0] 38)).heap.size (wx.alloc (.cells #[.slice none 0 0] 38)) w6) => (⟨keepb h (by go_simp), keepf h (by go_simp) (by simp), by have := h.size; simp at this; omega⟩ : w6.cell? ⟨wx.heap.size, 0, none⟩ = some (.slice none 0 0) ∧ w6.frozen? ⟨wx.heap.size, 0, none⟩ = false ∧ wx.heap.size < w6.heap.size))
      have HK1 := hid (fun (w6 : World) (h : Below ((w1.alloc (.cells #[.slice A1 v.length c1] 38)).alloc (.cells #[.slice none 0 0] 38)).drew.heap.size ((w1.alloc (.cells #[.slice A1 v.length c1] 38)).alloc (.cells #[.slice none 0 0] 38)).drew w6) => (by have h2 := HKA.out (w1.alloc (.cells #[.slice A1 v.length c1] 38)) w6 (undrew h); simpa using h2 : w6.cell? ⟨w1.heap.size + 1, 0, none⟩ = some (.slice none 0 0) ∧ w6.frozen? ⟨w1.heap.size + 1, 0, none⟩ = false ∧ w1.heap.size + 1 < w6.heap.size))
      have HKB := hid (fun (w5 w6 : World) (b : Nat) (k5 : w5.cell? ⟨b, 0, none⟩ = some (.slice none 0 0)) (kf5 : w5.frozen? ⟨b, 0, none⟩ = false) (kz5 : b < w5.heap.size) (b6 : Below w5.heap.size w5 w6) => (⟨keepb b6 k5, keepf b6 kf5 kz5⟩ : w6.cell? ⟨b, 0, none⟩ = some (.slice none 0 0) ∧ w6.frozen? ⟨b, 0, none⟩ = false))
      clear hf1 r1
      go_wp2_with fail
      go_region_with ((first | (go_at_call 35; first | (refine (HSL2.out _ HB0.out).mono ?_; rintro e w5 ⟨rfl, c5, b5⟩; obtain ⟨q5, qf5, g5, B5, sz5, sw5⟩ := HFACT.out _ c5) | (refine (HSL2.out _ HB1.out).mono ?_; rintro e w5 ⟨rfl, c5, b5⟩; obtain ⟨q5, qf5, g5, B5, sz5, sw5⟩ := HFACT.out _ c5; obtain ⟨k5, kf5, kz5⟩ := HK1.out _ b5)) | (go_at_call 34; first | (refine (HR.out _ c5).mono ?_; rintro e w6 ⟨A6, c6, l6, rfl, hf6, r6, b6⟩; obtain ⟨q6, qf6, g6, B6, sz6, sw6⟩ := HFACT.out _ (bT c5 b6); try (have K6 := HKB.out _ _ _ k5 kf5 kz5 b6; obtain ⟨k6, kf6⟩ := K6)) | (refine (HR.out _ (bA c5 _)).mono ?_; rintro e w6 ⟨A6, c6, l6, rfl, hf6, r6, b6⟩; obtain ⟨q6, qf6, g6, B6, sz6, sw6⟩ := HFACT.out _ (bT (bA c5 _) b6); obtain ⟨k6, kf6, kz6⟩ := HKA.out _ _ b6))))
      all_goals
        go_wp2_with fail
        refine bodyPost_ret (v := .tuple #[.agg #[.slice A6 _ c6], .int .i64 _]) (by simp [results, Tryd.results16, go_sem, *]) rfl ⟨A6, c6, l6, rfl, hf6, ?_, ?_⟩
        · first
            | exact Files.b (r6.setFirst q6 _) (bA (Below.refl _ _) _)
            | exact Files.setFirst (A0 := none) (n0 := 0) (c0 := 0) (Files.setFirst r6 k6 _) (by go_simp) _
        · first
            | exact bA (bS B6 (by show w.heap.size ≤ w.heap.size + 1; omega) _) _
            | exact bS (bS B6 (by show w.heap.size ≤ w5.heap.size; omega) _) (by show w.heap.size ≤ w.heap.size + 1; omega) _
            | exact bS (bS B6 (by show w.heap.size ≤ w1.heap.size + 1; omega) _) (by show w.heap.size ≤ w.heap.size + 1; omega) _
end Go.Proofs.YtafnbackjjaelaaDoor
