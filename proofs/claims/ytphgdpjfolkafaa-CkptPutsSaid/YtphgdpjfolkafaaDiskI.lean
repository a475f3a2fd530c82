/- The document's Appended. -/
import Derived.Test.YtphgdpjfolkafaaDiskH
import Derived.Test.YtphgdpjfolkafaaUnw
namespace Go.Proofs.Ytphgdpjfolkafaa
open Go.ChangeShapes Go.WideShapes Go.ChangeAt Go.RowKit
set_option linter.unusedVariables false
set_option linter.unusedSimpArgs false
/-- Byte for byte the data of the file k grows. -/
def ApRel (l2 : List MFile) (x0 : MFile) (bs : List Int) (k c1 g L : Nat) (w : World) (G H : Nat) (i : Value) (wr : World) : Prop :=
  ∃ (j : Nat) (Aj : Option Addr) (cj : Nat), j ≤ bs.length ∧ i = .int .i64 j ∧ Hid (FGrid wr G (some ⟨g, 0, none⟩) c1 (l2.set k ⟨Aj, cj, addD (bs.take j) x0.f⟩)) ∧ Hid (∀ k', (Value.slice Aj (x0.f.data.length + j) cj).ownBlock = some k' → k' ≠ H) ∧ wr.cell? ⟨H, 0, none⟩ = some (.slice (some ⟨g, 0, none⟩) L c1) ∧
    wr.cell? ⟨w.heap.size + 1, 0, none⟩ = some (.slice none 0 0) ∧ (∀ o, wr.frozen? ⟨w.heap.size + 1, o, none⟩ = false) ∧ Below w.heap.size w wr ∧ H < wr.heap.size
theorem set_start {l2 : List MFile} {k : Nat} {x0 : MFile} {bs : List Int} (hx : l2[k]? = some x0) : l2.set k ⟨x0.A, x0.c, addD (bs.take 0) x0.f⟩ = l2 := by
  obtain ⟨hk, rfl⟩ := List.getElem?_eq_some_iff.1 hx
  have : addD (bs.take 0) l2[k].f = l2[k].f := by unfold addD; rw [List.take_zero, List.append_nil]
  rw [this]
  exact List.set_getElem_self hk
theorem grown_cell (w : World) (p o : Nat) (u : Value) : w.grownBy (w.setCell ⟨p, o, none⟩ u) (some p) := grown_setCells p [u] o w
/-- A store into a block that is none of the grid's. -/
theorem FGrid.storeOff {w : World} {base c : Nat} {A : Option Addr} {l : List MFile} (h : FGrid w base A c l) {p : Nat} (o : Nat) (h1 : ∀ k, (Value.slice A l.length c).ownBlock = some k → k ≠ p) (h2 : ∀ (i : Nat) (x : MFile) (k : Nat), l[i]? = some x → x.ml.blk = some k → k ≠ p) (u : Value) : FGrid (w.setCell ⟨p, o, none⟩ u) base A c l := by
  have hg := grown_cell w p o u
  refine ⟨⟨own_grown h.1.1 hg (fun k hk e => h1 k hk (by injection e with e; exact e.symm)), fun _ _ _ hp => by cases hp⟩, fun i x hx => own_grown (h.2.own i x hx) hg (fun k hk e => ?_), h.2.off, h.2.apart⟩
  rw [List.getElem?_map] at hx
  cases hy : l[i]? with
  | none => rw [hy] at hx; cases hx
  | some y =>
    rw [hy] at hx
    injection hx with hx
    injection e with e
    exact h2 i y k hy (by rw [hx]; exact hk) e.symm
theorem app_new_files {l1 l : List MFile} (hf : files l1 = files l) (n : ByteArray) (bs : List Int) : (files (l1 ++ [(⟨none, 0, ⟨n, [], 0⟩⟩ : MFile)])).set l.length (addD bs (⟨n, [], 0⟩ : File)) = files l ++ [(⟨n, bs, 0⟩ : File)] := by
  have e : files (l1 ++ [(⟨none, 0, ⟨n, [], 0⟩⟩ : MFile)]) = files l ++ [(⟨n, [], 0⟩ : File)] := by rw [← hf]; simp [files]
  rw [e, ← files_length l, List.set_append_right _ _ (Nat.le_refl _), Nat.sub_self]
  rfl
set_option maxRecDepth 100000 in
set_option maxHeartbeats 2000000 in
theorem appended_walk (l : List MFile) (n : ByteArray) (bs : List Int) (w : World) (A : Option Addr) (c : Nat) (Ab : Option Addr) (cb : Nat) (hr : Files w w.heap.size A l) (hn : l.length * 48 ≤ 140737488355328) (hm : Okm l) (hb : Rd w w.heap.size Ab 1 bs.length (bs.flatMap u8c)) (hbl : bs.length ≤ 140737488355328) :
    Calls Try.prog 85 #[.agg #[.slice A l.length c], .string n, .slice Ab bs.length cb] w (RetDG w (appF (files l) n bs).1 (appF (files l) n bs).2) := by
  have b0 := bA (bA (Below.refl w.heap.size w) (.cells #[.slice A l.length c] 66)) (.cells #[.slice none 0 0] 66)
  have HM := hid (DiskMay_walk l _ A c (rdb hr.1 (by decide) b0) (by omega))
  cases hok : okB l with
  | false =>
    rw [appF_bad hok]
    rw [hok] at HM
    clear hok
    go_enter Try.func85, Try.ntmps85
    go_wp2_with fail
    refine HM.out.mono ?_
    rintro e w1 ⟨rfl, b1⟩
    have q : w1.cell? ⟨w.heap.size + 1, 0, none⟩ = some (.slice none 0 0) := keepb b1 (by go_simp)
    have qf : ∀ o, w1.frozen? ⟨w.heap.size + 1, o, none⟩ = false := fun o => by rw [(bcell b1).2 _ _ (by simp)]; go_simp
    go_wp2_with fail
    exact bodyPost_ret (v := .tuple #[.agg #[.slice none 0 0], .int .i64 9]) (by simp [results, Try.results85, go_sem, *]) rfl (retDG_bad _ _ _ (bS (bT b0 b1) (by show w.heap.size ≤ w.heap.size + 1; omega) _))
  | true =>
    rw [hok] at HM
    have h40 : l.length ≤ 40 := by have h0 := hok; unfold okB at h0; exact ((diskOk_m l).1 (@of_decide_eq_true _ (_) h0)).1
    by_cases hsz : 1 ≤ n.size ∧ n.size ≤ 20
    · have i1 : inB (n.size : Int) 1 20 = true := inB_yes (by omega)
      cases hk : l.findIdx? (named n) with
      | none =>
        have hat : (atI none : Int) = -1 := rfl
        by_cases h4 : l.length = 40
        · rw [appF_full hok hsz hk h4]
          have h4z : ((l.length : Int) == 40) = true := by rw [h4]; rfl
          clear h4
          go_enter Try.func85, Try.ntmps85
          go_wp2_with fail
          refine HM.out.mono ?_
          rintro e w1 ⟨rfl, b1⟩
          have b01 := bT b0 b1
          have g0 : w1.cell? ⟨w.heap.size, 0, none⟩ = some (.slice A l.length c) := keepb b1 (by go_simp)
          have q : w1.cell? ⟨w.heap.size + 1, 0, none⟩ = some (.slice none 0 0) := keepb b1 (by go_simp)
          have qf : ∀ o, w1.frozen? ⟨w.heap.size + 1, o, none⟩ = false := fun o => by rw [(bcell b1).2 _ _ (by simp)]; go_simp
          have qz : w.heap.size + 2 ≤ w1.heap.size := by have := b1.size; simpa using this
          have HC := hid (DiskCopy_own l w1 A c (Files.b hr b01) hn hm.1)
          have hfa := FileAt_walk l n
          rw [hk, hat] at hfa
          have HFA := hid hfa
          clear hfa HM
          clear hok hk hsz hat
          go_wp2_with fail
          refine (In_walk _ _ _ _).mono ?_
          rintro e w2 ⟨rfl, rfl⟩
          rw [i1]
          go_wp2_with fail
          refine HC.out.mono ?_
          rintro e w2 ⟨A1, c1, l1, rfl, hf, hln, hown, b2⟩
          have HF := hid hf
          have HLN := hid hln
          clear hf hln
          have b02 := bT b01 b2
          have g0 := keepb b2 g0
          have q := keepb b2 q
          have qf : ∀ o, w2.frozen? ⟨w.heap.size + 1, o, none⟩ = false := fun o => keepf b2 (qf o) (by show w.heap.size + 1 < _; omega)
          have qz2 : w.heap.size + 2 ≤ w2.heap.size := Nat.le_trans qz b2.size
          have b0X := bA b02 (.cells #[.slice A1 l.length c1] 66)
          have hws : w.heap.size < w2.heap.size := by omega
          have hws1 : w.heap.size ≠ w2.heap.size := by omega
          have HFA2 := hid (HFA.out (w2.alloc (.cells #[.slice A1 l.length c1] 66)) A c (rdb hr.1 (by decide) b0X) (by omega))
          go_wp2_with fail
          refine HFA2.out.mono ?_
          rintro e w3 ⟨rfl, b3⟩
          have b03 := bT b0X b3
          have g0 := keepb b3 (keepb (bA (Below.refl w2.heap.size w2) _) g0)
          have q := keepb b3 (keepb (bA (Below.refl w2.heap.size w2) _) q)
          have qf : ∀ o, w3.frozen? ⟨w.heap.size + 1, o, none⟩ = false := fun o => keepf b3 (keepf (bA (Below.refl w2.heap.size w2) _) (qf o) (by show w.heap.size + 1 < _; omega)) (by simp; omega)
          have gH : w3.cell? ⟨w2.heap.size, 0, none⟩ = some (.slice A1 l.length c1) := keepb b3 (by go_simp)
          have gHf : w3.frozen? ⟨w2.heap.size, 0, none⟩ = false := keepf b3 (by go_simp) (by simp)
          have hHs : w2.heap.size < w3.heap.size := by have := b3.size; simp at this; omega
          have hqH : w.heap.size + 1 ≠ w2.heap.size := by omega
          have bX3 := bT (bA (Below.refl w2.heap.size w2) _) b3
          have qz3 : w.heap.size + 1 < w3.heap.size := by omega
          go_wp2_with fail
          exact bodyPost_ret (v := .tuple #[.agg #[.slice none 0 0], .int .i64 10]) (by simp [results, Try.results85, go_sem, *]) rfl (retDG_bad _ _ _ (bS b03 (by show w.heap.size ≤ w.heap.size + 1; omega) _))
        · have h4z : ((l.length : Int) == 40) = false := by simp; omega
          have hl39 : (l.length + 1) * 48 ≤ 140737488355328 := by omega
          by_cases h5 : bs.length ≤ 100000
          · rw [appF_new hok hsz hk h4 h5]
            have h5z : ¬ ((100000 : Int) < (bs.length : Int)) := by omega
            go_enter Try.func85, Try.ntmps85
            go_wp2_with fail
            refine HM.out.mono ?_
            rintro e w1 ⟨rfl, b1⟩
            have b01 := bT b0 b1
            have g0 : w1.cell? ⟨w.heap.size, 0, none⟩ = some (.slice A l.length c) := keepb b1 (by go_simp)
            have q : w1.cell? ⟨w.heap.size + 1, 0, none⟩ = some (.slice none 0 0) := keepb b1 (by go_simp)
            have qf : ∀ o, w1.frozen? ⟨w.heap.size + 1, o, none⟩ = false := fun o => by rw [(bcell b1).2 _ _ (by simp)]; go_simp
            have qz : w.heap.size + 2 ≤ w1.heap.size := by have := b1.size; simpa using this
            have HC := hid (DiskCopy_own l w1 A c (Files.b hr b01) hn hm.1)
            have hfa := FileAt_walk l n
            rw [hk, hat] at hfa
            have HFA := hid hfa
            clear hfa HM
            clear hok hk hsz hat h4
            go_wp2_with fail
            refine (In_walk _ _ _ _).mono ?_
            rintro e w2 ⟨rfl, rfl⟩
            rw [i1]
            go_wp2_with fail
            refine HC.out.mono ?_
            rintro e w2 ⟨A1, c1, l1, rfl, hf, hln, hown, b2⟩
            have HF := hid hf
            have HLN := hid hln
            clear hf hln
            have b02 := bT b01 b2
            have g0 := keepb b2 g0
            have q := keepb b2 q
            have qf : ∀ o, w2.frozen? ⟨w.heap.size + 1, o, none⟩ = false := fun o => keepf b2 (qf o) (by show w.heap.size + 1 < _; omega)
            have qz2 : w.heap.size + 2 ≤ w2.heap.size := Nat.le_trans qz b2.size
            have b0X := bA b02 (.cells #[.slice A1 l.length c1] 66)
            have hws : w.heap.size < w2.heap.size := by omega
            have hws1 : w.heap.size ≠ w2.heap.size := by omega
            have HFA2 := hid (HFA.out (w2.alloc (.cells #[.slice A1 l.length c1] 66)) A c (rdb hr.1 (by decide) b0X) (by omega))
            go_wp2_with fail
            refine HFA2.out.mono ?_
            rintro e w3 ⟨rfl, b3⟩
            have b03 := bT b0X b3
            have g0 := keepb b3 (keepb (bA (Below.refl w2.heap.size w2) _) g0)
            have q := keepb b3 (keepb (bA (Below.refl w2.heap.size w2) _) q)
            have qf : ∀ o, w3.frozen? ⟨w.heap.size + 1, o, none⟩ = false := fun o => keepf b3 (keepf (bA (Below.refl w2.heap.size w2) _) (qf o) (by show w.heap.size + 1 < _; omega)) (by simp; omega)
            have gH : w3.cell? ⟨w2.heap.size, 0, none⟩ = some (.slice A1 l.length c1) := keepb b3 (by go_simp)
            have gHf : w3.frozen? ⟨w2.heap.size, 0, none⟩ = false := keepf b3 (by go_simp) (by simp)
            have hHs : w2.heap.size < w3.heap.size := by have := b3.size; simp at this; omega
            have hqH : w.heap.size + 1 ≠ w2.heap.size := by omega
            have bX3 := bT (bA (Below.refl w2.heap.size w2) _) b3
            have qz3 : w.heap.size + 1 < w3.heap.size := by omega
            have hown3 := OwnGrid.below hown bX3 (Nat.le_refl _)
            have hbase : ∀ o, w1.heap.size ≤ (w3.alloc o).heap.size := fun o => by have := b2.size; simp; omega
            have hoN : (MFile.ml (⟨none, 0, ⟨n, [], 0⟩⟩ : MFile)).own u8c 5 1 (w3.alloc (.cells #[.string n, .slice none 0 0, .int .i64 0] 131)) w1.heap.size := World.ownsRow_nil _ _ _ _
            have hAl := hown.1.1.lt
            have hGH : w1.heap.size ≤ w2.heap.size := b2.size
            have hGq : w.heap.size + 1 < w1.heap.size := by omega
            have hH3 : w2.heap.size ≠ w3.heap.size := by omega
            have hhow : ∀ (o : Obj) (w4 : World), Below w1.heap.size (w3.alloc o) w4 → (w3.alloc o).grownBy w4 (Value.slice A1 l.length c1).ownBlock → w4.cell? ⟨w2.heap.size, 0, none⟩ = some (.slice A1 l.length c1) ∧ w4.frozen? ⟨w2.heap.size, 0, none⟩ = false ∧ w4.cell? ⟨w.heap.size + 1, 0, none⟩ = some (.slice none 0 0) ∧ (∀ o, w4.frozen? ⟨w.heap.size + 1, o, none⟩ = false) ∧ Below w1.heap.size w3 w4 ∧ w2.heap.size < w4.heap.size := fun o w4 h hg => by
              have h3 := ((Below.refl w1.heap.size w3).alloc (by omega) o).trans h
              have hne : some (⟨w2.heap.size, 0, none⟩ : Addr).block ≠ (Value.slice A1 l.length c1).ownBlock := fun e => by
                rw [← HLN.out] at e
                have := (hAl _ e.symm).2
                simp at this
              exact ⟨(hg.cell_far ⟨w2.heap.size, 0, none⟩ (by simp; omega) hne).trans (keepb (bA (Below.refl w3.heap.size w3) o) gH), (hg.frozen_far ⟨w2.heap.size, 0, none⟩ (by simp; omega) hne).trans (keepf (bA (Below.refl w3.heap.size w3) o) gHf hHs), (h3.cell (p := ⟨w.heap.size + 1, 0, none⟩) (by show w.heap.size + 1 < w1.heap.size; omega)).trans q, fun o => (h3.frozen (p := ⟨w.heap.size + 1, o, none⟩) (by show w.heap.size + 1 < w1.heap.size; omega)).trans (qf o), h3, Nat.lt_of_lt_of_le hHs h3.size⟩
            have HXN : Hid ((l1 ++ [(⟨none, 0, ⟨n, [], 0⟩⟩ : MFile)])[l.length]? = some (⟨none, 0, ⟨n, [], 0⟩⟩ : MFile)) := hid (by rw [← HLN.out]; simp)
            have hl2 : (l1 ++ [(⟨none, 0, ⟨n, [], 0⟩⟩ : MFile)]).length = l.length + 1 := by rw [List.length_append, HLN.out]; rfl
            have HL2 := hid hl2
            clear hl2
            go_wp2_with (at_builtin; refine wp_grid3 (cells := u8c) (inner := MFile.ml) (sz := 1) _ rfl rfl el_files rfl HLN.out.symm (OwnGrid.alloc hown3 _) (⟨none, 0, ⟨n, [], 0⟩⟩ : MFile) hoN aside_nil rfl (rd_newAt _ _ _ 3 1 _ (by simp) rfl) (one_file _) hl39 (hbase _) ?_; intro A2 c2 w4 hown4 hb4 hg4 hk4; obtain ⟨g, rfl, hgb, hgs, hgc, hgf, -⟩ := heap_set (cells := MFile.cells) (sz := 3) (y := (⟨none, 0, ⟨n, [], 0⟩⟩ : MFile)) (j := 1) (v := .slice none 0 0) (fun _ => rfl) hown4.1 HXN.out (by decide) (by simp [MFile.cells]) (fun _ hp => by cases hp); have d1 := hgc 1 _ rfl; simp only [List.length_nil] at d1; obtain ⟨gH4, gHf4, q4, qf4, bb4, hHs4⟩ := hhow _ _ hb4 hg4; have hHg : w2.heap.size ≠ g := (by intro e; rcases hk4 with hk4 | hk4; (· have h1 := hAl g (by rw [HLN.out]; exact hk4.symm); omega); (· injection hk4 with hk4; simp at hk4; omega)); clear hgc hgf)
            have qN : (w4.setCell ⟨w2.heap.size, 0, none⟩ (.slice (some ⟨g, 0, none⟩) (l.length + 1) c2)).cell? ⟨w.heap.size + 1, 0, none⟩ = some (.slice none 0 0) := (World.cell?_setCell_far _ _ _ _ (by show w2.heap.size ≠ w.heap.size + 1; omega)).trans q4
            have bbN := bS (p := ⟨w2.heap.size, 0, none⟩) (b03.trans (bb4.mono (by omega))) (by show w.heap.size ≤ w2.heap.size; omega) (.slice (some ⟨g, 0, none⟩) (l.length + 1) c2)
            have HE1 : Hid (l.length + 1 = (files l ++ [(⟨n, bs, 0⟩ : File)]).length) := hid (by rw [List.length_append, files_length]; rfl)
            have HE2 : Hid ((files (l1 ++ [(⟨none, 0, ⟨n, [], 0⟩⟩ : MFile)])).set l.length (addD bs ((⟨none, 0, ⟨n, [], 0⟩⟩ : MFile)).f) = files l ++ [⟨n, bs, 0⟩]) := hid (app_new_files HF.out n bs)
            have HOFF : Hid (∀ (i : Nat) (x : MFile) (k : Nat), (l1 ++ [(⟨none, 0, ⟨n, [], 0⟩⟩ : MFile)])[i]? = some x → x.ml.blk = some k → k ≠ w2.heap.size) := hid fun i x k hx hk => by
              rcases Nat.lt_or_ge i l1.length with hi | hi
              · rw [List.getElem?_append_left hi] at hx
                have := (hown.2.lt (i := i) (x := x.ml) (k := k) (by rw [List.getElem?_map, hx]; rfl) hk).2
                omega
              · rw [List.getElem?_append_right hi] at hx
                rcases Nat.eq_zero_or_pos (i - l1.length) with h0 | h0
                · rw [h0] at hx; injection hx with hx; rw [← hx] at hk; cases hk
                · rw [List.getElem?_eq_none (by simp; omega)] at hx; cases hx
            generalize hx0 : (⟨none, 0, ⟨n, [], 0⟩⟩ : MFile) = x0 at *
            generalize hl2 : l1 ++ [x0] = l2 at *
            have HX2 : Hid (l2[l.length]? = some x0) := HXN
            have hlk : x0.f.data.length ≤ 0 := by rw [← hx0]; exact Nat.le_refl _
            have HKS : Hid (Hid (∀ k', (Value.slice x0.A (x0.f.data.length + 0) x0.c).ownBlock = some k' → k' ≠ w2.heap.size)) := hid (hid fun k' hk' => by rw [← hx0] at hk'; cases hk')
            have HG2 := hid (FGrid.storeOff hown4 0 (fun k hk e => by subst e; injection hk with hk; exact hHg hk.symm) HOFF.out (.slice (some ⟨g, 0, none⟩) (l.length + 1) c2))
            have hkz : (l.length : Int) < (l.length : Int) + 1 := by omega
            go_wp2_with fail
            go_loopw [10] (ApRel l2 x0 bs l.length c2 g (l.length + 1) w w1.heap.size w2.heap.size) (fun i _ => bs.length - (intOf i).toNat)
            case atStart => exact ⟨0, x0.A, x0.c, by omega, rfl, hid (by rw [set_start HX2.out]; exact HG2.out), HKS.out, (World.cell?_setCell_same _ _ _ gH4), qN, (fun o => by simpa using qf4 o), bbN, (by simpa using hHs4)⟩
            case round =>
              clear gH4 gHf4 q4 qf4 gH gHf q qf qN HG2 HKS d1
              obtain ⟨j, Aj, cj, hj, rfl, HGJ, HKB, gH, q, qf, hbel, hHs⟩ := hrel
              have hgr := HGJ.out
              by_cases hlt : j < bs.length
              · obtain ⟨v, hv⟩ : ∃ v, bs[j]? = some v := ⟨_, List.getElem?_eq_getElem hlt⟩
                obtain ⟨bb, bo, rfl, hbb, cv⟩ := u8_cell (hb.below hbel) rfl hv
                have hkl : l.length < l2.length := (List.getElem?_eq_some_iff.1 HX2.out).1
                have HXJ : Hid ((l2.set l.length ⟨Aj, cj, addD (bs.take j) x0.f⟩)[l.length]? = some ⟨Aj, cj, addD (bs.take j) x0.f⟩) := hid (List.getElem?_set_self hkl)
                have HLJ0 : Hid ((x0.f.data ++ bs.take j).length = x0.f.data.length + j) := hid (by rw [List.length_append, List.length_take]; omega)
                have HLJ : Hid ((x0.f.data ++ bs.take (j + 1)).length = x0.f.data.length + j + 1) := hid (by rw [List.length_append, List.length_take]; omega)
                have HTJ : Hid ((x0.f.data ++ bs.take (j + 1)).flatMap u8c = (x0.f.data ++ bs.take j).flatMap u8c ++ [.int .u8 v]) := hid (by rw [take_next hv, ← List.append_assoc, List.flatMap_append]; rfl)
                obtain ⟨gq, hgq, hgb, hgs, hgc, hgf, -⟩ := heap_set (cells := MFile.cells) (sz := 3) (y := ⟨Aj, cj, addD (bs.take j) x0.f⟩) (j := 1) (v := .slice Aj (addD (bs.take j) x0.f).data.length cj) (fun _ => rfl) hgr.1 HXJ.out (by decide) (by simp [MFile.cells]) (fun _ hp => by cases hp)
                injection hgq with hgq
                injection hgq with e1 e2
                subst e1
                have d1 := hgc 1 _ rfl
                have hrow : wr.ownsRow w1.heap.size 5 1 (.slice Aj (x0.f.data.length + j) cj) (x0.f.data.length + j) ((x0.f.data ++ bs.take j).flatMap u8c) := by
                  have h := OwnGrid.row hgr HXJ.out
                  have h2 : wr.ownsRow w1.heap.size 5 1 (.slice Aj (x0.f.data ++ bs.take j).length cj) (x0.f.data ++ bs.take j).length ((x0.f.data ++ bs.take j).flatMap u8c) := h
                  rw [HLJ0.out] at h2
                  exact h2
                have d1' : wr.cell? ⟨g, l.length * 3 + 1, none⟩ = some (.slice Aj (x0.f.data.length + j) cj) := by
                  have h2 : wr.cell? ⟨g, l.length * 3 + 1, none⟩ = some (.slice Aj (x0.f.data ++ bs.take j).length cj) := d1
                  rw [HLJ0.out] at h2
                  exact h2
                have hlb : (x0.f.data.length + j + 1) * 1 ≤ 140737488355328 := by omega
                have hbas : ∀ o, w1.heap.size ≤ (wr.drew.alloc o).heap.size := fun o => by simp; omega
                have hjz : (j : Int) < (bs.length : Int) := by omega
                have HV := hid hv
                have hqg : w.heap.size + 1 ≠ g := by omega
                have hhow : ∀ (o : Obj) (w5 : World), Below w1.heap.size (wr.drew.alloc o) w5 → (wr.drew.alloc o).grownBy w5 (Value.slice Aj (x0.f.data.length + j) cj).ownBlock → w5.cell? ⟨w2.heap.size, 0, none⟩ = some (.slice (some ⟨g, 0, none⟩) (l.length + 1) c2) ∧ w5.cell? ⟨w.heap.size + 1, 0, none⟩ = some (.slice none 0 0) ∧ (∀ o, w5.frozen? ⟨w.heap.size + 1, o, none⟩ = false) ∧ Below w.heap.size w w5 ∧ w2.heap.size < w5.heap.size ∧ w5.cell? ⟨bb, bo + j, none⟩ = some (.int .u8 v) := fun o w5 h hg => by
                  have h3 := (((Below.refl w1.heap.size wr).drew).alloc (by simp; omega) o).trans h
                  exact ⟨(hg.cell_far ⟨w2.heap.size, 0, none⟩ (by simp; omega) (fun e => HKB.out w2.heap.size e.symm rfl)).trans (keepb (bA (bD (Below.refl wr.heap.size wr)) o) gH), (h3.cell (p := ⟨w.heap.size + 1, 0, none⟩) (by show w.heap.size + 1 < w1.heap.size; omega)).trans q, fun o => (h3.frozen (p := ⟨w.heap.size + 1, o, none⟩) (by show w.heap.size + 1 < w1.heap.size; omega)).trans (qf o), hbel.trans (h3.mono (by omega)), Nat.lt_of_lt_of_le hHs h3.size, (h3.cell (p := ⟨bb, bo + j, none⟩) (by show bb < w1.heap.size; omega)).trans cv⟩
                have HK : Hid (∀ V, Below wr.heap.size wr V → ((fun V => V.cell? ⟨w2.heap.size, 0, none⟩ = some (.slice (some ⟨g, 0, none⟩) (l.length + 1) c2) ∧ V.cell? ⟨g, l.length * 3 + 1, none⟩ = some (.slice Aj (x0.f.data.length + j) cj) ∧ V.cell? ⟨bb, bo + j, none⟩ = some (.int .u8 v)) : World → Prop) V) := hid fun V hV => ⟨keepb hV gH, keepb hV d1', keepb hV cv⟩
                clear hgc hgf hv d1
                go_wp2_with fail
                refine wp_region_F (S := (fun V => V.cell? ⟨w2.heap.size, 0, none⟩ = some (.slice (some ⟨g, 0, none⟩) (l.length + 1) c2) ∧ V.cell? ⟨g, l.length * 3 + 1, none⟩ = some (.slice Aj (x0.f.data.length + j) cj) ∧ V.cell? ⟨bb, bo + j, none⟩ = some (.int .u8 v))) [17] (by kernel_rfl) (HK.out _ (bD (Below.refl _ _))) (fun hHeld => ?_)
                refine wpAnyF_pure (i := 0) (v := ?vg2_1_0) rfl (by kernel_rfl) (by kernel_rfl) (by kernel_rfl) (fun _ _ _ h => h) (Or.inl ⟨by rfl, ?hyg2_1_0⟩) ?restg2_1_0
                case hyg2_1_0 => (intro w hSw; clear hSw; go_simp; (all_goals with_reducible rfl))
                try simp only [Act.put, List.setIfInBounds_toArray, List.set_cons_zero, List.set_cons_succ, List.getElem_toArray, List.getElem_cons_succ, List.getElem_cons_zero]
                refine wpAnyF_pure (i := 2) (v := ?vg2_2_2) rfl (by kernel_rfl) (by kernel_rfl) (by kernel_rfl) (fun _ _ _ h => h) (Or.inl ⟨by rfl, ?hyg2_2_2⟩) ?restg2_2_2
                case hyg2_2_2 => (intro w hSw; clear hSw; go_simp; (all_goals with_reducible rfl))
                try simp only [Act.put, List.setIfInBounds_toArray, List.set_cons_zero, List.set_cons_succ, List.getElem_toArray, List.getElem_cons_succ, List.getElem_cons_zero]
                refine wpAnyF_pure (i := 3) (v := ?vg2_3_3) rfl (by kernel_rfl) (by kernel_rfl) (by kernel_rfl) (fun _ _ _ h => h) (Or.inl ⟨by rfl, ?hyg2_3_3⟩) ?restg2_3_3
                case hyg2_3_3 => (intro w hSw; clear hSw; go_simp; (all_goals with_reducible rfl))
                try simp only [Act.put, List.setIfInBounds_toArray, List.set_cons_zero, List.set_cons_succ, List.getElem_toArray, List.getElem_cons_succ, List.getElem_cons_zero]
                refine wpAnyF_pure (i := 5) (v := ?vg2_4_5) rfl (by kernel_rfl) (by kernel_rfl) (by kernel_rfl) (fun _ _ _ h => h) (Or.inl ⟨by rfl, ?hyg2_4_5⟩) ?restg2_4_5
                case hyg2_4_5 => (intro w hSw; clear hSw; go_simp; (all_goals with_reducible rfl))
                try simp only [Act.put, List.setIfInBounds_toArray, List.set_cons_zero, List.set_cons_succ, List.getElem_toArray, List.getElem_cons_succ, List.getElem_cons_zero]
                refine wpAnyF_pure (i := 9) (v := ?vg2_5_9) rfl (by kernel_rfl) (by kernel_rfl) (by kernel_rfl) (fun _ _ _ h => h) (Or.inl ⟨by rfl, ?hyg2_5_9⟩) ?restg2_5_9
                case hyg2_5_9 => (intro w hSw; clear hSw; go_simp; (all_goals with_reducible rfl))
                try simp only [Act.put, List.setIfInBounds_toArray, List.set_cons_zero, List.set_cons_succ, List.getElem_toArray, List.getElem_cons_succ, List.getElem_cons_zero]
                refine wpAnyF_pure (i := 10) (v := ?vg2_6_10) rfl (by kernel_rfl) (by kernel_rfl) (by kernel_rfl) (fun _ _ _ h => h) (Or.inl ⟨by rfl, ?hyg2_6_10⟩) ?restg2_6_10
                case hyg2_6_10 => (intro w hSw; clear hSw; go_simp; (all_goals with_reducible rfl))
                try simp only [Act.put, List.setIfInBounds_toArray, List.set_cons_zero, List.set_cons_succ, List.getElem_toArray, List.getElem_cons_succ, List.getElem_cons_zero]
                refine wpAnyF_pure (i := 11) (v := ?vg2_7_11) rfl (by kernel_rfl) (by kernel_rfl) (by kernel_rfl) (fun _ _ _ h => h) (Or.inl ⟨by rfl, ?hyg2_7_11⟩) ?restg2_7_11
                case hyg2_7_11 => (intro w hSw; clear hSw; go_simp; (all_goals with_reducible rfl))
                try simp only [Act.put, List.setIfInBounds_toArray, List.set_cons_zero, List.set_cons_succ, List.getElem_toArray, List.getElem_cons_succ, List.getElem_cons_zero]
                refine wpAnyF_take [15, 16, 17] (i := 1) (v := ?vg2_8_1) rfl (by kernel_rfl) (by kernel_rfl) (by kernel_rfl) (by kernel_rfl) (fun _ _ _ h => h) (Or.inl ⟨by rfl, ?hyg2_8_1⟩) (by assumption) ?restg2_8_1
                case hyg2_8_1 => (intro w hSw; (try dsimp only at hSw); go_simp; (all_goals with_reducible rfl))
                try simp only [Act.put, List.setIfInBounds_toArray, List.set_cons_zero, List.set_cons_succ, List.getElem_toArray, List.getElem_cons_succ, List.getElem_cons_zero]
                refine wpAnyF_take [6, 7, 8, 14, 15, 16, 17] (i := 4) (v := ?vg2_9_4) rfl (by kernel_rfl) (by kernel_rfl) (by kernel_rfl) (by kernel_rfl) (fun _ _ _ h => h) (Or.inl ⟨by rfl, ?hyg2_9_4⟩) (by assumption) ?restg2_9_4
                case hyg2_9_4 => (intro w hSw; (try dsimp only at hSw); go_simp; (all_goals with_reducible rfl))
                try simp only [Act.put, List.setIfInBounds_toArray, List.set_cons_zero, List.set_cons_succ, List.getElem_toArray, List.getElem_cons_succ, List.getElem_cons_zero]
                refine wpAnyF_pure (i := 6) (v := ?vg2_10_6) rfl (by kernel_rfl) (by kernel_rfl) (by kernel_rfl) (fun _ _ _ h => h) (Or.inl ⟨by rfl, ?hyg2_10_6⟩) ?restg2_10_6
                case hyg2_10_6 => (intro w hSw; clear hSw; go_simp; (all_goals with_reducible rfl))
                try simp only [Act.put, List.setIfInBounds_toArray, List.set_cons_zero, List.set_cons_succ, List.getElem_toArray, List.getElem_cons_succ, List.getElem_cons_zero]
                refine wpAnyF_pure (i := 7) (v := ?vg2_11_7) rfl (by kernel_rfl) (by kernel_rfl) (by kernel_rfl) (fun _ _ _ h => h) (Or.inl ⟨by rfl, ?hyg2_11_7⟩) ?restg2_11_7
                case hyg2_11_7 => (intro w hSw; clear hSw; go_simp; (all_goals with_reducible rfl))
                try simp only [Act.put, List.setIfInBounds_toArray, List.set_cons_zero, List.set_cons_succ, List.getElem_toArray, List.getElem_cons_succ, List.getElem_cons_zero]
                refine wpAnyF_take [14, 15, 16, 17] (i := 8) (v := ?vg2_12_8) rfl (by kernel_rfl) (by kernel_rfl) (by kernel_rfl) (by kernel_rfl) (fun _ _ _ h => h) (Or.inl ⟨by rfl, ?hyg2_12_8⟩) (by assumption) ?restg2_12_8
                case hyg2_12_8 => (intro w hSw; (try dsimp only at hSw); go_simp; (all_goals with_reducible rfl))
                try simp only [Act.put, List.setIfInBounds_toArray, List.set_cons_zero, List.set_cons_succ, List.getElem_toArray, List.getElem_cons_succ, List.getElem_cons_zero]
                refine wpAnyF_take [13, 14, 15, 16, 17] (i := 12) (v := ?vg2_13_12) rfl (by kernel_rfl) (by kernel_rfl) (by kernel_rfl) (by kernel_rfl) (fun _ _ _ h => h) (Or.inl ⟨by rfl, ?hyg2_13_12⟩) (by assumption) ?restg2_13_12
                case hyg2_13_12 => (intro w hSw; (try dsimp only at hSw); go_simp; (all_goals with_reducible rfl))
                try simp only [Act.put, List.setIfInBounds_toArray, List.set_cons_zero, List.set_cons_succ, List.getElem_toArray, List.getElem_cons_succ, List.getElem_cons_zero]
                refine wpAnyF_one (i := 13) (by kernel_rfl) rfl (fun K hK => ?_)
                go_simp
                refine hK.out _ _ (HK.out _ (bA (bD (Below.refl _ _)) _)) (fun hHeld => ?_)
                clear hK K
                try simp only [Act.put, List.setIfInBounds_toArray, List.set_cons_zero, List.set_cons_succ, List.getElem_toArray, List.getElem_cons_succ, List.getElem_cons_zero]
                refine wpAnyF_one (i := 14) (by kernel_rfl) rfl (fun K hK => ?_)
                refine step_app3 rfl rfl el_bytes rfl (own_below hrow (bA (bD (Below.refl _ _)) _) (Nat.le_refl _)) rfl (rd_newAt _ _ _ 1 1 _ (by simp) rfl) (one_cell1 _ rfl) hlb (hbas _) ?_
                intro A5 c5 w5 hown5 hb5 hg5 hk5
                obtain ⟨g5, h5A, -, h5s, h5c, h5f, h5g⟩ := OwnGrid.put (y := (⟨A5, c5, addD (bs.take (j + 1)) x0.f⟩ : MFile)) (j := 1) (v := .slice A5 (x0.f.data.length + j + 1) c5) (OwnGrid.below hgr (bA (bD (Below.refl wr.heap.size wr)) _) (Nat.le_refl _)) HXJ.out (by show w5.ownsRow w1.heap.size _ 1 (.slice A5 (x0.f.data ++ bs.take (j + 1)).length c5) (x0.f.data ++ bs.take (j + 1)).length ((x0.f.data ++ bs.take (j + 1)).flatMap u8c); rw [HLJ.out, HTJ.out]; exact hown5) (by show World.grownBy _ _ (Value.slice Aj (x0.f.data ++ bs.take j).length cj).ownBlock; rw [HLJ0.out]; exact hg5) (by show (Value.slice A5 (x0.f.data ++ bs.take (j + 1)).length c5).ownBlock = (Value.slice Aj (x0.f.data ++ bs.take j).length cj).ownBlock ∨ (Value.slice A5 (x0.f.data ++ bs.take (j + 1)).length c5).ownBlock = some (wr.drew.alloc _).heap.size; rw [HLJ.out, HLJ0.out]; exact hk5) (fun _ => rfl) (by decide) (by show MFile.cells ⟨A5, c5, addD (bs.take (j + 1)) x0.f⟩ = _; simp only [MFile.cells, addD]; rw [HLJ.out]; rfl)
                injection h5A with h5A; injection h5A with e1 e2; subst e1
                rw [List.set_set] at h5g
                have H5G := hid h5g
                have d5 := h5c 1 _ rfl
                have f5 := h5f (l.length * 3 + 1)
                obtain ⟨gH5, q5, qf5, hbx, hHs5, cv5⟩ := hhow _ _ hb5 hg5
                have d5b : w5.cell? ⟨g, l.length * 3 + 1, none⟩ = some (.slice Aj (x0.f.data.length + j) cj) := (by have h2 : w5.cell? ⟨g, l.length * 3 + 1, none⟩ = some (.slice Aj (x0.f.data ++ bs.take j).length cj) := d5; rw [HLJ0.out] at h2; exact h2)
                have H5K : Hid (∀ k', (Value.slice A5 (x0.f.data.length + (j + 1)) c5).ownBlock = some k' → k' ≠ w2.heap.size) := hid fun k' hk' => (by rcases hk5 with hk5 | hk5; (· rw [← Nat.add_assoc, hk5] at hk'; exact HKB.out k' hk'); (· rw [← Nat.add_assoc, hk5] at hk'; injection hk' with hk'; simp at hk'; omega))
                clear h5c h5f h5g hb5 hg5 hk5 hown5
                refine hK.out _ _ ⟨gH5, d5b, cv5⟩ (fun hHeld => ?_)
                clear hK K
                try simp only [Act.put, List.setIfInBounds_toArray, List.set_cons_zero, List.set_cons_succ, List.getElem_toArray, List.getElem_cons_succ, List.getElem_cons_zero]
                refine wpAnyF_pure (i := 15) (v := ?vg2_16_15) rfl (by kernel_rfl) (by kernel_rfl) (by kernel_rfl) (fun _ _ _ h => h) (Or.inl ⟨by rfl, ?hyg2_16_15⟩) ?restg2_16_15
                case hyg2_16_15 => (intro w hSw; clear hSw; go_simp; (all_goals with_reducible rfl))
                try simp only [Act.put, List.setIfInBounds_toArray, List.set_cons_zero, List.set_cons_succ, List.getElem_toArray, List.getElem_cons_succ, List.getElem_cons_zero]
                refine wpAnyF_pure (i := 16) (v := ?vg2_17_16) rfl (by kernel_rfl) (by kernel_rfl) (by kernel_rfl) (fun _ _ _ h => h) (Or.inl ⟨by rfl, ?hyg2_17_16⟩) ?restg2_17_16
                case hyg2_17_16 => (intro w hSw; clear hSw; go_simp; (all_goals with_reducible rfl))
                try simp only [Act.put, List.setIfInBounds_toArray, List.set_cons_zero, List.set_cons_succ, List.getElem_toArray, List.getElem_cons_succ, List.getElem_cons_zero]
                refine wpAnyF_oneD (i := 17) (by kernel_rfl) (by kernel_rfl) rfl (fun K hK => ?_)
                go_simp
                refine hK.out _ _ ?_
                clear hK K
                try simp only [Act.put, List.setIfInBounds_toArray, List.set_cons_zero, List.set_cons_succ, List.getElem_toArray, List.getElem_cons_succ, List.getElem_cons_zero]
                refine wpAnyF_done (by kernel_rfl) ?_ _
                all_goals
                  go_wp2_with fail
                  go_roundw
                  case rel => exact ⟨j + 1, A5, c5, by omega, by go_num, hid H5G.out, H5K, (World.cell?_setCell_far _ _ _ _ (by show g ≠ w2.heap.size; omega)).trans gH5, (World.cell?_setCell_far _ _ _ _ (by show g ≠ w.heap.size + 1; omega)).trans q5, fun o => by simpa using qf5 o, bS hbx (by show w.heap.size ≤ g; omega) _, by simpa using hHs5⟩
                  case measure => simp [intOf]; omega
              · obtain rfl : j = bs.length := by omega
                have hjz : ¬ ((bs.length : Int) < (bs.length : Int)) := by omega
                rw [List.take_of_length_le (Nat.le_refl _)] at hgr
                have HG5 := hid hgr
                clear hgr HGJ HKB
                go_wp2_with fail
                refine bodyPost_ret (v := .tuple #[.agg #[.slice (some ⟨g, 0, none⟩) (l.length + 1) c2], .int .i64 0]) (by simp [results, Try.results85, go_sem, *]) rfl ?_
                refine ⟨some ⟨g, 0, none⟩, c2, l2.set l.length ⟨Aj, cj, addD bs x0.f⟩, by rw [← HE1.out], by rw [files_set]; exact HE2.out, ?_, ?_⟩
                · exact OwnGrid.less (OwnGrid.store HG5.out (by show w.heap.size + 1 < w1.heap.size; omega) _) (by omega)
                · exact bS hbel (by show w.heap.size ≤ w.heap.size + 1; omega) _
          · rw [appF_newbig hok hsz hk h4 (by omega)]
            have h5z : (100000 : Int) < (bs.length : Int) := by omega
            go_enter Try.func85, Try.ntmps85
            go_wp2_with fail
            refine HM.out.mono ?_
            rintro e w1 ⟨rfl, b1⟩
            have b01 := bT b0 b1
            have g0 : w1.cell? ⟨w.heap.size, 0, none⟩ = some (.slice A l.length c) := keepb b1 (by go_simp)
            have q : w1.cell? ⟨w.heap.size + 1, 0, none⟩ = some (.slice none 0 0) := keepb b1 (by go_simp)
            have qf : ∀ o, w1.frozen? ⟨w.heap.size + 1, o, none⟩ = false := fun o => by rw [(bcell b1).2 _ _ (by simp)]; go_simp
            have qz : w.heap.size + 2 ≤ w1.heap.size := by have := b1.size; simpa using this
            have HC := hid (DiskCopy_own l w1 A c (Files.b hr b01) hn hm.1)
            have hfa := FileAt_walk l n
            rw [hk, hat] at hfa
            have HFA := hid hfa
            clear hfa HM
            clear hok hk hsz hat h4
            go_wp2_with fail
            refine (In_walk _ _ _ _).mono ?_
            rintro e w2 ⟨rfl, rfl⟩
            rw [i1]
            go_wp2_with fail
            refine HC.out.mono ?_
            rintro e w2 ⟨A1, c1, l1, rfl, hf, hln, hown, b2⟩
            have HF := hid hf
            have HLN := hid hln
            clear hf hln
            have b02 := bT b01 b2
            have g0 := keepb b2 g0
            have q := keepb b2 q
            have qf : ∀ o, w2.frozen? ⟨w.heap.size + 1, o, none⟩ = false := fun o => keepf b2 (qf o) (by show w.heap.size + 1 < _; omega)
            have qz2 : w.heap.size + 2 ≤ w2.heap.size := Nat.le_trans qz b2.size
            have b0X := bA b02 (.cells #[.slice A1 l.length c1] 66)
            have hws : w.heap.size < w2.heap.size := by omega
            have hws1 : w.heap.size ≠ w2.heap.size := by omega
            have HFA2 := hid (HFA.out (w2.alloc (.cells #[.slice A1 l.length c1] 66)) A c (rdb hr.1 (by decide) b0X) (by omega))
            go_wp2_with fail
            refine HFA2.out.mono ?_
            rintro e w3 ⟨rfl, b3⟩
            have b03 := bT b0X b3
            have g0 := keepb b3 (keepb (bA (Below.refl w2.heap.size w2) _) g0)
            have q := keepb b3 (keepb (bA (Below.refl w2.heap.size w2) _) q)
            have qf : ∀ o, w3.frozen? ⟨w.heap.size + 1, o, none⟩ = false := fun o => keepf b3 (keepf (bA (Below.refl w2.heap.size w2) _) (qf o) (by show w.heap.size + 1 < _; omega)) (by simp; omega)
            have gH : w3.cell? ⟨w2.heap.size, 0, none⟩ = some (.slice A1 l.length c1) := keepb b3 (by go_simp)
            have gHf : w3.frozen? ⟨w2.heap.size, 0, none⟩ = false := keepf b3 (by go_simp) (by simp)
            have hHs : w2.heap.size < w3.heap.size := by have := b3.size; simp at this; omega
            have hqH : w.heap.size + 1 ≠ w2.heap.size := by omega
            have bX3 := bT (bA (Below.refl w2.heap.size w2) _) b3
            have qz3 : w.heap.size + 1 < w3.heap.size := by omega
            have hown3 := OwnGrid.below hown bX3 (Nat.le_refl _)
            have hbase : ∀ o, w1.heap.size ≤ (w3.alloc o).heap.size := fun o => by have := b2.size; simp; omega
            have hoN : (MFile.ml (⟨none, 0, ⟨n, [], 0⟩⟩ : MFile)).own u8c 5 1 (w3.alloc (.cells #[.string n, .slice none 0 0, .int .i64 0] 131)) w1.heap.size := World.ownsRow_nil _ _ _ _
            have hAl := hown.1.1.lt
            have hGH : w1.heap.size ≤ w2.heap.size := b2.size
            have hGq : w.heap.size + 1 < w1.heap.size := by omega
            have hH3 : w2.heap.size ≠ w3.heap.size := by omega
            have hhow : ∀ (o : Obj) (w4 : World), Below w1.heap.size (w3.alloc o) w4 → (w3.alloc o).grownBy w4 (Value.slice A1 l.length c1).ownBlock → w4.cell? ⟨w2.heap.size, 0, none⟩ = some (.slice A1 l.length c1) ∧ w4.frozen? ⟨w2.heap.size, 0, none⟩ = false ∧ w4.cell? ⟨w.heap.size + 1, 0, none⟩ = some (.slice none 0 0) ∧ (∀ o, w4.frozen? ⟨w.heap.size + 1, o, none⟩ = false) ∧ Below w1.heap.size w3 w4 ∧ w2.heap.size < w4.heap.size := fun o w4 h hg => by
              have h3 := ((Below.refl w1.heap.size w3).alloc (by omega) o).trans h
              have hne : some (⟨w2.heap.size, 0, none⟩ : Addr).block ≠ (Value.slice A1 l.length c1).ownBlock := fun e => by
                rw [← HLN.out] at e
                have := (hAl _ e.symm).2
                simp at this
              exact ⟨(hg.cell_far ⟨w2.heap.size, 0, none⟩ (by simp; omega) hne).trans (keepb (bA (Below.refl w3.heap.size w3) o) gH), (hg.frozen_far ⟨w2.heap.size, 0, none⟩ (by simp; omega) hne).trans (keepf (bA (Below.refl w3.heap.size w3) o) gHf hHs), (h3.cell (p := ⟨w.heap.size + 1, 0, none⟩) (by show w.heap.size + 1 < w1.heap.size; omega)).trans q, fun o => (h3.frozen (p := ⟨w.heap.size + 1, o, none⟩) (by show w.heap.size + 1 < w1.heap.size; omega)).trans (qf o), h3, Nat.lt_of_lt_of_le hHs h3.size⟩
            have HXN : Hid ((l1 ++ [(⟨none, 0, ⟨n, [], 0⟩⟩ : MFile)])[l.length]? = some (⟨none, 0, ⟨n, [], 0⟩⟩ : MFile)) := hid (by rw [← HLN.out]; simp)
            have hl2 : (l1 ++ [(⟨none, 0, ⟨n, [], 0⟩⟩ : MFile)]).length = l.length + 1 := by rw [List.length_append, HLN.out]; rfl
            have HL2 := hid hl2
            clear hl2
            go_wp2_with (at_builtin; refine wp_grid3 (cells := u8c) (inner := MFile.ml) (sz := 1) _ rfl rfl el_files rfl HLN.out.symm (OwnGrid.alloc hown3 _) (⟨none, 0, ⟨n, [], 0⟩⟩ : MFile) hoN aside_nil rfl (rd_newAt _ _ _ 3 1 _ (by simp) rfl) (one_file _) hl39 (hbase _) ?_; intro A2 c2 w4 hown4 hb4 hg4 hk4; obtain ⟨g, rfl, hgb, hgs, hgc, hgf, -⟩ := heap_set (cells := MFile.cells) (sz := 3) (y := (⟨none, 0, ⟨n, [], 0⟩⟩ : MFile)) (j := 1) (v := .slice none 0 0) (fun _ => rfl) hown4.1 HXN.out (by decide) (by simp [MFile.cells]) (fun _ hp => by cases hp); have d1 := hgc 1 _ rfl; simp only [List.length_nil] at d1; obtain ⟨gH4, gHf4, q4, qf4, bb4, hHs4⟩ := hhow _ _ hb4 hg4; have hHg : w2.heap.size ≠ g := (by intro e; rcases hk4 with hk4 | hk4; (· have h1 := hAl g (by rw [HLN.out]; exact hk4.symm); omega); (· injection hk4 with hk4; simp at hk4; omega)); clear hgc hgf)
            have qN : (w4.setCell ⟨w2.heap.size, 0, none⟩ (.slice (some ⟨g, 0, none⟩) (l.length + 1) c2)).cell? ⟨w.heap.size + 1, 0, none⟩ = some (.slice none 0 0) := (World.cell?_setCell_far _ _ _ _ (by show w2.heap.size ≠ w.heap.size + 1; omega)).trans q4
            have bbN := bS (p := ⟨w2.heap.size, 0, none⟩) (b03.trans (bb4.mono (by omega))) (by show w.heap.size ≤ w2.heap.size; omega) (.slice (some ⟨g, 0, none⟩) (l.length + 1) c2)
            have q := qN
            go_wp2_with fail
            exact bodyPost_ret (v := .tuple #[.agg #[.slice none 0 0], .int .i64 10]) (by simp [results, Try.results85, go_sem, *]) rfl (retDG_bad _ _ _ (bS bbN (by show w.heap.size ≤ w.heap.size + 1; omega) _))
      | some k =>
        have hat : (atI (some k) : Int) = (k : Int) := rfl
        obtain ⟨x, hx, _, _⟩ := find_some hk
        have hkl := (List.getElem?_eq_some_iff.1 hx).1
        have hkz : (k : Int) < (l.length : Int) := by omega
        by_cases h5 : x.f.data.length + bs.length ≤ 100000
        · rw [appF_some hok hsz hk hx h5]
          have h5z : ¬ ((100000 : Int) - (x.f.data.length : Int) < (bs.length : Int)) := by omega
          go_enter Try.func85, Try.ntmps85
          go_wp2_with fail
          refine HM.out.mono ?_
          rintro e w1 ⟨rfl, b1⟩
          have b01 := bT b0 b1
          have g0 : w1.cell? ⟨w.heap.size, 0, none⟩ = some (.slice A l.length c) := keepb b1 (by go_simp)
          have q : w1.cell? ⟨w.heap.size + 1, 0, none⟩ = some (.slice none 0 0) := keepb b1 (by go_simp)
          have qf : ∀ o, w1.frozen? ⟨w.heap.size + 1, o, none⟩ = false := fun o => by rw [(bcell b1).2 _ _ (by simp)]; go_simp
          have qz : w.heap.size + 2 ≤ w1.heap.size := by have := b1.size; simpa using this
          have HC := hid (DiskCopy_own l w1 A c (Files.b hr b01) hn hm.1)
          have hfa := FileAt_walk l n
          rw [hk, hat] at hfa
          have HFA := hid hfa
          clear hfa HM
          go_wp2_with fail
          refine (In_walk _ _ _ _).mono ?_
          rintro e w2 ⟨rfl, rfl⟩
          rw [i1]
          go_wp2_with fail
          refine HC.out.mono ?_
          rintro e w2 ⟨A1, c1, l1, rfl, hf, hln, hown, b2⟩
          have HF := hid hf
          have HLN := hid hln
          clear hf hln
          have b02 := bT b01 b2
          have g0 := keepb b2 g0
          have q := keepb b2 q
          have qf : ∀ o, w2.frozen? ⟨w.heap.size + 1, o, none⟩ = false := fun o => keepf b2 (qf o) (by show w.heap.size + 1 < _; omega)
          have qz2 : w.heap.size + 2 ≤ w2.heap.size := Nat.le_trans qz b2.size
          have b0X := bA b02 (.cells #[.slice A1 l.length c1] 66)
          have hws : w.heap.size < w2.heap.size := by omega
          have hws1 : w.heap.size ≠ w2.heap.size := by omega
          have HFA2 := hid (HFA.out (w2.alloc (.cells #[.slice A1 l.length c1] 66)) A c (rdb hr.1 (by decide) b0X) (by omega))
          go_wp2_with fail
          refine HFA2.out.mono ?_
          rintro e w3 ⟨rfl, b3⟩
          have b03 := bT b0X b3
          have g0 := keepb b3 (keepb (bA (Below.refl w2.heap.size w2) _) g0)
          have q := keepb b3 (keepb (bA (Below.refl w2.heap.size w2) _) q)
          have qf : ∀ o, w3.frozen? ⟨w.heap.size + 1, o, none⟩ = false := fun o => keepf b3 (keepf (bA (Below.refl w2.heap.size w2) _) (qf o) (by show w.heap.size + 1 < _; omega)) (by simp; omega)
          have gH : w3.cell? ⟨w2.heap.size, 0, none⟩ = some (.slice A1 l.length c1) := keepb b3 (by go_simp)
          have gHf : w3.frozen? ⟨w2.heap.size, 0, none⟩ = false := keepf b3 (by go_simp) (by simp)
          have hHs : w2.heap.size < w3.heap.size := by have := b3.size; simp at this; omega
          have hqH : w.heap.size + 1 ≠ w2.heap.size := by omega
          have bX3 := bT (bA (Below.refl w2.heap.size w2) _) b3
          have qz3 : w.heap.size + 1 < w3.heap.size := by omega
          have hown3 := OwnGrid.below hown bX3 (Nat.le_refl _)
          obtain ⟨x', hx', hxx⟩ := files_get HF.out hx
          have HX2 := hid hx'
          obtain ⟨g, rfl, hgb, hgs, hgc, hgf, -⟩ := heap_set (cells := MFile.cells) (sz := 3) (y := x') (j := 1) (v := .slice x'.A x'.f.data.length x'.c) (fun _ => rfl) hown3.1 hx' (by decide) (by simp [MFile.cells]) (fun _ hp => by cases hp)
          have d1 := hgc 1 _ rfl
          clear hgc hgf
          have HXX := hid hxx
          have HE1 : Hid (l.length = ((files l).set k (addD bs x.f)).length) := hid (by rw [List.length_set, files_length])
          have HE2 : Hid ((files l1).set k (addD bs x'.f) = (files l).set k (addD bs x.f)) := hid (by rw [HF.out, HXX.out])
          rw [← hxx] at h5z h5
          have hHs2 : w2.heap.size < w3.heap.size := by omega
          have HG2 := hid hown3
          have HKS : Hid (Hid (∀ k', (Value.slice x'.A (x'.f.data.length + 0) x'.c).ownBlock = some k' → k' ≠ w2.heap.size)) := hid (hid fun k' hk' => by have := (World.ownsRow.lt (OwnGrid.row hown hx') k' hk').2; omega)
          have hGq : w.heap.size + 1 < w1.heap.size := by omega
          have hGH : w1.heap.size ≤ w2.heap.size := b2.size
          have hHg : w2.heap.size ≠ g := by have := (hown.1.1.lt g rfl).2; omega
          have hlk : x'.f.data.length ≤ 140737488255328 := by omega
          clear hok hk hsz hat hx hx' hxx hr
          go_wp2_with fail
          go_loopw [10] (ApRel l1 x' bs k c1 g l.length w w1.heap.size w2.heap.size) (fun i _ => bs.length - (intOf i).toNat)
          case atStart => exact ⟨0, x'.A, x'.c, by omega, rfl, hid (by rw [set_start HX2.out]; exact HG2.out), HKS.out, gH, q, qf, b03, hHs⟩
          case round =>
            clear d1 gHf gH q qf HG2 HKS
            obtain ⟨j, Aj, cj, hj, rfl, HGJ, HKB, gH, q, qf, hbel, hHs⟩ := hrel
            have hgr := HGJ.out
            by_cases hlt : j < bs.length
            · obtain ⟨v, hv⟩ : ∃ v, bs[j]? = some v := ⟨_, List.getElem?_eq_getElem hlt⟩
              obtain ⟨bb, bo, rfl, hbb, cv⟩ := u8_cell (hb.below hbel) rfl hv
              have hkl : k < l1.length := (List.getElem?_eq_some_iff.1 HX2.out).1
              have HXJ : Hid ((l1.set k ⟨Aj, cj, addD (bs.take j) x'.f⟩)[k]? = some ⟨Aj, cj, addD (bs.take j) x'.f⟩) := hid (List.getElem?_set_self hkl)
              have HLJ0 : Hid ((x'.f.data ++ bs.take j).length = x'.f.data.length + j) := hid (by rw [List.length_append, List.length_take]; omega)
              have HLJ : Hid ((x'.f.data ++ bs.take (j + 1)).length = x'.f.data.length + j + 1) := hid (by rw [List.length_append, List.length_take]; omega)
              have HTJ : Hid ((x'.f.data ++ bs.take (j + 1)).flatMap u8c = (x'.f.data ++ bs.take j).flatMap u8c ++ [.int .u8 v]) := hid (by rw [take_next hv, ← List.append_assoc, List.flatMap_append]; rfl)
              obtain ⟨gq, hgq, hgb, hgs, hgc, hgf, -⟩ := heap_set (cells := MFile.cells) (sz := 3) (y := ⟨Aj, cj, addD (bs.take j) x'.f⟩) (j := 1) (v := .slice Aj (addD (bs.take j) x'.f).data.length cj) (fun _ => rfl) hgr.1 HXJ.out (by decide) (by simp [MFile.cells]) (fun _ hp => by cases hp)
              injection hgq with hgq
              injection hgq with e1 e2
              subst e1
              have d1 := hgc 1 _ rfl
              have hrow : wr.ownsRow w1.heap.size 5 1 (.slice Aj (x'.f.data.length + j) cj) (x'.f.data.length + j) ((x'.f.data ++ bs.take j).flatMap u8c) := by
                have h := OwnGrid.row hgr HXJ.out
                have h2 : wr.ownsRow w1.heap.size 5 1 (.slice Aj (x'.f.data ++ bs.take j).length cj) (x'.f.data ++ bs.take j).length ((x'.f.data ++ bs.take j).flatMap u8c) := h
                rw [HLJ0.out] at h2
                exact h2
              have d1' : wr.cell? ⟨g, k * 3 + 1, none⟩ = some (.slice Aj (x'.f.data.length + j) cj) := by
                have h2 : wr.cell? ⟨g, k * 3 + 1, none⟩ = some (.slice Aj (x'.f.data ++ bs.take j).length cj) := d1
                rw [HLJ0.out] at h2
                exact h2
              have hlb : (x'.f.data.length + j + 1) * 1 ≤ 140737488355328 := by omega
              have hbas : ∀ o, w1.heap.size ≤ (wr.drew.alloc o).heap.size := fun o => by simp; omega
              have hjz : (j : Int) < (bs.length : Int) := by omega
              have HV := hid hv
              have hqg : w.heap.size + 1 ≠ g := by omega
              have hhow : ∀ (o : Obj) (w5 : World), Below w1.heap.size (wr.drew.alloc o) w5 → (wr.drew.alloc o).grownBy w5 (Value.slice Aj (x'.f.data.length + j) cj).ownBlock → w5.cell? ⟨w2.heap.size, 0, none⟩ = some (.slice (some ⟨g, 0, none⟩) l.length c1) ∧ w5.cell? ⟨w.heap.size + 1, 0, none⟩ = some (.slice none 0 0) ∧ (∀ o, w5.frozen? ⟨w.heap.size + 1, o, none⟩ = false) ∧ Below w.heap.size w w5 ∧ w2.heap.size < w5.heap.size ∧ w5.cell? ⟨bb, bo + j, none⟩ = some (.int .u8 v) := fun o w5 h hg => by
                have h3 := (((Below.refl w1.heap.size wr).drew).alloc (by simp; omega) o).trans h
                exact ⟨(hg.cell_far ⟨w2.heap.size, 0, none⟩ (by simp; omega) (fun e => HKB.out w2.heap.size e.symm rfl)).trans (keepb (bA (bD (Below.refl wr.heap.size wr)) o) gH), (h3.cell (p := ⟨w.heap.size + 1, 0, none⟩) (by show w.heap.size + 1 < w1.heap.size; omega)).trans q, fun o => (h3.frozen (p := ⟨w.heap.size + 1, o, none⟩) (by show w.heap.size + 1 < w1.heap.size; omega)).trans (qf o), hbel.trans (h3.mono (by omega)), Nat.lt_of_lt_of_le hHs h3.size, (h3.cell (p := ⟨bb, bo + j, none⟩) (by show bb < w1.heap.size; omega)).trans cv⟩
              have HK : Hid (∀ V, Below wr.heap.size wr V → ((fun V => V.cell? ⟨w2.heap.size, 0, none⟩ = some (.slice (some ⟨g, 0, none⟩) l.length c1) ∧ V.cell? ⟨g, k * 3 + 1, none⟩ = some (.slice Aj (x'.f.data.length + j) cj) ∧ V.cell? ⟨bb, bo + j, none⟩ = some (.int .u8 v)) : World → Prop) V) := hid fun V hV => ⟨keepb hV gH, keepb hV d1', keepb hV cv⟩
              clear hgc hgf hv d1
              go_wp2_with fail
              refine wp_region_F (S := (fun V => V.cell? ⟨w2.heap.size, 0, none⟩ = some (.slice (some ⟨g, 0, none⟩) l.length c1) ∧ V.cell? ⟨g, k * 3 + 1, none⟩ = some (.slice Aj (x'.f.data.length + j) cj) ∧ V.cell? ⟨bb, bo + j, none⟩ = some (.int .u8 v))) [17] (by kernel_rfl) (HK.out _ (bD (Below.refl _ _))) (fun hHeld => ?_)
              refine wpAnyF_pure (i := 0) (v := ?vg1_1_0) rfl (by kernel_rfl) (by kernel_rfl) (by kernel_rfl) (fun _ _ _ h => h) (Or.inl ⟨by rfl, ?hyg1_1_0⟩) ?restg1_1_0
              case hyg1_1_0 => (intro w hSw; clear hSw; go_simp; (all_goals with_reducible rfl))
              try simp only [Act.put, List.setIfInBounds_toArray, List.set_cons_zero, List.set_cons_succ, List.getElem_toArray, List.getElem_cons_succ, List.getElem_cons_zero]
              refine wpAnyF_pure (i := 2) (v := ?vg1_2_2) rfl (by kernel_rfl) (by kernel_rfl) (by kernel_rfl) (fun _ _ _ h => h) (Or.inl ⟨by rfl, ?hyg1_2_2⟩) ?restg1_2_2
              case hyg1_2_2 => (intro w hSw; clear hSw; go_simp; (all_goals with_reducible rfl))
              try simp only [Act.put, List.setIfInBounds_toArray, List.set_cons_zero, List.set_cons_succ, List.getElem_toArray, List.getElem_cons_succ, List.getElem_cons_zero]
              refine wpAnyF_pure (i := 3) (v := ?vg1_3_3) rfl (by kernel_rfl) (by kernel_rfl) (by kernel_rfl) (fun _ _ _ h => h) (Or.inl ⟨by rfl, ?hyg1_3_3⟩) ?restg1_3_3
              case hyg1_3_3 => (intro w hSw; clear hSw; go_simp; (all_goals with_reducible rfl))
              try simp only [Act.put, List.setIfInBounds_toArray, List.set_cons_zero, List.set_cons_succ, List.getElem_toArray, List.getElem_cons_succ, List.getElem_cons_zero]
              refine wpAnyF_pure (i := 5) (v := ?vg1_4_5) rfl (by kernel_rfl) (by kernel_rfl) (by kernel_rfl) (fun _ _ _ h => h) (Or.inl ⟨by rfl, ?hyg1_4_5⟩) ?restg1_4_5
              case hyg1_4_5 => (intro w hSw; clear hSw; go_simp; (all_goals with_reducible rfl))
              try simp only [Act.put, List.setIfInBounds_toArray, List.set_cons_zero, List.set_cons_succ, List.getElem_toArray, List.getElem_cons_succ, List.getElem_cons_zero]
              refine wpAnyF_pure (i := 9) (v := ?vg1_5_9) rfl (by kernel_rfl) (by kernel_rfl) (by kernel_rfl) (fun _ _ _ h => h) (Or.inl ⟨by rfl, ?hyg1_5_9⟩) ?restg1_5_9
              case hyg1_5_9 => (intro w hSw; clear hSw; go_simp; (all_goals with_reducible rfl))
              try simp only [Act.put, List.setIfInBounds_toArray, List.set_cons_zero, List.set_cons_succ, List.getElem_toArray, List.getElem_cons_succ, List.getElem_cons_zero]
              refine wpAnyF_pure (i := 10) (v := ?vg1_6_10) rfl (by kernel_rfl) (by kernel_rfl) (by kernel_rfl) (fun _ _ _ h => h) (Or.inl ⟨by rfl, ?hyg1_6_10⟩) ?restg1_6_10
              case hyg1_6_10 => (intro w hSw; clear hSw; go_simp; (all_goals with_reducible rfl))
              try simp only [Act.put, List.setIfInBounds_toArray, List.set_cons_zero, List.set_cons_succ, List.getElem_toArray, List.getElem_cons_succ, List.getElem_cons_zero]
              refine wpAnyF_pure (i := 11) (v := ?vg1_7_11) rfl (by kernel_rfl) (by kernel_rfl) (by kernel_rfl) (fun _ _ _ h => h) (Or.inl ⟨by rfl, ?hyg1_7_11⟩) ?restg1_7_11
              case hyg1_7_11 => (intro w hSw; clear hSw; go_simp; (all_goals with_reducible rfl))
              try simp only [Act.put, List.setIfInBounds_toArray, List.set_cons_zero, List.set_cons_succ, List.getElem_toArray, List.getElem_cons_succ, List.getElem_cons_zero]
              refine wpAnyF_take [15, 16, 17] (i := 1) (v := ?vg1_8_1) rfl (by kernel_rfl) (by kernel_rfl) (by kernel_rfl) (by kernel_rfl) (fun _ _ _ h => h) (Or.inl ⟨by rfl, ?hyg1_8_1⟩) (by assumption) ?restg1_8_1
              case hyg1_8_1 => (intro w hSw; (try dsimp only at hSw); go_simp; (all_goals with_reducible rfl))
              try simp only [Act.put, List.setIfInBounds_toArray, List.set_cons_zero, List.set_cons_succ, List.getElem_toArray, List.getElem_cons_succ, List.getElem_cons_zero]
              refine wpAnyF_take [6, 7, 8, 14, 15, 16, 17] (i := 4) (v := ?vg1_9_4) rfl (by kernel_rfl) (by kernel_rfl) (by kernel_rfl) (by kernel_rfl) (fun _ _ _ h => h) (Or.inl ⟨by rfl, ?hyg1_9_4⟩) (by assumption) ?restg1_9_4
              case hyg1_9_4 => (intro w hSw; (try dsimp only at hSw); go_simp; (all_goals with_reducible rfl))
              try simp only [Act.put, List.setIfInBounds_toArray, List.set_cons_zero, List.set_cons_succ, List.getElem_toArray, List.getElem_cons_succ, List.getElem_cons_zero]
              refine wpAnyF_pure (i := 6) (v := ?vg1_10_6) rfl (by kernel_rfl) (by kernel_rfl) (by kernel_rfl) (fun _ _ _ h => h) (Or.inl ⟨by rfl, ?hyg1_10_6⟩) ?restg1_10_6
              case hyg1_10_6 => (intro w hSw; clear hSw; go_simp; (all_goals with_reducible rfl))
              try simp only [Act.put, List.setIfInBounds_toArray, List.set_cons_zero, List.set_cons_succ, List.getElem_toArray, List.getElem_cons_succ, List.getElem_cons_zero]
              refine wpAnyF_pure (i := 7) (v := ?vg1_11_7) rfl (by kernel_rfl) (by kernel_rfl) (by kernel_rfl) (fun _ _ _ h => h) (Or.inl ⟨by rfl, ?hyg1_11_7⟩) ?restg1_11_7
              case hyg1_11_7 => (intro w hSw; clear hSw; go_simp; (all_goals with_reducible rfl))
              try simp only [Act.put, List.setIfInBounds_toArray, List.set_cons_zero, List.set_cons_succ, List.getElem_toArray, List.getElem_cons_succ, List.getElem_cons_zero]
              refine wpAnyF_take [14, 15, 16, 17] (i := 8) (v := ?vg1_12_8) rfl (by kernel_rfl) (by kernel_rfl) (by kernel_rfl) (by kernel_rfl) (fun _ _ _ h => h) (Or.inl ⟨by rfl, ?hyg1_12_8⟩) (by assumption) ?restg1_12_8
              case hyg1_12_8 => (intro w hSw; (try dsimp only at hSw); go_simp; (all_goals with_reducible rfl))
              try simp only [Act.put, List.setIfInBounds_toArray, List.set_cons_zero, List.set_cons_succ, List.getElem_toArray, List.getElem_cons_succ, List.getElem_cons_zero]
              refine wpAnyF_take [13, 14, 15, 16, 17] (i := 12) (v := ?vg1_13_12) rfl (by kernel_rfl) (by kernel_rfl) (by kernel_rfl) (by kernel_rfl) (fun _ _ _ h => h) (Or.inl ⟨by rfl, ?hyg1_13_12⟩) (by assumption) ?restg1_13_12
              case hyg1_13_12 => (intro w hSw; (try dsimp only at hSw); go_simp; (all_goals with_reducible rfl))
              try simp only [Act.put, List.setIfInBounds_toArray, List.set_cons_zero, List.set_cons_succ, List.getElem_toArray, List.getElem_cons_succ, List.getElem_cons_zero]
              refine wpAnyF_one (i := 13) (by kernel_rfl) rfl (fun K hK => ?_)
              go_simp
              refine hK.out _ _ (HK.out _ (bA (bD (Below.refl _ _)) _)) (fun hHeld => ?_)
              clear hK K
              try simp only [Act.put, List.setIfInBounds_toArray, List.set_cons_zero, List.set_cons_succ, List.getElem_toArray, List.getElem_cons_succ, List.getElem_cons_zero]
              refine wpAnyF_one (i := 14) (by kernel_rfl) rfl (fun K hK => ?_)
              refine step_app3 rfl rfl el_bytes rfl (own_below hrow (bA (bD (Below.refl _ _)) _) (Nat.le_refl _)) rfl (rd_newAt _ _ _ 1 1 _ (by simp) rfl) (one_cell1 _ rfl) hlb (hbas _) ?_
              intro A5 c5 w5 hown5 hb5 hg5 hk5
              obtain ⟨g5, h5A, -, h5s, h5c, h5f, h5g⟩ := OwnGrid.put (y := (⟨A5, c5, addD (bs.take (j + 1)) x'.f⟩ : MFile)) (j := 1) (v := .slice A5 (x'.f.data.length + j + 1) c5) (OwnGrid.below hgr (bA (bD (Below.refl wr.heap.size wr)) _) (Nat.le_refl _)) HXJ.out (by show w5.ownsRow w1.heap.size _ 1 (.slice A5 (x'.f.data ++ bs.take (j + 1)).length c5) (x'.f.data ++ bs.take (j + 1)).length ((x'.f.data ++ bs.take (j + 1)).flatMap u8c); rw [HLJ.out, HTJ.out]; exact hown5) (by show World.grownBy _ _ (Value.slice Aj (x'.f.data ++ bs.take j).length cj).ownBlock; rw [HLJ0.out]; exact hg5) (by show (Value.slice A5 (x'.f.data ++ bs.take (j + 1)).length c5).ownBlock = (Value.slice Aj (x'.f.data ++ bs.take j).length cj).ownBlock ∨ (Value.slice A5 (x'.f.data ++ bs.take (j + 1)).length c5).ownBlock = some (wr.drew.alloc _).heap.size; rw [HLJ.out, HLJ0.out]; exact hk5) (fun _ => rfl) (by decide) (by show MFile.cells ⟨A5, c5, addD (bs.take (j + 1)) x'.f⟩ = _; simp only [MFile.cells, addD]; rw [HLJ.out]; rfl)
              injection h5A with h5A; injection h5A with e1 e2; subst e1
              rw [List.set_set] at h5g
              have H5G := hid h5g
              have d5 := h5c 1 _ rfl
              have f5 := h5f (k * 3 + 1)
              obtain ⟨gH5, q5, qf5, hbx, hHs5, cv5⟩ := hhow _ _ hb5 hg5
              have d5b : w5.cell? ⟨g, k * 3 + 1, none⟩ = some (.slice Aj (x'.f.data.length + j) cj) := (by have h2 : w5.cell? ⟨g, k * 3 + 1, none⟩ = some (.slice Aj (x'.f.data ++ bs.take j).length cj) := d5; rw [HLJ0.out] at h2; exact h2)
              have H5K : Hid (∀ k', (Value.slice A5 (x'.f.data.length + (j + 1)) c5).ownBlock = some k' → k' ≠ w2.heap.size) := hid fun k' hk' => (by rcases hk5 with hk5 | hk5; (· rw [← Nat.add_assoc, hk5] at hk'; exact HKB.out k' hk'); (· rw [← Nat.add_assoc, hk5] at hk'; injection hk' with hk'; simp at hk'; omega))
              clear h5c h5f h5g hb5 hg5 hk5 hown5
              refine hK.out _ _ ⟨gH5, d5b, cv5⟩ (fun hHeld => ?_)
              clear hK K
              try simp only [Act.put, List.setIfInBounds_toArray, List.set_cons_zero, List.set_cons_succ, List.getElem_toArray, List.getElem_cons_succ, List.getElem_cons_zero]
              refine wpAnyF_pure (i := 15) (v := ?vg1_16_15) rfl (by kernel_rfl) (by kernel_rfl) (by kernel_rfl) (fun _ _ _ h => h) (Or.inl ⟨by rfl, ?hyg1_16_15⟩) ?restg1_16_15
              case hyg1_16_15 => (intro w hSw; clear hSw; go_simp; (all_goals with_reducible rfl))
              try simp only [Act.put, List.setIfInBounds_toArray, List.set_cons_zero, List.set_cons_succ, List.getElem_toArray, List.getElem_cons_succ, List.getElem_cons_zero]
              refine wpAnyF_pure (i := 16) (v := ?vg1_17_16) rfl (by kernel_rfl) (by kernel_rfl) (by kernel_rfl) (fun _ _ _ h => h) (Or.inl ⟨by rfl, ?hyg1_17_16⟩) ?restg1_17_16
              case hyg1_17_16 => (intro w hSw; clear hSw; go_simp; (all_goals with_reducible rfl))
              try simp only [Act.put, List.setIfInBounds_toArray, List.set_cons_zero, List.set_cons_succ, List.getElem_toArray, List.getElem_cons_succ, List.getElem_cons_zero]
              refine wpAnyF_oneD (i := 17) (by kernel_rfl) (by kernel_rfl) rfl (fun K hK => ?_)
              go_simp
              refine hK.out _ _ ?_
              clear hK K
              try simp only [Act.put, List.setIfInBounds_toArray, List.set_cons_zero, List.set_cons_succ, List.getElem_toArray, List.getElem_cons_succ, List.getElem_cons_zero]
              refine wpAnyF_done (by kernel_rfl) ?_ _
              all_goals
                go_wp2_with fail
                go_roundw
                case rel => exact ⟨j + 1, A5, c5, by omega, by go_num, hid H5G.out, H5K, (World.cell?_setCell_far _ _ _ _ (by show g ≠ w2.heap.size; omega)).trans gH5, (World.cell?_setCell_far _ _ _ _ (by show g ≠ w.heap.size + 1; omega)).trans q5, fun o => by simpa using qf5 o, bS hbx (by show w.heap.size ≤ g; omega) _, by simpa using hHs5⟩
                case measure => simp [intOf]; omega
            · obtain rfl : j = bs.length := by omega
              have hjz : ¬ ((bs.length : Int) < (bs.length : Int)) := by omega
              rw [List.take_of_length_le (Nat.le_refl _)] at hgr
              have HG5 := hid hgr
              clear hgr HGJ HKB
              go_wp2_with fail
              refine bodyPost_ret (v := .tuple #[.agg #[.slice (some ⟨g, 0, none⟩) l.length c1], .int .i64 0]) (by simp [results, Try.results85, go_sem, *]) rfl ?_
              refine ⟨some ⟨g, 0, none⟩, c1, l1.set k ⟨Aj, cj, addD bs x'.f⟩, by rw [← HE1.out], by rw [files_set]; exact HE2.out, ?_, ?_⟩
              · exact OwnGrid.less (OwnGrid.store HG5.out (by show w.heap.size + 1 < w1.heap.size; omega) _) (by omega)
              · exact bS hbel (by show w.heap.size ≤ w.heap.size + 1; omega) _
        · rw [appF_big hok hsz hk hx (by omega)]
          have h5z : (100000 : Int) - (x.f.data.length : Int) < (bs.length : Int) := by omega
          have h6z : (x.f.data.length : Int) ≤ 140737488355328 := by have := hm.1 x (List.mem_of_getElem? hx); omega
          clear h5
          go_enter Try.func85, Try.ntmps85
          go_wp2_with fail
          refine HM.out.mono ?_
          rintro e w1 ⟨rfl, b1⟩
          have b01 := bT b0 b1
          have g0 : w1.cell? ⟨w.heap.size, 0, none⟩ = some (.slice A l.length c) := keepb b1 (by go_simp)
          have q : w1.cell? ⟨w.heap.size + 1, 0, none⟩ = some (.slice none 0 0) := keepb b1 (by go_simp)
          have qf : ∀ o, w1.frozen? ⟨w.heap.size + 1, o, none⟩ = false := fun o => by rw [(bcell b1).2 _ _ (by simp)]; go_simp
          have qz : w.heap.size + 2 ≤ w1.heap.size := by have := b1.size; simpa using this
          have HC := hid (DiskCopy_own l w1 A c (Files.b hr b01) hn hm.1)
          have hfa := FileAt_walk l n
          rw [hk, hat] at hfa
          have HFA := hid hfa
          clear hfa HM
          go_wp2_with fail
          refine (In_walk _ _ _ _).mono ?_
          rintro e w2 ⟨rfl, rfl⟩
          rw [i1]
          go_wp2_with fail
          refine HC.out.mono ?_
          rintro e w2 ⟨A1, c1, l1, rfl, hf, hln, hown, b2⟩
          have HF := hid hf
          have HLN := hid hln
          clear hf hln
          have b02 := bT b01 b2
          have g0 := keepb b2 g0
          have q := keepb b2 q
          have qf : ∀ o, w2.frozen? ⟨w.heap.size + 1, o, none⟩ = false := fun o => keepf b2 (qf o) (by show w.heap.size + 1 < _; omega)
          have qz2 : w.heap.size + 2 ≤ w2.heap.size := Nat.le_trans qz b2.size
          have b0X := bA b02 (.cells #[.slice A1 l.length c1] 66)
          have hws : w.heap.size < w2.heap.size := by omega
          have hws1 : w.heap.size ≠ w2.heap.size := by omega
          have HFA2 := hid (HFA.out (w2.alloc (.cells #[.slice A1 l.length c1] 66)) A c (rdb hr.1 (by decide) b0X) (by omega))
          go_wp2_with fail
          refine HFA2.out.mono ?_
          rintro e w3 ⟨rfl, b3⟩
          have b03 := bT b0X b3
          have g0 := keepb b3 (keepb (bA (Below.refl w2.heap.size w2) _) g0)
          have q := keepb b3 (keepb (bA (Below.refl w2.heap.size w2) _) q)
          have qf : ∀ o, w3.frozen? ⟨w.heap.size + 1, o, none⟩ = false := fun o => keepf b3 (keepf (bA (Below.refl w2.heap.size w2) _) (qf o) (by show w.heap.size + 1 < _; omega)) (by simp; omega)
          have gH : w3.cell? ⟨w2.heap.size, 0, none⟩ = some (.slice A1 l.length c1) := keepb b3 (by go_simp)
          have gHf : w3.frozen? ⟨w2.heap.size, 0, none⟩ = false := keepf b3 (by go_simp) (by simp)
          have hHs : w2.heap.size < w3.heap.size := by have := b3.size; simp at this; omega
          have hqH : w.heap.size + 1 ≠ w2.heap.size := by omega
          have bX3 := bT (bA (Below.refl w2.heap.size w2) _) b3
          have qz3 : w.heap.size + 1 < w3.heap.size := by omega
          have hown3 := OwnGrid.below hown bX3 (Nat.le_refl _)
          obtain ⟨x', hx', hxx⟩ := files_get HF.out hx
          have HX2 := hid hx'
          obtain ⟨g, rfl, hgb, hgs, hgc, hgf, -⟩ := heap_set (cells := MFile.cells) (sz := 3) (y := x') (j := 1) (v := .slice x'.A x'.f.data.length x'.c) (fun _ => rfl) hown3.1 hx' (by decide) (by simp [MFile.cells]) (fun _ hp => by cases hp)
          have d1 := hgc 1 _ rfl
          clear hgc hgf
          rw [← hxx] at h5z h6z
          clear hok hk hsz hat hx hx' hxx hr
          go_wp2_with fail
          exact bodyPost_ret (v := .tuple #[.agg #[.slice none 0 0], .int .i64 10]) (by simp [results, Try.results85, go_sem, *]) rfl (retDG_bad _ _ _ (bS b03 (by show w.heap.size ≤ w.heap.size + 1; omega) _))
    · have i1 : inB (n.size : Int) 1 20 = false := inB_no (by omega)
      rw [appF_size hok hsz]
      clear hok hsz
      go_enter Try.func85, Try.ntmps85
      go_wp2_with fail
      refine HM.out.mono ?_
      rintro e w1 ⟨rfl, b1⟩
      have q : w1.cell? ⟨w.heap.size + 1, 0, none⟩ = some (.slice none 0 0) := keepb b1 (by go_simp)
      have qf : ∀ o, w1.frozen? ⟨w.heap.size + 1, o, none⟩ = false := fun o => by rw [(bcell b1).2 _ _ (by simp)]; go_simp
      go_wp2_with fail
      refine (In_walk _ _ _ _).mono ?_
      rintro e w2 ⟨rfl, rfl⟩
      rw [i1]
      go_wp2_with fail
      exact bodyPost_ret (v := .tuple #[.agg #[.slice none 0 0], .int .i64 1]) (by simp [results, Try.results85, go_sem, *]) rfl (retDG_bad _ _ _ (bS (bT b0 b1) (by show w.heap.size ≤ w.heap.size + 1; omega) _))
end Go.Proofs.Ytphgdpjfolkafaa
