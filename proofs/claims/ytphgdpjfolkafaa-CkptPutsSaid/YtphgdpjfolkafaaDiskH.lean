/- disk.Append, the document's Appended. -/
import Derived.Test.YtphgdpjfolkafaaDiskO
import Derived.Test.YtphgdpjfolkafaaDiskS
namespace Go.Proofs.Ytphgdpjfolkafaa
open Go.ChangeShapes Go.WideShapes Go.ChangeAt Go.RowKit
set_option linter.unusedVariables false
set_option linter.unusedSimpArgs false
def addD (b : List Int) (f : File) : File := { f with data := f.data ++ b }
noncomputable def appF (fs : List File) (n : ByteArray) (b : List Int) : List File × Int :=
  if okF fs = false then ([], 9) else if ¬ (1 ≤ n.size ∧ n.size ≤ 20) then ([], 1) else
  match fileAt fs n with
  | none => if fs.length = 40 then ([], 10) else if 100000 < b.length then ([], 10) else (fs ++ [⟨n, b, 0⟩], 0)
  | some i => match fs[i]? with | some f => if 100000 < f.data.length + b.length then ([], 10) else (fs.set i (addD b f), 0) | none => ([], 10)
theorem appF_bad {l : List MFile} {n : ByteArray} {b : List Int} (h : okB l = false) : appF (files l) n b = ([], 9) := by unfold appF; rw [if_pos (by rw [← okB_f]; exact h)]
theorem appF_size {l : List MFile} {n : ByteArray} {b : List Int} (h : okB l = true) (hb : ¬ (1 ≤ n.size ∧ n.size ≤ 20)) : appF (files l) n b = ([], 1) := by
  unfold appF; rw [if_neg (by rw [← okB_f, h]; simp), if_pos hb]
theorem appF_full {l : List MFile} {n : ByteArray} {b : List Int} (h : okB l = true) (hb : 1 ≤ n.size ∧ n.size ≤ 20) (hk : l.findIdx? (named n) = none) (h4 : l.length = 40) : appF (files l) n b = ([], 10) := by
  unfold appF; rw [if_neg (by rw [← okB_f, h]; simp), if_neg (fun h => h hb), fileAt_m, hk]; simp only; rw [if_pos (by rw [files_length]; exact h4)]
theorem appF_newbig {l : List MFile} {n : ByteArray} {b : List Int} (h : okB l = true) (hb : 1 ≤ n.size ∧ n.size ≤ 20) (hk : l.findIdx? (named n) = none) (h4 : l.length ≠ 40) (h5 : 100000 < b.length) : appF (files l) n b = ([], 10) := by
  unfold appF; rw [if_neg (by rw [← okB_f, h]; simp), if_neg (fun h => h hb), fileAt_m, hk]; simp only; rw [if_neg (by rw [files_length]; exact h4), if_pos h5]
theorem appF_new {l : List MFile} {n : ByteArray} {b : List Int} (h : okB l = true) (hb : 1 ≤ n.size ∧ n.size ≤ 20) (hk : l.findIdx? (named n) = none) (h4 : l.length ≠ 40) (h5 : b.length ≤ 100000) : appF (files l) n b = (files l ++ [⟨n, b, 0⟩], 0) := by
  unfold appF; rw [if_neg (by rw [← okB_f, h]; simp), if_neg (fun h => h hb), fileAt_m, hk]; simp only; rw [if_neg (by rw [files_length]; exact h4), if_neg (by omega)]
theorem files_at {l : List MFile} {k : Nat} {x : MFile} (hx : l[k]? = some x) : (files l)[k]? = some x.f := by unfold files; rw [List.getElem?_map, hx]; rfl
theorem appF_big {l : List MFile} {n : ByteArray} {b : List Int} {k : Nat} {x : MFile} (h : okB l = true) (hb : 1 ≤ n.size ∧ n.size ≤ 20) (hk : l.findIdx? (named n) = some k) (hx : l[k]? = some x) (h5 : 100000 < x.f.data.length + b.length) : appF (files l) n b = ([], 10) := by
  unfold appF; rw [if_neg (by rw [← okB_f, h]; simp), if_neg (fun h => h hb), fileAt_m, hk]; simp only [files_at hx]; rw [if_pos h5]
theorem appF_some {l : List MFile} {n : ByteArray} {b : List Int} {k : Nat} {x : MFile} (h : okB l = true) (hb : 1 ≤ n.size ∧ n.size ≤ 20) (hk : l.findIdx? (named n) = some k) (hx : l[k]? = some x) (h5 : x.f.data.length + b.length ≤ 100000) : appF (files l) n b = ((files l).set k (addD b x.f), 0) := by
  unfold appF; rw [if_neg (by rw [← okB_f, h]; simp), if_neg (fun h => h hb), fileAt_m, hk]; simp only [files_at hx]; rw [if_neg (by omega)]
theorem appF_len (fs : List File) (n : ByteArray) (b : List Int) : (appF fs n b).1.length ≤ fs.length + 1 := by
  unfold appF; split
  · simp
  · split
    · simp
    · split
      · split
        · simp
        · split
          · simp
          · simp
      · split
        · split
          · simp
          · simp
        · simp
/-- Behind the new file its name is found at the end. -/
theorem find_new {l : List MFile} {n : ByteArray} (h : l.findIdx? (named n) = none) (y : MFile) (hy : y.f.name = n) : (l ++ [y]).findIdx? (named n) = some l.length := by
  rw [List.findIdx?_append, h]
  simp [named_iff.2 hy]
theorem u8_oneL (l : List Int) : ∀ u ∈ l.flatMap u8c, u.oneCell' = true := one_u8 l
set_option maxRecDepth 100000 in
set_option maxHeartbeats 2000000 in
theorem append_walk (l : List MFile) (n : ByteArray) (bs : List Int) (w : World) (A : Option Addr) (c : Nat) (Ab : Option Addr) (cb : Nat) (hr : Files w w.heap.size A l) (hn : l.length * 48 ≤ 140737488355328) (hm : Okm l) (hb : Rd w w.heap.size Ab 1 bs.length (bs.flatMap u8c)) (hbl : bs.length ≤ 140737488355328) :
    Calls Try.prog 81 #[.agg #[.slice A l.length c], .string n, .slice Ab bs.length cb] w (RetDG w (appF (files l) n bs).1 (appF (files l) n bs).2) := by
  have b0 := bA (bA (Below.refl w.heap.size w) (.cells #[.slice A l.length c] 66)) (.cells #[.slice none 0 0] 66)
  cases hok : okB l with
  | false =>
    rw [appF_bad hok]
    have HO := hid (open_bad l _ A c (Files.b hr b0) hn hm.2 hok)
    clear hok
    go_enter Try.func81, Try.ntmps81
    go_wp2_with fail
    refine HO.out.mono ?_
    rintro e w1 ⟨rfl, b1⟩
    have q : w1.cell? ⟨w.heap.size + 1, 0, none⟩ = some (.slice none 0 0) := keepb b1 (by go_simp)
    have qf : ∀ o, w1.frozen? ⟨w.heap.size + 1, o, none⟩ = false := fun o => by rw [(bcell b1).2 _ _ (by simp)]; go_simp
    go_wp2_with fail
    exact bodyPost_ret (v := .tuple #[.agg #[.slice none 0 0], .int .i64 9]) (by simp [results, Try.results81, go_sem, *]) rfl (retDG_bad _ _ _ (bS (bT b0 b1) (by show w.heap.size ≤ w.heap.size + 1; omega) _))
  | true =>
    have HO := hid (open_own l _ A c (Files.b hr b0) hn hm.1 hm.2 hok)
    have hsz0 := toList_nil n
    have h40 : l.length ≤ 40 := by unfold okB at hok; exact ((diskOk_m l).1 (@of_decide_eq_true _ (_) hok)).1
    by_cases hsz : 1 ≤ n.size ∧ n.size ≤ 20
    · have n0 : ¬ (n.toList = []) := fun h => by have := hsz0.1 h; omega
      have n0e : n.toList.isEmpty = false := by simpa using n0
      have n1 : ¬ ((20 : Int) < (n.size : Int)) := by omega
      cases hk : l.findIdx? (named n) with
      | none =>
        by_cases h4 : l.length = 40
        · rw [appF_full hok hsz hk h4]
          have h4z : ((l.length : Int) == 40) = true := by rw [h4]; rfl
          clear hsz hsz0 h4
          go_enter Try.func81, Try.ntmps81
          go_wp2_with fail
          refine HO.out.mono ?_
          rintro e w1 ⟨p, rfl, A1, c1, l1, hf, hln, g0, f0, hp, hps, hown, b1⟩
          have q : w1.cell? ⟨w.heap.size + 1, 0, none⟩ = some (.slice none 0 0) := keepb b1 (by go_simp)
          have qf : ∀ o, w1.frozen? ⟨w.heap.size + 1, o, none⟩ = false := fun o => by rw [(bcell b1).2 _ _ (by simp)]; go_simp
          have qz : w.heap.size + 1 < w1.heap.size := by have := b1.size; simp at this; omega
          have hp2 : w.heap.size + 2 ≤ p := by simpa using hp
          have hqp : w.heap.size + 1 ≠ p := by omega
          have HFN := hid (find_none_walk l1 n w1 A1 c1 p (by rw [hln]; exact g0) (rd_own hown.1.1) (by omega) ((at_of hf n).trans hk))
          clear hok hk hf
          go_wp2_with fail
          refine HFN.out.mono ?_
          rintro e w2 ⟨rfl, b2⟩
          have q := keepb b2 q
          have qf : ∀ o, w2.frozen? ⟨w.heap.size + 1, o, none⟩ = false := fun o => keepf b2 (qf o) qz
          have qz : w.heap.size + 1 < w2.heap.size := Nat.lt_of_lt_of_le qz b2.size
          have g0 := keepb b2 g0
          have f0 := keepf b2 f0 hps
          have hps : p < w2.heap.size := Nat.lt_of_lt_of_le hps b2.size
          go_wp2_with fail
          exact bodyPost_ret (v := .tuple #[.agg #[.slice none 0 0], .int .i64 10]) (by simp [results, Try.results81, go_sem, *]) rfl (retDG_bad _ _ _ (bS (bT (bT b0 b1) b2) (by show w.heap.size ≤ w.heap.size + 1; omega) _))
        · have h4z : ((l.length : Int) == 40) = false := by simp; omega
          have hl39 : (l.length + 1) * 48 ≤ 140737488355328 := by omega
          by_cases h5 : bs.length ≤ 100000
          · rw [appF_new hok hsz hk h4 h5]
            have h5z : ¬ ((100000 : Int) < (bs.length : Int)) := by omega
            clear hsz hsz0
            go_enter Try.func81, Try.ntmps81
            go_wp2_with fail
            refine HO.out.mono ?_
            rintro e w1 ⟨p, rfl, A1, c1, l1, hf, hln, g0, f0, hp, hps, hown, b1⟩
            have q : w1.cell? ⟨w.heap.size + 1, 0, none⟩ = some (.slice none 0 0) := keepb b1 (by go_simp)
            have qf : ∀ o, w1.frozen? ⟨w.heap.size + 1, o, none⟩ = false := fun o => by rw [(bcell b1).2 _ _ (by simp)]; go_simp
            have qz : w.heap.size + 1 < w1.heap.size := by have := b1.size; simp at this; omega
            have hp2 : w.heap.size + 2 ≤ p := by simpa using hp
            have hqp : w.heap.size + 1 ≠ p := by omega
            have HFN := hid (find_none_walk l1 n w1 A1 c1 p (by rw [hln]; exact g0) (rd_own hown.1.1) (by omega) ((at_of hf n).trans hk))
            have HF := hid hf
            have HLN := hid hln
            have HKN := hid ((at_of hf n).trans hk)
            clear hok hk hf hln h4 h5 hr
            go_wp2_with fail
            refine HFN.out.mono ?_
            rintro e w2 ⟨rfl, b2⟩
            have q := keepb b2 q
            have qf : ∀ o, w2.frozen? ⟨w.heap.size + 1, o, none⟩ = false := fun o => keepf b2 (qf o) qz
            have qz : w.heap.size + 1 < w2.heap.size := Nat.lt_of_lt_of_le qz b2.size
            have g0 := keepb b2 g0
            have f0 := keepf b2 f0 hps
            have hps : p < w2.heap.size := Nat.lt_of_lt_of_le hps b2.size
            have hown2 := OwnGrid.below hown b2 (Nat.le_refl _)
            have hpw : p ≠ w2.heap.size := by omega
            have hbase : ∀ o, p + 1 ≤ (w2.alloc o).heap.size := fun o => by simp; omega
            have hhow : ∀ (o : Obj) (w3 : World), Below (p + 1) (w2.alloc o) w3 → w3.cell? ⟨p, 0, none⟩ = some (.slice A1 l.length c1) ∧ w3.frozen? ⟨p, 0, none⟩ = false ∧ w3.cell? ⟨w.heap.size + 1, 0, none⟩ = some (.slice none 0 0) ∧ (∀ o, w3.frozen? ⟨w.heap.size + 1, o, none⟩ = false) ∧ Below (p + 1) w2 w3 ∧ p < w3.heap.size := fun o w3 h => by
              have h3 := ((Below.refl (p + 1) w2).alloc (by omega) o).trans h
              exact ⟨(h3.cell (p := ⟨p, 0, none⟩) (by show p < p + 1; omega)).trans g0, (h3.frozen (p := ⟨p, 0, none⟩) (by show p < p + 1; omega)).trans f0, (h3.cell (p := ⟨w.heap.size + 1, 0, none⟩) (by show w.heap.size + 1 < p + 1; omega)).trans q, fun o => (h3.frozen (p := ⟨w.heap.size + 1, o, none⟩) (by show w.heap.size + 1 < p + 1; omega)).trans (qf o), h3, Nat.lt_of_lt_of_le hps h3.size⟩
            have hoN : (MFile.ml (⟨none, 0, ⟨n, [], 0⟩⟩ : MFile)).own u8c 5 1 (w2.alloc (.cells #[.string n, .slice none 0 0, .int .i64 0] 131)) (p + 1) := World.ownsRow_nil _ _ _ _
            go_wp2_with (at_builtin; refine wp_grid (cells := u8c) (inner := MFile.ml) (sz := 1) _ rfl rfl el_files rfl HLN.out.symm (OwnGrid.alloc hown2 _) (⟨none, 0, ⟨n, [], 0⟩⟩ : MFile) hoN aside_nil rfl (rd_newAt _ _ _ 3 1 _ (by simp) rfl) (one_file _) hl39 (hbase _) ?_; intro A2 c2 w3 hown3 hb3 hg3; obtain ⟨g3, f3, q3, qf3, hb3', hps3⟩ := hhow _ _ hb3)
            have hown3s := OwnGrid.store (a := ⟨p, 0, none⟩) hown3 (Nat.lt_succ_self p) (.slice A2 (l.length + 1) c2)
            have bb3 := bS (p := ⟨p, 0, none⟩) ((bT (bT b0 b1) b2).trans (hb3'.mono (by omega))) (by show w.heap.size ≤ p; omega) (.slice A2 (l.length + 1) c2)
            have g3' : (w3.setCell ⟨p, 0, none⟩ (.slice A2 (l.length + 1) c2)).cell? ⟨p, 0, none⟩ = some (.slice A2 (l.length + 1) c2) := World.cell?_setCell_same _ _ _ g3
            have hl2 : (l1 ++ [(⟨none, 0, ⟨n, [], 0⟩⟩ : MFile)]).length = l.length + 1 := by rw [List.length_append, HLN.out]; rfl
            have HFN2 := hid (find_some_walk (l1 ++ [(⟨none, 0, ⟨n, [], 0⟩⟩ : MFile)]) n (w3.setCell ⟨p, 0, none⟩ (.slice A2 (l.length + 1) c2)) A2 c2 p l.length (by rw [hl2]; exact g3') (rd_own hown3s.1.1) (by rw [hl2]; omega) (by rw [← HLN.out]; exact find_new HKN.out _ rfl))
            have HXN : Hid ((l1 ++ [(⟨none, 0, ⟨n, [], 0⟩⟩ : MFile)])[l.length]? = some (⟨none, 0, ⟨n, [], 0⟩⟩ : MFile)) := hid (by rw [← HLN.out]; simp)
            have q : (w3.setCell ⟨p, 0, none⟩ (.slice A2 (l.length + 1) c2)).cell? ⟨w.heap.size + 1, 0, none⟩ = some (.slice none 0 0) := (World.cell?_setCell_far _ _ _ _ (by show p ≠ w.heap.size + 1; omega)).trans q3
            have qf : ∀ o, (w3.setCell ⟨p, 0, none⟩ (.slice A2 (l.length + 1) c2)).frozen? ⟨w.heap.size + 1, o, none⟩ = false := fun o => by simpa using qf3 o
            refine (HFN2.out).mono ?_
            rintro e w4 ⟨⟨gb, go, hA2, rfl⟩, b4⟩
            have hown4 := OwnGrid.below hown3s b4 (Nat.le_refl _)
            obtain ⟨gq, hgq, hgb, hgs, hgc, hgf, -⟩ := heap_set (cells := MFile.cells) (sz := 3) (y := (⟨none, 0, ⟨n, [], 0⟩⟩ : MFile)) (j := 1) (v := .slice none 0 0) (fun _ => rfl) hown4.1 HXN.out (by decide) (by simp [MFile.cells]) (fun _ hp => by cases hp)
            rw [hA2] at hgq
            injection hgq with hgq
            injection hgq with e1 e2
            subst e1 e2
            subst hA2
            have d1 := hgc 1 _ rfl
            have hrow := OwnGrid.row hown4 HXN.out
            have HRB := hid (rdb hb (by decide) (bT bb3 b4))
            have g4 := keepb b4 g3'
            have q4 := keepb b4 q
            have qf4 : ∀ o, w4.frozen? ⟨w.heap.size + 1, o, none⟩ = false := fun o => keepf b4 (qf o) (by simp; omega)
            have hpb : p ≠ gb := by omega
            have hqb : w.heap.size + 1 ≠ gb := by omega
            have hbas : p + 1 ≤ w4.heap.size := by have := b4.size; simp at this; omega
            have HGR := hid hown4
            have hhow2 : ∀ w5, Below (p + 1) w4 w5 → w5.cell? ⟨p, 0, none⟩ = some (.slice (some ⟨gb, 0, none⟩) (l.length + 1) c2) ∧ w5.cell? ⟨w.heap.size + 1, 0, none⟩ = some (.slice none 0 0) ∧ (∀ o, w5.frozen? ⟨w.heap.size + 1, o, none⟩ = false) := fun w5 h3 => ⟨(h3.cell (p := ⟨p, 0, none⟩) (by show p < p + 1; omega)).trans g4, (h3.cell (p := ⟨w.heap.size + 1, 0, none⟩) (by show w.heap.size + 1 < p + 1; omega)).trans q4, fun o => (h3.frozen (p := ⟨w.heap.size + 1, o, none⟩) (by show w.heap.size + 1 < p + 1; omega)).trans (qf4 o)⟩
            have HLL := hid HLN.out
            simp only [List.length_nil] at d1
            clear hgc hgf hown hown2 hown3 hown3s hown4 hhow q qf g3' g3 f3 q3 qf3 hoN
            simp only [Nat.zero_add] at *
            have hlb : (0 + bs.length) * 1 ≤ 140737488355328 := by omega
            go_wp2_with (at_builtin; refine wp_app3 _ rfl rfl el_bytes rfl hrow rfl HRB.out (one_u8 bs) hlb hbas ?_; intro A5 c5 w5 hown5 hb5 hg5 hk5; obtain ⟨g5, h5A, -, h5s, h5c, h5f, h5g⟩ := OwnGrid.put (y := (⟨A5, c5, ⟨n, bs, 0⟩⟩ : MFile)) (j := 1) (v := .slice A5 bs.length c5) HGR.out HXN.out (by have h := hown5; rw [Nat.zero_add] at h; exact h) hg5 (by have h := hk5; rw [Nat.zero_add] at h; exact h) (fun _ => rfl) (by decide) (by simp [MFile.cells]); injection h5A with h5A; injection h5A with e1 e2; subst e1; have H5G := hid h5g; have d5 := h5c 1 _ rfl; have f5 := h5f (l.length * 3 + 1); obtain ⟨g5, q5, qf5⟩ := hhow2 w5 hb5; have HB5 := hid hb5; clear h5c h5f h5g hb5 hg5 hk5 hown5)
            refine bodyPost_ret (v := .tuple #[.agg #[.slice (some ⟨gb, 0, none⟩) (l.length + 1) c2], .int .i64 0]) (by simp [results, Try.results81, go_sem, *]) rfl ?_
            refine ⟨some ⟨gb, 0, none⟩, c2, (l1 ++ [(⟨none, 0, ⟨n, [], 0⟩⟩ : MFile)]).set l.length ⟨A5, c5, ⟨n, bs, 0⟩⟩, by rw [List.length_append, files_length]; rfl, by rw [← HLL.out, List.set_append_right _ _ (Nat.le_refl _), Nat.sub_self]; unfold files at HF ⊢; rw [List.map_append, HF.out]; rfl, ?_, ?_⟩
            · exact OwnGrid.less (OwnGrid.store H5G.out (by show w.heap.size + 1 < p + 1; omega) _) (by omega)
            · exact bS (bS ((bT bb3 b4).trans (HB5.out.mono (by omega))) (by show w.heap.size ≤ gb; omega) _) (by show w.heap.size ≤ w.heap.size + 1; omega) _
          · rw [appF_newbig hok hsz hk h4 (by omega)]
            have h5z : (100000 : Int) < (bs.length : Int) := by omega
            clear hsz hsz0
            go_enter Try.func81, Try.ntmps81
            go_wp2_with fail
            refine HO.out.mono ?_
            rintro e w1 ⟨p, rfl, A1, c1, l1, hf, hln, g0, f0, hp, hps, hown, b1⟩
            have q : w1.cell? ⟨w.heap.size + 1, 0, none⟩ = some (.slice none 0 0) := keepb b1 (by go_simp)
            have qf : ∀ o, w1.frozen? ⟨w.heap.size + 1, o, none⟩ = false := fun o => by rw [(bcell b1).2 _ _ (by simp)]; go_simp
            have qz : w.heap.size + 1 < w1.heap.size := by have := b1.size; simp at this; omega
            have hp2 : w.heap.size + 2 ≤ p := by simpa using hp
            have hqp : w.heap.size + 1 ≠ p := by omega
            have HFN := hid (find_none_walk l1 n w1 A1 c1 p (by rw [hln]; exact g0) (rd_own hown.1.1) (by omega) ((at_of hf n).trans hk))
            have HF := hid hf
            have HLN := hid hln
            have HKN := hid ((at_of hf n).trans hk)
            clear hok hk hf hln h4 h5 hr
            go_wp2_with fail
            refine HFN.out.mono ?_
            rintro e w2 ⟨rfl, b2⟩
            have q := keepb b2 q
            have qf : ∀ o, w2.frozen? ⟨w.heap.size + 1, o, none⟩ = false := fun o => keepf b2 (qf o) qz
            have qz : w.heap.size + 1 < w2.heap.size := Nat.lt_of_lt_of_le qz b2.size
            have g0 := keepb b2 g0
            have f0 := keepf b2 f0 hps
            have hps : p < w2.heap.size := Nat.lt_of_lt_of_le hps b2.size
            have hown2 := OwnGrid.below hown b2 (Nat.le_refl _)
            have hpw : p ≠ w2.heap.size := by omega
            have hbase : ∀ o, p + 1 ≤ (w2.alloc o).heap.size := fun o => by simp; omega
            have hhow : ∀ (o : Obj) (w3 : World), Below (p + 1) (w2.alloc o) w3 → w3.cell? ⟨p, 0, none⟩ = some (.slice A1 l.length c1) ∧ w3.frozen? ⟨p, 0, none⟩ = false ∧ w3.cell? ⟨w.heap.size + 1, 0, none⟩ = some (.slice none 0 0) ∧ (∀ o, w3.frozen? ⟨w.heap.size + 1, o, none⟩ = false) ∧ Below (p + 1) w2 w3 ∧ p < w3.heap.size := fun o w3 h => by
              have h3 := ((Below.refl (p + 1) w2).alloc (by omega) o).trans h
              exact ⟨(h3.cell (p := ⟨p, 0, none⟩) (by show p < p + 1; omega)).trans g0, (h3.frozen (p := ⟨p, 0, none⟩) (by show p < p + 1; omega)).trans f0, (h3.cell (p := ⟨w.heap.size + 1, 0, none⟩) (by show w.heap.size + 1 < p + 1; omega)).trans q, fun o => (h3.frozen (p := ⟨w.heap.size + 1, o, none⟩) (by show w.heap.size + 1 < p + 1; omega)).trans (qf o), h3, Nat.lt_of_lt_of_le hps h3.size⟩
            have hoN : (MFile.ml (⟨none, 0, ⟨n, [], 0⟩⟩ : MFile)).own u8c 5 1 (w2.alloc (.cells #[.string n, .slice none 0 0, .int .i64 0] 131)) (p + 1) := World.ownsRow_nil _ _ _ _
            go_wp2_with (at_builtin; refine wp_grid (cells := u8c) (inner := MFile.ml) (sz := 1) _ rfl rfl el_files rfl HLN.out.symm (OwnGrid.alloc hown2 _) (⟨none, 0, ⟨n, [], 0⟩⟩ : MFile) hoN aside_nil rfl (rd_newAt _ _ _ 3 1 _ (by simp) rfl) (one_file _) hl39 (hbase _) ?_; intro A2 c2 w3 hown3 hb3 hg3; obtain ⟨g3, f3, q3, qf3, hb3', hps3⟩ := hhow _ _ hb3)
            have hown3s := OwnGrid.store (a := ⟨p, 0, none⟩) hown3 (Nat.lt_succ_self p) (.slice A2 (l.length + 1) c2)
            have bb3 := bS (p := ⟨p, 0, none⟩) ((bT (bT b0 b1) b2).trans (hb3'.mono (by omega))) (by show w.heap.size ≤ p; omega) (.slice A2 (l.length + 1) c2)
            have g3' : (w3.setCell ⟨p, 0, none⟩ (.slice A2 (l.length + 1) c2)).cell? ⟨p, 0, none⟩ = some (.slice A2 (l.length + 1) c2) := World.cell?_setCell_same _ _ _ g3
            have hl2 : (l1 ++ [(⟨none, 0, ⟨n, [], 0⟩⟩ : MFile)]).length = l.length + 1 := by rw [List.length_append, HLN.out]; rfl
            have HFN2 := hid (find_some_walk (l1 ++ [(⟨none, 0, ⟨n, [], 0⟩⟩ : MFile)]) n (w3.setCell ⟨p, 0, none⟩ (.slice A2 (l.length + 1) c2)) A2 c2 p l.length (by rw [hl2]; exact g3') (rd_own hown3s.1.1) (by rw [hl2]; omega) (by rw [← HLN.out]; exact find_new HKN.out _ rfl))
            have HXN : Hid ((l1 ++ [(⟨none, 0, ⟨n, [], 0⟩⟩ : MFile)])[l.length]? = some (⟨none, 0, ⟨n, [], 0⟩⟩ : MFile)) := hid (by rw [← HLN.out]; simp)
            have q : (w3.setCell ⟨p, 0, none⟩ (.slice A2 (l.length + 1) c2)).cell? ⟨w.heap.size + 1, 0, none⟩ = some (.slice none 0 0) := (World.cell?_setCell_far _ _ _ _ (by show p ≠ w.heap.size + 1; omega)).trans q3
            have qf : ∀ o, (w3.setCell ⟨p, 0, none⟩ (.slice A2 (l.length + 1) c2)).frozen? ⟨w.heap.size + 1, o, none⟩ = false := fun o => by simpa using qf3 o
            refine (HFN2.out).mono ?_
            rintro e w4 ⟨⟨gb, go, hA2, rfl⟩, b4⟩
            have hown4 := OwnGrid.below hown3s b4 (Nat.le_refl _)
            obtain ⟨gq, hgq, hgb, hgs, hgc, hgf, -⟩ := heap_set (cells := MFile.cells) (sz := 3) (y := (⟨none, 0, ⟨n, [], 0⟩⟩ : MFile)) (j := 1) (v := .slice none 0 0) (fun _ => rfl) hown4.1 HXN.out (by decide) (by simp [MFile.cells]) (fun _ hp => by cases hp)
            rw [hA2] at hgq
            injection hgq with hgq
            injection hgq with e1 e2
            subst e1 e2
            have d1 := hgc 1 _ rfl
            simp only [List.length_nil] at d1
            have q := keepb b4 q
            have qf : ∀ o, w4.frozen? ⟨w.heap.size + 1, o, none⟩ = false := fun o => keepf b4 (qf o) (by simp; omega)
            clear hgc hgf hown4 hown3s hown hown2
            simp only [Nat.zero_add] at *
            go_wp2_with fail
            exact bodyPost_ret (v := .tuple #[.agg #[.slice none 0 0], .int .i64 10]) (by simp [results, Try.results81, go_sem, *]) rfl (retDG_bad _ _ _ (bS (bT bb3 b4) (by show w.heap.size ≤ w.heap.size + 1; omega) _))
      | some k =>
        obtain ⟨x, hx, _, _⟩ := find_some hk
        by_cases h5 : x.f.data.length + bs.length ≤ 100000
        · rw [appF_some hok hsz hk hx h5]
          have h5z : ¬ ((100000 : Int) < (x.f.data.length : Int) + (bs.length : Int)) := by omega
          clear hsz hsz0
          go_enter Try.func81, Try.ntmps81
          go_wp2_with fail
          refine HO.out.mono ?_
          rintro e w1 ⟨p, rfl, A1, c1, l1, hf, hln, g0, f0, hp, hps, hown, b1⟩
          have q : w1.cell? ⟨w.heap.size + 1, 0, none⟩ = some (.slice none 0 0) := keepb b1 (by go_simp)
          have qf : ∀ o, w1.frozen? ⟨w.heap.size + 1, o, none⟩ = false := fun o => by rw [(bcell b1).2 _ _ (by simp)]; go_simp
          have qz : w.heap.size + 1 < w1.heap.size := by have := b1.size; simp at this; omega
          have hp2 : w.heap.size + 2 ≤ p := by simpa using hp
          have hqp : w.heap.size + 1 ≠ p := by omega
          have HFN := hid (find_some_walk l1 n w1 A1 c1 p k (by rw [hln]; exact g0) (rd_own hown.1.1) (by omega) ((at_of hf n).trans hk))
          obtain ⟨x', hx', hxx⟩ := files_get hf hx
          have HX := hid hx'
          have HXX := hid hxx
          have HF := hid hf
          have HLN := hid hln
          rw [← hxx] at h5z h5 ⊢
          clear hok hk hf hx hx' hxx hr
          go_wp2_with fail
          refine HFN.out.mono ?_
          rintro e w2 ⟨⟨gb, go, rfl, rfl⟩, b2⟩
          have q := keepb b2 q
          have qf : ∀ o, w2.frozen? ⟨w.heap.size + 1, o, none⟩ = false := fun o => keepf b2 (qf o) qz
          have qz : w.heap.size + 1 < w2.heap.size := Nat.lt_of_lt_of_le qz b2.size
          have g0 := keepb b2 g0
          have f0 := keepf b2 f0 hps
          have hps : p < w2.heap.size := Nat.lt_of_lt_of_le hps b2.size
          have hown2 := OwnGrid.below hown b2 (Nat.le_refl _)
          obtain ⟨gq, hgq, hgb, hgs, hgc, hgf, -⟩ := heap_set (cells := MFile.cells) (sz := 3) (y := x') (j := 1) (v := .slice x'.A x'.f.data.length x'.c) (fun _ => rfl) hown2.1 HX.out (by decide) (by simp [MFile.cells]) (fun _ hp => by cases hp)
          injection hgq with hgq
          injection hgq with e1 e2
          subst e1 e2
          have d1 := hgc 1 _ rfl
          have hrow := OwnGrid.row hown2 HX.out
          have HRB := hid (rdb hb (by decide) (bT (bT b0 b1) b2))
          have hpb : p ≠ gb := by omega
          have hqb : w.heap.size + 1 ≠ gb := by omega
          have hbas : p + 1 ≤ w2.heap.size := by omega
          have HGR := hid hown2
          have hlb : (x'.f.data.length + bs.length) * 1 ≤ 140737488355328 := by omega
          have hhow : ∀ w5, Below (p + 1) w2 w5 → w5.cell? ⟨p, 0, none⟩ = some (.slice (some ⟨gb, 0, none⟩) l.length c1) ∧ w5.cell? ⟨w.heap.size + 1, 0, none⟩ = some (.slice none 0 0) ∧ (∀ o, w5.frozen? ⟨w.heap.size + 1, o, none⟩ = false) := fun w5 h3 => ⟨(h3.cell (p := ⟨p, 0, none⟩) (by show p < p + 1; omega)).trans g0, (h3.cell (p := ⟨w.heap.size + 1, 0, none⟩) (by show w.heap.size + 1 < p + 1; omega)).trans q, fun o => (h3.frozen (p := ⟨w.heap.size + 1, o, none⟩) (by show w.heap.size + 1 < p + 1; omega)).trans (qf o)⟩
          clear hgc hgf hown hown2
          simp only [Nat.zero_add] at *
          go_wp2_with (at_builtin; refine wp_app3 _ rfl rfl el_bytes rfl hrow rfl HRB.out (one_u8 bs) hlb hbas ?_; intro A5 c5 w5 hown5 hb5 hg5 hk5; obtain ⟨g5, h5A, -, h5s, h5c, h5f, h5g⟩ := OwnGrid.put (y := (⟨A5, c5, addD bs x'.f⟩ : MFile)) (j := 1) (v := .slice A5 (x'.f.data.length + bs.length) c5) HGR.out HX.out (by show w5.ownsRow (p + 1) _ 1 (.slice A5 (x'.f.data ++ bs).length c5) (x'.f.data ++ bs).length ((x'.f.data ++ bs).flatMap u8c); rw [List.length_append, List.flatMap_append]; exact hown5) hg5 (by show (Value.slice A5 (x'.f.data ++ bs).length c5).ownBlock = (Value.slice x'.A x'.f.data.length x'.c).ownBlock ∨ (Value.slice A5 (x'.f.data ++ bs).length c5).ownBlock = some w2.heap.size; rw [List.length_append]; exact hk5) (fun _ => rfl) (by decide) (by simp [MFile.cells, addD]); injection h5A with h5A; injection h5A with e1 e2; subst e1; have H5G := hid h5g; have d5 := h5c 1 _ rfl; have f5 := h5f (k * 3 + 1); obtain ⟨g5, q5, qf5⟩ := hhow w5 hb5; have HB5 := hid hb5; clear h5c h5f h5g hb5 hg5 hk5 hown5)
          refine bodyPost_ret (v := .tuple #[.agg #[.slice (some ⟨gb, 0, none⟩) l.length c1], .int .i64 0]) (by simp [results, Try.results81, go_sem, *]) rfl ?_
          refine ⟨some ⟨gb, 0, none⟩, c1, l1.set k ⟨A5, c5, addD bs x'.f⟩, by rw [List.length_set, files_length], by rw [files_set, HF.out, HXX.out], ?_, ?_⟩
          · exact OwnGrid.less (OwnGrid.store H5G.out (by show w.heap.size + 1 < p + 1; omega) _) (by omega)
          · exact bS (bS ((bT (bT b0 b1) b2).trans (HB5.out.mono (by omega))) (by show w.heap.size ≤ gb; omega) _) (by show w.heap.size ≤ w.heap.size + 1; omega) _
        · rw [appF_big hok hsz hk hx (by omega)]
          have h5z : (100000 : Int) < (x.f.data.length : Int) + (bs.length : Int) := by omega
          have h6z : (x.f.data.length : Int) ≤ 140737488355328 := by have := hm.1 x (List.mem_of_getElem? hx); omega
          clear hsz hsz0
          go_enter Try.func81, Try.ntmps81
          go_wp2_with fail
          refine HO.out.mono ?_
          rintro e w1 ⟨p, rfl, A1, c1, l1, hf, hln, g0, f0, hp, hps, hown, b1⟩
          have q : w1.cell? ⟨w.heap.size + 1, 0, none⟩ = some (.slice none 0 0) := keepb b1 (by go_simp)
          have qf : ∀ o, w1.frozen? ⟨w.heap.size + 1, o, none⟩ = false := fun o => by rw [(bcell b1).2 _ _ (by simp)]; go_simp
          have qz : w.heap.size + 1 < w1.heap.size := by have := b1.size; simp at this; omega
          have hp2 : w.heap.size + 2 ≤ p := by simpa using hp
          have hqp : w.heap.size + 1 ≠ p := by omega
          have HFN := hid (find_some_walk l1 n w1 A1 c1 p k (by rw [hln]; exact g0) (rd_own hown.1.1) (by omega) ((at_of hf n).trans hk))
          obtain ⟨x', hx', hxx⟩ := files_get hf hx
          have HX := hid hx'
          rw [← hxx] at h5z h6z
          clear hok hk hf hx hx' hxx hr
          go_wp2_with fail
          refine HFN.out.mono ?_
          rintro e w2 ⟨⟨gb, go, rfl, rfl⟩, b2⟩
          have q := keepb b2 q
          have qf : ∀ o, w2.frozen? ⟨w.heap.size + 1, o, none⟩ = false := fun o => keepf b2 (qf o) qz
          have qz : w.heap.size + 1 < w2.heap.size := Nat.lt_of_lt_of_le qz b2.size
          have g0 := keepb b2 g0
          have f0 := keepf b2 f0 hps
          have hps : p < w2.heap.size := Nat.lt_of_lt_of_le hps b2.size
          have hown2 := OwnGrid.below hown b2 (Nat.le_refl _)
          obtain ⟨gq, hgq, hgb, hgs, hgc, hgf, -⟩ := heap_set (cells := MFile.cells) (sz := 3) (y := x') (j := 1) (v := .slice x'.A x'.f.data.length x'.c) (fun _ => rfl) hown2.1 HX.out (by decide) (by simp [MFile.cells]) (fun _ hp => by cases hp)
          injection hgq with hgq
          injection hgq with e1 e2
          subst e1 e2
          have d1 := hgc 1 _ rfl
          clear hgc hgf hown2 hown
          simp only [Nat.zero_add] at *
          go_wp2_with fail
          exact bodyPost_ret (v := .tuple #[.agg #[.slice none 0 0], .int .i64 10]) (by simp [results, Try.results81, go_sem, *]) rfl (retDG_bad _ _ _ (bS (bT (bT b0 b1) b2) (by show w.heap.size ≤ w.heap.size + 1; omega) _))
    · rw [appF_size hok hsz]
      rcases Nat.eq_zero_or_pos n.size with h0 | h0
      · have n0 : n.toList = [] := hsz0.2 h0
        have n0e : n.toList.isEmpty = true := by simpa using n0
        clear hsz hsz0 h0
        go_enter Try.func81, Try.ntmps81
        go_wp2_with fail
        refine HO.out.mono ?_
        rintro e w1 ⟨p, rfl, A1, c1, l1, hf, hln, g0, f0, hp, hps, hown, b1⟩
        have q : w1.cell? ⟨w.heap.size + 1, 0, none⟩ = some (.slice none 0 0) := keepb b1 (by go_simp)
        have qf : ∀ o, w1.frozen? ⟨w.heap.size + 1, o, none⟩ = false := fun o => by rw [(bcell b1).2 _ _ (by simp)]; go_simp
        have qz : w.heap.size + 1 < w1.heap.size := by have := b1.size; simp at this; omega
        have hp2 : w.heap.size + 2 ≤ p := by simpa using hp
        have hqp : w.heap.size + 1 ≠ p := by omega
        clear hok hf
        go_wp2_with fail
        exact bodyPost_ret (v := .tuple #[.agg #[.slice none 0 0], .int .i64 1]) (by simp [results, Try.results81, go_sem, *]) rfl (retDG_bad _ _ _ (bS (bT b0 b1) (by show w.heap.size ≤ w.heap.size + 1; omega) _))
      · have n0 : ¬ (n.toList = []) := fun h => by have := hsz0.1 h; omega
        have n0e : n.toList.isEmpty = false := by simpa using n0
        have n1 : (20 : Int) < (n.size : Int) := by omega
        clear hsz hsz0 h0
        go_enter Try.func81, Try.ntmps81
        go_wp2_with fail
        refine HO.out.mono ?_
        rintro e w1 ⟨p, rfl, A1, c1, l1, hf, hln, g0, f0, hp, hps, hown, b1⟩
        have q : w1.cell? ⟨w.heap.size + 1, 0, none⟩ = some (.slice none 0 0) := keepb b1 (by go_simp)
        have qf : ∀ o, w1.frozen? ⟨w.heap.size + 1, o, none⟩ = false := fun o => by rw [(bcell b1).2 _ _ (by simp)]; go_simp
        have qz : w.heap.size + 1 < w1.heap.size := by have := b1.size; simp at this; omega
        have hp2 : w.heap.size + 2 ≤ p := by simpa using hp
        have hqp : w.heap.size + 1 ≠ p := by omega
        clear hok hf
        go_wp2_with fail
        exact bodyPost_ret (v := .tuple #[.agg #[.slice none 0 0], .int .i64 1]) (by simp [results, Try.results81, go_sem, *]) rfl (retDG_bad _ _ _ (bS (bT b0 b1) (by show w.heap.size ≤ w.heap.size + 1; omega) _))
end Go.Proofs.Ytphgdpjfolkafaa
