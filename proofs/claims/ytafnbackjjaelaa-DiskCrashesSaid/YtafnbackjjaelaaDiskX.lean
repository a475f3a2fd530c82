/- disk.Crash, the document's Crashed. -/
import Derived.Test.YtafnbackjjaelaaDiskY
namespace Go.Proofs.Ytafnbackjjaelaa
open Go.ChangeShapes Go.WideShapes Go.ChangeAt Go.RowKit
set_option linter.unusedVariables false
/-- How many bytes stay. -/
def keepN (q : Int) (f : File) : Int := f.synced + min q ((f.data.length : Int) - f.synced)
def crashd (q : Int) (f : File) : File := { f with data := f.data.take (keepN q f).toNat, synced := keepN q f }
noncomputable def crashG (fs : List File) (q : Int) : List File × Int := if okF fs = false then ([], 9) else if q < 0 then ([], 2) else (fs.map (crashd q), 0)
theorem crashG_bad {l : List MFile} {q : Int} (h : okB l = false) : crashG (files l) q = ([], 9) := by unfold crashG; rw [if_pos (by rw [← okB_f]; exact h)]
theorem crashG_neg {l : List MFile} {q : Int} (h : okB l = true) (hq : q < 0) : crashG (files l) q = ([], 2) := by
  unfold crashG; rw [if_neg (by rw [← okB_f, h]; simp), if_pos hq]
theorem crashG_ok {l : List MFile} {q : Int} (h : okB l = true) (hq : ¬ q < 0) : crashG (files l) q = ((files l).map (crashd q), 0) := by
  unfold crashG; rw [if_neg (by rw [← okB_f, h]; simp), if_neg hq]
theorem crashG_len (fs : List File) (q : Int) : (crashG fs q).1.length ≤ fs.length := by
  unfold crashG; split
  · simp
  · split <;> simp
theorem okB_file {l : List MFile} (h : okB l = true) : ∀ x ∈ l, fileOk x.f := by
  have h2 : diskOk (files l) := by unfold okB at h; exact @of_decide_eq_true _ (_) h
  exact fun x hx => h2.2.1 _ (List.mem_map.2 ⟨x, hx, rfl⟩)
/-- The first k files have crashed. -/
def part (q : Int) (fs : List File) (k : Nat) : List File := (fs.take k).map (crashd q) ++ fs.drop k
theorem part_zero (q : Int) (fs : List File) : part q fs 0 = fs := by simp [part]
theorem part_all (q : Int) (fs : List File) : part q fs fs.length = fs.map (crashd q) := by simp [part]
theorem part_get {q : Int} {fs : List File} {k : Nat} {f : File} (h : fs[k]? = some f) : (part q fs k)[k]? = some f := by
  have hk := (List.getElem?_eq_some_iff.1 h).1
  unfold part
  rw [List.getElem?_append_right (by simp; omega)]
  simp only [List.length_map, List.length_take]
  rw [Nat.min_eq_left (by omega), Nat.sub_self, List.getElem?_drop, Nat.add_zero, h]
theorem part_next {q : Int} {fs : List File} {k : Nat} {f : File} (h : fs[k]? = some f) : part q fs (k + 1) = (part q fs k).set k (crashd q f) := by
  have hk := (List.getElem?_eq_some_iff.1 h).1
  unfold part
  rw [List.take_add_one, h]
  rw [List.set_append_right _ _ (by simp; omega)]
  simp only [List.length_map, List.length_take]
  rw [Nat.min_eq_left (by omega), Nat.sub_self, Option.toList, List.map_append, List.map_cons, List.map_nil, List.append_assoc]
  congr 1
  rw [List.drop_eq_getElem_cons hk, List.set_cons_zero]
  have : fs[k] = f := by rw [List.getElem?_eq_getElem hk] at h; exact Option.some.inj h
  rfl
theorem Heaped.heapEq {β : Type} {cells : β → List Value} {parts : β → List Part} {w w' : World} {base sz c : Nat} {e : TypeId} {A : Option Addr} {l : List β} (h : Heaped cells parts w base e sz A c l) (he : w'.heap = w.heap) : Heaped cells parts w' base e sz A c l :=
  ⟨⟨h.1.1, by rw [he]; exact h.1.2⟩, fun x hx p hp => ⟨(h.2 x hx p hp).1, fun hn => by
    obtain ⟨b, off, e, hb, hne, hB, hc⟩ := (h.2 x hx p hp).2 hn
    exact ⟨b, off, e, by rw [he]; exact hb, hne, hB, fun j u hu => (World.cell?_of_block (w := w) (by rw [he])).trans (hc j u hu)⟩⟩⟩
def CrRel (fs : List File) (q : Int) (n p B c : Nat) (A : Option Addr) (w1 : World) (i : Value) (wr : World) : Prop :=
  ∃ (k : Nat) (L : List MFile), k ≤ n ∧ i = .int .i64 k ∧ Hid (files L = part q fs k) ∧ Hid (∀ j y, k ≤ j → L[j]? = some y → y.f.data.length ≤ y.c) ∧ Heaped MFile.cells MFile.parts wr B 146 3 A c L ∧ Below p w1 wr ∧ B ≤ wr.heap.size ∧
    wr.cell? ⟨p, 0, none⟩ = some (.slice A n c) ∧ wr.frozen? ⟨p, 0, none⟩ = false
/-- A shorter part. -/
theorem part_take {w : World} {B : Nat} {g : Option Nat} {A : Option Addr} {d : List Int} (h : (Part.mk A 1 d.length (d.flatMap u8c)).ok w B g) (m : Nat) (hm : m ≤ d.length) : (Part.mk A 1 (d.take m).length ((d.take m).flatMap u8c)).ok w B g := by
  have e : (d.take m).flatMap u8c = (d.flatMap u8c).take m := by
    have := take_flat (cells := u8c) (sz := 1) (fun _ => rfl) d m
    rw [Nat.mul_one] at this; exact this.symm
  refine ⟨(flatMap_get (cells := u8c) (sz := 1) (fun _ _ => rfl)).1, fun hn => ?_⟩
  obtain ⟨b, off, ha, hb, hne, hB, hc⟩ := h.2 (show 0 < d.length by have h1 : 0 < (d.take m).length := hn; rw [List.length_take] at h1; omega)
  refine ⟨b, off, ha, hb, hne, hB, fun j u hu => hc j u ?_⟩
  rw [e, List.getElem?_take] at hu
  split at hu
  · exact hu
  · cases hu
theorem keepN_ok {q : Int} {f : File} (hq : ¬ q < 0) (hf : fileOk f) : 0 ≤ keepN q f ∧ keepN q f ≤ f.data.length := by
  obtain ⟨_, _, h3, h4⟩ := hf
  unfold keepN
  omega
set_option maxRecDepth 100000 in
set_option maxHeartbeats 4000000 in
theorem crash_walk (l : List MFile) (q : Int) (w : World) (A : Option Addr) (c : Nat) (hr : Files w w.heap.size A l) (hn : l.length * 48 ≤ 140737488355328) (hm : Okm l) (hq64 : I64 q) :
    Calls Try.prog 47 #[.agg #[.slice A l.length c], .int .i64 q] w (RetD w (crashG (files l) q).1 (crashG (files l) q).2) := by
  have b0 := bA (bA (Below.refl w.heap.size w) (.cells #[.slice A l.length c] 64)) (.cells #[.slice none 0 0] 64)
  cases hok : okB l with
  | false =>
    rw [crashG_bad hok]
    have HO := hid (open_bad l _ A c (Files.b hr b0) hn hm.2 hok)
    clear hok hq64
    go_enter Try.func47, Try.ntmps47
    go_wp2_with fail
    refine HO.out.mono ?_
    rintro e w1 ⟨rfl, b1⟩
    have s : w1.cell? ⟨w.heap.size + 1, 0, none⟩ = some (.slice none 0 0) := keepb b1 (by go_simp)
    have qf : ∀ o, w1.frozen? ⟨w.heap.size + 1, o, none⟩ = false := fun o => by rw [(bcell b1).2 _ _ (by simp)]; go_simp
    go_wp2_with fail
    exact bodyPost_ret (v := .tuple #[.agg #[.slice none 0 0], .int .i64 9]) (by simp [results, Try.results47, go_sem, *]) rfl (retD_bad _ _ _ (bS (bT b0 b1) (by show w.heap.size ≤ w.heap.size + 1; omega) _))
  | true =>
    have HO := hid (open_cap l _ A c (Files.b hr b0) hn hm.1 hm.2 hok)
    by_cases hq : q < 0
    · rw [crashG_neg hok hq]
      clear hok
      go_enter Try.func47, Try.ntmps47
      go_wp2_with fail
      refine HO.out.mono ?_
      rintro e w1 ⟨p, rfl, A1, c1, l1, hf, hln, g0, f0, hp, hps, hown, b1, hcap⟩
      have s : w1.cell? ⟨w.heap.size + 1, 0, none⟩ = some (.slice none 0 0) := keepb b1 (by go_simp)
      have qf : ∀ o, w1.frozen? ⟨w.heap.size + 1, o, none⟩ = false := fun o => by rw [(bcell b1).2 _ _ (by simp)]; go_simp
      clear g0 hf hln
      go_wp2_with fail
      exact bodyPost_ret (v := .tuple #[.agg #[.slice none 0 0], .int .i64 2]) (by simp [results, Try.results47, go_sem, *]) rfl (retD_bad _ _ _ (bS (bT b0 b1) (by show w.heap.size ≤ w.heap.size + 1; omega) _))
    · rw [crashG_ok hok hq]
      have hgood := okB_file hok
      have hq0 : 0 ≤ q := by omega
      clear hok
      go_enter Try.func47, Try.ntmps47
      go_wp2_with fail
      refine HO.out.mono ?_
      rintro e w1 ⟨p, rfl, A1, c1, l1, hf, hln, g0, f0, hp, hps, hown, b1, hcap⟩
      have s : w1.cell? ⟨w.heap.size + 1, 0, none⟩ = some (.slice none 0 0) := keepb b1 (by go_simp)
      have qf : ∀ o, w1.frozen? ⟨w.heap.size + 1, o, none⟩ = false := fun o => by rw [(bcell b1).2 _ _ (by simp)]; go_simp
      have qz : w.heap.size + 1 < w1.heap.size := by have := b1.size; simp at this; omega
      have hp2 : w.heap.size + 2 ≤ p := by simpa using hp
      have HF := hid hf
      have HLN := hid hln
      have hk0 := hid (show files l1 = part q (files l) 0 by rw [part_zero, hf])
      clear hf hln
      go_wp2_with fail
      go_loopw [8, 9, 10, 29] (fun _ _ _ i wr => CrRel (files l) q l.length p (p + 1) c1 A1 w1 i wr) (fun _ _ _ i _ => l.length - (intOf i).toNat)
      case atStart => exact ⟨0, l1, by omega, rfl, hk0, hid (fun j y _ hy => hcap y (List.mem_of_getElem? hy)), hown, Below.refl _ _, by omega, g0, f0⟩
      case round =>
        clear hown g0 f0 hk0
        obtain ⟨k, L, hk, rfl, HP, HCAP, hown, hbel, hsz, g0, f0⟩ := hrel
        have hLl : L.length = l.length := by
          have := congrArg List.length HP.out
          rw [files_length] at this
          unfold part at this
          rw [this]
          simp [files]; omega
        have HLL := hid hLl
        by_cases hlt : k < l.length
        · obtain ⟨x, hx⟩ : ∃ x, l[k]? = some x := ⟨_, List.getElem?_eq_getElem hlt⟩
          have hfx : (files l)[k]? = some x.f := by unfold files; rw [List.getElem?_map, hx]; rfl
          have hfk := hgood x (List.mem_of_getElem? hx)
          obtain ⟨y, hy, hyf⟩ : ∃ y, L[k]? = some y ∧ y.f = x.f := by
            have h1 := part_get (q := q) hfx
            rw [← HP.out] at h1
            unfold files at h1
            rw [List.getElem?_map] at h1
            cases h2 : L[k]? with
            | none => rw [h2] at h1; cases h1
            | some y => rw [h2] at h1; exact ⟨y, rfl, by simpa using h1⟩
          have HN := hid (part_next (q := q) hfx)
          obtain ⟨kn1, kn2⟩ := keepN_ok (show ¬ q < 0 by omega) hfk
          obtain ⟨m, hmm⟩ := Int.eq_ofNat_of_zero_le kn1
          have hmle : m ≤ y.f.data.length := by rw [hyf]; omega
          have hpt := hown.2 y (List.mem_of_getElem? hy) ⟨y.A, 1, y.f.data.length, y.f.data.flatMap u8c⟩ (List.mem_singleton.2 rfl)
          have hyc := HCAP.out k y (Nat.le_refl _) hy
          have hml : (y.f.data.take m).length = m := by rw [List.length_take]; omega
          have hp1 : ∀ pt ∈ MFile.parts ⟨y.A, m, { y.f with data := y.f.data.take m }⟩, pt.ok wr (p + 1) (Value.slice A1 L.length c1).ownBlock := fun pt hpt2 => by
            obtain rfl := List.mem_singleton.1 hpt2
            exact part_take hpt m hmle
          obtain ⟨g, rfl, hgb, hgs, hgc, hgf, hset⟩ := heap_set (cells := MFile.cells) (sz := 3) (y := ⟨y.A, m, { y.f with data := y.f.data.take m }⟩) (j := 1) (v := .slice y.A m m) (fun _ => rfl) hown hy (by decide) (by simp only [MFile.cells, List.set_cons_succ, List.set_cons_zero, hml]) hp1
          have hkL : k < L.length := (List.getElem?_eq_some_iff.1 hy).1
          have hy1 : (L.set k ⟨y.A, m, { y.f with data := y.f.data.take m }⟩)[k]? = some ⟨y.A, m, { y.f with data := y.f.data.take m }⟩ := by rw [List.getElem?_set_self hkL]
          have hp2' : ∀ pt ∈ MFile.parts ⟨y.A, m, crashd q y.f⟩, pt.ok (wr.setCell ⟨g, k * 3 + 1, none⟩ (.slice y.A m m)) (p + 1) (Value.slice (some ⟨g, 0, none⟩) (L.set k ⟨y.A, m, { y.f with data := y.f.data.take m }⟩).length c1).ownBlock := fun pt hpt2 => by
            obtain rfl := List.mem_singleton.1 hpt2
            have := hset.2 ⟨y.A, m, { y.f with data := y.f.data.take m }⟩ (List.mem_of_getElem? hy1) _ (List.mem_singleton.2 rfl)
            simp only [crashd, hyf, hmm] at this ⊢
            exact this
          obtain ⟨g', hgg, _, hgs', hgc', hgf', hset2⟩ := heap_set (cells := MFile.cells) (sz := 3) (y := ⟨y.A, m, crashd q y.f⟩) (j := 2) (v := .int .i64 m) (fun _ => rfl) hset hy1 (by decide) (by simp only [MFile.cells, crashd, List.set_cons_succ, List.set_cons_zero, hyf, hmm]; rfl) hp2'
          obtain rfl : g = g' := by injection hgg with h; injection h
          rw [List.set_set] at hset2
          have d0 := hgc 1 _ rfl
          have d1 := hgc 2 _ rfl
          have f1 := hgf (k * 3 + 1)
          have f2 := hgf (k * 3 + 2)
          have hpg : p ≠ g := by omega
          have hkz : (k : Int) < (l.length : Int) := by omega
          have hps2 : p < wr.heap.size := by omega
          obtain ⟨_, hd5, hs0, hs1⟩ := hfk
          rw [← hyf] at hs0 hs1 hd5
          have hyc' : (m : Int) ≤ (y.c : Int) := by omega
          have hmI : (y.f.synced + min q ((y.f.data.length : Int) - y.f.synced)) = (m : Int) := by rw [← hmm, hyf]; rfl
          have HSET := hid hset2
          have HFN := hid (show files (L.set k ⟨y.A, m, crashd q y.f⟩) = part q (files l) (k + 1) by rw [files_set, HP.out, HN.out, hyf])
          have HCN := hid (show ∀ j z, k + 1 ≤ j → (L.set k (⟨y.A, m, crashd q y.f⟩ : MFile))[j]? = some z → z.f.data.length ≤ z.c from fun j z hj hz => by
            rw [List.getElem?_set_ne (by omega)] at hz
            exact HCAP.out j z (by omega) hz)
          have hw1 : IntKind.i64.wrap ((y.f.data.length : Int) - y.f.synced) = (y.f.data.length : Int) - y.f.synced := IntWalk.i64_in _ (by omega)
          clear hset hset2 hgc hgf hgc' hgf' hgs' hp1 hp2' hpt hy1 hy hx hfx hgg hml kn1 kn2 hmm hyf HN
          have hmL : (m : Int) ≤ 9223372036854775807 := by omega
          rcases Int.lt_trichotomy q ((y.f.data.length : Int) - y.f.synced) with hlq | hlq | hlq
          · have hmq : y.f.synced + q = (m : Int) := by rw [← hmI]; omega
            have hw2 : IntKind.i64.wrap (y.f.synced + q) = (m : Int) := by rw [hmq]; exact IntWalk.i64_in _ (by omega)
            clear hmI
            go_wp2_with fail
            go_quiet (fail)
            go_wp2_with fail
            go_roundw
            case rel => exact ⟨k + 1, L.set k ⟨y.A, m, crashd q y.f⟩, by omega, by go_num, HFN, HCN, HSET.out.heapEq rfl, ((below_drewN hbel nq).setCell (by show p ≤ g; omega) _).setCell (by show p ≤ g; omega) _, by simpa using hsz, by go_simp, by go_simp⟩
            case measure => simp [intOf]; omega
          · have hmq : y.f.synced + ((y.f.data.length : Int) - y.f.synced) = (m : Int) := by rw [← hmI]; omega
            have hmq2 : y.f.synced + q = (m : Int) := by rw [← hmI]; omega
            have hn1 : ¬ ((y.f.data.length : Int) - y.f.synced < q) := by omega
            have hn2 : ¬ (q < (y.f.data.length : Int) - y.f.synced) := by omega
            have hw3 : IntKind.i64.wrap (y.f.synced + q) = (m : Int) := by rw [hmq2]; exact IntWalk.i64_in _ (by omega)
            clear hlq
            have hw2 : IntKind.i64.wrap (y.f.synced + ((y.f.data.length : Int) - y.f.synced)) = (m : Int) := by rw [hmq]; exact IntWalk.i64_in _ (by omega)
            clear hmI
            go_wp2_with fail
            go_quiet (fail)
            go_wp2_with fail
            go_roundw
            case rel => exact ⟨k + 1, L.set k ⟨y.A, m, crashd q y.f⟩, by omega, by go_num, HFN, HCN, HSET.out.heapEq rfl, ((below_drewN hbel nq).setCell (by show p ≤ g; omega) _).setCell (by show p ≤ g; omega) _, by simpa using hsz, by go_simp, by go_simp⟩
            case measure => simp [intOf]; omega
          · have hmq : y.f.synced + ((y.f.data.length : Int) - y.f.synced) = (m : Int) := by rw [← hmI]; omega
            have hw2 : IntKind.i64.wrap (y.f.synced + ((y.f.data.length : Int) - y.f.synced)) = (m : Int) := by rw [hmq]; exact IntWalk.i64_in _ (by omega)
            clear hmI
            go_wp2_with fail
            go_quiet (fail)
            go_wp2_with fail
            go_roundw
            case rel => exact ⟨k + 1, L.set k ⟨y.A, m, crashd q y.f⟩, by omega, by go_num, HFN, HCN, HSET.out.heapEq rfl, ((below_drewN hbel nq).setCell (by show p ≤ g; omega) _).setCell (by show p ≤ g; omega) _, by simpa using hsz, by go_simp, by go_simp⟩
            case measure => simp [intOf]; omega
        · obtain rfl : k = l.length := by omega
          have hfin : files L = (files l).map (crashd q) := by rw [HP.out, ← files_length l, part_all]
          have HFIN := hid hfin
          have s2 : wr.cell? ⟨w.heap.size + 1, 0, none⟩ = some (.slice none 0 0) := (hbel.cell (p := ⟨w.heap.size + 1, 0, none⟩) (by show w.heap.size + 1 < p; omega)).trans s
          have qf2 : ∀ o, wr.frozen? ⟨w.heap.size + 1, o, none⟩ = false := fun o => (hbel.frozen (p := ⟨w.heap.size + 1, o, none⟩) (by show w.heap.size + 1 < p; omega)).trans (qf o)
          have hbW := (bT b0 b1).trans (hbel.mono (show w.heap.size ≤ p by omega))
          clear hfin s qf
          go_wp2_with fail
          refine bodyPost_ret (v := .tuple #[.agg #[.slice A1 l.length c1], .int .i64 0]) (by simp [results, Try.results47, go_sem, *]) rfl ?_
          refine ⟨A1, c1, L, by rw [List.length_map, files_length], HFIN.out, (hown.store (a := ⟨w.heap.size + 1, 0, none⟩) (by show w.heap.size + 1 < p + 1; omega) _).led, bS hbW (by show w.heap.size ≤ w.heap.size + 1; omega) _⟩
def CdRel (fs : List File) (q : Int) (n G B c : Nat) (A : Option Addr) (w1 : World) (i : Value) (wr : World) : Prop :=
  ∃ (k : Nat) (L : List MFile), k ≤ n ∧ i = .int .i64 k ∧ Hid (files L = part q fs k) ∧ Hid (∀ j y, k ≤ j → L[j]? = some y → y.f.data.length ≤ y.c) ∧ Heaped MFile.cells MFile.parts wr B 146 3 A c L ∧ Below B w1 wr ∧ G < wr.heap.size ∧
    wr.cell? ⟨G, 0, none⟩ = some (.slice A n c) ∧ (∀ g, A = some ⟨g, 0, none⟩ → g ≠ G)
set_option maxRecDepth 100000 in
set_option maxHeartbeats 4000000 in
theorem crashed_walk (l : List MFile) (q : Int) (w : World) (A : Option Addr) (c : Nat) (hr : Files w w.heap.size A l) (hn : l.length * 48 ≤ 140737488355328) (hm : Okm l) (hq64 : I64 q) :
    Calls Try.prog 48 #[.agg #[.slice A l.length c], .int .i64 q] w (RetD w (crashG (files l) q).1 (crashG (files l) q).2) := by
  have b0 := bA (bA (Below.refl w.heap.size w) (.cells #[.slice A l.length c] 64)) (.cells #[.slice none 0 0] 64)
  have HM := hid (DiskMay_walk l _ A c (rdb hr.1 (by decide) b0) (by omega))
  cases hok : okB l with
  | false =>
    rw [crashG_bad hok]
    rw [hok] at HM
    clear hok hq64
    go_enter Try.func48, Try.ntmps48
    go_wp2_with fail
    refine HM.out.mono ?_
    rintro e w1 ⟨rfl, b1⟩
    have s : w1.cell? ⟨w.heap.size + 1, 0, none⟩ = some (.slice none 0 0) := keepb b1 (by go_simp)
    have qf : ∀ o, w1.frozen? ⟨w.heap.size + 1, o, none⟩ = false := fun o => by rw [(bcell b1).2 _ _ (by simp)]; go_simp
    go_wp2_with fail
    exact bodyPost_ret (v := .tuple #[.agg #[.slice none 0 0], .int .i64 9]) (by simp [results, Try.results48, go_sem, *]) rfl (retD_bad _ _ _ (bS (bT b0 b1) (by show w.heap.size ≤ w.heap.size + 1; omega) _))
  | true =>
    rw [hok] at HM
    by_cases hq : q < 0
    · rw [crashG_neg hok hq]
      clear hok
      go_enter Try.func48, Try.ntmps48
      go_wp2_with fail
      refine HM.out.mono ?_
      rintro e w1 ⟨rfl, b1⟩
      have s : w1.cell? ⟨w.heap.size + 1, 0, none⟩ = some (.slice none 0 0) := keepb b1 (by go_simp)
      have qf : ∀ o, w1.frozen? ⟨w.heap.size + 1, o, none⟩ = false := fun o => by rw [(bcell b1).2 _ _ (by simp)]; go_simp
      go_wp2_with fail
      exact bodyPost_ret (v := .tuple #[.agg #[.slice none 0 0], .int .i64 2]) (by simp [results, Try.results48, go_sem, *]) rfl (retD_bad _ _ _ (bS (bT b0 b1) (by show w.heap.size ≤ w.heap.size + 1; omega) _))
    · rw [crashG_ok hok hq]
      have hgood := okB_file hok
      have hq0 : 0 ≤ q := by omega
      clear hok
      go_enter Try.func48, Try.ntmps48
      go_wp2_with fail
      refine HM.out.mono ?_
      rintro e w1 ⟨rfl, b1⟩
      have b01 := bT b0 b1
      have s : w1.cell? ⟨w.heap.size + 1, 0, none⟩ = some (.slice none 0 0) := keepb b1 (by go_simp)
      have qf : ∀ o, w1.frozen? ⟨w.heap.size + 1, o, none⟩ = false := fun o => by rw [(bcell b1).2 _ _ (by simp)]; go_simp
      have qz : w.heap.size + 1 < w1.heap.size := by have := b1.size; simp at this; omega
      have g0 : w1.cell? ⟨w.heap.size, 0, none⟩ = some (.slice A l.length c) := keepb b1 (by go_simp)
      have HC := hid (DiskCopy_cap l w1 A c (Files.b hr b01) hn hm.1)
      go_wp2_with fail
      refine HC.out.mono ?_
      rintro e w3 ⟨A1, c1, l1, rfl, hf, hln, hown, b3, hcap⟩
      have b03 := bT b01 b3
      have s := keepb b3 s
      have qf : ∀ o, w3.frozen? ⟨w.heap.size + 1, o, none⟩ = false := fun o => keepf b3 (qf o) qz
      have qz3 : w.heap.size + 1 < w3.heap.size := Nat.lt_of_lt_of_le qz b3.size
      have hk0 := hid (show files l1 = part q (files l) 0 by rw [part_zero, hf])
      have hsep : ∀ g, A1 = some ⟨g, 0, none⟩ → g ≠ w3.heap.size := fun g hg e => by
        subst hg
        have := (hown.1.lt g rfl).2
        omega
      have bX := bA (Below.refl w3.heap.size w3) (.cells #[.slice A1 l.length c1] 64)
      clear hf hln
      go_wp2_with fail
      go_loopw [7] (CdRel (files l) q l.length w3.heap.size w1.heap.size c1 A1 (w3.alloc (.cells #[.slice A1 l.length c1] 64))) (fun i _ => l.length - (intOf i).toNat)
      case atStart => exact ⟨0, l1, by omega, rfl, hk0, hid (fun j y _ hy => hcap y (List.mem_of_getElem? hy)), hown.alloc _, Below.refl _ _, by simp, by go_simp, hsep⟩
      case round =>
        clear hown hk0
        obtain ⟨k, L, hk, rfl, HP, HCAP, hown, hbel, hGs, g1, _⟩ := hrel
        by_cases hlt : k < l.length
        · obtain ⟨x, hx⟩ : ∃ x, l[k]? = some x := ⟨_, List.getElem?_eq_getElem hlt⟩
          have hfx : (files l)[k]? = some x.f := by unfold files; rw [List.getElem?_map, hx]; rfl
          have hfk := hgood x (List.mem_of_getElem? hx)
          obtain ⟨y, hy, hyf⟩ : ∃ y, L[k]? = some y ∧ y.f = x.f := by
            have h1 := part_get (q := q) hfx
            rw [← HP.out] at h1
            unfold files at h1
            rw [List.getElem?_map] at h1
            cases h2 : L[k]? with
            | none => rw [h2] at h1; cases h1
            | some y => rw [h2] at h1; exact ⟨y, rfl, by simpa using h1⟩
          have HN := hid (part_next (q := q) hfx)
          obtain ⟨kn1, kn2⟩ := keepN_ok (show ¬ q < 0 by omega) hfk
          obtain ⟨m, hmm⟩ := Int.eq_ofNat_of_zero_le kn1
          have hmle : m ≤ y.f.data.length := by rw [hyf]; omega
          have hpt := hown.2 y (List.mem_of_getElem? hy) ⟨y.A, 1, y.f.data.length, y.f.data.flatMap u8c⟩ (List.mem_singleton.2 rfl)
          have hyc := HCAP.out k y (Nat.le_refl _) hy
          have hml : (y.f.data.take m).length = m := by rw [List.length_take]; omega
          have hp1 : ∀ pt ∈ MFile.parts ⟨y.A, y.c, { y.f with data := y.f.data.take m }⟩, pt.ok wr w1.heap.size (Value.slice A1 L.length c1).ownBlock := fun pt hpt2 => by
            obtain rfl := List.mem_singleton.1 hpt2
            exact part_take hpt m hmle
          obtain ⟨g, rfl, hgb, hgs, hgc, hgf, hset⟩ := heap_set (cells := MFile.cells) (sz := 3) (y := ⟨y.A, y.c, { y.f with data := y.f.data.take m }⟩) (j := 1) (v := .slice y.A m y.c) (fun _ => rfl) hown hy (by decide) (by simp only [MFile.cells, List.set_cons_succ, List.set_cons_zero, hml]) hp1
          have hkL : k < L.length := (List.getElem?_eq_some_iff.1 hy).1
          have hy1 : (L.set k ⟨y.A, y.c, { y.f with data := y.f.data.take m }⟩)[k]? = some ⟨y.A, y.c, { y.f with data := y.f.data.take m }⟩ := by rw [List.getElem?_set_self hkL]
          have hp2' : ∀ pt ∈ MFile.parts ⟨y.A, y.c, crashd q y.f⟩, pt.ok (wr.setCell ⟨g, k * 3 + 1, none⟩ (.slice y.A m y.c)) w1.heap.size (Value.slice (some ⟨g, 0, none⟩) (L.set k ⟨y.A, y.c, { y.f with data := y.f.data.take m }⟩).length c1).ownBlock := fun pt hpt2 => by
            obtain rfl := List.mem_singleton.1 hpt2
            have := hset.2 ⟨y.A, y.c, { y.f with data := y.f.data.take m }⟩ (List.mem_of_getElem? hy1) _ (List.mem_singleton.2 rfl)
            simp only [crashd, hyf, hmm] at this ⊢
            exact this
          obtain ⟨g', hgg, _, hgs', hgc', hgf', hset2⟩ := heap_set (cells := MFile.cells) (sz := 3) (y := ⟨y.A, y.c, crashd q y.f⟩) (j := 2) (v := .int .i64 m) (fun _ => rfl) hset hy1 (by decide) (by simp only [MFile.cells, crashd, List.set_cons_succ, List.set_cons_zero, hyf, hmm]; rfl) hp2'
          obtain rfl : g = g' := by injection hgg with h; injection h
          rw [List.set_set] at hset2
          have d0 : wr.cell? ⟨g, k * 3, none⟩ = some (.string y.f.name) := by have := hgc 0 _ rfl; simpa using this
          have d1 := hgc 1 _ rfl
          have d2 := hgc 2 _ rfl
          have f1 := hgf (k * 3 + 1)
          have f2 := hgf (k * 3 + 2)
          have hpg : w3.heap.size ≠ g := fun e => hsep g rfl e.symm
          have hkz : (k : Int) < (l.length : Int) := by omega
          obtain ⟨_, hd5, hs0, hs1⟩ := hfk
          rw [← hyf] at hs0 hs1 hd5
          have hyc' : (m : Int) ≤ (y.c : Int) := by omega
          have hmI : (y.f.synced + min q ((y.f.data.length : Int) - y.f.synced)) = (m : Int) := by rw [← hmm, hyf]; rfl
          have HSET := hid hset2
          have HFN := hid (show files (L.set k ⟨y.A, y.c, crashd q y.f⟩) = part q (files l) (k + 1) by rw [files_set, HP.out, HN.out, hyf])
          have HCN := hid (show ∀ j z, k + 1 ≤ j → (L.set k (⟨y.A, y.c, crashd q y.f⟩ : MFile))[j]? = some z → z.f.data.length ≤ z.c from fun j z hj hz => by
            rw [List.getElem?_set_ne (by omega)] at hz
            exact HCAP.out j z (by omega) hz)
          have hw1 : IntKind.i64.wrap ((y.f.data.length : Int) - y.f.synced) = (y.f.data.length : Int) - y.f.synced := IntWalk.i64_in _ (by omega)
          clear hset hset2 hgc hgf hgc' hgf' hgs' hp1 hp2' hpt hy1 hy hx hfx hgg hml kn1 kn2 hmm hyf HN
          have hmL : (m : Int) ≤ 9223372036854775807 := by omega
          by_cases hlq : q < (y.f.data.length : Int) - y.f.synced
          · have hmq : y.f.synced + q = (m : Int) := by rw [← hmI]; omega
            have hw2 : IntKind.i64.wrap (y.f.synced + q) = (m : Int) := by rw [hmq]; exact IntWalk.i64_in _ (by omega)
            clear hmI
            go_wp2_with fail
            go_region
            all_goals
              go_wp2_with fail
              go_roundw
              case rel => exact ⟨k + 1, L.set k ⟨y.A, y.c, crashd q y.f⟩, by omega, by go_num, HFN, HCN, (HSET.out.alloc _).drew, ((((hbel.setCell (by show w1.heap.size ≤ g; omega) _).setCell (by show w1.heap.size ≤ g; omega) _).alloc (by simp; omega) _).drew), by simp; omega, by go_simp, hsep⟩
              case measure => simp [intOf]; omega
          · have hmq : y.f.synced + ((y.f.data.length : Int) - y.f.synced) = (m : Int) := by rw [← hmI]; omega
            have hw2 : IntKind.i64.wrap (y.f.synced + ((y.f.data.length : Int) - y.f.synced)) = (m : Int) := by rw [hmq]; exact IntWalk.i64_in _ (by omega)
            clear hmI
            go_wp2_with fail
            go_region
            all_goals
              go_wp2_with fail
              go_roundw
              case rel => exact ⟨k + 1, L.set k ⟨y.A, y.c, crashd q y.f⟩, by omega, by go_num, HFN, HCN, (HSET.out.alloc _).drew, ((((hbel.setCell (by show w1.heap.size ≤ g; omega) _).setCell (by show w1.heap.size ≤ g; omega) _).alloc (by simp; omega) _).drew), by simp; omega, by go_simp, hsep⟩
              case measure => simp [intOf]; omega
        · obtain rfl : k = l.length := by omega
          have hfin : files L = (files l).map (crashd q) := by rw [HP.out, ← files_length l, part_all]
          have HFIN := hid hfin
          have hbel2 : Below w1.heap.size w3 wr := ((Below.refl w1.heap.size w3).alloc (by have := b3.size; omega) _).trans hbel
          have s2 : wr.cell? ⟨w.heap.size + 1, 0, none⟩ = some (.slice none 0 0) := (hbel2.cell (p := ⟨w.heap.size + 1, 0, none⟩) qz).trans s
          have qf2 : ∀ o, wr.frozen? ⟨w.heap.size + 1, o, none⟩ = false := fun o => (hbel2.frozen (p := ⟨w.heap.size + 1, o, none⟩) qz).trans (qf o)
          have hbW := b03.trans (hbel2.mono (show w.heap.size ≤ w1.heap.size by omega))
          clear hfin s qf
          go_wp2_with fail
          refine bodyPost_ret (v := .tuple #[.agg #[.slice A1 l.length c1], .int .i64 0]) (by simp [results, Try.results48, go_sem, *]) rfl ?_
          refine ⟨A1, c1, L, by rw [List.length_map, files_length], HFIN.out, (hown.store (a := ⟨w.heap.size + 1, 0, none⟩) qz _).led, bS hbW (by show w.heap.size ≤ w.heap.size + 1; omega) _⟩
end Go.Proofs.Ytafnbackjjaelaa
