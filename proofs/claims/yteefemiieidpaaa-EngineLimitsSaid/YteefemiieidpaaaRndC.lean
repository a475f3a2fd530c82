/- rounds.clone. -/
import Derived.Test.YteefemiieidpaaaRndQ
import Derived.Test.YteefemiieidpaaaClns
import Derived.Test.YteefemiieidpaaaBegin
namespace Go.Proofs.Yteefemiieidpaaa
open Go.ChangeShapes Go.WideShapes Go.ChangeAt Go.RowKit
set_option linter.unusedVariables false
set_option linter.unusedSimpArgs false
theorem lists_takeN {m m' : List (ML Int)} {k : Nat} {x y : ML Int} (h : lists (m'.take k) = lists (m.take k)) (hx : m[k]? = some x) (hk : k < m'.length) (hy : y.l = x.l) : lists ((m'.set k y).take (k + 1)) = lists (m.take (k + 1)) := by
  have h1 : (m'.set k y)[k]? = some y := List.getElem?_set_self hk
  rw [List.take_add_one, List.take_add_one, h1, hx, List.take_set_of_le (Nat.le_refl _)]
  unfold lists at *
  rw [List.map_append, List.map_append, h]
  simp [hy]
/-- A list of rows of numbers, all in blocks from B on. -/
def NewGridR (w : World) (B : Nat) (A : Option Addr) (m : List (ML Int)) : Prop :=
  (Part.mk A 1 m.length (m.flatMap ML.cells)).ok w B none ∧ ∀ x ∈ m, (Part.mk x.A 1 x.l.length (x.l.flatMap i64c)).ok w B none
theorem NewGridR.grid {w : World} {B : Nat} {A : Option Addr} {m : List (ML Int)} (h : NewGridR w B A m) : Grid i64c 1 w w.heap.size A m :=
  ⟨h.1.to, fun x hx p hp => by obtain rfl := List.mem_singleton.1 hp; exact (h.2 x hx).to⟩
theorem NewGridR.store {w : World} {B : Nat} {A : Option Addr} {m : List (ML Int)} (h : NewGridR w B A m) {a : Addr} (ha : a.block < B) (u : Value) : NewGridR (w.setCell a u) B A m := ⟨h.1.store ha u, fun x hx => (h.2 x hx).store ha u⟩
/-- The relation of clone's loop. -/
def ClR (N : Nat) (w : World) (s : State) (VA : Option Addr) (vc : Nat) (G : Nat) (cs : Array Value) (vi : Value) (wr : World) : Prop :=
  ∃ (k : Nat) (T : Tags) (m : List (ML Int)), k ≤ s.mail.length ∧ vi = .int .i64 (k : Nat) ∧ Hid (m.length = s.mail.length) ∧ Hid (lists (m.take k) = lists (s.mail.take k)) ∧ Hid (TOwn wr T 3 53 1 (some ⟨G, 0, none⟩) s.mail.length s.mail.length (m.flatMap ML.cells)) ∧
    Hid (∀ x ∈ m, TRow wr T 4 x.A 1 x.l.length (x.l.flatMap i64c)) ∧ Hid (TOwn wr T 2 50 2 VA vc s.vals.length (s.vals.flatMap Val.cells)) ∧ Hid (TObj wr T 0 N cs 30) ∧ Hid (∃ v0 v1 v2 v3 v4 v5 : Value, TObj wr T 0 (N + 1) #[v0, v1, v2, v3, v4, v5] 30) ∧ Hid (∀ b, b < N → T b = 0) ∧ Hid (Below N w wr)
set_option maxRecDepth 100000 in
set_option maxHeartbeats 400000 in
theorem cloneSt_walk (s : State) (w : World) (A B : Option Addr) (c d : Nat) (h1 : Rd w w.heap.size A 2 s.vals.length (s.vals.flatMap Val.cells)) (hn : s.vals.length * 16 ≤ 140737488355328)
    (g1 : Grid i64c 1 w w.heap.size B s.mail) (hg : s.mail.length * 24 ≤ 140737488355328) (hz : ∀ x ∈ s.mail, x.l.length * 8 ≤ 140737488355328) :
    Calls Try.prog 19 #[.agg (stCells s A c B d)] w fun e w' => ∃ A' c' B' k m, e = .returned (.agg (stCells { s with mail := m } A' c' B' k)) ∧ lists m = lists s.mail ∧ (Part.mk A' 2 s.vals.length (s.vals.flatMap Val.cells)).ok w' w.heap.size none ∧ NewGridR w' w.heap.size B' m ∧ Below w.heap.size w w' := by
  unfold stCells
  obtain ⟨W, hW⟩ : ∃ W, W = (w.alloc (.cells #[.int .i64 s.step, .int .i64 s.phase, .bool s.fresh, .bool s.done, .slice A s.vals.length c, .slice B s.mail.length d] 30)).alloc (.cells #[.int .i64 0, .int .i64 0, .bool false, .bool false, .slice none 0 0, .slice none 0 0] 30) := ⟨_, rfl⟩
  have HB0 := hid (show Below w.heap.size w W by rw [hW]; exact bA (bA (Below.refl _ _) _) _)
  have hWs : W.heap.size = w.heap.size + 2 := by rw [hW]; simp
  have HOS : Hid (TObj W (fun _ => 0) 0 w.heap.size #[.int .i64 s.step, .int .i64 s.phase, .bool s.fresh, .bool s.done, .slice A s.vals.length c, .slice B s.mail.length d] 30) := hid (by rw [hW]; exact TObj.alloc ⟨heap_alloc_new w _, rfl⟩ _)
  have HOR : Hid (TObj W (fun _ => 0) 0 (w.heap.size + 1) #[.int .i64 0, .int .i64 0, .bool false, .bool false, .slice none 0 0, .slice none 0 0] 30) := hid ⟨by rw [hW]; exact heap_alloc_new (w.alloc _) _ |> fun h => by simpa using h, rfl⟩
  have HCV := hid (fun (V : World) (h : Rd V V.heap.size A 2 s.vals.length (s.vals.flatMap Val.cells)) => cloneVals_walk s.vals A s.vals.length c V.heap.size V h hn)
  have HCI := hid (fun (x : ML Int) (V : World) (h : Rd V V.heap.size x.A 1 x.l.length (x.l.flatMap i64c)) (hx : x.l.length * 8 ≤ 140737488355328) => cloneInts_walk x.l x.A x.l.length x.c V.heap.size V h hx)
  have HR1 := hid h1
  have HG1 := hid g1
  have HZ := hid hz
  clear h1 g1 hz
  go_enter Try.func19, Try.ntmps19
  go_wp2_with fail
  rw [← hW]
  clear hW
  refine (HCV.out W (rdb HR1.out (by decide) HB0.out)).mono ?_
  rintro e w1 ⟨VA, vc, rfl, o1, b1⟩
  have HV1 := hid (show TOwn w1 (upd W.heap.size (fun _ => 0) 2) 2 50 2 VA vc s.vals.length (s.vals.flatMap Val.cells) from TOwn.of_own o1 (Nat.le_refl _))
  have HOS1 := hid (HOS.out.keep (S := fun _ => False) (Keep.below b1) (fun h => h) (agree_upd (t := 2) (Nat.le_refl _)))
  have HOR1 := hid (HOR.out.keep (S := fun _ => False) (Keep.below b1) (fun h => h) (agree_upd (t := 2) (Nat.le_refl _)))
  have HB1 := hid (bT HB0.out b1)
  have HS1 := hid (show w.heap.size + 2 ≤ w1.heap.size by have := b1.size; omega)
  clear o1 b1 HOS HOR
  have p0 := HOS1.out.cell (i := 0) rfl
  have p4 := HOS1.out.cell (i := 4) rfl
  have p5 := HOS1.out.cell (i := 5) rfl
  have pf := HOS1.out.free
  have hs1 : w.heap.size < w1.heap.size := by have := HS1.out; omega
  have hmz : (s.mail.length : Int) ≤ 9223372036854775807 := by omega
  -- the state's box behind the store
  have HOS2 := hid (HOS1.out.store 4 (.slice VA s.vals.length vc))
  have HK2 := hid (show Keep (fun t => t = 0) (upd W.heap.size (fun _ => 0) 2) w1 (w1.setCell ⟨w.heap.size, 4, none⟩ (.slice VA s.vals.length vc)) from Keep.refl.setCell (show w.heap.size < w1.heap.size → _ = 0 from fun _ => HOS1.out.tag) _)
  go_wp2_with (refine wp_make1 rfl rfl Try.underlying28 inf_ints rfl s.mail.length rfl rfl (by omega) (by omega) ?_; intro w2 o2 b2 hz2; obtain ⟨hc2, hf2⟩ := bcell b2; have HO2 := hid o2; have HB2 := hid b2; have HZ2 := hid hz2; clear o2 hz2 b2)
  have hX : (w1.setCell ⟨w.heap.size, 4, none⟩ (.slice VA s.vals.length vc)).heap.size = w1.heap.size := by simp
  have hA2 := agree_upd (n := w1.heap.size) (m := (w1.setCell ⟨w.heap.size, 4, none⟩ (.slice VA s.vals.length vc)).heap.size) (T := upd W.heap.size (fun _ => 0) 2) (t := 3) (by simp)
  have HM2 := hid (show TOwn w2 (upd w1.heap.size (upd W.heap.size (fun _ => 0) 2) 3) 3 53 1 (some ⟨w1.heap.size, 0, none⟩) s.mail.length s.mail.length ((List.replicate s.mail.length (⟨none, 0, []⟩ : ML Int)).flatMap ML.cells) by
    have h := HO2.out
    rw [flat_rep_ml] at h
    rw [hX] at h
    exact TOwn.of_own h (Nat.le_refl _))
  have HV2 := hid ((HV1.out.keep HK2.out (by decide) Agree.refl).keep (S := fun _ => False) (Keep.below HB2.out) (fun h => h) hA2)
  have HOS3 := hid (HOS2.out.keep (S := fun _ => False) (Keep.below HB2.out) (fun h => h) hA2)
  have HOR2 := hid (show TObj (w1.setCell ⟨w.heap.size, 4, none⟩ (.slice VA s.vals.length vc)) (upd W.heap.size (fun _ => 0) 2) 0 (w.heap.size + 1) _ 30 from ⟨by
    simp only [World.setCell, Array.getElem?_modify]
    rw [if_neg (by omega)]; exact HOR1.out.blk, HOR1.out.tag⟩)
  have HOR3 := hid (HOR2.out.keep (S := fun _ => False) (Keep.below HB2.out) (fun h => h) hA2)
  have HB3 := hid (show Below w.heap.size w w2 from (bS HB1.out (Nat.le_refl _) _).trans (HB2.out.mono (by rw [hX]; omega)))
  have HT0 := hid (show ∀ b, b < w.heap.size → upd w1.heap.size (upd W.heap.size (fun _ => 0) 2) 3 b = 0 from fun b hb => by rw [upd_old (by omega), upd_old (by omega)])
  clear HK2 HOS1 HOS2 HOR1 HOR2 HV1 HO2 HB2 hA2 hX hc2 hf2 p0 p4 p5 pf
  go_loopw [17] (fun vi wr => ClR w.heap.size w s VA vc w1.heap.size #[.int .i64 s.step, .int .i64 s.phase, .bool s.fresh, .bool s.done, .slice VA s.vals.length vc, .slice B s.mail.length d] vi wr) (fun vi _ => s.mail.length - (intOf vi).toNat)
  case atStart => exact ⟨0, _, List.replicate s.mail.length ⟨none, 0, []⟩, Nat.zero_le _, rfl, hid (List.length_replicate ..), hid rfl, HM2, hid (fun x hx => by obtain rfl := (List.mem_replicate.1 hx).2; exact TRow.nil_), HV2, HOS3, hid ⟨_, _, _, _, _, _, HOR3.out⟩, HT0, HB3⟩
  case round =>
    clear HM2 HV2 HOS3 HOR3 HB3 HT0
    obtain ⟨k, T, m, hk, rfl, HML, HLS, HM, HRW, HV, HOS, HOR, HT0, HBL⟩ := hrel
    have hsz := HOS.out.lt
    have p5 := HOS.out.cell (i := 5) rfl
    by_cases hlt : k < s.mail.length
    · obtain ⟨x, hx⟩ : ∃ x, s.mail[k]? = some x := ⟨_, List.getElem?_eq_getElem hlt⟩
      obtain ⟨b, off, hBA, hb, c0⟩ := ml_cell (HG1.out.1.below HBL.out) rfl hx
      subst hBA
      have hrow := rdb (Grid.data HG1.out (List.mem_of_getElem? hx)) (by decide) HBL.out
      have hkz : (k : Int) < (s.mail.length : Int) := by omega
      have hbr : b < wr.heap.size := by omega
      have HC := hid (HCI.out x wr hrow (HZ.out x (List.mem_of_getElem? hx)))
      have HX := hid hx
      clear hx hrow
      go_wp2_with fail
      refine HC.out.mono ?_
      rintro e w3 ⟨A3, c3, rfl, o3, b3⟩
      obtain ⟨z, hz⟩ : ∃ z, m[k]? = some z := ⟨_, List.getElem?_eq_getElem (by rw [HML.out]; exact hlt)⟩
      have hfl : (m.flatMap ML.cells)[k]? = some (.slice z.A z.l.length z.c) := by
        have h9 := (flatMap_get (l := m) (cells := ML.cells) (sz := 1) (fun _ _ => rfl)).2 k z 0 _ hz rfl
        simpa using h9
      have ha3 := agree_upd (n := wr.heap.size) (T := T) (t := 4) (Nat.le_refl _)
      have hM3 := HM.out.keep (S := fun _ => False) (Keep.below b3) (fun h => h) ha3
      have gc := (own_at hM3.1 hfl).1
      have gf := (own_at hM3.1 hfl).2
      have HY := hid (show TRow w3 (upd wr.heap.size T 4) 4 A3 1 x.l.length (x.l.flatMap i64c) from TRow.of_own o3 (Nat.le_refl _))
      have hgt : upd wr.heap.size T 4 w1.heap.size = 3 := hM3.2 _ rfl
      have ks : Keep (fun t => t = 3) (upd wr.heap.size T 4) w3 (w3.setCell ⟨w1.heap.size, k, none⟩ (.slice A3 x.l.length c3)) := Keep.refl.setCell (show w1.heap.size < w3.heap.size → _ = 3 from fun _ => hgt) _
      have e1 := flat_set (cells := ML.cells) (sz := 1) (fun _ => rfl) (v := .slice A3 x.l.length c3) (y := (⟨A3, c3, x.l⟩ : ML Int)) (j := 0) (by decide) m k z hz rfl
      rw [Nat.mul_one, Nat.add_zero] at e1
      have HREL : Hid (ClR w.heap.size w s VA vc w1.heap.size #[.int .i64 s.step, .int .i64 s.phase, .bool s.fresh, .bool s.done, .slice VA s.vals.length vc, .slice (some ⟨b, off, none⟩) s.mail.length d] (.int .i64 ((k + 1 : Nat) : Int)) (w3.setCell ⟨w1.heap.size, k, none⟩ (.slice A3 x.l.length c3))) := hid (by
        refine ⟨k + 1, upd wr.heap.size T 4, m.set k ⟨A3, c3, x.l⟩, by omega, rfl, hid (by rw [List.length_set]; exact HML.out), hid (lists_takeN HLS.out HX.out (by rw [HML.out]; exact hlt) rfl), hid (by rw [e1]; exact hM3.set k _), hid (fun x2 hx2 => ?_), hid ((HV.out.keep (S := fun _ => False) (Keep.below b3) (fun h => h) ha3).keep ks (by decide) Agree.refl), hid ((HOS.out.keep (S := fun _ => False) (Keep.below b3) (fun h => h) ha3).keep ks (by decide) Agree.refl), hid ?_, hid (fun b hb => by rw [upd_old (by omega)]; exact HT0.out b hb), hid ?_⟩
        · rcases List.mem_or_eq_of_mem_set hx2 with h | rfl
          · exact ((HRW.out x2 h).keep (S := fun _ => False) (Keep.below b3) (fun h => h) ha3).keep ks (by decide) Agree.refl
          · exact HY.out.keep ks (by decide) Agree.refl
        · obtain ⟨v0, v1, v2, v3, v4, v5, h⟩ := HOR.out
          exact ⟨v0, v1, v2, v3, v4, v5, (h.keep (S := fun _ => False) (Keep.below b3) (fun h => h) ha3).keep ks (by decide) Agree.refl⟩
        · exact (HBL.out.trans (b3.mono (by omega))).setCell (by show w.heap.size ≤ w1.heap.size; have := HS1.out; omega) _)
      clear hM3 HY ks e1 hz hfl ha3
      go_wp2_with fail
      go_roundw
      case rel =>
        have h := HREL.out
        rw [show ((k + 1 : Nat) : Int) = (k : Int) + 1 by omega] at h
        exact h
      case measure => simp [intOf]; omega
    · obtain rfl : k = s.mail.length := by omega
      obtain ⟨v0, v1, v2, v3, v4, v5, hR⟩ := HOR.out
      have HRR := hid hR
      have r0 := hR.cell (i := 0) rfl
      have r1 := hR.cell (i := 1) rfl
      have r2 := hR.cell (i := 2) rfl
      have r3 := hR.cell (i := 3) rfl
      have r4 := hR.cell (i := 4) rfl
      have r5 := hR.cell (i := 5) rfl
      have rf := hR.free
      have hrs := hR.lt
      have p0 := HOS.out.cell (i := 0) rfl
      have p1 := HOS.out.cell (i := 1) rfl
      have p2 := HOS.out.cell (i := 2) rfl
      have p3 := HOS.out.cell (i := 3) rfl
      have p4 := HOS.out.cell (i := 4) rfl
      have pf := HOS.out.free
      clear hR
      go_wp2_with fail
      refine bodyPost_ret (v := .agg #[.int .i64 s.step, .int .i64 s.phase, .bool s.fresh, .bool s.done, .slice VA s.vals.length vc, .slice (some ⟨w1.heap.size, 0, none⟩) s.mail.length s.mail.length]) (by simp [results, Try.results19, go_sem, *]) rfl ?_
      have hN := HOS.out.tag
      have hN1 := HRR.out.tag
      have hk := ((((((((Keep.refl (S := fun x => x = 0) (T := T) (w := wr)).setCell (p := ⟨w.heap.size, 5, none⟩) (fun _ => hN) (.slice (some ⟨w1.heap.size, 0, none⟩) s.mail.length s.mail.length)).setCell (p := ⟨w.heap.size + 1, 0, none⟩) (fun _ => hN1) (.int .i64 s.step)).setCell (p := ⟨w.heap.size + 1, 1, none⟩) (fun _ => hN1) (.int .i64 s.phase)).setCell (p := ⟨w.heap.size + 1, 2, none⟩) (fun _ => hN1) (.bool s.fresh)).setCell (p := ⟨w.heap.size + 1, 3, none⟩) (fun _ => hN1) (.bool s.done)).setCell (p := ⟨w.heap.size + 1, 4, none⟩) (fun _ => hN1) (.slice VA s.vals.length vc)).setCell (p := ⟨w.heap.size + 1, 5, none⟩) (fun _ => hN1) (.slice (some ⟨w1.heap.size, 0, none⟩) s.mail.length s.mail.length))
      have hml : m.length = s.mail.length := HML.out
      have hls : lists m = lists s.mail := by
        have h := HLS.out
        rw [← hml, List.take_length] at h
        rw [h, hml, List.take_length]
      have hmr := HM.out.row.keep (T' := T) hk (by decide) Agree.refl
      have hbl : Below w.heap.size w (((((((wr.setCell ⟨w.heap.size, 5, none⟩ (.slice (some ⟨w1.heap.size, 0, none⟩) s.mail.length s.mail.length)).setCell ⟨w.heap.size + 1, 0, none⟩ (.int .i64 s.step)).setCell ⟨w.heap.size + 1, 1, none⟩ (.int .i64 s.phase)).setCell ⟨w.heap.size + 1, 2, none⟩ (.bool s.fresh)).setCell ⟨w.heap.size + 1, 3, none⟩ (.bool s.done)).setCell ⟨w.heap.size + 1, 4, none⟩ (.slice VA s.vals.length vc)).setCell ⟨w.heap.size + 1, 5, none⟩ (.slice (some ⟨w1.heap.size, 0, none⟩) s.mail.length s.mail.length)) := by
        repeat (with_reducible refine bS ?_ (by simp) _)
        exact HBL.out
      have hvr := HV.out.row.keep (T' := T) hk (by decide) Agree.refl
      have hvr2 := hvr.part HT0.out (by decide)
      have hmr2 := hmr.part HT0.out (by decide)
      have hrr : ∀ x ∈ m, _ := fun x hx => ((HRW.out x hx).keep (T' := T) hk (by decide) Agree.refl).part HT0.out (by decide)
      generalize (((((((wr.setCell ⟨w.heap.size, 5, none⟩ (.slice (some ⟨w1.heap.size, 0, none⟩) s.mail.length s.mail.length)).setCell ⟨w.heap.size + 1, 0, none⟩ (.int .i64 s.step)).setCell ⟨w.heap.size + 1, 1, none⟩ (.int .i64 s.phase)).setCell ⟨w.heap.size + 1, 2, none⟩ (.bool s.fresh)).setCell ⟨w.heap.size + 1, 3, none⟩ (.bool s.done)).setCell ⟨w.heap.size + 1, 4, none⟩ (.slice VA s.vals.length vc)).setCell ⟨w.heap.size + 1, 5, none⟩ (.slice (some ⟨w1.heap.size, 0, none⟩) s.mail.length s.mail.length)) = wf at *
      refine ⟨VA, vc, some ⟨w1.heap.size, 0, none⟩, s.mail.length, m, ?_, ?_, ?_, ⟨?_, ?_⟩, ?_⟩
      · rw [hml]
      · exact hls
      · exact hvr2
      · rw [hml]; exact hmr2
      · intro x hx
        exact hrr x hx
      · exact hbl
end Go.Proofs.Yteefemiieidpaaa
