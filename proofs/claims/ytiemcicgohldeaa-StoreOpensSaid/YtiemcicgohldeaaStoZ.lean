/- store's eye: hops. -/
import Derived.Test.YtiemcicgohldeaaStoY
import Derived.Test.YtiemcicgohldeaaGaps
import Derived.Test.YtiemcicgohldeaaRegF
namespace Go.Proofs.Ytiemcicgohldeaa
open Go.ChangeShapes Go.WideShapes Go.ChangeAt Go.RowKit
set_option linter.unusedVariables false
set_option linter.unusedSimpArgs false
theorem flat_u8S (l : List Int) : l.flatMap u8c = l.map (Value.int .u8) := by
  induction l with
  | nil => rfl
  | cons a t ih => rw [List.flatMap_cons, List.map_cons, ih]; rfl
def HopsR (w : World) (M L G c : Nat) (o : Option (List Hop × List Int)) (e : Ending) (w' : World) : Prop := match o with
  | none => e = .panicked badP ∧ w.grownBy w' (some G)
  | some (hs, r) => ∃ A' c' B' cr, e = .returned (.slice A' hs.length c') ∧ w'.ownsRow w.heap.size 107 2 (.slice A' hs.length c') hs.length (hs.flatMap Hop.cells) ∧ EO w' M L G B' cr r ∧ w.grownBy w' (some G)
set_option maxRecDepth 100000 in
set_option maxHeartbeats 400000 in
theorem eyeHops_bad1 {w : World} {M L G : Nat} {B : Option Addr} {c : Nat} {l : List Int} (h : EO w M L G B c l) (hL : L ≤ w.heap.size) (n : Int) (hl : l.length ≤ 140737488355328) (hb : (ungV l).2.2 ≠ 0) :
    Calls Try.prog 24 #[.pointer (some ⟨G, 0, none⟩), .int .i64 n] w (HopsR w M L G c none) := by
  have h0 := h.all
  have hGs := World.block_lt_of_cell? w _ h.all
  have hr : Rd w w.heap.size B 1 l.length (l.flatMap u8c) := by
    rw [flat_u8S]; exact ⟨h.rd.1, fun hp => by obtain ⟨b, off, h1, h2, h3⟩ := h.rd.2 hp; exact ⟨b, off, h1, by omega, h3⟩⟩
  have HG := hid (ungap_walk l w B l.length c hr rfl h.byte hl h.cap)
  have HW := hid (fun p V => want_no p V)
  have hbb : ((ungV l).2.2 == 0) = false := by simpa using hb
  generalize ungV l = gv at *
  obtain ⟨x, k, r⟩ := gv
  dsimp only at *
  go_enter Try.func24, Try.ntmps24
  go_wp2_with fail
  refine HG.out.mono ?_
  rintro e w1 ⟨A1, c1, rfl, o1, b1⟩
  go_wp2_with fail
  refine (HW.out _ _).mono ?_
  rintro e w2 ⟨rfl, rfl⟩
  go_wp2_with fail
  exact ⟨rfl, rfl, b1.os, b1.tape, b1.output, b1.size, fun k hk _ => b1.block k hk⟩
set_option maxRecDepth 100000 in
set_option maxHeartbeats 400000 in
theorem eyeHops_bad2 {w : World} {M L G : Nat} {B : Option Addr} {c : Nat} {l : List Int} (h : EO w M L G B c l) (hL : L ≤ w.heap.size) (n : Int) (hl : l.length ≤ 140737488355328) (h6 : (ungV l).2.2 = 0) (hb : ¬ (ungV l).1.length ≤ 600) :
    Calls Try.prog 24 #[.pointer (some ⟨G, 0, none⟩), .int .i64 n] w (HopsR w M L G c none) := by
  have h0 := h.all
  have hGs := World.block_lt_of_cell? w _ h.all
  have hr : Rd w w.heap.size B 1 l.length (l.flatMap u8c) := by
    rw [flat_u8S]; exact ⟨h.rd.1, fun hp => by obtain ⟨b, off, h1, h2, h3⟩ := h.rd.2 hp; exact ⟨b, off, h1, by omega, h3⟩⟩
  have HG := hid (ungap_walk l w B l.length c hr rfl h.byte hl h.cap)
  have HW := hid (fun p V => want_no p V)
  have hbb : decide (((ungV l).1.length : Int) ≤ 600) = false := by rw [decide_eq_false_iff_not]; omega
  generalize ungV l = gv at *
  obtain ⟨x, k, r⟩ := gv
  dsimp only at *
  subst h6
  go_enter Try.func24, Try.ntmps24
  go_wp2_with fail
  refine HG.out.mono ?_
  rintro e w1 ⟨A1, c1, rfl, o1, b1⟩
  go_wp2_with fail
  refine (HW.out _ _).mono ?_
  rintro e w2 ⟨rfl, rfl⟩
  go_wp2_with fail
  exact ⟨rfl, rfl, b1.os, b1.tape, b1.output, b1.size, fun k hk _ => b1.block k hk⟩
-- ok
def putH (acc : List Hop) : Option (List Hop × List Int) → Option (List Hop × List Int)
  | none => none
  | some (hs, r) => some (acc ++ hs, r)
theorem gbS {w w1 wr : World} {G : Nat} (hb : Below w.heap.size w w1) (hg : w1.grownBy wr (some G)) : w.grownBy wr (some G) := ⟨hg.os.trans hb.os, hg.tape.trans hb.tape, hg.output.trans hb.output, Nat.le_trans hb.size hg.size, fun k hk hne => (hg.block k (Nat.lt_of_lt_of_le hk hb.size) hne).trans (hb.block k hk)⟩
theorem gbT {w w1 wr : World} {G : Nat} (hb : w.grownBy w1 (some G)) (hg : w1.grownBy wr (some G)) : w.grownBy wr (some G) := ⟨hg.os.trans hb.os, hg.tape.trans hb.tape, hg.output.trans hb.output, Nat.le_trans hb.size hg.size, fun k hk hne => (hg.block k (Nat.lt_of_lt_of_le hk hb.size) hne).trans (hb.block k hk hne)⟩
theorem drop_consZ {α : Type} {l : List α} {k : Nat} {x : α} (h : l[k]? = some x) : l.drop k = x :: l.drop (k + 1) := by
  obtain ⟨hk, rfl⟩ := List.getElem?_eq_some_iff.1 h
  exact List.drop_eq_getElem_cons hk
theorem gbB {w w1 w2 : World} {G : Nat} (hb : w.grownBy w1 (some G)) (hg : Below w.heap.size w1 w2) : w.grownBy w2 (some G) := ⟨hg.os.trans hb.os, hg.tape.trans hb.tape, hg.output.trans hb.output, Nat.le_trans hb.size hg.size, fun k hk hne => (hg.block k hk).trans (hb.block k hk hne)⟩
theorem EO.below {w w' : World} {M L G B : Nat} {A : Option Addr} {c : Nat} {l : List Int} (h : EO w M L G A c l) (hb : Below B w w') (hG : G < B) : EO w' M L G A c l :=
  ⟨h.le, (hb.cell (p := ⟨G, 0, none⟩) hG).trans h.all, (hb.frozen (p := ⟨G, 0, none⟩) hG).trans h.fz, h.rd.below (hb.mono (by have := h.le; omega)), h.cap, h.lo, h.top, h.byte⟩
theorem hop_cellZ {w : World} {B n k : Nat} {A : Option Addr} {l : List Hop} {x : Hop} (h : Rd w B A 2 n (l.flatMap Hop.cells)) (hl : l.length = n) (hk : l[k]? = some x) :
    ∃ b off, A = some ⟨b, off, none⟩ ∧ b < B ∧ w.cell? ⟨b, off + k * 2, none⟩ = some (.int .i64 x.to) ∧ w.cell? ⟨b, off + k * 2 + 1, none⟩ = some (.int .i64 x.wt) := by
  have hkl := (List.getElem?_eq_some_iff.1 hk).1
  obtain ⟨b, off, rfl, hb, hc⟩ := h.2 (show 0 < n by omega)
  have hg := (flatMap_get (l := l) (cells := Hop.cells) (sz := 2) (fun _ _ => rfl)).2 k x
  have c0 := hc _ _ (hg 0 _ hk rfl)
  have c1 := hc _ _ (hg 1 _ hk rfl)
  exact ⟨b, off, rfl, hb, c0, by rw [Nat.add_assoc]; exact c1⟩
theorem two_oneZ (x y : Int) : ∀ u ∈ (#[Value.int .i64 x, .int .i64 y] : Array Value).toList, u.oneCell' = true := by
  intro u hu; simp at hu; rcases hu with rfl | rfl <;> rfl
theorem putH_nil (o : Option (List Hop × List Int)) : putH [] o = o := by cases o <;> rfl
theorem putH_cons (acc : List Hop) (h : Hop) (o : Option (List Hop × List Int)) : putH acc (match o with | none => none | some (hs, r) => some (h :: hs, r)) = putH (acc ++ [h]) o := by cases o <;> simp [putH]
def EhR (M L G B0 : Nat) (n : Int) (to : List Int) (l0 : List Int) (w1 wx : World) (A1 : Option Addr) (c1 : Nat) (sv jv : Value) (wr : World) : Prop :=
  ∃ (j c' : Nat) (A' : Option Addr) (acc : List Hop) (B' : Option Addr) (cr : Nat) (r : List Int), j ≤ to.length ∧ jv = .int .i64 (j : Nat) ∧ sv = .slice A' j c' ∧ Hid (acc.length = j) ∧ Hid (wr.ownsRow w1.heap.size 107 2 (.slice A' j c') j (acc.flatMap Hop.cells)) ∧ Hid (EO wr M L G B' cr r) ∧
    Hid (wr.ownsRow B0 3 1 (.slice A1 to.length c1) to.length (to.flatMap i64c)) ∧ Hid (hopGo n to none l0 = putH acc (hopGo n (to.drop j) acc.getLast? r)) ∧ Hid (w1.grownBy wr (some G)) ∧ cr ≤ 9223372036854775807 ∧ Hid (acc.map (·.to) = to.take j)
set_option maxRecDepth 100000 in
set_option maxHeartbeats 4000000 in
theorem eyeHops_ok {w : World} {M L G b off : Nat} {c : Nat} {l : List Int} (h : EO w M L G (some ⟨b, off, none⟩) c l) (hL : L ≤ w.heap.size) (n : Int) (hl : l.length ≤ 140737488355328) (hcz : c ≤ 9223372036854775807) {to : List Int} {k : Nat} (hu : ungV l = (to, (k : Int), 0)) (h6 : to.length ≤ 600) :
    Calls Try.prog 24 #[.pointer (some ⟨G, 0, none⟩), .int .i64 n] w (HopsR w M L G c (hopGo n to none (l.drop k))) := by
  have h0 := h.all
  have hf := h.fz
  have hGs := World.block_lt_of_cell? w _ h.all
  have hcap := h.cap
  have hok := ungV_ok l h.byte
  rw [hu] at hok
  obtain ⟨hto, _, _, hkl, _, _⟩ := hok
  dsimp only at hto hkl
  have hr : Rd w w.heap.size (some ⟨b, off, none⟩) 1 l.length (l.flatMap u8c) := by
    rw [flat_u8S]; exact ⟨h.rd.1, fun hp => by obtain ⟨b, off, h1, h2, h3⟩ := h.rd.2 hp; exact ⟨b, off, h1, by omega, h3⟩⟩
  have HG := hid (ungap_walk l w (some ⟨b, off, none⟩) l.length c hr rfl h.byte hl h.cap)
  have HW := hid (fun p V => want_yes p V)
  have hlen : (to.length : Int) ≤ 600 := by omega
  rw [hu] at HG
  have hkz : (0 : Int) ≤ (k : Int) := by omega
  have hkc : (k : Int) ≤ (c : Int) := by omega
  have HEO := hid h
  clear hr h
  go_enter Try.func24, Try.ntmps24
  go_wp2_with fail
  refine HG.out.mono ?_
  rintro e w1 ⟨A1, c1, rfl, o1, b1⟩
  have h0 := keepb b1 h0
  have hf := keepf b1 hf hGs
  have HO1 := hid o1
  have HB1 := hid b1
  clear o1 b1
  go_wp2_with fail
  refine (HW.out _ _).mono ?_
  rintro e w2 ⟨rfl, rfl⟩
  rcases Nat.eq_zero_or_pos (c - k) with hck | hck
  · have hck' : c - k = 0 := hck
    go_wp2_with fail
    have hGX : G < w1.heap.size := Nat.lt_of_lt_of_le hGs HB1.out.size
    have HGX := hid (grown_setCells G [.slice (some ⟨b, off, none⟩) (l.length - k) 0] 0 w1)
    have HEX : Hid (EO (w1.setCell ⟨G, 0, none⟩ (.slice (some ⟨b, off, none⟩) (l.length - k) 0)) M L G (some ⟨b, off, none⟩) 0 (l.drop k)) := hid (by
      refine ⟨HEO.out.le, ?_, by simpa using hf, ?_, by rw [List.length_drop]; omega, fun _ b' o' e => by injection e with e; injection e with e; subst e; exact HEO.out.lo (by simp at *; omega) _ _ rfl, by omega, fun y hy => HEO.out.byte y (List.mem_of_mem_drop hy)⟩
      · rw [List.length_drop]; exact World.cell?_setCell_same w1 ⟨G, 0, none⟩ _ h0
      · rw [List.length_drop]
        exact rd_dropA ((HEO.out.rd.below (HB1.out.mono hL)).below ((Below.refl L w1).setCell (by exact HEO.out.le) _)) rfl _ (by omega))
    have HOX := hid (own_grown HO1.out HGX.out (fun y hy e => by injection e with e; have := (HO1.out.lt y hy).1; omega))
    have hzx : (w1.setCell ⟨G, 0, none⟩ (.slice (some ⟨b, off, none⟩) (l.length - k) 0)).heap.size = w1.heap.size := by simp
    have hG1 : G < w1.heap.size := hGX
    have HLT := hid (show ∀ y, (Value.slice A1 to.length c1).ownBlock = some y → w.heap.size ≤ y ∧ y < w1.heap.size from fun y hy => HO1.out.lt y hy)
    change Hid (w1.grownBy (w1.setCell ⟨G, 0, none⟩ (.slice (some ⟨b, off, none⟩) (l.length - k) 0)) (some G)) at HGX
    change Hid (World.ownsRow (w1.setCell ⟨G, 0, none⟩ (.slice (some ⟨b, off, none⟩) (l.length - k) 0)) w.heap.size 3 1 (.slice A1 to.length c1) to.length (to.flatMap i64c)) at HOX
    generalize w1.setCell ⟨G, 0, none⟩ (.slice (some ⟨b, off, none⟩) (l.length - k) 0) = wx at *
    go_loopw [8, 9, 10, 11, 41] (fun sv _ _ _ jv wr => EhR M L G w.heap.size n to (l.drop k) w1 wx A1 c1 sv jv wr) (fun _ _ _ _ jv _ => to.length - (intOf jv).toNat)
    case atStart => exact ⟨0, 0, none, [], some ⟨b, off, none⟩, 0, l.drop k, Nat.zero_le _, rfl, rfl, hid rfl, hid (World.ownsRow_nil _ _ _ _), HEX, HOX, hid (by rw [List.drop_zero, putH_nil]; rfl), HGX, by omega, hid rfl⟩
    case round =>
      clear HEX HOX HGX
      obtain ⟨j, c', A', acc, B', cr, r, hj, rfl, rfl, HAL, HOA, HE, HOT, HHG, HGW, hcr, HTO⟩ := hrel
      have hGr : G < wr.heap.size := World.block_lt_of_cell? _ _ HE.out.all
      have hLG := HE.out.le
      by_cases hlt : j < to.length
      · obtain ⟨v, hv⟩ : ∃ v, to[j]? = some v := ⟨_, List.getElem?_eq_getElem hlt⟩
        obtain ⟨bt, ot, rfl, hbt, e0⟩ := int_cell (rd_own HOT.out) rfl hv
        have hjz : (j : Int) < (to.length : Int) := by omega
        have HTD := hid (drop_consZ hv)
        have HV := hid hv
        have HGET := hid (eyeGet_walk HE.out (by omega) 1099511627776 (by omega) hcr)
        cases hs : smallE r 1099511627776 with
        | none =>
          have HNONE : Hid (hopGo n to none (l.drop k) = none) := hid (by rw [HHG.out, HTD.out]; unfold hopGo; rw [hs]; rfl)
          rw [hs] at HGET
          clear hv hs
          go_wp2_with fail
          refine HGET.out.mono ?_
          rintro e w5 ⟨rfl, rfl⟩
          go_wp2_with fail
          refine ⟨rfl, ?_⟩
          rw [HNONE.out]
          exact ⟨rfl, gbS HB1.out HGW.out⟩
        | some y =>
          obtain ⟨x, k2⟩ := y
          have HSV := hid hs
          rw [hs] at HGET
          clear hv hs
          go_wp2_with fail
          refine HGET.out.mono ?_
          rintro e w5 ⟨rfl, B5, hE5, hG5⟩
          go_wp2_with fail
          have HE5 := hid hE5
          have HG5 := hid hG5
          have HOA5 := hid ((own_grown HOA.out hG5 (fun y hy e => by injection e with e; have := (HOA.out.lt y hy).1; omega)).alloc (.cells #[.int .i64 v, .int .i64 x] 107))
          have HOT5 := hid ((own_grown HOT.out hG5 (fun y hy e => by injection e with e; have := (HOT.out.lt y hy).1; omega)).alloc (.cells #[.int .i64 v, .int .i64 x] 107))
          have hz5 := hG5.size
          clear hE5 hG5
          obtain ⟨V, hV⟩ : ∃ V, V = w5.alloc (.cells #[.int .i64 v, .int .i64 x] 107) := ⟨_, rfl⟩
          have v0 : V.cell? ⟨w5.heap.size, 0, none⟩ = some (.int .i64 v) := by rw [hV]; go_simp
          have v1 : V.cell? ⟨w5.heap.size, 1, none⟩ = some (.int .i64 x) := by rw [hV]; go_simp
          have hVs : V.heap.size = w5.heap.size + 1 := by rw [hV]; simp
          have hb5 : w5.heap.size < V.heap.size := by omega
          have HBV : Hid (Below w1.heap.size w5 V) := hid (by rw [hV]; exact (Below.refl _ _).alloc (by have := HGW.out.size; omega) _)
          rw [← hV] at HOA5 HOT5 ⊢
          have HVS := hid hVs
          clear hVs hV
          have HNO := hid (fun p V => want_no p V)
          have HT := hid (take_nextV HV.out)
          have hn16 : (j + 1) * 16 ≤ 140737488355328 := by omega
          have hs1 : w1.heap.size ≤ V.heap.size := by have := HBV.out.size; have := HGW.out.size; omega
          have HREL : Hid (v < n → behindB acc.getLast? ⟨v, x⟩ = true → ∀ (jv' : Value) (W w6 : World) (A6 : Option Addr) (c6 : Nat), jv' = .int .i64 ((j + 1 : Nat) : Int) → Below w1.heap.size V W → World.ownsRow W w.heap.size 3 1 (.slice (some ⟨bt, ot, none⟩) to.length c1) to.length (to.flatMap i64c) → w6.ownsRow w1.heap.size 107 2 (.slice A6 (j + 1) c6) (j + 1) (acc.flatMap Hop.cells ++ [.int .i64 v, .int .i64 x]) → Below w1.heap.size W w6 → W.grownBy w6 (Value.slice A' j c').ownBlock → EhR M L G w.heap.size n to (l.drop k) w1 wx (some ⟨bt, ot, none⟩) c1 (.slice A6 (j + 1) c6) jv' w6) := hid fun h1 h2 jv' W w6 A6 c6 hjv bW oW o6 b6 g6 => by
            refine ⟨j + 1, c6, A6, acc ++ [⟨v, x⟩], B5, cr - k2, r.drop k2, by omega, hjv, rfl, hid (by rw [List.length_append, HAL.out]; rfl), hid (by rw [List.flatMap_append]; exact o6), hid (EO.below HE5.out (HBV.out.trans (bW.trans b6)) hG1), hid (own_grown oW g6 (fun y hy e => by have := HLT.out y hy; have := (HOA5.out.lt y e).1; omega)), hid ?_, hid (gbB (gbT HGW.out HG5.out) (HBV.out.trans (bW.trans b6))), by omega, hid (by rw [List.map_append, HTO.out, HT.out]; rfl)⟩
            rw [HHG.out, HTD.out, show (acc ++ [(⟨v, x⟩ : Hop)]).getLast? = some ⟨v, x⟩ from by simp, ← putH_cons]
            conv => lhs; unfold hopGo
            rw [HSV.out]
            dsimp only
            rw [if_pos ⟨h1, h2⟩]
            rfl
          have HNONE : Hid (¬ (v < n ∧ behindB acc.getLast? ⟨v, x⟩ = true) → hopGo n to none (l.drop k) = none) := hid fun h => by
            rw [HHG.out, HTD.out]
            conv => lhs; unfold hopGo
            rw [HSV.out]
            dsimp only
            rw [if_neg h]; rfl
          have HPAN : Hid (w.grownBy V.drew (some G)) := hid (gbS HB1.out (gbB (gbT HGW.out HG5.out) HBV.out.drew))
          have bV : Hid (∀ o, Below w1.heap.size V (V.alloc o).drew) := hid fun o => ((Below.refl _ V).alloc hs1 o).drew
          have hs2 : w1.heap.size ≤ V.heap.size + 1 := by omega
          by_cases hvn : v < n
          · have hvb : decide (v < n) = true := by simpa using hvn
            rcases Nat.eq_zero_or_pos j with hj0 | hj0
            · have hjb : ((j : Int) == 0) = true := by simp [hj0]
              have HBH : Hid (behindB acc.getLast? ⟨v, x⟩ = true) := hid (by have : acc = [] := List.length_eq_zero_iff.1 (HAL.out.trans hj0); rw [this]; rfl)
              clear hj0
              refine wp_region_F (S := (fun V' => V'.cell? ⟨w5.heap.size, 1, none⟩ = some (.int .i64 x))) [28] (by kernel_rfl) v1 (fun hHeld => ?_)
              refine wpAnyF_pure (i := 0) (v := ?vg1_1_0) rfl (by kernel_rfl) (by kernel_rfl) (by kernel_rfl) (fun _ _ _ h => h) (Or.inl ⟨by rfl, ?hyg1_1_0⟩) ?restg1_1_0
              case hyg1_1_0 => (intro w hSw; clear hSw; go_simp; (all_goals with_reducible rfl))
              try simp only [Act.put, List.setIfInBounds_toArray, List.set_cons_zero, List.set_cons_succ, List.getElem_toArray, List.getElem_cons_succ, List.getElem_cons_zero]
              refine wpAnyF_pure (i := 1) (v := ?vg1_2_1) rfl (by kernel_rfl) (by kernel_rfl) (by kernel_rfl) (fun _ _ _ h => h) (Or.inl ⟨by rfl, ?hyg1_2_1⟩) ?restg1_2_1
              case hyg1_2_1 => (intro w hSw; clear hSw; go_simp; (all_goals with_reducible rfl))
              try simp only [Act.put, List.setIfInBounds_toArray, List.set_cons_zero, List.set_cons_succ, List.getElem_toArray, List.getElem_cons_succ, List.getElem_cons_zero]
              refine wpAnyF_pure (i := 2) (v := ?vg1_3_2) rfl (by kernel_rfl) (by kernel_rfl) (by kernel_rfl) (fun _ _ _ h => h) (Or.inl ⟨by rfl, ?hyg1_3_2⟩) ?restg1_3_2
              case hyg1_3_2 => (intro w hSw; clear hSw; go_simp; (all_goals with_reducible rfl))
              try simp only [Act.put, List.setIfInBounds_toArray, List.set_cons_zero, List.set_cons_succ, List.getElem_toArray, List.getElem_cons_succ, List.getElem_cons_zero]
              refine wpAnyF_pure (i := 3) (v := ?vg1_4_3) rfl (by kernel_rfl) (by kernel_rfl) (by kernel_rfl) (fun _ _ _ h => h) (Or.inl ⟨by rfl, ?hyg1_4_3⟩) ?restg1_4_3
              case hyg1_4_3 => (intro w hSw; clear hSw; go_simp; (all_goals with_reducible rfl))
              try simp only [Act.put, List.setIfInBounds_toArray, List.set_cons_zero, List.set_cons_succ, List.getElem_toArray, List.getElem_cons_succ, List.getElem_cons_zero]
              refine wpAnyF_pure (i := 4) (v := ?vg1_5_4) rfl (by kernel_rfl) (by kernel_rfl) (by kernel_rfl) (fun _ _ _ h => h) (Or.inl ⟨by rfl, ?hyg1_5_4⟩) ?restg1_5_4
              case hyg1_5_4 => (intro w hSw; clear hSw; go_simp; (all_goals with_reducible rfl))
              try simp only [Act.put, List.setIfInBounds_toArray, List.set_cons_zero, List.set_cons_succ, List.getElem_toArray, List.getElem_cons_succ, List.getElem_cons_zero]
              refine wpAnyF_pure (i := 5) (v := ?vg1_6_5) rfl (by kernel_rfl) (by kernel_rfl) (by kernel_rfl) (fun _ _ _ h => h) (Or.inl ⟨by rfl, ?hyg1_6_5⟩) ?restg1_6_5
              case hyg1_6_5 => (intro w hSw; clear hSw; go_simp; (all_goals with_reducible rfl))
              try simp only [Act.put, List.setIfInBounds_toArray, List.set_cons_zero, List.set_cons_succ, List.getElem_toArray, List.getElem_cons_succ, List.getElem_cons_zero]
              refine wpAnyF_pure (i := 6) (v := ?vg1_7_6) rfl (by kernel_rfl) (by kernel_rfl) (by kernel_rfl) (fun _ _ _ h => h) (Or.inl ⟨by rfl, ?hyg1_7_6⟩) ?restg1_7_6
              case hyg1_7_6 => (intro w hSw; clear hSw; go_simp; (all_goals with_reducible rfl))
              try simp only [Act.put, List.setIfInBounds_toArray, List.set_cons_zero, List.set_cons_succ, List.getElem_toArray, List.getElem_cons_succ, List.getElem_cons_zero]
              refine wpAnyF_pure (i := 7) (v := ?vg1_8_7) rfl (by kernel_rfl) (by kernel_rfl) (by kernel_rfl) (fun _ _ _ h => h) (Or.inl ⟨by rfl, ?hyg1_8_7⟩) ?restg1_8_7
              case hyg1_8_7 => (intro w hSw; clear hSw; go_simp; (all_goals with_reducible rfl))
              try simp only [Act.put, List.setIfInBounds_toArray, List.set_cons_zero, List.set_cons_succ, List.getElem_toArray, List.getElem_cons_succ, List.getElem_cons_zero]
              refine wpAnyF_pure (i := 8) (v := undef) rfl (by kernel_rfl) (by kernel_rfl) (by kernel_rfl) (fun _ _ _ h => h) (Or.inr ⟨by rfl, rfl⟩) ?restg1_9_8
              try simp only [Act.put, List.setIfInBounds_toArray, List.set_cons_zero, List.set_cons_succ, List.getElem_toArray, List.getElem_cons_succ, List.getElem_cons_zero]
              refine wpAnyF_pure (i := 9) (v := undef) rfl (by kernel_rfl) (by kernel_rfl) (by kernel_rfl) (fun _ _ _ h => h) (Or.inr ⟨by rfl, rfl⟩) ?restg1_10_9
              try simp only [Act.put, List.setIfInBounds_toArray, List.set_cons_zero, List.set_cons_succ, List.getElem_toArray, List.getElem_cons_succ, List.getElem_cons_zero]
              refine wpAnyF_pure (i := 10) (v := undef) rfl (by kernel_rfl) (by kernel_rfl) (by kernel_rfl) (fun _ _ _ h => h) (Or.inr ⟨by rfl, rfl⟩) ?restg1_11_10
              try simp only [Act.put, List.setIfInBounds_toArray, List.set_cons_zero, List.set_cons_succ, List.getElem_toArray, List.getElem_cons_succ, List.getElem_cons_zero]
              refine wpAnyF_pure (i := 11) (v := undef) rfl (by kernel_rfl) (by kernel_rfl) (by kernel_rfl) (fun _ _ _ h => h) (Or.inr ⟨by rfl, rfl⟩) ?restg1_12_11
              try simp only [Act.put, List.setIfInBounds_toArray, List.set_cons_zero, List.set_cons_succ, List.getElem_toArray, List.getElem_cons_succ, List.getElem_cons_zero]
              refine wpAnyF_pure (i := 12) (v := undef) rfl (by kernel_rfl) (by kernel_rfl) (by kernel_rfl) (fun _ _ _ h => h) (Or.inr ⟨by rfl, rfl⟩) ?restg1_13_12
              try simp only [Act.put, List.setIfInBounds_toArray, List.set_cons_zero, List.set_cons_succ, List.getElem_toArray, List.getElem_cons_succ, List.getElem_cons_zero]
              refine wpAnyF_pure (i := 13) (v := undef) rfl (by kernel_rfl) (by kernel_rfl) (by kernel_rfl) (fun _ _ _ h => h) (Or.inr ⟨by rfl, rfl⟩) ?restg1_14_13
              try simp only [Act.put, List.setIfInBounds_toArray, List.set_cons_zero, List.set_cons_succ, List.getElem_toArray, List.getElem_cons_succ, List.getElem_cons_zero]
              refine wpAnyF_pure (i := 14) (v := undef) rfl (by kernel_rfl) (by kernel_rfl) (by kernel_rfl) (fun _ _ _ h => h) (Or.inr ⟨by rfl, rfl⟩) ?restg1_15_14
              try simp only [Act.put, List.setIfInBounds_toArray, List.set_cons_zero, List.set_cons_succ, List.getElem_toArray, List.getElem_cons_succ, List.getElem_cons_zero]
              refine wpAnyF_pure (i := 15) (v := ?vg1_16_15) rfl (by kernel_rfl) (by kernel_rfl) (by kernel_rfl) (fun _ _ _ h => h) (Or.inl ⟨by rfl, ?hyg1_16_15⟩) ?restg1_16_15
              case hyg1_16_15 => (intro w hSw; clear hSw; go_simp; (all_goals with_reducible rfl))
              try simp only [Act.put, List.setIfInBounds_toArray, List.set_cons_zero, List.set_cons_succ, List.getElem_toArray, List.getElem_cons_succ, List.getElem_cons_zero]
              refine wpAnyF_pure (i := 16) (v := ?vg1_17_16) rfl (by kernel_rfl) (by kernel_rfl) (by kernel_rfl) (fun _ _ _ h => h) (Or.inl ⟨by rfl, ?hyg1_17_16⟩) ?restg1_17_16
              case hyg1_17_16 => (intro w hSw; clear hSw; go_simp; (all_goals with_reducible rfl))
              try simp only [Act.put, List.setIfInBounds_toArray, List.set_cons_zero, List.set_cons_succ, List.getElem_toArray, List.getElem_cons_succ, List.getElem_cons_zero]
              refine wpAnyF_pure (i := 17) (v := undef) rfl (by kernel_rfl) (by kernel_rfl) (by kernel_rfl) (fun _ _ _ h => h) (Or.inr ⟨by rfl, rfl⟩) ?restg1_18_17
              try simp only [Act.put, List.setIfInBounds_toArray, List.set_cons_zero, List.set_cons_succ, List.getElem_toArray, List.getElem_cons_succ, List.getElem_cons_zero]
              refine wpAnyF_pure (i := 18) (v := undef) rfl (by kernel_rfl) (by kernel_rfl) (by kernel_rfl) (fun _ _ _ h => h) (Or.inr ⟨by rfl, rfl⟩) ?restg1_19_18
              try simp only [Act.put, List.setIfInBounds_toArray, List.set_cons_zero, List.set_cons_succ, List.getElem_toArray, List.getElem_cons_succ, List.getElem_cons_zero]
              refine wpAnyF_pure (i := 19) (v := undef) rfl (by kernel_rfl) (by kernel_rfl) (by kernel_rfl) (fun _ _ _ h => h) (Or.inr ⟨by rfl, rfl⟩) ?restg1_20_19
              try simp only [Act.put, List.setIfInBounds_toArray, List.set_cons_zero, List.set_cons_succ, List.getElem_toArray, List.getElem_cons_succ, List.getElem_cons_zero]
              refine wpAnyF_pure (i := 20) (v := undef) rfl (by kernel_rfl) (by kernel_rfl) (by kernel_rfl) (fun _ _ _ h => h) (Or.inr ⟨by rfl, rfl⟩) ?restg1_21_20
              try simp only [Act.put, List.setIfInBounds_toArray, List.set_cons_zero, List.set_cons_succ, List.getElem_toArray, List.getElem_cons_succ, List.getElem_cons_zero]
              refine wpAnyF_pure (i := 21) (v := undef) rfl (by kernel_rfl) (by kernel_rfl) (by kernel_rfl) (fun _ _ _ h => h) (Or.inr ⟨by rfl, rfl⟩) ?restg1_22_21
              try simp only [Act.put, List.setIfInBounds_toArray, List.set_cons_zero, List.set_cons_succ, List.getElem_toArray, List.getElem_cons_succ, List.getElem_cons_zero]
              refine wpAnyF_pure (i := 22) (v := undef) rfl (by kernel_rfl) (by kernel_rfl) (by kernel_rfl) (fun _ _ _ h => h) (Or.inr ⟨by rfl, rfl⟩) ?restg1_23_22
              try simp only [Act.put, List.setIfInBounds_toArray, List.set_cons_zero, List.set_cons_succ, List.getElem_toArray, List.getElem_cons_succ, List.getElem_cons_zero]
              refine wpAnyF_pure (i := 23) (v := undef) rfl (by kernel_rfl) (by kernel_rfl) (by kernel_rfl) (fun _ _ _ h => h) (Or.inr ⟨by rfl, rfl⟩) ?restg1_24_23
              try simp only [Act.put, List.setIfInBounds_toArray, List.set_cons_zero, List.set_cons_succ, List.getElem_toArray, List.getElem_cons_succ, List.getElem_cons_zero]
              refine wpAnyF_pure (i := 24) (v := undef) rfl (by kernel_rfl) (by kernel_rfl) (by kernel_rfl) (fun _ _ _ h => h) (Or.inr ⟨by rfl, rfl⟩) ?restg1_25_24
              try simp only [Act.put, List.setIfInBounds_toArray, List.set_cons_zero, List.set_cons_succ, List.getElem_toArray, List.getElem_cons_succ, List.getElem_cons_zero]
              refine wpAnyF_pure (i := 25) (v := undef) rfl (by kernel_rfl) (by kernel_rfl) (by kernel_rfl) (fun _ _ _ h => h) (Or.inr ⟨by rfl, rfl⟩) ?restg1_26_25
              try simp only [Act.put, List.setIfInBounds_toArray, List.set_cons_zero, List.set_cons_succ, List.getElem_toArray, List.getElem_cons_succ, List.getElem_cons_zero]
              refine wpAnyF_pure (i := 26) (v := ?vg1_27_26) rfl (by kernel_rfl) (by kernel_rfl) (by kernel_rfl) (fun _ _ _ h => h) (Or.inl ⟨by rfl, ?hyg1_27_26⟩) ?restg1_27_26
              case hyg1_27_26 => (intro w hSw; clear hSw; go_simp; (all_goals with_reducible rfl))
              try simp only [Act.put, List.setIfInBounds_toArray, List.set_cons_zero, List.set_cons_succ, List.getElem_toArray, List.getElem_cons_succ, List.getElem_cons_zero]
              refine wpAnyF_pure (i := 27) (v := ?vg1_28_27) rfl (by kernel_rfl) (by kernel_rfl) (by kernel_rfl) (fun _ _ _ h => h) (Or.inl ⟨by rfl, ?hyg1_28_27⟩) ?restg1_28_27
              case hyg1_28_27 => (intro w hSw; clear hSw; go_simp; (all_goals with_reducible rfl))
              try simp only [Act.put, List.setIfInBounds_toArray, List.set_cons_zero, List.set_cons_succ, List.getElem_toArray, List.getElem_cons_succ, List.getElem_cons_zero]
              refine wpAnyF_oneD (i := 28) (by kernel_rfl) (by kernel_rfl) rfl (fun K hK => ?_)
              go_simp
              go_at_call 21
              refine (HW.out _ _).mono ?_
              rintro e w6 ⟨rfl, rfl⟩
              go_wp2_with fail
              refine hK.out _ _ ?_
              clear hK K
              try simp only [Act.put, List.setIfInBounds_toArray, List.set_cons_zero, List.set_cons_succ, List.getElem_toArray, List.getElem_cons_succ, List.getElem_cons_zero]
              refine wpAnyF_done (by kernel_rfl) ?_ _
              go_wp2_with (at_builtin; refine wp_app1 _ rfl rfl el_hops rfl ((HOA5.out.alloc _).drew) rfl ((rd_newAt _ _ _ 2 1 _ (by simp) rfl).drew) (two_oneZ _ _) hn16 (Nat.le_trans hs1 (by simp)) ?_; intro A6 c6 w6 o6 b6 g6)
              go_roundw
              case rel => exact HREL.out hvn HBH.out _ _ _ _ _ (by go_num) (bV.out _) (HOT5.out.alloc _).drew o6 b6 g6
              case measure => simp [intOf]; omega
            · obtain ⟨m, hm⟩ : ∃ m, j = m + 1 := ⟨j - 1, by omega⟩
              have hjb : ((j : Int) == 0) = false := by simp; omega
              have hw1 : IntKind.i64.wrap ((j : Int) - 1) = (m : Int) := by rw [IntWalk.i64_in _ (by omega)]; omega
              have hm1 : (0 : Int) ≤ (m : Int) := by omega
              have hm2 : (m : Int) < (to.length : Int) := by omega
              have hm3 : (m : Int) < (j : Int) := by omega
              obtain ⟨q, hq⟩ : ∃ q, acc[m]? = some q := ⟨_, List.getElem?_eq_getElem (by have := HAL.out; omega)⟩
              have hlast : acc.getLast? = some q := by rw [List.getLast?_eq_getElem?, HAL.out, hm]; exact hq
              have htm : to[m]? = some q.to := by
                have h9 : (acc.map (·.to))[m]? = some q.to := by rw [List.getElem?_map, hq]; rfl
                rw [HTO.out, List.getElem?_take] at h9
                rw [if_pos (by omega)] at h9; exact h9
              obtain ⟨tv, htv⟩ : ∃ tv, tv = q.to := ⟨_, rfl⟩
              obtain ⟨qw, hqw⟩ : ∃ qw, qw = q.wt := ⟨_, rfl⟩
              obtain ⟨bt', ot', hA1, _, e1⟩ := int_cell (rd_own HOT5.out) rfl htm
              injection hA1 with hA1
              injection hA1 with hA1 hA2
              subst hA1 hA2
              obtain ⟨gl, ol, rfl, _, _, e2⟩ := hop_cellZ (rd_own HOA5.out) HAL.out hq
              rw [← htv] at e1
              rw [← hqw] at e2
              have HBI := hid (fun h => show behindB acc.getLast? ⟨v, x⟩ = true by rw [hlast]; unfold behindB; dsimp only; rw [← htv, ← hqw]; exact h)
              have HBJ := hid (fun h => show ¬ (v < n ∧ behindB acc.getLast? ⟨v, x⟩ = true) by rw [hlast]; unfold behindB; dsimp only; rw [← htv, ← hqw]; exact h)
              clear hlast htm htv hqw hq hj0
              have HM := hid hm
              clear hm
              cases hc1 : decide (tv < v) with
              | true =>
                have HBH := hid (HBI.out (by rw [hc1]; rfl))
                refine wp_region_F (S := (fun V' => V'.cell? ⟨bt, ot + m, none⟩ = some (.int .i64 tv) ∧ V'.cell? ⟨w5.heap.size, 1, none⟩ = some (.int .i64 x) ∧ V'.cell? ⟨gl, ol + m * 2 + 1, none⟩ = some (.int .i64 qw))) [28] (by kernel_rfl) ⟨e1, v1, e2⟩ (fun hHeld => ?_)
                refine wpAnyF_pure (i := 0) (v := ?vg2_1_0) rfl (by kernel_rfl) (by kernel_rfl) (by kernel_rfl) (fun _ _ _ h => h) (Or.inl ⟨by rfl, ?hyg2_1_0⟩) ?restg2_1_0
                case hyg2_1_0 => (intro w hSw; clear hSw; go_simp; (all_goals with_reducible rfl))
                try simp only [Act.put, List.setIfInBounds_toArray, List.set_cons_zero, List.set_cons_succ, List.getElem_toArray, List.getElem_cons_succ, List.getElem_cons_zero]
                refine wpAnyF_pure (i := 1) (v := ?vg2_2_1) rfl (by kernel_rfl) (by kernel_rfl) (by kernel_rfl) (fun _ _ _ h => h) (Or.inl ⟨by rfl, ?hyg2_2_1⟩) ?restg2_2_1
                case hyg2_2_1 => (intro w hSw; clear hSw; go_simp; (all_goals with_reducible rfl))
                try simp only [Act.put, List.setIfInBounds_toArray, List.set_cons_zero, List.set_cons_succ, List.getElem_toArray, List.getElem_cons_succ, List.getElem_cons_zero]
                refine wpAnyF_pure (i := 2) (v := ?vg2_3_2) rfl (by kernel_rfl) (by kernel_rfl) (by kernel_rfl) (fun _ _ _ h => h) (Or.inl ⟨by rfl, ?hyg2_3_2⟩) ?restg2_3_2
                case hyg2_3_2 => (intro w hSw; clear hSw; go_simp; (all_goals with_reducible rfl))
                try simp only [Act.put, List.setIfInBounds_toArray, List.set_cons_zero, List.set_cons_succ, List.getElem_toArray, List.getElem_cons_succ, List.getElem_cons_zero]
                refine wpAnyF_pure (i := 3) (v := ?vg2_4_3) rfl (by kernel_rfl) (by kernel_rfl) (by kernel_rfl) (fun _ _ _ h => h) (Or.inl ⟨by rfl, ?hyg2_4_3⟩) ?restg2_4_3
                case hyg2_4_3 => (intro w hSw; clear hSw; go_simp; (all_goals with_reducible rfl))
                try simp only [Act.put, List.setIfInBounds_toArray, List.set_cons_zero, List.set_cons_succ, List.getElem_toArray, List.getElem_cons_succ, List.getElem_cons_zero]
                refine wpAnyF_pure (i := 4) (v := ?vg2_5_4) rfl (by kernel_rfl) (by kernel_rfl) (by kernel_rfl) (fun _ _ _ h => h) (Or.inl ⟨by rfl, ?hyg2_5_4⟩) ?restg2_5_4
                case hyg2_5_4 => (intro w hSw; clear hSw; go_simp; (all_goals with_reducible rfl))
                try simp only [Act.put, List.setIfInBounds_toArray, List.set_cons_zero, List.set_cons_succ, List.getElem_toArray, List.getElem_cons_succ, List.getElem_cons_zero]
                refine wpAnyF_pure (i := 5) (v := ?vg2_6_5) rfl (by kernel_rfl) (by kernel_rfl) (by kernel_rfl) (fun _ _ _ h => h) (Or.inl ⟨by rfl, ?hyg2_6_5⟩) ?restg2_6_5
                case hyg2_6_5 => (intro w hSw; clear hSw; go_simp; (all_goals with_reducible rfl))
                try simp only [Act.put, List.setIfInBounds_toArray, List.set_cons_zero, List.set_cons_succ, List.getElem_toArray, List.getElem_cons_succ, List.getElem_cons_zero]
                refine wpAnyF_pure (i := 6) (v := ?vg2_7_6) rfl (by kernel_rfl) (by kernel_rfl) (by kernel_rfl) (fun _ _ _ h => h) (Or.inl ⟨by rfl, ?hyg2_7_6⟩) ?restg2_7_6
                case hyg2_7_6 => (intro w hSw; clear hSw; go_simp; (all_goals with_reducible rfl))
                try simp only [Act.put, List.setIfInBounds_toArray, List.set_cons_zero, List.set_cons_succ, List.getElem_toArray, List.getElem_cons_succ, List.getElem_cons_zero]
                refine wpAnyF_pure (i := 7) (v := ?vg2_8_7) rfl (by kernel_rfl) (by kernel_rfl) (by kernel_rfl) (fun _ _ _ h => h) (Or.inl ⟨by rfl, ?hyg2_8_7⟩) ?restg2_8_7
                case hyg2_8_7 => (intro w hSw; clear hSw; go_simp; (all_goals with_reducible rfl))
                try simp only [Act.put, List.setIfInBounds_toArray, List.set_cons_zero, List.set_cons_succ, List.getElem_toArray, List.getElem_cons_succ, List.getElem_cons_zero]
                refine wpAnyF_pure (i := 8) (v := ?vg2_9_8) rfl (by kernel_rfl) (by kernel_rfl) (by kernel_rfl) (fun _ _ _ h => h) (Or.inl ⟨by rfl, ?hyg2_9_8⟩) ?restg2_9_8
                case hyg2_9_8 => (intro w hSw; clear hSw; go_simp; (all_goals with_reducible rfl))
                try simp only [Act.put, List.setIfInBounds_toArray, List.set_cons_zero, List.set_cons_succ, List.getElem_toArray, List.getElem_cons_succ, List.getElem_cons_zero]
                refine wpAnyF_pure (i := 9) (v := ?vg2_10_9) rfl (by kernel_rfl) (by kernel_rfl) (by kernel_rfl) (fun _ _ _ h => h) (Or.inl ⟨by rfl, ?hyg2_10_9⟩) ?restg2_10_9
                case hyg2_10_9 => (intro w hSw; clear hSw; go_simp; (all_goals with_reducible rfl))
                try simp only [Act.put, List.setIfInBounds_toArray, List.set_cons_zero, List.set_cons_succ, List.getElem_toArray, List.getElem_cons_succ, List.getElem_cons_zero]
                refine wpAnyF_pure (i := 10) (v := ?vg2_11_10) rfl (by kernel_rfl) (by kernel_rfl) (by kernel_rfl) (fun _ _ _ h => h) (Or.inl ⟨by rfl, ?hyg2_11_10⟩) ?restg2_11_10
                case hyg2_11_10 => (intro w hSw; clear hSw; go_simp; (all_goals with_reducible rfl))
                try simp only [Act.put, List.setIfInBounds_toArray, List.set_cons_zero, List.set_cons_succ, List.getElem_toArray, List.getElem_cons_succ, List.getElem_cons_zero]
                refine wpAnyF_pure (i := 11) (v := ?vg2_12_11) rfl (by kernel_rfl) (by kernel_rfl) (by kernel_rfl) (fun _ _ _ h => h) (Or.inl ⟨by rfl, ?hyg2_12_11⟩) ?restg2_12_11
                case hyg2_12_11 => (intro w hSw; clear hSw; go_simp; (all_goals with_reducible rfl))
                try simp only [Act.put, List.setIfInBounds_toArray, List.set_cons_zero, List.set_cons_succ, List.getElem_toArray, List.getElem_cons_succ, List.getElem_cons_zero]
                refine wpAnyF_pure (i := 13) (v := ?vg2_13_13) rfl (by kernel_rfl) (by kernel_rfl) (by kernel_rfl) (fun _ _ _ h => h) (Or.inl ⟨by rfl, ?hyg2_13_13⟩) ?restg2_13_13
                case hyg2_13_13 => (intro w hSw; clear hSw; go_simp; (all_goals with_reducible rfl))
                try simp only [Act.put, List.setIfInBounds_toArray, List.set_cons_zero, List.set_cons_succ, List.getElem_toArray, List.getElem_cons_succ, List.getElem_cons_zero]
                refine wpAnyF_take [14, 15, 16, 17, 18, 19, 20, 21, 22, 23, 24, 25, 26, 27, 28] (i := 12) (v := ?vg2_14_12) rfl (by kernel_rfl) (by kernel_rfl) (by kernel_rfl) (by kernel_rfl) (fun _ _ _ h => h) (Or.inl ⟨by rfl, ?hyg2_14_12⟩) (by assumption) ?restg2_14_12
                case hyg2_14_12 => (intro w hSw; (try dsimp only at hSw); go_simp; (all_goals with_reducible rfl))
                try simp only [Act.put, List.setIfInBounds_toArray, List.set_cons_zero, List.set_cons_succ, List.getElem_toArray, List.getElem_cons_succ, List.getElem_cons_zero]
                refine wpAnyF_pure (i := 14) (v := ?vg2_15_14) rfl (by kernel_rfl) (by kernel_rfl) (by kernel_rfl) (fun _ _ _ h => h) (Or.inl ⟨by rfl, ?hyg2_15_14⟩) ?restg2_15_14
                case hyg2_15_14 => (intro w hSw; clear hSw; go_simp; (all_goals with_reducible rfl))
                try simp only [Act.put, List.setIfInBounds_toArray, List.set_cons_zero, List.set_cons_succ, List.getElem_toArray, List.getElem_cons_succ, List.getElem_cons_zero]
                refine wpAnyF_pure (i := 15) (v := ?vg2_16_15) rfl (by kernel_rfl) (by kernel_rfl) (by kernel_rfl) (fun _ _ _ h => h) (Or.inl ⟨by rfl, ?hyg2_16_15⟩) ?restg2_16_15
                case hyg2_16_15 => (intro w hSw; clear hSw; go_simp; (all_goals with_reducible rfl))
                try simp only [Act.put, List.setIfInBounds_toArray, List.set_cons_zero, List.set_cons_succ, List.getElem_toArray, List.getElem_cons_succ, List.getElem_cons_zero]
                refine wpAnyF_pure (i := 16) (v := ?vg2_17_16) rfl (by kernel_rfl) (by kernel_rfl) (by kernel_rfl) (fun _ _ _ h => h) (Or.inl ⟨by rfl, ?hyg2_17_16⟩) ?restg2_17_16
                case hyg2_17_16 => (intro w hSw; clear hSw; go_simp; (all_goals with_reducible rfl))
                try simp only [Act.put, List.setIfInBounds_toArray, List.set_cons_zero, List.set_cons_succ, List.getElem_toArray, List.getElem_cons_succ, List.getElem_cons_zero]
                refine wpAnyF_pure (i := 17) (v := undef) rfl (by kernel_rfl) (by kernel_rfl) (by kernel_rfl) (fun _ _ _ h => h) (Or.inr ⟨by rfl, rfl⟩) ?restg2_18_17
                try simp only [Act.put, List.setIfInBounds_toArray, List.set_cons_zero, List.set_cons_succ, List.getElem_toArray, List.getElem_cons_succ, List.getElem_cons_zero]
                refine wpAnyF_pure (i := 18) (v := undef) rfl (by kernel_rfl) (by kernel_rfl) (by kernel_rfl) (fun _ _ _ h => h) (Or.inr ⟨by rfl, rfl⟩) ?restg2_19_18
                try simp only [Act.put, List.setIfInBounds_toArray, List.set_cons_zero, List.set_cons_succ, List.getElem_toArray, List.getElem_cons_succ, List.getElem_cons_zero]
                refine wpAnyF_pure (i := 19) (v := undef) rfl (by kernel_rfl) (by kernel_rfl) (by kernel_rfl) (fun _ _ _ h => h) (Or.inr ⟨by rfl, rfl⟩) ?restg2_20_19
                try simp only [Act.put, List.setIfInBounds_toArray, List.set_cons_zero, List.set_cons_succ, List.getElem_toArray, List.getElem_cons_succ, List.getElem_cons_zero]
                refine wpAnyF_pure (i := 20) (v := undef) rfl (by kernel_rfl) (by kernel_rfl) (by kernel_rfl) (fun _ _ _ h => h) (Or.inr ⟨by rfl, rfl⟩) ?restg2_21_20
                try simp only [Act.put, List.setIfInBounds_toArray, List.set_cons_zero, List.set_cons_succ, List.getElem_toArray, List.getElem_cons_succ, List.getElem_cons_zero]
                refine wpAnyF_pure (i := 21) (v := undef) rfl (by kernel_rfl) (by kernel_rfl) (by kernel_rfl) (fun _ _ _ h => h) (Or.inr ⟨by rfl, rfl⟩) ?restg2_22_21
                try simp only [Act.put, List.setIfInBounds_toArray, List.set_cons_zero, List.set_cons_succ, List.getElem_toArray, List.getElem_cons_succ, List.getElem_cons_zero]
                refine wpAnyF_pure (i := 22) (v := undef) rfl (by kernel_rfl) (by kernel_rfl) (by kernel_rfl) (fun _ _ _ h => h) (Or.inr ⟨by rfl, rfl⟩) ?restg2_23_22
                try simp only [Act.put, List.setIfInBounds_toArray, List.set_cons_zero, List.set_cons_succ, List.getElem_toArray, List.getElem_cons_succ, List.getElem_cons_zero]
                refine wpAnyF_pure (i := 23) (v := undef) rfl (by kernel_rfl) (by kernel_rfl) (by kernel_rfl) (fun _ _ _ h => h) (Or.inr ⟨by rfl, rfl⟩) ?restg2_24_23
                try simp only [Act.put, List.setIfInBounds_toArray, List.set_cons_zero, List.set_cons_succ, List.getElem_toArray, List.getElem_cons_succ, List.getElem_cons_zero]
                refine wpAnyF_pure (i := 24) (v := undef) rfl (by kernel_rfl) (by kernel_rfl) (by kernel_rfl) (fun _ _ _ h => h) (Or.inr ⟨by rfl, rfl⟩) ?restg2_25_24
                try simp only [Act.put, List.setIfInBounds_toArray, List.set_cons_zero, List.set_cons_succ, List.getElem_toArray, List.getElem_cons_succ, List.getElem_cons_zero]
                refine wpAnyF_pure (i := 25) (v := undef) rfl (by kernel_rfl) (by kernel_rfl) (by kernel_rfl) (fun _ _ _ h => h) (Or.inr ⟨by rfl, rfl⟩) ?restg2_26_25
                try simp only [Act.put, List.setIfInBounds_toArray, List.set_cons_zero, List.set_cons_succ, List.getElem_toArray, List.getElem_cons_succ, List.getElem_cons_zero]
                refine wpAnyF_pure (i := 26) (v := ?vg2_27_26) rfl (by kernel_rfl) (by kernel_rfl) (by kernel_rfl) (fun _ _ _ h => h) (Or.inl ⟨by rfl, ?hyg2_27_26⟩) ?restg2_27_26
                case hyg2_27_26 => (intro w hSw; clear hSw; go_simp; (all_goals with_reducible rfl))
                try simp only [Act.put, List.setIfInBounds_toArray, List.set_cons_zero, List.set_cons_succ, List.getElem_toArray, List.getElem_cons_succ, List.getElem_cons_zero]
                refine wpAnyF_pure (i := 27) (v := ?vg2_28_27) rfl (by kernel_rfl) (by kernel_rfl) (by kernel_rfl) (fun _ _ _ h => h) (Or.inl ⟨by rfl, ?hyg2_28_27⟩) ?restg2_28_27
                case hyg2_28_27 => (intro w hSw; clear hSw; go_simp; (all_goals with_reducible rfl))
                try simp only [Act.put, List.setIfInBounds_toArray, List.set_cons_zero, List.set_cons_succ, List.getElem_toArray, List.getElem_cons_succ, List.getElem_cons_zero]
                refine wpAnyF_oneD (i := 28) (by kernel_rfl) (by kernel_rfl) rfl (fun K hK => ?_)
                go_simp
                go_at_call 21
                refine (HW.out _ _).mono ?_
                rintro e w6 ⟨rfl, rfl⟩
                go_wp2_with fail
                refine hK.out _ _ ?_
                clear hK K
                try simp only [Act.put, List.setIfInBounds_toArray, List.set_cons_zero, List.set_cons_succ, List.getElem_toArray, List.getElem_cons_succ, List.getElem_cons_zero]
                refine wpAnyF_done (by kernel_rfl) ?_ _
                go_wp2_with (at_builtin; refine wp_app1 _ rfl rfl el_hops rfl ((HOA5.out.alloc _).drew) rfl ((rd_newAt _ _ _ 2 1 _ (by simp) rfl).drew) (two_oneZ _ _) hn16 (Nat.le_trans hs1 (by simp)) ?_; intro A6 c6 w6 o6 b6 g6)
                go_roundw
                case rel => exact HREL.out hvn HBH.out _ _ _ _ _ (by go_num) (bV.out _) (HOT5.out.alloc _).drew o6 b6 g6
                case measure => simp [intOf]; omega
              | false =>
                cases hc2 : decide (qw ≤ x) with
                | true =>
                  have HBH := hid (HBI.out (by rw [hc1, hc2]; rfl))
                  refine wp_region_F (S := (fun V' => V'.cell? ⟨bt, ot + m, none⟩ = some (.int .i64 tv) ∧ V'.cell? ⟨w5.heap.size, 1, none⟩ = some (.int .i64 x) ∧ V'.cell? ⟨gl, ol + m * 2 + 1, none⟩ = some (.int .i64 qw))) [28] (by kernel_rfl) ⟨e1, v1, e2⟩ (fun hHeld => ?_)
                  refine wpAnyF_pure (i := 0) (v := ?vg3_1_0) rfl (by kernel_rfl) (by kernel_rfl) (by kernel_rfl) (fun _ _ _ h => h) (Or.inl ⟨by rfl, ?hyg3_1_0⟩) ?restg3_1_0
                  case hyg3_1_0 => (intro w hSw; clear hSw; go_simp; (all_goals with_reducible rfl))
                  try simp only [Act.put, List.setIfInBounds_toArray, List.set_cons_zero, List.set_cons_succ, List.getElem_toArray, List.getElem_cons_succ, List.getElem_cons_zero]
                  refine wpAnyF_pure (i := 1) (v := ?vg3_2_1) rfl (by kernel_rfl) (by kernel_rfl) (by kernel_rfl) (fun _ _ _ h => h) (Or.inl ⟨by rfl, ?hyg3_2_1⟩) ?restg3_2_1
                  case hyg3_2_1 => (intro w hSw; clear hSw; go_simp; (all_goals with_reducible rfl))
                  try simp only [Act.put, List.setIfInBounds_toArray, List.set_cons_zero, List.set_cons_succ, List.getElem_toArray, List.getElem_cons_succ, List.getElem_cons_zero]
                  refine wpAnyF_pure (i := 2) (v := ?vg3_3_2) rfl (by kernel_rfl) (by kernel_rfl) (by kernel_rfl) (fun _ _ _ h => h) (Or.inl ⟨by rfl, ?hyg3_3_2⟩) ?restg3_3_2
                  case hyg3_3_2 => (intro w hSw; clear hSw; go_simp; (all_goals with_reducible rfl))
                  try simp only [Act.put, List.setIfInBounds_toArray, List.set_cons_zero, List.set_cons_succ, List.getElem_toArray, List.getElem_cons_succ, List.getElem_cons_zero]
                  refine wpAnyF_pure (i := 3) (v := ?vg3_4_3) rfl (by kernel_rfl) (by kernel_rfl) (by kernel_rfl) (fun _ _ _ h => h) (Or.inl ⟨by rfl, ?hyg3_4_3⟩) ?restg3_4_3
                  case hyg3_4_3 => (intro w hSw; clear hSw; go_simp; (all_goals with_reducible rfl))
                  try simp only [Act.put, List.setIfInBounds_toArray, List.set_cons_zero, List.set_cons_succ, List.getElem_toArray, List.getElem_cons_succ, List.getElem_cons_zero]
                  refine wpAnyF_pure (i := 4) (v := ?vg3_5_4) rfl (by kernel_rfl) (by kernel_rfl) (by kernel_rfl) (fun _ _ _ h => h) (Or.inl ⟨by rfl, ?hyg3_5_4⟩) ?restg3_5_4
                  case hyg3_5_4 => (intro w hSw; clear hSw; go_simp; (all_goals with_reducible rfl))
                  try simp only [Act.put, List.setIfInBounds_toArray, List.set_cons_zero, List.set_cons_succ, List.getElem_toArray, List.getElem_cons_succ, List.getElem_cons_zero]
                  refine wpAnyF_pure (i := 5) (v := ?vg3_6_5) rfl (by kernel_rfl) (by kernel_rfl) (by kernel_rfl) (fun _ _ _ h => h) (Or.inl ⟨by rfl, ?hyg3_6_5⟩) ?restg3_6_5
                  case hyg3_6_5 => (intro w hSw; clear hSw; go_simp; (all_goals with_reducible rfl))
                  try simp only [Act.put, List.setIfInBounds_toArray, List.set_cons_zero, List.set_cons_succ, List.getElem_toArray, List.getElem_cons_succ, List.getElem_cons_zero]
                  refine wpAnyF_pure (i := 6) (v := ?vg3_7_6) rfl (by kernel_rfl) (by kernel_rfl) (by kernel_rfl) (fun _ _ _ h => h) (Or.inl ⟨by rfl, ?hyg3_7_6⟩) ?restg3_7_6
                  case hyg3_7_6 => (intro w hSw; clear hSw; go_simp; (all_goals with_reducible rfl))
                  try simp only [Act.put, List.setIfInBounds_toArray, List.set_cons_zero, List.set_cons_succ, List.getElem_toArray, List.getElem_cons_succ, List.getElem_cons_zero]
                  refine wpAnyF_pure (i := 7) (v := ?vg3_8_7) rfl (by kernel_rfl) (by kernel_rfl) (by kernel_rfl) (fun _ _ _ h => h) (Or.inl ⟨by rfl, ?hyg3_8_7⟩) ?restg3_8_7
                  case hyg3_8_7 => (intro w hSw; clear hSw; go_simp; (all_goals with_reducible rfl))
                  try simp only [Act.put, List.setIfInBounds_toArray, List.set_cons_zero, List.set_cons_succ, List.getElem_toArray, List.getElem_cons_succ, List.getElem_cons_zero]
                  refine wpAnyF_pure (i := 8) (v := ?vg3_9_8) rfl (by kernel_rfl) (by kernel_rfl) (by kernel_rfl) (fun _ _ _ h => h) (Or.inl ⟨by rfl, ?hyg3_9_8⟩) ?restg3_9_8
                  case hyg3_9_8 => (intro w hSw; clear hSw; go_simp; (all_goals with_reducible rfl))
                  try simp only [Act.put, List.setIfInBounds_toArray, List.set_cons_zero, List.set_cons_succ, List.getElem_toArray, List.getElem_cons_succ, List.getElem_cons_zero]
                  refine wpAnyF_pure (i := 9) (v := ?vg3_10_9) rfl (by kernel_rfl) (by kernel_rfl) (by kernel_rfl) (fun _ _ _ h => h) (Or.inl ⟨by rfl, ?hyg3_10_9⟩) ?restg3_10_9
                  case hyg3_10_9 => (intro w hSw; clear hSw; go_simp; (all_goals with_reducible rfl))
                  try simp only [Act.put, List.setIfInBounds_toArray, List.set_cons_zero, List.set_cons_succ, List.getElem_toArray, List.getElem_cons_succ, List.getElem_cons_zero]
                  refine wpAnyF_pure (i := 10) (v := ?vg3_11_10) rfl (by kernel_rfl) (by kernel_rfl) (by kernel_rfl) (fun _ _ _ h => h) (Or.inl ⟨by rfl, ?hyg3_11_10⟩) ?restg3_11_10
                  case hyg3_11_10 => (intro w hSw; clear hSw; go_simp; (all_goals with_reducible rfl))
                  try simp only [Act.put, List.setIfInBounds_toArray, List.set_cons_zero, List.set_cons_succ, List.getElem_toArray, List.getElem_cons_succ, List.getElem_cons_zero]
                  refine wpAnyF_pure (i := 11) (v := ?vg3_12_11) rfl (by kernel_rfl) (by kernel_rfl) (by kernel_rfl) (fun _ _ _ h => h) (Or.inl ⟨by rfl, ?hyg3_12_11⟩) ?restg3_12_11
                  case hyg3_12_11 => (intro w hSw; clear hSw; go_simp; (all_goals with_reducible rfl))
                  try simp only [Act.put, List.setIfInBounds_toArray, List.set_cons_zero, List.set_cons_succ, List.getElem_toArray, List.getElem_cons_succ, List.getElem_cons_zero]
                  refine wpAnyF_pure (i := 13) (v := ?vg3_13_13) rfl (by kernel_rfl) (by kernel_rfl) (by kernel_rfl) (fun _ _ _ h => h) (Or.inl ⟨by rfl, ?hyg3_13_13⟩) ?restg3_13_13
                  case hyg3_13_13 => (intro w hSw; clear hSw; go_simp; (all_goals with_reducible rfl))
                  try simp only [Act.put, List.setIfInBounds_toArray, List.set_cons_zero, List.set_cons_succ, List.getElem_toArray, List.getElem_cons_succ, List.getElem_cons_zero]
                  refine wpAnyF_take [14, 15, 16, 17, 18, 19, 20, 21, 22, 23, 24, 25, 26, 27, 28] (i := 12) (v := ?vg3_14_12) rfl (by kernel_rfl) (by kernel_rfl) (by kernel_rfl) (by kernel_rfl) (fun _ _ _ h => h) (Or.inl ⟨by rfl, ?hyg3_14_12⟩) (by assumption) ?restg3_14_12
                  case hyg3_14_12 => (intro w hSw; (try dsimp only at hSw); go_simp; (all_goals with_reducible rfl))
                  try simp only [Act.put, List.setIfInBounds_toArray, List.set_cons_zero, List.set_cons_succ, List.getElem_toArray, List.getElem_cons_succ, List.getElem_cons_zero]
                  refine wpAnyF_pure (i := 14) (v := ?vg3_15_14) rfl (by kernel_rfl) (by kernel_rfl) (by kernel_rfl) (fun _ _ _ h => h) (Or.inl ⟨by rfl, ?hyg3_15_14⟩) ?restg3_15_14
                  case hyg3_15_14 => (intro w hSw; clear hSw; go_simp; (all_goals with_reducible rfl))
                  try simp only [Act.put, List.setIfInBounds_toArray, List.set_cons_zero, List.set_cons_succ, List.getElem_toArray, List.getElem_cons_succ, List.getElem_cons_zero]
                  refine wpAnyF_pure (i := 15) (v := ?vg3_16_15) rfl (by kernel_rfl) (by kernel_rfl) (by kernel_rfl) (fun _ _ _ h => h) (Or.inl ⟨by rfl, ?hyg3_16_15⟩) ?restg3_16_15
                  case hyg3_16_15 => (intro w hSw; clear hSw; go_simp; (all_goals with_reducible rfl))
                  try simp only [Act.put, List.setIfInBounds_toArray, List.set_cons_zero, List.set_cons_succ, List.getElem_toArray, List.getElem_cons_succ, List.getElem_cons_zero]
                  refine wpAnyF_pure (i := 16) (v := ?vg3_17_16) rfl (by kernel_rfl) (by kernel_rfl) (by kernel_rfl) (fun _ _ _ h => h) (Or.inl ⟨by rfl, ?hyg3_17_16⟩) ?restg3_17_16
                  case hyg3_17_16 => (intro w hSw; clear hSw; go_simp; (all_goals with_reducible rfl))
                  try simp only [Act.put, List.setIfInBounds_toArray, List.set_cons_zero, List.set_cons_succ, List.getElem_toArray, List.getElem_cons_succ, List.getElem_cons_zero]
                  refine wpAnyF_pure (i := 17) (v := ?vg3_18_17) rfl (by kernel_rfl) (by kernel_rfl) (by kernel_rfl) (fun _ _ _ h => h) (Or.inl ⟨by rfl, ?hyg3_18_17⟩) ?restg3_18_17
                  case hyg3_18_17 => (intro w hSw; clear hSw; go_simp; (all_goals with_reducible rfl))
                  try simp only [Act.put, List.setIfInBounds_toArray, List.set_cons_zero, List.set_cons_succ, List.getElem_toArray, List.getElem_cons_succ, List.getElem_cons_zero]
                  refine wpAnyF_pure (i := 18) (v := ?vg3_19_18) rfl (by kernel_rfl) (by kernel_rfl) (by kernel_rfl) (fun _ _ _ h => h) (Or.inl ⟨by rfl, ?hyg3_19_18⟩) ?restg3_19_18
                  case hyg3_19_18 => (intro w hSw; clear hSw; go_simp; (all_goals with_reducible rfl))
                  try simp only [Act.put, List.setIfInBounds_toArray, List.set_cons_zero, List.set_cons_succ, List.getElem_toArray, List.getElem_cons_succ, List.getElem_cons_zero]
                  refine wpAnyF_pure (i := 19) (v := ?vg3_20_19) rfl (by kernel_rfl) (by kernel_rfl) (by kernel_rfl) (fun _ _ _ h => h) (Or.inl ⟨by rfl, ?hyg3_20_19⟩) ?restg3_20_19
                  case hyg3_20_19 => (intro w hSw; clear hSw; go_simp; (all_goals with_reducible rfl))
                  try simp only [Act.put, List.setIfInBounds_toArray, List.set_cons_zero, List.set_cons_succ, List.getElem_toArray, List.getElem_cons_succ, List.getElem_cons_zero]
                  refine wpAnyF_pure (i := 20) (v := ?vg3_21_20) rfl (by kernel_rfl) (by kernel_rfl) (by kernel_rfl) (fun _ _ _ h => h) (Or.inl ⟨by rfl, ?hyg3_21_20⟩) ?restg3_21_20
                  case hyg3_21_20 => (intro w hSw; clear hSw; go_simp; (all_goals with_reducible rfl))
                  try simp only [Act.put, List.setIfInBounds_toArray, List.set_cons_zero, List.set_cons_succ, List.getElem_toArray, List.getElem_cons_succ, List.getElem_cons_zero]
                  refine wpAnyF_pure (i := 21) (v := ?vg3_22_21) rfl (by kernel_rfl) (by kernel_rfl) (by kernel_rfl) (fun _ _ _ h => h) (Or.inl ⟨by rfl, ?hyg3_22_21⟩) ?restg3_22_21
                  case hyg3_22_21 => (intro w hSw; clear hSw; go_simp; (all_goals with_reducible rfl))
                  try simp only [Act.put, List.setIfInBounds_toArray, List.set_cons_zero, List.set_cons_succ, List.getElem_toArray, List.getElem_cons_succ, List.getElem_cons_zero]
                  refine wpAnyF_pure (i := 23) (v := ?vg3_23_23) rfl (by kernel_rfl) (by kernel_rfl) (by kernel_rfl) (fun _ _ _ h => h) (Or.inl ⟨by rfl, ?hyg3_23_23⟩) ?restg3_23_23
                  case hyg3_23_23 => (intro w hSw; clear hSw; go_simp; (all_goals with_reducible rfl))
                  try simp only [Act.put, List.setIfInBounds_toArray, List.set_cons_zero, List.set_cons_succ, List.getElem_toArray, List.getElem_cons_succ, List.getElem_cons_zero]
                  refine wpAnyF_take [25, 26, 27, 28] (i := 22) (v := ?vg3_24_22) rfl (by kernel_rfl) (by kernel_rfl) (by kernel_rfl) (by kernel_rfl) (fun _ _ _ h => h) (Or.inl ⟨by rfl, ?hyg3_24_22⟩) (by assumption) ?restg3_24_22
                  case hyg3_24_22 => (intro w hSw; (try dsimp only at hSw); go_simp; (all_goals with_reducible rfl))
                  try simp only [Act.put, List.setIfInBounds_toArray, List.set_cons_zero, List.set_cons_succ, List.getElem_toArray, List.getElem_cons_succ, List.getElem_cons_zero]
                  refine wpAnyF_take [25, 26, 27, 28] (i := 24) (v := ?vg3_25_24) rfl (by kernel_rfl) (by kernel_rfl) (by kernel_rfl) (by kernel_rfl) (fun _ _ _ h => h) (Or.inl ⟨by rfl, ?hyg3_25_24⟩) (by assumption) ?restg3_25_24
                  case hyg3_25_24 => (intro w hSw; (try dsimp only at hSw); go_simp; (all_goals with_reducible rfl))
                  try simp only [Act.put, List.setIfInBounds_toArray, List.set_cons_zero, List.set_cons_succ, List.getElem_toArray, List.getElem_cons_succ, List.getElem_cons_zero]
                  refine wpAnyF_pure (i := 25) (v := ?vg3_26_25) rfl (by kernel_rfl) (by kernel_rfl) (by kernel_rfl) (fun _ _ _ h => h) (Or.inl ⟨by rfl, ?hyg3_26_25⟩) ?restg3_26_25
                  case hyg3_26_25 => (intro w hSw; clear hSw; go_simp; (all_goals with_reducible rfl))
                  try simp only [Act.put, List.setIfInBounds_toArray, List.set_cons_zero, List.set_cons_succ, List.getElem_toArray, List.getElem_cons_succ, List.getElem_cons_zero]
                  refine wpAnyF_pure (i := 26) (v := ?vg3_27_26) rfl (by kernel_rfl) (by kernel_rfl) (by kernel_rfl) (fun _ _ _ h => h) (Or.inl ⟨by rfl, ?hyg3_27_26⟩) ?restg3_27_26
                  case hyg3_27_26 => (intro w hSw; clear hSw; go_simp; (all_goals with_reducible rfl))
                  try simp only [Act.put, List.setIfInBounds_toArray, List.set_cons_zero, List.set_cons_succ, List.getElem_toArray, List.getElem_cons_succ, List.getElem_cons_zero]
                  refine wpAnyF_pure (i := 27) (v := ?vg3_28_27) rfl (by kernel_rfl) (by kernel_rfl) (by kernel_rfl) (fun _ _ _ h => h) (Or.inl ⟨by rfl, ?hyg3_28_27⟩) ?restg3_28_27
                  case hyg3_28_27 => (intro w hSw; clear hSw; go_simp; (all_goals with_reducible rfl))
                  try simp only [Act.put, List.setIfInBounds_toArray, List.set_cons_zero, List.set_cons_succ, List.getElem_toArray, List.getElem_cons_succ, List.getElem_cons_zero]
                  refine wpAnyF_oneD (i := 28) (by kernel_rfl) (by kernel_rfl) rfl (fun K hK => ?_)
                  go_simp
                  go_at_call 21
                  refine (HW.out _ _).mono ?_
                  rintro e w6 ⟨rfl, rfl⟩
                  go_wp2_with fail
                  refine hK.out _ _ ?_
                  clear hK K
                  try simp only [Act.put, List.setIfInBounds_toArray, List.set_cons_zero, List.set_cons_succ, List.getElem_toArray, List.getElem_cons_succ, List.getElem_cons_zero]
                  refine wpAnyF_done (by kernel_rfl) ?_ _
                  go_wp2_with (at_builtin; refine wp_app1 _ rfl rfl el_hops rfl ((HOA5.out.alloc _).drew) rfl ((rd_newAt _ _ _ 2 1 _ (by simp) rfl).drew) (two_oneZ _ _) hn16 (Nat.le_trans hs1 (by simp)) ?_; intro A6 c6 w6 o6 b6 g6)
                  go_roundw
                  case rel => exact HREL.out hvn HBH.out _ _ _ _ _ (by go_num) (bV.out _) (HOT5.out.alloc _).drew o6 b6 g6
                  case measure => simp [intOf]; omega
                | false =>
                  have HBAD := hid (HBJ.out (fun h => by have h2 := h.2; rw [hc1, hc2] at h2; cases h2))
                  refine wp_region_F (S := (fun V' => V'.cell? ⟨bt, ot + m, none⟩ = some (.int .i64 tv) ∧ V'.cell? ⟨w5.heap.size, 1, none⟩ = some (.int .i64 x) ∧ V'.cell? ⟨gl, ol + m * 2 + 1, none⟩ = some (.int .i64 qw))) [28] (by kernel_rfl) ⟨e1, v1, e2⟩ (fun hHeld => ?_)
                  refine wpAnyF_pure (i := 0) (v := ?vg4_1_0) rfl (by kernel_rfl) (by kernel_rfl) (by kernel_rfl) (fun _ _ _ h => h) (Or.inl ⟨by rfl, ?hyg4_1_0⟩) ?restg4_1_0
                  case hyg4_1_0 => (intro w hSw; clear hSw; go_simp; (all_goals with_reducible rfl))
                  try simp only [Act.put, List.setIfInBounds_toArray, List.set_cons_zero, List.set_cons_succ, List.getElem_toArray, List.getElem_cons_succ, List.getElem_cons_zero]
                  refine wpAnyF_pure (i := 1) (v := ?vg4_2_1) rfl (by kernel_rfl) (by kernel_rfl) (by kernel_rfl) (fun _ _ _ h => h) (Or.inl ⟨by rfl, ?hyg4_2_1⟩) ?restg4_2_1
                  case hyg4_2_1 => (intro w hSw; clear hSw; go_simp; (all_goals with_reducible rfl))
                  try simp only [Act.put, List.setIfInBounds_toArray, List.set_cons_zero, List.set_cons_succ, List.getElem_toArray, List.getElem_cons_succ, List.getElem_cons_zero]
                  refine wpAnyF_pure (i := 2) (v := ?vg4_3_2) rfl (by kernel_rfl) (by kernel_rfl) (by kernel_rfl) (fun _ _ _ h => h) (Or.inl ⟨by rfl, ?hyg4_3_2⟩) ?restg4_3_2
                  case hyg4_3_2 => (intro w hSw; clear hSw; go_simp; (all_goals with_reducible rfl))
                  try simp only [Act.put, List.setIfInBounds_toArray, List.set_cons_zero, List.set_cons_succ, List.getElem_toArray, List.getElem_cons_succ, List.getElem_cons_zero]
                  refine wpAnyF_pure (i := 3) (v := ?vg4_4_3) rfl (by kernel_rfl) (by kernel_rfl) (by kernel_rfl) (fun _ _ _ h => h) (Or.inl ⟨by rfl, ?hyg4_4_3⟩) ?restg4_4_3
                  case hyg4_4_3 => (intro w hSw; clear hSw; go_simp; (all_goals with_reducible rfl))
                  try simp only [Act.put, List.setIfInBounds_toArray, List.set_cons_zero, List.set_cons_succ, List.getElem_toArray, List.getElem_cons_succ, List.getElem_cons_zero]
                  refine wpAnyF_pure (i := 4) (v := ?vg4_5_4) rfl (by kernel_rfl) (by kernel_rfl) (by kernel_rfl) (fun _ _ _ h => h) (Or.inl ⟨by rfl, ?hyg4_5_4⟩) ?restg4_5_4
                  case hyg4_5_4 => (intro w hSw; clear hSw; go_simp; (all_goals with_reducible rfl))
                  try simp only [Act.put, List.setIfInBounds_toArray, List.set_cons_zero, List.set_cons_succ, List.getElem_toArray, List.getElem_cons_succ, List.getElem_cons_zero]
                  refine wpAnyF_pure (i := 5) (v := ?vg4_6_5) rfl (by kernel_rfl) (by kernel_rfl) (by kernel_rfl) (fun _ _ _ h => h) (Or.inl ⟨by rfl, ?hyg4_6_5⟩) ?restg4_6_5
                  case hyg4_6_5 => (intro w hSw; clear hSw; go_simp; (all_goals with_reducible rfl))
                  try simp only [Act.put, List.setIfInBounds_toArray, List.set_cons_zero, List.set_cons_succ, List.getElem_toArray, List.getElem_cons_succ, List.getElem_cons_zero]
                  refine wpAnyF_pure (i := 6) (v := ?vg4_7_6) rfl (by kernel_rfl) (by kernel_rfl) (by kernel_rfl) (fun _ _ _ h => h) (Or.inl ⟨by rfl, ?hyg4_7_6⟩) ?restg4_7_6
                  case hyg4_7_6 => (intro w hSw; clear hSw; go_simp; (all_goals with_reducible rfl))
                  try simp only [Act.put, List.setIfInBounds_toArray, List.set_cons_zero, List.set_cons_succ, List.getElem_toArray, List.getElem_cons_succ, List.getElem_cons_zero]
                  refine wpAnyF_pure (i := 7) (v := ?vg4_8_7) rfl (by kernel_rfl) (by kernel_rfl) (by kernel_rfl) (fun _ _ _ h => h) (Or.inl ⟨by rfl, ?hyg4_8_7⟩) ?restg4_8_7
                  case hyg4_8_7 => (intro w hSw; clear hSw; go_simp; (all_goals with_reducible rfl))
                  try simp only [Act.put, List.setIfInBounds_toArray, List.set_cons_zero, List.set_cons_succ, List.getElem_toArray, List.getElem_cons_succ, List.getElem_cons_zero]
                  refine wpAnyF_pure (i := 8) (v := ?vg4_9_8) rfl (by kernel_rfl) (by kernel_rfl) (by kernel_rfl) (fun _ _ _ h => h) (Or.inl ⟨by rfl, ?hyg4_9_8⟩) ?restg4_9_8
                  case hyg4_9_8 => (intro w hSw; clear hSw; go_simp; (all_goals with_reducible rfl))
                  try simp only [Act.put, List.setIfInBounds_toArray, List.set_cons_zero, List.set_cons_succ, List.getElem_toArray, List.getElem_cons_succ, List.getElem_cons_zero]
                  refine wpAnyF_pure (i := 9) (v := ?vg4_10_9) rfl (by kernel_rfl) (by kernel_rfl) (by kernel_rfl) (fun _ _ _ h => h) (Or.inl ⟨by rfl, ?hyg4_10_9⟩) ?restg4_10_9
                  case hyg4_10_9 => (intro w hSw; clear hSw; go_simp; (all_goals with_reducible rfl))
                  try simp only [Act.put, List.setIfInBounds_toArray, List.set_cons_zero, List.set_cons_succ, List.getElem_toArray, List.getElem_cons_succ, List.getElem_cons_zero]
                  refine wpAnyF_pure (i := 10) (v := ?vg4_11_10) rfl (by kernel_rfl) (by kernel_rfl) (by kernel_rfl) (fun _ _ _ h => h) (Or.inl ⟨by rfl, ?hyg4_11_10⟩) ?restg4_11_10
                  case hyg4_11_10 => (intro w hSw; clear hSw; go_simp; (all_goals with_reducible rfl))
                  try simp only [Act.put, List.setIfInBounds_toArray, List.set_cons_zero, List.set_cons_succ, List.getElem_toArray, List.getElem_cons_succ, List.getElem_cons_zero]
                  refine wpAnyF_pure (i := 11) (v := ?vg4_12_11) rfl (by kernel_rfl) (by kernel_rfl) (by kernel_rfl) (fun _ _ _ h => h) (Or.inl ⟨by rfl, ?hyg4_12_11⟩) ?restg4_12_11
                  case hyg4_12_11 => (intro w hSw; clear hSw; go_simp; (all_goals with_reducible rfl))
                  try simp only [Act.put, List.setIfInBounds_toArray, List.set_cons_zero, List.set_cons_succ, List.getElem_toArray, List.getElem_cons_succ, List.getElem_cons_zero]
                  refine wpAnyF_pure (i := 13) (v := ?vg4_13_13) rfl (by kernel_rfl) (by kernel_rfl) (by kernel_rfl) (fun _ _ _ h => h) (Or.inl ⟨by rfl, ?hyg4_13_13⟩) ?restg4_13_13
                  case hyg4_13_13 => (intro w hSw; clear hSw; go_simp; (all_goals with_reducible rfl))
                  try simp only [Act.put, List.setIfInBounds_toArray, List.set_cons_zero, List.set_cons_succ, List.getElem_toArray, List.getElem_cons_succ, List.getElem_cons_zero]
                  refine wpAnyF_take [14, 15, 16, 17, 18, 19, 20, 21, 22, 23, 24, 25, 26, 27, 28] (i := 12) (v := ?vg4_14_12) rfl (by kernel_rfl) (by kernel_rfl) (by kernel_rfl) (by kernel_rfl) (fun _ _ _ h => h) (Or.inl ⟨by rfl, ?hyg4_14_12⟩) (by assumption) ?restg4_14_12
                  case hyg4_14_12 => (intro w hSw; (try dsimp only at hSw); go_simp; (all_goals with_reducible rfl))
                  try simp only [Act.put, List.setIfInBounds_toArray, List.set_cons_zero, List.set_cons_succ, List.getElem_toArray, List.getElem_cons_succ, List.getElem_cons_zero]
                  refine wpAnyF_pure (i := 14) (v := ?vg4_15_14) rfl (by kernel_rfl) (by kernel_rfl) (by kernel_rfl) (fun _ _ _ h => h) (Or.inl ⟨by rfl, ?hyg4_15_14⟩) ?restg4_15_14
                  case hyg4_15_14 => (intro w hSw; clear hSw; go_simp; (all_goals with_reducible rfl))
                  try simp only [Act.put, List.setIfInBounds_toArray, List.set_cons_zero, List.set_cons_succ, List.getElem_toArray, List.getElem_cons_succ, List.getElem_cons_zero]
                  refine wpAnyF_pure (i := 15) (v := ?vg4_16_15) rfl (by kernel_rfl) (by kernel_rfl) (by kernel_rfl) (fun _ _ _ h => h) (Or.inl ⟨by rfl, ?hyg4_16_15⟩) ?restg4_16_15
                  case hyg4_16_15 => (intro w hSw; clear hSw; go_simp; (all_goals with_reducible rfl))
                  try simp only [Act.put, List.setIfInBounds_toArray, List.set_cons_zero, List.set_cons_succ, List.getElem_toArray, List.getElem_cons_succ, List.getElem_cons_zero]
                  refine wpAnyF_pure (i := 16) (v := ?vg4_17_16) rfl (by kernel_rfl) (by kernel_rfl) (by kernel_rfl) (fun _ _ _ h => h) (Or.inl ⟨by rfl, ?hyg4_17_16⟩) ?restg4_17_16
                  case hyg4_17_16 => (intro w hSw; clear hSw; go_simp; (all_goals with_reducible rfl))
                  try simp only [Act.put, List.setIfInBounds_toArray, List.set_cons_zero, List.set_cons_succ, List.getElem_toArray, List.getElem_cons_succ, List.getElem_cons_zero]
                  refine wpAnyF_pure (i := 17) (v := ?vg4_18_17) rfl (by kernel_rfl) (by kernel_rfl) (by kernel_rfl) (fun _ _ _ h => h) (Or.inl ⟨by rfl, ?hyg4_18_17⟩) ?restg4_18_17
                  case hyg4_18_17 => (intro w hSw; clear hSw; go_simp; (all_goals with_reducible rfl))
                  try simp only [Act.put, List.setIfInBounds_toArray, List.set_cons_zero, List.set_cons_succ, List.getElem_toArray, List.getElem_cons_succ, List.getElem_cons_zero]
                  refine wpAnyF_pure (i := 18) (v := ?vg4_19_18) rfl (by kernel_rfl) (by kernel_rfl) (by kernel_rfl) (fun _ _ _ h => h) (Or.inl ⟨by rfl, ?hyg4_19_18⟩) ?restg4_19_18
                  case hyg4_19_18 => (intro w hSw; clear hSw; go_simp; (all_goals with_reducible rfl))
                  try simp only [Act.put, List.setIfInBounds_toArray, List.set_cons_zero, List.set_cons_succ, List.getElem_toArray, List.getElem_cons_succ, List.getElem_cons_zero]
                  refine wpAnyF_pure (i := 19) (v := ?vg4_20_19) rfl (by kernel_rfl) (by kernel_rfl) (by kernel_rfl) (fun _ _ _ h => h) (Or.inl ⟨by rfl, ?hyg4_20_19⟩) ?restg4_20_19
                  case hyg4_20_19 => (intro w hSw; clear hSw; go_simp; (all_goals with_reducible rfl))
                  try simp only [Act.put, List.setIfInBounds_toArray, List.set_cons_zero, List.set_cons_succ, List.getElem_toArray, List.getElem_cons_succ, List.getElem_cons_zero]
                  refine wpAnyF_pure (i := 20) (v := ?vg4_21_20) rfl (by kernel_rfl) (by kernel_rfl) (by kernel_rfl) (fun _ _ _ h => h) (Or.inl ⟨by rfl, ?hyg4_21_20⟩) ?restg4_21_20
                  case hyg4_21_20 => (intro w hSw; clear hSw; go_simp; (all_goals with_reducible rfl))
                  try simp only [Act.put, List.setIfInBounds_toArray, List.set_cons_zero, List.set_cons_succ, List.getElem_toArray, List.getElem_cons_succ, List.getElem_cons_zero]
                  refine wpAnyF_pure (i := 21) (v := ?vg4_22_21) rfl (by kernel_rfl) (by kernel_rfl) (by kernel_rfl) (fun _ _ _ h => h) (Or.inl ⟨by rfl, ?hyg4_22_21⟩) ?restg4_22_21
                  case hyg4_22_21 => (intro w hSw; clear hSw; go_simp; (all_goals with_reducible rfl))
                  try simp only [Act.put, List.setIfInBounds_toArray, List.set_cons_zero, List.set_cons_succ, List.getElem_toArray, List.getElem_cons_succ, List.getElem_cons_zero]
                  refine wpAnyF_pure (i := 23) (v := ?vg4_23_23) rfl (by kernel_rfl) (by kernel_rfl) (by kernel_rfl) (fun _ _ _ h => h) (Or.inl ⟨by rfl, ?hyg4_23_23⟩) ?restg4_23_23
                  case hyg4_23_23 => (intro w hSw; clear hSw; go_simp; (all_goals with_reducible rfl))
                  try simp only [Act.put, List.setIfInBounds_toArray, List.set_cons_zero, List.set_cons_succ, List.getElem_toArray, List.getElem_cons_succ, List.getElem_cons_zero]
                  refine wpAnyF_take [25, 26, 27, 28] (i := 22) (v := ?vg4_24_22) rfl (by kernel_rfl) (by kernel_rfl) (by kernel_rfl) (by kernel_rfl) (fun _ _ _ h => h) (Or.inl ⟨by rfl, ?hyg4_24_22⟩) (by assumption) ?restg4_24_22
                  case hyg4_24_22 => (intro w hSw; (try dsimp only at hSw); go_simp; (all_goals with_reducible rfl))
                  try simp only [Act.put, List.setIfInBounds_toArray, List.set_cons_zero, List.set_cons_succ, List.getElem_toArray, List.getElem_cons_succ, List.getElem_cons_zero]
                  refine wpAnyF_take [25, 26, 27, 28] (i := 24) (v := ?vg4_25_24) rfl (by kernel_rfl) (by kernel_rfl) (by kernel_rfl) (by kernel_rfl) (fun _ _ _ h => h) (Or.inl ⟨by rfl, ?hyg4_25_24⟩) (by assumption) ?restg4_25_24
                  case hyg4_25_24 => (intro w hSw; (try dsimp only at hSw); go_simp; (all_goals with_reducible rfl))
                  try simp only [Act.put, List.setIfInBounds_toArray, List.set_cons_zero, List.set_cons_succ, List.getElem_toArray, List.getElem_cons_succ, List.getElem_cons_zero]
                  refine wpAnyF_pure (i := 25) (v := ?vg4_26_25) rfl (by kernel_rfl) (by kernel_rfl) (by kernel_rfl) (fun _ _ _ h => h) (Or.inl ⟨by rfl, ?hyg4_26_25⟩) ?restg4_26_25
                  case hyg4_26_25 => (intro w hSw; clear hSw; go_simp; (all_goals with_reducible rfl))
                  try simp only [Act.put, List.setIfInBounds_toArray, List.set_cons_zero, List.set_cons_succ, List.getElem_toArray, List.getElem_cons_succ, List.getElem_cons_zero]
                  refine wpAnyF_pure (i := 26) (v := ?vg4_27_26) rfl (by kernel_rfl) (by kernel_rfl) (by kernel_rfl) (fun _ _ _ h => h) (Or.inl ⟨by rfl, ?hyg4_27_26⟩) ?restg4_27_26
                  case hyg4_27_26 => (intro w hSw; clear hSw; go_simp; (all_goals with_reducible rfl))
                  try simp only [Act.put, List.setIfInBounds_toArray, List.set_cons_zero, List.set_cons_succ, List.getElem_toArray, List.getElem_cons_succ, List.getElem_cons_zero]
                  refine wpAnyF_pure (i := 27) (v := ?vg4_28_27) rfl (by kernel_rfl) (by kernel_rfl) (by kernel_rfl) (fun _ _ _ h => h) (Or.inl ⟨by rfl, ?hyg4_28_27⟩) ?restg4_28_27
                  case hyg4_28_27 => (intro w hSw; clear hSw; go_simp; (all_goals with_reducible rfl))
                  try simp only [Act.put, List.setIfInBounds_toArray, List.set_cons_zero, List.set_cons_succ, List.getElem_toArray, List.getElem_cons_succ, List.getElem_cons_zero]
                  refine wpAnyF_oneD (i := 28) (by kernel_rfl) (by kernel_rfl) rfl (fun K hK => ?_)
                  go_simp
                  go_at_call 21
                  refine (HNO.out _ _).mono ?_
                  rintro e w6 ⟨rfl, rfl⟩
                  go_wp2_with fail
                  refine ⟨rfl, ?_⟩
                  rw [HNONE.out HBAD.out]
                  exact ⟨rfl, HPAN.out⟩
          · have hvb : decide (v < n) = false := by simpa using hvn
            have HBAD : Hid (¬ (v < n ∧ behindB acc.getLast? ⟨v, x⟩ = true)) := hid fun h => hvn h.1
            refine wp_region_F (S := (fun V' => V'.cell? ⟨w5.heap.size, 1, none⟩ = some (.int .i64 x))) [28] (by kernel_rfl) v1 (fun hHeld => ?_)
            refine wpAnyF_pure (i := 0) (v := ?vg5_1_0) rfl (by kernel_rfl) (by kernel_rfl) (by kernel_rfl) (fun _ _ _ h => h) (Or.inl ⟨by rfl, ?hyg5_1_0⟩) ?restg5_1_0
            case hyg5_1_0 => (intro w hSw; clear hSw; go_simp; (all_goals with_reducible rfl))
            try simp only [Act.put, List.setIfInBounds_toArray, List.set_cons_zero, List.set_cons_succ, List.getElem_toArray, List.getElem_cons_succ, List.getElem_cons_zero]
            refine wpAnyF_pure (i := 1) (v := ?vg5_2_1) rfl (by kernel_rfl) (by kernel_rfl) (by kernel_rfl) (fun _ _ _ h => h) (Or.inl ⟨by rfl, ?hyg5_2_1⟩) ?restg5_2_1
            case hyg5_2_1 => (intro w hSw; clear hSw; go_simp; (all_goals with_reducible rfl))
            try simp only [Act.put, List.setIfInBounds_toArray, List.set_cons_zero, List.set_cons_succ, List.getElem_toArray, List.getElem_cons_succ, List.getElem_cons_zero]
            refine wpAnyF_pure (i := 2) (v := ?vg5_3_2) rfl (by kernel_rfl) (by kernel_rfl) (by kernel_rfl) (fun _ _ _ h => h) (Or.inl ⟨by rfl, ?hyg5_3_2⟩) ?restg5_3_2
            case hyg5_3_2 => (intro w hSw; clear hSw; go_simp; (all_goals with_reducible rfl))
            try simp only [Act.put, List.setIfInBounds_toArray, List.set_cons_zero, List.set_cons_succ, List.getElem_toArray, List.getElem_cons_succ, List.getElem_cons_zero]
            refine wpAnyF_pure (i := 3) (v := ?vg5_4_3) rfl (by kernel_rfl) (by kernel_rfl) (by kernel_rfl) (fun _ _ _ h => h) (Or.inl ⟨by rfl, ?hyg5_4_3⟩) ?restg5_4_3
            case hyg5_4_3 => (intro w hSw; clear hSw; go_simp; (all_goals with_reducible rfl))
            try simp only [Act.put, List.setIfInBounds_toArray, List.set_cons_zero, List.set_cons_succ, List.getElem_toArray, List.getElem_cons_succ, List.getElem_cons_zero]
            refine wpAnyF_pure (i := 4) (v := ?vg5_5_4) rfl (by kernel_rfl) (by kernel_rfl) (by kernel_rfl) (fun _ _ _ h => h) (Or.inl ⟨by rfl, ?hyg5_5_4⟩) ?restg5_5_4
            case hyg5_5_4 => (intro w hSw; clear hSw; go_simp; (all_goals with_reducible rfl))
            try simp only [Act.put, List.setIfInBounds_toArray, List.set_cons_zero, List.set_cons_succ, List.getElem_toArray, List.getElem_cons_succ, List.getElem_cons_zero]
            refine wpAnyF_pure (i := 5) (v := undef) rfl (by kernel_rfl) (by kernel_rfl) (by kernel_rfl) (fun _ _ _ h => h) (Or.inr ⟨by rfl, rfl⟩) ?restg5_6_5
            try simp only [Act.put, List.setIfInBounds_toArray, List.set_cons_zero, List.set_cons_succ, List.getElem_toArray, List.getElem_cons_succ, List.getElem_cons_zero]
            refine wpAnyF_pure (i := 6) (v := undef) rfl (by kernel_rfl) (by kernel_rfl) (by kernel_rfl) (fun _ _ _ h => h) (Or.inr ⟨by rfl, rfl⟩) ?restg5_7_6
            try simp only [Act.put, List.setIfInBounds_toArray, List.set_cons_zero, List.set_cons_succ, List.getElem_toArray, List.getElem_cons_succ, List.getElem_cons_zero]
            refine wpAnyF_pure (i := 7) (v := undef) rfl (by kernel_rfl) (by kernel_rfl) (by kernel_rfl) (fun _ _ _ h => h) (Or.inr ⟨by rfl, rfl⟩) ?restg5_8_7
            try simp only [Act.put, List.setIfInBounds_toArray, List.set_cons_zero, List.set_cons_succ, List.getElem_toArray, List.getElem_cons_succ, List.getElem_cons_zero]
            refine wpAnyF_pure (i := 8) (v := undef) rfl (by kernel_rfl) (by kernel_rfl) (by kernel_rfl) (fun _ _ _ h => h) (Or.inr ⟨by rfl, rfl⟩) ?restg5_9_8
            try simp only [Act.put, List.setIfInBounds_toArray, List.set_cons_zero, List.set_cons_succ, List.getElem_toArray, List.getElem_cons_succ, List.getElem_cons_zero]
            refine wpAnyF_pure (i := 9) (v := undef) rfl (by kernel_rfl) (by kernel_rfl) (by kernel_rfl) (fun _ _ _ h => h) (Or.inr ⟨by rfl, rfl⟩) ?restg5_10_9
            try simp only [Act.put, List.setIfInBounds_toArray, List.set_cons_zero, List.set_cons_succ, List.getElem_toArray, List.getElem_cons_succ, List.getElem_cons_zero]
            refine wpAnyF_pure (i := 10) (v := undef) rfl (by kernel_rfl) (by kernel_rfl) (by kernel_rfl) (fun _ _ _ h => h) (Or.inr ⟨by rfl, rfl⟩) ?restg5_11_10
            try simp only [Act.put, List.setIfInBounds_toArray, List.set_cons_zero, List.set_cons_succ, List.getElem_toArray, List.getElem_cons_succ, List.getElem_cons_zero]
            refine wpAnyF_pure (i := 11) (v := undef) rfl (by kernel_rfl) (by kernel_rfl) (by kernel_rfl) (fun _ _ _ h => h) (Or.inr ⟨by rfl, rfl⟩) ?restg5_12_11
            try simp only [Act.put, List.setIfInBounds_toArray, List.set_cons_zero, List.set_cons_succ, List.getElem_toArray, List.getElem_cons_succ, List.getElem_cons_zero]
            refine wpAnyF_pure (i := 12) (v := undef) rfl (by kernel_rfl) (by kernel_rfl) (by kernel_rfl) (fun _ _ _ h => h) (Or.inr ⟨by rfl, rfl⟩) ?restg5_13_12
            try simp only [Act.put, List.setIfInBounds_toArray, List.set_cons_zero, List.set_cons_succ, List.getElem_toArray, List.getElem_cons_succ, List.getElem_cons_zero]
            refine wpAnyF_pure (i := 13) (v := undef) rfl (by kernel_rfl) (by kernel_rfl) (by kernel_rfl) (fun _ _ _ h => h) (Or.inr ⟨by rfl, rfl⟩) ?restg5_14_13
            try simp only [Act.put, List.setIfInBounds_toArray, List.set_cons_zero, List.set_cons_succ, List.getElem_toArray, List.getElem_cons_succ, List.getElem_cons_zero]
            refine wpAnyF_pure (i := 14) (v := undef) rfl (by kernel_rfl) (by kernel_rfl) (by kernel_rfl) (fun _ _ _ h => h) (Or.inr ⟨by rfl, rfl⟩) ?restg5_15_14
            try simp only [Act.put, List.setIfInBounds_toArray, List.set_cons_zero, List.set_cons_succ, List.getElem_toArray, List.getElem_cons_succ, List.getElem_cons_zero]
            refine wpAnyF_pure (i := 15) (v := undef) rfl (by kernel_rfl) (by kernel_rfl) (by kernel_rfl) (fun _ _ _ h => h) (Or.inr ⟨by rfl, rfl⟩) ?restg5_16_15
            try simp only [Act.put, List.setIfInBounds_toArray, List.set_cons_zero, List.set_cons_succ, List.getElem_toArray, List.getElem_cons_succ, List.getElem_cons_zero]
            refine wpAnyF_pure (i := 16) (v := undef) rfl (by kernel_rfl) (by kernel_rfl) (by kernel_rfl) (fun _ _ _ h => h) (Or.inr ⟨by rfl, rfl⟩) ?restg5_17_16
            try simp only [Act.put, List.setIfInBounds_toArray, List.set_cons_zero, List.set_cons_succ, List.getElem_toArray, List.getElem_cons_succ, List.getElem_cons_zero]
            refine wpAnyF_pure (i := 17) (v := undef) rfl (by kernel_rfl) (by kernel_rfl) (by kernel_rfl) (fun _ _ _ h => h) (Or.inr ⟨by rfl, rfl⟩) ?restg5_18_17
            try simp only [Act.put, List.setIfInBounds_toArray, List.set_cons_zero, List.set_cons_succ, List.getElem_toArray, List.getElem_cons_succ, List.getElem_cons_zero]
            refine wpAnyF_pure (i := 18) (v := undef) rfl (by kernel_rfl) (by kernel_rfl) (by kernel_rfl) (fun _ _ _ h => h) (Or.inr ⟨by rfl, rfl⟩) ?restg5_19_18
            try simp only [Act.put, List.setIfInBounds_toArray, List.set_cons_zero, List.set_cons_succ, List.getElem_toArray, List.getElem_cons_succ, List.getElem_cons_zero]
            refine wpAnyF_pure (i := 19) (v := undef) rfl (by kernel_rfl) (by kernel_rfl) (by kernel_rfl) (fun _ _ _ h => h) (Or.inr ⟨by rfl, rfl⟩) ?restg5_20_19
            try simp only [Act.put, List.setIfInBounds_toArray, List.set_cons_zero, List.set_cons_succ, List.getElem_toArray, List.getElem_cons_succ, List.getElem_cons_zero]
            refine wpAnyF_pure (i := 20) (v := undef) rfl (by kernel_rfl) (by kernel_rfl) (by kernel_rfl) (fun _ _ _ h => h) (Or.inr ⟨by rfl, rfl⟩) ?restg5_21_20
            try simp only [Act.put, List.setIfInBounds_toArray, List.set_cons_zero, List.set_cons_succ, List.getElem_toArray, List.getElem_cons_succ, List.getElem_cons_zero]
            refine wpAnyF_pure (i := 21) (v := undef) rfl (by kernel_rfl) (by kernel_rfl) (by kernel_rfl) (fun _ _ _ h => h) (Or.inr ⟨by rfl, rfl⟩) ?restg5_22_21
            try simp only [Act.put, List.setIfInBounds_toArray, List.set_cons_zero, List.set_cons_succ, List.getElem_toArray, List.getElem_cons_succ, List.getElem_cons_zero]
            refine wpAnyF_pure (i := 22) (v := undef) rfl (by kernel_rfl) (by kernel_rfl) (by kernel_rfl) (fun _ _ _ h => h) (Or.inr ⟨by rfl, rfl⟩) ?restg5_23_22
            try simp only [Act.put, List.setIfInBounds_toArray, List.set_cons_zero, List.set_cons_succ, List.getElem_toArray, List.getElem_cons_succ, List.getElem_cons_zero]
            refine wpAnyF_pure (i := 23) (v := undef) rfl (by kernel_rfl) (by kernel_rfl) (by kernel_rfl) (fun _ _ _ h => h) (Or.inr ⟨by rfl, rfl⟩) ?restg5_24_23
            try simp only [Act.put, List.setIfInBounds_toArray, List.set_cons_zero, List.set_cons_succ, List.getElem_toArray, List.getElem_cons_succ, List.getElem_cons_zero]
            refine wpAnyF_pure (i := 24) (v := undef) rfl (by kernel_rfl) (by kernel_rfl) (by kernel_rfl) (fun _ _ _ h => h) (Or.inr ⟨by rfl, rfl⟩) ?restg5_25_24
            try simp only [Act.put, List.setIfInBounds_toArray, List.set_cons_zero, List.set_cons_succ, List.getElem_toArray, List.getElem_cons_succ, List.getElem_cons_zero]
            refine wpAnyF_pure (i := 25) (v := undef) rfl (by kernel_rfl) (by kernel_rfl) (by kernel_rfl) (fun _ _ _ h => h) (Or.inr ⟨by rfl, rfl⟩) ?restg5_26_25
            try simp only [Act.put, List.setIfInBounds_toArray, List.set_cons_zero, List.set_cons_succ, List.getElem_toArray, List.getElem_cons_succ, List.getElem_cons_zero]
            refine wpAnyF_pure (i := 26) (v := undef) rfl (by kernel_rfl) (by kernel_rfl) (by kernel_rfl) (fun _ _ _ h => h) (Or.inr ⟨by rfl, rfl⟩) ?restg5_27_26
            try simp only [Act.put, List.setIfInBounds_toArray, List.set_cons_zero, List.set_cons_succ, List.getElem_toArray, List.getElem_cons_succ, List.getElem_cons_zero]
            refine wpAnyF_pure (i := 27) (v := ?vg5_28_27) rfl (by kernel_rfl) (by kernel_rfl) (by kernel_rfl) (fun _ _ _ h => h) (Or.inl ⟨by rfl, ?hyg5_28_27⟩) ?restg5_28_27
            case hyg5_28_27 => (intro w hSw; clear hSw; go_simp; (all_goals with_reducible rfl))
            try simp only [Act.put, List.setIfInBounds_toArray, List.set_cons_zero, List.set_cons_succ, List.getElem_toArray, List.getElem_cons_succ, List.getElem_cons_zero]
            refine wpAnyF_oneD (i := 28) (by kernel_rfl) (by kernel_rfl) rfl (fun K hK => ?_)
            go_simp
            go_at_call 21
            refine (HNO.out _ _).mono ?_
            rintro e w6 ⟨rfl, rfl⟩
            go_wp2_with fail
            refine ⟨rfl, ?_⟩
            rw [HNONE.out HBAD.out]
            exact ⟨rfl, HPAN.out⟩
      · obtain rfl : j = to.length := by omega
        have HE' := hid HE.out
        go_wp2_with fail
        go_ret
        have HFIN : hopGo n to none (l.drop k) = some (acc, r) := by
          rw [HHG.out, List.drop_length]
          show some (acc ++ [], r) = _
          rw [List.append_nil]
        rw [HFIN]
        exact ⟨A', c', B', cr, by rw [HAL.out]; rfl, by rw [HAL.out]; exact own_more HOA.out HB1.out.size, HE'.out, gbS HB1.out HGW.out⟩
  · have hck' : ¬ (c - k = 0) := by omega
    go_wp2_with fail
    have hGX : G < w1.heap.size := Nat.lt_of_lt_of_le hGs HB1.out.size
    have HGX := hid (grown_setCells G [.slice (some ⟨b, off + k, none⟩) (l.length - k) (c - k)] 0 w1)
    have HEX : Hid (EO (w1.setCell ⟨G, 0, none⟩ (.slice (some ⟨b, off + k, none⟩) (l.length - k) (c - k))) M L G (some ⟨b, off + k, none⟩) (c - k) (l.drop k)) := hid (by
      refine ⟨HEO.out.le, ?_, by simpa using hf, ?_, by rw [List.length_drop]; omega, fun _ b' o' e => by injection e with e; injection e with e; subst e; exact HEO.out.lo (by simp at *; omega) _ _ rfl, by omega, fun y hy => HEO.out.byte y (List.mem_of_mem_drop hy)⟩
      · rw [List.length_drop]; exact World.cell?_setCell_same w1 ⟨G, 0, none⟩ _ h0
      · rw [List.length_drop]
        exact rd_dropA ((HEO.out.rd.below (HB1.out.mono hL)).below ((Below.refl L w1).setCell (by exact HEO.out.le) _)) rfl _ (by omega))
    have HOX := hid (own_grown HO1.out HGX.out (fun y hy e => by injection e with e; have := (HO1.out.lt y hy).1; omega))
    have hzx : (w1.setCell ⟨G, 0, none⟩ (.slice (some ⟨b, off + k, none⟩) (l.length - k) (c - k))).heap.size = w1.heap.size := by simp
    have hG1 : G < w1.heap.size := hGX
    have HLT := hid (show ∀ y, (Value.slice A1 to.length c1).ownBlock = some y → w.heap.size ≤ y ∧ y < w1.heap.size from fun y hy => HO1.out.lt y hy)
    change Hid (w1.grownBy (w1.setCell ⟨G, 0, none⟩ (.slice (some ⟨b, off + k, none⟩) (l.length - k) (c - k))) (some G)) at HGX
    change Hid (World.ownsRow (w1.setCell ⟨G, 0, none⟩ (.slice (some ⟨b, off + k, none⟩) (l.length - k) (c - k))) w.heap.size 3 1 (.slice A1 to.length c1) to.length (to.flatMap i64c)) at HOX
    generalize w1.setCell ⟨G, 0, none⟩ (.slice (some ⟨b, off + k, none⟩) (l.length - k) (c - k)) = wx at *
    go_loopw [8, 9, 10, 11, 41] (fun sv _ _ _ jv wr => EhR M L G w.heap.size n to (l.drop k) w1 wx A1 c1 sv jv wr) (fun _ _ _ _ jv _ => to.length - (intOf jv).toNat)
    case atStart => exact ⟨0, 0, none, [], some ⟨b, off + k, none⟩, (c - k), l.drop k, Nat.zero_le _, rfl, rfl, hid rfl, hid (World.ownsRow_nil _ _ _ _), HEX, HOX, hid (by rw [List.drop_zero, putH_nil]; rfl), HGX, by omega, hid rfl⟩
    case round =>
      clear HEX HOX HGX
      obtain ⟨j, c', A', acc, B', cr, r, hj, rfl, rfl, HAL, HOA, HE, HOT, HHG, HGW, hcr, HTO⟩ := hrel
      have hGr : G < wr.heap.size := World.block_lt_of_cell? _ _ HE.out.all
      have hLG := HE.out.le
      by_cases hlt : j < to.length
      · obtain ⟨v, hv⟩ : ∃ v, to[j]? = some v := ⟨_, List.getElem?_eq_getElem hlt⟩
        obtain ⟨bt, ot, rfl, hbt, e0⟩ := int_cell (rd_own HOT.out) rfl hv
        have hjz : (j : Int) < (to.length : Int) := by omega
        have HTD := hid (drop_consZ hv)
        have HV := hid hv
        have HGET := hid (eyeGet_walk HE.out (by omega) 1099511627776 (by omega) hcr)
        cases hs : smallE r 1099511627776 with
        | none =>
          have HNONE : Hid (hopGo n to none (l.drop k) = none) := hid (by rw [HHG.out, HTD.out]; unfold hopGo; rw [hs]; rfl)
          rw [hs] at HGET
          clear hv hs
          go_wp2_with fail
          refine HGET.out.mono ?_
          rintro e w5 ⟨rfl, rfl⟩
          go_wp2_with fail
          refine ⟨rfl, ?_⟩
          rw [HNONE.out]
          exact ⟨rfl, gbS HB1.out HGW.out⟩
        | some y =>
          obtain ⟨x, k2⟩ := y
          have HSV := hid hs
          rw [hs] at HGET
          clear hv hs
          go_wp2_with fail
          refine HGET.out.mono ?_
          rintro e w5 ⟨rfl, B5, hE5, hG5⟩
          go_wp2_with fail
          have HE5 := hid hE5
          have HG5 := hid hG5
          have HOA5 := hid ((own_grown HOA.out hG5 (fun y hy e => by injection e with e; have := (HOA.out.lt y hy).1; omega)).alloc (.cells #[.int .i64 v, .int .i64 x] 107))
          have HOT5 := hid ((own_grown HOT.out hG5 (fun y hy e => by injection e with e; have := (HOT.out.lt y hy).1; omega)).alloc (.cells #[.int .i64 v, .int .i64 x] 107))
          have hz5 := hG5.size
          clear hE5 hG5
          obtain ⟨V, hV⟩ : ∃ V, V = w5.alloc (.cells #[.int .i64 v, .int .i64 x] 107) := ⟨_, rfl⟩
          have v0 : V.cell? ⟨w5.heap.size, 0, none⟩ = some (.int .i64 v) := by rw [hV]; go_simp
          have v1 : V.cell? ⟨w5.heap.size, 1, none⟩ = some (.int .i64 x) := by rw [hV]; go_simp
          have hVs : V.heap.size = w5.heap.size + 1 := by rw [hV]; simp
          have hb5 : w5.heap.size < V.heap.size := by omega
          have HBV : Hid (Below w1.heap.size w5 V) := hid (by rw [hV]; exact (Below.refl _ _).alloc (by have := HGW.out.size; omega) _)
          rw [← hV] at HOA5 HOT5 ⊢
          have HVS := hid hVs
          clear hVs hV
          have HNO := hid (fun p V => want_no p V)
          have HT := hid (take_nextV HV.out)
          have hn16 : (j + 1) * 16 ≤ 140737488355328 := by omega
          have hs1 : w1.heap.size ≤ V.heap.size := by have := HBV.out.size; have := HGW.out.size; omega
          have HREL : Hid (v < n → behindB acc.getLast? ⟨v, x⟩ = true → ∀ (jv' : Value) (W w6 : World) (A6 : Option Addr) (c6 : Nat), jv' = .int .i64 ((j + 1 : Nat) : Int) → Below w1.heap.size V W → World.ownsRow W w.heap.size 3 1 (.slice (some ⟨bt, ot, none⟩) to.length c1) to.length (to.flatMap i64c) → w6.ownsRow w1.heap.size 107 2 (.slice A6 (j + 1) c6) (j + 1) (acc.flatMap Hop.cells ++ [.int .i64 v, .int .i64 x]) → Below w1.heap.size W w6 → W.grownBy w6 (Value.slice A' j c').ownBlock → EhR M L G w.heap.size n to (l.drop k) w1 wx (some ⟨bt, ot, none⟩) c1 (.slice A6 (j + 1) c6) jv' w6) := hid fun h1 h2 jv' W w6 A6 c6 hjv bW oW o6 b6 g6 => by
            refine ⟨j + 1, c6, A6, acc ++ [⟨v, x⟩], B5, cr - k2, r.drop k2, by omega, hjv, rfl, hid (by rw [List.length_append, HAL.out]; rfl), hid (by rw [List.flatMap_append]; exact o6), hid (EO.below HE5.out (HBV.out.trans (bW.trans b6)) hG1), hid (own_grown oW g6 (fun y hy e => by have := HLT.out y hy; have := (HOA5.out.lt y e).1; omega)), hid ?_, hid (gbB (gbT HGW.out HG5.out) (HBV.out.trans (bW.trans b6))), by omega, hid (by rw [List.map_append, HTO.out, HT.out]; rfl)⟩
            rw [HHG.out, HTD.out, show (acc ++ [(⟨v, x⟩ : Hop)]).getLast? = some ⟨v, x⟩ from by simp, ← putH_cons]
            conv => lhs; unfold hopGo
            rw [HSV.out]
            dsimp only
            rw [if_pos ⟨h1, h2⟩]
            rfl
          have HNONE : Hid (¬ (v < n ∧ behindB acc.getLast? ⟨v, x⟩ = true) → hopGo n to none (l.drop k) = none) := hid fun h => by
            rw [HHG.out, HTD.out]
            conv => lhs; unfold hopGo
            rw [HSV.out]
            dsimp only
            rw [if_neg h]; rfl
          have HPAN : Hid (w.grownBy V.drew (some G)) := hid (gbS HB1.out (gbB (gbT HGW.out HG5.out) HBV.out.drew))
          have bV : Hid (∀ o, Below w1.heap.size V (V.alloc o).drew) := hid fun o => ((Below.refl _ V).alloc hs1 o).drew
          have hs2 : w1.heap.size ≤ V.heap.size + 1 := by omega
          by_cases hvn : v < n
          · have hvb : decide (v < n) = true := by simpa using hvn
            rcases Nat.eq_zero_or_pos j with hj0 | hj0
            · have hjb : ((j : Int) == 0) = true := by simp [hj0]
              have HBH : Hid (behindB acc.getLast? ⟨v, x⟩ = true) := hid (by have : acc = [] := List.length_eq_zero_iff.1 (HAL.out.trans hj0); rw [this]; rfl)
              clear hj0
              refine wp_region_F (S := (fun V' => V'.cell? ⟨w5.heap.size, 1, none⟩ = some (.int .i64 x))) [28] (by kernel_rfl) v1 (fun hHeld => ?_)
              refine wpAnyF_pure (i := 0) (v := ?vg6_1_0) rfl (by kernel_rfl) (by kernel_rfl) (by kernel_rfl) (fun _ _ _ h => h) (Or.inl ⟨by rfl, ?hyg6_1_0⟩) ?restg6_1_0
              case hyg6_1_0 => (intro w hSw; clear hSw; go_simp; (all_goals with_reducible rfl))
              try simp only [Act.put, List.setIfInBounds_toArray, List.set_cons_zero, List.set_cons_succ, List.getElem_toArray, List.getElem_cons_succ, List.getElem_cons_zero]
              refine wpAnyF_pure (i := 1) (v := ?vg6_2_1) rfl (by kernel_rfl) (by kernel_rfl) (by kernel_rfl) (fun _ _ _ h => h) (Or.inl ⟨by rfl, ?hyg6_2_1⟩) ?restg6_2_1
              case hyg6_2_1 => (intro w hSw; clear hSw; go_simp; (all_goals with_reducible rfl))
              try simp only [Act.put, List.setIfInBounds_toArray, List.set_cons_zero, List.set_cons_succ, List.getElem_toArray, List.getElem_cons_succ, List.getElem_cons_zero]
              refine wpAnyF_pure (i := 2) (v := ?vg6_3_2) rfl (by kernel_rfl) (by kernel_rfl) (by kernel_rfl) (fun _ _ _ h => h) (Or.inl ⟨by rfl, ?hyg6_3_2⟩) ?restg6_3_2
              case hyg6_3_2 => (intro w hSw; clear hSw; go_simp; (all_goals with_reducible rfl))
              try simp only [Act.put, List.setIfInBounds_toArray, List.set_cons_zero, List.set_cons_succ, List.getElem_toArray, List.getElem_cons_succ, List.getElem_cons_zero]
              refine wpAnyF_pure (i := 3) (v := ?vg6_4_3) rfl (by kernel_rfl) (by kernel_rfl) (by kernel_rfl) (fun _ _ _ h => h) (Or.inl ⟨by rfl, ?hyg6_4_3⟩) ?restg6_4_3
              case hyg6_4_3 => (intro w hSw; clear hSw; go_simp; (all_goals with_reducible rfl))
              try simp only [Act.put, List.setIfInBounds_toArray, List.set_cons_zero, List.set_cons_succ, List.getElem_toArray, List.getElem_cons_succ, List.getElem_cons_zero]
              refine wpAnyF_pure (i := 4) (v := ?vg6_5_4) rfl (by kernel_rfl) (by kernel_rfl) (by kernel_rfl) (fun _ _ _ h => h) (Or.inl ⟨by rfl, ?hyg6_5_4⟩) ?restg6_5_4
              case hyg6_5_4 => (intro w hSw; clear hSw; go_simp; (all_goals with_reducible rfl))
              try simp only [Act.put, List.setIfInBounds_toArray, List.set_cons_zero, List.set_cons_succ, List.getElem_toArray, List.getElem_cons_succ, List.getElem_cons_zero]
              refine wpAnyF_pure (i := 5) (v := ?vg6_6_5) rfl (by kernel_rfl) (by kernel_rfl) (by kernel_rfl) (fun _ _ _ h => h) (Or.inl ⟨by rfl, ?hyg6_6_5⟩) ?restg6_6_5
              case hyg6_6_5 => (intro w hSw; clear hSw; go_simp; (all_goals with_reducible rfl))
              try simp only [Act.put, List.setIfInBounds_toArray, List.set_cons_zero, List.set_cons_succ, List.getElem_toArray, List.getElem_cons_succ, List.getElem_cons_zero]
              refine wpAnyF_pure (i := 6) (v := ?vg6_7_6) rfl (by kernel_rfl) (by kernel_rfl) (by kernel_rfl) (fun _ _ _ h => h) (Or.inl ⟨by rfl, ?hyg6_7_6⟩) ?restg6_7_6
              case hyg6_7_6 => (intro w hSw; clear hSw; go_simp; (all_goals with_reducible rfl))
              try simp only [Act.put, List.setIfInBounds_toArray, List.set_cons_zero, List.set_cons_succ, List.getElem_toArray, List.getElem_cons_succ, List.getElem_cons_zero]
              refine wpAnyF_pure (i := 7) (v := ?vg6_8_7) rfl (by kernel_rfl) (by kernel_rfl) (by kernel_rfl) (fun _ _ _ h => h) (Or.inl ⟨by rfl, ?hyg6_8_7⟩) ?restg6_8_7
              case hyg6_8_7 => (intro w hSw; clear hSw; go_simp; (all_goals with_reducible rfl))
              try simp only [Act.put, List.setIfInBounds_toArray, List.set_cons_zero, List.set_cons_succ, List.getElem_toArray, List.getElem_cons_succ, List.getElem_cons_zero]
              refine wpAnyF_pure (i := 8) (v := undef) rfl (by kernel_rfl) (by kernel_rfl) (by kernel_rfl) (fun _ _ _ h => h) (Or.inr ⟨by rfl, rfl⟩) ?restg6_9_8
              try simp only [Act.put, List.setIfInBounds_toArray, List.set_cons_zero, List.set_cons_succ, List.getElem_toArray, List.getElem_cons_succ, List.getElem_cons_zero]
              refine wpAnyF_pure (i := 9) (v := undef) rfl (by kernel_rfl) (by kernel_rfl) (by kernel_rfl) (fun _ _ _ h => h) (Or.inr ⟨by rfl, rfl⟩) ?restg6_10_9
              try simp only [Act.put, List.setIfInBounds_toArray, List.set_cons_zero, List.set_cons_succ, List.getElem_toArray, List.getElem_cons_succ, List.getElem_cons_zero]
              refine wpAnyF_pure (i := 10) (v := undef) rfl (by kernel_rfl) (by kernel_rfl) (by kernel_rfl) (fun _ _ _ h => h) (Or.inr ⟨by rfl, rfl⟩) ?restg6_11_10
              try simp only [Act.put, List.setIfInBounds_toArray, List.set_cons_zero, List.set_cons_succ, List.getElem_toArray, List.getElem_cons_succ, List.getElem_cons_zero]
              refine wpAnyF_pure (i := 11) (v := undef) rfl (by kernel_rfl) (by kernel_rfl) (by kernel_rfl) (fun _ _ _ h => h) (Or.inr ⟨by rfl, rfl⟩) ?restg6_12_11
              try simp only [Act.put, List.setIfInBounds_toArray, List.set_cons_zero, List.set_cons_succ, List.getElem_toArray, List.getElem_cons_succ, List.getElem_cons_zero]
              refine wpAnyF_pure (i := 12) (v := undef) rfl (by kernel_rfl) (by kernel_rfl) (by kernel_rfl) (fun _ _ _ h => h) (Or.inr ⟨by rfl, rfl⟩) ?restg6_13_12
              try simp only [Act.put, List.setIfInBounds_toArray, List.set_cons_zero, List.set_cons_succ, List.getElem_toArray, List.getElem_cons_succ, List.getElem_cons_zero]
              refine wpAnyF_pure (i := 13) (v := undef) rfl (by kernel_rfl) (by kernel_rfl) (by kernel_rfl) (fun _ _ _ h => h) (Or.inr ⟨by rfl, rfl⟩) ?restg6_14_13
              try simp only [Act.put, List.setIfInBounds_toArray, List.set_cons_zero, List.set_cons_succ, List.getElem_toArray, List.getElem_cons_succ, List.getElem_cons_zero]
              refine wpAnyF_pure (i := 14) (v := undef) rfl (by kernel_rfl) (by kernel_rfl) (by kernel_rfl) (fun _ _ _ h => h) (Or.inr ⟨by rfl, rfl⟩) ?restg6_15_14
              try simp only [Act.put, List.setIfInBounds_toArray, List.set_cons_zero, List.set_cons_succ, List.getElem_toArray, List.getElem_cons_succ, List.getElem_cons_zero]
              refine wpAnyF_pure (i := 15) (v := ?vg6_16_15) rfl (by kernel_rfl) (by kernel_rfl) (by kernel_rfl) (fun _ _ _ h => h) (Or.inl ⟨by rfl, ?hyg6_16_15⟩) ?restg6_16_15
              case hyg6_16_15 => (intro w hSw; clear hSw; go_simp; (all_goals with_reducible rfl))
              try simp only [Act.put, List.setIfInBounds_toArray, List.set_cons_zero, List.set_cons_succ, List.getElem_toArray, List.getElem_cons_succ, List.getElem_cons_zero]
              refine wpAnyF_pure (i := 16) (v := ?vg6_17_16) rfl (by kernel_rfl) (by kernel_rfl) (by kernel_rfl) (fun _ _ _ h => h) (Or.inl ⟨by rfl, ?hyg6_17_16⟩) ?restg6_17_16
              case hyg6_17_16 => (intro w hSw; clear hSw; go_simp; (all_goals with_reducible rfl))
              try simp only [Act.put, List.setIfInBounds_toArray, List.set_cons_zero, List.set_cons_succ, List.getElem_toArray, List.getElem_cons_succ, List.getElem_cons_zero]
              refine wpAnyF_pure (i := 17) (v := undef) rfl (by kernel_rfl) (by kernel_rfl) (by kernel_rfl) (fun _ _ _ h => h) (Or.inr ⟨by rfl, rfl⟩) ?restg6_18_17
              try simp only [Act.put, List.setIfInBounds_toArray, List.set_cons_zero, List.set_cons_succ, List.getElem_toArray, List.getElem_cons_succ, List.getElem_cons_zero]
              refine wpAnyF_pure (i := 18) (v := undef) rfl (by kernel_rfl) (by kernel_rfl) (by kernel_rfl) (fun _ _ _ h => h) (Or.inr ⟨by rfl, rfl⟩) ?restg6_19_18
              try simp only [Act.put, List.setIfInBounds_toArray, List.set_cons_zero, List.set_cons_succ, List.getElem_toArray, List.getElem_cons_succ, List.getElem_cons_zero]
              refine wpAnyF_pure (i := 19) (v := undef) rfl (by kernel_rfl) (by kernel_rfl) (by kernel_rfl) (fun _ _ _ h => h) (Or.inr ⟨by rfl, rfl⟩) ?restg6_20_19
              try simp only [Act.put, List.setIfInBounds_toArray, List.set_cons_zero, List.set_cons_succ, List.getElem_toArray, List.getElem_cons_succ, List.getElem_cons_zero]
              refine wpAnyF_pure (i := 20) (v := undef) rfl (by kernel_rfl) (by kernel_rfl) (by kernel_rfl) (fun _ _ _ h => h) (Or.inr ⟨by rfl, rfl⟩) ?restg6_21_20
              try simp only [Act.put, List.setIfInBounds_toArray, List.set_cons_zero, List.set_cons_succ, List.getElem_toArray, List.getElem_cons_succ, List.getElem_cons_zero]
              refine wpAnyF_pure (i := 21) (v := undef) rfl (by kernel_rfl) (by kernel_rfl) (by kernel_rfl) (fun _ _ _ h => h) (Or.inr ⟨by rfl, rfl⟩) ?restg6_22_21
              try simp only [Act.put, List.setIfInBounds_toArray, List.set_cons_zero, List.set_cons_succ, List.getElem_toArray, List.getElem_cons_succ, List.getElem_cons_zero]
              refine wpAnyF_pure (i := 22) (v := undef) rfl (by kernel_rfl) (by kernel_rfl) (by kernel_rfl) (fun _ _ _ h => h) (Or.inr ⟨by rfl, rfl⟩) ?restg6_23_22
              try simp only [Act.put, List.setIfInBounds_toArray, List.set_cons_zero, List.set_cons_succ, List.getElem_toArray, List.getElem_cons_succ, List.getElem_cons_zero]
              refine wpAnyF_pure (i := 23) (v := undef) rfl (by kernel_rfl) (by kernel_rfl) (by kernel_rfl) (fun _ _ _ h => h) (Or.inr ⟨by rfl, rfl⟩) ?restg6_24_23
              try simp only [Act.put, List.setIfInBounds_toArray, List.set_cons_zero, List.set_cons_succ, List.getElem_toArray, List.getElem_cons_succ, List.getElem_cons_zero]
              refine wpAnyF_pure (i := 24) (v := undef) rfl (by kernel_rfl) (by kernel_rfl) (by kernel_rfl) (fun _ _ _ h => h) (Or.inr ⟨by rfl, rfl⟩) ?restg6_25_24
              try simp only [Act.put, List.setIfInBounds_toArray, List.set_cons_zero, List.set_cons_succ, List.getElem_toArray, List.getElem_cons_succ, List.getElem_cons_zero]
              refine wpAnyF_pure (i := 25) (v := undef) rfl (by kernel_rfl) (by kernel_rfl) (by kernel_rfl) (fun _ _ _ h => h) (Or.inr ⟨by rfl, rfl⟩) ?restg6_26_25
              try simp only [Act.put, List.setIfInBounds_toArray, List.set_cons_zero, List.set_cons_succ, List.getElem_toArray, List.getElem_cons_succ, List.getElem_cons_zero]
              refine wpAnyF_pure (i := 26) (v := ?vg6_27_26) rfl (by kernel_rfl) (by kernel_rfl) (by kernel_rfl) (fun _ _ _ h => h) (Or.inl ⟨by rfl, ?hyg6_27_26⟩) ?restg6_27_26
              case hyg6_27_26 => (intro w hSw; clear hSw; go_simp; (all_goals with_reducible rfl))
              try simp only [Act.put, List.setIfInBounds_toArray, List.set_cons_zero, List.set_cons_succ, List.getElem_toArray, List.getElem_cons_succ, List.getElem_cons_zero]
              refine wpAnyF_pure (i := 27) (v := ?vg6_28_27) rfl (by kernel_rfl) (by kernel_rfl) (by kernel_rfl) (fun _ _ _ h => h) (Or.inl ⟨by rfl, ?hyg6_28_27⟩) ?restg6_28_27
              case hyg6_28_27 => (intro w hSw; clear hSw; go_simp; (all_goals with_reducible rfl))
              try simp only [Act.put, List.setIfInBounds_toArray, List.set_cons_zero, List.set_cons_succ, List.getElem_toArray, List.getElem_cons_succ, List.getElem_cons_zero]
              refine wpAnyF_oneD (i := 28) (by kernel_rfl) (by kernel_rfl) rfl (fun K hK => ?_)
              go_simp
              go_at_call 21
              refine (HW.out _ _).mono ?_
              rintro e w6 ⟨rfl, rfl⟩
              go_wp2_with fail
              refine hK.out _ _ ?_
              clear hK K
              try simp only [Act.put, List.setIfInBounds_toArray, List.set_cons_zero, List.set_cons_succ, List.getElem_toArray, List.getElem_cons_succ, List.getElem_cons_zero]
              refine wpAnyF_done (by kernel_rfl) ?_ _
              go_wp2_with (at_builtin; refine wp_app1 _ rfl rfl el_hops rfl ((HOA5.out.alloc _).drew) rfl ((rd_newAt _ _ _ 2 1 _ (by simp) rfl).drew) (two_oneZ _ _) hn16 (Nat.le_trans hs1 (by simp)) ?_; intro A6 c6 w6 o6 b6 g6)
              go_roundw
              case rel => exact HREL.out hvn HBH.out _ _ _ _ _ (by go_num) (bV.out _) (HOT5.out.alloc _).drew o6 b6 g6
              case measure => simp [intOf]; omega
            · obtain ⟨m, hm⟩ : ∃ m, j = m + 1 := ⟨j - 1, by omega⟩
              have hjb : ((j : Int) == 0) = false := by simp; omega
              have hw1 : IntKind.i64.wrap ((j : Int) - 1) = (m : Int) := by rw [IntWalk.i64_in _ (by omega)]; omega
              have hm1 : (0 : Int) ≤ (m : Int) := by omega
              have hm2 : (m : Int) < (to.length : Int) := by omega
              have hm3 : (m : Int) < (j : Int) := by omega
              obtain ⟨q, hq⟩ : ∃ q, acc[m]? = some q := ⟨_, List.getElem?_eq_getElem (by have := HAL.out; omega)⟩
              have hlast : acc.getLast? = some q := by rw [List.getLast?_eq_getElem?, HAL.out, hm]; exact hq
              have htm : to[m]? = some q.to := by
                have h9 : (acc.map (·.to))[m]? = some q.to := by rw [List.getElem?_map, hq]; rfl
                rw [HTO.out, List.getElem?_take] at h9
                rw [if_pos (by omega)] at h9; exact h9
              obtain ⟨tv, htv⟩ : ∃ tv, tv = q.to := ⟨_, rfl⟩
              obtain ⟨qw, hqw⟩ : ∃ qw, qw = q.wt := ⟨_, rfl⟩
              obtain ⟨bt', ot', hA1, _, e1⟩ := int_cell (rd_own HOT5.out) rfl htm
              injection hA1 with hA1
              injection hA1 with hA1 hA2
              subst hA1 hA2
              obtain ⟨gl, ol, rfl, _, _, e2⟩ := hop_cellZ (rd_own HOA5.out) HAL.out hq
              rw [← htv] at e1
              rw [← hqw] at e2
              have HBI := hid (fun h => show behindB acc.getLast? ⟨v, x⟩ = true by rw [hlast]; unfold behindB; dsimp only; rw [← htv, ← hqw]; exact h)
              have HBJ := hid (fun h => show ¬ (v < n ∧ behindB acc.getLast? ⟨v, x⟩ = true) by rw [hlast]; unfold behindB; dsimp only; rw [← htv, ← hqw]; exact h)
              clear hlast htm htv hqw hq hj0
              have HM := hid hm
              clear hm
              cases hc1 : decide (tv < v) with
              | true =>
                have HBH := hid (HBI.out (by rw [hc1]; rfl))
                refine wp_region_F (S := (fun V' => V'.cell? ⟨bt, ot + m, none⟩ = some (.int .i64 tv) ∧ V'.cell? ⟨w5.heap.size, 1, none⟩ = some (.int .i64 x) ∧ V'.cell? ⟨gl, ol + m * 2 + 1, none⟩ = some (.int .i64 qw))) [28] (by kernel_rfl) ⟨e1, v1, e2⟩ (fun hHeld => ?_)
                refine wpAnyF_pure (i := 0) (v := ?vg7_1_0) rfl (by kernel_rfl) (by kernel_rfl) (by kernel_rfl) (fun _ _ _ h => h) (Or.inl ⟨by rfl, ?hyg7_1_0⟩) ?restg7_1_0
                case hyg7_1_0 => (intro w hSw; clear hSw; go_simp; (all_goals with_reducible rfl))
                try simp only [Act.put, List.setIfInBounds_toArray, List.set_cons_zero, List.set_cons_succ, List.getElem_toArray, List.getElem_cons_succ, List.getElem_cons_zero]
                refine wpAnyF_pure (i := 1) (v := ?vg7_2_1) rfl (by kernel_rfl) (by kernel_rfl) (by kernel_rfl) (fun _ _ _ h => h) (Or.inl ⟨by rfl, ?hyg7_2_1⟩) ?restg7_2_1
                case hyg7_2_1 => (intro w hSw; clear hSw; go_simp; (all_goals with_reducible rfl))
                try simp only [Act.put, List.setIfInBounds_toArray, List.set_cons_zero, List.set_cons_succ, List.getElem_toArray, List.getElem_cons_succ, List.getElem_cons_zero]
                refine wpAnyF_pure (i := 2) (v := ?vg7_3_2) rfl (by kernel_rfl) (by kernel_rfl) (by kernel_rfl) (fun _ _ _ h => h) (Or.inl ⟨by rfl, ?hyg7_3_2⟩) ?restg7_3_2
                case hyg7_3_2 => (intro w hSw; clear hSw; go_simp; (all_goals with_reducible rfl))
                try simp only [Act.put, List.setIfInBounds_toArray, List.set_cons_zero, List.set_cons_succ, List.getElem_toArray, List.getElem_cons_succ, List.getElem_cons_zero]
                refine wpAnyF_pure (i := 3) (v := ?vg7_4_3) rfl (by kernel_rfl) (by kernel_rfl) (by kernel_rfl) (fun _ _ _ h => h) (Or.inl ⟨by rfl, ?hyg7_4_3⟩) ?restg7_4_3
                case hyg7_4_3 => (intro w hSw; clear hSw; go_simp; (all_goals with_reducible rfl))
                try simp only [Act.put, List.setIfInBounds_toArray, List.set_cons_zero, List.set_cons_succ, List.getElem_toArray, List.getElem_cons_succ, List.getElem_cons_zero]
                refine wpAnyF_pure (i := 4) (v := ?vg7_5_4) rfl (by kernel_rfl) (by kernel_rfl) (by kernel_rfl) (fun _ _ _ h => h) (Or.inl ⟨by rfl, ?hyg7_5_4⟩) ?restg7_5_4
                case hyg7_5_4 => (intro w hSw; clear hSw; go_simp; (all_goals with_reducible rfl))
                try simp only [Act.put, List.setIfInBounds_toArray, List.set_cons_zero, List.set_cons_succ, List.getElem_toArray, List.getElem_cons_succ, List.getElem_cons_zero]
                refine wpAnyF_pure (i := 5) (v := ?vg7_6_5) rfl (by kernel_rfl) (by kernel_rfl) (by kernel_rfl) (fun _ _ _ h => h) (Or.inl ⟨by rfl, ?hyg7_6_5⟩) ?restg7_6_5
                case hyg7_6_5 => (intro w hSw; clear hSw; go_simp; (all_goals with_reducible rfl))
                try simp only [Act.put, List.setIfInBounds_toArray, List.set_cons_zero, List.set_cons_succ, List.getElem_toArray, List.getElem_cons_succ, List.getElem_cons_zero]
                refine wpAnyF_pure (i := 6) (v := ?vg7_7_6) rfl (by kernel_rfl) (by kernel_rfl) (by kernel_rfl) (fun _ _ _ h => h) (Or.inl ⟨by rfl, ?hyg7_7_6⟩) ?restg7_7_6
                case hyg7_7_6 => (intro w hSw; clear hSw; go_simp; (all_goals with_reducible rfl))
                try simp only [Act.put, List.setIfInBounds_toArray, List.set_cons_zero, List.set_cons_succ, List.getElem_toArray, List.getElem_cons_succ, List.getElem_cons_zero]
                refine wpAnyF_pure (i := 7) (v := ?vg7_8_7) rfl (by kernel_rfl) (by kernel_rfl) (by kernel_rfl) (fun _ _ _ h => h) (Or.inl ⟨by rfl, ?hyg7_8_7⟩) ?restg7_8_7
                case hyg7_8_7 => (intro w hSw; clear hSw; go_simp; (all_goals with_reducible rfl))
                try simp only [Act.put, List.setIfInBounds_toArray, List.set_cons_zero, List.set_cons_succ, List.getElem_toArray, List.getElem_cons_succ, List.getElem_cons_zero]
                refine wpAnyF_pure (i := 8) (v := ?vg7_9_8) rfl (by kernel_rfl) (by kernel_rfl) (by kernel_rfl) (fun _ _ _ h => h) (Or.inl ⟨by rfl, ?hyg7_9_8⟩) ?restg7_9_8
                case hyg7_9_8 => (intro w hSw; clear hSw; go_simp; (all_goals with_reducible rfl))
                try simp only [Act.put, List.setIfInBounds_toArray, List.set_cons_zero, List.set_cons_succ, List.getElem_toArray, List.getElem_cons_succ, List.getElem_cons_zero]
                refine wpAnyF_pure (i := 9) (v := ?vg7_10_9) rfl (by kernel_rfl) (by kernel_rfl) (by kernel_rfl) (fun _ _ _ h => h) (Or.inl ⟨by rfl, ?hyg7_10_9⟩) ?restg7_10_9
                case hyg7_10_9 => (intro w hSw; clear hSw; go_simp; (all_goals with_reducible rfl))
                try simp only [Act.put, List.setIfInBounds_toArray, List.set_cons_zero, List.set_cons_succ, List.getElem_toArray, List.getElem_cons_succ, List.getElem_cons_zero]
                refine wpAnyF_pure (i := 10) (v := ?vg7_11_10) rfl (by kernel_rfl) (by kernel_rfl) (by kernel_rfl) (fun _ _ _ h => h) (Or.inl ⟨by rfl, ?hyg7_11_10⟩) ?restg7_11_10
                case hyg7_11_10 => (intro w hSw; clear hSw; go_simp; (all_goals with_reducible rfl))
                try simp only [Act.put, List.setIfInBounds_toArray, List.set_cons_zero, List.set_cons_succ, List.getElem_toArray, List.getElem_cons_succ, List.getElem_cons_zero]
                refine wpAnyF_pure (i := 11) (v := ?vg7_12_11) rfl (by kernel_rfl) (by kernel_rfl) (by kernel_rfl) (fun _ _ _ h => h) (Or.inl ⟨by rfl, ?hyg7_12_11⟩) ?restg7_12_11
                case hyg7_12_11 => (intro w hSw; clear hSw; go_simp; (all_goals with_reducible rfl))
                try simp only [Act.put, List.setIfInBounds_toArray, List.set_cons_zero, List.set_cons_succ, List.getElem_toArray, List.getElem_cons_succ, List.getElem_cons_zero]
                refine wpAnyF_pure (i := 13) (v := ?vg7_13_13) rfl (by kernel_rfl) (by kernel_rfl) (by kernel_rfl) (fun _ _ _ h => h) (Or.inl ⟨by rfl, ?hyg7_13_13⟩) ?restg7_13_13
                case hyg7_13_13 => (intro w hSw; clear hSw; go_simp; (all_goals with_reducible rfl))
                try simp only [Act.put, List.setIfInBounds_toArray, List.set_cons_zero, List.set_cons_succ, List.getElem_toArray, List.getElem_cons_succ, List.getElem_cons_zero]
                refine wpAnyF_take [14, 15, 16, 17, 18, 19, 20, 21, 22, 23, 24, 25, 26, 27, 28] (i := 12) (v := ?vg7_14_12) rfl (by kernel_rfl) (by kernel_rfl) (by kernel_rfl) (by kernel_rfl) (fun _ _ _ h => h) (Or.inl ⟨by rfl, ?hyg7_14_12⟩) (by assumption) ?restg7_14_12
                case hyg7_14_12 => (intro w hSw; (try dsimp only at hSw); go_simp; (all_goals with_reducible rfl))
                try simp only [Act.put, List.setIfInBounds_toArray, List.set_cons_zero, List.set_cons_succ, List.getElem_toArray, List.getElem_cons_succ, List.getElem_cons_zero]
                refine wpAnyF_pure (i := 14) (v := ?vg7_15_14) rfl (by kernel_rfl) (by kernel_rfl) (by kernel_rfl) (fun _ _ _ h => h) (Or.inl ⟨by rfl, ?hyg7_15_14⟩) ?restg7_15_14
                case hyg7_15_14 => (intro w hSw; clear hSw; go_simp; (all_goals with_reducible rfl))
                try simp only [Act.put, List.setIfInBounds_toArray, List.set_cons_zero, List.set_cons_succ, List.getElem_toArray, List.getElem_cons_succ, List.getElem_cons_zero]
                refine wpAnyF_pure (i := 15) (v := ?vg7_16_15) rfl (by kernel_rfl) (by kernel_rfl) (by kernel_rfl) (fun _ _ _ h => h) (Or.inl ⟨by rfl, ?hyg7_16_15⟩) ?restg7_16_15
                case hyg7_16_15 => (intro w hSw; clear hSw; go_simp; (all_goals with_reducible rfl))
                try simp only [Act.put, List.setIfInBounds_toArray, List.set_cons_zero, List.set_cons_succ, List.getElem_toArray, List.getElem_cons_succ, List.getElem_cons_zero]
                refine wpAnyF_pure (i := 16) (v := ?vg7_17_16) rfl (by kernel_rfl) (by kernel_rfl) (by kernel_rfl) (fun _ _ _ h => h) (Or.inl ⟨by rfl, ?hyg7_17_16⟩) ?restg7_17_16
                case hyg7_17_16 => (intro w hSw; clear hSw; go_simp; (all_goals with_reducible rfl))
                try simp only [Act.put, List.setIfInBounds_toArray, List.set_cons_zero, List.set_cons_succ, List.getElem_toArray, List.getElem_cons_succ, List.getElem_cons_zero]
                refine wpAnyF_pure (i := 17) (v := undef) rfl (by kernel_rfl) (by kernel_rfl) (by kernel_rfl) (fun _ _ _ h => h) (Or.inr ⟨by rfl, rfl⟩) ?restg7_18_17
                try simp only [Act.put, List.setIfInBounds_toArray, List.set_cons_zero, List.set_cons_succ, List.getElem_toArray, List.getElem_cons_succ, List.getElem_cons_zero]
                refine wpAnyF_pure (i := 18) (v := undef) rfl (by kernel_rfl) (by kernel_rfl) (by kernel_rfl) (fun _ _ _ h => h) (Or.inr ⟨by rfl, rfl⟩) ?restg7_19_18
                try simp only [Act.put, List.setIfInBounds_toArray, List.set_cons_zero, List.set_cons_succ, List.getElem_toArray, List.getElem_cons_succ, List.getElem_cons_zero]
                refine wpAnyF_pure (i := 19) (v := undef) rfl (by kernel_rfl) (by kernel_rfl) (by kernel_rfl) (fun _ _ _ h => h) (Or.inr ⟨by rfl, rfl⟩) ?restg7_20_19
                try simp only [Act.put, List.setIfInBounds_toArray, List.set_cons_zero, List.set_cons_succ, List.getElem_toArray, List.getElem_cons_succ, List.getElem_cons_zero]
                refine wpAnyF_pure (i := 20) (v := undef) rfl (by kernel_rfl) (by kernel_rfl) (by kernel_rfl) (fun _ _ _ h => h) (Or.inr ⟨by rfl, rfl⟩) ?restg7_21_20
                try simp only [Act.put, List.setIfInBounds_toArray, List.set_cons_zero, List.set_cons_succ, List.getElem_toArray, List.getElem_cons_succ, List.getElem_cons_zero]
                refine wpAnyF_pure (i := 21) (v := undef) rfl (by kernel_rfl) (by kernel_rfl) (by kernel_rfl) (fun _ _ _ h => h) (Or.inr ⟨by rfl, rfl⟩) ?restg7_22_21
                try simp only [Act.put, List.setIfInBounds_toArray, List.set_cons_zero, List.set_cons_succ, List.getElem_toArray, List.getElem_cons_succ, List.getElem_cons_zero]
                refine wpAnyF_pure (i := 22) (v := undef) rfl (by kernel_rfl) (by kernel_rfl) (by kernel_rfl) (fun _ _ _ h => h) (Or.inr ⟨by rfl, rfl⟩) ?restg7_23_22
                try simp only [Act.put, List.setIfInBounds_toArray, List.set_cons_zero, List.set_cons_succ, List.getElem_toArray, List.getElem_cons_succ, List.getElem_cons_zero]
                refine wpAnyF_pure (i := 23) (v := undef) rfl (by kernel_rfl) (by kernel_rfl) (by kernel_rfl) (fun _ _ _ h => h) (Or.inr ⟨by rfl, rfl⟩) ?restg7_24_23
                try simp only [Act.put, List.setIfInBounds_toArray, List.set_cons_zero, List.set_cons_succ, List.getElem_toArray, List.getElem_cons_succ, List.getElem_cons_zero]
                refine wpAnyF_pure (i := 24) (v := undef) rfl (by kernel_rfl) (by kernel_rfl) (by kernel_rfl) (fun _ _ _ h => h) (Or.inr ⟨by rfl, rfl⟩) ?restg7_25_24
                try simp only [Act.put, List.setIfInBounds_toArray, List.set_cons_zero, List.set_cons_succ, List.getElem_toArray, List.getElem_cons_succ, List.getElem_cons_zero]
                refine wpAnyF_pure (i := 25) (v := undef) rfl (by kernel_rfl) (by kernel_rfl) (by kernel_rfl) (fun _ _ _ h => h) (Or.inr ⟨by rfl, rfl⟩) ?restg7_26_25
                try simp only [Act.put, List.setIfInBounds_toArray, List.set_cons_zero, List.set_cons_succ, List.getElem_toArray, List.getElem_cons_succ, List.getElem_cons_zero]
                refine wpAnyF_pure (i := 26) (v := ?vg7_27_26) rfl (by kernel_rfl) (by kernel_rfl) (by kernel_rfl) (fun _ _ _ h => h) (Or.inl ⟨by rfl, ?hyg7_27_26⟩) ?restg7_27_26
                case hyg7_27_26 => (intro w hSw; clear hSw; go_simp; (all_goals with_reducible rfl))
                try simp only [Act.put, List.setIfInBounds_toArray, List.set_cons_zero, List.set_cons_succ, List.getElem_toArray, List.getElem_cons_succ, List.getElem_cons_zero]
                refine wpAnyF_pure (i := 27) (v := ?vg7_28_27) rfl (by kernel_rfl) (by kernel_rfl) (by kernel_rfl) (fun _ _ _ h => h) (Or.inl ⟨by rfl, ?hyg7_28_27⟩) ?restg7_28_27
                case hyg7_28_27 => (intro w hSw; clear hSw; go_simp; (all_goals with_reducible rfl))
                try simp only [Act.put, List.setIfInBounds_toArray, List.set_cons_zero, List.set_cons_succ, List.getElem_toArray, List.getElem_cons_succ, List.getElem_cons_zero]
                refine wpAnyF_oneD (i := 28) (by kernel_rfl) (by kernel_rfl) rfl (fun K hK => ?_)
                go_simp
                go_at_call 21
                refine (HW.out _ _).mono ?_
                rintro e w6 ⟨rfl, rfl⟩
                go_wp2_with fail
                refine hK.out _ _ ?_
                clear hK K
                try simp only [Act.put, List.setIfInBounds_toArray, List.set_cons_zero, List.set_cons_succ, List.getElem_toArray, List.getElem_cons_succ, List.getElem_cons_zero]
                refine wpAnyF_done (by kernel_rfl) ?_ _
                go_wp2_with (at_builtin; refine wp_app1 _ rfl rfl el_hops rfl ((HOA5.out.alloc _).drew) rfl ((rd_newAt _ _ _ 2 1 _ (by simp) rfl).drew) (two_oneZ _ _) hn16 (Nat.le_trans hs1 (by simp)) ?_; intro A6 c6 w6 o6 b6 g6)
                go_roundw
                case rel => exact HREL.out hvn HBH.out _ _ _ _ _ (by go_num) (bV.out _) (HOT5.out.alloc _).drew o6 b6 g6
                case measure => simp [intOf]; omega
              | false =>
                cases hc2 : decide (qw ≤ x) with
                | true =>
                  have HBH := hid (HBI.out (by rw [hc1, hc2]; rfl))
                  refine wp_region_F (S := (fun V' => V'.cell? ⟨bt, ot + m, none⟩ = some (.int .i64 tv) ∧ V'.cell? ⟨w5.heap.size, 1, none⟩ = some (.int .i64 x) ∧ V'.cell? ⟨gl, ol + m * 2 + 1, none⟩ = some (.int .i64 qw))) [28] (by kernel_rfl) ⟨e1, v1, e2⟩ (fun hHeld => ?_)
                  refine wpAnyF_pure (i := 0) (v := ?vg8_1_0) rfl (by kernel_rfl) (by kernel_rfl) (by kernel_rfl) (fun _ _ _ h => h) (Or.inl ⟨by rfl, ?hyg8_1_0⟩) ?restg8_1_0
                  case hyg8_1_0 => (intro w hSw; clear hSw; go_simp; (all_goals with_reducible rfl))
                  try simp only [Act.put, List.setIfInBounds_toArray, List.set_cons_zero, List.set_cons_succ, List.getElem_toArray, List.getElem_cons_succ, List.getElem_cons_zero]
                  refine wpAnyF_pure (i := 1) (v := ?vg8_2_1) rfl (by kernel_rfl) (by kernel_rfl) (by kernel_rfl) (fun _ _ _ h => h) (Or.inl ⟨by rfl, ?hyg8_2_1⟩) ?restg8_2_1
                  case hyg8_2_1 => (intro w hSw; clear hSw; go_simp; (all_goals with_reducible rfl))
                  try simp only [Act.put, List.setIfInBounds_toArray, List.set_cons_zero, List.set_cons_succ, List.getElem_toArray, List.getElem_cons_succ, List.getElem_cons_zero]
                  refine wpAnyF_pure (i := 2) (v := ?vg8_3_2) rfl (by kernel_rfl) (by kernel_rfl) (by kernel_rfl) (fun _ _ _ h => h) (Or.inl ⟨by rfl, ?hyg8_3_2⟩) ?restg8_3_2
                  case hyg8_3_2 => (intro w hSw; clear hSw; go_simp; (all_goals with_reducible rfl))
                  try simp only [Act.put, List.setIfInBounds_toArray, List.set_cons_zero, List.set_cons_succ, List.getElem_toArray, List.getElem_cons_succ, List.getElem_cons_zero]
                  refine wpAnyF_pure (i := 3) (v := ?vg8_4_3) rfl (by kernel_rfl) (by kernel_rfl) (by kernel_rfl) (fun _ _ _ h => h) (Or.inl ⟨by rfl, ?hyg8_4_3⟩) ?restg8_4_3
                  case hyg8_4_3 => (intro w hSw; clear hSw; go_simp; (all_goals with_reducible rfl))
                  try simp only [Act.put, List.setIfInBounds_toArray, List.set_cons_zero, List.set_cons_succ, List.getElem_toArray, List.getElem_cons_succ, List.getElem_cons_zero]
                  refine wpAnyF_pure (i := 4) (v := ?vg8_5_4) rfl (by kernel_rfl) (by kernel_rfl) (by kernel_rfl) (fun _ _ _ h => h) (Or.inl ⟨by rfl, ?hyg8_5_4⟩) ?restg8_5_4
                  case hyg8_5_4 => (intro w hSw; clear hSw; go_simp; (all_goals with_reducible rfl))
                  try simp only [Act.put, List.setIfInBounds_toArray, List.set_cons_zero, List.set_cons_succ, List.getElem_toArray, List.getElem_cons_succ, List.getElem_cons_zero]
                  refine wpAnyF_pure (i := 5) (v := ?vg8_6_5) rfl (by kernel_rfl) (by kernel_rfl) (by kernel_rfl) (fun _ _ _ h => h) (Or.inl ⟨by rfl, ?hyg8_6_5⟩) ?restg8_6_5
                  case hyg8_6_5 => (intro w hSw; clear hSw; go_simp; (all_goals with_reducible rfl))
                  try simp only [Act.put, List.setIfInBounds_toArray, List.set_cons_zero, List.set_cons_succ, List.getElem_toArray, List.getElem_cons_succ, List.getElem_cons_zero]
                  refine wpAnyF_pure (i := 6) (v := ?vg8_7_6) rfl (by kernel_rfl) (by kernel_rfl) (by kernel_rfl) (fun _ _ _ h => h) (Or.inl ⟨by rfl, ?hyg8_7_6⟩) ?restg8_7_6
                  case hyg8_7_6 => (intro w hSw; clear hSw; go_simp; (all_goals with_reducible rfl))
                  try simp only [Act.put, List.setIfInBounds_toArray, List.set_cons_zero, List.set_cons_succ, List.getElem_toArray, List.getElem_cons_succ, List.getElem_cons_zero]
                  refine wpAnyF_pure (i := 7) (v := ?vg8_8_7) rfl (by kernel_rfl) (by kernel_rfl) (by kernel_rfl) (fun _ _ _ h => h) (Or.inl ⟨by rfl, ?hyg8_8_7⟩) ?restg8_8_7
                  case hyg8_8_7 => (intro w hSw; clear hSw; go_simp; (all_goals with_reducible rfl))
                  try simp only [Act.put, List.setIfInBounds_toArray, List.set_cons_zero, List.set_cons_succ, List.getElem_toArray, List.getElem_cons_succ, List.getElem_cons_zero]
                  refine wpAnyF_pure (i := 8) (v := ?vg8_9_8) rfl (by kernel_rfl) (by kernel_rfl) (by kernel_rfl) (fun _ _ _ h => h) (Or.inl ⟨by rfl, ?hyg8_9_8⟩) ?restg8_9_8
                  case hyg8_9_8 => (intro w hSw; clear hSw; go_simp; (all_goals with_reducible rfl))
                  try simp only [Act.put, List.setIfInBounds_toArray, List.set_cons_zero, List.set_cons_succ, List.getElem_toArray, List.getElem_cons_succ, List.getElem_cons_zero]
                  refine wpAnyF_pure (i := 9) (v := ?vg8_10_9) rfl (by kernel_rfl) (by kernel_rfl) (by kernel_rfl) (fun _ _ _ h => h) (Or.inl ⟨by rfl, ?hyg8_10_9⟩) ?restg8_10_9
                  case hyg8_10_9 => (intro w hSw; clear hSw; go_simp; (all_goals with_reducible rfl))
                  try simp only [Act.put, List.setIfInBounds_toArray, List.set_cons_zero, List.set_cons_succ, List.getElem_toArray, List.getElem_cons_succ, List.getElem_cons_zero]
                  refine wpAnyF_pure (i := 10) (v := ?vg8_11_10) rfl (by kernel_rfl) (by kernel_rfl) (by kernel_rfl) (fun _ _ _ h => h) (Or.inl ⟨by rfl, ?hyg8_11_10⟩) ?restg8_11_10
                  case hyg8_11_10 => (intro w hSw; clear hSw; go_simp; (all_goals with_reducible rfl))
                  try simp only [Act.put, List.setIfInBounds_toArray, List.set_cons_zero, List.set_cons_succ, List.getElem_toArray, List.getElem_cons_succ, List.getElem_cons_zero]
                  refine wpAnyF_pure (i := 11) (v := ?vg8_12_11) rfl (by kernel_rfl) (by kernel_rfl) (by kernel_rfl) (fun _ _ _ h => h) (Or.inl ⟨by rfl, ?hyg8_12_11⟩) ?restg8_12_11
                  case hyg8_12_11 => (intro w hSw; clear hSw; go_simp; (all_goals with_reducible rfl))
                  try simp only [Act.put, List.setIfInBounds_toArray, List.set_cons_zero, List.set_cons_succ, List.getElem_toArray, List.getElem_cons_succ, List.getElem_cons_zero]
                  refine wpAnyF_pure (i := 13) (v := ?vg8_13_13) rfl (by kernel_rfl) (by kernel_rfl) (by kernel_rfl) (fun _ _ _ h => h) (Or.inl ⟨by rfl, ?hyg8_13_13⟩) ?restg8_13_13
                  case hyg8_13_13 => (intro w hSw; clear hSw; go_simp; (all_goals with_reducible rfl))
                  try simp only [Act.put, List.setIfInBounds_toArray, List.set_cons_zero, List.set_cons_succ, List.getElem_toArray, List.getElem_cons_succ, List.getElem_cons_zero]
                  refine wpAnyF_take [14, 15, 16, 17, 18, 19, 20, 21, 22, 23, 24, 25, 26, 27, 28] (i := 12) (v := ?vg8_14_12) rfl (by kernel_rfl) (by kernel_rfl) (by kernel_rfl) (by kernel_rfl) (fun _ _ _ h => h) (Or.inl ⟨by rfl, ?hyg8_14_12⟩) (by assumption) ?restg8_14_12
                  case hyg8_14_12 => (intro w hSw; (try dsimp only at hSw); go_simp; (all_goals with_reducible rfl))
                  try simp only [Act.put, List.setIfInBounds_toArray, List.set_cons_zero, List.set_cons_succ, List.getElem_toArray, List.getElem_cons_succ, List.getElem_cons_zero]
                  refine wpAnyF_pure (i := 14) (v := ?vg8_15_14) rfl (by kernel_rfl) (by kernel_rfl) (by kernel_rfl) (fun _ _ _ h => h) (Or.inl ⟨by rfl, ?hyg8_15_14⟩) ?restg8_15_14
                  case hyg8_15_14 => (intro w hSw; clear hSw; go_simp; (all_goals with_reducible rfl))
                  try simp only [Act.put, List.setIfInBounds_toArray, List.set_cons_zero, List.set_cons_succ, List.getElem_toArray, List.getElem_cons_succ, List.getElem_cons_zero]
                  refine wpAnyF_pure (i := 15) (v := ?vg8_16_15) rfl (by kernel_rfl) (by kernel_rfl) (by kernel_rfl) (fun _ _ _ h => h) (Or.inl ⟨by rfl, ?hyg8_16_15⟩) ?restg8_16_15
                  case hyg8_16_15 => (intro w hSw; clear hSw; go_simp; (all_goals with_reducible rfl))
                  try simp only [Act.put, List.setIfInBounds_toArray, List.set_cons_zero, List.set_cons_succ, List.getElem_toArray, List.getElem_cons_succ, List.getElem_cons_zero]
                  refine wpAnyF_pure (i := 16) (v := ?vg8_17_16) rfl (by kernel_rfl) (by kernel_rfl) (by kernel_rfl) (fun _ _ _ h => h) (Or.inl ⟨by rfl, ?hyg8_17_16⟩) ?restg8_17_16
                  case hyg8_17_16 => (intro w hSw; clear hSw; go_simp; (all_goals with_reducible rfl))
                  try simp only [Act.put, List.setIfInBounds_toArray, List.set_cons_zero, List.set_cons_succ, List.getElem_toArray, List.getElem_cons_succ, List.getElem_cons_zero]
                  refine wpAnyF_pure (i := 17) (v := ?vg8_18_17) rfl (by kernel_rfl) (by kernel_rfl) (by kernel_rfl) (fun _ _ _ h => h) (Or.inl ⟨by rfl, ?hyg8_18_17⟩) ?restg8_18_17
                  case hyg8_18_17 => (intro w hSw; clear hSw; go_simp; (all_goals with_reducible rfl))
                  try simp only [Act.put, List.setIfInBounds_toArray, List.set_cons_zero, List.set_cons_succ, List.getElem_toArray, List.getElem_cons_succ, List.getElem_cons_zero]
                  refine wpAnyF_pure (i := 18) (v := ?vg8_19_18) rfl (by kernel_rfl) (by kernel_rfl) (by kernel_rfl) (fun _ _ _ h => h) (Or.inl ⟨by rfl, ?hyg8_19_18⟩) ?restg8_19_18
                  case hyg8_19_18 => (intro w hSw; clear hSw; go_simp; (all_goals with_reducible rfl))
                  try simp only [Act.put, List.setIfInBounds_toArray, List.set_cons_zero, List.set_cons_succ, List.getElem_toArray, List.getElem_cons_succ, List.getElem_cons_zero]
                  refine wpAnyF_pure (i := 19) (v := ?vg8_20_19) rfl (by kernel_rfl) (by kernel_rfl) (by kernel_rfl) (fun _ _ _ h => h) (Or.inl ⟨by rfl, ?hyg8_20_19⟩) ?restg8_20_19
                  case hyg8_20_19 => (intro w hSw; clear hSw; go_simp; (all_goals with_reducible rfl))
                  try simp only [Act.put, List.setIfInBounds_toArray, List.set_cons_zero, List.set_cons_succ, List.getElem_toArray, List.getElem_cons_succ, List.getElem_cons_zero]
                  refine wpAnyF_pure (i := 20) (v := ?vg8_21_20) rfl (by kernel_rfl) (by kernel_rfl) (by kernel_rfl) (fun _ _ _ h => h) (Or.inl ⟨by rfl, ?hyg8_21_20⟩) ?restg8_21_20
                  case hyg8_21_20 => (intro w hSw; clear hSw; go_simp; (all_goals with_reducible rfl))
                  try simp only [Act.put, List.setIfInBounds_toArray, List.set_cons_zero, List.set_cons_succ, List.getElem_toArray, List.getElem_cons_succ, List.getElem_cons_zero]
                  refine wpAnyF_pure (i := 21) (v := ?vg8_22_21) rfl (by kernel_rfl) (by kernel_rfl) (by kernel_rfl) (fun _ _ _ h => h) (Or.inl ⟨by rfl, ?hyg8_22_21⟩) ?restg8_22_21
                  case hyg8_22_21 => (intro w hSw; clear hSw; go_simp; (all_goals with_reducible rfl))
                  try simp only [Act.put, List.setIfInBounds_toArray, List.set_cons_zero, List.set_cons_succ, List.getElem_toArray, List.getElem_cons_succ, List.getElem_cons_zero]
                  refine wpAnyF_pure (i := 23) (v := ?vg8_23_23) rfl (by kernel_rfl) (by kernel_rfl) (by kernel_rfl) (fun _ _ _ h => h) (Or.inl ⟨by rfl, ?hyg8_23_23⟩) ?restg8_23_23
                  case hyg8_23_23 => (intro w hSw; clear hSw; go_simp; (all_goals with_reducible rfl))
                  try simp only [Act.put, List.setIfInBounds_toArray, List.set_cons_zero, List.set_cons_succ, List.getElem_toArray, List.getElem_cons_succ, List.getElem_cons_zero]
                  refine wpAnyF_take [25, 26, 27, 28] (i := 22) (v := ?vg8_24_22) rfl (by kernel_rfl) (by kernel_rfl) (by kernel_rfl) (by kernel_rfl) (fun _ _ _ h => h) (Or.inl ⟨by rfl, ?hyg8_24_22⟩) (by assumption) ?restg8_24_22
                  case hyg8_24_22 => (intro w hSw; (try dsimp only at hSw); go_simp; (all_goals with_reducible rfl))
                  try simp only [Act.put, List.setIfInBounds_toArray, List.set_cons_zero, List.set_cons_succ, List.getElem_toArray, List.getElem_cons_succ, List.getElem_cons_zero]
                  refine wpAnyF_take [25, 26, 27, 28] (i := 24) (v := ?vg8_25_24) rfl (by kernel_rfl) (by kernel_rfl) (by kernel_rfl) (by kernel_rfl) (fun _ _ _ h => h) (Or.inl ⟨by rfl, ?hyg8_25_24⟩) (by assumption) ?restg8_25_24
                  case hyg8_25_24 => (intro w hSw; (try dsimp only at hSw); go_simp; (all_goals with_reducible rfl))
                  try simp only [Act.put, List.setIfInBounds_toArray, List.set_cons_zero, List.set_cons_succ, List.getElem_toArray, List.getElem_cons_succ, List.getElem_cons_zero]
                  refine wpAnyF_pure (i := 25) (v := ?vg8_26_25) rfl (by kernel_rfl) (by kernel_rfl) (by kernel_rfl) (fun _ _ _ h => h) (Or.inl ⟨by rfl, ?hyg8_26_25⟩) ?restg8_26_25
                  case hyg8_26_25 => (intro w hSw; clear hSw; go_simp; (all_goals with_reducible rfl))
                  try simp only [Act.put, List.setIfInBounds_toArray, List.set_cons_zero, List.set_cons_succ, List.getElem_toArray, List.getElem_cons_succ, List.getElem_cons_zero]
                  refine wpAnyF_pure (i := 26) (v := ?vg8_27_26) rfl (by kernel_rfl) (by kernel_rfl) (by kernel_rfl) (fun _ _ _ h => h) (Or.inl ⟨by rfl, ?hyg8_27_26⟩) ?restg8_27_26
                  case hyg8_27_26 => (intro w hSw; clear hSw; go_simp; (all_goals with_reducible rfl))
                  try simp only [Act.put, List.setIfInBounds_toArray, List.set_cons_zero, List.set_cons_succ, List.getElem_toArray, List.getElem_cons_succ, List.getElem_cons_zero]
                  refine wpAnyF_pure (i := 27) (v := ?vg8_28_27) rfl (by kernel_rfl) (by kernel_rfl) (by kernel_rfl) (fun _ _ _ h => h) (Or.inl ⟨by rfl, ?hyg8_28_27⟩) ?restg8_28_27
                  case hyg8_28_27 => (intro w hSw; clear hSw; go_simp; (all_goals with_reducible rfl))
                  try simp only [Act.put, List.setIfInBounds_toArray, List.set_cons_zero, List.set_cons_succ, List.getElem_toArray, List.getElem_cons_succ, List.getElem_cons_zero]
                  refine wpAnyF_oneD (i := 28) (by kernel_rfl) (by kernel_rfl) rfl (fun K hK => ?_)
                  go_simp
                  go_at_call 21
                  refine (HW.out _ _).mono ?_
                  rintro e w6 ⟨rfl, rfl⟩
                  go_wp2_with fail
                  refine hK.out _ _ ?_
                  clear hK K
                  try simp only [Act.put, List.setIfInBounds_toArray, List.set_cons_zero, List.set_cons_succ, List.getElem_toArray, List.getElem_cons_succ, List.getElem_cons_zero]
                  refine wpAnyF_done (by kernel_rfl) ?_ _
                  go_wp2_with (at_builtin; refine wp_app1 _ rfl rfl el_hops rfl ((HOA5.out.alloc _).drew) rfl ((rd_newAt _ _ _ 2 1 _ (by simp) rfl).drew) (two_oneZ _ _) hn16 (Nat.le_trans hs1 (by simp)) ?_; intro A6 c6 w6 o6 b6 g6)
                  go_roundw
                  case rel => exact HREL.out hvn HBH.out _ _ _ _ _ (by go_num) (bV.out _) (HOT5.out.alloc _).drew o6 b6 g6
                  case measure => simp [intOf]; omega
                | false =>
                  have HBAD := hid (HBJ.out (fun h => by have h2 := h.2; rw [hc1, hc2] at h2; cases h2))
                  refine wp_region_F (S := (fun V' => V'.cell? ⟨bt, ot + m, none⟩ = some (.int .i64 tv) ∧ V'.cell? ⟨w5.heap.size, 1, none⟩ = some (.int .i64 x) ∧ V'.cell? ⟨gl, ol + m * 2 + 1, none⟩ = some (.int .i64 qw))) [28] (by kernel_rfl) ⟨e1, v1, e2⟩ (fun hHeld => ?_)
                  refine wpAnyF_pure (i := 0) (v := ?vg9_1_0) rfl (by kernel_rfl) (by kernel_rfl) (by kernel_rfl) (fun _ _ _ h => h) (Or.inl ⟨by rfl, ?hyg9_1_0⟩) ?restg9_1_0
                  case hyg9_1_0 => (intro w hSw; clear hSw; go_simp; (all_goals with_reducible rfl))
                  try simp only [Act.put, List.setIfInBounds_toArray, List.set_cons_zero, List.set_cons_succ, List.getElem_toArray, List.getElem_cons_succ, List.getElem_cons_zero]
                  refine wpAnyF_pure (i := 1) (v := ?vg9_2_1) rfl (by kernel_rfl) (by kernel_rfl) (by kernel_rfl) (fun _ _ _ h => h) (Or.inl ⟨by rfl, ?hyg9_2_1⟩) ?restg9_2_1
                  case hyg9_2_1 => (intro w hSw; clear hSw; go_simp; (all_goals with_reducible rfl))
                  try simp only [Act.put, List.setIfInBounds_toArray, List.set_cons_zero, List.set_cons_succ, List.getElem_toArray, List.getElem_cons_succ, List.getElem_cons_zero]
                  refine wpAnyF_pure (i := 2) (v := ?vg9_3_2) rfl (by kernel_rfl) (by kernel_rfl) (by kernel_rfl) (fun _ _ _ h => h) (Or.inl ⟨by rfl, ?hyg9_3_2⟩) ?restg9_3_2
                  case hyg9_3_2 => (intro w hSw; clear hSw; go_simp; (all_goals with_reducible rfl))
                  try simp only [Act.put, List.setIfInBounds_toArray, List.set_cons_zero, List.set_cons_succ, List.getElem_toArray, List.getElem_cons_succ, List.getElem_cons_zero]
                  refine wpAnyF_pure (i := 3) (v := ?vg9_4_3) rfl (by kernel_rfl) (by kernel_rfl) (by kernel_rfl) (fun _ _ _ h => h) (Or.inl ⟨by rfl, ?hyg9_4_3⟩) ?restg9_4_3
                  case hyg9_4_3 => (intro w hSw; clear hSw; go_simp; (all_goals with_reducible rfl))
                  try simp only [Act.put, List.setIfInBounds_toArray, List.set_cons_zero, List.set_cons_succ, List.getElem_toArray, List.getElem_cons_succ, List.getElem_cons_zero]
                  refine wpAnyF_pure (i := 4) (v := ?vg9_5_4) rfl (by kernel_rfl) (by kernel_rfl) (by kernel_rfl) (fun _ _ _ h => h) (Or.inl ⟨by rfl, ?hyg9_5_4⟩) ?restg9_5_4
                  case hyg9_5_4 => (intro w hSw; clear hSw; go_simp; (all_goals with_reducible rfl))
                  try simp only [Act.put, List.setIfInBounds_toArray, List.set_cons_zero, List.set_cons_succ, List.getElem_toArray, List.getElem_cons_succ, List.getElem_cons_zero]
                  refine wpAnyF_pure (i := 5) (v := ?vg9_6_5) rfl (by kernel_rfl) (by kernel_rfl) (by kernel_rfl) (fun _ _ _ h => h) (Or.inl ⟨by rfl, ?hyg9_6_5⟩) ?restg9_6_5
                  case hyg9_6_5 => (intro w hSw; clear hSw; go_simp; (all_goals with_reducible rfl))
                  try simp only [Act.put, List.setIfInBounds_toArray, List.set_cons_zero, List.set_cons_succ, List.getElem_toArray, List.getElem_cons_succ, List.getElem_cons_zero]
                  refine wpAnyF_pure (i := 6) (v := ?vg9_7_6) rfl (by kernel_rfl) (by kernel_rfl) (by kernel_rfl) (fun _ _ _ h => h) (Or.inl ⟨by rfl, ?hyg9_7_6⟩) ?restg9_7_6
                  case hyg9_7_6 => (intro w hSw; clear hSw; go_simp; (all_goals with_reducible rfl))
                  try simp only [Act.put, List.setIfInBounds_toArray, List.set_cons_zero, List.set_cons_succ, List.getElem_toArray, List.getElem_cons_succ, List.getElem_cons_zero]
                  refine wpAnyF_pure (i := 7) (v := ?vg9_8_7) rfl (by kernel_rfl) (by kernel_rfl) (by kernel_rfl) (fun _ _ _ h => h) (Or.inl ⟨by rfl, ?hyg9_8_7⟩) ?restg9_8_7
                  case hyg9_8_7 => (intro w hSw; clear hSw; go_simp; (all_goals with_reducible rfl))
                  try simp only [Act.put, List.setIfInBounds_toArray, List.set_cons_zero, List.set_cons_succ, List.getElem_toArray, List.getElem_cons_succ, List.getElem_cons_zero]
                  refine wpAnyF_pure (i := 8) (v := ?vg9_9_8) rfl (by kernel_rfl) (by kernel_rfl) (by kernel_rfl) (fun _ _ _ h => h) (Or.inl ⟨by rfl, ?hyg9_9_8⟩) ?restg9_9_8
                  case hyg9_9_8 => (intro w hSw; clear hSw; go_simp; (all_goals with_reducible rfl))
                  try simp only [Act.put, List.setIfInBounds_toArray, List.set_cons_zero, List.set_cons_succ, List.getElem_toArray, List.getElem_cons_succ, List.getElem_cons_zero]
                  refine wpAnyF_pure (i := 9) (v := ?vg9_10_9) rfl (by kernel_rfl) (by kernel_rfl) (by kernel_rfl) (fun _ _ _ h => h) (Or.inl ⟨by rfl, ?hyg9_10_9⟩) ?restg9_10_9
                  case hyg9_10_9 => (intro w hSw; clear hSw; go_simp; (all_goals with_reducible rfl))
                  try simp only [Act.put, List.setIfInBounds_toArray, List.set_cons_zero, List.set_cons_succ, List.getElem_toArray, List.getElem_cons_succ, List.getElem_cons_zero]
                  refine wpAnyF_pure (i := 10) (v := ?vg9_11_10) rfl (by kernel_rfl) (by kernel_rfl) (by kernel_rfl) (fun _ _ _ h => h) (Or.inl ⟨by rfl, ?hyg9_11_10⟩) ?restg9_11_10
                  case hyg9_11_10 => (intro w hSw; clear hSw; go_simp; (all_goals with_reducible rfl))
                  try simp only [Act.put, List.setIfInBounds_toArray, List.set_cons_zero, List.set_cons_succ, List.getElem_toArray, List.getElem_cons_succ, List.getElem_cons_zero]
                  refine wpAnyF_pure (i := 11) (v := ?vg9_12_11) rfl (by kernel_rfl) (by kernel_rfl) (by kernel_rfl) (fun _ _ _ h => h) (Or.inl ⟨by rfl, ?hyg9_12_11⟩) ?restg9_12_11
                  case hyg9_12_11 => (intro w hSw; clear hSw; go_simp; (all_goals with_reducible rfl))
                  try simp only [Act.put, List.setIfInBounds_toArray, List.set_cons_zero, List.set_cons_succ, List.getElem_toArray, List.getElem_cons_succ, List.getElem_cons_zero]
                  refine wpAnyF_pure (i := 13) (v := ?vg9_13_13) rfl (by kernel_rfl) (by kernel_rfl) (by kernel_rfl) (fun _ _ _ h => h) (Or.inl ⟨by rfl, ?hyg9_13_13⟩) ?restg9_13_13
                  case hyg9_13_13 => (intro w hSw; clear hSw; go_simp; (all_goals with_reducible rfl))
                  try simp only [Act.put, List.setIfInBounds_toArray, List.set_cons_zero, List.set_cons_succ, List.getElem_toArray, List.getElem_cons_succ, List.getElem_cons_zero]
                  refine wpAnyF_take [14, 15, 16, 17, 18, 19, 20, 21, 22, 23, 24, 25, 26, 27, 28] (i := 12) (v := ?vg9_14_12) rfl (by kernel_rfl) (by kernel_rfl) (by kernel_rfl) (by kernel_rfl) (fun _ _ _ h => h) (Or.inl ⟨by rfl, ?hyg9_14_12⟩) (by assumption) ?restg9_14_12
                  case hyg9_14_12 => (intro w hSw; (try dsimp only at hSw); go_simp; (all_goals with_reducible rfl))
                  try simp only [Act.put, List.setIfInBounds_toArray, List.set_cons_zero, List.set_cons_succ, List.getElem_toArray, List.getElem_cons_succ, List.getElem_cons_zero]
                  refine wpAnyF_pure (i := 14) (v := ?vg9_15_14) rfl (by kernel_rfl) (by kernel_rfl) (by kernel_rfl) (fun _ _ _ h => h) (Or.inl ⟨by rfl, ?hyg9_15_14⟩) ?restg9_15_14
                  case hyg9_15_14 => (intro w hSw; clear hSw; go_simp; (all_goals with_reducible rfl))
                  try simp only [Act.put, List.setIfInBounds_toArray, List.set_cons_zero, List.set_cons_succ, List.getElem_toArray, List.getElem_cons_succ, List.getElem_cons_zero]
                  refine wpAnyF_pure (i := 15) (v := ?vg9_16_15) rfl (by kernel_rfl) (by kernel_rfl) (by kernel_rfl) (fun _ _ _ h => h) (Or.inl ⟨by rfl, ?hyg9_16_15⟩) ?restg9_16_15
                  case hyg9_16_15 => (intro w hSw; clear hSw; go_simp; (all_goals with_reducible rfl))
                  try simp only [Act.put, List.setIfInBounds_toArray, List.set_cons_zero, List.set_cons_succ, List.getElem_toArray, List.getElem_cons_succ, List.getElem_cons_zero]
                  refine wpAnyF_pure (i := 16) (v := ?vg9_17_16) rfl (by kernel_rfl) (by kernel_rfl) (by kernel_rfl) (fun _ _ _ h => h) (Or.inl ⟨by rfl, ?hyg9_17_16⟩) ?restg9_17_16
                  case hyg9_17_16 => (intro w hSw; clear hSw; go_simp; (all_goals with_reducible rfl))
                  try simp only [Act.put, List.setIfInBounds_toArray, List.set_cons_zero, List.set_cons_succ, List.getElem_toArray, List.getElem_cons_succ, List.getElem_cons_zero]
                  refine wpAnyF_pure (i := 17) (v := ?vg9_18_17) rfl (by kernel_rfl) (by kernel_rfl) (by kernel_rfl) (fun _ _ _ h => h) (Or.inl ⟨by rfl, ?hyg9_18_17⟩) ?restg9_18_17
                  case hyg9_18_17 => (intro w hSw; clear hSw; go_simp; (all_goals with_reducible rfl))
                  try simp only [Act.put, List.setIfInBounds_toArray, List.set_cons_zero, List.set_cons_succ, List.getElem_toArray, List.getElem_cons_succ, List.getElem_cons_zero]
                  refine wpAnyF_pure (i := 18) (v := ?vg9_19_18) rfl (by kernel_rfl) (by kernel_rfl) (by kernel_rfl) (fun _ _ _ h => h) (Or.inl ⟨by rfl, ?hyg9_19_18⟩) ?restg9_19_18
                  case hyg9_19_18 => (intro w hSw; clear hSw; go_simp; (all_goals with_reducible rfl))
                  try simp only [Act.put, List.setIfInBounds_toArray, List.set_cons_zero, List.set_cons_succ, List.getElem_toArray, List.getElem_cons_succ, List.getElem_cons_zero]
                  refine wpAnyF_pure (i := 19) (v := ?vg9_20_19) rfl (by kernel_rfl) (by kernel_rfl) (by kernel_rfl) (fun _ _ _ h => h) (Or.inl ⟨by rfl, ?hyg9_20_19⟩) ?restg9_20_19
                  case hyg9_20_19 => (intro w hSw; clear hSw; go_simp; (all_goals with_reducible rfl))
                  try simp only [Act.put, List.setIfInBounds_toArray, List.set_cons_zero, List.set_cons_succ, List.getElem_toArray, List.getElem_cons_succ, List.getElem_cons_zero]
                  refine wpAnyF_pure (i := 20) (v := ?vg9_21_20) rfl (by kernel_rfl) (by kernel_rfl) (by kernel_rfl) (fun _ _ _ h => h) (Or.inl ⟨by rfl, ?hyg9_21_20⟩) ?restg9_21_20
                  case hyg9_21_20 => (intro w hSw; clear hSw; go_simp; (all_goals with_reducible rfl))
                  try simp only [Act.put, List.setIfInBounds_toArray, List.set_cons_zero, List.set_cons_succ, List.getElem_toArray, List.getElem_cons_succ, List.getElem_cons_zero]
                  refine wpAnyF_pure (i := 21) (v := ?vg9_22_21) rfl (by kernel_rfl) (by kernel_rfl) (by kernel_rfl) (fun _ _ _ h => h) (Or.inl ⟨by rfl, ?hyg9_22_21⟩) ?restg9_22_21
                  case hyg9_22_21 => (intro w hSw; clear hSw; go_simp; (all_goals with_reducible rfl))
                  try simp only [Act.put, List.setIfInBounds_toArray, List.set_cons_zero, List.set_cons_succ, List.getElem_toArray, List.getElem_cons_succ, List.getElem_cons_zero]
                  refine wpAnyF_pure (i := 23) (v := ?vg9_23_23) rfl (by kernel_rfl) (by kernel_rfl) (by kernel_rfl) (fun _ _ _ h => h) (Or.inl ⟨by rfl, ?hyg9_23_23⟩) ?restg9_23_23
                  case hyg9_23_23 => (intro w hSw; clear hSw; go_simp; (all_goals with_reducible rfl))
                  try simp only [Act.put, List.setIfInBounds_toArray, List.set_cons_zero, List.set_cons_succ, List.getElem_toArray, List.getElem_cons_succ, List.getElem_cons_zero]
                  refine wpAnyF_take [25, 26, 27, 28] (i := 22) (v := ?vg9_24_22) rfl (by kernel_rfl) (by kernel_rfl) (by kernel_rfl) (by kernel_rfl) (fun _ _ _ h => h) (Or.inl ⟨by rfl, ?hyg9_24_22⟩) (by assumption) ?restg9_24_22
                  case hyg9_24_22 => (intro w hSw; (try dsimp only at hSw); go_simp; (all_goals with_reducible rfl))
                  try simp only [Act.put, List.setIfInBounds_toArray, List.set_cons_zero, List.set_cons_succ, List.getElem_toArray, List.getElem_cons_succ, List.getElem_cons_zero]
                  refine wpAnyF_take [25, 26, 27, 28] (i := 24) (v := ?vg9_25_24) rfl (by kernel_rfl) (by kernel_rfl) (by kernel_rfl) (by kernel_rfl) (fun _ _ _ h => h) (Or.inl ⟨by rfl, ?hyg9_25_24⟩) (by assumption) ?restg9_25_24
                  case hyg9_25_24 => (intro w hSw; (try dsimp only at hSw); go_simp; (all_goals with_reducible rfl))
                  try simp only [Act.put, List.setIfInBounds_toArray, List.set_cons_zero, List.set_cons_succ, List.getElem_toArray, List.getElem_cons_succ, List.getElem_cons_zero]
                  refine wpAnyF_pure (i := 25) (v := ?vg9_26_25) rfl (by kernel_rfl) (by kernel_rfl) (by kernel_rfl) (fun _ _ _ h => h) (Or.inl ⟨by rfl, ?hyg9_26_25⟩) ?restg9_26_25
                  case hyg9_26_25 => (intro w hSw; clear hSw; go_simp; (all_goals with_reducible rfl))
                  try simp only [Act.put, List.setIfInBounds_toArray, List.set_cons_zero, List.set_cons_succ, List.getElem_toArray, List.getElem_cons_succ, List.getElem_cons_zero]
                  refine wpAnyF_pure (i := 26) (v := ?vg9_27_26) rfl (by kernel_rfl) (by kernel_rfl) (by kernel_rfl) (fun _ _ _ h => h) (Or.inl ⟨by rfl, ?hyg9_27_26⟩) ?restg9_27_26
                  case hyg9_27_26 => (intro w hSw; clear hSw; go_simp; (all_goals with_reducible rfl))
                  try simp only [Act.put, List.setIfInBounds_toArray, List.set_cons_zero, List.set_cons_succ, List.getElem_toArray, List.getElem_cons_succ, List.getElem_cons_zero]
                  refine wpAnyF_pure (i := 27) (v := ?vg9_28_27) rfl (by kernel_rfl) (by kernel_rfl) (by kernel_rfl) (fun _ _ _ h => h) (Or.inl ⟨by rfl, ?hyg9_28_27⟩) ?restg9_28_27
                  case hyg9_28_27 => (intro w hSw; clear hSw; go_simp; (all_goals with_reducible rfl))
                  try simp only [Act.put, List.setIfInBounds_toArray, List.set_cons_zero, List.set_cons_succ, List.getElem_toArray, List.getElem_cons_succ, List.getElem_cons_zero]
                  refine wpAnyF_oneD (i := 28) (by kernel_rfl) (by kernel_rfl) rfl (fun K hK => ?_)
                  go_simp
                  go_at_call 21
                  refine (HNO.out _ _).mono ?_
                  rintro e w6 ⟨rfl, rfl⟩
                  go_wp2_with fail
                  refine ⟨rfl, ?_⟩
                  rw [HNONE.out HBAD.out]
                  exact ⟨rfl, HPAN.out⟩
          · have hvb : decide (v < n) = false := by simpa using hvn
            have HBAD : Hid (¬ (v < n ∧ behindB acc.getLast? ⟨v, x⟩ = true)) := hid fun h => hvn h.1
            refine wp_region_F (S := (fun V' => V'.cell? ⟨w5.heap.size, 1, none⟩ = some (.int .i64 x))) [28] (by kernel_rfl) v1 (fun hHeld => ?_)
            refine wpAnyF_pure (i := 0) (v := ?vg10_1_0) rfl (by kernel_rfl) (by kernel_rfl) (by kernel_rfl) (fun _ _ _ h => h) (Or.inl ⟨by rfl, ?hyg10_1_0⟩) ?restg10_1_0
            case hyg10_1_0 => (intro w hSw; clear hSw; go_simp; (all_goals with_reducible rfl))
            try simp only [Act.put, List.setIfInBounds_toArray, List.set_cons_zero, List.set_cons_succ, List.getElem_toArray, List.getElem_cons_succ, List.getElem_cons_zero]
            refine wpAnyF_pure (i := 1) (v := ?vg10_2_1) rfl (by kernel_rfl) (by kernel_rfl) (by kernel_rfl) (fun _ _ _ h => h) (Or.inl ⟨by rfl, ?hyg10_2_1⟩) ?restg10_2_1
            case hyg10_2_1 => (intro w hSw; clear hSw; go_simp; (all_goals with_reducible rfl))
            try simp only [Act.put, List.setIfInBounds_toArray, List.set_cons_zero, List.set_cons_succ, List.getElem_toArray, List.getElem_cons_succ, List.getElem_cons_zero]
            refine wpAnyF_pure (i := 2) (v := ?vg10_3_2) rfl (by kernel_rfl) (by kernel_rfl) (by kernel_rfl) (fun _ _ _ h => h) (Or.inl ⟨by rfl, ?hyg10_3_2⟩) ?restg10_3_2
            case hyg10_3_2 => (intro w hSw; clear hSw; go_simp; (all_goals with_reducible rfl))
            try simp only [Act.put, List.setIfInBounds_toArray, List.set_cons_zero, List.set_cons_succ, List.getElem_toArray, List.getElem_cons_succ, List.getElem_cons_zero]
            refine wpAnyF_pure (i := 3) (v := ?vg10_4_3) rfl (by kernel_rfl) (by kernel_rfl) (by kernel_rfl) (fun _ _ _ h => h) (Or.inl ⟨by rfl, ?hyg10_4_3⟩) ?restg10_4_3
            case hyg10_4_3 => (intro w hSw; clear hSw; go_simp; (all_goals with_reducible rfl))
            try simp only [Act.put, List.setIfInBounds_toArray, List.set_cons_zero, List.set_cons_succ, List.getElem_toArray, List.getElem_cons_succ, List.getElem_cons_zero]
            refine wpAnyF_pure (i := 4) (v := ?vg10_5_4) rfl (by kernel_rfl) (by kernel_rfl) (by kernel_rfl) (fun _ _ _ h => h) (Or.inl ⟨by rfl, ?hyg10_5_4⟩) ?restg10_5_4
            case hyg10_5_4 => (intro w hSw; clear hSw; go_simp; (all_goals with_reducible rfl))
            try simp only [Act.put, List.setIfInBounds_toArray, List.set_cons_zero, List.set_cons_succ, List.getElem_toArray, List.getElem_cons_succ, List.getElem_cons_zero]
            refine wpAnyF_pure (i := 5) (v := undef) rfl (by kernel_rfl) (by kernel_rfl) (by kernel_rfl) (fun _ _ _ h => h) (Or.inr ⟨by rfl, rfl⟩) ?restg10_6_5
            try simp only [Act.put, List.setIfInBounds_toArray, List.set_cons_zero, List.set_cons_succ, List.getElem_toArray, List.getElem_cons_succ, List.getElem_cons_zero]
            refine wpAnyF_pure (i := 6) (v := undef) rfl (by kernel_rfl) (by kernel_rfl) (by kernel_rfl) (fun _ _ _ h => h) (Or.inr ⟨by rfl, rfl⟩) ?restg10_7_6
            try simp only [Act.put, List.setIfInBounds_toArray, List.set_cons_zero, List.set_cons_succ, List.getElem_toArray, List.getElem_cons_succ, List.getElem_cons_zero]
            refine wpAnyF_pure (i := 7) (v := undef) rfl (by kernel_rfl) (by kernel_rfl) (by kernel_rfl) (fun _ _ _ h => h) (Or.inr ⟨by rfl, rfl⟩) ?restg10_8_7
            try simp only [Act.put, List.setIfInBounds_toArray, List.set_cons_zero, List.set_cons_succ, List.getElem_toArray, List.getElem_cons_succ, List.getElem_cons_zero]
            refine wpAnyF_pure (i := 8) (v := undef) rfl (by kernel_rfl) (by kernel_rfl) (by kernel_rfl) (fun _ _ _ h => h) (Or.inr ⟨by rfl, rfl⟩) ?restg10_9_8
            try simp only [Act.put, List.setIfInBounds_toArray, List.set_cons_zero, List.set_cons_succ, List.getElem_toArray, List.getElem_cons_succ, List.getElem_cons_zero]
            refine wpAnyF_pure (i := 9) (v := undef) rfl (by kernel_rfl) (by kernel_rfl) (by kernel_rfl) (fun _ _ _ h => h) (Or.inr ⟨by rfl, rfl⟩) ?restg10_10_9
            try simp only [Act.put, List.setIfInBounds_toArray, List.set_cons_zero, List.set_cons_succ, List.getElem_toArray, List.getElem_cons_succ, List.getElem_cons_zero]
            refine wpAnyF_pure (i := 10) (v := undef) rfl (by kernel_rfl) (by kernel_rfl) (by kernel_rfl) (fun _ _ _ h => h) (Or.inr ⟨by rfl, rfl⟩) ?restg10_11_10
            try simp only [Act.put, List.setIfInBounds_toArray, List.set_cons_zero, List.set_cons_succ, List.getElem_toArray, List.getElem_cons_succ, List.getElem_cons_zero]
            refine wpAnyF_pure (i := 11) (v := undef) rfl (by kernel_rfl) (by kernel_rfl) (by kernel_rfl) (fun _ _ _ h => h) (Or.inr ⟨by rfl, rfl⟩) ?restg10_12_11
            try simp only [Act.put, List.setIfInBounds_toArray, List.set_cons_zero, List.set_cons_succ, List.getElem_toArray, List.getElem_cons_succ, List.getElem_cons_zero]
            refine wpAnyF_pure (i := 12) (v := undef) rfl (by kernel_rfl) (by kernel_rfl) (by kernel_rfl) (fun _ _ _ h => h) (Or.inr ⟨by rfl, rfl⟩) ?restg10_13_12
            try simp only [Act.put, List.setIfInBounds_toArray, List.set_cons_zero, List.set_cons_succ, List.getElem_toArray, List.getElem_cons_succ, List.getElem_cons_zero]
            refine wpAnyF_pure (i := 13) (v := undef) rfl (by kernel_rfl) (by kernel_rfl) (by kernel_rfl) (fun _ _ _ h => h) (Or.inr ⟨by rfl, rfl⟩) ?restg10_14_13
            try simp only [Act.put, List.setIfInBounds_toArray, List.set_cons_zero, List.set_cons_succ, List.getElem_toArray, List.getElem_cons_succ, List.getElem_cons_zero]
            refine wpAnyF_pure (i := 14) (v := undef) rfl (by kernel_rfl) (by kernel_rfl) (by kernel_rfl) (fun _ _ _ h => h) (Or.inr ⟨by rfl, rfl⟩) ?restg10_15_14
            try simp only [Act.put, List.setIfInBounds_toArray, List.set_cons_zero, List.set_cons_succ, List.getElem_toArray, List.getElem_cons_succ, List.getElem_cons_zero]
            refine wpAnyF_pure (i := 15) (v := undef) rfl (by kernel_rfl) (by kernel_rfl) (by kernel_rfl) (fun _ _ _ h => h) (Or.inr ⟨by rfl, rfl⟩) ?restg10_16_15
            try simp only [Act.put, List.setIfInBounds_toArray, List.set_cons_zero, List.set_cons_succ, List.getElem_toArray, List.getElem_cons_succ, List.getElem_cons_zero]
            refine wpAnyF_pure (i := 16) (v := undef) rfl (by kernel_rfl) (by kernel_rfl) (by kernel_rfl) (fun _ _ _ h => h) (Or.inr ⟨by rfl, rfl⟩) ?restg10_17_16
            try simp only [Act.put, List.setIfInBounds_toArray, List.set_cons_zero, List.set_cons_succ, List.getElem_toArray, List.getElem_cons_succ, List.getElem_cons_zero]
            refine wpAnyF_pure (i := 17) (v := undef) rfl (by kernel_rfl) (by kernel_rfl) (by kernel_rfl) (fun _ _ _ h => h) (Or.inr ⟨by rfl, rfl⟩) ?restg10_18_17
            try simp only [Act.put, List.setIfInBounds_toArray, List.set_cons_zero, List.set_cons_succ, List.getElem_toArray, List.getElem_cons_succ, List.getElem_cons_zero]
            refine wpAnyF_pure (i := 18) (v := undef) rfl (by kernel_rfl) (by kernel_rfl) (by kernel_rfl) (fun _ _ _ h => h) (Or.inr ⟨by rfl, rfl⟩) ?restg10_19_18
            try simp only [Act.put, List.setIfInBounds_toArray, List.set_cons_zero, List.set_cons_succ, List.getElem_toArray, List.getElem_cons_succ, List.getElem_cons_zero]
            refine wpAnyF_pure (i := 19) (v := undef) rfl (by kernel_rfl) (by kernel_rfl) (by kernel_rfl) (fun _ _ _ h => h) (Or.inr ⟨by rfl, rfl⟩) ?restg10_20_19
            try simp only [Act.put, List.setIfInBounds_toArray, List.set_cons_zero, List.set_cons_succ, List.getElem_toArray, List.getElem_cons_succ, List.getElem_cons_zero]
            refine wpAnyF_pure (i := 20) (v := undef) rfl (by kernel_rfl) (by kernel_rfl) (by kernel_rfl) (fun _ _ _ h => h) (Or.inr ⟨by rfl, rfl⟩) ?restg10_21_20
            try simp only [Act.put, List.setIfInBounds_toArray, List.set_cons_zero, List.set_cons_succ, List.getElem_toArray, List.getElem_cons_succ, List.getElem_cons_zero]
            refine wpAnyF_pure (i := 21) (v := undef) rfl (by kernel_rfl) (by kernel_rfl) (by kernel_rfl) (fun _ _ _ h => h) (Or.inr ⟨by rfl, rfl⟩) ?restg10_22_21
            try simp only [Act.put, List.setIfInBounds_toArray, List.set_cons_zero, List.set_cons_succ, List.getElem_toArray, List.getElem_cons_succ, List.getElem_cons_zero]
            refine wpAnyF_pure (i := 22) (v := undef) rfl (by kernel_rfl) (by kernel_rfl) (by kernel_rfl) (fun _ _ _ h => h) (Or.inr ⟨by rfl, rfl⟩) ?restg10_23_22
            try simp only [Act.put, List.setIfInBounds_toArray, List.set_cons_zero, List.set_cons_succ, List.getElem_toArray, List.getElem_cons_succ, List.getElem_cons_zero]
            refine wpAnyF_pure (i := 23) (v := undef) rfl (by kernel_rfl) (by kernel_rfl) (by kernel_rfl) (fun _ _ _ h => h) (Or.inr ⟨by rfl, rfl⟩) ?restg10_24_23
            try simp only [Act.put, List.setIfInBounds_toArray, List.set_cons_zero, List.set_cons_succ, List.getElem_toArray, List.getElem_cons_succ, List.getElem_cons_zero]
            refine wpAnyF_pure (i := 24) (v := undef) rfl (by kernel_rfl) (by kernel_rfl) (by kernel_rfl) (fun _ _ _ h => h) (Or.inr ⟨by rfl, rfl⟩) ?restg10_25_24
            try simp only [Act.put, List.setIfInBounds_toArray, List.set_cons_zero, List.set_cons_succ, List.getElem_toArray, List.getElem_cons_succ, List.getElem_cons_zero]
            refine wpAnyF_pure (i := 25) (v := undef) rfl (by kernel_rfl) (by kernel_rfl) (by kernel_rfl) (fun _ _ _ h => h) (Or.inr ⟨by rfl, rfl⟩) ?restg10_26_25
            try simp only [Act.put, List.setIfInBounds_toArray, List.set_cons_zero, List.set_cons_succ, List.getElem_toArray, List.getElem_cons_succ, List.getElem_cons_zero]
            refine wpAnyF_pure (i := 26) (v := undef) rfl (by kernel_rfl) (by kernel_rfl) (by kernel_rfl) (fun _ _ _ h => h) (Or.inr ⟨by rfl, rfl⟩) ?restg10_27_26
            try simp only [Act.put, List.setIfInBounds_toArray, List.set_cons_zero, List.set_cons_succ, List.getElem_toArray, List.getElem_cons_succ, List.getElem_cons_zero]
            refine wpAnyF_pure (i := 27) (v := ?vg10_28_27) rfl (by kernel_rfl) (by kernel_rfl) (by kernel_rfl) (fun _ _ _ h => h) (Or.inl ⟨by rfl, ?hyg10_28_27⟩) ?restg10_28_27
            case hyg10_28_27 => (intro w hSw; clear hSw; go_simp; (all_goals with_reducible rfl))
            try simp only [Act.put, List.setIfInBounds_toArray, List.set_cons_zero, List.set_cons_succ, List.getElem_toArray, List.getElem_cons_succ, List.getElem_cons_zero]
            refine wpAnyF_oneD (i := 28) (by kernel_rfl) (by kernel_rfl) rfl (fun K hK => ?_)
            go_simp
            go_at_call 21
            refine (HNO.out _ _).mono ?_
            rintro e w6 ⟨rfl, rfl⟩
            go_wp2_with fail
            refine ⟨rfl, ?_⟩
            rw [HNONE.out HBAD.out]
            exact ⟨rfl, HPAN.out⟩
      · obtain rfl : j = to.length := by omega
        have HE' := hid HE.out
        go_wp2_with fail
        go_ret
        have HFIN : hopGo n to none (l.drop k) = some (acc, r) := by
          rw [HHG.out, List.drop_length]
          show some (acc ++ [], r) = _
          rw [List.append_nil]
        rw [HFIN]
        exact ⟨A', c', B', cr, by rw [HAL.out]; rfl, by rw [HAL.out]; exact own_more HOA.out HB1.out.size, HE'.out, gbS HB1.out HGW.out⟩
end Go.Proofs.Ytiemcicgohldeaa
