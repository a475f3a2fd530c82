/- A report is heard: what the document answers. -/
import Derived.Test.YtaipjckcckfnaaaBoardY
namespace Go.Proofs.Ytaipjckcckfnaaa
open Go.ChangeShapes Go.WideShapes Go.ChangeAt Go.RowKit
set_option linter.unusedVariables false
set_option linter.unusedSimpArgs false
/-- A board and an error number come back. -/
def RetBd (w : World) (wk ep st : Int) (v : Option (List Report) × Int) (e : Ending) (w' : World) : Prop :=
  Below w.heap.size w w' ∧ ((v.1 = none ∧ e = .returned (.tuple #[.agg #[.int .i64 0, .int .i64 0, .int .i64 0, .slice none 0 0], .int .i64 v.2])) ∨ ∃ (A : Option Addr) (c : Nat) (l : List MRep), v.1 = some (repsOf l) ∧ e = .returned (.tuple #[.agg #[.int .i64 wk, .int .i64 ep, .int .i64 st, .slice A l.length c], .int .i64 v.2]) ∧ Reps w' w'.heap.size A l)
theorem RetBd.no {w w' : World} {wk ep st n : Int} {v : Option (List Report) × Int} (h : v = (none, n)) (hb : Below w.heap.size w w') : RetBd w wk ep st v (.returned (.tuple #[.agg #[.int .i64 0, .int .i64 0, .int .i64 0, .slice none 0 0], .int .i64 n])) w' := by
  subst h; exact ⟨hb, .inl ⟨rfl, rfl⟩⟩
theorem hearV_bad {wk ep st : Int} {l : List Report} {r : Report} (h : ¬ bdOk wk ep st l) : hearV wk ep st l r = (none, 9) := by unfold hearV; rw [if_pos h]
theorem hearV_rep {wk ep st : Int} {l : List Report} {r : Report} (h : bdOk wk ep st l) (h2 : repV wk ep st r ≠ 0) : hearV wk ep st l r = (none, repV wk ep st r) := by
  unfold hearV; rw [if_neg (not_not_intro h), if_pos h2]
theorem hearV_twice {wk ep st : Int} {l : List Report} {r : Report} (h : bdOk wk ep st l) (h2 : repV wk ep st r = 0) (h3 : ∃ x ∈ l, x.worker = r.worker) : hearV wk ep st l r = (none, 8) := by
  unfold hearV; rw [if_neg (not_not_intro h), if_neg (not_not_intro h2), if_pos h3]
theorem hearV_ok {wk ep st : Int} {l : List Report} {r : Report} (h : bdOk wk ep st l) (h2 : repV wk ep st r = 0) (h3 : ¬ ∃ x ∈ l, x.worker = r.worker) : hearV wk ep st l r = (some (l ++ [r]), 0) := by
  unfold hearV; rw [if_neg (not_not_intro h), if_neg (not_not_intro h2), if_neg h3]
theorem repIx_yes {l : List Report} {v : Int} (h : ∃ x ∈ l, x.worker = v) : ∃ j : Nat, repIx l v = (j : Int) := by
  unfold repIx
  cases hf : l.findIdx? (fun r => r.worker == v) with
  | some j => exact ⟨j, rfl⟩
  | none =>
    obtain ⟨x, hx, he⟩ := h
    have := List.findIdx?_eq_none_iff.1 hf x hx
    simp [he] at this
theorem repIx_no {l : List Report} {v : Int} (h : ¬ ∃ x ∈ l, x.worker = v) : repIx l v = -1 :=
  repIx_none fun j y hy he => h ⟨y, List.mem_of_getElem? hy, he⟩
/-- The boxes of the two arguments, and the result's block. -/
def HrW (wk ep st : Int) (A : Option Addr) (n c : Nat) (x : MRep) (G : Nat) (w : World) : Prop :=
  (w.cell? ⟨G, 0, none⟩ = some (.int .i64 wk) ∧ w.cell? ⟨G, 1, none⟩ = some (.int .i64 ep) ∧ w.cell? ⟨G, 2, none⟩ = some (.int .i64 st) ∧ w.cell? ⟨G, 3, none⟩ = some (.slice A n c)) ∧
  (w.cell? ⟨G + 1, 0, none⟩ = some (.int .i64 x.r.worker) ∧ w.cell? ⟨G + 1, 1, none⟩ = some (.int .i64 x.r.epoch) ∧ w.cell? ⟨G + 1, 2, none⟩ = some (.int .i64 x.r.step) ∧ w.cell? ⟨G + 1, 3, none⟩ = some (.slice x.A x.r.sent.length x.c) ∧ w.cell? ⟨G + 1, 4, none⟩ = some (.slice x.A' x.r.got.length x.c') ∧ w.cell? ⟨G + 1, 5, none⟩ = some (.int .i64 x.r.waking) ∧ w.cell? ⟨G + 1, 6, none⟩ = some (.int .i64 x.r.opn)) ∧
  (w.cell? ⟨G + 2, 0, none⟩ = some (.int .i64 0) ∧ w.cell? ⟨G + 2, 1, none⟩ = some (.int .i64 0) ∧ w.cell? ⟨G + 2, 2, none⟩ = some (.int .i64 0) ∧ w.cell? ⟨G + 2, 3, none⟩ = some (.slice none 0 0) ∧ ∀ o, w.frozen? ⟨G + 2, o, none⟩ = false) ∧ G + 3 ≤ w.heap.size
theorem HrW.keep {wk ep st : Int} {A : Option Addr} {n c G B : Nat} {x : MRep} {w w' : World} (h : HrW wk ep st A n c x G w) (hB : G + 3 ≤ B) (hb : Below B w w') : HrW wk ep st A n c x G w' := by
  have kc : ∀ (g o : Nat), g < G + 3 → w'.cell? ⟨g, o, none⟩ = w.cell? ⟨g, o, none⟩ := fun g o hg => hb.cell (p := ⟨g, o, none⟩) (show g < B by omega)
  have kf : ∀ (g o : Nat), g < G + 3 → w'.frozen? ⟨g, o, none⟩ = w.frozen? ⟨g, o, none⟩ := fun g o hg => hb.frozen (p := ⟨g, o, none⟩) (show g < B by omega)
  obtain ⟨⟨a0, a1, a2, a3⟩, ⟨b0, b1, b2, b3, b4, b5, b6⟩, ⟨z0, z1, z2, z3, zf⟩, hs⟩ := h
  refine ⟨⟨?_, ?_, ?_, ?_⟩, ⟨?_, ?_, ?_, ?_, ?_, ?_, ?_⟩, ⟨?_, ?_, ?_, ?_, fun o => ?_⟩, Nat.le_trans hs hb.size⟩
  all_goals (first | rw [kc _ _ (by omega)] | rw [kf _ _ (by omega)])
  all_goals (first | assumption | exact zf o)
theorem HrW.b {wk ep st : Int} {A : Option Addr} {n c G : Nat} {x : MRep} {w w' : World} (h : HrW wk ep st A n c x G w) (hb : Below w.heap.size w w') : HrW wk ep st A n c x G w' := h.keep h.2.2.2 hb
theorem HrW.start (wk ep st : Int) (A : Option Addr) (l : List MRep) (c : Nat) (x : MRep) (w : World) : HrW wk ep st A l.length c x w.heap.size (((w.alloc (.cells #[.int .i64 wk, .int .i64 ep, .int .i64 st, .slice A l.length c] 24)).alloc (.cells #[.int .i64 x.r.worker, .int .i64 x.r.epoch, .int .i64 x.r.step, .slice x.A x.r.sent.length x.c, .slice x.A' x.r.got.length x.c', .int .i64 x.r.waking, .int .i64 x.r.opn] 33)).alloc (.cells #[.int .i64 0, .int .i64 0, .int .i64 0, .slice none 0 0] 24)) := by
  refine ⟨⟨?_, ?_, ?_, ?_⟩, ⟨?_, ?_, ?_, ?_, ?_, ?_, ?_⟩, ⟨?_, ?_, ?_, ?_, fun o => ?_⟩, by simp⟩
  all_goals go_simp
/-- A block with a board. -/
def ObW (wk ep st : Int) (A : Option Addr) (n c H : Nat) (w : World) : Prop :=
  w.cell? ⟨H, 0, none⟩ = some (.int .i64 wk) ∧ w.cell? ⟨H, 1, none⟩ = some (.int .i64 ep) ∧ w.cell? ⟨H, 2, none⟩ = some (.int .i64 st) ∧ w.cell? ⟨H, 3, none⟩ = some (.slice A n c) ∧ (∀ o, w.frozen? ⟨H, o, none⟩ = false) ∧ H < w.heap.size
theorem ObW.keep {wk ep st : Int} {A : Option Addr} {n c H B : Nat} {w w' : World} (h : ObW wk ep st A n c H w) (hB : H < B) (hb : Below B w w') : ObW wk ep st A n c H w' := by
  have kc : ∀ (o : Nat), w'.cell? ⟨H, o, none⟩ = w.cell? ⟨H, o, none⟩ := fun o => hb.cell (p := ⟨H, o, none⟩) hB
  have kf : ∀ (o : Nat), w'.frozen? ⟨H, o, none⟩ = w.frozen? ⟨H, o, none⟩ := fun o => hb.frozen (p := ⟨H, o, none⟩) hB
  obtain ⟨a0, a1, a2, a3, af, hs⟩ := h
  exact ⟨by rw [kc]; exact a0, by rw [kc]; exact a1, by rw [kc]; exact a2, by rw [kc]; exact a3, fun o => by rw [kf]; exact af o, Nat.lt_of_lt_of_le hs hb.size⟩
theorem ObW.store {wk ep st : Int} {A A2 : Option Addr} {n c n2 c2 H : Nat} {w : World} (h : ObW wk ep st A n c H w) : ObW wk ep st A2 n2 c2 H (w.setCell ⟨H, 3, none⟩ (.slice A2 n2 c2)) := by
  obtain ⟨a0, a1, a2, a3, af, hs⟩ := h
  refine ⟨?_, ?_, ?_, World.cell?_setCell_same _ _ _ a3, fun o => by simpa using af o, by simpa using hs⟩
  all_goals (refine (World.cell?_setCell_other _ _ _ _ (by simp)).trans ?_; assumption)
theorem HrW.store {wk ep st : Int} {A : Option Addr} {n c G H : Nat} {x : MRep} {w : World} (h : HrW wk ep st A n c x G w) (hH : G + 3 ≤ H) (v : Value) : HrW wk ep st A n c x G (w.setCell ⟨H, 3, none⟩ v) :=
  h.keep (Nat.le_refl _) ((Below.refl (G + 3) w).setCell hH v)
/-- The copies that are made so far. -/
def HdRel (wk ep st : Int) (A : Option Addr) (c : Nat) (l : List MRep) (x : MRep) (w : World) (G H : Nat) (i : Value) (wr : World) : Prop :=
  ∃ (k c' : Nat) (A' : Option Addr) (acc : List MRep), k ≤ l.length ∧ i = .int .i64 k ∧ Hid (acc.length = k) ∧ Hid (repsOf acc = (repsOf l).take k) ∧ Heaped MRep.cells MRep.parts wr (H + 1) 33 7 A' c' acc ∧ HrW wk ep st A l.length c x G wr ∧ ObW wk ep st A' k c' H wr ∧ Below w.heap.size w wr
set_option maxRecDepth 100000 in
set_option maxHeartbeats 8000000 in
theorem bdHeard_walk (wk ep st : Int) (A : Option Addr) (c : Nat) (l : List MRep) (x : MRep) (w : World) (hr : Reps w w.heap.size A l) (hx : x.rd w w.heap.size) (hn : (l.length + 1) * 88 ≤ 140737488355328) (hs : ∀ x ∈ l, x.r.sent.length * 8 ≤ 140737488355328 ∧ x.r.got.length * 8 ≤ 140737488355328) (hsx : x.r.sent.length * 8 ≤ 140737488355328 ∧ x.r.got.length * 8 ≤ 140737488355328) :
    Calls Try.prog 10 #[.agg (boardC wk ep st A l.length c), .agg (repC x)] w (RetBd w wk ep st (hearV wk ep st (repsOf l) x.r)) := by
  have hw0 := HrW.start wk ep st A l c x w
  have b0 := bA (bA (bA (Below.refl w.heap.size w) (.cells #[.int .i64 wk, .int .i64 ep, .int .i64 st, .slice A l.length c] 24)) (.cells #[.int .i64 x.r.worker, .int .i64 x.r.epoch, .int .i64 x.r.step, .slice x.A x.r.sent.length x.c, .slice x.A' x.r.got.length x.c', .int .i64 x.r.waking, .int .i64 x.r.opn] 33)) (.cells #[.int .i64 0, .int .i64 0, .int .i64 0, .slice none 0 0] 24)
  have hn1 : l.length * 88 ≤ 140737488355328 := by omega
  have HM := hid (bdMay_walk wk ep st A c l (((w.alloc (.cells #[.int .i64 wk, .int .i64 ep, .int .i64 st, .slice A l.length c] 24)).alloc (.cells #[.int .i64 x.r.worker, .int .i64 x.r.epoch, .int .i64 x.r.step, .slice x.A x.r.sent.length x.c, .slice x.A' x.r.got.length x.c', .int .i64 x.r.waking, .int .i64 x.r.opn] 33)).alloc (.cells #[.int .i64 0, .int .i64 0, .int .i64 0, .slice none 0 0] 24)) (hr.b b0) hn1 hs)
  have HF := hid (fun (hwk : 1 ≤ wk ∧ wk ≤ 8) (V : World) (hV : Below w.heap.size w V) => fault_walk wk ep st hwk A l.length c x V ⟨rdb hx.1 (by decide) hV, rdb hx.2 (by decide) hV⟩ hsx.1 hsx.2)
  have HB := hid (fun (V : World) (hV : Below w.heap.size w V) => repBy_walk wk ep st x.r.worker A c l V (rdb hr.1 (by decide) hV) hn1)
  have HCP := hid (fun (V : World) (hV : Below w.heap.size w V) => repCopy_walk x V ⟨rdb hx.1 (by decide) hV, rdb hx.2 (by decide) hV⟩ hsx.1 hsx.2)
  unfold boardC repC at *
  obtain ⟨W, hW⟩ : ∃ W, W = (((w.alloc (.cells #[.int .i64 wk, .int .i64 ep, .int .i64 st, .slice A l.length c] 24)).alloc (.cells #[.int .i64 x.r.worker, .int .i64 x.r.epoch, .int .i64 x.r.step, .slice x.A x.r.sent.length x.c, .slice x.A' x.r.got.length x.c', .int .i64 x.r.waking, .int .i64 x.r.opn] 33)).alloc (.cells #[.int .i64 0, .int .i64 0, .int .i64 0, .slice none 0 0] 24)) := ⟨_, rfl⟩
  rw [← hW] at hw0 b0 HM
  obtain ⟨⟨a0, a1, a2, a3⟩, ⟨q0, q1, q2, q3, q4, q5, q6⟩, ⟨z0, z1, z2, z3, zf⟩, hsz⟩ := id hw0
  have HW0 := hid hw0
  clear hw0
  by_cases hok : bdOk wk ep st (repsOf l)
  · have hb1 := bdB_yes hok
    rw [hb1] at HM
    clear hb1
    have hwk := hok.1.1
    have HF2 := hid (HF.out hwk)
    clear HF
    have hg2 : w.heap.size + 2 < W.heap.size := by omega
    by_cases hv : repV wk ep st x.r = 0
    · rw [hv] at HF2
      by_cases ht : ∃ y ∈ repsOf l, y.worker = x.r.worker
      · have HE := hid (hearV_twice hok hv ht)
        obtain ⟨j, hj⟩ := repIx_yes ht
        rw [hj] at HB
        have hj0 : ((j : Int) ≥ 0) := by omega
        clear hj ht hv hok hwk
        go_enter Try.func10, Try.ntmps10
        go_wp2_with fail
        rw [← hW]
        refine HM.out.mono ?_
        rintro e w1 ⟨rfl, b1⟩
        have bb1 := bT b0 b1
        obtain ⟨⟨a0, a1, a2, a3⟩, ⟨q0, q1, q2, q3, q4, q5, q6⟩, ⟨z0, z1, z2, z3, zf⟩, hsz⟩ := HW0.out.b b1
        go_wp2_with fail
        refine (HF2.out w1 bb1).mono ?_
        rintro e w2 ⟨rfl, b2⟩
        have bb2 := bT bb1 b2
        obtain ⟨⟨a0, a1, a2, a3⟩, ⟨q0, q1, q2, q3, q4, q5, q6⟩, ⟨z0, z1, z2, z3, zf⟩, hsz⟩ := HW0.out.b (bT b1 b2)
        go_wp2_with fail
        refine (HB.out w2 bb2).mono ?_
        rintro e w3 ⟨rfl, b3⟩
        have bb3 := bT bb2 b3
        obtain ⟨⟨a0, a1, a2, a3⟩, ⟨q0, q1, q2, q3, q4, q5, q6⟩, ⟨z0, z1, z2, z3, zf⟩, hsz⟩ := HW0.out.b (bT (bT b1 b2) b3)
        have hg2 : w.heap.size + 2 < w3.heap.size := by omega
        go_wp2_with fail
        refine bodyPost_ret (v := .tuple #[.agg #[.int .i64 0, .int .i64 0, .int .i64 0, .slice none 0 0], .int .i64 8]) (by simp [results, Try.results10, go_sem, *]) rfl (RetBd.no HE.out ?_)
        repeat (with_reducible refine bS ?_ (by simp; try omega) _)
        exact bb3
      · have HE := hid (hearV_ok hok hv ht)
        have hj := repIx_no ht
        rw [hj] at HB
        clear hj ht hv hok hwk
        go_enter Try.func10, Try.ntmps10
        go_wp2_with fail
        rw [← hW]
        refine HM.out.mono ?_
        rintro e w1 ⟨rfl, b1⟩
        have bb1 := bT b0 b1
        obtain ⟨⟨a0, a1, a2, a3⟩, ⟨q0, q1, q2, q3, q4, q5, q6⟩, ⟨z0, z1, z2, z3, zf⟩, hsz⟩ := HW0.out.b b1
        go_wp2_with fail
        refine (HF2.out w1 bb1).mono ?_
        rintro e w2 ⟨rfl, b2⟩
        have bb2 := bT bb1 b2
        obtain ⟨⟨a0, a1, a2, a3⟩, ⟨q0, q1, q2, q3, q4, q5, q6⟩, ⟨z0, z1, z2, z3, zf⟩, hsz⟩ := HW0.out.b (bT b1 b2)
        go_wp2_with fail
        refine (HB.out w2 bb2).mono ?_
        rintro e w3 ⟨rfl, b3⟩
        have bb3 := bT bb2 b3
        have hw3 := HW0.out.b (bT (bT b1 b2) b3)
        clear HF2 HM HB b1 b2 b3 bb1 bb2 HW0 hW hg2
        obtain ⟨⟨a0, a1, a2, a3⟩, ⟨q0, q1, q2, q3, q4, q5, q6⟩, ⟨z0, z1, z2, z3, zf⟩, hsz⟩ := id hw3
        have hg0 : w.heap.size < w3.heap.size := by omega
        have hg1 : w.heap.size + 1 < w3.heap.size := by omega
        have hg2 : w.heap.size + 2 < w3.heap.size := by omega
        have hw4 := hw3.b (bA (Below.refl w3.heap.size w3) (.cells #[.int .i64 wk, .int .i64 ep, .int .i64 st, .slice none 0 0] 24))
        have ho4 : ObW wk ep st none 0 0 w3.heap.size (w3.alloc (.cells #[.int .i64 wk, .int .i64 ep, .int .i64 st, .slice none 0 0] 24)) := by
          refine ⟨?_, ?_, ?_, ?_, fun o => ?_, by simp⟩ <;> go_simp
        have HW4 := hid hw4
        have HO4 := hid ho4
        clear hw3 hw4 ho4
        have bb4 := bA bb3 (.cells #[.int .i64 wk, .int .i64 ep, .int .i64 st, .slice none 0 0] 24)
        go_wp2_with fail
        generalize hH : w3.heap.size = H at *
        go_loopw [8] (fun i wr => HdRel wk ep st A c l x w w.heap.size H i wr) (fun i _ => l.length - (intOf i).toNat)
        case atStart => exact ⟨0, 0, none, [], by omega, rfl, hid rfl, hid rfl, Heaped.nil, HW4.out, HO4.out, bb4⟩
        case round =>
          clear HW4 HO4 a0 a1 a2 a3 q0 q1 q2 q3 q4 q5 q6 z0 z1 z2 z3 zf hsz hH bb3 bb4
          obtain ⟨k, c', A', acc, hk, rfl, HA, HF, hown, hbw, hob, hbel⟩ := hrel
          have HBC := hid hbw
          have HOB := hid hob
          obtain ⟨⟨a0, a1, a2, a3⟩, ⟨q0, q1, q2, q3, q4, q5, q6⟩, ⟨z0, z1, z2, z3, zf⟩, hsz⟩ := hbw
          obtain ⟨o0, o1, o2, o3, of, hos⟩ := hob
          by_cases hlt : k < l.length
          · obtain ⟨y, hy⟩ : ∃ y, l[k]? = some y := ⟨_, List.getElem?_eq_getElem hlt⟩
            have hym := List.mem_of_getElem? hy
            obtain ⟨b, off, rfl, hb, c0, c1, c2, c3, c4, c5, c6⟩ := rep_cells (hr.1.below hbel) rfl hy
            have hdat := Reps.data hr hym
            have hlen := hs y hym
            have hbr : b < wr.heap.size := by omega
            have hkz : (k : Int) < (l.length : Int) := by omega
            have HX := hid (repsOf_get hy)
            have HC := hid (repCopy_walk y wr ⟨rdb hdat.1 (by decide) hbel, rdb hdat.2 (by decide) hbel⟩ hlen.1 hlen.2)
            unfold repC at HC
            clear hy hym hdat hlen hs HCP
            go_wp2_with fail
            refine HC.out.mono ?_
            rintro e w1 ⟨y', rfl, hyr, p1, p2, b1⟩
            have HW1 := HBC.out.b b1
            have HO1 := HOB.out.keep hos b1
            have HYR := hid hyr
            have hown1 := hown.below b1 (Nat.le_refl _)
            rw [hyr]
            have hok1 := hown.ok p1 (Nat.le_refl _) (by omega)
            have hok2 := hown.ok p2 (Nat.le_refl _) (by omega)
            have bb1 := bT hbel b1
            obtain ⟨⟨e0, e1, e2, e3⟩, ⟨u0, u1, u2, u3, u4, u5, u6⟩, ⟨y0, y1, y2, y3, yf⟩, hs1⟩ := id HW1
            obtain ⟨d0, d1, d2, d3, df, hos1⟩ := id HO1
            have HWW := hid HW1
            have HOO := hid HO1
            have hn2 : (k + 1) * 88 ≤ 140737488355328 := by omega
            have hHn : H ≠ w1.heap.size := by omega
            have HFn : Hid (repsOf (acc ++ [y']) = (repsOf l).take (k + 1)) := hid (by
              rw [take_nextU HX.out]; unfold repsOf at HF ⊢; rw [List.map_append, HF.out, List.map_singleton, HYR.out])
            have hokp : ∀ o o', ∀ p ∈ MRep.parts y', p.ok ((w1.alloc o).alloc o') (H + 1) (Value.slice A' acc.length c').ownBlock := fun o o' => by
              refine MRep.mem ?_ ?_
              · rw [HYR.out]; exact (hok1.alloc o).alloc o'
              · rw [HYR.out]; exact (hok2.alloc o).alloc o'
            have hrow : MRep.cells y' = [.int .i64 y.r.worker, .int .i64 y.r.epoch, .int .i64 y.r.step, .slice y'.A y.r.sent.length y'.c, .slice y'.A' y.r.got.length y'.c', .int .i64 y.r.waking, .int .i64 y.r.opn] := by unfold MRep.cells; rw [HYR.out]
            have hbase : ∀ o o', H + 1 ≤ ((w1.alloc o).alloc o').heap.size := fun o o' => by simp; omega
            have hhow : ∀ (o o' : Obj) (w2 : World), Below (H + 1) ((w1.alloc o).alloc o') w2 → Below (H + 1) w1 w2 := fun o o' w2 h2 => ((((Below.refl (H + 1) w1).alloc hos1 o)).alloc (by simp; omega) o').trans h2
            have d3a : ∀ (cs : Array Value) (t : TypeId), (w1.alloc (.cells cs t)).cell? ⟨H, 3, none⟩ = some (.slice A' k c') := fun cs t => keepb (bA (Below.refl w1.heap.size w1) (.cells cs t)) d3
            clear hyr HC c0 c1 c2 c3 c4 c5 c6 a0 a1 a2 a3 q0 q1 q2 q3 q4 q5 q6 z0 z1 z2 z3 zf o0 o1 o2 o3 of HW1 HO1
            go_wp2_with (at_builtin; refine wp_heap _ rfl rfl el_reports rfl HA.out.symm ((hown1.alloc _).alloc _) y' (hokp _ _) rfl (by rw [hrow]; exact rd_newAt _ _ _ 7 1 _ (by simp) rfl) (one_rep y') hn2 (hbase _ _) ?_; intro A2 c2 w2 hown2 hb2 hg3; have hb3 := hhow _ _ _ hb2; obtain ⟨f0, f1, f2, f3, ff, hos2⟩ := HOO.out.keep (Nat.lt_succ_self H) hb3; have HO2 := hid (HOO.out.keep (Nat.lt_succ_self H) hb3); have HW2 := hid (HWW.out.keep (B := H + 1) (by omega) hb3))
            go_roundw
            case rel => exact ⟨k + 1, c2, A2, acc ++ [y'], by omega, by go_num, hid (by rw [List.length_append, HA.out]; rfl), HFn, hown2.store (by show H < _; omega) _, HW2.out.store (by omega) _, HO2.out.store, bS (bb1.trans (hb3.mono (by omega))) (by show w.heap.size ≤ H; omega) _⟩
            case measure => simp [intOf]; omega
          · obtain rfl : k = l.length := by omega
            have HFF : Hid (repsOf acc = repsOf l) := hid (by rw [HF.out, List.take_of_length_le (by rw [repsOf_len]; exact Nat.le_refl _)])
            have hkz : ¬ ((l.length : Int) < (l.length : Int)) := by omega
            clear HF
            go_wp2_with fail
            refine (HCP.out wr hbel).mono ?_
            rintro e w1 ⟨y', rfl, hyr, p1, p2, b1⟩
            have HW1 := HBC.out.b b1
            have HO1 := HOB.out.keep hos b1
            have HYR := hid hyr
            have hown1 := hown.below b1 (Nat.le_refl _)
            rw [hyr]
            have hok1 := hown.ok p1 (Nat.le_refl _) (by omega)
            have hok2 := hown.ok p2 (Nat.le_refl _) (by omega)
            have bb1 := bT hbel b1
            obtain ⟨⟨e0, e1, e2, e3⟩, ⟨u0, u1, u2, u3, u4, u5, u6⟩, ⟨y0, y1, y2, y3, yf⟩, hs1⟩ := id HW1
            obtain ⟨d0, d1, d2, d3, df, hos1⟩ := id HO1
            have HWW := hid HW1
            have HOO := hid HO1
            have hHn : H ≠ w1.heap.size := by omega
            have hokp : ∀ o o', ∀ p ∈ MRep.parts y', p.ok ((w1.alloc o).alloc o') (H + 1) (Value.slice A' acc.length c').ownBlock := fun o o' => by
              refine MRep.mem ?_ ?_
              · rw [HYR.out]; exact (hok1.alloc o).alloc o'
              · rw [HYR.out]; exact (hok2.alloc o).alloc o'
            have hrow : MRep.cells y' = [.int .i64 x.r.worker, .int .i64 x.r.epoch, .int .i64 x.r.step, .slice y'.A x.r.sent.length y'.c, .slice y'.A' x.r.got.length y'.c', .int .i64 x.r.waking, .int .i64 x.r.opn] := by unfold MRep.cells; rw [HYR.out]
            have hbase : ∀ o o', H + 1 ≤ ((w1.alloc o).alloc o').heap.size := fun o o' => by simp; omega
            have hhow : ∀ (o o' : Obj) (w2 : World), Below (H + 1) ((w1.alloc o).alloc o') w2 → Below (H + 1) w1 w2 := fun o o' w2 h2 => ((((Below.refl (H + 1) w1).alloc hos1 o)).alloc (by simp; omega) o').trans h2
            have d3a : ∀ (cs : Array Value) (t : TypeId), (w1.alloc (.cells cs t)).cell? ⟨H, 3, none⟩ = some (.slice A' l.length c') := fun cs t => keepb (bA (Below.refl w1.heap.size w1) (.cells cs t)) d3
            clear hyr HCP a0 a1 a2 a3 q0 q1 q2 q3 q4 q5 q6 z0 z1 z2 z3 zf o0 o1 o2 o3 of HW1 HO1
            go_wp2_with (at_builtin; refine wp_heap _ rfl rfl el_reports rfl HA.out.symm ((hown1.alloc _).alloc _) y' (hokp _ _) rfl (by rw [hrow]; exact rd_newAt _ _ _ 7 1 _ (by simp) rfl) (one_rep y') hn (hbase _ _) ?_; intro A2 c2 w2 hown2 hb2 hg3; have hb3 := hhow _ _ _ hb2; obtain ⟨f0, f1, f2, f3, ff, hos2⟩ := HOO.out.keep (Nat.lt_succ_self H) hb3; obtain ⟨⟨e0, e1, e2, e3⟩, ⟨u0, u1, u2, u3, u4, u5, u6⟩, ⟨y0, y1, y2, y3, yf⟩, hs1⟩ := (HWW.out.keep (B := H + 1) (by omega) hb3))
            have hg2 : w.heap.size + 2 < w2.heap.size := by omega
            refine bodyPost_ret (v := .tuple #[.agg #[.int .i64 wk, .int .i64 ep, .int .i64 st, .slice A2 (l.length + 1) c2], .int .i64 0]) (by simp [results, Try.results10, go_sem, *]) rfl ⟨?_, .inr ⟨A2, c2, acc ++ [y'], ?_, ?_, ?_⟩⟩
            · repeat (with_reducible refine bS ?_ (by simp; try omega) _)
              exact bb1.trans (hb3.mono (by omega))
            · rw [HE.out]; unfold repsOf at HFF ⊢; rw [List.map_append, HFF.out, List.map_singleton, HYR.out]
            · rw [HE.out, List.length_append, HA.out]; rfl
            · refine Reps.any (B := _) (Heaped.led (base := H + 1) (c := c2) (e := 33) ?_)
              repeat (with_reducible refine Heaped.store ?_ (by simp; try omega) _)
              exact hown2
    · have HE := hid (hearV_rep hok hv)
      have hvb : (repV wk ep st x.r != 0) = true := by simpa using hv
      generalize repV wk ep st x.r = rv at HE HF2 hvb
      clear hv hok hwk HB HCP
      go_enter Try.func10, Try.ntmps10
      go_wp2_with fail
      rw [← hW]
      refine HM.out.mono ?_
      rintro e w1 ⟨rfl, b1⟩
      have bb1 := bT b0 b1
      obtain ⟨⟨a0, a1, a2, a3⟩, ⟨q0, q1, q2, q3, q4, q5, q6⟩, ⟨z0, z1, z2, z3, zf⟩, hsz⟩ := HW0.out.b b1
      go_wp2_with fail
      refine (HF2.out w1 bb1).mono ?_
      rintro e w2 ⟨rfl, b2⟩
      have bb2 := bT bb1 b2
      obtain ⟨⟨a0, a1, a2, a3⟩, ⟨q0, q1, q2, q3, q4, q5, q6⟩, ⟨z0, z1, z2, z3, zf⟩, hsz⟩ := HW0.out.b (bT b1 b2)
      have hg2 : w.heap.size + 2 < w2.heap.size := by omega
      go_wp2_with fail
      refine bodyPost_ret (v := .tuple #[.agg #[.int .i64 0, .int .i64 0, .int .i64 0, .slice none 0 0], .int .i64 rv]) (by simp [results, Try.results10, go_sem, *]) rfl (RetBd.no HE.out ?_)
      repeat (with_reducible refine bS ?_ (by simp; try omega) _)
      exact bb2
  · have HE := hid (hearV_bad (r := x.r) hok)
    have hb1 := bdB_no hok
    rw [hb1] at HM
    clear hb1 hok HF HB HCP
    go_enter Try.func10, Try.ntmps10
    go_wp2_with fail
    rw [← hW]
    refine HM.out.mono ?_
    rintro e w1 ⟨rfl, b1⟩
    have bb1 := bT b0 b1
    obtain ⟨⟨a0, a1, a2, a3⟩, ⟨q0, q1, q2, q3, q4, q5, q6⟩, ⟨z0, z1, z2, z3, zf⟩, hsz⟩ := HW0.out.b b1
    have hg2 : w.heap.size + 2 < w1.heap.size := by omega
    go_wp2_with fail
    refine bodyPost_ret (v := .tuple #[.agg #[.int .i64 0, .int .i64 0, .int .i64 0, .slice none 0 0], .int .i64 9]) (by simp [results, Try.results10, go_sem, *]) rfl (RetBd.no HE.out ?_)
    repeat (with_reducible refine bS ?_ (by simp; try omega) _)
    exact bb1
end Go.Proofs.Ytaipjckcckfnaaa
