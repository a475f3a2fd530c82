/- queue.Push. -/
import Derived.Test.YtifpngjipkmdcaaQueY
import Derived.Test.YtifpngjipkmdcaaQuPk
import Derived.Test.YtifpngjipkmdcaaSameL
import Derived.Deep.DeepCutAuto
namespace Go.Proofs.Ytifpngjipkmdcaa
open Go.ChangeShapes Go.WideShapes Go.ChangeAt Go.RowKit
set_option linter.unusedVariables false
set_option linter.unusedSimpArgs false
theorem rd_two {w : World} {B b : Nat} {u v : Value} (h0 : w.cell? ⟨b, 0, none⟩ = some u) (h1 : w.cell? ⟨b, 1, none⟩ = some v) (hb : b < B) : Rd w B (some ⟨b, 0, none⟩) 2 1 [u, v] := by
  refine ⟨rfl, fun _ => ⟨b, 0, rfl, hb, fun j x hx => ?_⟩⟩
  match j, hx with
  | 0, hx => simp at hx; subst hx; exact h0
  | 1, hx => simp at hx; subst hx; exact h1
  | n + 2, hx => simp at hx
abbrev QRes := Int × List Mail × List (List Int)
/-- What Push answers. -/
noncomputable def pushV (q : Queue) (m : Mail) : QRes × Int :=
  match countV q with
  | none => ((0, [], []), 9)
  | some k => if mlB m = false then ((0, [], []), 2) else if k = 5000 then ((0, [], []), 10) else if ((q.loose.length + 1 : Nat) : Int) = q.budget then ((q.budget, [], rowsOf q.runs ++ [packM (srtOf mlt (q.loose ++ [m]))]), 0) else ((q.budget, q.loose ++ [m], rowsOf q.runs), 0)
theorem pushV_none {q : Queue} {m : Mail} (h : countV q = none) : pushV q m = ((0, [], []), 9) := by unfold pushV; rw [h]
theorem pushV_mail {q : Queue} {m : Mail} {k : Nat} (h : countV q = some k) (hm : mlB m = false) : pushV q m = ((0, [], []), 2) := by unfold pushV; rw [h]; dsimp only; rw [if_pos hm]
theorem pushV_full {q : Queue} {m : Mail} (h : countV q = some 5000) (hm : mlB m = true) : pushV q m = ((0, [], []), 10) := by unfold pushV; rw [h]; dsimp only; rw [if_neg (by rw [hm]; decide), if_pos rfl]
theorem pushV_pack {q : Queue} {m : Mail} {k : Nat} (h : countV q = some k) (hm : mlB m = true) (hk : k ≠ 5000) (hb : ((q.loose.length + 1 : Nat) : Int) = q.budget) : pushV q m = ((q.budget, [], rowsOf q.runs ++ [packM (srtOf mlt (q.loose ++ [m]))]), 0) := by
  unfold pushV; rw [h]; dsimp only; rw [if_neg (by rw [hm]; decide), if_neg hk, if_pos hb]
theorem pushV_loose {q : Queue} {m : Mail} {k : Nat} (h : countV q = some k) (hm : mlB m = true) (hk : k ≠ 5000) (hb : ((q.loose.length + 1 : Nat) : Int) ≠ q.budget) : pushV q m = ((q.budget, q.loose ++ [m], rowsOf q.runs), 0) := by
  unfold pushV; rw [h]; dsimp only; rw [if_neg (by rw [hm]; decide), if_neg hk, if_neg hb]
theorem manyGo_le : ∀ (rs : List (ML Int)) (n k : Nat), n ≤ 5000 → manyGo rs n = some k → k ≤ 5000
  | [], n, k, h, e => by rw [manyGo] at e; injection e with e; omega
  | r :: rs, n, k, h, e => by
    rw [manyGo] at e
    split at e
    · cases e
    · rename_i h2; exact manyGo_le rs _ k (by omega) e
theorem countV_some {q : Queue} {k : Nat} (h : countV q = some k) : ¬ queBad q ∧ okMl q.loose = true ∧ k ≤ 5000 := by
  by_cases h1 : queBad q
  · rw [countV_bad h1] at h; cases h
  · cases h2 : okMl q.loose with
    | false => rw [countV_mail h1 h2] at h; cases h
    | true =>
      rw [countV_ok h1 h2] at h
      exact ⟨h1, rfl, manyGo_le _ _ _ (by unfold queBad at h1; omega) h⟩
theorem mlB_val {m : Mail} (h : mlB m = true) : 0 ≤ m.val ∧ m.val ≤ 4398046511104 := by
  unfold mlB inB at h
  simp only [Bool.and_eq_true, decide_eq_true_eq] at h
  exact h.2
theorem vals_sorted {lo : List Mail} {m : Mail} (h : okMl lo = true) (hm : mlB m = true) : Vals0 (srtOf mlt (lo ++ [m])) := fun x hx => by
  have hx2 := (srtOf_perm (lt := mlt) _).mem_iff.1 hx
  have hb : mlB x = true := by
    rcases List.mem_append.1 hx2 with h2 | h2
    · unfold okMl at h; exact List.all_eq_true.1 h x h2
    · obtain rfl := List.mem_singleton.1 h2; exact hm
  have := mlB_val hb
  omega
/-- A queue and an error number come back. -/
def RetPu (w : World) (v : QRes × Int) (e : Ending) (w' : World) : Prop :=
  ∃ A c B d rs, e = .returned (.tuple #[.agg #[.int .i64 v.1.1, .slice A v.1.2.1.length c, .slice B rs.length d], .int .i64 v.2]) ∧ rowsOf rs = v.1.2.2 ∧ Rd w' w'.heap.size A 2 v.1.2.1.length (v.1.2.1.flatMap Mail.cells) ∧ Grid u8c 1 w' w'.heap.size B rs ∧ Below w.heap.size w w'
theorem retPu_bad {w w' : World} {v : QRes × Int} {e : Int} (h : v = ((0, [], []), e)) (hb : Below w.heap.size w w') : RetPu w v (.returned (.tuple #[.agg #[.int .i64 0, .slice none 0 0, .slice none 0 0], .int .i64 e])) w' := by
  subst h; exact ⟨none, 0, none, 0, [], rfl, rfl, Rd.nil_, Led.nil, hb⟩
theorem cloneQ_walk (l : List Int) (A : Option Addr) (n c B : Nat) (w : World) (hr : Rd w B A 1 n (l.flatMap u8c)) (hn : n ≤ 140737488355328) :
    Calls Try.prog 72 #[.slice A n c] w fun e w' => ∃ A' c', e = .returned (.slice A' n c') ∧ w'.ownsRow w.heap.size 5 1 (.slice A' n c') n (l.flatMap u8c) ∧ Below w.heap.size w w' := by
  cases A with
  | none =>
    have h0 : n = 0 := by
      rcases Nat.eq_zero_or_pos n with h | h
      · exact h
      · obtain ⟨b, off, e, _⟩ := hr.2 h; cases e
    subst h0
    have hl := hr.1
    have hx : l.flatMap u8c = [] := List.eq_nil_of_length_eq_zero (by simpa using hl)
    rw [hx]
    clear hx hl hr
    have hnil := fun w => Lib.run_eql_slice_nil (P := Try.prog) w 41 5 none 0 c 0 0 Try.underlying41
    go_enter Try.func72, Try.ntmps72
    go_wp2
    go_ret
    exact ⟨none, 0, rfl, World.ownsRow_nil _ _ _ _, Below.refl _ _⟩
  | some a =>
    have hnil := fun w => Lib.run_eql_slice_nil (P := Try.prog) w 41 5 (some a) n c 0 0 Try.underlying41
    have r0 := (hr.any (by decide)).alloc (Nat.le_refl _) (.cells #[] 5)
    have o0 : (w.alloc (.cells #[] 5)).ownsRow w.heap.size 5 1 (.slice (some ⟨w.heap.size, 0, none⟩) 0 0) 0 [] := World.ownsRow_lit w #[] 0 (Nat.le_refl _) (by simp [maxLen]) rfl
    go_enter Try.func72, Try.ntmps72
    go_wp2_with (at_builtin; refine wp_app1 _ rfl rfl el_bytes rfl o0 rfl r0 (one_u8 l) (by omega) (by simp) ?_; intro A' c' w1 hown1 hb1 hg1)
    go_ret
    rw [Nat.zero_add] at hown1
    exact ⟨A', c', by rw [← Nat.zero_add n]; rfl, hown1, (bA (Below.refl _ _) _).trans hb1⟩
def PuFin (bu : Int) (s G T n : Nat) (rows : List (List Int)) (tb : Value) (w wx : World) : Prop :=
  ∃ (A5 : Option Addr) (c5 : Nat) (acc : List (ML Int)), wx.cell? ⟨s, 0, none⟩ = some (.int .i64 bu) ∧ wx.cell? ⟨s, 1, none⟩ = some tb ∧ wx.cell? ⟨s, 2, none⟩ = some (.slice A5 n c5) ∧ wx.cell? ⟨G + 2, 0, none⟩ = some (.int .i64 0) ∧ wx.cell? ⟨G + 2, 1, none⟩ = some (.slice none 0 0) ∧ wx.cell? ⟨G + 2, 2, none⟩ = some (.slice none 0 0) ∧ (∀ o, wx.frozen? ⟨G + 2, o, none⟩ = false) ∧ acc.length = n ∧ Hid (rowsOf acc = rows) ∧ Hid (BGrid wx T A5 c5 acc) ∧ Hid (Below w.heap.size w wx)
theorem sort_at (l : List Mail) (w : World) (A : Option Addr) (c : Nat) {n : Nat} (hn : l.length = n) (hr : Rd w w.heap.size A 2 n (l.flatMap Mail.cells)) (hl : n ≤ 5000) :
    Calls Try.prog 73 #[.slice A n c] w fun e w' => ∃ A' c', e = .returned (.tuple #[.slice A' n c', .int .i64 0]) ∧ w'.ownsRow w.heap.size 62 2 (.slice A' n c') n ((srtOf mlt l).flatMap Mail.cells) ∧ Below w.heap.size w w' := by
  subst hn
  have h := sort_walk l w A c hr (by omega)
  rw [sortV_ok (by omega)] at h
  refine h.mono ?_
  rintro e w' h2
  unfold RetM RetL at h2
  simp only [srtOf_len] at h2
  exact h2
set_option maxRecDepth 100000 in
set_option maxHeartbeats 1000000 in
theorem push_walkQ (q : Queue) (m : Mail) (w : World) (A B : Option Addr) (c d : Nat) (hl : Rd w w.heap.size A 2 q.loose.length (q.loose.flatMap Mail.cells)) (hg : Grid u8c 1 w w.heap.size B q.runs) (hll : q.loose.length ≤ 140737488355328) (hrl : q.runs.length ≤ 140737488355328) (hx : RunsOk q) :
    Calls Try.prog 30 #[.agg #[.int .i64 q.budget, .slice A q.loose.length c, .slice B q.runs.length d], .agg #[.int .i64 m.to, .int .i64 m.val]] w (RetPu w (pushV q m)) := by
  obtain ⟨w0, hw0⟩ : ∃ x, x = ((w.alloc (.cells #[.int .i64 q.budget, .slice A q.loose.length c, .slice B q.runs.length d] 53)).alloc (.cells #[.int .i64 m.to, .int .i64 m.val] 62)).alloc (.cells #[.int .i64 0, .slice none 0 0, .slice none 0 0] 53) := ⟨_, rfl⟩
  have B0 : Hid (Below w.heap.size w w0) := hid (by rw [hw0]; exact bA (bA (bA (Below.refl _ _) _) _) _)
  have HO := hid (open_walkQ q w0 A B c d (rdb hl (by decide) B0.out) (hg.b (by decide) B0.out) hll hrl hx)
  have HP0 := hid (fun h => pushV_none (q := q) (m := m) h)
  have HPM := hid (fun k h h2 => pushV_mail (q := q) (m := m) (k := k) h h2)
  have HPF := hid (fun h h2 => pushV_full (q := q) (m := m) h h2)
  have HPP := hid (fun k h h2 h3 h4 => pushV_pack (q := q) (m := m) (k := k) h h2 h3 h4)
  have HPL := hid (fun k h h2 h3 h4 => pushV_loose (q := q) (m := m) (k := k) h h2 h3 h4)
  have HCS := hid (fun k h => countV_some (q := q) (k := k) h)
  have HMW := hid (fun V => mailQ_walk m V)
  have HVS := hid (fun h h2 => vals_sorted (lo := q.loose) (m := m) h h2)
  have HZ := hid (fun x h => (hx x h).2.2)
  have HG := hid hg
  have HL := hid hl
  unfold queBad at HCS
  unfold RetO at HO
  generalize pushV q m = PV at *
  generalize countV q = R at *
  clear hg hl hx
  obtain ⟨bu, lo, rs⟩ := q
  obtain ⟨mt, mv⟩ := m
  simp only at *
  obtain ⟨G, hG⟩ : ∃ G, w.heap.size = G := ⟨_, rfl⟩
  have hz0 : w0.heap.size = G + 3 := by rw [hw0, ← hG]; simp
  have q0 : w0.cell? ⟨G, 0, none⟩ = some (.int .i64 bu) := by rw [hw0, ← hG]; go_simp
  have q1 : w0.cell? ⟨G, 1, none⟩ = some (.slice A lo.length c) := by rw [hw0, ← hG]; go_simp
  have q2 : w0.cell? ⟨G, 2, none⟩ = some (.slice B rs.length d) := by rw [hw0, ← hG]; go_simp
  have p0 : w0.cell? ⟨G + 1, 0, none⟩ = some (.int .i64 mt) := by rw [hw0, ← hG]; go_simp
  have p1 : w0.cell? ⟨G + 1, 1, none⟩ = some (.int .i64 mv) := by rw [hw0, ← hG]; go_simp
  have z0 : w0.cell? ⟨G + 2, 0, none⟩ = some (.int .i64 0) := by rw [hw0, ← hG]; go_simp
  have z1 : w0.cell? ⟨G + 2, 1, none⟩ = some (.slice none 0 0) := by rw [hw0, ← hG]; go_simp
  have z2 : w0.cell? ⟨G + 2, 2, none⟩ = some (.slice none 0 0) := by rw [hw0, ← hG]; go_simp
  have zf : ∀ o, w0.frozen? ⟨G + 2, o, none⟩ = false := fun o => by rw [hw0, ← hG]; go_simp
  have HGG := hid hG
  have HZ0 := hid hz0
  go_enter Try.func30, Try.ntmps30
  go_wp2_with fail
  rw [← hw0]
  try simp only [hG]
  clear hw0 hG
  refine HO.out.mono ?_
  rintro e w1 ⟨⟨A1, N, c1, many, ok, rfl, h1, h2, _⟩, b1⟩
  have q0 := keepb b1 q0
  have q1 := keepb b1 q1
  have q2 := keepb b1 q2
  have p0 := keepb b1 p0
  have p1 := keepb b1 p1
  have z0 := keepb b1 z0
  have z1 := keepb b1 z1
  have z2 := keepb b1 z2
  have zf : ∀ o, w1.frozen? ⟨G + 2, o, none⟩ = false := fun o => keepf b1 (zf o) (by show G + 2 < _; omega)
  have zf0 := zf 0
  have zf1 := zf 1
  have zf2 := zf 2
  have hz1 : G + 2 < w1.heap.size := by have := b1.size; omega
  have HB1 := hid (bT B0.out b1)
  have hcs : R = none ∨ ∃ k, R = some k := by
    cases R with
    | none => exact .inl rfl
    | some k => exact .inr ⟨k, rfl⟩
  have HZF := hid zf
  clear b1 HO zf hz0
  rcases hcs with hR | ⟨k, hR⟩
  · have hk := h1 hR
    have HV := hid (HP0.out hR)
    subst hk
    clear h1 h2 hR HP0 HPM HPF HPP HPL HCS
    go_wp2_with fail
    refine bodyPost_ret (v := .tuple #[.agg #[.int .i64 0, .slice none 0 0, .slice none 0 0], .int .i64 9]) (by simp [results, Try.results30, go_sem, *]) rfl (retPu_bad HV.out ?_)
    have hge : w.heap.size ≤ G + 2 := by have := HGG.out; omega
    repeat (with_reducible refine bS ?_ (by show w.heap.size ≤ G + 2; exact hge) _)
    exact HB1.out
  · obtain ⟨e1, e2⟩ := h2 k hR
    subst e1
    have HK := hid e2
    obtain ⟨hnb, hok, hk5⟩ := HCS.out k hR
    have HR := hid hR
    have HOK := hid hok
    clear h1 h2 hR e2 HP0 HCS hok
    cases hmb : mlB ⟨mt, mv⟩ with
    | false =>
      have HV := hid (HPM.out k HR.out hmb)
      have HM2 := hid (HMW.out w1)
      rw [hmb] at HM2
      clear hmb HPM HPF HPP HPL
      go_wp2_with fail
      refine HM2.out.mono ?_
      rintro e w2 ⟨rfl, b2⟩
      have z0 := keepb b2 z0
      have z1 := keepb b2 z1
      have z2 := keepb b2 z2
      have zf : ∀ o, w2.frozen? ⟨G + 2, o, none⟩ = false := fun o => keepf b2 (HZF.out o) (by show G + 2 < _; omega)
      have zf0 := zf 0
      have zf1 := zf 1
      have zf2 := zf 2
      have HB2 := hid (bT HB1.out b2)
      clear b2 zf
      go_wp2_with fail
      refine bodyPost_ret (v := .tuple #[.agg #[.int .i64 0, .slice none 0 0, .slice none 0 0], .int .i64 2]) (by simp [results, Try.results30, go_sem, *]) rfl (retPu_bad HV.out ?_)
      have hge : w.heap.size ≤ G + 2 := by have := HGG.out; omega
      repeat (with_reducible refine bS ?_ (by show w.heap.size ≤ G + 2; exact hge) _)
      exact HB2.out
    | true =>
      have HM2 := hid (HMW.out w1)
      rw [hmb] at HM2
      have HMB := hid hmb
      clear hmb HPM
      by_cases hk : k = 5000
      · have HV := hid (HPF.out (by rw [← hk]; exact HR.out) HMB.out)
        have hmz : ((many : Int) == 5000) = true := by rw [HK.out, hk]; rfl
        clear hk HPF HPP HPL
        go_wp2_with fail
        refine HM2.out.mono ?_
        rintro e w2 ⟨rfl, b2⟩
        have z0 := keepb b2 z0
        have z1 := keepb b2 z1
        have z2 := keepb b2 z2
        have zf : ∀ o, w2.frozen? ⟨G + 2, o, none⟩ = false := fun o => keepf b2 (HZF.out o) (by show G + 2 < _; omega)
        have zf0 := zf 0
        have zf1 := zf 1
        have zf2 := zf 2
        have HB2 := hid (bT HB1.out b2)
        clear b2 zf
        go_wp2_with fail
        refine bodyPost_ret (v := .tuple #[.agg #[.int .i64 0, .slice none 0 0, .slice none 0 0], .int .i64 10]) (by simp [results, Try.results30, go_sem, *]) rfl (retPu_bad HV.out ?_)
        have hge : w.heap.size ≤ G + 2 := by have := HGG.out; omega
        repeat (with_reducible refine bS ?_ (by show w.heap.size ≤ G + 2; exact hge) _)
        exact HB2.out
      · have hmz : ((many : Int) == 5000) = false := by rw [HK.out, beq_eq_false_iff_ne]; omega
        have HPP2 := hid (HPP.out k HR.out HMB.out hk)
        have HPL2 := hid (HPL.out k HR.out HMB.out hk)
        clear hk HPF HPP HPL
        go_wp2_with fail
        refine HM2.out.mono ?_
        rintro e wp ⟨rfl, b2⟩
        have q0 := keepb b2 q0
        have q1 := keepb b2 q1
        have q2 := keepb b2 q2
        have p0 := keepb b2 p0
        have p1 := keepb b2 p1
        have Z0 := hid (keepb b2 z0)
        have Z1 := hid (keepb b2 z1)
        have Z2 := hid (keepb b2 z2)
        have ZF : Hid (∀ o, wp.frozen? ⟨G + 2, o, none⟩ = false) := hid fun o => keepf b2 (HZF.out o) (by show G + 2 < _; omega)
        have HB2 := hid (bT HB1.out b2)
        have hz2' : G + 2 < wp.heap.size := by have := b2.size; omega
        have Q2 := hid q2
        have Q0 := hid q0
        clear b2 z0 z1 z2 zf0 zf1 zf2 HZF HM2 HMW
        have hlo : lo.length ≤ 999 := by omega
        have hrs : rs.length ≤ 5000 := by omega
        have HCL := hid (fun (V : World) (hV : Below wp.heap.size wp V) => clone_walk lo A lo.length c V.heap.size V (rdb HL.out (by decide) (HB2.out.trans (hV.mono HB2.out.size))) (by omega))
        have HLM := hid (show (lo ++ [(⟨mt, mv⟩ : Mail)]).length = lo.length + 1 from by simp)
        unfold RetS at HCL
        generalize hln : lo.length = ln at *
        have hSZ : (ln + 1) * 16 ≤ 140737488355328 := by omega
        have HK : Hid (∀ V, Below wp.heap.size wp V → ((fun V => Below wp.heap.size wp V ∧ V.cell? ⟨G, 0, none⟩ = some (.int .i64 bu) ∧ V.cell? ⟨G, 1, none⟩ = some (.slice A ln c) ∧ V.cell? ⟨G + 1, 0, none⟩ = some (.int .i64 mt) ∧ V.cell? ⟨G + 1, 1, none⟩ = some (.int .i64 mv)) : World → Prop) V) := hid fun V hV => ⟨hV, keepb hV q0, keepb hV q1, keepb hV p0, keepb hV p1⟩
        clear hnb q2
        go_upto_region 8 with fail
        go_cut [9] (fun s9 wx => QyCut bu (ln + 1) (lo.flatMap Mail.cells ++ [.int .i64 mt, .int .i64 mv]) wp s9 wx)
        case first =>
          clear q0 q1 p0 p1
          refine wp_region_F (S := (fun V => Below wp.heap.size wp V ∧ V.cell? ⟨G, 0, none⟩ = some (.int .i64 bu) ∧ V.cell? ⟨G, 1, none⟩ = some (.slice A ln c) ∧ V.cell? ⟨G + 1, 0, none⟩ = some (.int .i64 mt) ∧ V.cell? ⟨G + 1, 1, none⟩ = some (.int .i64 mv))) [10] (by kernel_rfl) (HK.out _ (bD (Below.refl _ _))) (fun hHeld => ?_)
          refine wpAnyF_pure (i := 0) (v := ?vg1_1_0) rfl (by kernel_rfl) (by kernel_rfl) (by kernel_rfl) (fun _ _ _ h => h) (Or.inl ⟨by rfl, ?hyg1_1_0⟩) ?restg1_1_0
          case hyg1_1_0 => (intro w hSw; clear hSw; go_simp; (all_goals with_reducible rfl))
          try simp only [Act.put, List.setIfInBounds_toArray, List.set_cons_zero, List.set_cons_succ, List.getElem_toArray, List.getElem_cons_succ, List.getElem_cons_zero]
          refine wpAnyF_pure (i := 2) (v := ?vg1_2_2) rfl (by kernel_rfl) (by kernel_rfl) (by kernel_rfl) (fun _ _ _ h => h) (Or.inl ⟨by rfl, ?hyg1_2_2⟩) ?restg1_2_2
          case hyg1_2_2 => (intro w hSw; clear hSw; go_simp; (all_goals with_reducible rfl))
          try simp only [Act.put, List.setIfInBounds_toArray, List.set_cons_zero, List.set_cons_succ, List.getElem_toArray, List.getElem_cons_succ, List.getElem_cons_zero]
          refine wpAnyF_take [8, 10] (i := 1) (v := ?vg1_3_1) rfl (by kernel_rfl) (by kernel_rfl) (by kernel_rfl) (by kernel_rfl) (fun _ _ _ h => h) (Or.inl ⟨by rfl, ?hyg1_3_1⟩) (by assumption) ?restg1_3_1
          case hyg1_3_1 => (intro w hSw; (try dsimp only at hSw); go_simp; (all_goals with_reducible rfl))
          try simp only [Act.put, List.setIfInBounds_toArray, List.set_cons_zero, List.set_cons_succ, List.getElem_toArray, List.getElem_cons_succ, List.getElem_cons_zero]
          refine wpAnyF_take [4, 7, 8, 10] (i := 3) (v := ?vg1_4_3) rfl (by kernel_rfl) (by kernel_rfl) (by kernel_rfl) (by kernel_rfl) (fun _ _ _ h => h) (Or.inl ⟨by rfl, ?hyg1_4_3⟩) (by assumption) ?restg1_4_3
          case hyg1_4_3 => (intro w hSw; (try dsimp only at hSw); go_simp; (all_goals with_reducible rfl))
          try simp only [Act.put, List.setIfInBounds_toArray, List.set_cons_zero, List.set_cons_succ, List.getElem_toArray, List.getElem_cons_succ, List.getElem_cons_zero]
          refine wpAnyF_take [6, 7, 8, 10] (i := 5) (v := ?vg1_5_5) rfl (by kernel_rfl) (by kernel_rfl) (by kernel_rfl) (by kernel_rfl) (fun _ _ _ h => h) (Or.inl ⟨by rfl, ?hyg1_5_5⟩) (by assumption) ?restg1_5_5
          case hyg1_5_5 => (intro w hSw; (try dsimp only at hSw); go_simp; (all_goals with_reducible rfl))
          try simp only [Act.put, List.setIfInBounds_toArray, List.set_cons_zero, List.set_cons_succ, List.getElem_toArray, List.getElem_cons_succ, List.getElem_cons_zero]
          refine wpAnyF_ready (rs := [4, 6, 9]) (by kernel_rfl) (by simp) ?_
          refine AllReadyF.cons rfl (fun K hK => ?_) ?_
          · go_simp
            go_at_call 71
            refine (HCL.out _ hHeld.1).mono ?_
            rintro e w2 ⟨A2, k2, rfl, o2, b2⟩
            have HO2 := hid (own_more (base' := wp.heap.size) o2 hHeld.1.size)
            have HLB : Hid (∀ y, (Value.slice A2 ln k2).ownBlock = some y → wp.heap.size + 0 ≤ y) := hid (fun y hy => by have := (o2.lt y hy).1; simp at this; omega)
            have hz2 := b2.size
            try simp at hz2
            have HB2 := hid (bT hHeld.1 b2)
            clear o2 b2
            go_wp2_with fail
            refine hK.out _ _ (HK.out _ HB2.out) (fun hHeld => ?_)
            clear hK K
            try simp only [Act.put, List.setIfInBounds_toArray, List.set_cons_zero, List.set_cons_succ, List.getElem_toArray, List.getElem_cons_succ, List.getElem_cons_zero]
            refine wpAnyF_ready (rs := [6, 9]) (by kernel_rfl) (by simp) ?_
            refine AllReadyF.cons rfl (fun K hK => ?_) ?_
            · go_simp
              refine hK.out _ _ (HK.out _ (bA hHeld.1 _)) (fun hHeld => ?_)
              clear hK K
              try simp only [Act.put, List.setIfInBounds_toArray, List.set_cons_zero, List.set_cons_succ, List.getElem_toArray, List.getElem_cons_succ, List.getElem_cons_zero]
              refine wpAnyF_ready (rs := [7, 9]) (by kernel_rfl) (by simp) ?_
              refine AllReadyF.cons rfl (fun K hK => ?_) ?_
              · refine step_app3 (news := [.int .i64 mt, .int .i64 mv]) (B := w2.heap.size + 1) rfl rfl el_mails rfl (own_below HO2.out (bA (Below.refl _ _) _) (Nat.le_refl _)) rfl (rd_two (by go_simp) (by go_simp) (Nat.lt_succ_self _)) (two_mailN _ _) hSZ (by have := HB2.out.size; first | omega | (simp; done) | (simp; omega)) ?_
                intro A5 c5 w5 o5 b5 g5 h5
                have HO5 := hid o5
                have HB5 := hid (hHeld.1.trans b5)
                have H5 := hid h5
                clear o5 b5 g5 h5
                refine hK.out _ _ (HK.out _ HB5.out) (fun hHeld => ?_)
                clear hK K
                try simp only [Act.put, List.setIfInBounds_toArray, List.set_cons_zero, List.set_cons_succ, List.getElem_toArray, List.getElem_cons_succ, List.getElem_cons_zero]
                refine wpAnyF_pure (i := 8) (v := ?vg1_9_8) rfl (by kernel_rfl) (by kernel_rfl) (by kernel_rfl) (fun _ _ _ h => h) (Or.inl ⟨by rfl, ?hyg1_9_8⟩) ?restg1_9_8
                case hyg1_9_8 => (intro w hSw; clear hSw; go_simp; (all_goals with_reducible rfl))
                try simp only [Act.put, List.setIfInBounds_toArray, List.set_cons_zero, List.set_cons_succ, List.getElem_toArray, List.getElem_cons_succ, List.getElem_cons_zero]
                refine wpAnyF_one (i := 9) (by kernel_rfl) rfl (fun K hK => ?_)
                go_simp
                refine hK.out _ _ (HK.out _ (bA hHeld.1 _)) (fun hHeld => ?_)
                clear hK K
                try simp only [Act.put, List.setIfInBounds_toArray, List.set_cons_zero, List.set_cons_succ, List.getElem_toArray, List.getElem_cons_succ, List.getElem_cons_zero]
                refine wpAnyF_oneD (i := 10) (by kernel_rfl) (by kernel_rfl) rfl (fun K hK => ?_)
                go_simp
                refine hK.out _ _ ?_
                clear hK K
                try simp only [Act.put, List.setIfInBounds_toArray, List.set_cons_zero, List.set_cons_succ, List.getElem_toArray, List.getElem_cons_succ, List.getElem_cons_zero]
                refine wpAnyF_done (by kernel_rfl) ?_ _
                go_wp2_with fail
                go_meet
                refine ⟨w5.heap.size, A5, c5, rfl, HB5.out.size, by simp, by go_simp, by go_simp, by go_simp, fun o => by go_simp, ?_, ?_⟩
                · have h := rdx_own (s := w5.heap.size) (L := wp.heap.size) HO5.out (Nat.le_refl _) (fun y hy => by have := (HO5.out.lt y hy).2; omega)
                  exact ⟨(h.1.below (bA (Below.refl _ _) _)).any (by decide), h.2⟩
                · exact bA HB5.out _
              refine AllReadyF.cons rfl (fun K hK => ?_) AllReadyF.nil
              go_simp
              refine hK.out _ _ (HK.out _ (bA hHeld.1 _)) (fun hHeld => ?_)
              clear hK K
              try simp only [Act.put, List.setIfInBounds_toArray, List.set_cons_zero, List.set_cons_succ, List.getElem_toArray, List.getElem_cons_succ, List.getElem_cons_zero]
              refine wpAnyF_one (i := 7) (by kernel_rfl) rfl (fun K hK => ?_)
              refine step_app3 (news := [.int .i64 mt, .int .i64 mv]) (B := w2.heap.size + 1) rfl rfl el_mails rfl (own_below HO2.out (bA (bA (Below.refl _ _) _) _) (Nat.le_refl _)) rfl (rd_two (by go_simp) (by go_simp) (Nat.lt_succ_self _)) (two_mailN _ _) hSZ (by have := HB2.out.size; first | omega | (simp; done) | (simp; omega)) ?_
              intro A5 c5 w5 o5 b5 g5 h5
              have HO5 := hid o5
              have HB5 := hid (hHeld.1.trans b5)
              have H5 := hid h5
              have HNE : (Value.slice A2 ln k2).ownBlock ≠ some (w2.heap.size + 1) := fun e => by have := (HO2.out.lt _ e).2; omega
              have z0 : w5.cell? ⟨w2.heap.size + 1, 0, none⟩ = some (.int .i64 0) := (grown_cell g5 (by have := HB2.out.size; first | omega | (simp; done) | (simp; omega)) HNE).trans (by go_simp)
              have z1 : w5.cell? ⟨w2.heap.size + 1, 1, none⟩ = some (.slice none 0 0) := (grown_cell g5 (by have := HB2.out.size; first | omega | (simp; done) | (simp; omega)) HNE).trans (by go_simp)
              have z2 : w5.cell? ⟨w2.heap.size + 1, 2, none⟩ = some (.slice none 0 0) := (grown_cell g5 (by have := HB2.out.size; first | omega | (simp; done) | (simp; omega)) HNE).trans (by go_simp)
              have zf : ∀ o, w5.frozen? ⟨w2.heap.size + 1, o, none⟩ = false := fun o => (grown_frozen g5 (by have := HB2.out.size; first | omega | (simp; done) | (simp; omega)) HNE).trans (by go_simp)
              have zf0 := zf 0
              have zf1 := zf 1
              have zf2 := zf 2
              have HN5 : Hid (∀ y, (Value.slice A5 (ln + 1) c5).ownBlock = some y → y ≠ w2.heap.size + 1) := hid (fun y hy e => by subst e; rcases h5 with h | h; (exact HNE (h.symm.trans hy)); (rw [hy] at h; injection h with h; first | (simp at h; done) | (simp at h; omega) | omega))
              have hz5 := g5.size
              try simp at hz5
              clear o5 b5 g5 h5
              refine hK.out _ _ (HK.out _ HB5.out) (fun hHeld => ?_)
              clear hK K
              try simp only [Act.put, List.setIfInBounds_toArray, List.set_cons_zero, List.set_cons_succ, List.getElem_toArray, List.getElem_cons_succ, List.getElem_cons_zero]
              refine wpAnyF_pure (i := 8) (v := ?vg1_13_8) rfl (by kernel_rfl) (by kernel_rfl) (by kernel_rfl) (fun _ _ _ h => h) (Or.inl ⟨by rfl, ?hyg1_13_8⟩) ?restg1_13_8
              case hyg1_13_8 => (intro w hSw; clear hSw; go_simp; (all_goals with_reducible rfl))
              try simp only [Act.put, List.setIfInBounds_toArray, List.set_cons_zero, List.set_cons_succ, List.getElem_toArray, List.getElem_cons_succ, List.getElem_cons_zero]
              refine wpAnyF_oneD (i := 10) (by kernel_rfl) (by kernel_rfl) rfl (fun K hK => ?_)
              go_simp
              refine hK.out _ _ ?_
              clear hK K
              try simp only [Act.put, List.setIfInBounds_toArray, List.set_cons_zero, List.set_cons_succ, List.getElem_toArray, List.getElem_cons_succ, List.getElem_cons_zero]
              refine wpAnyF_done (by kernel_rfl) ?_ _
              go_wp2_with fail
              go_meet
              have hlo : wp.heap.size ≤ w2.heap.size + 1 := by omega
              refine ⟨w2.heap.size + 1, A5, c5, rfl, hlo, (by first | omega | (simp; done) | (simp; omega)), by go_simp, by go_simp, by go_simp, fun o => by simpa using zf o, ?_, ?_⟩
              · have h := rdx_own (s := w2.heap.size + 1) (L := wp.heap.size) HO5.out (Nat.le_refl _) HN5.out
                simpa using (RdX.store (o := 2) (v := .slice none 0 0) (RdX.store (o := 1) (v := .slice A5 (ln + 1) c5) (RdX.store (o := 0) (v := .int .i64 bu) h)))
              · exact bS (bS (bS HB5.out hlo _) hlo _) hlo _
            refine AllReadyF.cons rfl (fun K hK => ?_) AllReadyF.nil
            go_simp
            refine hK.out _ _ (HK.out _ (bA hHeld.1 _)) (fun hHeld => ?_)
            clear hK K
            try simp only [Act.put, List.setIfInBounds_toArray, List.set_cons_zero, List.set_cons_succ, List.getElem_toArray, List.getElem_cons_succ, List.getElem_cons_zero]
            refine wpAnyF_one (i := 6) (by kernel_rfl) rfl (fun K hK => ?_)
            go_simp
            refine hK.out _ _ (HK.out _ (bA hHeld.1 _)) (fun hHeld => ?_)
            clear hK K
            try simp only [Act.put, List.setIfInBounds_toArray, List.set_cons_zero, List.set_cons_succ, List.getElem_toArray, List.getElem_cons_succ, List.getElem_cons_zero]
            refine wpAnyF_one (i := 7) (by kernel_rfl) rfl (fun K hK => ?_)
            refine step_app3 (news := [.int .i64 mt, .int .i64 mv]) (B := w2.heap.size + 1 + 1) rfl rfl el_mails rfl (own_below HO2.out (bA (bA (Below.refl _ _) _) _) (Nat.le_refl _)) rfl (rd_two (by go_simp) (by go_simp) (Nat.lt_succ_self _)) (two_mailN _ _) hSZ (by have := HB2.out.size; first | omega | (simp; done) | (simp; omega)) ?_
            intro A5 c5 w5 o5 b5 g5 h5
            have HO5 := hid o5
            have HB5 := hid (hHeld.1.trans b5)
            have H5 := hid h5
            have HNE : (Value.slice A2 ln k2).ownBlock ≠ some (w2.heap.size) := fun e => by have := (HO2.out.lt _ e).2; omega
            have z0 : w5.cell? ⟨w2.heap.size, 0, none⟩ = some (.int .i64 0) := (grown_cell g5 (by have := HB2.out.size; first | omega | (simp; done) | (simp; omega)) HNE).trans (by go_simp)
            have z1 : w5.cell? ⟨w2.heap.size, 1, none⟩ = some (.slice none 0 0) := (grown_cell g5 (by have := HB2.out.size; first | omega | (simp; done) | (simp; omega)) HNE).trans (by go_simp)
            have z2 : w5.cell? ⟨w2.heap.size, 2, none⟩ = some (.slice none 0 0) := (grown_cell g5 (by have := HB2.out.size; first | omega | (simp; done) | (simp; omega)) HNE).trans (by go_simp)
            have zf : ∀ o, w5.frozen? ⟨w2.heap.size, o, none⟩ = false := fun o => (grown_frozen g5 (by have := HB2.out.size; first | omega | (simp; done) | (simp; omega)) HNE).trans (by go_simp)
            have zf0 := zf 0
            have zf1 := zf 1
            have zf2 := zf 2
            have HN5 : Hid (∀ y, (Value.slice A5 (ln + 1) c5).ownBlock = some y → y ≠ w2.heap.size) := hid (fun y hy e => by subst e; rcases h5 with h | h; (exact HNE (h.symm.trans hy)); (rw [hy] at h; injection h with h; first | (simp at h; done) | (simp at h; omega) | omega))
            have hz5 := g5.size
            try simp at hz5
            clear o5 b5 g5 h5
            refine hK.out _ _ (HK.out _ HB5.out) (fun hHeld => ?_)
            clear hK K
            try simp only [Act.put, List.setIfInBounds_toArray, List.set_cons_zero, List.set_cons_succ, List.getElem_toArray, List.getElem_cons_succ, List.getElem_cons_zero]
            refine wpAnyF_pure (i := 8) (v := ?vg1_17_8) rfl (by kernel_rfl) (by kernel_rfl) (by kernel_rfl) (fun _ _ _ h => h) (Or.inl ⟨by rfl, ?hyg1_17_8⟩) ?restg1_17_8
            case hyg1_17_8 => (intro w hSw; clear hSw; go_simp; (all_goals with_reducible rfl))
            try simp only [Act.put, List.setIfInBounds_toArray, List.set_cons_zero, List.set_cons_succ, List.getElem_toArray, List.getElem_cons_succ, List.getElem_cons_zero]
            refine wpAnyF_oneD (i := 10) (by kernel_rfl) (by kernel_rfl) rfl (fun K hK => ?_)
            go_simp
            refine hK.out _ _ ?_
            clear hK K
            try simp only [Act.put, List.setIfInBounds_toArray, List.set_cons_zero, List.set_cons_succ, List.getElem_toArray, List.getElem_cons_succ, List.getElem_cons_zero]
            refine wpAnyF_done (by kernel_rfl) ?_ _
            go_wp2_with fail
            go_meet
            have hlo : wp.heap.size ≤ w2.heap.size := by omega
            refine ⟨w2.heap.size, A5, c5, rfl, hlo, (by first | omega | (simp; done) | (simp; omega)), by go_simp, by go_simp, by go_simp, fun o => by simpa using zf o, ?_, ?_⟩
            · have h := rdx_own (s := w2.heap.size) (L := wp.heap.size) HO5.out (Nat.le_refl _) HN5.out
              simpa using (RdX.store (o := 2) (v := .slice none 0 0) (RdX.store (o := 1) (v := .slice A5 (ln + 1) c5) (RdX.store (o := 0) (v := .int .i64 bu) h)))
            · exact bS (bS (bS HB5.out hlo _) hlo _) hlo _
          refine AllReadyF.cons rfl (fun K hK => ?_) ?_
          · go_simp
            refine hK.out _ _ (HK.out _ (bA hHeld.1 _)) (fun hHeld => ?_)
            clear hK K
            try simp only [Act.put, List.setIfInBounds_toArray, List.set_cons_zero, List.set_cons_succ, List.getElem_toArray, List.getElem_cons_succ, List.getElem_cons_zero]
            refine wpAnyF_ready (rs := [4, 9]) (by kernel_rfl) (by simp) ?_
            refine AllReadyF.cons rfl (fun K hK => ?_) ?_
            · go_simp
              go_at_call 71
              refine (HCL.out _ hHeld.1).mono ?_
              rintro e w2 ⟨A2, k2, rfl, o2, b2⟩
              have HO2 := hid (own_more (base' := wp.heap.size) o2 hHeld.1.size)
              have HLB : Hid (∀ y, (Value.slice A2 ln k2).ownBlock = some y → wp.heap.size + 1 ≤ y) := hid (fun y hy => by have := (o2.lt y hy).1; simp at this; omega)
              have m0 : w2.cell? ⟨wp.heap.size, 0, none⟩ = some (.int .i64 mt) := keepb b2 (by go_simp)
              have m1 : w2.cell? ⟨wp.heap.size, 1, none⟩ = some (.int .i64 mv) := keepb b2 (by go_simp)
              have hz2 := b2.size
              try simp at hz2
              have HB2 := hid (bT hHeld.1 b2)
              clear o2 b2
              go_wp2_with fail
              refine hK.out _ _ (HK.out _ HB2.out) (fun hHeld => ?_)
              clear hK K
              try simp only [Act.put, List.setIfInBounds_toArray, List.set_cons_zero, List.set_cons_succ, List.getElem_toArray, List.getElem_cons_succ, List.getElem_cons_zero]
              refine wpAnyF_ready (rs := [7, 9]) (by kernel_rfl) (by simp) ?_
              refine AllReadyF.cons rfl (fun K hK => ?_) ?_
              · refine step_app3 (news := [.int .i64 mt, .int .i64 mv]) (B := wp.heap.size + 1) rfl rfl el_mails rfl (own_below HO2.out (Below.refl _ _) (Nat.le_refl _)) rfl (rd_two (keepb (Below.refl _ _) m0) (keepb (Below.refl _ _) m1) (Nat.lt_succ_self _)) (two_mailN _ _) hSZ (by have := HB2.out.size; first | omega | (simp; done) | (simp; omega)) ?_
                intro A5 c5 w5 o5 b5 g5 h5
                have HO5 := hid o5
                have HB5 := hid (hHeld.1.trans b5)
                have H5 := hid h5
                clear o5 b5 g5 h5
                refine hK.out _ _ (HK.out _ HB5.out) (fun hHeld => ?_)
                clear hK K
                try simp only [Act.put, List.setIfInBounds_toArray, List.set_cons_zero, List.set_cons_succ, List.getElem_toArray, List.getElem_cons_succ, List.getElem_cons_zero]
                refine wpAnyF_pure (i := 8) (v := ?vg1_21_8) rfl (by kernel_rfl) (by kernel_rfl) (by kernel_rfl) (fun _ _ _ h => h) (Or.inl ⟨by rfl, ?hyg1_21_8⟩) ?restg1_21_8
                case hyg1_21_8 => (intro w hSw; clear hSw; go_simp; (all_goals with_reducible rfl))
                try simp only [Act.put, List.setIfInBounds_toArray, List.set_cons_zero, List.set_cons_succ, List.getElem_toArray, List.getElem_cons_succ, List.getElem_cons_zero]
                refine wpAnyF_one (i := 9) (by kernel_rfl) rfl (fun K hK => ?_)
                go_simp
                refine hK.out _ _ (HK.out _ (bA hHeld.1 _)) (fun hHeld => ?_)
                clear hK K
                try simp only [Act.put, List.setIfInBounds_toArray, List.set_cons_zero, List.set_cons_succ, List.getElem_toArray, List.getElem_cons_succ, List.getElem_cons_zero]
                refine wpAnyF_oneD (i := 10) (by kernel_rfl) (by kernel_rfl) rfl (fun K hK => ?_)
                go_simp
                refine hK.out _ _ ?_
                clear hK K
                try simp only [Act.put, List.setIfInBounds_toArray, List.set_cons_zero, List.set_cons_succ, List.getElem_toArray, List.getElem_cons_succ, List.getElem_cons_zero]
                refine wpAnyF_done (by kernel_rfl) ?_ _
                go_wp2_with fail
                go_meet
                refine ⟨w5.heap.size, A5, c5, rfl, HB5.out.size, by simp, by go_simp, by go_simp, by go_simp, fun o => by go_simp, ?_, ?_⟩
                · have h := rdx_own (s := w5.heap.size) (L := wp.heap.size) HO5.out (Nat.le_refl _) (fun y hy => by have := (HO5.out.lt y hy).2; omega)
                  exact ⟨(h.1.below (bA (Below.refl _ _) _)).any (by decide), h.2⟩
                · exact bA HB5.out _
              refine AllReadyF.cons rfl (fun K hK => ?_) AllReadyF.nil
              go_simp
              refine hK.out _ _ (HK.out _ (bA hHeld.1 _)) (fun hHeld => ?_)
              clear hK K
              try simp only [Act.put, List.setIfInBounds_toArray, List.set_cons_zero, List.set_cons_succ, List.getElem_toArray, List.getElem_cons_succ, List.getElem_cons_zero]
              refine wpAnyF_one (i := 7) (by kernel_rfl) rfl (fun K hK => ?_)
              refine step_app3 (news := [.int .i64 mt, .int .i64 mv]) (B := wp.heap.size + 1) rfl rfl el_mails rfl (own_below HO2.out (bA (Below.refl _ _) _) (Nat.le_refl _)) rfl (rd_two (keepb (bA (Below.refl _ _) _) m0) (keepb (bA (Below.refl _ _) _) m1) (Nat.lt_succ_self _)) (two_mailN _ _) hSZ (by have := HB2.out.size; first | omega | (simp; done) | (simp; omega)) ?_
              intro A5 c5 w5 o5 b5 g5 h5
              have HO5 := hid o5
              have HB5 := hid (hHeld.1.trans b5)
              have H5 := hid h5
              have HNE : (Value.slice A2 ln k2).ownBlock ≠ some (w2.heap.size) := fun e => by have := (HO2.out.lt _ e).2; omega
              have z0 : w5.cell? ⟨w2.heap.size, 0, none⟩ = some (.int .i64 0) := (grown_cell g5 (by have := HB2.out.size; first | omega | (simp; done) | (simp; omega)) HNE).trans (by go_simp)
              have z1 : w5.cell? ⟨w2.heap.size, 1, none⟩ = some (.slice none 0 0) := (grown_cell g5 (by have := HB2.out.size; first | omega | (simp; done) | (simp; omega)) HNE).trans (by go_simp)
              have z2 : w5.cell? ⟨w2.heap.size, 2, none⟩ = some (.slice none 0 0) := (grown_cell g5 (by have := HB2.out.size; first | omega | (simp; done) | (simp; omega)) HNE).trans (by go_simp)
              have zf : ∀ o, w5.frozen? ⟨w2.heap.size, o, none⟩ = false := fun o => (grown_frozen g5 (by have := HB2.out.size; first | omega | (simp; done) | (simp; omega)) HNE).trans (by go_simp)
              have zf0 := zf 0
              have zf1 := zf 1
              have zf2 := zf 2
              have HN5 : Hid (∀ y, (Value.slice A5 (ln + 1) c5).ownBlock = some y → y ≠ w2.heap.size) := hid (fun y hy e => by subst e; rcases h5 with h | h; (exact HNE (h.symm.trans hy)); (rw [hy] at h; injection h with h; first | (simp at h; done) | (simp at h; omega) | omega))
              have hz5 := g5.size
              try simp at hz5
              clear o5 b5 g5 h5
              refine hK.out _ _ (HK.out _ HB5.out) (fun hHeld => ?_)
              clear hK K
              try simp only [Act.put, List.setIfInBounds_toArray, List.set_cons_zero, List.set_cons_succ, List.getElem_toArray, List.getElem_cons_succ, List.getElem_cons_zero]
              refine wpAnyF_pure (i := 8) (v := ?vg1_25_8) rfl (by kernel_rfl) (by kernel_rfl) (by kernel_rfl) (fun _ _ _ h => h) (Or.inl ⟨by rfl, ?hyg1_25_8⟩) ?restg1_25_8
              case hyg1_25_8 => (intro w hSw; clear hSw; go_simp; (all_goals with_reducible rfl))
              try simp only [Act.put, List.setIfInBounds_toArray, List.set_cons_zero, List.set_cons_succ, List.getElem_toArray, List.getElem_cons_succ, List.getElem_cons_zero]
              refine wpAnyF_oneD (i := 10) (by kernel_rfl) (by kernel_rfl) rfl (fun K hK => ?_)
              go_simp
              refine hK.out _ _ ?_
              clear hK K
              try simp only [Act.put, List.setIfInBounds_toArray, List.set_cons_zero, List.set_cons_succ, List.getElem_toArray, List.getElem_cons_succ, List.getElem_cons_zero]
              refine wpAnyF_done (by kernel_rfl) ?_ _
              go_wp2_with fail
              go_meet
              have hlo : wp.heap.size ≤ w2.heap.size := by omega
              refine ⟨w2.heap.size, A5, c5, rfl, hlo, (by first | omega | (simp; done) | (simp; omega)), by go_simp, by go_simp, by go_simp, fun o => by simpa using zf o, ?_, ?_⟩
              · have h := rdx_own (s := w2.heap.size) (L := wp.heap.size) HO5.out (Nat.le_refl _) HN5.out
                simpa using (RdX.store (o := 2) (v := .slice none 0 0) (RdX.store (o := 1) (v := .slice A5 (ln + 1) c5) (RdX.store (o := 0) (v := .int .i64 bu) h)))
              · exact bS (bS (bS HB5.out hlo _) hlo _) hlo _
            refine AllReadyF.cons rfl (fun K hK => ?_) AllReadyF.nil
            go_simp
            refine hK.out _ _ (HK.out _ (bA hHeld.1 _)) (fun hHeld => ?_)
            clear hK K
            try simp only [Act.put, List.setIfInBounds_toArray, List.set_cons_zero, List.set_cons_succ, List.getElem_toArray, List.getElem_cons_succ, List.getElem_cons_zero]
            refine wpAnyF_one (i := 4) (by kernel_rfl) rfl (fun K hK => ?_)
            go_simp
            go_at_call 71
            refine (HCL.out _ hHeld.1).mono ?_
            rintro e w2 ⟨A2, k2, rfl, o2, b2⟩
            have HO2 := hid (own_more (base' := wp.heap.size) o2 hHeld.1.size)
            have HLB : Hid (∀ y, (Value.slice A2 ln k2).ownBlock = some y → wp.heap.size + 2 ≤ y) := hid (fun y hy => by have := (o2.lt y hy).1; simp at this; omega)
            have y0 : w2.cell? ⟨wp.heap.size + 1, 0, none⟩ = some (.int .i64 0) := keepb b2 (by go_simp)
            have y1 : w2.cell? ⟨wp.heap.size + 1, 1, none⟩ = some (.slice none 0 0) := keepb b2 (by go_simp)
            have y2 : w2.cell? ⟨wp.heap.size + 1, 2, none⟩ = some (.slice none 0 0) := keepb b2 (by go_simp)
            have yf : ∀ o, w2.frozen? ⟨wp.heap.size + 1, o, none⟩ = false := fun o => keepf b2 (by go_simp) (by first | (simp; done) | (simp; omega))
            have yf0 := yf 0
            have yf1 := yf 1
            have yf2 := yf 2
            have m0 : w2.cell? ⟨wp.heap.size, 0, none⟩ = some (.int .i64 mt) := keepb b2 (by go_simp)
            have m1 : w2.cell? ⟨wp.heap.size, 1, none⟩ = some (.int .i64 mv) := keepb b2 (by go_simp)
            have hz2 := b2.size
            try simp at hz2
            have HB2 := hid (bT hHeld.1 b2)
            clear o2 b2
            go_wp2_with fail
            refine hK.out _ _ (HK.out _ HB2.out) (fun hHeld => ?_)
            clear hK K
            try simp only [Act.put, List.setIfInBounds_toArray, List.set_cons_zero, List.set_cons_succ, List.getElem_toArray, List.getElem_cons_succ, List.getElem_cons_zero]
            refine wpAnyF_one (i := 7) (by kernel_rfl) rfl (fun K hK => ?_)
            refine step_app3 (news := [.int .i64 mt, .int .i64 mv]) (B := wp.heap.size + 1) rfl rfl el_mails rfl (own_below HO2.out (Below.refl _ _) (Nat.le_refl _)) rfl (rd_two (keepb (Below.refl _ _) m0) (keepb (Below.refl _ _) m1) (Nat.lt_succ_self _)) (two_mailN _ _) hSZ (by have := HB2.out.size; first | omega | (simp; done) | (simp; omega)) ?_
            intro A5 c5 w5 o5 b5 g5 h5
            have HO5 := hid o5
            have HB5 := hid (hHeld.1.trans b5)
            have H5 := hid h5
            have HNE : (Value.slice A2 ln k2).ownBlock ≠ some (wp.heap.size + 1) := fun e => by have := HLB.out _ e; omega
            have z0 : w5.cell? ⟨wp.heap.size + 1, 0, none⟩ = some (.int .i64 0) := (grown_cell g5 (by have := HB2.out.size; first | omega | (simp; done) | (simp; omega)) HNE).trans (keepb (Below.refl _ _) y0)
            have z1 : w5.cell? ⟨wp.heap.size + 1, 1, none⟩ = some (.slice none 0 0) := (grown_cell g5 (by have := HB2.out.size; first | omega | (simp; done) | (simp; omega)) HNE).trans (keepb (Below.refl _ _) y1)
            have z2 : w5.cell? ⟨wp.heap.size + 1, 2, none⟩ = some (.slice none 0 0) := (grown_cell g5 (by have := HB2.out.size; first | omega | (simp; done) | (simp; omega)) HNE).trans (keepb (Below.refl _ _) y2)
            have zf : ∀ o, w5.frozen? ⟨wp.heap.size + 1, o, none⟩ = false := fun o => (grown_frozen g5 (by have := HB2.out.size; first | omega | (simp; done) | (simp; omega)) HNE).trans (keepf (Below.refl _ _) (yf o) (by have := HB2.out.size; show wp.heap.size + 1 < _; omega))
            have zf0 := zf 0
            have zf1 := zf 1
            have zf2 := zf 2
            have HN5 : Hid (∀ y, (Value.slice A5 (ln + 1) c5).ownBlock = some y → y ≠ wp.heap.size + 1) := hid (fun y hy e => by subst e; rcases h5 with h | h; (exact HNE (h.symm.trans hy)); (rw [hy] at h; injection h with h; first | (simp at h; done) | (simp at h; omega) | omega))
            have hz5 := g5.size
            try simp at hz5
            clear o5 b5 g5 h5
            refine hK.out _ _ (HK.out _ HB5.out) (fun hHeld => ?_)
            clear hK K
            try simp only [Act.put, List.setIfInBounds_toArray, List.set_cons_zero, List.set_cons_succ, List.getElem_toArray, List.getElem_cons_succ, List.getElem_cons_zero]
            refine wpAnyF_pure (i := 8) (v := ?vg1_29_8) rfl (by kernel_rfl) (by kernel_rfl) (by kernel_rfl) (fun _ _ _ h => h) (Or.inl ⟨by rfl, ?hyg1_29_8⟩) ?restg1_29_8
            case hyg1_29_8 => (intro w hSw; clear hSw; go_simp; (all_goals with_reducible rfl))
            try simp only [Act.put, List.setIfInBounds_toArray, List.set_cons_zero, List.set_cons_succ, List.getElem_toArray, List.getElem_cons_succ, List.getElem_cons_zero]
            refine wpAnyF_oneD (i := 10) (by kernel_rfl) (by kernel_rfl) rfl (fun K hK => ?_)
            go_simp
            refine hK.out _ _ ?_
            clear hK K
            try simp only [Act.put, List.setIfInBounds_toArray, List.set_cons_zero, List.set_cons_succ, List.getElem_toArray, List.getElem_cons_succ, List.getElem_cons_zero]
            refine wpAnyF_done (by kernel_rfl) ?_ _
            go_wp2_with fail
            go_meet
            have hlo : wp.heap.size ≤ wp.heap.size + 1 := by omega
            refine ⟨wp.heap.size + 1, A5, c5, rfl, hlo, (by first | omega | (simp; done) | (simp; omega)), by go_simp, by go_simp, by go_simp, fun o => by simpa using zf o, ?_, ?_⟩
            · have h := rdx_own (s := wp.heap.size + 1) (L := wp.heap.size) HO5.out (Nat.le_refl _) HN5.out
              simpa using (RdX.store (o := 2) (v := .slice none 0 0) (RdX.store (o := 1) (v := .slice A5 (ln + 1) c5) (RdX.store (o := 0) (v := .int .i64 bu) h)))
            · exact bS (bS (bS HB5.out hlo _) hlo _) hlo _
          refine AllReadyF.cons rfl (fun K hK => ?_) AllReadyF.nil
          go_simp
          refine hK.out _ _ (HK.out _ (bA hHeld.1 _)) (fun hHeld => ?_)
          clear hK K
          try simp only [Act.put, List.setIfInBounds_toArray, List.set_cons_zero, List.set_cons_succ, List.getElem_toArray, List.getElem_cons_succ, List.getElem_cons_zero]
          refine wpAnyF_ready (rs := [4, 6]) (by kernel_rfl) (by simp) ?_
          refine AllReadyF.cons rfl (fun K hK => ?_) ?_
          · go_simp
            go_at_call 71
            refine (HCL.out _ hHeld.1).mono ?_
            rintro e w2 ⟨A2, k2, rfl, o2, b2⟩
            have HO2 := hid (own_more (base' := wp.heap.size) o2 hHeld.1.size)
            have HLB : Hid (∀ y, (Value.slice A2 ln k2).ownBlock = some y → wp.heap.size + 1 ≤ y) := hid (fun y hy => by have := (o2.lt y hy).1; simp at this; omega)
            have y0 : w2.cell? ⟨wp.heap.size, 0, none⟩ = some (.int .i64 0) := keepb b2 (by go_simp)
            have y1 : w2.cell? ⟨wp.heap.size, 1, none⟩ = some (.slice none 0 0) := keepb b2 (by go_simp)
            have y2 : w2.cell? ⟨wp.heap.size, 2, none⟩ = some (.slice none 0 0) := keepb b2 (by go_simp)
            have yf : ∀ o, w2.frozen? ⟨wp.heap.size, o, none⟩ = false := fun o => keepf b2 (by go_simp) (by first | (simp; done) | (simp; omega))
            have yf0 := yf 0
            have yf1 := yf 1
            have yf2 := yf 2
            have hz2 := b2.size
            try simp at hz2
            have HB2 := hid (bT hHeld.1 b2)
            clear o2 b2
            go_wp2_with fail
            refine hK.out _ _ (HK.out _ HB2.out) (fun hHeld => ?_)
            clear hK K
            try simp only [Act.put, List.setIfInBounds_toArray, List.set_cons_zero, List.set_cons_succ, List.getElem_toArray, List.getElem_cons_succ, List.getElem_cons_zero]
            refine wpAnyF_one (i := 6) (by kernel_rfl) rfl (fun K hK => ?_)
            go_simp
            refine hK.out _ _ (HK.out _ (bA hHeld.1 _)) (fun hHeld => ?_)
            clear hK K
            try simp only [Act.put, List.setIfInBounds_toArray, List.set_cons_zero, List.set_cons_succ, List.getElem_toArray, List.getElem_cons_succ, List.getElem_cons_zero]
            refine wpAnyF_one (i := 7) (by kernel_rfl) rfl (fun K hK => ?_)
            refine step_app3 (news := [.int .i64 mt, .int .i64 mv]) (B := w2.heap.size + 1) rfl rfl el_mails rfl (own_below HO2.out (bA (Below.refl _ _) _) (Nat.le_refl _)) rfl (rd_two (by go_simp) (by go_simp) (Nat.lt_succ_self _)) (two_mailN _ _) hSZ (by have := HB2.out.size; first | omega | (simp; done) | (simp; omega)) ?_
            intro A5 c5 w5 o5 b5 g5 h5
            have HO5 := hid o5
            have HB5 := hid (hHeld.1.trans b5)
            have H5 := hid h5
            have HNE : (Value.slice A2 ln k2).ownBlock ≠ some (wp.heap.size) := fun e => by have := HLB.out _ e; omega
            have z0 : w5.cell? ⟨wp.heap.size, 0, none⟩ = some (.int .i64 0) := (grown_cell g5 (by have := HB2.out.size; first | omega | (simp; done) | (simp; omega)) HNE).trans (keepb (bA (Below.refl _ _) _) y0)
            have z1 : w5.cell? ⟨wp.heap.size, 1, none⟩ = some (.slice none 0 0) := (grown_cell g5 (by have := HB2.out.size; first | omega | (simp; done) | (simp; omega)) HNE).trans (keepb (bA (Below.refl _ _) _) y1)
            have z2 : w5.cell? ⟨wp.heap.size, 2, none⟩ = some (.slice none 0 0) := (grown_cell g5 (by have := HB2.out.size; first | omega | (simp; done) | (simp; omega)) HNE).trans (keepb (bA (Below.refl _ _) _) y2)
            have zf : ∀ o, w5.frozen? ⟨wp.heap.size, o, none⟩ = false := fun o => (grown_frozen g5 (by have := HB2.out.size; first | omega | (simp; done) | (simp; omega)) HNE).trans (keepf (bA (Below.refl _ _) _) (yf o) (by have := HB2.out.size; show wp.heap.size < _; omega))
            have zf0 := zf 0
            have zf1 := zf 1
            have zf2 := zf 2
            have HN5 : Hid (∀ y, (Value.slice A5 (ln + 1) c5).ownBlock = some y → y ≠ wp.heap.size) := hid (fun y hy e => by subst e; rcases h5 with h | h; (exact HNE (h.symm.trans hy)); (rw [hy] at h; injection h with h; first | (simp at h; done) | (simp at h; omega) | omega))
            have hz5 := g5.size
            try simp at hz5
            clear o5 b5 g5 h5
            refine hK.out _ _ (HK.out _ HB5.out) (fun hHeld => ?_)
            clear hK K
            try simp only [Act.put, List.setIfInBounds_toArray, List.set_cons_zero, List.set_cons_succ, List.getElem_toArray, List.getElem_cons_succ, List.getElem_cons_zero]
            refine wpAnyF_pure (i := 8) (v := ?vg1_34_8) rfl (by kernel_rfl) (by kernel_rfl) (by kernel_rfl) (fun _ _ _ h => h) (Or.inl ⟨by rfl, ?hyg1_34_8⟩) ?restg1_34_8
            case hyg1_34_8 => (intro w hSw; clear hSw; go_simp; (all_goals with_reducible rfl))
            try simp only [Act.put, List.setIfInBounds_toArray, List.set_cons_zero, List.set_cons_succ, List.getElem_toArray, List.getElem_cons_succ, List.getElem_cons_zero]
            refine wpAnyF_oneD (i := 10) (by kernel_rfl) (by kernel_rfl) rfl (fun K hK => ?_)
            go_simp
            refine hK.out _ _ ?_
            clear hK K
            try simp only [Act.put, List.setIfInBounds_toArray, List.set_cons_zero, List.set_cons_succ, List.getElem_toArray, List.getElem_cons_succ, List.getElem_cons_zero]
            refine wpAnyF_done (by kernel_rfl) ?_ _
            go_wp2_with fail
            go_meet
            have hlo : wp.heap.size ≤ wp.heap.size := Nat.le_refl _
            refine ⟨wp.heap.size, A5, c5, rfl, hlo, (by first | omega | (simp; done) | (simp; omega)), by go_simp, by go_simp, by go_simp, fun o => by simpa using zf o, ?_, ?_⟩
            · have h := rdx_own (s := wp.heap.size) (L := wp.heap.size) HO5.out (Nat.le_refl _) HN5.out
              simpa using (RdX.store (o := 2) (v := .slice none 0 0) (RdX.store (o := 1) (v := .slice A5 (ln + 1) c5) (RdX.store (o := 0) (v := .int .i64 bu) h)))
            · exact bS (bS (bS HB5.out hlo _) hlo _) hlo _
          refine AllReadyF.cons rfl (fun K hK => ?_) AllReadyF.nil
          go_simp
          refine hK.out _ _ (HK.out _ (bA hHeld.1 _)) (fun hHeld => ?_)
          clear hK K
          try simp only [Act.put, List.setIfInBounds_toArray, List.set_cons_zero, List.set_cons_succ, List.getElem_toArray, List.getElem_cons_succ, List.getElem_cons_zero]
          refine wpAnyF_one (i := 4) (by kernel_rfl) rfl (fun K hK => ?_)
          go_simp
          go_at_call 71
          refine (HCL.out _ hHeld.1).mono ?_
          rintro e w2 ⟨A2, k2, rfl, o2, b2⟩
          have HO2 := hid (own_more (base' := wp.heap.size) o2 hHeld.1.size)
          have HLB : Hid (∀ y, (Value.slice A2 ln k2).ownBlock = some y → wp.heap.size + 2 ≤ y) := hid (fun y hy => by have := (o2.lt y hy).1; simp at this; omega)
          have y0 : w2.cell? ⟨wp.heap.size, 0, none⟩ = some (.int .i64 0) := keepb b2 (by go_simp)
          have y1 : w2.cell? ⟨wp.heap.size, 1, none⟩ = some (.slice none 0 0) := keepb b2 (by go_simp)
          have y2 : w2.cell? ⟨wp.heap.size, 2, none⟩ = some (.slice none 0 0) := keepb b2 (by go_simp)
          have yf : ∀ o, w2.frozen? ⟨wp.heap.size, o, none⟩ = false := fun o => keepf b2 (by go_simp) (by first | (simp; done) | (simp; omega))
          have yf0 := yf 0
          have yf1 := yf 1
          have yf2 := yf 2
          have m0 : w2.cell? ⟨wp.heap.size + 1, 0, none⟩ = some (.int .i64 mt) := keepb b2 (by go_simp)
          have m1 : w2.cell? ⟨wp.heap.size + 1, 1, none⟩ = some (.int .i64 mv) := keepb b2 (by go_simp)
          have hz2 := b2.size
          try simp at hz2
          have HB2 := hid (bT hHeld.1 b2)
          clear o2 b2
          go_wp2_with fail
          refine hK.out _ _ (HK.out _ HB2.out) (fun hHeld => ?_)
          clear hK K
          try simp only [Act.put, List.setIfInBounds_toArray, List.set_cons_zero, List.set_cons_succ, List.getElem_toArray, List.getElem_cons_succ, List.getElem_cons_zero]
          refine wpAnyF_one (i := 7) (by kernel_rfl) rfl (fun K hK => ?_)
          refine step_app3 (news := [.int .i64 mt, .int .i64 mv]) (B := wp.heap.size + 1 + 1) rfl rfl el_mails rfl (own_below HO2.out (Below.refl _ _) (Nat.le_refl _)) rfl (rd_two (keepb (Below.refl _ _) m0) (keepb (Below.refl _ _) m1) (Nat.lt_succ_self _)) (two_mailN _ _) hSZ (by have := HB2.out.size; first | omega | (simp; done) | (simp; omega)) ?_
          intro A5 c5 w5 o5 b5 g5 h5
          have HO5 := hid o5
          have HB5 := hid (hHeld.1.trans b5)
          have H5 := hid h5
          have HNE : (Value.slice A2 ln k2).ownBlock ≠ some (wp.heap.size) := fun e => by have := HLB.out _ e; omega
          have z0 : w5.cell? ⟨wp.heap.size, 0, none⟩ = some (.int .i64 0) := (grown_cell g5 (by have := HB2.out.size; first | omega | (simp; done) | (simp; omega)) HNE).trans (keepb (Below.refl _ _) y0)
          have z1 : w5.cell? ⟨wp.heap.size, 1, none⟩ = some (.slice none 0 0) := (grown_cell g5 (by have := HB2.out.size; first | omega | (simp; done) | (simp; omega)) HNE).trans (keepb (Below.refl _ _) y1)
          have z2 : w5.cell? ⟨wp.heap.size, 2, none⟩ = some (.slice none 0 0) := (grown_cell g5 (by have := HB2.out.size; first | omega | (simp; done) | (simp; omega)) HNE).trans (keepb (Below.refl _ _) y2)
          have zf : ∀ o, w5.frozen? ⟨wp.heap.size, o, none⟩ = false := fun o => (grown_frozen g5 (by have := HB2.out.size; first | omega | (simp; done) | (simp; omega)) HNE).trans (keepf (Below.refl _ _) (yf o) (by have := HB2.out.size; show wp.heap.size < _; omega))
          have zf0 := zf 0
          have zf1 := zf 1
          have zf2 := zf 2
          have HN5 : Hid (∀ y, (Value.slice A5 (ln + 1) c5).ownBlock = some y → y ≠ wp.heap.size) := hid (fun y hy e => by subst e; rcases h5 with h | h; (exact HNE (h.symm.trans hy)); (rw [hy] at h; injection h with h; first | (simp at h; done) | (simp at h; omega) | omega))
          have hz5 := g5.size
          try simp at hz5
          clear o5 b5 g5 h5
          refine hK.out _ _ (HK.out _ HB5.out) (fun hHeld => ?_)
          clear hK K
          try simp only [Act.put, List.setIfInBounds_toArray, List.set_cons_zero, List.set_cons_succ, List.getElem_toArray, List.getElem_cons_succ, List.getElem_cons_zero]
          refine wpAnyF_pure (i := 8) (v := ?vg1_38_8) rfl (by kernel_rfl) (by kernel_rfl) (by kernel_rfl) (fun _ _ _ h => h) (Or.inl ⟨by rfl, ?hyg1_38_8⟩) ?restg1_38_8
          case hyg1_38_8 => (intro w hSw; clear hSw; go_simp; (all_goals with_reducible rfl))
          try simp only [Act.put, List.setIfInBounds_toArray, List.set_cons_zero, List.set_cons_succ, List.getElem_toArray, List.getElem_cons_succ, List.getElem_cons_zero]
          refine wpAnyF_oneD (i := 10) (by kernel_rfl) (by kernel_rfl) rfl (fun K hK => ?_)
          go_simp
          refine hK.out _ _ ?_
          clear hK K
          try simp only [Act.put, List.setIfInBounds_toArray, List.set_cons_zero, List.set_cons_succ, List.getElem_toArray, List.getElem_cons_succ, List.getElem_cons_zero]
          refine wpAnyF_done (by kernel_rfl) ?_ _
          go_wp2_with fail
          go_meet
          have hlo : wp.heap.size ≤ wp.heap.size := Nat.le_refl _
          refine ⟨wp.heap.size, A5, c5, rfl, hlo, (by first | omega | (simp; done) | (simp; omega)), by go_simp, by go_simp, by go_simp, fun o => by simpa using zf o, ?_, ?_⟩
          · have h := rdx_own (s := wp.heap.size) (L := wp.heap.size) HO5.out (Nat.le_refl _) HN5.out
            simpa using (RdX.store (o := 2) (v := .slice none 0 0) (RdX.store (o := 1) (v := .slice A5 (ln + 1) c5) (RdX.store (o := 0) (v := .int .i64 bu) h)))
          · exact bS (bS (bS HB5.out hlo _) hlo _) hlo _

        case rest =>
          obtain ⟨s, A1, c1, rfl, hs0, hsz, d0, d1, d2, df, hrx, hbx⟩ := hcut
          obtain ⟨T, hT⟩ : ∃ T, T = wc.heap.size := ⟨_, rfl⟩
          have hTT := Nat.le_of_eq hT
          have hsT : s < T := by omega
          rw [← hT] at hrx
          have HRX := hid (show RdX wc T s wp.heap.size A1 2 (ln + 1) ((lo ++ [(⟨mt, mv⟩ : Mail)]).flatMap Mail.cells) from by rw [List.flatMap_append]; exact hrx)
          have HBX := hid hbx
          have g2 := keepb hbx Q2.out
          clear hrx hT hsz hbx q0 q1 p0 p1 HK HCL
          go_wp2_with fail
          go_loopw [11, 45] (fun _ iv wr => QyRel bu (ln + 1) (lo ++ [(⟨mt, mv⟩ : Mail)]) rs w wp s T A1 c1 iv wr) (fun _ iv _ => rs.length - (intOf iv).toNat)
          case atStart => exact ⟨0, 0, none, [], Nat.zero_le _, rfl, d0, d1, d2, df, hid rfl, hid rfl, hid OwnGrid.nil, HRX, HBX.out, hTT⟩
          case round =>
            clear HRX HBX d0 d1 d2 df hTT g2
            obtain ⟨k, c3, A3, acc, hk, rfl, d0, d1, d2, df, HAL, HRW, HGR, HRX, hbel, hTz⟩ := hrel
            have hss : s < wr.heap.size := by omega
            have hbw := HB2.out.trans (hbel.mono HB2.out.size)
            by_cases hlt : k < rs.length
            · obtain ⟨x, hx⟩ : ∃ x, rs[k]? = some x := ⟨_, List.getElem?_eq_getElem hlt⟩
              have hxm := List.mem_of_getElem? hx
              obtain ⟨b, off, rfl, hb, c0⟩ := ml_cell (HG.out.1.below hbw) rfl hx
              have hkz : (k : Int) < (rs.length : Int) := by omega
              have HOC := hid (fun (V : World) (hV : Below wr.heap.size wr V) => cloneQ_walk x.l x.A x.l.length x.c V.heap.size V (rdb (Grid.data HG.out hxm) (by decide) (hbw.trans (hV.mono (by have := hbw.size; omega)))) (HZ.out x hxm))
              have HRN := hid (fun A c => rows_snoc A c HRW.out hx)
              have hSZ : (k + 1) * 24 ≤ 140737488355328 := by omega
              have HK12 : Hid (∀ V, Below wr.heap.size wr V → ((fun V => Below wr.heap.size wr V ∧ V.cell? ⟨s, 2, none⟩ = some (.slice A3 k c3)) : World → Prop) V) := hid fun V hV => ⟨hV, keepb hV d2⟩
              clear hx hxm HRW
              go_wp2_with fail
              refine wp_region_F (S := (fun V => Below wr.heap.size wr V ∧ V.cell? ⟨s, 2, none⟩ = some (.slice A3 k c3))) [5, 7] (by kernel_rfl) (HK12.out _ (bD (Below.refl _ _))) (fun hHeld => ?_)
              refine wpAnyF_pure (i := 0) (v := ?vg3_1_0) rfl (by kernel_rfl) (by kernel_rfl) (by kernel_rfl) (fun _ _ _ h => h) (Or.inl ⟨by rfl, ?hyg3_1_0⟩) ?restg3_1_0
              case hyg3_1_0 => (intro w hSw; clear hSw; go_simp; (all_goals with_reducible rfl))
              try simp only [Act.put, List.setIfInBounds_toArray, List.set_cons_zero, List.set_cons_succ, List.getElem_toArray, List.getElem_cons_succ, List.getElem_cons_zero]
              refine wpAnyF_pure (i := 2) (v := ?vg3_2_2) rfl (by kernel_rfl) (by kernel_rfl) (by kernel_rfl) (fun _ _ _ h => h) (Or.inl ⟨by rfl, ?hyg3_2_2⟩) ?restg3_2_2
              case hyg3_2_2 => (intro w hSw; clear hSw; go_simp; (all_goals with_reducible rfl))
              try simp only [Act.put, List.setIfInBounds_toArray, List.set_cons_zero, List.set_cons_succ, List.getElem_toArray, List.getElem_cons_succ, List.getElem_cons_zero]
              refine wpAnyF_take [5, 6, 7] (i := 1) (v := ?vg3_3_1) rfl (by kernel_rfl) (by kernel_rfl) (by kernel_rfl) (by kernel_rfl) (fun _ _ _ h => h) (Or.inl ⟨by rfl, ?hyg3_3_1⟩) (by assumption) ?restg3_3_1
              case hyg3_3_1 => (intro w hSw; (try dsimp only at hSw); go_simp; (all_goals with_reducible rfl))
              try simp only [Act.put, List.setIfInBounds_toArray, List.set_cons_zero, List.set_cons_succ, List.getElem_toArray, List.getElem_cons_succ, List.getElem_cons_zero]
              refine wpAnyF_one (i := 3) (by kernel_rfl) rfl (fun K hK => ?_)
              go_simp
              go_at_call 72
              refine (HOC.out _ hHeld.1).mono ?_
              rintro e w2 ⟨A2, k2, rfl, o2, b2⟩
              have HO2 := hid (own_more (base' := T) o2 (by have := hHeld.1.size; simp at this ⊢; omega))
              have HG2 := hid (HGR.out.below (bT hHeld.1 b2) (Nat.le_refl _))
              have HAS : Hid (Aside id A3 c3 acc (id (⟨A2, k2, x.l⟩ : ML Int))) := hid (OwnGrid.aside HGR.out (base' := _) o2 (by have := hHeld.1.size; omega))
              have HB2 := hid (bT hHeld.1 b2)
              clear o2
              go_wp2_with fail
              refine hK.out _ _ (HK12.out _ (bT hHeld.1 b2)) (fun hHeld => ?_)
              clear hK K
              try simp only [Act.put, List.setIfInBounds_toArray, List.set_cons_zero, List.set_cons_succ, List.getElem_toArray, List.getElem_cons_succ, List.getElem_cons_zero]
              refine wpAnyF_one (i := 4) (by kernel_rfl) rfl (fun K hK => ?_)
              go_simp
              refine hK.out _ _ (HK12.out _ (bA hHeld.1 _)) (fun hHeld => ?_)
              clear hK K
              try simp only [Act.put, List.setIfInBounds_toArray, List.set_cons_zero, List.set_cons_succ, List.getElem_toArray, List.getElem_cons_succ, List.getElem_cons_zero]
              refine wpAnyF_oneD (i := 5) (by kernel_rfl) (by kernel_rfl) rfl (fun K hK => ?_)
              refine step_grid (cells := u8c) (inner := id) (sz := 1) rfl rfl el_grid_u8 rfl HAL.out.symm (HG2.out.alloc _) (⟨A2, k2, x.l⟩ : ML Int) (own_below HO2.out (bA (Below.refl _ _) _) (Nat.le_refl _)) HAS.out rfl (rd_newAt _ _ _ 1 1 _ (by simp) rfl) (one_rowV _) hSZ (by have := HB2.out.size; simp at this ⊢; omega) ?_
              intro A5 c5 w5 o5 b5 g5
              have HO5 := hid o5
              have HB5 := hid b5
              have e0 : w5.cell? ⟨s, 0, none⟩ = some (.int .i64 bu) := (b5.cell (p := ⟨s, 0, none⟩) hsT).trans (keepb (bA HB2.out _) d0)
              have e1 : w5.cell? ⟨s, 1, none⟩ = some (.slice A1 (ln + 1) c1) := (b5.cell (p := ⟨s, 1, none⟩) hsT).trans (keepb (bA HB2.out _) d1)
              have e2 : w5.cell? ⟨s, 2, none⟩ = some (.slice A3 k c3) := (b5.cell (p := ⟨s, 2, none⟩) hsT).trans hHeld.2
              have ef : ∀ o, w5.frozen? ⟨s, o, none⟩ = false := fun o => (b5.frozen (p := ⟨s, o, none⟩) hsT).trans (keepf (bA HB2.out _) (df o) hss)
              have ef2 := ef 2
              clear o5 b5 g5
              refine hK.out _ _ ?_
              clear hK K
              try simp only [Act.put, List.setIfInBounds_toArray, List.set_cons_zero, List.set_cons_succ, List.getElem_toArray, List.getElem_cons_succ, List.getElem_cons_zero]
              refine wpAnyF_pure (i := 6) (v := ?vg3_7_6) rfl (by kernel_rfl) (by kernel_rfl) (by kernel_rfl) (fun _ _ _ h => h) (Or.inl ⟨by rfl, ?hyg3_7_6⟩) ?restg3_7_6
              case hyg3_7_6 => (intro w hSw; clear hSw; go_simp; (all_goals with_reducible rfl))
              try simp only [Act.put, List.setIfInBounds_toArray, List.set_cons_zero, List.set_cons_succ, List.getElem_toArray, List.getElem_cons_succ, List.getElem_cons_zero]
              refine wpAnyF_oneD (i := 7) (by kernel_rfl) (by kernel_rfl) rfl (fun K hK => ?_)
              go_simp
              refine hK.out _ _ ?_
              clear hK K
              try simp only [Act.put, List.setIfInBounds_toArray, List.set_cons_zero, List.set_cons_succ, List.getElem_toArray, List.getElem_cons_succ, List.getElem_cons_zero]
              refine wpAnyF_done (by kernel_rfl) ?_ _
              go_wp2_with fail
              go_roundw
              case rel =>
                refine ⟨k + 1, c5, A5, acc ++ [⟨A2, k2, x.l⟩], by omega, by go_num, cell_offs e0 (by decide), cell_offs e1 (by decide), World.cell?_setCell_same _ _ _ e2, fun o => by simpa using ef o, hid (by rw [List.length_append, HAL.out]; rfl), hid (HRN.out _ _), hid (OwnGrid.store HO5.out (by show s < T; exact hsT) _), hid ?_, ?_, ?_⟩
                · exact (HRX.out.below (((bA HB2.out _).mono hTz).trans HB5.out)).store
                · exact (hbel.trans (((bA HB2.out _).mono hbel.size).trans (HB5.out.mono (by omega)))).setCell hs0 _
                · have := HB5.out.size; have := HB2.out.size; simp at *; omega
              case measure => (simp [intOf]) <;> omega
            · obtain rfl : k = rs.length := by omega
              have hkz : ¬ (rs.length : Int) < (rs.length : Int) := by omega
              have HRF := hid (show rowsOf acc = rowsOf rs from by have h := HRW.out; rwa [List.take_length] at h)
              have g0 := keepb hbel Q0.out
              have y0 := keepb hbel Z0.out
              have y1 := keepb hbel Z1.out
              have y2 := keepb hbel Z2.out
              have yf : ∀ o, wr.frozen? ⟨G + 2, o, none⟩ = false := fun o => keepf hbel (ZF.out o) (by show G + 2 < _; omega)
              have HBW := hid hbw
              have hsw : s ≠ G + 2 := by omega
              have hge : w.heap.size ≤ G + 2 := by have := HGG.out; omega
              have df1 := df 1
              clear HRW hbw
              by_cases hbq : ((ln + 1 : Nat) : Int) = bu
              · have HV := hid (HPP2.out hbq)
                have hbz : ((ln : Int) + 1 == bu) = true := by rw [← hbq]; simp
                have HRS := hid (HRX.out.1.any (by decide))
                have HST := hid (sort_at (lo ++ [(⟨mt, mv⟩ : Mail)]) wr A1 c1 HLM.out HRS.out (by omega))
                have HVL := hid (HVS.out HOK.out HMB.out)
                have HSL := hid (show (srtOf mlt (lo ++ [(⟨mt, mv⟩ : Mail)])).length = ln + 1 from by rw [srtOf_len, HLM.out])
                generalize srtOf mlt (lo ++ [(⟨mt, mv⟩ : Mail)]) = sr at *
                have hpl := packM_len sr
                rw [HSL.out] at hpl
                have hln5 : ln + 1 ≤ 1000 := by omega
                clear hbq HPP2 HPL2 HRS
                go_wp2_with fail
                refine HST.out.mono ?_
                rintro e w6 ⟨A6, c6, rfl, o6, b6⟩
                have d0 := keepb b6 d0
                have d1 := keepb b6 d1
                have d2 := keepb b6 d2
                have df6 : ∀ o, w6.frozen? ⟨s, o, none⟩ = false := fun o => keepf b6 (df o) hss
                have df1 := df6 1
                have HO6 := hid o6
                have HB6 := hid b6
                have hz6 := b6.size
                have y0 := cell_far (g := s) (o := 1) (v := .slice none 0 0) (keepb b6 y0) (fun e => hsw e.symm)
                have y1 := cell_far (g := s) (o := 1) (v := .slice none 0 0) (keepb b6 y1) (fun e => hsw e.symm)
                have y2 := cell_far (g := s) (o := 1) (v := .slice none 0 0) (keepb b6 y2) (fun e => hsw e.symm)
                have yf : ∀ o, (w6.setCell ⟨s, 1, none⟩ (.slice none 0 0)).frozen? ⟨G + 2, o, none⟩ = false := fun o => by simpa using keepf b6 (yf o) (by show G + 2 < _; omega)
                have HBD : Hid (Below w.heap.size w (w6.setCell ⟨s, 1, none⟩ (.slice none 0 0))) := hid (bS (bT HBW.out b6) (by show w.heap.size ≤ s; omega) _)
                have HGR := hid ((HGR.out.below b6 (Nat.le_refl _)).store (a := ⟨s, 1, none⟩) (by show s < T; exact hsT) (.slice none 0 0))
                have HPR := hid (rd_own (own_grown o6 (grown_one w6 s 1 (.slice none 0 0)) (fun y hy e => by injection e with e; have := (o6.lt y hy).1; omega)))
                have HPK := hid (fun (V : World) (hV : Below (w6.setCell ⟨s, 1, none⟩ (.slice none 0 0)).heap.size (w6.setCell ⟨s, 1, none⟩ (.slice none 0 0)) V) => pack_walkQ sr V A6 (ln + 1) c6 (rdb HPR.out (by decide) hV) HSL.out hln5 HVL.out)
                unfold RetS at HPK
                generalize packM sr = pk at *
                have D0 := hid (cell_offs (o := 1) (v := .slice none 0 0) d0 (by decide))
                have D1 := hid (World.cell?_setCell_same w6 ⟨s, 1, none⟩ (.slice none 0 0) d1)
                have D2 := hid (cell_offs (o := 1) (v := .slice none 0 0) d2 (by decide))
                have DF : Hid (∀ o, (w6.setCell ⟨s, 1, none⟩ (.slice none 0 0)).frozen? ⟨s, o, none⟩ = false) := hid fun o => by simpa using df6 o
                have HK17 : Hid (∀ V, Below (w6.setCell ⟨s, 1, none⟩ (.slice none 0 0)).heap.size (w6.setCell ⟨s, 1, none⟩ (.slice none 0 0)) V → ((fun V => Below (w6.setCell ⟨s, 1, none⟩ (.slice none 0 0)).heap.size (w6.setCell ⟨s, 1, none⟩ (.slice none 0 0)) V ∧ V.cell? ⟨s, 2, none⟩ = some (.slice A3 rs.length c3)) : World → Prop) V) := hid fun V hV => ⟨hV, keepb hV D2.out⟩
                have hss6 : s < (w6.setCell ⟨s, 1, none⟩ (.slice none 0 0)).heap.size := by simp; omega
                have hSZ : (rs.length + 1) * 24 ≤ 140737488355328 := by omega
                have HYY := hid (And.intro y0 (And.intro y1 (And.intro y2 yf)))
                clear b6 o6 d0 d2 y0 y1 y2 yf g0
                go_upto_region 17 with fail
                go_cut [76] (fun _ wx => PuFin bu s G T (rs.length + 1) (rowsOf rs ++ [pk]) (.slice none 0 0) w wx)
                case first =>
                  clear d1 df1 df6
                  obtain ⟨y0, y1, y2, yf⟩ := HYY.out
                  have d0 := D0.out
                  have d1 := D1.out
                  have d2 := D2.out
                  have df := DF.out
                  have hss := hss6
                  clear HYY D0 D1 D2 DF hss6
                  refine wp_region_F (S := (fun V => Below (w6.setCell ⟨s, 1, none⟩ (.slice none 0 0)).heap.size (w6.setCell ⟨s, 1, none⟩ (.slice none 0 0)) V ∧ V.cell? ⟨s, 2, none⟩ = some (.slice A3 rs.length c3))) [5, 7] (by kernel_rfl) (HK17.out _ (bD (Below.refl _ _))) (fun hHeld => ?_)
                  refine wpAnyF_pure (i := 0) (v := ?vg2_1_0) rfl (by kernel_rfl) (by kernel_rfl) (by kernel_rfl) (fun _ _ _ h => h) (Or.inl ⟨by rfl, ?hyg2_1_0⟩) ?restg2_1_0
                  case hyg2_1_0 => (intro w hSw; clear hSw; go_simp; (all_goals with_reducible rfl))
                  try simp only [Act.put, List.setIfInBounds_toArray, List.set_cons_zero, List.set_cons_succ, List.getElem_toArray, List.getElem_cons_succ, List.getElem_cons_zero]
                  refine wpAnyF_pure (i := 2) (v := ?vg2_2_2) rfl (by kernel_rfl) (by kernel_rfl) (by kernel_rfl) (fun _ _ _ h => h) (Or.inl ⟨by rfl, ?hyg2_2_2⟩) ?restg2_2_2
                  case hyg2_2_2 => (intro w hSw; clear hSw; go_simp; (all_goals with_reducible rfl))
                  try simp only [Act.put, List.setIfInBounds_toArray, List.set_cons_zero, List.set_cons_succ, List.getElem_toArray, List.getElem_cons_succ, List.getElem_cons_zero]
                  refine wpAnyF_take [5, 6, 7] (i := 1) (v := ?vg2_3_1) rfl (by kernel_rfl) (by kernel_rfl) (by kernel_rfl) (by kernel_rfl) (fun _ _ _ h => h) (Or.inl ⟨by rfl, ?hyg2_3_1⟩) (by assumption) ?restg2_3_1
                  case hyg2_3_1 => (intro w hSw; (try dsimp only at hSw); go_simp; (all_goals with_reducible rfl))
                  try simp only [Act.put, List.setIfInBounds_toArray, List.set_cons_zero, List.set_cons_succ, List.getElem_toArray, List.getElem_cons_succ, List.getElem_cons_zero]
                  refine wpAnyF_one (i := 3) (by kernel_rfl) rfl (fun K hK => ?_)
                  go_simp
                  go_at_call 74
                  refine (HPK.out _ hHeld.1).mono ?_
                  rintro e w2 ⟨A2, k2, rfl, o2, b2⟩
                  have HO2 := hid (own_more (base' := T) o2 (by have := hHeld.1.size; simp at this ⊢; omega))
                  have HG2 := hid (HGR.out.below (bT hHeld.1 b2) (Nat.le_refl _))
                  have HAS : Hid (Aside id A3 c3 acc (id (⟨A2, k2, pk⟩ : ML Int))) := hid (OwnGrid.aside HGR.out (base' := _) o2 (by have := hHeld.1.size; omega))
                  have HB2 := hid (bT hHeld.1 b2)
                  clear o2
                  go_wp2_with fail
                  refine hK.out _ _ (HK17.out _ (bT hHeld.1 b2)) (fun hHeld => ?_)
                  clear hK K
                  try simp only [Act.put, List.setIfInBounds_toArray, List.set_cons_zero, List.set_cons_succ, List.getElem_toArray, List.getElem_cons_succ, List.getElem_cons_zero]
                  refine wpAnyF_one (i := 4) (by kernel_rfl) rfl (fun K hK => ?_)
                  go_simp
                  refine hK.out _ _ (HK17.out _ (bA hHeld.1 _)) (fun hHeld => ?_)
                  clear hK K
                  try simp only [Act.put, List.setIfInBounds_toArray, List.set_cons_zero, List.set_cons_succ, List.getElem_toArray, List.getElem_cons_succ, List.getElem_cons_zero]
                  refine wpAnyF_oneD (i := 5) (by kernel_rfl) (by kernel_rfl) rfl (fun K hK => ?_)
                  refine step_grid (cells := u8c) (inner := id) (sz := 1) rfl rfl el_grid_u8 rfl HAL.out.symm (HG2.out.alloc _) (⟨A2, k2, pk⟩ : ML Int) (own_below HO2.out (bA (Below.refl _ _) _) (Nat.le_refl _)) HAS.out rfl (rd_newAt _ _ _ 1 1 _ (by simp) rfl) (one_rowV _) hSZ (by have := HB2.out.size; simp at this ⊢; omega) ?_
                  intro A5 c5 w5 o5 b5 g5
                  have HO5 := hid o5
                  have HB5 := hid b5
                  have e0 : w5.cell? ⟨s, 0, none⟩ = some (.int .i64 bu) := (b5.cell (p := ⟨s, 0, none⟩) hsT).trans (keepb (bA HB2.out _) d0)
                  have e1 : w5.cell? ⟨s, 1, none⟩ = some (.slice none 0 0) := (b5.cell (p := ⟨s, 1, none⟩) hsT).trans (keepb (bA HB2.out _) d1)
                  have e2 : w5.cell? ⟨s, 2, none⟩ = some (.slice A3 rs.length c3) := (b5.cell (p := ⟨s, 2, none⟩) hsT).trans hHeld.2
                  have ef : ∀ o, w5.frozen? ⟨s, o, none⟩ = false := fun o => (b5.frozen (p := ⟨s, o, none⟩) hsT).trans (keepf (bA HB2.out _) (df o) hss)
                  have ef2 := ef 2
                  clear o5 b5 g5
                  refine hK.out _ _ ?_
                  clear hK K
                  try simp only [Act.put, List.setIfInBounds_toArray, List.set_cons_zero, List.set_cons_succ, List.getElem_toArray, List.getElem_cons_succ, List.getElem_cons_zero]
                  refine wpAnyF_pure (i := 6) (v := ?vg2_7_6) rfl (by kernel_rfl) (by kernel_rfl) (by kernel_rfl) (fun _ _ _ h => h) (Or.inl ⟨by rfl, ?hyg2_7_6⟩) ?restg2_7_6
                  case hyg2_7_6 => (intro w hSw; clear hSw; go_simp; (all_goals with_reducible rfl))
                  try simp only [Act.put, List.setIfInBounds_toArray, List.set_cons_zero, List.set_cons_succ, List.getElem_toArray, List.getElem_cons_succ, List.getElem_cons_zero]
                  refine wpAnyF_oneD (i := 7) (by kernel_rfl) (by kernel_rfl) rfl (fun K hK => ?_)
                  go_simp
                  refine hK.out _ _ ?_
                  clear hK K
                  try simp only [Act.put, List.setIfInBounds_toArray, List.set_cons_zero, List.set_cons_succ, List.getElem_toArray, List.getElem_cons_succ, List.getElem_cons_zero]
                  refine wpAnyF_done (by kernel_rfl) ?_ _
                  go_wp2_with fail
                  go_meet
                  have hGT : G + 2 < T := by omega
                  have YY : ∀ (o : Nat) (v : Value), (w6.setCell ⟨s, 1, none⟩ (.slice none 0 0)).cell? ⟨G + 2, o, none⟩ = some v → w5.cell? ⟨G + 2, o, none⟩ = some v := fun o v h => (HB5.out.cell (p := ⟨G + 2, o, none⟩) hGT).trans (keepb (bA HB2.out _) h)
                  refine ⟨A5, c5, acc ++ [⟨A2, k2, pk⟩], cell_offs e0 (by decide), cell_offs e1 (by decide), World.cell?_setCell_same _ _ _ e2, cell_far (YY _ _ y0) (fun e => hsw e.symm), cell_far (YY _ _ y1) (fun e => hsw e.symm), cell_far (YY _ _ y2) (fun e => hsw e.symm), fun o => ?_, by rw [List.length_append, HAL.out]; rfl, hid (by unfold rowsOf at *; rw [List.map_append, HRF.out]; rfl), hid (OwnGrid.store HO5.out (by show s < T; exact hsT) _), hid ?_⟩
                  · have h : w5.frozen? ⟨G + 2, o, none⟩ = false := (HB5.out.frozen (p := ⟨G + 2, o, none⟩) hGT).trans (keepf (bA HB2.out _) (yf o) (by simp; omega))
                    simpa using h
                  · have h1 := (bA HB2.out (.cells #[.slice A2 pk.length k2] 41)).mono (show w.heap.size ≤ _ from HBD.out.size)
                    exact ((HBD.out.trans h1).trans (HB5.out.mono (by omega))).setCell (by show w.heap.size ≤ s; omega) _

                case rest =>
                  obtain ⟨A5, c5, acc5, e0, e1, e2, y0, y1, y2, yf, hal, HRR, HGG5, HBB⟩ := hcut
                  have yf0 := yf 0
                  have yf1 := yf 1
                  have yf2 := yf 2
                  have HAL5 := hid hal
                  clear hal yf d1 df1 df6
                  go_wp2_with fail
                  refine bodyPost_ret (v := .tuple #[.agg #[.int .i64 bu, .slice none 0 0, .slice A5 (rs.length + 1) c5], .int .i64 0]) (by simp [results, Try.results30, go_sem, *]) rfl ?_
                  have hGF := ((HGG5.out.store (a := ⟨G + 2, 0, none⟩) (by show G + 2 < T; omega) (.int .i64 bu)).store (a := ⟨G + 2, 1, none⟩) (by show G + 2 < T; omega) (.slice none 0 0)).store (a := ⟨G + 2, 2, none⟩) (by show G + 2 < T; omega) (.slice A5 (rs.length + 1) c5)
                  rw [HV.out]
                  refine ⟨none, 0, A5, c5, acc5, by rw [HAL5.out]; rfl, HRR.out, Rd.nil_, OwnGrid.led (show OwnGrid ML.cells id u8c 41 5 1 1 _ T A5 c5 acc5 from hGF), ?_⟩
                  exact bS (bS (bS HBB.out hge _) hge _) hge _
              · have HV := hid (HPL2.out hbq)
                have hbz : ((ln : Int) + 1 == bu) = false := by rw [beq_eq_false_iff_ne]; omega
                have yf0 := yf 0
                have yf1 := yf 1
                have yf2 := yf 2
                clear hbq HPP2 HPL2 df1
                go_wp2_with fail
                refine bodyPost_ret (v := .tuple #[.agg #[.int .i64 bu, .slice A1 (ln + 1) c1, .slice A3 rs.length c3], .int .i64 0]) (by simp [results, Try.results30, go_sem, *]) rfl ?_
                have hGF := ((HGR.out.store (a := ⟨G + 2, 0, none⟩) (by show G + 2 < T; omega) (.int .i64 bu)).store (a := ⟨G + 2, 1, none⟩) (by show G + 2 < T; omega) (.slice A1 (ln + 1) c1)).store (a := ⟨G + 2, 2, none⟩) (by show G + 2 < T; omega) (.slice A3 rs.length c3)
                have hRF := (((HRX.out.low (g := G + 2) (o := 0) (v := .int .i64 bu) (by omega)).low (g := G + 2) (o := 1) (v := .slice A1 (ln + 1) c1) (by omega)).low (g := G + 2) (o := 2) (v := .slice A3 rs.length c3) (by omega)).1
                rw [HV.out]
                refine ⟨A1, c1, A3, c3, acc, ?_, HRF.out, ?_, OwnGrid.led (show OwnGrid ML.cells id u8c 41 5 1 1 _ T A3 c3 acc from hGF), ?_⟩
                · rw [HAL.out]; show _ = Ending.returned (.tuple #[.agg #[.int .i64 bu, .slice A1 (lo ++ [(⟨mt, mv⟩ : Mail)]).length c1, .slice A3 rs.length c3], .int .i64 0]); rw [HLM.out]
                · show Rd _ _ A1 2 (lo ++ [(⟨mt, mv⟩ : Mail)]).length _; rw [HLM.out]; exact hRF.any (by decide)
                · exact bS (bS (bS HBW.out hge _) hge _) hge _
end Go.Proofs.Ytifpngjipkmdcaa
