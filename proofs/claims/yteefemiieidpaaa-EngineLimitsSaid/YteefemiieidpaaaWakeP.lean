/- prog.Wake. -/
import Derived.Test.YteefemiieidpaaaWakeJ
namespace Go.Proofs.Yteefemiieidpaaa
open Go.ChangeShapes Go.WideShapes Go.ChangeAt Go.RowKit
set_option linter.unusedVariables false
set_option linter.unusedSimpArgs false
def badM (k : Int) (l : List Int) : Prop := ∃ m ∈ l, m < 0 ∨ topS k < m
noncomputable def kindWV (k v src : Int) (x : Val) (p : Int) (fresh : Bool) (l : List Int) : Val × Bool :=
  if k = 1 then distWV v src x fresh l else if k = 2 then weakWV v x fresh l else strongWV v x p fresh l
open Classical in
noncomputable def wakeV (k v src : Int) (x : Val) (p : Int) (fresh : Bool) (l : List Int) : Val × Bool × Int :=
  if kindB k p = false then (⟨0, 0⟩, false, 3) else if v < 0 ∨ 200 ≤ v ∨ vB k x = false ∨ badM k l then (⟨0, 0⟩, false, 2) else ((kindWV k v src x p fresh l).1, (kindWV k v src x p fresh l).2, 0)
theorem wakeV_kind {k v src p : Int} {x : Val} {fresh : Bool} {l : List Int} (h : kindB k p = false) : wakeV k v src x p fresh l = (⟨0, 0⟩, false, 3) := by unfold wakeV; rw [if_pos h]
theorem wakeV_bad {k v src p : Int} {x : Val} {fresh : Bool} {l : List Int} (h : kindB k p = true) (h2 : v < 0 ∨ 200 ≤ v ∨ vB k x = false ∨ badM k l) : wakeV k v src x p fresh l = (⟨0, 0⟩, false, 2) := by unfold wakeV; rw [if_neg (by rw [h]; simp), if_pos h2]
theorem wakeV_ok {k v src p : Int} {x : Val} {fresh : Bool} {l : List Int} (h : kindB k p = true) (h2 : ¬ (v < 0 ∨ 200 ≤ v ∨ vB k x = false ∨ badM k l)) : wakeV k v src x p fresh l = ((kindWV k v src x p fresh l).1, (kindWV k v src x p fresh l).2, 0) := by unfold wakeV; rw [if_neg (by rw [h]; simp), if_neg h2]
abbrev RetVBE (w : World) (r : Val × Bool × Int) (e : Ending) (w' : World) : Prop := e = .returned (.tuple #[.agg #[.int .i64 r.1.a, .int .i64 r.1.label], .bool r.2.1, .int .i64 r.2.2]) ∧ Below w.heap.size w w'
set_option maxRecDepth 100000 in
set_option maxHeartbeats 4000000 in
theorem wake1_walk (v src : Int) (x : Val) (p : Int) (fresh : Bool) (l : List Int) (w : World) (A : Option Addr) (c : Nat) (hr : Rd w w.heap.size A 1 l.length (l.flatMap i64c)) (hl : l.length * 8 ≤ 140737488355328) :
    Calls Try.prog 21 #[.int .i64 1, .int .i64 v, .int .i64 src, .agg #[.int .i64 x.a, .int .i64 x.label], .int .i64 p, .bool fresh, .slice A l.length c] w (RetVBE w (wakeV 1 v src x p fresh l)) := by
  have hj := hid (jobOf_walk 1)
  have hph := phases_walk 1 p
  have b0 := bA (bA (Below.refl w.heap.size w) (.cells #[.int .i64 x.a, .int .i64 x.label] 50)) (.cells #[.int .i64 0, .int .i64 0] 50)
  have hV := value_walk 1 x ((w.alloc (.cells #[.int .i64 x.a, .int .i64 x.label] 50)).alloc (.cells #[.int .i64 0, .int .i64 0] 50))
  have hkb : kindB 1 p = (decide (p = 0) || (decide ((1 : Int) = 3) && decide (p = 1))) := by unfold kindB; rw [show inB 1 1 3 = true from rfl, Bool.true_and]
  cases hp : (decide (p = 0) || (decide ((1 : Int) = 3) && decide (p = 1))) with
  | false =>
    have HE := hid (wakeV_kind (v := v) (src := src) (x := x) (fresh := fresh) (l := l) (hkb.trans hp))
    rw [hp] at hph
    have HPH := hid hph
    clear hp hph hV hkb
    go_enter Try.func21, Try.ntmps21
    go_wp2_with fail
    refine (hj.out _).mono ?_
    rintro e w' ⟨rfl, rfl⟩
    rw [show jobI 1 = .iface 92 (.agg #[]) from rfl]
    go_wp2_with fail
    refine (HPH.out _).mono ?_
    rintro e w' ⟨rfl, rfl⟩
    go_wp2_with fail
    refine bodyPost_ret (v := .tuple #[.agg #[.int .i64 0, .int .i64 0], .bool false, .int .i64 3]) (by simp [results, Try.results21, go_sem, *]) rfl ?_
    rw [HE.out]
    refine ⟨rfl, ?_⟩
    repeat (with_reducible refine bS ?_ (by simp; try omega) _)
    exact b0
  | true =>
    have hk := hkb.trans hp
    rw [hp] at hph
    have HPH := hid hph
    clear hp hph hkb
    by_cases hv0 : v < 0
    · have HE := hid (wakeV_bad (v := v) (src := src) (x := x) (fresh := fresh) (l := l) hk (.inl hv0))
      clear hV hk
      go_enter Try.func21, Try.ntmps21
      go_wp2_with fail
      refine (hj.out _).mono ?_
      rintro e w' ⟨rfl, rfl⟩
      rw [show jobI 1 = .iface 92 (.agg #[]) from rfl]
      go_wp2_with fail
      refine (HPH.out _).mono ?_
      rintro e w' ⟨rfl, rfl⟩
      go_wp2_with fail
      refine bodyPost_ret (v := .tuple #[.agg #[.int .i64 0, .int .i64 0], .bool false, .int .i64 2]) (by simp [results, Try.results21, go_sem, *]) rfl ?_
      rw [HE.out]
      refine ⟨rfl, ?_⟩
      repeat (with_reducible refine bS ?_ (by simp; try omega) _)
      exact b0
    by_cases hv2 : 200 ≤ v
    · have HE := hid (wakeV_bad (v := v) (src := src) (x := x) (fresh := fresh) (l := l) hk (.inr (.inl hv2)))
      clear hV hk
      go_enter Try.func21, Try.ntmps21
      go_wp2_with fail
      refine (hj.out _).mono ?_
      rintro e w' ⟨rfl, rfl⟩
      rw [show jobI 1 = .iface 92 (.agg #[]) from rfl]
      go_wp2_with fail
      refine (HPH.out _).mono ?_
      rintro e w' ⟨rfl, rfl⟩
      go_wp2_with fail
      refine bodyPost_ret (v := .tuple #[.agg #[.int .i64 0, .int .i64 0], .bool false, .int .i64 2]) (by simp [results, Try.results21, go_sem, *]) rfl ?_
      rw [HE.out]
      refine ⟨rfl, ?_⟩
      repeat (with_reducible refine bS ?_ (by simp; try omega) _)
      exact b0
    cases hx : vB 1 x with
    | false =>
      have HE := hid (wakeV_bad (v := v) (src := src) (x := x) (fresh := fresh) (l := l) hk (.inr (.inr (.inl hx))))
      rw [hx] at hV
      have HVV := hid hV
      clear hV hk hx
      go_enter Try.func21, Try.ntmps21
      go_wp2_with fail
      refine (hj.out _).mono ?_
      rintro e w' ⟨rfl, rfl⟩
      rw [show jobI 1 = .iface 92 (.agg #[]) from rfl]
      go_wp2_with fail
      refine (HPH.out _).mono ?_
      rintro e w' ⟨rfl, rfl⟩
      go_wp2_with fail
      refine HVV.out.mono ?_
      rintro e w1 ⟨rfl, b1⟩
      have bb := bT b0 b1
      have q0 : w1.cell? ⟨w.heap.size, 0, none⟩ = some (.int .i64 x.a) := keepb b1 (by go_simp)
      have q1 : w1.cell? ⟨w.heap.size, 1, none⟩ = some (.int .i64 x.label) := keepb b1 (by go_simp)
      have z0 : w1.cell? ⟨w.heap.size + 1, 0, none⟩ = some (.int .i64 0) := keepb b1 (by go_simp)
      have z1 : w1.cell? ⟨w.heap.size + 1, 1, none⟩ = some (.int .i64 0) := keepb b1 (by go_simp)
      have zf : ∀ o, w1.frozen? ⟨w.heap.size + 1, o, none⟩ = false := fun o => keepf b1 (by go_simp) (by simp)
      have hs1 : w.heap.size + 2 ≤ w1.heap.size := by have := b1.size; simp at this; omega
      clear b1
      go_wp2_with fail
      refine bodyPost_ret (v := .tuple #[.agg #[.int .i64 0, .int .i64 0], .bool false, .int .i64 2]) (by simp [results, Try.results21, go_sem, *]) rfl ?_
      rw [HE.out]
      refine ⟨rfl, ?_⟩
      repeat (with_reducible refine bS ?_ (by simp; try omega) _)
      exact bb
    | true =>
      rw [hx] at hV
      have HVV := hid hV
      have HBAD : Hid (∀ m ∈ l, (m < 0 ∨ topS 1 < m) → wakeV 1 v src x p fresh l = (⟨0, 0⟩, false, 2)) := hid fun m hm hb => wakeV_bad hk (.inr (.inr (.inr ⟨m, hm, hb⟩)))
      have HOK : Hid ((∀ (j : Nat) (m : Int), l[j]? = some m → ¬ (m < 0 ∨ topS 1 < m)) → wakeV 1 v src x p fresh l = ((distWV v src x fresh l).1, (distWV v src x fresh l).2, 0)) := hid fun hall => wakeV_ok hk (by
        rintro (h | h | h | ⟨m, hm, hb⟩)
        · exact hv0 h
        · exact hv2 h
        · rw [hx] at h; cases h
        · obtain ⟨j, hj⟩ := List.mem_iff_getElem?.1 hm; exact hall j m hj hb)
      have ht := hid (topS_walk 1)
      have hm : ∀ w, (method 238 92 (.agg #[]) "paceline/prog.wake").run Try.prog w = .ok (94, .agg #[]) w := fun _ => by kernel_rfl
      clear hV hk hx
      go_enter Try.func21, Try.ntmps21
      go_wp2_with fail
      refine (hj.out _).mono ?_
      rintro e w' ⟨rfl, rfl⟩
      rw [show jobI 1 = .iface 92 (.agg #[]) from rfl]
      go_wp2_with fail
      refine (HPH.out _).mono ?_
      rintro e w' ⟨rfl, rfl⟩
      go_wp2_with fail
      refine HVV.out.mono ?_
      rintro e w1 ⟨rfl, b1⟩
      have bb := bT b0 b1
      have q0 : w1.cell? ⟨w.heap.size, 0, none⟩ = some (.int .i64 x.a) := keepb b1 (by go_simp)
      have q1 : w1.cell? ⟨w.heap.size, 1, none⟩ = some (.int .i64 x.label) := keepb b1 (by go_simp)
      have z0 : w1.cell? ⟨w.heap.size + 1, 0, none⟩ = some (.int .i64 0) := keepb b1 (by go_simp)
      have z1 : w1.cell? ⟨w.heap.size + 1, 1, none⟩ = some (.int .i64 0) := keepb b1 (by go_simp)
      have zf : ∀ o, w1.frozen? ⟨w.heap.size + 1, o, none⟩ = false := fun o => keepf b1 (by go_simp) (by simp)
      have hs1 : w.heap.size + 2 ≤ w1.heap.size := by have := b1.size; simp at this; omega
      clear b1
      go_wp2_with fail
      go_loopw [19, 48] (fun _ i wr => ∃ k : Nat, k ≤ l.length ∧ i = .int .i64 k ∧ w1 = wr ∧ Hid (∀ (j : Nat) (m : Int), j < k → l[j]? = some m → ¬ (m < 0 ∨ topS 1 < m))) (fun _ i _ => l.length - (intOf i).toNat)
      case atStart => exact ⟨0, by omega, rfl, rfl, hid fun j y hj => by omega⟩
      case round =>
        obtain ⟨k, hk, rfl, rfl, H0⟩ := hrel
        by_cases hlt : k < l.length
        · obtain ⟨m, hmk⟩ : ∃ m, l[k]? = some m := ⟨_, List.getElem?_eq_getElem hlt⟩
          obtain ⟨b, off, rfl, hb, c0⟩ := icellW (hr.below bb) rfl hmk
          have hkz : (k : Int) < (l.length : Int) := by omega
          have hbn : b ≠ w.heap.size := by omega
          have hbn1 : b ≠ w.heap.size + 1 := by omega
          have hb1 : b < w1.heap.size := by omega
          have HM := hid hmk
          clear hmk
          by_cases hm0 : m < 0
          · have HE := hid (HBAD.out m (List.mem_of_getElem? HM.out) (.inl hm0))
            go_wp2_with fail
            refine bodyPost_ret (v := .tuple #[.agg #[.int .i64 0, .int .i64 0], .bool false, .int .i64 2]) (by simp [results, Try.results21, go_sem, *]) rfl ?_
            rw [HE.out]
            refine ⟨rfl, ?_⟩
            repeat (with_reducible refine bS ?_ (by simp; try omega) _)
            exact bb
          by_cases hmt : topS 1 < m
          · have HE := hid (HBAD.out m (List.mem_of_getElem? HM.out) (.inr hmt))
            go_wp2_with fail
            refine (ht.out _).mono ?_
            rintro e w' ⟨rfl, rfl⟩
            go_wp2_with fail
            refine bodyPost_ret (v := .tuple #[.agg #[.int .i64 0, .int .i64 0], .bool false, .int .i64 2]) (by simp [results, Try.results21, go_sem, *]) rfl ?_
            rw [HE.out]
            refine ⟨rfl, ?_⟩
            repeat (with_reducible refine bS ?_ (by simp; try omega) _)
            exact bb
          have HN : Hid (∀ (j : Nat) (y : Int), j < k + 1 → l[j]? = some y → ¬ (y < 0 ∨ topS 1 < y)) := hid fun j y hj hy => by
            rcases Nat.lt_or_ge j k with h2 | h2
            · exact H0.out j y h2 hy
            · obtain rfl : j = k := by omega
              rw [HM.out] at hy; injection hy with hy; rw [← hy]; omega
          go_wp2_with fail
          refine (ht.out _).mono ?_
          rintro e w' ⟨rfl, rfl⟩
          go_wp2_with fail
          go_roundw
          case rel => exact ⟨k + 1, by omega, by go_num, by first | rfl | trivial, HN⟩
          case measure => simp [intOf]; omega
        · obtain rfl : k = l.length := by omega
          have HE := hid (HOK.out fun j m hj => H0.out j m (List.getElem?_eq_some_iff.1 hj).1 hj)
          have HC := hid (distWake_walk v src x p fresh l w1 A c (rdb hr (by have := bb.size; omega) bb) hl)
          generalize distWV v src x fresh l = z at HC HE
          obtain ⟨⟨za, zl⟩, zs⟩ := z
          go_wp2_with fail
          refine HC.out.mono ?_
          rintro e w2 ⟨rfl, b2⟩
          have hs2 : w.heap.size + 2 ≤ w2.heap.size := by have := b2.size; omega
          have y0 : w2.cell? ⟨w.heap.size + 1, 0, none⟩ = some (.int .i64 0) := keepb b2 z0
          have y1 : w2.cell? ⟨w.heap.size + 1, 1, none⟩ = some (.int .i64 0) := keepb b2 z1
          have yf : ∀ o, w2.frozen? ⟨w.heap.size + 1, o, none⟩ = false := fun o => keepf b2 (zf o) (by simp; omega)
          have b3 := bT bb b2
          clear b2
          have yg : ∀ (cs : Array Value) (t : TypeId) (o : Nat), (w2.alloc (.cells cs t)).frozen? ⟨w.heap.size + 1, o, none⟩ = false := fun cs t o => (frozen?_alloc_cells _ _ _ _).trans (yf o)
          have x0 : ∀ (cs : Array Value) (t : TypeId), (w2.alloc (.cells cs t)).cell? ⟨w.heap.size + 1, 0, none⟩ = some (.int .i64 0) := fun cs t => keepb (bA (Below.refl w2.heap.size w2) (.cells cs t)) y0
          have x1 : ∀ (cs : Array Value) (t : TypeId), (w2.alloc (.cells cs t)).cell? ⟨w.heap.size + 1, 1, none⟩ = some (.int .i64 0) := fun cs t => keepb (bA (Below.refl w2.heap.size w2) (.cells cs t)) y1
          have hne : w.heap.size + 1 ≠ w2.heap.size := by omega
          go_wp2_with fail
          refine bodyPost_ret (v := .tuple #[.agg #[.int .i64 za, .int .i64 zl], .bool zs, .int .i64 0]) (by simp [results, Try.results21, go_sem, *]) rfl ?_
          rw [HE.out]
          refine ⟨rfl, ?_⟩
          repeat (with_reducible refine bS ?_ (by simp; try omega) _)
          exact (bA b3 _)
set_option maxRecDepth 100000 in
set_option maxHeartbeats 4000000 in
theorem wake2_walk (v src : Int) (x : Val) (p : Int) (fresh : Bool) (l : List Int) (w : World) (A : Option Addr) (c : Nat) (hr : Rd w w.heap.size A 1 l.length (l.flatMap i64c)) (hl : l.length * 8 ≤ 140737488355328) :
    Calls Try.prog 21 #[.int .i64 2, .int .i64 v, .int .i64 src, .agg #[.int .i64 x.a, .int .i64 x.label], .int .i64 p, .bool fresh, .slice A l.length c] w (RetVBE w (wakeV 2 v src x p fresh l)) := by
  have hj := hid (jobOf_walk 2)
  have hph := phases_walk 2 p
  have b0 := bA (bA (Below.refl w.heap.size w) (.cells #[.int .i64 x.a, .int .i64 x.label] 50)) (.cells #[.int .i64 0, .int .i64 0] 50)
  have hV := value_walk 2 x ((w.alloc (.cells #[.int .i64 x.a, .int .i64 x.label] 50)).alloc (.cells #[.int .i64 0, .int .i64 0] 50))
  have hkb : kindB 2 p = (decide (p = 0) || (decide ((2 : Int) = 3) && decide (p = 1))) := by unfold kindB; rw [show inB 2 1 3 = true from rfl, Bool.true_and]
  cases hp : (decide (p = 0) || (decide ((2 : Int) = 3) && decide (p = 1))) with
  | false =>
    have HE := hid (wakeV_kind (v := v) (src := src) (x := x) (fresh := fresh) (l := l) (hkb.trans hp))
    rw [hp] at hph
    have HPH := hid hph
    clear hp hph hV hkb
    go_enter Try.func21, Try.ntmps21
    go_wp2_with fail
    refine (hj.out _).mono ?_
    rintro e w' ⟨rfl, rfl⟩
    rw [show jobI 2 = .iface 93 (.agg #[]) from rfl]
    go_wp2_with fail
    refine (HPH.out _).mono ?_
    rintro e w' ⟨rfl, rfl⟩
    go_wp2_with fail
    refine bodyPost_ret (v := .tuple #[.agg #[.int .i64 0, .int .i64 0], .bool false, .int .i64 3]) (by simp [results, Try.results21, go_sem, *]) rfl ?_
    rw [HE.out]
    refine ⟨rfl, ?_⟩
    repeat (with_reducible refine bS ?_ (by simp; try omega) _)
    exact b0
  | true =>
    have hk := hkb.trans hp
    rw [hp] at hph
    have HPH := hid hph
    clear hp hph hkb
    by_cases hv0 : v < 0
    · have HE := hid (wakeV_bad (v := v) (src := src) (x := x) (fresh := fresh) (l := l) hk (.inl hv0))
      clear hV hk
      go_enter Try.func21, Try.ntmps21
      go_wp2_with fail
      refine (hj.out _).mono ?_
      rintro e w' ⟨rfl, rfl⟩
      rw [show jobI 2 = .iface 93 (.agg #[]) from rfl]
      go_wp2_with fail
      refine (HPH.out _).mono ?_
      rintro e w' ⟨rfl, rfl⟩
      go_wp2_with fail
      refine bodyPost_ret (v := .tuple #[.agg #[.int .i64 0, .int .i64 0], .bool false, .int .i64 2]) (by simp [results, Try.results21, go_sem, *]) rfl ?_
      rw [HE.out]
      refine ⟨rfl, ?_⟩
      repeat (with_reducible refine bS ?_ (by simp; try omega) _)
      exact b0
    by_cases hv2 : 200 ≤ v
    · have HE := hid (wakeV_bad (v := v) (src := src) (x := x) (fresh := fresh) (l := l) hk (.inr (.inl hv2)))
      clear hV hk
      go_enter Try.func21, Try.ntmps21
      go_wp2_with fail
      refine (hj.out _).mono ?_
      rintro e w' ⟨rfl, rfl⟩
      rw [show jobI 2 = .iface 93 (.agg #[]) from rfl]
      go_wp2_with fail
      refine (HPH.out _).mono ?_
      rintro e w' ⟨rfl, rfl⟩
      go_wp2_with fail
      refine bodyPost_ret (v := .tuple #[.agg #[.int .i64 0, .int .i64 0], .bool false, .int .i64 2]) (by simp [results, Try.results21, go_sem, *]) rfl ?_
      rw [HE.out]
      refine ⟨rfl, ?_⟩
      repeat (with_reducible refine bS ?_ (by simp; try omega) _)
      exact b0
    cases hx : vB 2 x with
    | false =>
      have HE := hid (wakeV_bad (v := v) (src := src) (x := x) (fresh := fresh) (l := l) hk (.inr (.inr (.inl hx))))
      rw [hx] at hV
      have HVV := hid hV
      clear hV hk hx
      go_enter Try.func21, Try.ntmps21
      go_wp2_with fail
      refine (hj.out _).mono ?_
      rintro e w' ⟨rfl, rfl⟩
      rw [show jobI 2 = .iface 93 (.agg #[]) from rfl]
      go_wp2_with fail
      refine (HPH.out _).mono ?_
      rintro e w' ⟨rfl, rfl⟩
      go_wp2_with fail
      refine HVV.out.mono ?_
      rintro e w1 ⟨rfl, b1⟩
      have bb := bT b0 b1
      have q0 : w1.cell? ⟨w.heap.size, 0, none⟩ = some (.int .i64 x.a) := keepb b1 (by go_simp)
      have q1 : w1.cell? ⟨w.heap.size, 1, none⟩ = some (.int .i64 x.label) := keepb b1 (by go_simp)
      have z0 : w1.cell? ⟨w.heap.size + 1, 0, none⟩ = some (.int .i64 0) := keepb b1 (by go_simp)
      have z1 : w1.cell? ⟨w.heap.size + 1, 1, none⟩ = some (.int .i64 0) := keepb b1 (by go_simp)
      have zf : ∀ o, w1.frozen? ⟨w.heap.size + 1, o, none⟩ = false := fun o => keepf b1 (by go_simp) (by simp)
      have hs1 : w.heap.size + 2 ≤ w1.heap.size := by have := b1.size; simp at this; omega
      clear b1
      go_wp2_with fail
      refine bodyPost_ret (v := .tuple #[.agg #[.int .i64 0, .int .i64 0], .bool false, .int .i64 2]) (by simp [results, Try.results21, go_sem, *]) rfl ?_
      rw [HE.out]
      refine ⟨rfl, ?_⟩
      repeat (with_reducible refine bS ?_ (by simp; try omega) _)
      exact bb
    | true =>
      rw [hx] at hV
      have HVV := hid hV
      have HBAD : Hid (∀ m ∈ l, (m < 0 ∨ topS 2 < m) → wakeV 2 v src x p fresh l = (⟨0, 0⟩, false, 2)) := hid fun m hm hb => wakeV_bad hk (.inr (.inr (.inr ⟨m, hm, hb⟩)))
      have HOK : Hid ((∀ (j : Nat) (m : Int), l[j]? = some m → ¬ (m < 0 ∨ topS 2 < m)) → wakeV 2 v src x p fresh l = ((weakWV v x fresh l).1, (weakWV v x fresh l).2, 0)) := hid fun hall => wakeV_ok hk (by
        rintro (h | h | h | ⟨m, hm, hb⟩)
        · exact hv0 h
        · exact hv2 h
        · rw [hx] at h; cases h
        · obtain ⟨j, hj⟩ := List.mem_iff_getElem?.1 hm; exact hall j m hj hb)
      have ht := hid (topS_walk 2)
      have hm : ∀ w, (method 238 93 (.agg #[]) "paceline/prog.wake").run Try.prog w = .ok (98, .agg #[]) w := fun _ => by kernel_rfl
      clear hV hk hx
      go_enter Try.func21, Try.ntmps21
      go_wp2_with fail
      refine (hj.out _).mono ?_
      rintro e w' ⟨rfl, rfl⟩
      rw [show jobI 2 = .iface 93 (.agg #[]) from rfl]
      go_wp2_with fail
      refine (HPH.out _).mono ?_
      rintro e w' ⟨rfl, rfl⟩
      go_wp2_with fail
      refine HVV.out.mono ?_
      rintro e w1 ⟨rfl, b1⟩
      have bb := bT b0 b1
      have q0 : w1.cell? ⟨w.heap.size, 0, none⟩ = some (.int .i64 x.a) := keepb b1 (by go_simp)
      have q1 : w1.cell? ⟨w.heap.size, 1, none⟩ = some (.int .i64 x.label) := keepb b1 (by go_simp)
      have z0 : w1.cell? ⟨w.heap.size + 1, 0, none⟩ = some (.int .i64 0) := keepb b1 (by go_simp)
      have z1 : w1.cell? ⟨w.heap.size + 1, 1, none⟩ = some (.int .i64 0) := keepb b1 (by go_simp)
      have zf : ∀ o, w1.frozen? ⟨w.heap.size + 1, o, none⟩ = false := fun o => keepf b1 (by go_simp) (by simp)
      have hs1 : w.heap.size + 2 ≤ w1.heap.size := by have := b1.size; simp at this; omega
      clear b1
      go_wp2_with fail
      go_loopw [19, 48] (fun _ i wr => ∃ k : Nat, k ≤ l.length ∧ i = .int .i64 k ∧ w1 = wr ∧ Hid (∀ (j : Nat) (m : Int), j < k → l[j]? = some m → ¬ (m < 0 ∨ topS 2 < m))) (fun _ i _ => l.length - (intOf i).toNat)
      case atStart => exact ⟨0, by omega, rfl, rfl, hid fun j y hj => by omega⟩
      case round =>
        obtain ⟨k, hk, rfl, rfl, H0⟩ := hrel
        by_cases hlt : k < l.length
        · obtain ⟨m, hmk⟩ : ∃ m, l[k]? = some m := ⟨_, List.getElem?_eq_getElem hlt⟩
          obtain ⟨b, off, rfl, hb, c0⟩ := icellW (hr.below bb) rfl hmk
          have hkz : (k : Int) < (l.length : Int) := by omega
          have hbn : b ≠ w.heap.size := by omega
          have hbn1 : b ≠ w.heap.size + 1 := by omega
          have hb1 : b < w1.heap.size := by omega
          have HM := hid hmk
          clear hmk
          by_cases hm0 : m < 0
          · have HE := hid (HBAD.out m (List.mem_of_getElem? HM.out) (.inl hm0))
            go_wp2_with fail
            refine bodyPost_ret (v := .tuple #[.agg #[.int .i64 0, .int .i64 0], .bool false, .int .i64 2]) (by simp [results, Try.results21, go_sem, *]) rfl ?_
            rw [HE.out]
            refine ⟨rfl, ?_⟩
            repeat (with_reducible refine bS ?_ (by simp; try omega) _)
            exact bb
          by_cases hmt : topS 2 < m
          · have HE := hid (HBAD.out m (List.mem_of_getElem? HM.out) (.inr hmt))
            go_wp2_with fail
            refine (ht.out _).mono ?_
            rintro e w' ⟨rfl, rfl⟩
            go_wp2_with fail
            refine bodyPost_ret (v := .tuple #[.agg #[.int .i64 0, .int .i64 0], .bool false, .int .i64 2]) (by simp [results, Try.results21, go_sem, *]) rfl ?_
            rw [HE.out]
            refine ⟨rfl, ?_⟩
            repeat (with_reducible refine bS ?_ (by simp; try omega) _)
            exact bb
          have HN : Hid (∀ (j : Nat) (y : Int), j < k + 1 → l[j]? = some y → ¬ (y < 0 ∨ topS 2 < y)) := hid fun j y hj hy => by
            rcases Nat.lt_or_ge j k with h2 | h2
            · exact H0.out j y h2 hy
            · obtain rfl : j = k := by omega
              rw [HM.out] at hy; injection hy with hy; rw [← hy]; omega
          go_wp2_with fail
          refine (ht.out _).mono ?_
          rintro e w' ⟨rfl, rfl⟩
          go_wp2_with fail
          go_roundw
          case rel => exact ⟨k + 1, by omega, by go_num, by first | rfl | trivial, HN⟩
          case measure => simp [intOf]; omega
        · obtain rfl : k = l.length := by omega
          have HE := hid (HOK.out fun j m hj => H0.out j m (List.getElem?_eq_some_iff.1 hj).1 hj)
          have HC := hid (weakWake_walk v src x p fresh l w1 A c (rdb hr (by have := bb.size; omega) bb) hl)
          generalize weakWV v x fresh l = z at HC HE
          obtain ⟨⟨za, zl⟩, zs⟩ := z
          go_wp2_with fail
          refine HC.out.mono ?_
          rintro e w2 ⟨rfl, b2⟩
          have hs2 : w.heap.size + 2 ≤ w2.heap.size := by have := b2.size; omega
          have y0 : w2.cell? ⟨w.heap.size + 1, 0, none⟩ = some (.int .i64 0) := keepb b2 z0
          have y1 : w2.cell? ⟨w.heap.size + 1, 1, none⟩ = some (.int .i64 0) := keepb b2 z1
          have yf : ∀ o, w2.frozen? ⟨w.heap.size + 1, o, none⟩ = false := fun o => keepf b2 (zf o) (by simp; omega)
          have b3 := bT bb b2
          clear b2
          have yg : ∀ (cs : Array Value) (t : TypeId) (o : Nat), (w2.alloc (.cells cs t)).frozen? ⟨w.heap.size + 1, o, none⟩ = false := fun cs t o => (frozen?_alloc_cells _ _ _ _).trans (yf o)
          have x0 : ∀ (cs : Array Value) (t : TypeId), (w2.alloc (.cells cs t)).cell? ⟨w.heap.size + 1, 0, none⟩ = some (.int .i64 0) := fun cs t => keepb (bA (Below.refl w2.heap.size w2) (.cells cs t)) y0
          have x1 : ∀ (cs : Array Value) (t : TypeId), (w2.alloc (.cells cs t)).cell? ⟨w.heap.size + 1, 1, none⟩ = some (.int .i64 0) := fun cs t => keepb (bA (Below.refl w2.heap.size w2) (.cells cs t)) y1
          have hne : w.heap.size + 1 ≠ w2.heap.size := by omega
          go_wp2_with fail
          refine bodyPost_ret (v := .tuple #[.agg #[.int .i64 za, .int .i64 zl], .bool zs, .int .i64 0]) (by simp [results, Try.results21, go_sem, *]) rfl ?_
          rw [HE.out]
          refine ⟨rfl, ?_⟩
          repeat (with_reducible refine bS ?_ (by simp; try omega) _)
          exact (bA b3 _)
set_option maxRecDepth 100000 in
set_option maxHeartbeats 4000000 in
theorem wake3_walk (v src : Int) (x : Val) (p : Int) (fresh : Bool) (l : List Int) (w : World) (A : Option Addr) (c : Nat) (hr : Rd w w.heap.size A 1 l.length (l.flatMap i64c)) (hl : l.length * 8 ≤ 140737488355328) :
    Calls Try.prog 21 #[.int .i64 3, .int .i64 v, .int .i64 src, .agg #[.int .i64 x.a, .int .i64 x.label], .int .i64 p, .bool fresh, .slice A l.length c] w (RetVBE w (wakeV 3 v src x p fresh l)) := by
  have hj := hid (jobOf_walk 3)
  have hph := phases_walk 3 p
  have b0 := bA (bA (Below.refl w.heap.size w) (.cells #[.int .i64 x.a, .int .i64 x.label] 50)) (.cells #[.int .i64 0, .int .i64 0] 50)
  have hV := value_walk 3 x ((w.alloc (.cells #[.int .i64 x.a, .int .i64 x.label] 50)).alloc (.cells #[.int .i64 0, .int .i64 0] 50))
  have hkb : kindB 3 p = (decide (p = 0) || (decide ((3 : Int) = 3) && decide (p = 1))) := by unfold kindB; rw [show inB 3 1 3 = true from rfl, Bool.true_and]
  cases hp : (decide (p = 0) || (decide ((3 : Int) = 3) && decide (p = 1))) with
  | false =>
    have HE := hid (wakeV_kind (v := v) (src := src) (x := x) (fresh := fresh) (l := l) (hkb.trans hp))
    rw [hp] at hph
    have HPH := hid hph
    clear hp hph hV hkb
    go_enter Try.func21, Try.ntmps21
    go_wp2_with fail
    refine (hj.out _).mono ?_
    rintro e w' ⟨rfl, rfl⟩
    rw [show jobI 3 = .iface 95 (.agg #[]) from rfl]
    go_wp2_with fail
    refine (HPH.out _).mono ?_
    rintro e w' ⟨rfl, rfl⟩
    go_wp2_with fail
    refine bodyPost_ret (v := .tuple #[.agg #[.int .i64 0, .int .i64 0], .bool false, .int .i64 3]) (by simp [results, Try.results21, go_sem, *]) rfl ?_
    rw [HE.out]
    refine ⟨rfl, ?_⟩
    repeat (with_reducible refine bS ?_ (by simp; try omega) _)
    exact b0
  | true =>
    have hk := hkb.trans hp
    rw [hp] at hph
    have HPH := hid hph
    clear hp hph hkb
    by_cases hv0 : v < 0
    · have HE := hid (wakeV_bad (v := v) (src := src) (x := x) (fresh := fresh) (l := l) hk (.inl hv0))
      clear hV hk
      go_enter Try.func21, Try.ntmps21
      go_wp2_with fail
      refine (hj.out _).mono ?_
      rintro e w' ⟨rfl, rfl⟩
      rw [show jobI 3 = .iface 95 (.agg #[]) from rfl]
      go_wp2_with fail
      refine (HPH.out _).mono ?_
      rintro e w' ⟨rfl, rfl⟩
      go_wp2_with fail
      refine bodyPost_ret (v := .tuple #[.agg #[.int .i64 0, .int .i64 0], .bool false, .int .i64 2]) (by simp [results, Try.results21, go_sem, *]) rfl ?_
      rw [HE.out]
      refine ⟨rfl, ?_⟩
      repeat (with_reducible refine bS ?_ (by simp; try omega) _)
      exact b0
    by_cases hv2 : 200 ≤ v
    · have HE := hid (wakeV_bad (v := v) (src := src) (x := x) (fresh := fresh) (l := l) hk (.inr (.inl hv2)))
      clear hV hk
      go_enter Try.func21, Try.ntmps21
      go_wp2_with fail
      refine (hj.out _).mono ?_
      rintro e w' ⟨rfl, rfl⟩
      rw [show jobI 3 = .iface 95 (.agg #[]) from rfl]
      go_wp2_with fail
      refine (HPH.out _).mono ?_
      rintro e w' ⟨rfl, rfl⟩
      go_wp2_with fail
      refine bodyPost_ret (v := .tuple #[.agg #[.int .i64 0, .int .i64 0], .bool false, .int .i64 2]) (by simp [results, Try.results21, go_sem, *]) rfl ?_
      rw [HE.out]
      refine ⟨rfl, ?_⟩
      repeat (with_reducible refine bS ?_ (by simp; try omega) _)
      exact b0
    cases hx : vB 3 x with
    | false =>
      have HE := hid (wakeV_bad (v := v) (src := src) (x := x) (fresh := fresh) (l := l) hk (.inr (.inr (.inl hx))))
      rw [hx] at hV
      have HVV := hid hV
      clear hV hk hx
      go_enter Try.func21, Try.ntmps21
      go_wp2_with fail
      refine (hj.out _).mono ?_
      rintro e w' ⟨rfl, rfl⟩
      rw [show jobI 3 = .iface 95 (.agg #[]) from rfl]
      go_wp2_with fail
      refine (HPH.out _).mono ?_
      rintro e w' ⟨rfl, rfl⟩
      go_wp2_with fail
      refine HVV.out.mono ?_
      rintro e w1 ⟨rfl, b1⟩
      have bb := bT b0 b1
      have q0 : w1.cell? ⟨w.heap.size, 0, none⟩ = some (.int .i64 x.a) := keepb b1 (by go_simp)
      have q1 : w1.cell? ⟨w.heap.size, 1, none⟩ = some (.int .i64 x.label) := keepb b1 (by go_simp)
      have z0 : w1.cell? ⟨w.heap.size + 1, 0, none⟩ = some (.int .i64 0) := keepb b1 (by go_simp)
      have z1 : w1.cell? ⟨w.heap.size + 1, 1, none⟩ = some (.int .i64 0) := keepb b1 (by go_simp)
      have zf : ∀ o, w1.frozen? ⟨w.heap.size + 1, o, none⟩ = false := fun o => keepf b1 (by go_simp) (by simp)
      have hs1 : w.heap.size + 2 ≤ w1.heap.size := by have := b1.size; simp at this; omega
      clear b1
      go_wp2_with fail
      refine bodyPost_ret (v := .tuple #[.agg #[.int .i64 0, .int .i64 0], .bool false, .int .i64 2]) (by simp [results, Try.results21, go_sem, *]) rfl ?_
      rw [HE.out]
      refine ⟨rfl, ?_⟩
      repeat (with_reducible refine bS ?_ (by simp; try omega) _)
      exact bb
    | true =>
      rw [hx] at hV
      have HVV := hid hV
      have HBAD : Hid (∀ m ∈ l, (m < 0 ∨ topS 3 < m) → wakeV 3 v src x p fresh l = (⟨0, 0⟩, false, 2)) := hid fun m hm hb => wakeV_bad hk (.inr (.inr (.inr ⟨m, hm, hb⟩)))
      have HOK : Hid ((∀ (j : Nat) (m : Int), l[j]? = some m → ¬ (m < 0 ∨ topS 3 < m)) → wakeV 3 v src x p fresh l = ((strongWV v x p fresh l).1, (strongWV v x p fresh l).2, 0)) := hid fun hall => wakeV_ok hk (by
        rintro (h | h | h | ⟨m, hm, hb⟩)
        · exact hv0 h
        · exact hv2 h
        · rw [hx] at h; cases h
        · obtain ⟨j, hj⟩ := List.mem_iff_getElem?.1 hm; exact hall j m hj hb)
      have ht := hid (topS_walk 3)
      have hm : ∀ w, (method 238 95 (.agg #[]) "paceline/prog.wake").run Try.prog w = .ok (100, .agg #[]) w := fun _ => by kernel_rfl
      clear hV hk hx
      go_enter Try.func21, Try.ntmps21
      go_wp2_with fail
      refine (hj.out _).mono ?_
      rintro e w' ⟨rfl, rfl⟩
      rw [show jobI 3 = .iface 95 (.agg #[]) from rfl]
      go_wp2_with fail
      refine (HPH.out _).mono ?_
      rintro e w' ⟨rfl, rfl⟩
      go_wp2_with fail
      refine HVV.out.mono ?_
      rintro e w1 ⟨rfl, b1⟩
      have bb := bT b0 b1
      have q0 : w1.cell? ⟨w.heap.size, 0, none⟩ = some (.int .i64 x.a) := keepb b1 (by go_simp)
      have q1 : w1.cell? ⟨w.heap.size, 1, none⟩ = some (.int .i64 x.label) := keepb b1 (by go_simp)
      have z0 : w1.cell? ⟨w.heap.size + 1, 0, none⟩ = some (.int .i64 0) := keepb b1 (by go_simp)
      have z1 : w1.cell? ⟨w.heap.size + 1, 1, none⟩ = some (.int .i64 0) := keepb b1 (by go_simp)
      have zf : ∀ o, w1.frozen? ⟨w.heap.size + 1, o, none⟩ = false := fun o => keepf b1 (by go_simp) (by simp)
      have hs1 : w.heap.size + 2 ≤ w1.heap.size := by have := b1.size; simp at this; omega
      clear b1
      go_wp2_with fail
      go_loopw [19, 48] (fun _ i wr => ∃ k : Nat, k ≤ l.length ∧ i = .int .i64 k ∧ w1 = wr ∧ Hid (∀ (j : Nat) (m : Int), j < k → l[j]? = some m → ¬ (m < 0 ∨ topS 3 < m))) (fun _ i _ => l.length - (intOf i).toNat)
      case atStart => exact ⟨0, by omega, rfl, rfl, hid fun j y hj => by omega⟩
      case round =>
        obtain ⟨k, hk, rfl, rfl, H0⟩ := hrel
        by_cases hlt : k < l.length
        · obtain ⟨m, hmk⟩ : ∃ m, l[k]? = some m := ⟨_, List.getElem?_eq_getElem hlt⟩
          obtain ⟨b, off, rfl, hb, c0⟩ := icellW (hr.below bb) rfl hmk
          have hkz : (k : Int) < (l.length : Int) := by omega
          have hbn : b ≠ w.heap.size := by omega
          have hbn1 : b ≠ w.heap.size + 1 := by omega
          have hb1 : b < w1.heap.size := by omega
          have HM := hid hmk
          clear hmk
          by_cases hm0 : m < 0
          · have HE := hid (HBAD.out m (List.mem_of_getElem? HM.out) (.inl hm0))
            go_wp2_with fail
            refine bodyPost_ret (v := .tuple #[.agg #[.int .i64 0, .int .i64 0], .bool false, .int .i64 2]) (by simp [results, Try.results21, go_sem, *]) rfl ?_
            rw [HE.out]
            refine ⟨rfl, ?_⟩
            repeat (with_reducible refine bS ?_ (by simp; try omega) _)
            exact bb
          by_cases hmt : topS 3 < m
          · have HE := hid (HBAD.out m (List.mem_of_getElem? HM.out) (.inr hmt))
            go_wp2_with fail
            refine (ht.out _).mono ?_
            rintro e w' ⟨rfl, rfl⟩
            go_wp2_with fail
            refine bodyPost_ret (v := .tuple #[.agg #[.int .i64 0, .int .i64 0], .bool false, .int .i64 2]) (by simp [results, Try.results21, go_sem, *]) rfl ?_
            rw [HE.out]
            refine ⟨rfl, ?_⟩
            repeat (with_reducible refine bS ?_ (by simp; try omega) _)
            exact bb
          have HN : Hid (∀ (j : Nat) (y : Int), j < k + 1 → l[j]? = some y → ¬ (y < 0 ∨ topS 3 < y)) := hid fun j y hj hy => by
            rcases Nat.lt_or_ge j k with h2 | h2
            · exact H0.out j y h2 hy
            · obtain rfl : j = k := by omega
              rw [HM.out] at hy; injection hy with hy; rw [← hy]; omega
          go_wp2_with fail
          refine (ht.out _).mono ?_
          rintro e w' ⟨rfl, rfl⟩
          go_wp2_with fail
          go_roundw
          case rel => exact ⟨k + 1, by omega, by go_num, by first | rfl | trivial, HN⟩
          case measure => simp [intOf]; omega
        · obtain rfl : k = l.length := by omega
          have HE := hid (HOK.out fun j m hj => H0.out j m (List.getElem?_eq_some_iff.1 hj).1 hj)
          have HC := hid (strongWake_walk v src x p fresh l w1 A c (rdb hr (by have := bb.size; omega) bb) hl)
          generalize strongWV v x p fresh l = z at HC HE
          obtain ⟨⟨za, zl⟩, zs⟩ := z
          go_wp2_with fail
          refine HC.out.mono ?_
          rintro e w2 ⟨rfl, b2⟩
          have hs2 : w.heap.size + 2 ≤ w2.heap.size := by have := b2.size; omega
          have y0 : w2.cell? ⟨w.heap.size + 1, 0, none⟩ = some (.int .i64 0) := keepb b2 z0
          have y1 : w2.cell? ⟨w.heap.size + 1, 1, none⟩ = some (.int .i64 0) := keepb b2 z1
          have yf : ∀ o, w2.frozen? ⟨w.heap.size + 1, o, none⟩ = false := fun o => keepf b2 (zf o) (by simp; omega)
          have b3 := bT bb b2
          clear b2
          have yg : ∀ (cs : Array Value) (t : TypeId) (o : Nat), (w2.alloc (.cells cs t)).frozen? ⟨w.heap.size + 1, o, none⟩ = false := fun cs t o => (frozen?_alloc_cells _ _ _ _).trans (yf o)
          have x0 : ∀ (cs : Array Value) (t : TypeId), (w2.alloc (.cells cs t)).cell? ⟨w.heap.size + 1, 0, none⟩ = some (.int .i64 0) := fun cs t => keepb (bA (Below.refl w2.heap.size w2) (.cells cs t)) y0
          have x1 : ∀ (cs : Array Value) (t : TypeId), (w2.alloc (.cells cs t)).cell? ⟨w.heap.size + 1, 1, none⟩ = some (.int .i64 0) := fun cs t => keepb (bA (Below.refl w2.heap.size w2) (.cells cs t)) y1
          have hne : w.heap.size + 1 ≠ w2.heap.size := by omega
          go_wp2_with fail
          refine bodyPost_ret (v := .tuple #[.agg #[.int .i64 za, .int .i64 zl], .bool zs, .int .i64 0]) (by simp [results, Try.results21, go_sem, *]) rfl ?_
          rw [HE.out]
          refine ⟨rfl, ?_⟩
          repeat (with_reducible refine bS ?_ (by simp; try omega) _)
          exact (bA b3 _)
set_option maxRecDepth 100000 in
theorem wake0_walk (k : Int) (hk1 : k ≠ 1) (hk2 : k ≠ 2) (hk3 : k ≠ 3) (v src : Int) (x : Val) (p : Int) (fresh : Bool) (l : List Int) (w : World) (A : Option Addr) (c : Nat) :
    Calls Try.prog 21 #[.int .i64 k, .int .i64 v, .int .i64 src, .agg #[.int .i64 x.a, .int .i64 x.label], .int .i64 p, .bool fresh, .slice A l.length c] w (RetVBE w (wakeV k v src x p fresh l)) := by
  have hj := hid (jobOf_walk k)
  have HJ : Hid (jobI k = .nilIface) := hid (by unfold jobI; rw [if_neg hk1, if_neg hk2, if_neg hk3])
  have b0 := bA (bA (Below.refl w.heap.size w) (.cells #[.int .i64 x.a, .int .i64 x.label] 50)) (.cells #[.int .i64 0, .int .i64 0] 50)
  have hkb : kindB k p = false := by
    unfold kindB; rw [inB_no (by omega)]; rfl
  have HE := hid (wakeV_kind (v := v) (src := src) (x := x) (fresh := fresh) (l := l) hkb)
  clear hk1 hk2 hk3 hkb
  go_enter Try.func21, Try.ntmps21
  go_wp2_with fail
  refine (hj.out _).mono ?_
  rintro e w' ⟨rfl, rfl⟩
  rw [HJ.out]
  go_wp2_with fail
  refine bodyPost_ret (v := .tuple #[.agg #[.int .i64 0, .int .i64 0], .bool false, .int .i64 3]) (by simp [results, Try.results21, go_sem, *]) rfl ?_
  rw [HE.out]
  refine ⟨rfl, ?_⟩
  repeat (with_reducible refine bS ?_ (by simp; try omega) _)
  exact b0
end Go.Proofs.Yteefemiieidpaaa
