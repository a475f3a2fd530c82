/- The three jobs' wake. -/
import Derived.Test.YteefemiieidpaaaWakeW
namespace Go.Proofs.Yteefemiieidpaaa
open Go.ChangeShapes Go.WideShapes Go.ChangeAt Go.RowKit
set_option linter.unusedVariables false
set_option linter.unusedSimpArgs false
set_option maxRecDepth 100000 in
set_option maxHeartbeats 2000000 in
theorem distWake_walk (v src : Int) (x : Val) (p : Int) (fresh : Bool) (l : List Int) (w : World) (A : Option Addr) (c : Nat) (hr : Rd w w.heap.size A 1 l.length (l.flatMap i64c)) (hl : l.length * 8 ≤ 140737488355328) :
    Calls Try.prog 94 #[.agg #[], .int .i64 v, .int .i64 src, .agg #[.int .i64 x.a, .int .i64 x.label], .int .i64 p, .bool fresh, .slice A l.length c] w (RetVB w (distWV v src x fresh l)) := by
  cases fresh with
  | true =>
    by_cases h : v = src
    · have HE : Hid (distWV v src x true l = (⟨0, -1⟩, true)) := hid (by unfold distWV; rw [if_pos rfl, if_pos h])
      have hb : (v == src) = true := by simpa using h
      clear h
      go_enter Try.func94, Try.ntmps94
      go_wp2_with fail
      refine bodyPost_ret (v := .tuple #[.agg #[.int .i64 0, .int .i64 (-1)], .bool true]) (by simp [results, Try.results94, go_sem, *]) rfl ?_
      rw [HE.out]
      exact ⟨rfl, bA (bA (bA (bA (Below.refl _ _) _) _) _) _⟩
    · have HE : Hid (distWV v src x true l = (⟨-1, -1⟩, false)) := hid (by unfold distWV; rw [if_pos rfl, if_neg h])
      have hb : (v == src) = false := by simpa using h
      clear h
      go_enter Try.func94, Try.ntmps94
      go_wp2_with fail
      refine bodyPost_ret (v := .tuple #[.agg #[.int .i64 (-1), .int .i64 (-1)], .bool false]) (by simp [results, Try.results94, go_sem, *]) rfl ?_
      rw [HE.out]
      exact ⟨rfl, bA (bA (bA (bA (Below.refl _ _) _) _) _) _⟩
  | false =>
    have HE : Hid (distWV v src x false l = lowV x l) := hid (by unfold distWV; rw [if_neg (by simp)])
    have b0 := bA (bA (bA (Below.refl w.heap.size w) (.cells #[] 92)) (.cells #[.int .i64 x.a, .int .i64 x.label] 50)) (.cells #[.int .i64 0, .int .i64 0] 50)
    have HL := hid (lower_walk x l _ A c (rdb hr (by decide) b0) hl)
    generalize lowV x l = z at HE HL
    obtain ⟨⟨za, zl⟩, zs⟩ := z
    go_enter Try.func94, Try.ntmps94
    go_wp2_with fail
    refine HL.out.mono ?_
    rintro e w1 ⟨rfl, b1⟩
    have z0 : w1.cell? ⟨w.heap.size + 2, 0, none⟩ = some (.int .i64 0) := keepb b1 (by go_simp)
    have z1 : w1.cell? ⟨w.heap.size + 2, 1, none⟩ = some (.int .i64 0) := keepb b1 (by go_simp)
    have zf : ∀ o, w1.frozen? ⟨w.heap.size + 2, o, none⟩ = false := fun o => keepf b1 (by go_simp) (by simp)
    go_wp2_with fail
    refine bodyPost_ret (v := .tuple #[.agg #[.int .i64 za, .int .i64 zl], .bool zs]) (by simp [results, Try.results94, go_sem, *]) rfl ?_
    rw [HE.out]
    refine ⟨rfl, ?_⟩
    repeat (with_reducible refine bS ?_ (by simp; try omega) _)
    exact bT b0 b1
set_option maxRecDepth 100000 in
set_option maxHeartbeats 2000000 in
theorem weakWake_walk (v src : Int) (x : Val) (p : Int) (fresh : Bool) (l : List Int) (w : World) (A : Option Addr) (c : Nat) (hr : Rd w w.heap.size A 1 l.length (l.flatMap i64c)) (hl : l.length * 8 ≤ 140737488355328) :
    Calls Try.prog 98 #[.agg #[], .int .i64 v, .int .i64 src, .agg #[.int .i64 x.a, .int .i64 x.label], .int .i64 p, .bool fresh, .slice A l.length c] w (RetVB w (weakWV v x fresh l)) := by
  cases fresh with
  | true =>
    have HE : Hid (weakWV v x true l = (⟨v, -1⟩, true)) := hid (by unfold weakWV; rw [if_pos rfl])
    go_enter Try.func98, Try.ntmps98
    go_wp2_with fail
    refine bodyPost_ret (v := .tuple #[.agg #[.int .i64 v, .int .i64 (-1)], .bool true]) (by simp [results, Try.results98, go_sem, *]) rfl ?_
    rw [HE.out]
    exact ⟨rfl, bA (bA (bA (Below.refl _ _) _) _) _⟩
  | false =>
    have HE : Hid (weakWV v x false l = lowV x l) := hid (by unfold weakWV; rw [if_neg (by simp)])
    have b0 := bA (bA (bA (Below.refl w.heap.size w) (.cells #[] 93)) (.cells #[.int .i64 x.a, .int .i64 x.label] 50)) (.cells #[.int .i64 0, .int .i64 0] 50)
    have HL := hid (lower_walk x l _ A c (rdb hr (by decide) b0) hl)
    generalize lowV x l = z at HE HL
    obtain ⟨⟨za, zl⟩, zs⟩ := z
    go_enter Try.func98, Try.ntmps98
    go_wp2_with fail
    refine HL.out.mono ?_
    rintro e w1 ⟨rfl, b1⟩
    have z0 : w1.cell? ⟨w.heap.size + 2, 0, none⟩ = some (.int .i64 0) := keepb b1 (by go_simp)
    have z1 : w1.cell? ⟨w.heap.size + 2, 1, none⟩ = some (.int .i64 0) := keepb b1 (by go_simp)
    have zf : ∀ o, w1.frozen? ⟨w.heap.size + 2, o, none⟩ = false := fun o => keepf b1 (by go_simp) (by simp)
    go_wp2_with fail
    refine bodyPost_ret (v := .tuple #[.agg #[.int .i64 za, .int .i64 zl], .bool zs]) (by simp [results, Try.results98, go_sem, *]) rfl ?_
    rw [HE.out]
    refine ⟨rfl, ?_⟩
    repeat (with_reducible refine bS ?_ (by simp; try omega) _)
    exact bT b0 b1
set_option maxRecDepth 100000 in
set_option maxHeartbeats 2000000 in
theorem strongWake_walk (v src : Int) (x : Val) (p : Int) (fresh : Bool) (l : List Int) (w : World) (A : Option Addr) (c : Nat) (hr : Rd w w.heap.size A 1 l.length (l.flatMap i64c)) (hl : l.length * 8 ≤ 140737488355328) :
    Calls Try.prog 100 #[.agg #[], .int .i64 v, .int .i64 src, .agg #[.int .i64 x.a, .int .i64 x.label], .int .i64 p, .bool fresh, .slice A l.length c] w (RetVB w (strongWV v x p fresh l)) := by
  have b0 := bA (bA (bA (Below.refl w.heap.size w) (.cells #[] 95)) (.cells #[.int .i64 x.a, .int .i64 x.label] 50)) (.cells #[.int .i64 0, .int .i64 0] 50)
  by_cases hlb : x.label = -1
  · have hlbb : (x.label != -1) = false := by simpa using hlb
    by_cases hp : p = 0
    · have hpb : (p == 0) = true := by simpa using hp
      have HE0 : Hid (strongWV v x p fresh l = weakWV v x fresh l) := hid (by unfold strongWV; rw [if_neg (by simpa using hlb), if_pos hp])
      cases fresh with
      | true =>
        have HE : Hid (strongWV v x p true l = (⟨v, -1⟩, true)) := hid (by rw [HE0.out]; unfold weakWV; rw [if_pos rfl])
        clear hlb hp
        go_enter Try.func100, Try.ntmps100
        go_wp2_with fail
        refine bodyPost_ret (v := .tuple #[.agg #[.int .i64 v, .int .i64 (-1)], .bool true]) (by simp [results, Try.results100, go_sem, *]) rfl ?_
        rw [HE.out]
        exact ⟨rfl, bA (bA (bA (Below.refl _ _) _) _) _⟩
      | false =>
        have HE : Hid (strongWV v x p false l = lowV x l) := hid (by rw [HE0.out]; unfold weakWV; rw [if_neg (by simp)])
        have HL := hid (lower_walk x l _ A c (rdb hr (by decide) b0) hl)
        generalize lowV x l = z at HE HL
        obtain ⟨⟨za, zl⟩, zs⟩ := z
        clear hlb hp
        go_enter Try.func100, Try.ntmps100
        go_wp2_with fail
        refine HL.out.mono ?_
        rintro e w1 ⟨rfl, b1⟩
        have z0 : w1.cell? ⟨w.heap.size + 2, 0, none⟩ = some (.int .i64 0) := keepb b1 (by go_simp)
        have z1 : w1.cell? ⟨w.heap.size + 2, 1, none⟩ = some (.int .i64 0) := keepb b1 (by go_simp)
        have zf : ∀ o, w1.frozen? ⟨w.heap.size + 2, o, none⟩ = false := fun o => keepf b1 (by go_simp) (by simp)
        go_wp2_with fail
        refine bodyPost_ret (v := .tuple #[.agg #[.int .i64 za, .int .i64 zl], .bool zs]) (by simp [results, Try.results100, go_sem, *]) rfl ?_
        rw [HE.out]
        refine ⟨rfl, ?_⟩
        repeat (with_reducible refine bS ?_ (by simp; try omega) _)
        exact bT b0 b1
    · have hpb : (p == 0) = false := by simpa using hp
      cases fresh with
      | true =>
        by_cases ha : x.a = v
        · have HE : Hid (strongWV v x p true l = (⟨x.a, x.a⟩, true)) := hid (by unfold strongWV; rw [if_neg (by simpa using hlb), if_neg hp, if_pos rfl, if_pos ha])
          have hab : (x.a == v) = true := by simpa using ha
          clear hlb hp ha
          go_enter Try.func100, Try.ntmps100
          go_wp2_with fail
          refine bodyPost_ret (v := .tuple #[.agg #[.int .i64 x.a, .int .i64 x.a], .bool true]) (by simp [results, Try.results100, go_sem, *]) rfl ?_
          rw [HE.out]
          exact ⟨rfl, bA (bA (bA (Below.refl _ _) _) _) _⟩
        · have HE : Hid (strongWV v x p true l = (x, false)) := hid (by unfold strongWV; rw [if_neg (by simpa using hlb), if_neg hp, if_pos rfl, if_neg ha])
          have hab : (x.a == v) = false := by simpa using ha
          clear hlb hp ha
          go_enter Try.func100, Try.ntmps100
          go_wp2_with fail
          refine bodyPost_ret (v := .tuple #[.agg #[.int .i64 x.a, .int .i64 x.label], .bool false]) (by simp [results, Try.results100, go_sem, *]) rfl ?_
          rw [HE.out]
          exact ⟨rfl, bA (bA (bA (Below.refl _ _) _) _) _⟩
      | false =>
        have HE0 : Hid (strongWV v x p false l = if x.a ∈ l then (⟨x.a, x.a⟩, true) else (x, false)) := hid (by unfold strongWV; rw [if_neg (by simpa using hlb), if_neg hp, if_neg (by simp)])
        clear hlb hp
        obtain ⟨W, hW⟩ : ∃ W, W = ((w.alloc (.cells #[] 95)).alloc (.cells #[.int .i64 x.a, .int .i64 x.label] 50)).alloc (.cells #[.int .i64 0, .int .i64 0] 50) := ⟨_, rfl⟩
        have q0 : W.cell? ⟨w.heap.size + 1, 0, none⟩ = some (.int .i64 x.a) := by rw [hW]; go_simp
        have q1 : W.cell? ⟨w.heap.size + 1, 1, none⟩ = some (.int .i64 x.label) := by rw [hW]; go_simp
        have q2 : W.cell? ⟨w.heap.size + 2, 0, none⟩ = some (.int .i64 0) := by rw [hW]; go_simp
        have q3 : W.cell? ⟨w.heap.size + 2, 1, none⟩ = some (.int .i64 0) := by rw [hW]; go_simp
        have f1 : ∀ o, W.frozen? ⟨w.heap.size + 1, o, none⟩ = false := fun o => by rw [hW]; go_simp
        have f2 : ∀ o, W.frozen? ⟨w.heap.size + 2, o, none⟩ = false := fun o => by rw [hW]; go_simp
        have hWs : W.heap.size = w.heap.size + 3 := by rw [hW]; simp
        have bW : Below w.heap.size w W := hW ▸ b0
        have hrW : Rd W w.heap.size A 1 l.length (l.flatMap i64c) := hr.below bW
        go_enter Try.func100, Try.ntmps100
        go_wp2_with fail
        go_loopw [17, 55] (fun _ i wr => ∃ k : Nat, k ≤ l.length ∧ i = .int .i64 k ∧ W = wr ∧ Hid (∀ (j : Nat) (y : Int), j < k → l[j]? = some y → y ≠ x.a)) (fun _ i _ => l.length - (intOf i).toNat)
        case atStart => exact ⟨0, by omega, rfl, hW, hid fun j y hj => by omega⟩
        case round =>
          obtain ⟨k, hk, rfl, rfl, H0⟩ := hrel
          by_cases hlt : k < l.length
          · obtain ⟨m, hm⟩ : ∃ m, l[k]? = some m := ⟨_, List.getElem?_eq_getElem hlt⟩
            obtain ⟨b, off, rfl, hb, c0⟩ := icellW hrW rfl hm
            have hkz : (k : Int) < (l.length : Int) := by omega
            have hbn : b ≠ w.heap.size := by omega
            have hbn1 : b ≠ w.heap.size + 1 := by omega
            have hbn2 : b ≠ w.heap.size + 2 := by omega
            have HM := hid hm
            clear hm
            by_cases hma : m = x.a
            · have HE : Hid (strongWV v x p false l = (⟨x.a, x.a⟩, true)) := hid (by rw [HE0.out, if_pos (by rw [← hma]; exact List.mem_of_getElem? HM.out)])
              have hmb : (m == x.a) = true := by simpa using hma
              clear hma
              clear hW b0 hr
              go_wp2_with fail
              refine bodyPost_ret (v := .tuple #[.agg #[.int .i64 x.a, .int .i64 x.a], .bool true]) (by simp [results, Try.results100, go_sem, *]) rfl ?_
              rw [HE.out]
              refine ⟨rfl, ?_⟩
              repeat (with_reducible refine bS ?_ (by simp; try omega) _)
              exact bW
            · have HN : Hid (∀ (j : Nat) (y : Int), j < k + 1 → l[j]? = some y → y ≠ x.a) := hid fun j y hj hy => by
                rcases Nat.lt_or_ge j k with h2 | h2
                · exact H0.out j y h2 hy
                · obtain rfl : j = k := by omega
                  rw [HM.out] at hy; injection hy with hy; rw [← hy]; exact hma
              have hmb : (m == x.a) = false := by simpa using hma
              clear hma
              clear hW b0 hr
              go_wp2_with fail
              go_roundw
              case rel => exact ⟨k + 1, by omega, by go_num, by first | rfl | trivial, HN⟩
              case measure => simp [intOf]; omega
          · obtain rfl : k = l.length := by omega
            have HE : Hid (strongWV v x p false l = (x, false)) := hid (by
              rw [HE0.out, if_neg]
              intro hmem
              obtain ⟨j, hj⟩ := List.mem_iff_getElem?.1 hmem
              exact H0.out j x.a (List.getElem?_eq_some_iff.1 hj).1 hj rfl)
            clear hW b0 hr
            go_wp2_with fail
            refine bodyPost_ret (v := .tuple #[.agg #[.int .i64 x.a, .int .i64 x.label], .bool false]) (by simp [results, Try.results100, go_sem, *]) rfl ?_
            rw [HE.out]
            refine ⟨rfl, ?_⟩
            repeat (with_reducible refine bS ?_ (by simp; try omega) _)
            exact bW
  · have HE : Hid (strongWV v x p fresh l = (x, false)) := hid (by unfold strongWV; rw [if_pos hlb])
    have hlbb : (x.label != -1) = true := by simpa using hlb
    clear hlb
    go_enter Try.func100, Try.ntmps100
    go_wp2_with fail
    refine bodyPost_ret (v := .tuple #[.agg #[.int .i64 x.a, .int .i64 x.label], .bool false]) (by simp [results, Try.results100, go_sem, *]) rfl ?_
    rw [HE.out]
    exact ⟨rfl, bA (bA (bA (Below.refl _ _) _) _) _⟩
end Go.Proofs.Yteefemiieidpaaa
