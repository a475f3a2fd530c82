/- The document's Unwrapped. -/
import Derived.Test.YtdmakcenfbfpaaaUnwrap
namespace Go.Proofs.Ytdmakcenfbfpaaa
open Go.ChangeShapes Go.WideShapes Go.ChangeAt Go.RowKit
set_option linter.unusedVariables false
set_option linter.unusedSimpArgs false
theorem unwV_cases (l : List Int) (h : ∀ x ∈ l, 0 ≤ x ∧ x ≤ 255) :
    (∃ e, getv l = (0, 0, e) ∧ 0 < e ∧ unwV l = ([], 0, e)) ∨
    (∃ n k : Nat, getv l = ((n : Int), (k : Int), 0) ∧ 1 ≤ k ∧ k ≤ l.length ∧ (n : Int) ≤ 18446744073709551615 ∧ ((20000 < n ∧ unwV l = ([], 0, 1)) ∨ (n ≤ 20000 ∧ l.length < k + n + 4 ∧ unwV l = ([], 0, 4)) ∨ (n ≤ 20000 ∧ k + n + 4 ≤ l.length))) := by
  have hg := getv_ok l h
  obtain ⟨V, HV⟩ : ∃ V, V = unwV l := ⟨_, rfl⟩
  rw [← HV]
  unfold unwV at HV
  generalize getv l = r at *
  obtain ⟨r1, r2, r3⟩ := r
  rcases hg with ⟨g0, g1, g2, g3, g4⟩ | ⟨g0, g1, g2, g3⟩
  · simp only at g0 g1 g2 g3 g4
    subst g0
    obtain ⟨k, rfl⟩ := Int.eq_ofNat_of_zero_le (show 0 ≤ r2 by omega)
    obtain ⟨n, rfl⟩ := Int.eq_ofNat_of_zero_le g1
    refine .inr ⟨n, k, rfl, by omega, by omega, by omega, ?_⟩
    simp only at HV
    rw [if_neg (by simp)] at HV
    by_cases h1 : 20000 < n
    · rw [if_pos (by omega)] at HV
      exact .inl ⟨h1, HV⟩
    · rw [if_neg (by omega)] at HV
      by_cases h2 : l.length < k + n + 4
      · rw [if_pos (by omega)] at HV
        exact .inr (.inl ⟨by omega, h2, HV⟩)
      · exact .inr (.inr ⟨by omega, by omega⟩)
  · simp only at g0 g1 g2 g3
    subst g2 g3
    refine .inl ⟨r3, rfl, g0, ?_⟩
    simp only at HV
    rw [if_pos (by omega)] at HV
    exact HV
set_option maxRecDepth 100000 in
set_option maxHeartbeats 2000000 in
theorem unwrap_walk (l : List Int) (w : World) (A : Option Addr) (L c : Nat) (hr : Rd w w.heap.size A 1 L (l.flatMap u8c)) (hL : l.length = L) (hb : ∀ x ∈ l, 0 ≤ x ∧ x ≤ 255) (hn : L ≤ 140737488355328) (hcap : L ≤ c) :
    Calls Try.prog 35 #[.slice A L c] w (RetLN 5 1 w (unwV l).1.length ((unwV l).1.flatMap u8c) (unwV l).2.1 (unwV l).2.2) := by
  have hget0 := get_any l w A L c hr hb (by omega)
  unfold tri at hget0
  rcases unwV_cases l hb with ⟨e, h1, h2, h3⟩ | ⟨n, k, h1, h2, h4, h5, ⟨h6, h7⟩ | ⟨h6, h7, h8⟩ | ⟨h6, h7⟩⟩
  · rw [h1] at hget0
    have HGet := hid hget0
    have HV := hid h3
    have hbb : (e == 0) = false := by rw [beq_eq_false_iff_ne]; omega
    clear hget0 h1 h3
    go_enter Try.func35, Try.ntmps35
    go_wp2_with fail
    refine HGet.out.mono ?_
    rintro e w1 ⟨rfl, rfl⟩
    go_wp2_with fail
    go_ret3
    rw [HV.out]
    exact retLN_nil _ _ _ _ _ (Below.refl _ _)
  · rw [h1] at hget0
    have HGet := hid hget0
    have HV := hid h7
    have z1 : (20000 : Int) < (n : Int) := by omega
    clear hget0 h1 h7
    go_enter Try.func35, Try.ntmps35
    go_wp2_with fail
    refine HGet.out.mono ?_
    rintro e w1 ⟨rfl, rfl⟩
    go_wp2_with fail
    go_ret3
    rw [HV.out]
    exact retLN_nil _ _ _ _ _ (Below.refl _ _)
  · rw [h1] at hget0
    have HGet := hid hget0
    have HV := hid h8
    have z1 : (n : Int) ≤ 20000 := by omega
    have z2 : (L : Int) < (k : Int) + (n : Int) + 4 := by omega
    clear hget0 h1 h8
    go_enter Try.func35, Try.ntmps35
    go_wp2_with fail
    refine HGet.out.mono ?_
    rintro e w1 ⟨rfl, rfl⟩
    go_wp2_with fail
    go_ret3
    rw [HV.out]
    exact retLN_nil _ _ _ _ _ (Below.refl _ _)
  · exact unwrap_ok l w A L c hr hL hb hn hcap n k h1 h6 (by omega)
def UwRel (l : List Int) (k n : Nat) (w : World) (p i : Value) (wr : World) : Prop :=
  ∃ (q j c : Nat) (A : Option Addr), Hid (q = k + j) ∧ j ≤ n ∧ i = .int .i64 (q : Int) ∧ p = .slice A j c ∧ wr.ownsRow w.heap.size 5 1 (.slice A j c) j (((l.drop k).take j).flatMap u8c) ∧ Below w.heap.size w wr
def UwEq (l m : List Int) (w2 : World) (i : Value) (wr : World) : Prop := ∃ j : Nat, j ≤ m.length ∧ i = .int .i64 j ∧ Hid (∀ q, q < j → m[q]? = l[q]?) ∧ ∃ nq, wr = w2.drewN nq
theorem drop_take_next {α : Type} {l : List α} {k j : Nat} {x : α} (h : l[k + j]? = some x) : (l.drop k).take (j + 1) = (l.drop k).take j ++ [x] := by
  rw [List.take_add_one, List.getElem?_drop, h]; rfl
theorem own_drewN {w : World} {base : Nat} {e : TypeId} {size : Nat} {v : Value} {n : Nat} {xs : List Value} (h : w.ownsRow base e size v n xs) (k : Nat) : (w.drewN k).ownsRow base e size v n xs := h
theorem u8_cell {w : World} {B n k : Nat} {A : Option Addr} {l : List Int} {x : Int} (h : Rd w B A 1 n (l.flatMap u8c)) (hL : l.length = n) (hk : l[k]? = some x) : ∃ b off, A = some ⟨b, off, none⟩ ∧ b < B ∧ w.cell? ⟨b, off + k, none⟩ = some (.int .u8 x) := by
  have hk' := (List.getElem?_eq_some_iff.1 hk).1
  obtain ⟨b, off, rfl, hb, hc⟩ := h.2 (by omega)
  exact ⟨b, off, rfl, hb, hc _ _ (by rw [flat_u8, List.getElem?_map, hk]; rfl)⟩
set_option maxRecDepth 100000 in
set_option maxHeartbeats 2000000 in
theorem unwrapped_walk (l : List Int) (w : World) (A : Option Addr) (L c : Nat) (hr : Rd w w.heap.size A 1 L (l.flatMap u8c)) (hL : l.length = L) (hb : ∀ x ∈ l, 0 ≤ x ∧ x ≤ 255) (hn : L ≤ 140737488355328) (hcap : L ≤ c) :
    Calls Try.prog 36 #[.slice A L c] w (RetLN 5 1 w (unwV l).1.length ((unwV l).1.flatMap u8c) (unwV l).2.1 (unwV l).2.2) := by
  have hget0 := unpacked_walk l w A L c hr hb (by omega)
  unfold tri at hget0
  rcases unwV_cases l hb with ⟨e, h1, h2, h3⟩ | ⟨n, k, h1, h2, h4, h5, ⟨h6, h7⟩ | ⟨h6, h7, h8⟩ | ⟨h6, h7⟩⟩
  · rw [h1] at hget0
    have HGet := hid hget0
    have HV := hid h3
    have hbb : (e == 0) = false := by rw [beq_eq_false_iff_ne]; omega
    clear hget0 h1 h3
    go_enter Try.func36, Try.ntmps36
    go_wp2_with fail
    refine HGet.out.mono ?_
    rintro e w1 ⟨rfl, rfl⟩
    go_wp2_with fail
    go_ret3
    rw [HV.out]
    exact retLN_nil _ _ _ _ _ (Below.refl _ _)
  · rw [h1] at hget0
    have HGet := hid hget0
    have HV := hid h7
    have z1 : (20000 : Int) < (n : Int) := by omega
    clear hget0 h1 h7
    go_enter Try.func36, Try.ntmps36
    go_wp2_with fail
    refine HGet.out.mono ?_
    rintro e w1 ⟨rfl, rfl⟩
    go_wp2_with fail
    go_ret3
    rw [HV.out]
    exact retLN_nil _ _ _ _ _ (Below.refl _ _)
  · rw [h1] at hget0
    have HGet := hid hget0
    have HV := hid h8
    have z1 : (n : Int) ≤ 20000 := by omega
    have z2 : (L : Int) - (k : Int) < (n : Int) + 4 := by omega
    clear hget0 h1 h8
    go_enter Try.func36, Try.ntmps36
    go_wp2_with fail
    refine HGet.out.mono ?_
    rintro e w1 ⟨rfl, rfl⟩
    go_wp2_with fail
    go_ret3
    rw [HV.out]
    exact retLN_nil _ _ _ _ _ (Below.refl _ _)
  · have hws := wrap_same hb h1 (by omega)
    have HV : Hid (unwV l = if sumV (l.take (k + n)) = unquad ((l.drop (k + n)).take 4) then ((l.drop k).take n, ((k : Int) + (n : Int) + 4), 0) else ([], 0, 5)) := hid (by
      unfold unwV
      rw [h1, if_neg (by simp), if_neg (by simp; omega), if_neg (by simp; omega)]
      simp only [Int.toNat_natCast, show ((k : Int) + (n : Int)).toNat = k + n by omega])
    rw [h1] at hget0
    have HGet := hid hget0
    obtain ⟨hw1, hw2, hw3⟩ := hws
    have hpl : ((l.drop k).take n).length = n := by rw [List.length_take, List.length_drop]; omega
    have hpb : ∀ x ∈ (l.drop k).take n, 0 ≤ x ∧ x ≤ 255 := fun x hx => hb x (List.mem_of_mem_drop (List.mem_of_mem_take hx))
    have hwv : wrapV ((l.drop k).take n) = (wrapB ((l.drop k).take n), 0) := wrapV_ok (by omega)
    have HWr := hid (fun w A m c hr hL => wrapped_walk ((l.drop k).take n) w A m c hr hL hpb)
    rw [hwv] at HWr
    have HW3 := hid hw3
    have HPL := hid hpl
    have HLl := hid hL
    have HB := hid hb
    have hmb : ∀ j x, (wrapB ((l.drop k).take n))[j]? = some x → ∃ u, l[j]? = some u := fun j x hx => ⟨_, List.getElem?_eq_getElem (by have := (List.getElem?_eq_some_iff.1 hx).1; omega)⟩
    have HMB := hid hmb
    clear hget0 h1 hw1 hw3 hpl hpb hwv hmb hL hb
    generalize wrapB ((l.drop k).take n) = m at *
    generalize sumV (l.take (k + n)) = S at *
    generalize unquad ((l.drop (k + n)).take 4) = U at *
    have z1 : (n : Int) ≤ 20000 := by omega
    have z2 : (n : Int) + 4 ≤ (L : Int) - (k : Int) := by have := HLl.out; omega
    have z3 : (L : Int) ≤ 140737488355328 := by omega
    have z4 : k + n + 4 ≤ L := by have := HLl.out; omega
    clear hn h7
    go_enter Try.func36, Try.ntmps36
    go_wp2_with fail
    refine HGet.out.mono ?_
    rintro e w1 ⟨rfl, rfl⟩
    go_wp2_with fail
    go_loopw [8, 9] (UwRel l k n w) (fun _ i _ => k + n - (intOf i).toNat)
    case atStart => exact ⟨k, 0, 0, none, hid rfl, by omega, rfl, rfl, World.ownsRow_nil _ _ _ _, Below.refl _ _⟩
    case round =>
      obtain ⟨q0, j, c', A', HQ0, hj, rfl, rfl, hown, hbel⟩ := hrel
      by_cases hlt : j < n
      · obtain ⟨x, hx⟩ : ∃ x, l[k + j]? = some x := ⟨_, List.getElem?_eq_getElem (by rw [HLl.out]; omega)⟩
        have hx0 : l[q0]? = some x := by rw [HQ0.out]; exact hx
        obtain ⟨b, off, rfl, hb, c0⟩ := u8_cell (hr.below hbel) HLl.out hx0
        have HT := hid (drop_take_next hx)
        have hkj2 : (q0 : Int) < (k : Int) + (n : Int) := by have := HQ0.out; omega
        have hkj3 : (q0 : Int) < (L : Int) := by have := HQ0.out; omega
        clear hx hx0
        go_wp2_with (at_builtin; refine wp_app1 _ rfl rfl el_bytes rfl (hown.alloc _) rfl (rd_new _ _ _ 1 1 rfl) (one1 _ _) (by omega) (Nat.le_trans hbel.size (by simp)) ?_; intro A2 c2 w2 hown2 hb2 hg2)
        go_roundw
        case rel => exact ⟨q0 + 1, j + 1, c2, A2, hid (by rw [HQ0.out]; omega), by omega, by go_num, rfl, by rw [HT.out, List.flatMap_append]; exact hown2, (hbel.alloc hbel.size _).trans hb2⟩
        case measure => simp [intOf]; have := HQ0.out; omega
      · obtain rfl : j = n := by omega
        have hq0 : (q0 : Int) = (k : Int) + (j : Int) := by have := HQ0.out; omega
        rw [hq0]
        clear hq0
        go_wp2_with fail
        refine (HWr.out _ A' j c' (rd_own hown) HPL.out (by omega)).mono ?_
        rintro e w2 ⟨A2, c2, rfl, o2, b2⟩
        have hm := rd_own o2
        have hl2 := hr.below (bT hbel b2)
        have b02 := bT hbel b2
        have hownp := own_below (base' := w.heap.size) hown b2 (Nat.le_refl _)
        by_cases hS : S = U
        · have HE : Hid (m = l.take (k + j + 4)) := hid (HW3.out.2 hS)
          rw [if_pos hS] at HV
          have HVV := hid HV.out
          have hlt' : ¬ (j < j) := hlt
          clear HV hS hlt hlt'
          go_wp2_with fail
          go_loopw [12] (UwEq l m w2) (fun i _ => m.length - (intOf i).toNat)
          case atStart => exact ⟨0, by omega, rfl, hid (fun q h => absurd h (by omega)), 0, rfl⟩
          case round =>
            obtain ⟨q, hq, rfl, HQ, nr, rfl⟩ := hrel
            by_cases hlt : q < m.length
            · obtain ⟨x, hx⟩ : ∃ x, m[q]? = some x := ⟨_, List.getElem?_eq_getElem hlt⟩
              have hx2 : l[q]? = some x := by
                have h := hx
                rw [HE.out, List.getElem?_take] at h
                split at h
                · exact h
                · cases h
              obtain ⟨b, off, rfl, hb, c0⟩ := u8_cell hm rfl hx
              obtain ⟨b', off', rfl, hb', c1⟩ := u8_cell hl2 HLl.out hx2
              have hqm : (q : Int) < (m.length : Int) := by omega
              have hqL : (q : Int) < (L : Int) := by omega
              have HX := hid hx
              have HX2 := hid hx2
              clear hx hx2
              go_wp2_with fail
              go_quiet (fail)
              go_wp2_with fail
              go_roundw
              case rel => exact ⟨q + 1, by omega, by go_num, hid (fun p hp => by
                by_cases e : p = q
                · subst e; rw [HX.out, HX2.out]
                · exact HQ.out p (by omega)), _, rfl⟩
              case measure => simp [intOf]; omega
            · obtain rfl : q = m.length := by omega
              go_wp2_with fail
              go_ret3
              rw [HVV.out]
              simp only
              rw [HPL.out]
              refine ⟨A', c', ?_, own_drewN hownp _, bN b02 _⟩
              rw [hw2]
              simp
        · rw [if_neg hS] at HV
          have HVV := hid HV.out
          have HN := hid (fun h => hS (HW3.out.1 h))
          clear HV hS
          go_wp2_with fail
          go_loopw [12] (UwEq l m w2) (fun i _ => m.length - (intOf i).toNat)
          case atStart => exact ⟨0, by omega, rfl, hid (fun q h => absurd h (by omega)), 0, rfl⟩
          case round =>
            obtain ⟨q, hq, rfl, HQ, nr, rfl⟩ := hrel
            by_cases hlt : q < m.length
            · obtain ⟨x, hx⟩ : ∃ x, m[q]? = some x := ⟨_, List.getElem?_eq_getElem hlt⟩
              obtain ⟨y, hy⟩ := HMB.out q x hx
              obtain ⟨b, off, rfl, hb, c0⟩ := u8_cell hm rfl hx
              obtain ⟨b', off', rfl, hb', c1⟩ := u8_cell hl2 HLl.out hy
              have hqm : (q : Int) < (m.length : Int) := by omega
              have hqL : (q : Int) < (L : Int) := by omega
              have HX := hid hx
              have HX2 := hid hy
              clear hx hy
              by_cases hxy : x = y
              · subst hxy
                go_wp2_with fail
                go_quiet (fail)
                go_wp2_with fail
                go_roundw
                case rel => exact ⟨q + 1, by omega, by go_num, hid (fun p hp => by
                  by_cases e : p = q
                  · subst e; rw [HX.out, HX2.out]
                  · exact HQ.out p (by omega)), _, rfl⟩
                case measure => simp [intOf]; omega
              · have hxb : (x != y) = true := by simpa using hxy
                clear hxy
                go_wp2_with fail
                go_quiet (fail)
                go_wp2_with fail
                go_ret3
                rw [HVV.out]
                exact retLN_nil _ _ _ _ _ (bN (bN b02 _) _)
            · obtain rfl : q = m.length := by omega
              exact absurd (by
                have hll := HLl.out
                apply List.ext_getElem?
                intro p
                by_cases hp : p < m.length
                · rw [HQ.out p hp, List.getElem?_take, if_pos (by omega)]
                · rw [List.getElem?_eq_none (by omega), List.getElem?_eq_none (by rw [List.length_take]; omega)]) HN.out
end Go.Proofs.Ytdmakcenfbfpaaa
