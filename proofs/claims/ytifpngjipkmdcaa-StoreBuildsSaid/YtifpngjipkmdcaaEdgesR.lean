/- The document's InOrder: edges, one by one put where they belong. -/
import Derived.Test.YtifpngjipkmdcaaEOrd
import Derived.Test.YtifpngjipkmdcaaGraph
import Derived.Test.YtifpngjipkmdcaaBase
namespace Go.Proofs.Ytifpngjipkmdcaa
open Go.ChangeShapes Go.WideShapes Go.ChangeAt Go.RowKit
set_option linter.unusedVariables false
set_option linter.unusedSimpArgs false
theorem three_oneE (x : Edge) : ∀ u ∈ (#[Value.int .i64 x.src, .int .i64 x.dst, .int .i64 x.wt] : Array Value).toList, u.oneCell' = true := by
  intro u hu; simp at hu; rcases hu with rfl | rfl | rfl <;> rfl
theorem swap_atE {α : Type} (p q : List α) (x y : α) : ((p ++ [y] ++ x :: q).set (p.length + 1) y).set p.length x = p ++ x :: y :: q := by
  have e1 : p ++ [y] ++ x :: q = p ++ y :: x :: q := by simp
  rw [e1, List.set_append_right _ _ (by omega), List.set_append_right _ _ (by omega), Nat.sub_self, show p.length + 1 - p.length = 1 by omega]
  rfl
def noPartsE : Edge → List Part := fun _ => []
abbrev OwnE (w : World) (B : Nat) (A : Option Addr) (c : Nat) (l : List Edge) : Prop := Heaped Edge.cells noPartsE w B 82 3 A c l
def OutE (l : List Edge) (w : World) (o i : Value) (wr : World) : Prop :=
  ∃ (k c : Nat) (A : Option Addr) (acc : List Edge), k ≤ l.length ∧ i = .int .i64 k ∧ o = .slice A k c ∧ Hid (acc.length = k) ∧ Hid (acc.Perm (l.take k)) ∧ Hid (Srt elt acc) ∧ OwnE wr w.heap.size A c acc ∧ Below w.heap.size w wr
def InE (l : List Edge) (w : World) (n c g : Nat) (j : Value) (wr : World) : Prop :=
  ∃ (p q : List Edge) (x : Edge), j = .int .i64 p.length ∧ Hid (Sink elt (l.take n) p x q) ∧ Hid (p.length + 1 + q.length = n) ∧ p.length < n ∧ OwnE wr w.heap.size (some ⟨g, 0, none⟩) c (p ++ x :: q) ∧ Below w.heap.size w wr
set_option maxRecDepth 100000 in
set_option maxHeartbeats 8000000 in
theorem inOrder_walk (l : List Edge) (w : World) (A : Option Addr) (c : Nat) (hr : Rd w w.heap.size A 3 l.length (l.flatMap Edge.cells)) (hl : l.length * 24 ≤ 140737488355328) :
    Calls Try.prog 100 #[.slice A l.length c] w fun e w' => ∃ A' c', e = .returned (.slice A' l.length c') ∧ w'.ownsRow w.heap.size 82 3 (.slice A' l.length c') l.length ((srtOf elt l).flatMap Edge.cells) ∧ Below w.heap.size w w' := by
  go_enter Try.func100, Try.ntmps100
  go_wp2_with fail
  go_loopw [3, 4, 5, 6] (fun o i _ _ wr => OutE l w o i wr) (fun _ i _ _ _ => l.length - (intOf i).toNat)
  case atStart => exact ⟨0, 0, none, [], by omega, rfl, rfl, hid rfl, hid (by simp), hid List.Pairwise.nil, Heaped.nil, Below.refl _ _⟩
  case round =>
    obtain ⟨k, c', A', acc, hk, rfl, rfl, HAL, HPERM, HSRT, hown, hbel⟩ := hrel
    have hbr := hbel.size
    by_cases hlt : k < l.length
    · obtain ⟨x, hx⟩ : ∃ x, l[k]? = some x := ⟨_, List.getElem?_eq_getElem hlt⟩
      obtain ⟨b, off, rfl, hb, c0, c1, c2⟩ := edge_cells (hr.below hbel) rfl hx
      have hkz : (k : Int) < (l.length : Int) := by omega
      have hn1 : (k + 1) * 24 ≤ 140737488355328 := by omega
      have HS0 := hid (show Sink elt (l.take (k + 1)) acc x [] by rw [List.take_add_one, hx]; exact Sink.begin HPERM.out HSRT.out)
      clear hx
      go_wp2_with (at_builtin; refine wp_heap _ rfl rfl el_edges rfl HAL.out.symm (hown.alloc _) x (fun p hp => by cases hp) rfl (rd_newAt _ _ _ 3 1 _ rfl rfl) (three_oneE x) hn1 (Nat.le_trans hbr (by simp)) ?_; intro A3 c3 w4 hown4 hb4 hg4)
      have hbel4 := (hbel.alloc hbr _).trans hb4
      obtain ⟨g, rfl⟩ : ∃ g, A3 = some ⟨g, 0, none⟩ := by
        rcases hown4.1.2 with ⟨hv, h0⟩ | ⟨g, cap, cur, hv, _⟩
        · rw [List.length_append] at h0; simp at h0
        · injection hv with e1 _ _; exact ⟨g, e1⟩
      clear hown hb4 hg4 c0 c1 c2
      go_loopw [5, 6] (fun j _ wr => InE l w (k + 1) c3 g j wr) (fun j _ _ => (intOf j).toNat)
      case atStart => exact ⟨acc, [], x, by rw [HAL.out], HS0, hid (by rw [HAL.out]; rfl), by rw [HAL.out]; omega, hown4, hbel4⟩
      case round =>
        clear hown4 hbel4 HS0
        obtain ⟨p, q, x, rfl, HS, HLEN, hpk, hown, hbel⟩ := hrel
        have hbr := hbel.size
        have hLl : (p ++ x :: q).length = k + 1 := by rw [List.length_append, List.length_cons]; have := HLEN.out; omega
        by_cases hp0 : p.length = 0
        · obtain rfl : p = [] := List.eq_nil_of_length_eq_zero hp0
          have HST := hid (HS.out.stop elt_strict (fun p' y h => by simp at h))
          have HOWN := hid hown
          clear hown
          go_wp2_with fail
          go_quiet (fail)
          go_wp2_with fail
          go_roundw
          case rel => exact ⟨k + 1, c3, some ⟨g, 0, none⟩, [] ++ x :: q, by omega, by go_num, rfl, hid hLl, hid HST.out.1, hid HST.out.2, HOWN.out.below (below_drewN (Below.refl _ _) nq) (Nat.le_refl _), below_drewN hbel nq⟩
          case measure => simp [intOf]; omega
        · obtain ⟨p', y, rfl⟩ : ∃ p' y, p = p' ++ [y] := by
            rcases List.eq_nil_or_concat p with h | ⟨p', y, h⟩
            · subst h; simp at hp0
            · exact ⟨p', y, by rw [h, List.concat_eq_append]⟩
          have hpl : (p' ++ [y]).length = p'.length + 1 := by simp
          obtain ⟨m, hm⟩ : ∃ m, p'.length = m := ⟨_, rfl⟩
          rw [hpl, hm] at hpk ⊢
          have hLx : (p' ++ [y] ++ x :: q)[m + 1]? = some x := by rw [List.getElem?_append_right (by omega), hpl, hm, Nat.sub_self]; rfl
          have hLy : (p' ++ [y] ++ x :: q)[m]? = some y := by rw [List.append_assoc, List.getElem?_append_right (by omega), hm, Nat.sub_self]; rfl
          obtain ⟨b', off', hbo, hb', c0, c1, c2⟩ := edge_cells hown.led.1 rfl hLx
          obtain ⟨b2, off2, hbb, hb2, d0, d1, d2⟩ := edge_cells hown.led.1 rfl hLy
          injection hbo with hbo
          injection hbo with e1 e2
          subst e1 e2
          injection hbb with hbb
          injection hbb with e1 e2
          subst e1 e2
          simp only [Nat.zero_add] at c0 c1 c2 d0 d1 d2
          have HO2 := hid fun r => aheadE_walk x y (wr.drewN r)
          have hm0 : (0 : Int) < (m : Int) + 1 := by omega
          have hm1 : (m : Int) + 1 < ((k : Int) + 1) := by omega
          have hm2 : (0 : Int) ≤ (m : Int) + 1 := by omega
          have hm4 : (m : Int) < ((k : Int) + 1) := by omega
          have hm5 : (0 : Int) ≤ (m : Int) := by omega
          have hw1 : IntKind.i64.wrap (m : Int) = (m : Int) := IntWalk.i64_in _ (by omega)
          have hw2 : IntKind.i64.wrap ((m : Int) + 1 - 1) = (m : Int) := by rw [show (m : Int) + 1 - 1 = (m : Int) by omega]; exact hw1
          have hgz : g ≠ wr.heap.size := by omega
          have hkk : ∀ (r : Nat) (w3 : World), Below (wr.drewN r).heap.size (wr.drewN r) w3 → w3.cell? ⟨g, (m + 1) * 3, none⟩ = some (.int .i64 x.src) ∧ w3.cell? ⟨g, (m + 1) * 3 + 1, none⟩ = some (.int .i64 x.dst) ∧ w3.cell? ⟨g, (m + 1) * 3 + 2, none⟩ = some (.int .i64 x.wt) ∧ w3.cell? ⟨g, m * 3, none⟩ = some (.int .i64 y.src) ∧ w3.cell? ⟨g, m * 3 + 1, none⟩ = some (.int .i64 y.dst) ∧ w3.cell? ⟨g, m * 3 + 2, none⟩ = some (.int .i64 y.wt) := fun r w3 h3 =>
            ⟨keepb h3 (by simpa using c0), keepb h3 (by simpa using c1), keepb h3 (by simpa using c2), keepb h3 (by simpa using d0), keepb h3 (by simpa using d1), keepb h3 (by simpa using d2)⟩
          have HK := hid hkk
          clear hkk
          cases hv : elt x y with
          | false =>
            rw [hv] at HO2
            have HST := hid (HS.out.stop elt_strict (fun p2 y2 h => by
              have := List.append_inj_right' h rfl
              injection this with this
              rw [← this]; exact hv))
            have HOWN := hid hown
            clear hown
            go_wp2_with fail
            go_region_held3 (fun w' => w'.cell? ⟨g, (m + 1) * 3, none⟩ = some (.int .i64 x.src) ∧ w'.cell? ⟨g, (m + 1) * 3 + 1, none⟩ = some (.int .i64 x.dst) ∧ w'.cell? ⟨g, (m + 1) * 3 + 2, none⟩ = some (.int .i64 x.wt) ∧ w'.cell? ⟨g, m * 3, none⟩ = some (.int .i64 y.src) ∧ w'.cell? ⟨g, m * 3 + 1, none⟩ = some (.int .i64 y.dst) ∧ w'.cell? ⟨g, m * 3 + 2, none⟩ = some (.int .i64 y.wt)) (first | exact HK.out _ _ b3 | go_keep) ((go_at_call 112; refine (HO2.out 1).mono ?_; rintro r w3 ⟨rfl, b3⟩))
            all_goals
              have b13 : Below wr.heap.size wr w3 := (below_drewN (Below.refl wr.heap.size wr) 1).trans b3
              go_wp2_with fail
              go_roundw
              case rel => exact ⟨k + 1, c3, some ⟨g, 0, none⟩, p' ++ [y] ++ x :: q, by omega, by go_num, rfl, hid hLl, hid HST.out.1, hid HST.out.2, HOWN.out.below b13 (Nat.le_refl _), hbel.trans (b13.mono hbr)⟩
              case measure => simp [intOf]; omega
          | true =>
            rw [hv] at HO2
            have HD := hid (HS.out.down hv)
            have HSW := hid (swap_atE p' q x y)
            rw [hm] at HSW
            go_wp2_with fail
            go_region_held3 (fun w' => w'.cell? ⟨g, (m + 1) * 3, none⟩ = some (.int .i64 x.src) ∧ w'.cell? ⟨g, (m + 1) * 3 + 1, none⟩ = some (.int .i64 x.dst) ∧ w'.cell? ⟨g, (m + 1) * 3 + 2, none⟩ = some (.int .i64 x.wt) ∧ w'.cell? ⟨g, m * 3, none⟩ = some (.int .i64 y.src) ∧ w'.cell? ⟨g, m * 3 + 1, none⟩ = some (.int .i64 y.dst) ∧ w'.cell? ⟨g, m * 3 + 2, none⟩ = some (.int .i64 y.wt)) (first | exact HK.out _ _ b3 | go_keep) ((go_at_call 112; refine (HO2.out 1).mono ?_; rintro r w3 ⟨rfl, b3⟩))
            all_goals
              have b13 : Below wr.heap.size wr w3 := (below_drewN (Below.refl wr.heap.size wr) 1).trans b3
              obtain ⟨c0', c1', c2', d0', d1', d2'⟩ := HK.out 1 w3 b3
              have hown3 := hown.below b13 (Nat.le_refl _)
              obtain ⟨g', hg', hgB, hgs, hgc, hgf, hput⟩ := heap_put (cells := Edge.cells) (sz := 3) (fun _ => rfl) hown3 hLx y (fun pt hpt => by cases hpt) (by decide)
              injection hg' with hg'
              injection hg' with hg'
              subst hg'
              obtain ⟨g', hg', hgB2, hgs2, hgc2, hgf2, hput2⟩ := heap_put (cells := Edge.cells) (sz := 3) (fun _ => rfl) hput (k := m) (x := y) (by rw [List.getElem?_set_ne (by omega)]; exact hLy) x (fun pt hpt => by cases hpt) (by decide)
              injection hg' with hg'
              injection hg' with hg'
              subst hg'
              have hgs3 : g < w3.heap.size := by have := b13.size; omega
              have hgz3 : g ≠ w3.heap.size := by omega
              have f0 := hgf ((m + 1) * 3)
              have f1 := hgf ((m + 1) * 3 + 1)
              have f1' := hgf ((m + 1) * 3 + 2)
              have f2 := hgf (m * 3)
              have f3 := hgf (m * 3 + 1)
              have f3' := hgf (m * 3 + 2)
              rw [HSW.out] at hput2
              have HP := hid hput2
              have HB3 := hid (hbel.trans (b13.mono hbr))
              have hz3 : w.heap.size ≤ w3.heap.size := HB3.out.size
              clear hput hput2 hgc hgf hgc2 hgf2 hown3 hown c0 c1 c2 d0 d1 d2 HSW
              go_wp2_with fail
              go_roundw
              case rel => exact ⟨p', y :: q, x, by rw [hm], HD, hid (by have := HLEN.out; rw [hpl] at this; simp; omega), by omega, HP.out.alloc _, ((((((HB3.out.setCell hgB _).setCell hgB _).setCell hgB _).setCell hgB _).setCell hgB _).setCell hgB _).alloc (by simpa using hz3) _⟩
              case measure => simp [intOf]
    · obtain rfl : k = l.length := by omega
      have HE := hid (srtOf_eq elt_strict (show acc.Perm l by have := HPERM.out; rwa [List.take_length] at this) HSRT.out)
      have HO := hid hown.1
      have HLL := hid HAL.out
      clear hown
      go_wp2_with fail
      go_ret
      refine ⟨A', c', rfl, ?_, hbel⟩
      have h := HO.out
      rw [HLL.out] at h
      rw [HE.out]
      exact h
end Go.Proofs.Ytifpngjipkmdcaa
