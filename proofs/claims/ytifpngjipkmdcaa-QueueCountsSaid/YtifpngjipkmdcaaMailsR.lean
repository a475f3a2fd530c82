/- The document's Mails: one by one put where it belongs. -/
import Derived.Test.YtifpngjipkmdcaaMComp
import Derived.Test.YtifpngjipkmdcaaMSrtR
namespace Go.Proofs.Ytifpngjipkmdcaa
open Go.ChangeShapes Go.WideShapes Go.ChangeAt Go.RowKit
set_option linter.unusedVariables false
set_option linter.unusedSimpArgs false
theorem two_oneN (x : Mail) : ∀ u ∈ (#[Value.int .i64 x.to, .int .i64 x.val] : Array Value).toList, u.oneCell' = true := by
  intro u hu; simp at hu; rcases hu with rfl | rfl <;> rfl
theorem swap_at {α : Type} (p q : List α) (x y : α) : ((p ++ [y] ++ x :: q).set (p.length + 1) y).set p.length x = p ++ x :: y :: q := by
  have e1 : p ++ [y] ++ x :: q = p ++ y :: x :: q := by simp
  rw [e1, List.set_append_right _ _ (by omega), List.set_append_right _ _ (by omega), Nat.sub_self, show p.length + 1 - p.length = 1 by omega]
  rfl
def OutM (l : List Mail) (w : World) (o i : Value) (wr : World) : Prop :=
  ∃ (k c : Nat) (A : Option Addr) (acc : List Mail), k ≤ l.length ∧ i = .int .i64 k ∧ o = .slice A k c ∧ Hid (acc.length = k) ∧ Hid (acc.Perm (l.take k)) ∧ Hid (Srt mlt acc) ∧ OwnM wr w.heap.size A c acc ∧ Below w.heap.size w wr
def InM (l : List Mail) (w : World) (n c g : Nat) (j : Value) (wr : World) : Prop :=
  ∃ (p q : List Mail) (x : Mail), j = .int .i64 p.length ∧ Hid (Sink mlt (l.take n) p x q) ∧ Hid (p.length + 1 + q.length = n) ∧ p.length < n ∧ OwnM wr w.heap.size (some ⟨g, 0, none⟩) c (p ++ x :: q) ∧ Below w.heap.size w wr
set_option maxRecDepth 100000 in
set_option maxHeartbeats 8000000 in
theorem mails_walk (l : List Mail) (w : World) (A : Option Addr) (c : Nat) (hr : Rd w w.heap.size A 2 l.length (l.flatMap Mail.cells)) (hl : l.length * 16 ≤ 140737488355328) :
    Calls Try.prog 46 #[.slice A l.length c] w fun e w' => ∃ A' c', e = .returned (.slice A' l.length c') ∧ w'.ownsRow w.heap.size 62 2 (.slice A' l.length c') l.length ((srtOf mlt l).flatMap Mail.cells) ∧ Below w.heap.size w w' := by
  go_enter Try.func46, Try.ntmps46
  go_wp2_with fail
  go_loopw [3, 4, 5, 6] (fun o i _ _ wr => OutM l w o i wr) (fun _ i _ _ _ => l.length - (intOf i).toNat)
  case atStart => exact ⟨0, 0, none, [], by omega, rfl, rfl, hid rfl, hid (by simp), hid List.Pairwise.nil, Heaped.nil, Below.refl _ _⟩
  case round =>
    obtain ⟨k, c', A', acc, hk, rfl, rfl, HAL, HPERM, HSRT, hown, hbel⟩ := hrel
    have hbr := hbel.size
    by_cases hlt : k < l.length
    · obtain ⟨x, hx⟩ : ∃ x, l[k]? = some x := ⟨_, List.getElem?_eq_getElem hlt⟩
      obtain ⟨b, off, rfl, hb, c0, c1⟩ := mcells (hr.below hbel) rfl hx
      have hkz : (k : Int) < (l.length : Int) := by omega
      have hn1 : (k + 1) * 16 ≤ 140737488355328 := by omega
      have HS0 := hid (show Sink mlt (l.take (k + 1)) acc x [] by rw [List.take_add_one, hx]; exact Sink.begin HPERM.out HSRT.out)
      clear hx
      go_wp2_with (at_builtin; refine wp_heap _ rfl rfl el_mails rfl HAL.out.symm (hown.alloc _) x (fun p hp => by cases hp) rfl (rd_newAt _ _ _ 2 1 _ rfl rfl) (two_oneN x) hn1 (Nat.le_trans hbr (by simp)) ?_; intro A3 c3 w4 hown4 hb4 hg4)
      have hbel4 := (hbel.alloc hbr _).trans hb4
      obtain ⟨g, rfl⟩ : ∃ g, A3 = some ⟨g, 0, none⟩ := by
        rcases hown4.1.2 with ⟨hv, h0⟩ | ⟨g, cap, cur, hv, _⟩
        · rw [List.length_append] at h0; simp at h0
        · injection hv with e1 _ _; exact ⟨g, e1⟩
      clear hown hb4 hg4 c0 c1
      go_loopw [5, 6] (fun j _ wr => InM l w (k + 1) c3 g j wr) (fun j _ _ => (intOf j).toNat)
      case atStart => exact ⟨acc, [], x, by rw [HAL.out], HS0, hid (by rw [HAL.out]; rfl), by rw [HAL.out]; omega, hown4, hbel4⟩
      case round =>
        clear hown4 hbel4 HS0
        obtain ⟨p, q, x, rfl, HS, HLEN, hpk, hown, hbel⟩ := hrel
        have hbr := hbel.size
        have hLl : (p ++ x :: q).length = k + 1 := by rw [List.length_append, List.length_cons]; have := HLEN.out; omega
        by_cases hp0 : p.length = 0
        · obtain rfl : p = [] := List.eq_nil_of_length_eq_zero hp0
          have HST := hid (HS.out.stop mlt_strict (fun p' y h => by simp at h))
          have HOWN := hid hown
          clear hown
          go_wp2_with fail
          go_quiet (fail)
          go_wp2_with fail
          go_roundw
          case rel => exact ⟨k + 1, c3, some ⟨g, 0, none⟩, [] ++ x :: q, by omega, by go_num, rfl, hid hLl, hid HST.out.1, hid HST.out.2, HOWN.out.below (below_drewN (Below.refl _ _) nq) (Nat.le_refl _), below_drewN hbel nq⟩
          case measure => simp [intOf]; omega
        · obtain ⟨p', y, rfl⟩ : ∃ p' y, p = p' ++ [y] := by
            rcases List.eq_nil_or_concat p with h | ⟨p', y, h⟩
            · subst h; simp at hp0
            · exact ⟨p', y, by rw [h, List.concat_eq_append]⟩
          have hpl : (p' ++ [y]).length = p'.length + 1 := by simp
          obtain ⟨m, hm⟩ : ∃ m, p'.length = m := ⟨_, rfl⟩
          rw [hpl, hm] at hpk ⊢
          have hLx : (p' ++ [y] ++ x :: q)[m + 1]? = some x := by rw [List.getElem?_append_right (by omega), hpl, hm, Nat.sub_self]; rfl
          have hLy : (p' ++ [y] ++ x :: q)[m]? = some y := by rw [List.append_assoc, List.getElem?_append_right (by omega), hm, Nat.sub_self]; rfl
          obtain ⟨b', off', hbo, hb', c0, c1⟩ := mcells hown.led.1 rfl hLx
          obtain ⟨b2, off2, hbb, hb2, d0, d1⟩ := mcells hown.led.1 rfl hLy
          injection hbo with hbo
          injection hbo with e1 e2
          subst e1 e2
          injection hbb with hbb
          injection hbb with e1 e2
          subst e1 e2
          simp only [Nat.zero_add] at c0 c1 d0 d1
          have HO2 := hid fun r => ahead_walk x y (wr.drewN r)
          have hm0 : (0 : Int) < (m : Int) + 1 := by omega
          have hm1 : (m : Int) + 1 < ((k : Int) + 1) := by omega
          have hm2 : (0 : Int) ≤ (m : Int) + 1 := by omega
          have hm4 : (m : Int) < ((k : Int) + 1) := by omega
          have hm5 : (0 : Int) ≤ (m : Int) := by omega
          have hw1 : IntKind.i64.wrap (m : Int) = (m : Int) := IntWalk.i64_in _ (by omega)
          have hw2 : IntKind.i64.wrap ((m : Int) + 1 - 1) = (m : Int) := by rw [show (m : Int) + 1 - 1 = (m : Int) by omega]; exact hw1
          have hgz : g ≠ wr.heap.size := by omega
          have hkk : ∀ (r : Nat) (w3 : World), Below (wr.drewN r).heap.size (wr.drewN r) w3 → w3.cell? ⟨g, (m + 1) * 2, none⟩ = some (.int .i64 x.to) ∧ w3.cell? ⟨g, (m + 1) * 2 + 1, none⟩ = some (.int .i64 x.val) ∧ w3.cell? ⟨g, m * 2, none⟩ = some (.int .i64 y.to) ∧ w3.cell? ⟨g, m * 2 + 1, none⟩ = some (.int .i64 y.val) := fun r w3 h3 =>
            ⟨keepb h3 (by simpa using c0), keepb h3 (by simpa using c1), keepb h3 (by simpa using d0), keepb h3 (by simpa using d1)⟩
          have HK := hid hkk
          clear hkk
          cases hv : mlt x y with
          | false =>
            rw [hv] at HO2
            have HST := hid (HS.out.stop mlt_strict (fun p2 y2 h => by
              have := List.append_inj_right' h rfl
              injection this with this
              rw [← this]; exact hv))
            have HOWN := hid hown
            clear hown
            go_wp2_with fail
            go_region_held3 (fun w' => w'.cell? ⟨g, (m + 1) * 2, none⟩ = some (.int .i64 x.to) ∧ w'.cell? ⟨g, (m + 1) * 2 + 1, none⟩ = some (.int .i64 x.val) ∧ w'.cell? ⟨g, m * 2, none⟩ = some (.int .i64 y.to) ∧ w'.cell? ⟨g, m * 2 + 1, none⟩ = some (.int .i64 y.val)) (first | exact HK.out _ _ b3 | go_keep) ((go_at_call 85; refine (HO2.out 1).mono ?_; rintro r w3 ⟨rfl, b3⟩))
            all_goals
              have b13 : Below wr.heap.size wr w3 := (below_drewN (Below.refl wr.heap.size wr) 1).trans b3
              go_wp2_with fail
              go_roundw
              case rel => exact ⟨k + 1, c3, some ⟨g, 0, none⟩, p' ++ [y] ++ x :: q, by omega, by go_num, rfl, hid hLl, hid HST.out.1, hid HST.out.2, HOWN.out.below b13 (Nat.le_refl _), hbel.trans (b13.mono hbr)⟩
              case measure => simp [intOf]; omega
          | true =>
            rw [hv] at HO2
            have HD := hid (HS.out.down hv)
            have HSW := hid (swap_at p' q x y)
            rw [hm] at HSW
            go_wp2_with fail
            go_region_held3 (fun w' => w'.cell? ⟨g, (m + 1) * 2, none⟩ = some (.int .i64 x.to) ∧ w'.cell? ⟨g, (m + 1) * 2 + 1, none⟩ = some (.int .i64 x.val) ∧ w'.cell? ⟨g, m * 2, none⟩ = some (.int .i64 y.to) ∧ w'.cell? ⟨g, m * 2 + 1, none⟩ = some (.int .i64 y.val)) (first | exact HK.out _ _ b3 | go_keep) ((go_at_call 85; refine (HO2.out 1).mono ?_; rintro r w3 ⟨rfl, b3⟩))
            all_goals
              have b13 : Below wr.heap.size wr w3 := (below_drewN (Below.refl wr.heap.size wr) 1).trans b3
              obtain ⟨c0', c1', d0', d1'⟩ := HK.out 1 w3 b3
              have hown3 := hown.below b13 (Nat.le_refl _)
              obtain ⟨g', hg', hgB, hgs, hgc, hgf, hput⟩ := heap_put (cells := Mail.cells) (sz := 2) (fun _ => rfl) hown3 hLx y (fun pt hpt => by cases hpt) (by decide)
              injection hg' with hg'
              injection hg' with hg'
              subst hg'
              obtain ⟨g', hg', hgB2, hgs2, hgc2, hgf2, hput2⟩ := heap_put (cells := Mail.cells) (sz := 2) (fun _ => rfl) hput (k := m) (x := y) (by rw [List.getElem?_set_ne (by omega)]; exact hLy) x (fun pt hpt => by cases hpt) (by decide)
              injection hg' with hg'
              injection hg' with hg'
              subst hg'
              have hgs3 : g < w3.heap.size := by have := b13.size; omega
              have hgz3 : g ≠ w3.heap.size := by omega
              have f0 := hgf ((m + 1) * 2)
              have f1 := hgf ((m + 1) * 2 + 1)
              have f2 := hgf (m * 2)
              have f3 := hgf (m * 2 + 1)
              rw [HSW.out] at hput2
              have HP := hid hput2
              have HB3 := hid (hbel.trans (b13.mono hbr))
              have hz3 : w.heap.size ≤ w3.heap.size := HB3.out.size
              clear hput hput2 hgc hgf hgc2 hgf2 hown3 hown c0 c1 d0 d1 HSW
              go_wp2_with fail
              go_roundw
              case rel => exact ⟨p', y :: q, x, by rw [hm], HD, hid (by have := HLEN.out; rw [hpl] at this; simp; omega), by omega, HP.out.alloc _, ((((HB3.out.setCell hgB _).setCell hgB _).setCell hgB _).setCell hgB _).alloc (by simpa using hz3) _⟩
              case measure => simp [intOf]
    · obtain rfl : k = l.length := by omega
      have HE := hid (srtOf_eq mlt_strict (show acc.Perm l by have := HPERM.out; rwa [List.take_length] at this) HSRT.out)
      have HO := hid hown.1
      have HLL := hid HAL.out
      clear hown
      go_wp2_with fail
      go_ret
      refine ⟨A', c', rfl, ?_, hbel⟩
      have h := HO.out
      rw [HLL.out] at h
      rw [HE.out]
      exact h
end Go.Proofs.Ytifpngjipkmdcaa
