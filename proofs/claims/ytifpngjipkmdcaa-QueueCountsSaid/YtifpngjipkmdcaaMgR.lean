/- The document's MailMerged. -/
import Derived.Test.YtifpngjipkmdcaaMgL
namespace Go.Proofs.Ytifpngjipkmdcaa
open Go.ChangeShapes Go.WideShapes Go.ChangeAt Go.RowKit
set_option linter.unusedVariables false
set_option linter.unusedSimpArgs false
def Mr2 (l : List (ML Mail)) (w : World) (sv iv : Value) (wr : World) : Prop :=
  ∃ (k n c : Nat) (A : Option Addr), k ≤ l.length ∧ iv = .int .i64 (k : Nat) ∧ sv = .slice A n c ∧ Hid ((catL (l.take k)).length = n) ∧ Hid (∀ x ∈ l.take k, ordB x.l = true) ∧ Hid (wr.ownsRow w.heap.size 62 2 (.slice A n c) n ((catL (l.take k)).flatMap Mail.cells)) ∧ Below w.heap.size w wr
def Mr3 (l : List (ML Mail)) (k : Nat) (x : ML Mail) (n0 : Nat) (w : World) (sv jv : Value) (wr : World) : Prop :=
  ∃ (j n c : Nat) (A : Option Addr), j ≤ x.l.length ∧ n = n0 + j ∧ jv = .int .i64 (j : Nat) ∧ sv = .slice A n c ∧ Hid (wr.ownsRow w.heap.size 62 2 (.slice A n c) n ((catL (l.take k) ++ x.l.take j).flatMap Mail.cells)) ∧ Below w.heap.size w wr
theorem catL_next {l : List (ML Mail)} {k : Nat} {x : ML Mail} (h : l[k]? = some x) : catL (l.take (k + 1)) = catL (l.take k) ++ x.l := by
  rw [take_nextV h]; simp [catL]
theorem catL_le (l : List (ML Mail)) (k : Nat) : (catL (l.take k)).length ≤ (catL l).length := by
  have h : catL l = catL (l.take k) ++ catL (l.drop k) := by unfold catL; rw [← List.flatMap_append, List.take_append_drop]
  rw [h, List.length_append]; omega
theorem mails_at (l : List Mail) (w : World) (A : Option Addr) (c : Nat) {n : Nat} (hn : l.length = n) (hr : Rd w w.heap.size A 2 n (l.flatMap Mail.cells)) (hl : n * 16 ≤ 140737488355328) :
    Calls Try.prog 46 #[.slice A n c] w fun e w' => ∃ A' c', e = .returned (.slice A' n c') ∧ w'.ownsRow w.heap.size 62 2 (.slice A' n c') n ((srtOf mlt l).flatMap Mail.cells) ∧ Below w.heap.size w w' := by
  subst hn; exact mails_walk l w A c hr hl
set_option maxRecDepth 100000 in
set_option maxHeartbeats 4000000 in
theorem mailMerged_walk (l : List (ML Mail)) (w : World) (A : Option Addr) (c : Nat) (hg : Grid Mail.cells 2 w w.heap.size A l) (hl : l.length ≤ 140737488355328) (hz : ∀ x ∈ l, x.l.length ≤ 140737488355328) :
    Calls Try.prog 17 #[.slice A l.length c] w (RetL 62 2 w (mergeL l).1.length ((mergeL l).1.flatMap Mail.cells) (mergeL l).2) := by
  have HG := hid hg
  have HZ := hid hz
  clear hg hz
  go_enter Try.func17, Try.ntmps17
  go_wp2_with fail
  go_loopw [4, 5] (fun av iv wr => Ls1 l w av iv wr) (fun _ iv _ => l.length - (intOf iv).toNat)
  case atStart => exact ⟨0, 0, Nat.zero_le _, rfl, rfl, hid (by rw [List.drop_zero]), rfl⟩
  case round =>
    obtain ⟨k, a, hk, rfl, rfl, HA, rfl⟩ := hrel
    by_cases hlt : k < l.length
    · obtain ⟨x, hx⟩ : ∃ x, l[k]? = some x := ⟨_, List.getElem?_eq_getElem hlt⟩
      obtain ⟨b, off, rfl, hb, c0⟩ := ml_cell HG.out.1 rfl hx
      have hkz : (k : Int) < (l.length : Int) := by omega
      have HN := hid (show lensGo (l.drop (k + 1)) (wrap64 (a + (x.l.length : Int))) = lensGo l 0 from by rw [← HA.out, drop_step hx]; rfl)
      clear hx HA
      go_wp2_with fail
      go_roundw
      case rel => exact ⟨k + 1, _, by omega, by go_num, rfl, HN, rfl⟩
      case measure => (simp [intOf]) <;> omega
    · obtain rfl : k = l.length := by omega
      have hkz : ¬ (l.length : Int) < (l.length : Int) := by omega
      have HA2 := hid (show a = lensGo l 0 from by have h := HA.out; rwa [List.drop_length] at h)
      clear HA
      by_cases h1 : 5000 < a
      · have HV := hid (mergeL_big (l := l) (.inl (by rw [← HA2.out]; exact h1)))
        go_wp2_with fail
        go_ret2
        exact retL_nil (l := []) HV.out (Below.refl _ _)
      · by_cases h2 : 5000 < l.length
        · have HV := hid (mergeL_big (l := l) (.inr h2))
          have h2z : (5000 : Int) < (l.length : Int) := by omega
          go_wp2_with fail
          go_ret2
          exact retL_nil (l := []) HV.out (Below.refl _ _)
        · have h2z : ¬ (5000 : Int) < (l.length : Int) := by omega
          have HNB := hid (show ¬ (5000 < lensGo l 0 ∨ 5000 < l.length) from by rw [← HA2.out]; omega)
          have HC5 := hid (lensGo_cat HZ.out HNB.out)
          clear HA2
          go_wp2_with fail
          go_loopw [6, 7, 8] (fun sv iv _ wr => Mr2 l w sv iv wr) (fun _ iv _ _ => l.length - (intOf iv).toNat)
          case atStart => exact ⟨0, 0, 0, none, Nat.zero_le _, rfl, rfl, hid rfl, hid (fun x hx => by cases hx), hid (World.ownsRow_nil _ _ _ _), Below.refl _ _⟩
          case round =>
            obtain ⟨k, n, c1, A1, hk, rfl, rfl, HN, HO, HOW, hbel⟩ := hrel
            by_cases hlt : k < l.length
            · obtain ⟨x, hx⟩ : ∃ x, l[k]? = some x := ⟨_, List.getElem?_eq_getElem hlt⟩
              have hxm := List.mem_of_getElem? hx
              obtain ⟨b, off, rfl, hb, c0⟩ := ml_cell (HG.out.1.below hbel) rfl hx
              have hkz : (k : Int) < (l.length : Int) := by omega
              have HRX := hid (rdb (Grid.data HG.out hxm) (by decide) hbel)
              have HS := hid (isOrdered_walk x.l wr x.A x.c HRX.out (HZ.out x hxm))
              have HNX := hid (fun h => ord_next HO.out hx h)
              have HBD := hid (fun h => mergeL_form HNB.out hxm h)
              have HCN := hid (catL_next hx)
              have hcl : n + x.l.length ≤ 5000 := by
                have h1 := catL_le l (k + 1)
                rw [HCN.out, List.length_append, HN.out] at h1
                have := HC5.out; omega
              have hbs := hbel.size
              have HXK := hid hx
              clear hx hxm HO
              generalize ordB x.l = r at *
              cases r with
              | false =>
                have HV := hid (HBD.out rfl)
                clear HNX HBD
                go_wp2_with fail
                refine HS.out.mono ?_
                rintro e w1 ⟨rfl, b1⟩
                go_wp2_with fail
                go_ret2
                exact retL_nil (l := []) HV.out (bT hbel b1)
              | true =>
                have HV := hid (HNX.out rfl)
                clear HNX HBD
                go_wp2_with fail
                refine HS.out.mono ?_
                rintro e w1 ⟨rfl, b1⟩
                have HB1 := hid (bT hbel b1)
                have HOW1 := hid (own_below HOW.out b1 (Nat.le_refl _))
                clear b1 HOW HRX c0 hbel hb
                go_wp2_with fail
                go_loopw [6, 8] (fun sv jv wr => Mr3 l k x n w sv jv wr) (fun _ jv _ => x.l.length - (intOf jv).toNat)
                case atStart => exact ⟨0, n, c1, A1, Nat.zero_le _, rfl, rfl, rfl, hid (by rw [List.take_zero, List.append_nil]; exact HOW1.out), HB1.out⟩
                case round =>
                  clear HOW1 HB1
                  obtain ⟨j, m, c3, A3, hj, hm, rfl, rfl, HOW, hbel⟩ := hrel
                  obtain ⟨b3, off3, hA, hb, c0⟩ := ml_cell (HG.out.1.below hbel) rfl HXK.out
                  injection hA with hA
                  injection hA with hA1 hA2
                  subst hA1 hA2
                  have HM := hid hm
                  have hbs := hbel.size
                  clear hm
                  by_cases hlj : j < x.l.length
                  · obtain ⟨y, hy⟩ : ∃ y, x.l[j]? = some y := ⟨_, List.getElem?_eq_getElem hlj⟩
                    obtain ⟨b4, off4, hxA, hb4, e0, e1⟩ := mcells (rdb (Grid.data HG.out (List.mem_of_getElem? HXK.out)) (by decide) hbel) rfl hy
                    rw [hxA] at c0
                    have hjz : (j : Int) < (x.l.length : Int) := by omega
                    have hmn : m < 5000 := by have := HM.out; omega
                    have hSZ : (m + 1) * 16 ≤ 140737488355328 := by omega
                    have HT := hid (show (catL (l.take k) ++ x.l.take (j + 1)).flatMap Mail.cells = (catL (l.take k) ++ x.l.take j).flatMap Mail.cells ++ [.int .i64 y.to, .int .i64 y.val] from by rw [take_nextV hy, ← List.append_assoc, List.flatMap_append (xs := _ ++ _)]; rfl)
                    have hb4' : b4 < wr.heap.size := hb4
                    clear hy hxA
                    go_wp2_with (at_builtin; refine wp_app1 _ rfl rfl el_mails rfl (own_below HOW.out (bA (Below.refl _ _) _) (Nat.le_refl _)) rfl (rd_new _ _ _ 2 1 rfl) (two_oneN y) hSZ (by simp; omega) ?_; intro A5 c5 w5 o5 b5 g5)
                    have HO5 := hid (show World.ownsRow _ _ _ _ _ _ ((catL (l.take k) ++ x.l.take (j + 1)).flatMap Mail.cells) from by rw [HT.out]; exact o5)
                    have HB5 := hid ((hbel.trans ((bA (Below.refl wr.heap.size wr) _).mono hbs)).trans b5)
                    clear o5 b5 g5
                    go_wp2_with fail
                    go_roundw
                    case rel => exact ⟨j + 1, m + 1, c5, A5, by omega, by have := HM.out; omega, by go_num, rfl, HO5, HB5.out⟩
                    case measure => (simp [intOf]) <;> omega
                  · obtain rfl : j = x.l.length := by omega
                    have hjz : ¬ (x.l.length : Int) < (x.l.length : Int) := by omega
                    have HO5 := hid (show World.ownsRow _ _ _ _ _ _ ((catL (l.take (k + 1))).flatMap Mail.cells) from by rw [HCN.out]; have h := HOW.out; rw [List.take_length] at h; exact h)
                    have HNL := hid (show (catL (l.take (k + 1))).length = m from by rw [HCN.out, List.length_append, HN.out, HM.out])
                    clear HOW
                    go_wp2_with fail
                    go_roundw
                    case rel => exact ⟨k + 1, m, c3, A3, by omega, by go_num, rfl, HNL, HV, HO5, hbel⟩
                    case measure => (simp [intOf]) <;> omega
            · obtain rfl : k = l.length := by omega
              have HOA := hid (show ∀ x ∈ l, ordB x.l = true from by have h := HO.out; rwa [List.take_length] at h)
              have HV := hid (mergeL_ok HNB.out HOA.out)
              have HOF := hid (show World.ownsRow wr w.heap.size 62 2 (.slice A1 n c1) n ((catL l).flatMap Mail.cells) from by have h := HOW.out; rwa [List.take_length] at h)
              have HNF := hid (show (catL l).length = n from by have h := HN.out; rwa [List.take_length] at h)
              have hn5 : n ≤ 5000 := by rw [← HNF.out]; exact HC5.out
              have HMW := hid (mails_at (catL l) wr A1 c1 HNF.out (rd_own HOF.out) (by omega))
              have HLN := hid (show (srtOf mlt (catL l)).length = n from by rw [srtOf_len, HNF.out])
              have HBE := hid hbel
              have hbs := hbel.size
              clear HO hbel HOW HN
              go_wp2_with fail
              refine HMW.out.mono ?_
              rintro e w1 ⟨A2, c2, rfl, o1, b1⟩
              go_wp2_with fail
              go_ret2
              rw [HV.out]
              refine ⟨A2, c2, ?_, ?_, bT HBE.out b1⟩
              · dsimp only; rw [HLN.out]; rfl
              · dsimp only; rw [HLN.out]; exact own_more o1 hbs
end Go.Proofs.Ytifpngjipkmdcaa
