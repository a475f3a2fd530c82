/- merge.Lists, and the document's MailMerged. -/
import Derived.Test.YtifpngjipkmdcaaMgW
import Derived.Test.YtifpngjipkmdcaaMSrt
import Derived.Test.YtifpngjipkmdcaaMailsR
namespace Go.Proofs.Ytifpngjipkmdcaa
open Go.ChangeShapes Go.WideShapes Go.ChangeAt Go.RowKit
set_option linter.unusedVariables false
set_option linter.unusedSimpArgs false
def lensGo : List (ML Mail) → Int → Int
  | [], a => a
  | x :: l, a => lensGo l (wrap64 (a + (x.l.length : Int)))
abbrev catL (l : List (ML Mail)) : List Mail := l.flatMap fun x => x.l
section
open Classical
/-- What merging answers: the list, and an error number. -/
noncomputable def mergeL (l : List (ML Mail)) : List Mail × Int :=
  if 5000 < lensGo l 0 ∨ 5000 < l.length then ([], 1) else if ∀ x ∈ l, ordB x.l = true then (srtOf mlt (catL l), 0) else ([], 3)
end
theorem mergeL_big {l : List (ML Mail)} (h : 5000 < lensGo l 0 ∨ 5000 < l.length) : mergeL l = ([], 1) := by unfold mergeL; rw [if_pos h]
theorem mergeL_form {l : List (ML Mail)} (h : ¬ (5000 < lensGo l 0 ∨ 5000 < l.length)) {x : ML Mail} (hx : x ∈ l) (h2 : ordB x.l = false) : mergeL l = ([], 3) := by
  unfold mergeL; rw [if_neg h, if_neg (fun h3 => by rw [h3 x hx] at h2; cases h2)]
theorem mergeL_ok {l : List (ML Mail)} (h : ¬ (5000 < lensGo l 0 ∨ 5000 < l.length)) (h2 : ∀ x ∈ l, ordB x.l = true) : mergeL l = (srtOf mlt (catL l), 0) := by
  unfold mergeL; rw [if_neg h, if_pos h2]
theorem lensGo_sum : ∀ (l : List (ML Mail)) (a : Nat), (∀ x ∈ l, x.l.length ≤ 140737488355328) → a + l.length * 140737488355328 ≤ 4611686018427387904 → lensGo l a = ((a + (catL l).length : Nat) : Int)
  | [], a, _, _ => by simp [lensGo, catL]
  | x :: l, a, h, hb => by
    have hx := h x (List.mem_cons_self ..)
    rw [List.length_cons, Nat.add_mul, Nat.one_mul] at hb
    have e : wrap64 ((a : Int) + (x.l.length : Int)) = ((a + x.l.length : Nat) : Int) := by rw [IntWalk.wrap64_in _ (by omega)]; omega
    rw [lensGo, e, lensGo_sum l _ (fun y hy => h y (List.mem_cons_of_mem _ hy)) (by omega)]
    simp only [catL, List.flatMap_cons, List.length_append]
    omega
theorem lensGo_cat {l : List (ML Mail)} (h : ∀ x ∈ l, x.l.length ≤ 140737488355328) (hb : ¬ (5000 < lensGo l 0 ∨ 5000 < l.length)) : (catL l).length ≤ 5000 := by
  have := lensGo_sum l 0 h (by omega)
  simp only [Nat.zero_add] at this
  have h2 : lensGo l ((0 : Nat) : Int) = lensGo l 0 := rfl
  rw [h2] at this
  omega
theorem drop_step {α : Type} {l : List α} {k : Nat} {x : α} (h : l[k]? = some x) : l.drop k = x :: l.drop (k + 1) := by
  have hk := (List.getElem?_eq_some_iff.1 h).1
  rw [List.drop_eq_getElem_cons hk]
  congr 1
  rw [List.getElem?_eq_getElem hk] at h; injection h
def Ls1 (l : List (ML Mail)) (w : World) (av iv : Value) (wr : World) : Prop :=
  ∃ (k : Nat) (a : Int), k ≤ l.length ∧ iv = .int .i64 (k : Nat) ∧ av = .int .i64 a ∧ Hid (lensGo (l.drop k) a = lensGo l 0) ∧ w = wr
def Ls2 (l : List (ML Mail)) (w : World) (iv : Value) (wr : World) : Prop :=
  ∃ (k : Nat), k ≤ l.length ∧ iv = .int .i64 (k : Nat) ∧ Hid (∀ x ∈ l.take k, ordB x.l = true) ∧ Below w.heap.size w wr
theorem retL_nil {E sz : Nat} {w w' : World} {l : List Mail} {e : Int} {p : List Mail × Int} (h : p = ([], e)) (hb : Below w.heap.size w w') : RetL E sz w p.1.length (p.1.flatMap Mail.cells) p.2 (.returned (.tuple #[.slice none 0 0, .int .i64 e])) w' := by
  subst h; exact ⟨none, 0, rfl, World.ownsRow_nil _ _ _ _, hb⟩
theorem ord_next {l : List (ML Mail)} {k : Nat} {x : ML Mail} (h : ∀ x ∈ l.take k, ordB x.l = true) (hx : l[k]? = some x) (h2 : ordB x.l = true) : ∀ x ∈ l.take (k + 1), ordB x.l = true := fun y hy => by
  rw [take_nextV hx] at hy
  rcases List.mem_append.1 hy with hy | hy
  · exact h y hy
  · obtain rfl := List.mem_singleton.1 hy; exact h2
set_option maxRecDepth 100000 in
set_option maxHeartbeats 4000000 in
theorem mergeLists_walk (l : List (ML Mail)) (w : World) (A : Option Addr) (c : Nat) (hg : Grid Mail.cells 2 w w.heap.size A l) (hl : l.length ≤ 140737488355328) (hz : ∀ x ∈ l, x.l.length ≤ 140737488355328) (hc : ∀ x ∈ l, x.l.length ≤ x.c) :
    Calls Try.prog 16 #[.slice A l.length c] w (RetL 62 2 w (mergeL l).1.length ((mergeL l).1.flatMap Mail.cells) (mergeL l).2) := by
  have HG := hid hg
  have HZ := hid hz
  have HC := hid hc
  clear hg hz hc
  go_enter Try.func16, Try.ntmps16
  go_wp2_with fail
  go_loopw [4, 6, 11] (fun av _ iv wr => Ls1 l w av iv wr) (fun _ _ iv _ => l.length - (intOf iv).toNat)
  case atStart => exact ⟨0, 0, Nat.zero_le _, rfl, rfl, hid (by rw [List.drop_zero]), rfl⟩
  case round =>
    obtain ⟨k, a, hk, rfl, rfl, HA, rfl⟩ := hrel
    by_cases hlt : k < l.length
    · obtain ⟨x, hx⟩ : ∃ x, l[k]? = some x := ⟨_, List.getElem?_eq_getElem hlt⟩
      obtain ⟨b, off, rfl, hb, c0⟩ := ml_cell HG.out.1 rfl hx
      have hkz : (k : Int) < (l.length : Int) := by omega
      have HN := hid (show lensGo (l.drop (k + 1)) (wrap64 (a + (x.l.length : Int))) = lensGo l 0 from by rw [← HA.out, drop_step hx]; rfl)
      clear hx HA
      go_wp2_with fail
      go_roundw
      case rel => exact ⟨k + 1, _, by omega, by go_num, rfl, HN, rfl⟩
      case measure => (simp [intOf]) <;> omega
    · obtain rfl : k = l.length := by omega
      have hkz : ¬ (l.length : Int) < (l.length : Int) := by omega
      have HA2 := hid (show a = lensGo l 0 from by have h := HA.out; rwa [List.drop_length] at h)
      clear HA
      by_cases h1 : 5000 < a
      · have HV := hid (mergeL_big (l := l) (.inl (by rw [← HA2.out]; exact h1)))
        go_wp2_with fail
        go_ret2
        exact retL_nil (l := []) HV.out (Below.refl _ _)
      · by_cases h2 : 5000 < l.length
        · have HV := hid (mergeL_big (l := l) (.inr h2))
          have h2z : (5000 : Int) < (l.length : Int) := by omega
          go_wp2_with fail
          go_ret2
          exact retL_nil (l := []) HV.out (Below.refl _ _)
        · have h2z : ¬ (5000 : Int) < (l.length : Int) := by omega
          have HNB := hid (show ¬ (5000 < lensGo l 0 ∨ 5000 < l.length) from by rw [← HA2.out]; omega)
          clear HA2
          go_wp2_with fail
          go_loopw [8, 29] (fun _ iv wr => Ls2 l w iv wr) (fun _ iv _ => l.length - (intOf iv).toNat)
          case atStart => exact ⟨0, Nat.zero_le _, rfl, hid (fun x hx => by cases hx), Below.refl _ _⟩
          case round =>
            obtain ⟨k, hk, rfl, HO, hbel⟩ := hrel
            by_cases hlt : k < l.length
            · obtain ⟨x, hx⟩ : ∃ x, l[k]? = some x := ⟨_, List.getElem?_eq_getElem hlt⟩
              have hxm := List.mem_of_getElem? hx
              obtain ⟨b, off, rfl, hb, c0⟩ := ml_cell (HG.out.1.below hbel) rfl hx
              have hkz : (k : Int) < (l.length : Int) := by omega
              have HS := hid (isSorted_walk x.l wr x.A x.c (rdb (Grid.data HG.out hxm) (by decide) hbel) (HZ.out x hxm))
              have HNX := hid (fun h => ord_next HO.out hx h)
              have HBD := hid (fun h => mergeL_form HNB.out hxm h)
              clear hx hxm HO
              generalize ordB x.l = r at *
              cases r with
              | false =>
                have HV := hid (HBD.out rfl)
                clear HNX HBD
                go_wp2_with fail
                refine HS.out.mono ?_
                rintro e w1 ⟨rfl, b1⟩
                go_wp2_with fail
                go_ret2
                exact retL_nil (l := []) HV.out (bT hbel b1)
              | true =>
                have HV := hid (HNX.out rfl)
                clear HNX HBD
                go_wp2_with fail
                refine HS.out.mono ?_
                rintro e w1 ⟨rfl, b1⟩
                have HB1 := hid (bT hbel b1)
                clear b1
                go_wp2_with fail
                go_roundw
                case rel => exact ⟨k + 1, by omega, by go_num, HV, HB1.out⟩
                case measure => (simp [intOf]) <;> omega
            · obtain rfl : k = l.length := by omega
              have HOA := hid (show ∀ x ∈ l, ordB x.l = true from by have h := HO.out; rwa [List.take_length] at h)
              have HV := hid (mergeL_ok HNB.out HOA.out)
              have HMW := hid (merged_walk l wr A c (Grid.b HG.out (by decide) hbel) (by omega) (fun x hx => ordB_srt (HOA.out x hx)) HC.out (lensGo_cat HZ.out HNB.out))
              have HLN := hid (srtOf_len (lt := mlt) (catL l))
              unfold RetS at HMW
              generalize hN : (catL l).length = N at *
              have HNN := hid hN
              clear hN
              have HBE := hid hbel
              have hbs := hbel.size
              clear HO hbel
              go_wp2_with fail
              refine HMW.out.mono ?_
              rintro e w1 ⟨A1, c1, rfl, o1, b1⟩
              go_wp2_with fail
              go_ret2
              rw [HV.out]
              refine ⟨A1, c1, ?_, ?_, bT HBE.out b1⟩
              · dsimp only; rw [HLN.out]; rfl
              · dsimp only; rw [HLN.out]; exact own_more o1 hbs
end Go.Proofs.Ytifpngjipkmdcaa
