/- merge.Least, the document's MailLeast. -/
import Derived.Test.YtafnbackjjaelaaMComp
import Derived.Test.YtafnbackjjaelaaMSrtR
import Derived.Test.YtafnbackjjaelaaSame
namespace Go.Proofs.Ytafnbackjjaelaa
open Go.ChangeShapes Go.WideShapes Go.ChangeAt Go.RowKit
set_option linter.unusedVariables false
noncomputable def leastV (l : List Mail) : List Mail × Int := if 5000 < l.length then ([], 1) else if ordB l = false then ([], 3) else (compT l l.length, 0)
theorem leastV_big {l : List Mail} (h : 5000 < l.length) : leastV l = ([], 1) := by unfold leastV; rw [if_pos h]
theorem leastV_no {l : List Mail} (h : ¬ 5000 < l.length) (ho : ordB l = false) : leastV l = ([], 3) := by unfold leastV; rw [if_neg h, if_pos ho]
theorem leastV_ok {l : List Mail} (h : ¬ 5000 < l.length) (ho : ordB l = true) : leastV l = (compT l l.length, 0) := by unfold leastV; rw [if_neg h, if_neg (by rw [ho]; simp)]
theorem leastV_len (l : List Mail) : (leastV l).1.length ≤ 5000 := by
  unfold leastV; split
  · simp
  · split
    · simp
    · have := compT_len l l.length
      show (compT l l.length).length ≤ 5000
      omega
theorem retL_none (E sz : Nat) (w w' : World) (err : Int) (b : Below w.heap.size w w') : RetL E sz w 0 [] err (.returned (.tuple #[.slice none 0 0, .int .i64 err])) w' := ⟨none, 0, rfl, World.ownsRow_nil _ _ _ _, b⟩
abbrev RetM (w : World) (l : List Mail) (err : Int) : Ending → World → Prop := RetL 162 2 w l.length (l.flatMap Mail.cells) err
set_option maxHeartbeats 2000000 in
theorem least_walk (l : List Mail) (w : World) (A : Option Addr) (c : Nat) (hr : Rd w w.heap.size A 2 l.length (l.flatMap Mail.cells)) (hl : l.length * 16 ≤ 140737488355328) :
    Calls Try.prog 70 #[.slice A l.length c] w (RetM w (leastV l).1 (leastV l).2) := by
  by_cases h : 5000 < l.length
  · rw [leastV_big h]
    have hz : (5000 : Int) < (l.length : Int) := by omega
    go_enter Try.func70, Try.ntmps70
    go_wp2_with fail
    go_ret2
    exact retL_none _ _ _ _ _ (Below.refl _ _)
  · have hz : ¬ ((5000 : Int) < (l.length : Int)) := by omega
    have HS := hid (isSorted_walk l w A c hr (by omega))
    cases ho : ordB l with
    | false =>
      rw [leastV_no h ho]
      rw [ho] at HS
      go_enter Try.func70, Try.ntmps70
      go_wp2_with fail
      refine HS.out.mono ?_
      rintro e w1 ⟨rfl, b1⟩
      go_wp2_with fail
      go_ret2
      exact retL_none _ _ _ _ _ b1
    | true =>
      rw [leastV_ok h ho]
      rw [ho] at HS
      go_enter Try.func70, Try.ntmps70
      go_wp2_with fail
      refine HS.out.mono ?_
      rintro e w1 ⟨rfl, b1⟩
      have HC := hid (clone_walk l A l.length c w1.heap.size w1 (rdb hr (by decide) b1) hl)
      go_wp2_with fail
      refine HC.out.mono ?_
      rintro e w2 ⟨A1, c1, rfl, o2, b2⟩
      have HD := hid (compact_walk l w2 w1.heap.size A1 c1 b2.size ⟨o2, fun x hx p hp => by cases hp⟩ (by omega))
      go_wp2_with fail
      refine HD.out.mono ?_
      rintro e w3 ⟨rfl, o3, b3⟩
      have HO := hid o3.1
      clear o3 o2
      go_wp2_with fail
      go_ret2
      exact ⟨A1, c1, rfl, own_below HO.out (Below.refl _ _) b1.size, (b1.trans (b2.mono b1.size)).trans (b3.mono b1.size)⟩
theorem two_oneM (x : Mail) : ∀ u ∈ (#[Value.int .i64 x.to, .int .i64 x.val] : Array Value).toList, u.oneCell' = true := by
  intro u hu; simp at hu; rcases hu with rfl | rfl <;> rfl
def MlRel (l : List Mail) (w : World) (o i : Value) (wr : World) : Prop :=
  ∃ (k c m : Nat) (A : Option Addr), k ≤ l.length ∧ i = .int .i64 k ∧ o = .slice A m c ∧ Hid (m = (compT l k).length) ∧ m ≤ k ∧ wr.ownsRow w.heap.size 162 2 (.slice A m c) m ((compT l k).flatMap Mail.cells) ∧ Below w.heap.size w wr
set_option maxRecDepth 100000 in
set_option maxHeartbeats 4000000 in
theorem mailLeast_walk (l : List Mail) (w : World) (A : Option Addr) (c : Nat) (hr : Rd w w.heap.size A 2 l.length (l.flatMap Mail.cells)) (hl : l.length * 16 ≤ 140737488355328) :
    Calls Try.prog 71 #[.slice A l.length c] w (RetM w (leastV l).1 (leastV l).2) := by
  by_cases h : 5000 < l.length
  · rw [leastV_big h]
    have hz : (5000 : Int) < (l.length : Int) := by omega
    go_enter Try.func71, Try.ntmps71
    go_wp2_with fail
    go_ret2
    exact retL_none _ _ _ _ _ (Below.refl _ _)
  · have hz : ¬ ((5000 : Int) < (l.length : Int)) := by omega
    have HS := hid (isOrdered_walk l w A c hr (by omega))
    cases ho : ordB l with
    | false =>
      rw [leastV_no h ho]
      rw [ho] at HS
      go_enter Try.func71, Try.ntmps71
      go_wp2_with fail
      refine HS.out.mono ?_
      rintro e w1 ⟨rfl, b1⟩
      go_wp2_with fail
      go_ret2
      exact retL_none _ _ _ _ _ b1
    | true =>
      rw [leastV_ok h ho]
      rw [ho] at HS
      go_enter Try.func71, Try.ntmps71
      go_wp2_with fail
      refine HS.out.mono ?_
      rintro e w1 ⟨rfl, b1⟩
      go_wp2_with fail
      go_loopw [4, 5] (fun o i wr => MlRel l w o i wr) (fun _ i _ => l.length - (intOf i).toNat)
      case atStart => exact ⟨0, 0, 0, none, by omega, rfl, rfl, hid rfl, by omega, World.ownsRow_nil _ _ _ _, b1⟩
      case round =>
        obtain ⟨k, c', m, A', hk, rfl, rfl, HM, hmk, hown, hbel⟩ := hrel
        have hsz := hbel.size
        by_cases hlt : k < l.length
        · obtain ⟨x, hx⟩ : ∃ x, l[k]? = some x := ⟨_, List.getElem?_eq_getElem hlt⟩
          obtain ⟨b, off, rfl, hb, c0, c1⟩ := mcells (hr.below hbel) rfl hx
          have hkz : (k : Int) < (l.length : Int) := by omega
          have HX := hid hx
          clear hx
          by_cases hk0 : k = 0
          · subst hk0
            have hm0 : m = 0 := by omega
            simp only [Nat.zero_mul, Nat.add_zero] at c0 c1
            have HP := hid (compT_one HX.out)
            have hn1 : (m + 1) * 16 ≤ 140737488355328 := by omega
            go_wp2_with fail
            go_quiet (fail)
            have bq := below_drewN hbel nq
            have oq := own_below (base' := w.heap.size) hown (below_drewN (Below.refl wr.heap.size wr) nq) (Nat.le_refl _)
            have sq : w.heap.size ≤ (wr.drewN nq).heap.size := bq.size
            clear hown
            go_wp2_with (at_builtin; refine wp_app1 _ rfl rfl el_mails rfl (oq.alloc _) rfl (rd_newAt _ _ _ 2 1 _ (by simp) rfl) (two_oneM x) hn1 (Nat.le_trans sq (by simp)) ?_; intro A3 c3 w4 hown4 hb4 hg4)
            go_roundw
            case rel => exact ⟨0 + 1, c3, 1, A3, by omega, by go_num, rfl, hid (by rw [HP.out]; rfl), by omega, by have h4 := hown4; rw [hm0] at h4; rw [HP.out]; exact h4, (bq.alloc sq _).trans hb4⟩
            case measure => simp [intOf]; omega
          · obtain ⟨j, rfl⟩ : ∃ j, k = j + 1 := ⟨k - 1, by omega⟩
            obtain ⟨y, hy⟩ : ∃ y, l[j]? = some y := ⟨_, List.getElem?_eq_getElem (by omega)⟩
            obtain ⟨b', off', hbb, hb', d0, d1⟩ := mcells (hr.below hbel) rfl hy
            injection hbb with hbb
            injection hbb with e1 e2
            subst e1 e2
            have hn1 : (m + 1) * 16 ≤ 140737488355328 := by omega
            have z0 : ((j : Int) + 1 == 0) = false := by rw [beq_eq_false_iff_ne]; omega
            have z0' : (((j + 1 : Nat) : Int) == 0) = false := by rw [beq_eq_false_iff_ne]; omega
            have hm1 : (j : Int) + 1 < (l.length : Int) := by omega
            have hm2 : (0 : Int) ≤ (j : Int) + 1 := by omega
            have hm4 : (j : Int) < (l.length : Int) := by omega
            have hm5 : (0 : Int) ≤ (j : Int) := by omega
            have hw1 : IntKind.i64.wrap (j : Int) = (j : Int) := IntWalk.i64_in _ (by omega)
            have hw2 : IntKind.i64.wrap ((j : Int) + 1 - 1) = (j : Int) := by rw [show (j : Int) + 1 - 1 = (j : Int) by omega]; exact hw1
            cases hv : (x.to != y.to) with
            | false =>
              have HP := hid (compT_skip HX.out hy (by simpa using hv))
              clear hy
              go_wp2_with fail
              go_quiet (fail)
              go_wp2_with fail
              go_roundw
              case rel => exact ⟨j + 1 + 1, c', m, A', by omega, by go_num, rfl, hid (by rw [HP.out]; exact HM.out), by omega, by rw [HP.out]; exact own_below (base' := w.heap.size) hown (below_drewN (Below.refl wr.heap.size wr) nq) (Nat.le_refl _), below_drewN hbel nq⟩
              case measure => simp [intOf]; omega
            | true =>
              have HP := hid (compT_keep HX.out hy (by simpa using hv))
              clear hy
              go_wp2_with fail
              go_quiet (fail)
              have bq := below_drewN hbel nq
              have oq := own_below (base' := w.heap.size) hown (below_drewN (Below.refl wr.heap.size wr) nq) (Nat.le_refl _)
              have sq : w.heap.size ≤ (wr.drewN nq).heap.size := bq.size
              clear hown
              go_wp2_with (at_builtin; refine wp_app1 _ rfl rfl el_mails rfl (oq.alloc _) rfl (rd_newAt _ _ _ 2 1 _ (by simp) rfl) (two_oneM x) hn1 (Nat.le_trans sq (by simp)) ?_; intro A3 c3 w4 hown4 hb4 hg4)
              go_roundw
              case rel => exact ⟨j + 1 + 1, c3, m + 1, A3, by omega, by go_num, rfl, hid (by rw [HP.out, List.length_append, ← HM.out]; rfl), by omega, by rw [HP.out, List.flatMap_append]; exact hown4, (bq.alloc sq _).trans hb4⟩
              case measure => simp [intOf]; omega
        · obtain rfl : k = l.length := by omega
          have HMM := hid HM.out
          go_wp2_with fail
          go_ret2
          exact ⟨A', c', by rw [← HMM.out]; rfl, by rw [← HMM.out]; exact hown, hbel⟩
set_option maxHeartbeats 2000000 in
theorem law_MergeLeasts (w : World) (l : List Mail) (A : Option Addr) (c : Nat) (hf : Flat w w.heap.size 16 2 Mail.cells A c l) (hb : ∀ x ∈ l, x.wf) :
    Calls Try.prog 18 #[.slice A l.length c] w fun e w' => e = .returned (.bool true) ∧ Below w.heap.size w w' := by
  obtain ⟨f1, f2, f3, f4⟩ := hf
  clear hb
  have hn : l.length * 16 ≤ 140737488355328 := by omega
  have hl5 := leastV_len l
  have c1 := hid (fun w2 A2 k2 h => least_walk l w2 A2 k2 h hn)
  have c2 := hid (fun w2 A2 k2 h => mailLeast_walk l w2 A2 k2 h hn)
  generalize leastV l = z at c1 c2 hl5
  obtain ⟨v, r⟩ := z
  simp only at hl5
  go_enter Try.func18, Try.ntmps18
  go_wp2_with fail
  refine (mails_copy l w A l.length c _ f4 hn).mono ?_
  rintro e w1 ⟨A1, k1, rfl, o1, b1⟩
  have r1 := rd_own o1
  have r0 := (f4.below b1).any (by decide)
  go_wp2_with fail
  refine (c1.out w1 A1 k1 r1).mono ?_
  rintro e w2 ⟨A2, k2, rfl, o2, b2⟩
  go_wp2_with fail
  refine (c2.out w2 A c ((r0.below b2).any (by decide))).mono ?_
  rintro e w3 ⟨A3, k3, rfl, o3, b3⟩
  go_wp2_with fail
  refine (sameMails_walk v _ _ _ _ _ (((rd_own o2).below b3).any (by decide)) (rd_own o3) (by omega)).mono ?_
  rintro e w4 ⟨rfl, b4⟩
  have b14 := bT (bT b2 b3) b4
  have q1 := (r1.below b14).any (by decide)
  have q2 := (r0.below b14).any (by decide)
  go_wp2_with fail
  refine (sameMails_walk l _ A1 A k1 c q1 q2 (by omega)).mono ?_
  rintro e w5 ⟨rfl, b5⟩
  go_wp2_with fail
  go_ret
  exact ⟨by simp, bT (bT b1 b14) b5⟩
end Go.Proofs.Ytafnbackjjaelaa
