/- link.Hear and the document's answer; the statement. -/
import Derived.Test.YtblabipgehkllaaLinkOpen
namespace Go.Proofs.Ytblabipgehkllaa
open Go.ChangeShapes Go.WideShapes Go.ChangeAt Go.RowKit
set_option linter.unusedVariables false
/-- What a receiver answers: the new one, the mail that comes, the ack, the error. -/
def hearV (r : Rcv) (p : Packet) : Rcv × List Mail × Ack × Int :=
  if endsB r.epoch r.want = true then (if p.epoch = r.epoch then (if p.no = r.want then (⟨r.epoch, r.want + 1⟩, [p.load], ⟨r.epoch, r.want + 1⟩, 0) else (r, [], ⟨r.epoch, r.want⟩, 0)) else (⟨0, 0⟩, [], ⟨0, 0⟩, 11)) else (⟨0, 0⟩, [], ⟨0, 0⟩, 9)
def RetHear (w : World) (z : Rcv × List Mail × Ack × Int) (x : Ending) (w' : World) : Prop :=
  ∃ A c, x = .returned (.tuple #[.agg #[.int .i64 z.1.epoch, .int .i64 z.1.want], .slice A z.2.1.length c, .agg #[.int .i64 z.2.2.1.epoch, .int .i64 z.2.2.1.no], .int .i64 z.2.2.2]) ∧ Rd w' w'.heap.size A 2 z.2.1.length (z.2.1.flatMap Mail.cells) ∧ Below w.heap.size w w'
def rcvVal (r : Rcv) : Value := .agg #[.int .i64 r.epoch, .int .i64 r.want]
def pktVal (p : Packet) : Value := .agg #[.int .i64 p.epoch, .int .i64 p.no, .int .i64 p.load.to, .int .i64 p.load.val]
theorem and_cases {x y : Bool} (h : false = (x && y)) : x = false ∨ (x = true ∧ y = false) := by cases x <;> cases y <;> simp_all
theorem keepf {W W' : World} (b : Below W.heap.size W W') (k : Nat) (hk : k < W.heap.size) (h : ∀ o, W.frozen? ⟨k, o, none⟩ = false) : ∀ o, W'.frozen? ⟨k, o, none⟩ = false :=
  fun o => (b.frozen (p := ⟨k, o, none⟩) hk).trans (h o)
theorem rd_at4 (w : World) (cs : Array Value) (e : TypeId) (sz n g : Nat) (hg : w.heap.size = g) (h : cs.size = n * sz) : Rd (w.alloc (.cells cs e)) (w.heap.size + 1) (some ⟨g, 0, none⟩) sz n cs.toList := by
  subst hg; exact rd_new w cs e sz n h
theorem two_one4 (a b : Int) : ∀ u ∈ (#[Value.int .i64 a, .int .i64 b] : Array Value).toList, u.oneCell' = true := by
  intro u hu; simp at hu; rcases hu with rfl | rfl <;> rfl
set_option maxHeartbeats 4000000 in
theorem hear_walk (r : Rcv) (p : Packet) (w : World) (hr : I64 r.want) : Calls Try.prog 46 #[rcvVal r, pktVal p] w (RetHear w (hearV r p)) := by
  obtain ⟨e, n⟩ := r
  obtain ⟨pe, pn, ⟨pt, pv⟩⟩ := p
  unfold rcvVal pktVal hearV
  simp only at hr ⊢
  cases hE : endsB e n
  · rw [if_neg (by simp)]
    go_enter Try.func46, Try.ntmps46
    go_wp2_with (go_at_call 74; refine (ends_walk _ _ _).mono ?_; rintro e w' ⟨rfl, rfl⟩)
    refine bodyPost_ret (v := .tuple #[.agg #[.int .i64 0, .int .i64 0], .slice none 0 0, .agg #[.int .i64 0, .int .i64 0], .int .i64 9]) (by simp [results, Try.results46, go_sem, *]) rfl ⟨none, 0, rfl, Rd.nil_, ?_⟩
    exact bA (bA (bA (bA (Below.refl _ _) _) _) _) _
  · rw [if_pos rfl]
    have hb : 0 ≤ e ∧ e ≤ 1099511627776 ∧ 0 ≤ n ∧ n ≤ 1099511627776 := by simpa [endsB] using hE
    obtain ⟨hb1, hb2, hb3, hb4⟩ := hb
    by_cases hpe : pe = e
    · rw [if_pos hpe]
      subst hpe
      by_cases hpn : pn = n
      · rw [if_pos hpn]
        subst hpn
        have b0 := bA (bA (bA (bA (bA (Below.refl w.heap.size w) (.cells #[.int .i64 pe, .int .i64 pn] 43)) (.cells #[.int .i64 pe, .int .i64 pn, .int .i64 pt, .int .i64 pv] 67)) (.cells #[.int .i64 0, .int .i64 0] 43)) (.cells #[.int .i64 0, .int .i64 0] 69)) (.cells #[.int .i64 pt, .int .i64 pv] 65) 
        go_enter Try.func46, Try.ntmps46
        go_wp2_with (first | (go_at_call 74; refine (ends_walk _ _ _).mono ?_; rintro e w' ⟨rfl, rfl⟩) | (at_builtin; refine wp_app0 _ rfl rfl el_mails rfl rfl (rd_at4 _ _ _ 2 1 _ (by simp) rfl) (two_one4 _ _) (by decide) (Nat.le_refl _) ?_; intro A' c' w1 hown hbw; have k0 := keepc' hbw (p := ⟨w.heap.size, 0, none⟩) (v := .int .i64 pe) (by go_simp); have k1 := keepc' hbw (p := ⟨w.heap.size, 1, none⟩) (v := .int .i64 pn) (by go_simp); have z0 := keepc' hbw (p := ⟨w.heap.size + 2, 0, none⟩) (v := .int .i64 0) (by go_simp); have z1 := keepc' hbw (p := ⟨w.heap.size + 2, 1, none⟩) (v := .int .i64 0) (by go_simp); have y0 := keepc' hbw (p := ⟨w.heap.size + 3, 0, none⟩) (v := .int .i64 0) (by go_simp); have y1 := keepc' hbw (p := ⟨w.heap.size + 3, 1, none⟩) (v := .int .i64 0) (by go_simp); have f0 := keepf hbw w.heap.size (by simp; omega) (by intro o; go_simp); have f2 := keepf hbw (w.heap.size + 2) (by simp) (by intro o; go_simp); have f3 := keepf hbw (w.heap.size + 3) (by simp) (by intro o; go_simp); have hsz : w.heap.size + 4 < w1.heap.size := by have := hbw.size; simp at this; omega))
        go_region
        all_goals go_wp2
        have o5 := own_more (base' := w.heap.size + 5) hown (by simp)
        refine bodyPost_ret (v := .tuple #[.agg #[.int .i64 pe, .int .i64 (pn + 1)], .slice A' 1 c', .agg #[.int .i64 pe, .int .i64 (pn + 1)], .int .i64 0]) (by simp [results, Try.results46, go_sem, *]) rfl ⟨A', c', rfl, ?_, ?_⟩
        · refine rd_own (base := w.heap.size + 5) (e := 65) (c := c') ?_
          repeat (first | with_reducible refine World.ownsRow.drew ?_ | (with_reducible refine ownsRow_setCell_below ?_ ?_ _; rotate_left; · (simp; try omega)))
          exact o5
        · have bz := bT b0 hbw
          repeat (first | with_reducible refine bD ?_ | (with_reducible refine bS ?_ ?_ _; rotate_left; · (simp; try omega)))
          exact bz
      · rw [if_neg hpn]
        have hnb : (pn == n) = false := by simp [hpn]
        go_enter Try.func46, Try.ntmps46
        go_wp2_with (go_at_call 74; refine (ends_walk _ _ _).mono ?_; rintro e w' ⟨rfl, rfl⟩)
        go_region
        all_goals go_wp2
        refine bodyPost_ret (v := .tuple #[.agg #[.int .i64 pe, .int .i64 n], .slice none 0 0, .agg #[.int .i64 pe, .int .i64 n], .int .i64 0]) (by simp [results, Try.results46, go_sem]) rfl ⟨none, 0, rfl, Rd.nil_, ?_⟩
        repeat (first | with_reducible exact Below.refl _ _ | with_reducible refine bD ?_ | with_reducible refine bA ?_ _ | (with_reducible refine bS ?_ ?_ _; rotate_left; · (simp; try omega)))
    · rw [if_neg hpe]
      have hnb : (pe == e) = false := by simp [hpe]
      go_enter Try.func46, Try.ntmps46
      go_wp2_with (go_at_call 74; refine (ends_walk _ _ _).mono ?_; rintro e w' ⟨rfl, rfl⟩)
      refine bodyPost_ret (v := .tuple #[.agg #[.int .i64 0, .int .i64 0], .slice none 0 0, .agg #[.int .i64 0, .int .i64 0], .int .i64 11]) (by simp [results, Try.results46, go_sem, *]) rfl ⟨none, 0, rfl, Rd.nil_, ?_⟩
      exact bA (bA (bA (bA (Below.refl _ _) _) _) _) _
set_option maxHeartbeats 4000000 in
theorem heard_walk (r : Rcv) (p : Packet) (w : World) (hr : I64 r.want) : Calls Try.prog 47 #[rcvVal r, pktVal p] w (RetHear w (hearV r p)) := by
  obtain ⟨e, n⟩ := r
  obtain ⟨pe, pn, ⟨pt, pv⟩⟩ := p
  unfold rcvVal pktVal hearV
  simp only at hr ⊢
  have hEB : endsB e n = (inB e 0 1099511627776 && inB n 0 1099511627776) := by simp [endsB, inB, Bool.and_assoc]
  have hEB' := hid hEB
  clear hEB
  cases hE : endsB e n
  · rw [if_neg (by simp)]
    have hc : inB e 0 1099511627776 = false ∨ (inB e 0 1099511627776 = true ∧ inB n 0 1099511627776 = false) := by
      have := hEB'.out
      rw [hE] at this
      exact and_cases this
    clear hE
    rcases hc with i1 | ⟨i1, i2⟩
    all_goals
      go_enter Try.func47, Try.ntmps47
      go_wp2_with (go_at_call 72; refine (In_walk _ _ _ _).mono ?_; rintro e w' ⟨rfl, rfl⟩)
      refine bodyPost_ret (v := .tuple #[.agg #[.int .i64 0, .int .i64 0], .slice none 0 0, .agg #[.int .i64 0, .int .i64 0], .int .i64 9]) (by simp [results, Try.results47, go_sem]) rfl ⟨none, 0, rfl, Rd.nil_, ?_⟩
      exact bA (bA (bA (bA (Below.refl _ _) _) _) _) _
  · rw [if_pos rfl]
    have hb : 0 ≤ e ∧ e ≤ 1099511627776 ∧ 0 ≤ n ∧ n ≤ 1099511627776 := by simpa [endsB] using hE
    obtain ⟨hb1, hb2, hb3, hb4⟩ := hb
    have i1 := inB_yes ⟨hb1, hb2⟩
    have i2 := inB_yes ⟨hb3, hb4⟩
    clear hE hEB'
    by_cases hpe : pe = e
    · rw [if_pos hpe]
      subst hpe
      by_cases hpn : pn = n
      · rw [if_pos hpn]
        subst hpn
        go_enter Try.func47, Try.ntmps47
        go_wp2_with (go_at_call 72; refine (In_walk _ _ _ _).mono ?_; rintro e w' ⟨rfl, rfl⟩)
        go_region
        all_goals go_wp2
        refine bodyPost_ret (v := .tuple #[.agg #[.int .i64 pe, .int .i64 (pn + 1)], .slice (some ⟨w.heap.size + 5, 0, none⟩) 1 1, .agg #[.int .i64 pe, .int .i64 (pn + 1)], .int .i64 0]) (by simp [results, Try.results47, go_sem]) rfl ⟨_, _, rfl, ((rd_at4 _ #[.int .i64 pt, .int .i64 pv] _ 2 1 _ (by simp) rfl).any (by decide)).drew, ?_⟩
        exact bD (bA (bA (bA (bA (bA (bA (Below.refl _ _) _) _) _) _) _) _)
      · rw [if_neg hpn]
        have hnb : (pn == n) = false := by simp [hpn]
        go_enter Try.func47, Try.ntmps47
        go_wp2_with (go_at_call 72; refine (In_walk _ _ _ _).mono ?_; rintro e w' ⟨rfl, rfl⟩)
        go_region
        all_goals go_wp2
        refine bodyPost_ret (v := .tuple #[.agg #[.int .i64 pe, .int .i64 n], .slice none 0 0, .agg #[.int .i64 pe, .int .i64 n], .int .i64 0]) (by simp [results, Try.results47, go_sem]) rfl ⟨none, 0, rfl, Rd.nil_, ?_⟩
        repeat (first | with_reducible exact Below.refl _ _ | with_reducible refine bD ?_ | with_reducible refine bA ?_ _ | (with_reducible refine bS ?_ ?_ _; rotate_left; · (simp; try omega)))
    · rw [if_neg hpe]
      have hnb : (pe == e) = false := by simp [hpe]
      go_enter Try.func47, Try.ntmps47
      go_wp2_with (go_at_call 72; refine (In_walk _ _ _ _).mono ?_; rintro e w' ⟨rfl, rfl⟩)
      refine bodyPost_ret (v := .tuple #[.agg #[.int .i64 0, .int .i64 0], .slice none 0 0, .agg #[.int .i64 0, .int .i64 0], .int .i64 11]) (by simp [results, Try.results47, go_sem]) rfl ⟨none, 0, rfl, Rd.nil_, ?_⟩
      exact bA (bA (bA (bA (Below.refl _ _) _) _) _) _
end Go.Proofs.Ytblabipgehkllaa
