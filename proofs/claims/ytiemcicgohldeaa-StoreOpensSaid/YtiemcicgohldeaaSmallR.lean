/- The document's small: a number that bytes hold from a place on. -/
import Derived.Test.YtiemcicgohldeaaCkG
namespace Go.Proofs.Ytiemcicgohldeaa
open Go.ChangeShapes Go.WideShapes Go.ChangeAt Go.RowKit
set_option linter.unusedVariables false
set_option linter.unusedSimpArgs false
def smallV (b : List Int) (at' : Nat) (most : Int) : Int × Int :=
  if takeBad (b.drop at') false most then (0, -1) else ((getv (b.drop at')).1, (at' : Int) + (getv (b.drop at')).2.1)
theorem smallV_bad {b : List Int} {at' : Nat} {most : Int} (h : takeBad (b.drop at') false most = true) : smallV b at' most = (0, -1) := by unfold smallV; rw [if_pos h]
theorem smallV_ok {b : List Int} {at' : Nat} {most : Int} (h : takeBad (b.drop at') false most = false) : smallV b at' most = ((getv (b.drop at')).1, (at' : Int) + (getv (b.drop at')).2.1) := by unfold smallV; rw [if_neg (by rw [h]; decide)]
theorem small_cases {b : List Int} (hb : ∀ x ∈ b, 0 ≤ x ∧ x ≤ 255) {n : Nat} (hn : n ≤ b.length) (most : Int) :
    (takeBad (b.drop n) false most = true ∧ smallV b n most = (0, -1)) ∨
    (∃ (r : Int) (k : Nat), takeBad (b.drop n) false most = false ∧ smallV b n most = (r, ((n + k : Nat) : Int)) ∧ takeV (b.drop n) false most = (r, b.drop (n + k), false) ∧ 0 ≤ r ∧ r ≤ most ∧ 1 ≤ k ∧ n + k ≤ b.length ∧ b.drop n = pack r ++ b.drop (n + k) ∧ k = (pack r).length) := by
  cases h : takeBad (b.drop n) false most with
  | true => exact .inl ⟨rfl, smallV_bad h⟩
  | false =>
    right
    have hd : ∀ x ∈ b.drop n, 0 ≤ x ∧ x ≤ 255 := fun x hx => hb x (List.mem_of_mem_drop hx)
    have ht := takeV_ok h
    obtain ⟨_, e1, e2, e3⟩ := takeV_pack hd ht
    have hg := getv_ok (b.drop n) hd
    have he : (getv (b.drop n)).2.2 = 0 := by
      unfold takeBad at h
      refine Classical.byContradiction fun hc => ?_
      have : ((getv (b.drop n)).2.2 != 0) = true := by simpa using hc
      simp [this] at h
    have hgk : 1 ≤ (getv (b.drop n)).2.1 ∧ (getv (b.drop n)).2.1 ≤ ((b.drop n).length : Int) := by
      rcases hg with ⟨g0, g1, g2, g3, g4⟩ | ⟨g0, _⟩ <;> omega
    obtain ⟨K, hK⟩ := Int.eq_ofNat_of_zero_le (show 0 ≤ (getv (b.drop n)).2.1 by omega)
    rw [hK] at e1 ht hgk
    rw [Int.toNat_natCast, List.drop_drop] at e1 ht
    have hl := congrArg List.length e1
    have hdl := List.length_drop (l := b) (i := n)
    rw [List.length_append, List.length_drop (l := b) (i := n + K)] at hl
    refine ⟨_, K, rfl, by rw [smallV_ok h, hK]; rfl, ht, e2, e3, by omega, by omega, e1, by omega⟩
set_option maxRecDepth 100000 in
set_option maxHeartbeats 4000000 in
theorem small_walk2 (b : List Int) (n : Nat) (most : Int) (w : World) (A : Option Addr) (L c : Nat) (hr : Rd w w.heap.size A 1 L (b.flatMap u8c)) (hL : b.length = L) (hb : ∀ x ∈ b, 0 ≤ x ∧ x ≤ 255) (hcap : L ≤ c) (hn : n ≤ L) (hz : L ≤ 9223372036854775807) (h0 : 0 ≤ most) (h1 : most ≤ 4611686018427387904) :
    Calls Try.prog 26 #[.slice A L c, .int .i64 (n : Int), .int .i64 most] w fun e w' => e = .returned (.tuple #[.int .i64 (smallV b n most).1, .int .i64 (smallV b n most).2]) ∧ w = w' := by
  have hcutK : Rd w w.heap.size (if c = n then A else A.map (·.add n)) 1 (L - n) ((b.drop n).flatMap u8c) := by
    have h := hr.cut (k := n) (cap := c) hn hcap
    rw [drop_flat (cells := u8c) (sz := 1) (fun _ => rfl)] at h
    rwa [Nat.mul_one] at h
  have hd : ∀ x ∈ b.drop n, 0 ≤ x ∧ x ≤ 255 := fun x hx => hb x (List.mem_of_mem_drop hx)
  have hget0 := unpacked_walk (b.drop n) w (if c = n then A else A.map (·.add n)) (L - n) (c - n) hcutK hd (by omega)
  unfold tri at hget0
  have hg := getv_ok (b.drop n) hd
  have hw : IntKind.u64.wrap most = most := IntWalk.u64_in _ (by omega)
  have hns : ¬ ((n : Int) < 0) := by omega
  have hnL : (n : Int) ≤ (L : Int) := by omega
  have hnc : (n : Int) ≤ (c : Int) := by omega
  have hLc : (L : Int) ≤ (c : Int) := by omega
  have hdl : (b.drop n).length = L - n := by rw [List.length_drop, hL]
  rw [hdl] at hg
  cases hbad : takeBad (b.drop n) false most with
  | true =>
    rw [smallV_bad hbad]
    unfold takeBad at hbad
    generalize getv (b.drop n) = g at *
    obtain ⟨r, k, e⟩ := g
    simp only at *
    have hcs : e ≠ 0 ∨ (e = 0 ∧ most < r) := by
      by_cases he : e = 0
      · exact .inr ⟨he, by subst he; simpa using hbad⟩
      · exact .inl he
    have hget := hid hget0
    clear hbad hget0 hg hcutK hd hdl hb hr
    by_cases hne : c = n
    · subst hne
      obtain rfl : L = c := by omega
      rw [if_pos rfl, Nat.sub_self] at hget
      rcases hcs with he | ⟨rfl, hlt⟩
      · have heb : (e != 0) = true := by simpa using he
        go_enter Try.func26, Try.ntmps26
        go_wp2_with fail
        refine hget.out.mono ?_
        rintro e w2 ⟨rfl, rfl⟩
        go_wp2_with fail
        go_ret2
        exact ⟨rfl, rfl⟩
      · go_enter Try.func26, Try.ntmps26
        go_wp2_with fail
        refine hget.out.mono ?_
        rintro e w2 ⟨rfl, rfl⟩
        go_wp2_with fail
        go_ret2
        exact ⟨rfl, rfl⟩
    · rw [if_neg hne] at hget
      rcases hcs with he | ⟨rfl, hlt⟩
      · have heb : (e != 0) = true := by simpa using he
        go_enter Try.func26, Try.ntmps26
        go_wp2_with fail
        refine hget.out.mono ?_
        rintro e w2 ⟨rfl, rfl⟩
        go_wp2_with fail
        go_ret2
        exact ⟨rfl, rfl⟩
      · go_enter Try.func26, Try.ntmps26
        go_wp2_with fail
        refine hget.out.mono ?_
        rintro e w2 ⟨rfl, rfl⟩
        go_wp2_with fail
        go_ret2
        exact ⟨rfl, rfl⟩
  | false =>
    rw [smallV_ok hbad]
    unfold takeBad at hbad
    generalize getv (b.drop n) = g at *
    obtain ⟨r, k, e⟩ := g
    simp only at *
    have he : e = 0 := by
      refine Classical.byContradiction fun h => ?_
      have : (e != 0) = true := by simpa using h
      simp [this] at hbad
    subst he
    have hlt : ¬ most < r := by intro h; simp [h] at hbad
    have hgk : 0 ≤ r ∧ 0 ≤ k ∧ k ≤ ((L - n : Nat) : Int) := by
      rcases hg with ⟨g0, g1, g2, g3, g4⟩ | ⟨g0, _⟩ <;> simp only at * <;> omega
    obtain ⟨hr0, hk0, hk1⟩ := hgk
    have hwr : IntKind.i64.wrap r = r := IntWalk.i64_in _ (by omega)
    have hwk : IntKind.i64.wrap ((n : Int) + k) = (n : Int) + k := IntWalk.i64_in _ (by omega)
    have hget := hid hget0
    clear hbad hget0 hg hcutK hd hdl hb hr hk0 hk1 hr0
    by_cases hne : c = n
    · subst hne
      obtain rfl : L = c := by omega
      rw [if_pos rfl, Nat.sub_self] at hget
      go_enter Try.func26, Try.ntmps26
      go_wp2_with fail
      refine hget.out.mono ?_
      rintro e w2 ⟨rfl, rfl⟩
      go_wp2_with fail
      go_ret2
      exact ⟨rfl, rfl⟩
    · rw [if_neg hne] at hget
      go_enter Try.func26, Try.ntmps26
      go_wp2_with fail
      refine hget.out.mono ?_
      rintro e w2 ⟨rfl, rfl⟩
      go_wp2_with fail
      go_ret2
      exact ⟨rfl, rfl⟩
end Go.Proofs.Ytiemcicgohldeaa
