/- store.Open's deferred closure, and what eye.hops answers, as one contract. -/
import Derived.Test.YtiemcicgohldeaaStoZ
import Derived.Test.YtiemcicgohldeaaMine
import Derived.RegionTactic
namespace Go.Proofs.Ytiemcicgohldeaa
open Go.ChangeShapes Go.WideShapes Go.ChangeAt Go.RowKit
set_option linter.unusedVariables false
set_option linter.unusedSimpArgs false
theorem eyeHops_walk {w : World} {M L G : Nat} {B : Option Addr} {c : Nat} {l : List Int} (h : EO w M L G B c l) (hL : L ≤ w.heap.size) (n : Int) (hl : l.length ≤ 140737488355328) :
    Calls Try.prog 24 #[.pointer (some ⟨G, 0, none⟩), .int .i64 n] w (HopsR w M L G c (hopsE n l)) := by
  have hok := ungV_ok l h.byte
  unfold hopsE
  by_cases he : (ungV l).2.2 = 0
  · by_cases h6 : (ungV l).1.length ≤ 600
    · rw [if_pos ⟨he, h6⟩]
      obtain ⟨k, hk⟩ := Int.eq_ofNat_of_zero_le hok.2.2.1
      have hu : ungV l = ((ungV l).1, (k : Int), 0) := by rw [← he, ← hk]
      rw [hk]
      have hp : 0 < l.length := by
        rcases Nat.eq_zero_or_pos l.length with h0 | h0
        · obtain rfl := List.length_eq_zero_iff.1 h0
          exact absurd he (by decide)
        · exact h0
      obtain ⟨b, off, rfl, _, _⟩ := h.rd.2 hp
      exact eyeHops_ok h hL n hl h.top hu h6
    · rw [if_neg (fun hh => h6 hh.2)]
      exact eyeHops_bad2 h hL n hl he h6
  · rw [if_neg (fun hh => he hh.1)]
    exact eyeHops_bad1 h hL n hl he
theorem openC_idle (p q : Value) (w : World) : CallsD Try.prog 20 #[p, q] .returning w fun e u' w' => e = .returned (.tuple #[]) ∧ u' = .returning ∧ w' = w := by
  refine callsD_of_wpS Try.func20 rfl fun c₀ cs hu => ?_
  apply wpS_seq
  apply wpS_region
  simp [wpOpsS, go_sem, recoverD, hu, Try.ntmps20, Exit.thenS]
  refine wpS_of_wp ?_
  go_wp2_with fail
  refine ⟨rfl, _, ?_, _, by simp [results, Try.results20, go_sem], rfl, rfl, rfl⟩
  rw [← hu]
theorem openC_panic (P E : Nat) (hPE : P ≠ E) (older : List PanicEntry) (w : World) (hp : ∀ o, o < 5 → ∃ v, w.cell? ⟨P, o, none⟩ = some v) (hpf : ∀ o, w.frozen? ⟨P, o, none⟩ = false) (v : Value) (he : w.cell? ⟨E, 0, none⟩ = some v) (hef : w.frozen? ⟨E, 0, none⟩ = false) :
    CallsD Try.prog 20 #[.pointer (some ⟨P, 0, none⟩), .pointer (some ⟨E, 0, none⟩)] (.panicking ({ v := .iface 55 (.agg #[.int .i64 3]), recovered := false } :: older)) w fun e u' w' =>
      e = .returned (.tuple #[]) ∧ u' = .panicking ({ v := .iface 55 (.agg #[.int .i64 3]), recovered := true } :: older) ∧
      (w'.cell? ⟨P, 0, none⟩ = some (.int .i64 0) ∧ w'.cell? ⟨P, 1, none⟩ = some (.int .i64 0) ∧ w'.cell? ⟨P, 2, none⟩ = some (.int .i64 0) ∧ w'.cell? ⟨P, 3, none⟩ = some (.slice none 0 0) ∧ w'.cell? ⟨P, 4, none⟩ = some (.slice none 0 0) ∧ w'.cell? ⟨E, 0, none⟩ = some (.int .i64 3)) ∧ Below (min P E) w w' := by
  refine callsD_of_wpS Try.func20 rfl fun c₀ cs hu => ?_
  apply wpS_seq
  apply wpS_region
  simp [wpOpsS, go_sem, recoverD, hu, Try.ntmps20, Exit.thenS]
  refine wpS_of_wp ?_
  obtain ⟨v0, h0⟩ := hp 0 (by decide)
  obtain ⟨v1, h1⟩ := hp 1 (by decide)
  obtain ⟨v2, h2⟩ := hp 2 (by decide)
  obtain ⟨v3, h3⟩ := hp 3 (by decide)
  obtain ⟨v4, h4⟩ := hp 4 (by decide)
  clear hp
  have hEP : ¬ E = P := fun h => hPE h.symm
  have hta : ∀ w, (Instr.typeAssert (.iface 55 (.agg #[.int .i64 3])) 20 55 false).run Try.prog w = .ok (.agg #[.int .i64 3]) w := fun _ => by kernel_rfl
  have hfd : ∀ w, (Instr.field 55 (.agg #[.int .i64 3]) 0).run Try.prog w = .ok (.int .i64 3) w := fun _ => by kernel_rfl
  go_wp2_with fail
  go_region
  all_goals
    go_wp2_with fail
    refine ⟨rfl, _, rfl, _, by simp [results, Try.results20, go_sem], rfl, rfl, ⟨?_, ?_, ?_, ?_, ?_, ?_⟩, ?_⟩
    iterate 6 (first | (simp [hPE, hEP, h0, h1, h2, h3, h4, he]; done) | go_simp | skip)
    try (repeat (with_reducible first | refine Below.setCell ?_ (by simp; omega) _ | refine Below.drew ?_))
    try exact Below.refl _ _
end Go.Proofs.Ytiemcicgohldeaa
