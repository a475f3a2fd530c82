/- varint.Ungap: the reader. -/
import Derived.Test.YtafnbackjjaelaaUngapP
import Derived.Test.YtafnbackjjaelaaUnpackW
import Derived.Test.YtafnbackjjaelaaLibD
namespace Go.Proofs.Ytafnbackjjaelaa
open Go.ChangeShapes Go.WideShapes Go.ChangeAt Go.RowKit
set_option linter.unusedVariables false
def NextR (w : World) (R : Nat) (r : Int × Int × Int) (at_ : Nat) (e : Ending) (w' : World) : Prop :=
  e = .returned (.tuple #[.int .u64 r.1, .int .i64 r.2.2]) ∧ ∃ q, w' = (w.drewN q).setCell ⟨R, 1, none⟩ (.int .i64 ((at_ : Int) + r.2.1))
set_option maxHeartbeats 1000000 in
theorem next_some (l : List Int) (w : World) (R B : Nat) (A : Option Addr) (n c at_ : Nat) (hc0 : w.cell? ⟨R, 0, none⟩ = some (.slice A n c)) (hc1 : w.cell? ⟨R, 1, none⟩ = some (.int .i64 at_)) (hf : w.frozen? ⟨R, 1, none⟩ = false)
    (hr : Rd w B A 1 n (l.flatMap u8c)) (hl : ∀ x ∈ l, 0 ≤ x ∧ x ≤ 255) (hn : n ≤ 140737488355328) (hcap : n ≤ c) (hat : at_ ≤ n) (hne : ¬ c = at_) :
    Calls Try.prog 102 #[.pointer (some ⟨R, 0, none⟩)] w (NextR w R (getv (l.drop at_)) at_) := by
  have hll : l.length = n := by have := hr.1; rw [(flatMap_get (l := l) (cells := u8c) (sz := 1) (fun _ _ => rfl)).1] at this; omega
  have hg := getv_ok (l.drop at_) (fun x hx => hl x (List.mem_of_mem_drop hx))
  rw [List.length_drop, hll] at hg
  have hcut := hr.cut (k := at_) (cap := c) hat hcap
  rw [if_neg hne, drop_flat (cells := u8c) (sz := 1) (fun _ => rfl)] at hcut
  rw [Nat.mul_one] at hcut
  have hget0 := (fun k => get_any (l.drop at_) (w.drewN k) (Option.map (fun x => x.add at_) A) (n - at_) (c - at_) (hcut.any (by decide)) (fun x hx => hl x (List.mem_of_mem_drop hx)) (by omega))
  unfold tri at hget0
  have hget := hid hget0
  clear hcut hr hl hll hget0
  generalize getv (l.drop at_) = r at *
  obtain ⟨r1, r2, r3⟩ := r
  have hb : 0 ≤ r2 ∧ r2 ≤ 140737488355328 := by
    rcases hg with ⟨g0, g1, g2, g3, g4⟩ | ⟨g0, g1, g2, g3⟩ <;> simp only at * <;> omega
  obtain ⟨hb0, hb1⟩ := hb
  clear hg
  have z0 : (0 : Int) ≤ (at_ : Int) := by omega
  have z1 : (at_ : Int) ≤ (n : Int) := by omega
  have z2 : (n : Int) ≤ (c : Int) := by omega
  go_enter Try.func102, Try.ntmps102
  go_wp2_with fail
  go_quiet ((go_at_call 114; exact qsame (hget.out _)))
  go_wp2_with fail
  go_ret2
  exact ⟨rfl, nq, rfl⟩
set_option maxHeartbeats 1000000 in
theorem next_none (w : World) (R : Nat) (A : Option Addr) (n : Nat) (hc0 : w.cell? ⟨R, 0, none⟩ = some (.slice A n n)) (hc1 : w.cell? ⟨R, 1, none⟩ = some (.int .i64 n)) (hf : w.frozen? ⟨R, 1, none⟩ = false) (hn : n ≤ 140737488355328) :
    Calls Try.prog 102 #[.pointer (some ⟨R, 0, none⟩)] w (NextR w R (getv []) n) := by
  have hget0 := (fun k => get_any [] (w.drewN k) A 0 0 Rd.nil_ (by simp) (by omega))
  unfold tri at hget0
  have e0 : getv [] = (0, 0, 4) := rfl
  rw [e0] at hget0 ⊢
  have hget := hid hget0
  clear hget0 e0
  have z0 : (0 : Int) ≤ (n : Int) := by omega
  go_enter Try.func102, Try.ntmps102
  go_wp2_with fail
  go_quiet ((go_at_call 114; exact qsame (hget.out _)))
  go_wp2_with fail
  go_ret2
  exact ⟨rfl, nq, by simp⟩
theorem next_walk (l : List Int) (w : World) (R B : Nat) (A : Option Addr) (n c at_ : Nat) (hc0 : w.cell? ⟨R, 0, none⟩ = some (.slice A n c)) (hc1 : w.cell? ⟨R, 1, none⟩ = some (.int .i64 at_)) (hf : w.frozen? ⟨R, 1, none⟩ = false)
    (hr : Rd w B A 1 n (l.flatMap u8c)) (hl : ∀ x ∈ l, 0 ≤ x ∧ x ≤ 255) (hn : n ≤ 140737488355328) (hcap : n ≤ c) (hat : at_ ≤ n) :
    Calls Try.prog 102 #[.pointer (some ⟨R, 0, none⟩)] w (NextR w R (getv (l.drop at_)) at_) := by
  by_cases hne : c = at_
  · subst hne
    obtain rfl : n = c := by omega
    have hll : l.length = n := by have := hr.1; rw [(flatMap_get (l := l) (cells := u8c) (sz := 1) (fun _ _ => rfl)).1] at this; omega
    rw [List.drop_of_length_le (by omega)]
    exact next_none w R A n hc0 hc1 hf hn
  · exact next_some l w R B A n c at_ hc0 hc1 hf hr hl hn hcap hat hne
end Go.Proofs.Ytafnbackjjaelaa
