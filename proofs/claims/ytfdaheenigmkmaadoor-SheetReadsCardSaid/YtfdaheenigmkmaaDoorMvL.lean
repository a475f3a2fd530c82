/- A move's line: plain; the document's MoveWord and MoveLine. -/
import Derived.Test.YtfdaheenigmkmaaDoorDecW
namespace Go.Proofs.YtfdaheenigmkmaaDoor
open Go.RowKit Go.ChangeShapes Go.WideShapes Go.ChangeAt
set_option linter.unusedVariables false
set_option linter.unusedSimpArgs false
/-- The word of a kind. -/
def wordB (k : Int) : ByteArray := if k = 1 then ⟨#[119, 111, 114, 107]⟩ else if k = 2 then ⟨#[99, 97, 114, 114, 121]⟩ else if k = 3 then ⟨#[108, 111, 115, 101]⟩ else if k = 4 then ⟨#[100, 111, 117, 98, 108, 101]⟩ else if k = 5 then ⟨#[97, 108, 108]⟩ else if k = 6 then ⟨#[99, 114, 97, 115, 104]⟩ else if k = 7 then ⟨#[115, 116, 97, 114, 116]⟩ else if k = 8 then ⟨#[108, 101, 97, 100]⟩ else ⟨#[]⟩
def atB (k : Int) : Bool := decide (1 ≤ k ∧ k ≤ 7 ∧ k ≠ 5)
def keepB (k : Int) : Bool := decide (k = 6)
def spB : ByteArray := ⟨#[32]⟩
def nlB : ByteArray := ⟨#[10]⟩
def numOk (has : Bool) (n : Int) : Prop := 0 ≤ n ∧ n ≤ 1152921504606846976 ∧ (has = false → n = 0)
instance (has : Bool) (n : Int) : Decidable (numOk has n) := by unfold numOk; infer_instance
def addN (s : ByteArray) (has : Bool) (n : Int) : ByteArray := if has = true then s ++ (spB ++ decB n.toNat) else s
def lineV (m : Move) : ByteArray × Int := if m.kind < 1 ∨ 8 < m.kind then (⟨#[]⟩, 3) else if ¬ (numOk (atB m.kind) m.at_ ∧ numOk (keepB m.kind) m.keep) then (⟨#[]⟩, 2) else (addN (addN (wordB m.kind) (atB m.kind) m.at_) (keepB m.kind) m.keep ++ nlB, 0)
theorem wordB_size (k : Int) : (wordB k).size ≤ 6 := by
  unfold wordB
  repeat (first | (split) | decide)
theorem kind_cases {k : Int} (h : ¬ (k < 1 ∨ 8 < k)) : k = 1 ∨ k = 2 ∨ k = 3 ∨ k = 4 ∨ k = 5 ∨ k = 6 ∨ k = 7 ∨ k = 8 := by omega
theorem nDig (u : Nat) (h : u ≤ 1152921504606846976) : (decB u).size ≤ 1152921504606846977 := by have := decB_size u; omega
set_option maxRecDepth 100000 in
set_option maxHeartbeats 2000000 in
theorem moveWord_walk (k : Int) (w : World) : Calls Tryd.prog 25 #[.int .i64 k] w fun e w' => e = .returned (.tuple #[.string (wordB k), .bool (atB k), .bool (keepB k)]) ∧ w = w' := by
  by_cases h : k < 1 ∨ 8 < k
  · have h1 : (k == 1) = false := by simp; omega
    have h2 : (k == 2) = false := by simp; omega
    have h3 : (k == 3) = false := by simp; omega
    have h4 : (k == 4) = false := by simp; omega
    have h5 : (k == 5) = false := by simp; omega
    have h6 : (k == 6) = false := by simp; omega
    have h7 : (k == 7) = false := by simp; omega
    have h8 : (k == 8) = false := by simp; omega
    have HW : Hid (wordB k = ⟨#[]⟩ ∧ atB k = false ∧ keepB k = false) := hid ⟨by unfold wordB; repeat rw [if_neg (by omega)], by unfold atB; simp; omega, by unfold keepB; simp; omega⟩
    go_enter Tryd.func25, Tryd.ntmps25
    go_wp2_with fail
    all_goals
      go_ret3
      exact ⟨by rw [HW.out.1, HW.out.2.1, HW.out.2.2]; rfl, rfl⟩
  · rcases kind_cases h with rfl | rfl | rfl | rfl | rfl | rfl | rfl | rfl
    all_goals
      clear h
      go_enter Tryd.func25, Tryd.ntmps25
      go_wp2_with fail
      go_ret3
      exact ⟨rfl, rfl⟩
end Go.Proofs.YtfdaheenigmkmaaDoor
