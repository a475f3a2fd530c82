/- The statement on merge.Sort. -/
import Derived.Test.YtafnbackjjaelaaMSort
namespace Go.Proofs.Ytafnbackjjaelaa
open Go.ChangeShapes Go.WideShapes Go.ChangeAt Go.RowKit
set_option linter.unusedVariables false
set_option maxHeartbeats 2000000 in
theorem law_MergeSorts (w : World) (l : List Mail) (A : Option Addr) (c : Nat) (hf : Flat w w.heap.size 16 2 Mail.cells A c l) (hb : ∀ x ∈ l, x.wf) :
    Calls Try.prog 24 #[.slice A l.length c] w fun e w' => e = .returned (.bool true) ∧ Below w.heap.size w w' := by
  obtain ⟨f1, f2, f3, f4⟩ := hf
  clear hb
  have hn : l.length * 16 ≤ 140737488355328 := by omega
  have hl5 := sortV_len l
  have c1 := hid (fun w2 A2 k2 h => sort_walk l w2 A2 k2 h hn)
  have c2 := hid (fun w2 A2 k2 h => mailSorted_walk l w2 A2 k2 h hn)
  generalize sortV l = z at c1 c2 hl5
  obtain ⟨v, r⟩ := z
  simp only at hl5
  go_enter Try.func24, Try.ntmps24
  go_wp2_with fail
  refine (mails_copy l w A l.length c _ f4 hn).mono ?_
  rintro e w1 ⟨A1, k1, rfl, o1, b1⟩
  have r1 := rd_own o1
  have r0 := (f4.below b1).any (by decide)
  go_wp2_with fail
  refine (c1.out w1 A1 k1 r1).mono ?_
  rintro e w2 ⟨A2, k2, rfl, o2, b2⟩
  go_wp2_with fail
  refine (c2.out w2 A c ((r0.below b2).any (by decide))).mono ?_
  rintro e w3 ⟨A3, k3, rfl, o3, b3⟩
  go_wp2_with fail
  refine (sameMails_walk v _ _ _ _ _ (((rd_own o2).below b3).any (by decide)) (rd_own o3) (by omega)).mono ?_
  rintro e w4 ⟨rfl, b4⟩
  have b14 := bT (bT b2 b3) b4
  have q1 := (r1.below b14).any (by decide)
  have q2 := (r0.below b14).any (by decide)
  go_wp2_with fail
  refine (sameMails_walk l _ A1 A k1 c q1 q2 (by omega)).mono ?_
  rintro e w5 ⟨rfl, b5⟩
  go_wp2_with fail
  go_ret
  exact ⟨by simp, bT (bT b1 b14) b5⟩
end Go.Proofs.Ytafnbackjjaelaa
