/- varint.Put answers what the document says. -/
import Derived.Test.YtblabipgehkllaaPack
import Derived.Test.YtblabipgehkllaaBytes
namespace Go.Proofs.Ytblabipgehkllaa
open Go.ChangeShapes Go.WideShapes Go.ChangeAt Go.RowKit
set_option linter.unusedVariables false
theorem law_VarintPuts (w : World) (a : Int) (wa : (Lit.int .u64 a).wf = true) :
    Calls Try.prog 8 #[.int .u64 a] w fun e w' => e = .returned (.bool true) ∧ Below w.heap.size w w' := by
  obtain ⟨h0, h1⟩ := u64_of wa
  have c1 := hid (put_walk a h0 h1)
  have c2 := hid (packed_any a h0 h1)
  generalize pack a = l at c1 c2
  go_enter Try.func8, Try.ntmps8
  go_wp2_with fail
  refine (c1.out _).mono ?_
  rintro e w1 ⟨A1, k1, rfl, o1, b1⟩
  go_wp2_with fail
  refine (c2.out _).mono ?_
  rintro e w2 ⟨A2, k2, rfl, o2, b2⟩
  have r1 := ((rd_own o1).below b2).any (by decide)
  have r2 := rd_own o2
  go_wp2_with fail
  refine (sameBytes_walk l _ _ _ _ _ _ _ r1 r2).mono ?_
  rintro e w3 ⟨rfl, rfl⟩
  go_wp2_with fail
  go_ret
  exact ⟨rfl, bT b1 b2⟩
end Go.Proofs.Ytblabipgehkllaa
