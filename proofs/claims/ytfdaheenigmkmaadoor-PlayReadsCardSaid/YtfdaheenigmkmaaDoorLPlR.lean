/- The statement on play.Read. -/
import Derived.Test.YtfdaheenigmkmaaDoorPlyR
import Derived.Test.YtfdaheenigmkmaaDoorMvsR
namespace Go.Proofs.YtfdaheenigmkmaaDoor
open Go.RowKit Go.ChangeShapes Go.WideShapes Go.ChangeAt
set_option linter.unusedVariables false
set_option linter.unusedSimpArgs false
theorem readV_len (t : List UInt8) : (readV t).1.length ≤ 100000 := by
  unfold readV
  split
  · simp
  · split
    · split
      · simp
      · simp; omega
    · simp
set_option maxRecDepth 100000 in
set_option maxHeartbeats 4000000 in
theorem law_PlayReads (w : World) (s : ByteArray) (hz : s.size ≤ 140737488351232) (hF : FormsAt w) (hPE : PowAt w ∧ ErrsAt w) :
    Calls Tryd.prog 3 #[.string s] w fun e w' => e = .returned (.bool true) ∧ Below w.heap.size w w' := by
  have HA := hid (read_walkP s w hF hPE.1 hPE.2)
  have HL := hid (readV_len s.data.toList)
  go_enter Tryd.func3, Tryd.ntmps3
  go_wp2_with fail
  refine HA.out.mono ?_
  rintro e w1 ⟨⟨A1, c1, rfl, r1⟩, b1⟩
  have HR1 := hid r1
  have HB1 := hid b1
  have HM := hid (movesRead_walk s w1)
  clear r1 b1 HA
  go_wp2_with fail
  refine HM.out.mono ?_
  rintro e w2 ⟨⟨A2, c2, rfl, r2⟩, b2⟩
  have HB2 := hid (bT HB1.out b2)
  have HSM := hid (sameMoves_walk (readV s.data.toList).1 w2 A1 A2 c1 c2 ((HR1.out.below b2).more b2.size) r2 (by have := HL.out; omega))
  clear r2 b2 HM
  go_wp2_with fail
  refine HSM.out.mono ?_
  rintro e w3 ⟨rfl, b3⟩
  go_wp2_with fail
  go_ret
  exact ⟨by simp, bT HB2.out b3⟩
end Go.Proofs.YtfdaheenigmkmaaDoor
