/- The names of the slots: ckpt.slot, the document's SlotName; at 0 and 1. -/
import Derived.Test.YtphgdpjfolkafaaDoorDiskR
import Derived.Laws.IdiomStrings
namespace Go.Proofs.YtphgdpjfolkafaaDoor
open Go.ChangeShapes Go.WideShapes Go.ChangeAt Go.RowKit
set_option linter.unusedVariables false
set_option linter.unusedSimpArgs false
def digitB (n : Int) : ByteArray := if n = 0 then ⟨#[48]⟩ else ⟨#[49]⟩
def slotB (n : Int) : ByteArray := if n = 0 then ⟨#[115, 97, 118, 101, 45, 48]⟩ else ⟨#[115, 97, 118, 101, 45, 49]⟩
def nextB : ByteArray := ⟨#[110, 101, 120, 116]⟩
theorem small_walk (n : Int) (hn : n = 0 ∨ n = 1) (w : World) : Calls Tryd.prog 58 #[.int .i64 n] w fun e w' => e = .returned (.string (digitB n)) ∧ w = w' := by
  rcases hn with rfl | rfl
  · go_enter Tryd.func58, Tryd.ntmps58
    go_wp2_with fail
    go_ret
    exact ⟨rfl, rfl⟩
  · go_enter Tryd.func58, Tryd.ntmps58
    go_wp2_with fail
    go_ret
    exact ⟨rfl, rfl⟩
theorem formatInt_walk (n : Int) (hn : n = 0 ∨ n = 1) (w : World) : Calls Tryd.prog 49 #[.int .i64 n, .int .i64 10] w fun e w' => e = .returned (.string (digitB n)) ∧ w = w' := by
  have HS := hid (small_walk n hn)
  rcases hn with rfl | rfl
  · go_enter Tryd.func49, Tryd.ntmps49
    go_wp2_with fail
    refine (HS.out _).mono ?_
    rintro e w1 ⟨rfl, rfl⟩
    go_wp2_with fail
    go_ret
    exact ⟨rfl, rfl⟩
  · go_enter Tryd.func49, Tryd.ntmps49
    go_wp2_with fail
    refine (HS.out _).mono ?_
    rintro e w1 ⟨rfl, rfl⟩
    go_wp2_with fail
    go_ret
    exact ⟨rfl, rfl⟩
theorem itoa1_walk (n : Int) (hn : n = 0 ∨ n = 1) (w : World) : Calls Tryd.prog 40 #[.int .i64 n] w fun e w' => e = .returned (.string (digitB n)) ∧ w = w' := by
  have HS := hid (formatInt_walk n hn)
  go_enter Tryd.func40, Tryd.ntmps40
  go_wp2_with fail
  refine (HS.out _).mono ?_
  rintro e w1 ⟨rfl, rfl⟩
  go_wp2_with fail
  go_ret
  exact ⟨rfl, rfl⟩
theorem itoa_walk (n : Int) (hn : n = 0 ∨ n = 1) (w : World) : Calls Tryd.prog 27 #[.int .i64 n] w fun e w' => e = .returned (.string (digitB n)) ∧ w = w' := by
  have HS := hid (itoa1_walk n hn)
  go_enter Tryd.func27, Tryd.ntmps27
  go_wp2_with fail
  refine (HS.out _).mono ?_
  rintro e w1 ⟨rfl, rfl⟩
  go_wp2_with fail
  go_ret
  exact ⟨rfl, rfl⟩
theorem slot_walk (n : Int) (hn : n = 0 ∨ n = 1) (w : World) : Calls Tryd.prog 14 #[.int .i64 n] w fun e w' => e = .returned (.string (slotB n)) ∧ w = w' := by
  have HS := hid (itoa_walk n hn)
  rcases hn with rfl | rfl
  · go_enter Tryd.func14, Tryd.ntmps14
    go_wp2_with fail
    refine (HS.out _).mono ?_
    rintro e w1 ⟨rfl, rfl⟩
    go_wp2_with fail
    go_ret
    exact ⟨rfl, rfl⟩
  · go_enter Tryd.func14, Tryd.ntmps14
    go_wp2_with fail
    refine (HS.out _).mono ?_
    rintro e w1 ⟨rfl, rfl⟩
    go_wp2_with fail
    go_ret
    exact ⟨rfl, rfl⟩
set_option maxRecDepth 100000 in
theorem dec01_walk (n : Int) (hn : n = 0 ∨ n = 1) (w : World) : Calls Tryd.prog 32 #[.int .i64 n] w fun e w' => e = .returned (.string (digitB n)) ∧ Below w.heap.size w w' := by
  rcases hn with rfl | rfl
  · have hd : digitB 0 = ⟨#[48]⟩ := rfl
    have hcv : (convert 36 9 (.slice (some ⟨w.heap.size, 0, none⟩) 1 1)).run Tryd.prog (w.alloc (.cells #[.int .u8 48] 5)) = .ok (.string ⟨#[48]⟩) (w.alloc (.cells #[.int .u8 48] 5)) :=
      run_convert_bytes_back _ _ _ _ ⟨w.heap.size, 0, none⟩ 1 [48] Tryd.underlying36 Tryd.underlying5 Tryd.underlying9 (fun j hj => by
        obtain rfl : j = 0 := by simp at hj; omega
        simp [Addr.add])
    go_enter Tryd.func32, Tryd.ntmps32
    go_wp2_with (simp only [hcv])
    go_ret
    exact ⟨rfl, bA (Below.refl _ _) _⟩
  · have hd : digitB 1 = ⟨#[49]⟩ := rfl
    have hcv : (convert 36 9 (.slice (some ⟨w.heap.size, 0, none⟩) 1 1)).run Tryd.prog (w.alloc (.cells #[.int .u8 49] 5)) = .ok (.string ⟨#[49]⟩) (w.alloc (.cells #[.int .u8 49] 5)) :=
      run_convert_bytes_back _ _ _ _ ⟨w.heap.size, 0, none⟩ 1 [49] Tryd.underlying36 Tryd.underlying5 Tryd.underlying9 (fun j hj => by
        obtain rfl : j = 0 := by simp at hj; omega
        simp [Addr.add])
    go_enter Tryd.func32, Tryd.ntmps32
    go_wp2_with (simp only [hcv])
    go_ret
    exact ⟨rfl, bA (Below.refl _ _) _⟩
theorem slotName_walk (n : Int) (hn : n = 0 ∨ n = 1) (w : World) : Calls Tryd.prog 18 #[.int .i64 n] w fun e w' => e = .returned (.string (slotB n)) ∧ Below w.heap.size w w' := by
  have HS := hid (dec01_walk n hn)
  rcases hn with rfl | rfl
  · go_enter Tryd.func18, Tryd.ntmps18
    go_wp2_with fail
    refine (HS.out _).mono ?_
    rintro e w1 ⟨rfl, b1⟩
    go_wp2_with fail
    go_ret
    exact ⟨rfl, b1⟩
  · go_enter Tryd.func18, Tryd.ntmps18
    go_wp2_with fail
    refine (HS.out _).mono ?_
    rintro e w1 ⟨rfl, b1⟩
    go_wp2_with fail
    go_ret
    exact ⟨rfl, b1⟩
end Go.Proofs.YtphgdpjfolkafaaDoor
