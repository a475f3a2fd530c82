/- The comparison of two disks. -/
import Derived.Test.YtphgdpjfolkafaaDoorDiskF
import Derived.Test.YtphgdpjfolkafaaDoorBytes
namespace Go.Proofs.YtphgdpjfolkafaaDoor
open Go.ChangeShapes Go.WideShapes Go.ChangeAt Go.RowKit
set_option linter.unusedVariables false
set_option linter.unusedSimpArgs false
theorem files_get {l l' : List MFile} (h : files l' = files l) {k : Nat} {x : MFile} (hx : l[k]? = some x) : ∃ x', l'[k]? = some x' ∧ x'.f = x.f := by
  have h1 : (files l)[k]? = some x.f := by unfold files; rw [List.getElem?_map, hx]; rfl
  rw [← h] at h1
  unfold files at h1
  rw [List.getElem?_map] at h1
  cases h2 : l'[k]? with
  | none => rw [h2] at h1; cases h1
  | some x' => rw [h2] at h1; exact ⟨x', rfl, by simpa using h1⟩
theorem files_len {l l' : List MFile} (h : files l' = files l) : l'.length = l.length := by
  have := congrArg List.length h; simpa [files] using this
set_option maxRecDepth 100000 in
set_option maxHeartbeats 4000000 in
theorem sameDisk_walk (l l' : List MFile) (w : World) (A A' : Option Addr) (n c c' : Nat) (hf : files l' = files l) (hn : l.length = n) (h1 : Files w w.heap.size A l) (h2 : Files w w.heap.size A' l') (hl : n ≤ 140737488355328) :
    Calls Tryd.prog 9 #[.agg #[.slice A n c], .agg #[.slice A' n c']] w fun e w' => e = .returned (.bool true) ∧ Below w.heap.size w w' := by
  have HL := hid hn
  have HL' := hid ((files_len hf).trans hn)
  have HF := hid hf
  clear hn hf
  go_enter Tryd.func9, Tryd.ntmps9
  go_wp2_with fail
  go_loopw [5] (fun i wr => ∃ k : Nat, k ≤ n ∧ i = .int .i64 k ∧ Below (w.heap.size + 2) ((w.alloc (.cells #[.slice A n c] 24)).alloc (.cells #[.slice A' n c'] 24)) wr) (fun i _ => n - (intOf i).toNat)
  case atStart => exact ⟨0, by omega, rfl, Below.refl _ _⟩
  case round =>
    obtain ⟨k, hk, rfl, hbel⟩ := hrel
    have p0 : wr.cell? ⟨w.heap.size, 0, none⟩ = some (.slice A n c) := by rw [hbel.cell (p := ⟨w.heap.size, 0, none⟩) (by simp)]; go_simp
    have p1 : wr.cell? ⟨w.heap.size + 1, 0, none⟩ = some (.slice A' n c') := by rw [hbel.cell (p := ⟨w.heap.size + 1, 0, none⟩) (by simp)]; go_simp
    have b0 : Below w.heap.size w wr := (bA (bA (Below.refl w.heap.size w) _) _).trans (hbel.mono (by omega))
    have hzr : w.heap.size + 2 ≤ wr.heap.size := by have := hbel.size; simpa using this
    by_cases hlt : k < n
    · obtain ⟨x, hx⟩ : ∃ x, l[k]? = some x := ⟨_, List.getElem?_eq_getElem (by rw [HL.out]; exact hlt)⟩
      obtain ⟨x', hx', hxx⟩ := files_get HF.out hx
      obtain ⟨b, off, rfl, hb, c0, c1, c2⟩ := file_cells (h1.1.below b0) rfl hx
      obtain ⟨b', off', rfl, hb', d0, d1, d2⟩ := file_cells (h2.1.below b0) rfl hx'
      have r1 := Rd.below (Files.data h1 (List.mem_of_getElem? hx)) b0
      have r2 := Rd.below (Files.data h2 (List.mem_of_getElem? hx')) b0
      rw [hxx] at r2 d0 d1 d2
      have hbr : b < wr.heap.size := by omega
      have hbr' : b' < wr.heap.size := by omega
      have hww : w.heap.size + 1 < wr.heap.size := by omega
      have z1 : (k : Int) < n := by omega
      have bX := bA (bA (Below.refl wr.heap.size wr) (.cells #[.string x.f.name, .slice x.A x.f.data.length x.c, .int .i64 x.f.synced] 45)) (.cells #[.string x.f.name, .slice x'.A x.f.data.length x'.c, .int .i64 x.f.synced] 45)
      have bX0 : Below w.heap.size wr ((wr.alloc (.cells #[.string x.f.name, .slice x.A x.f.data.length x.c, .int .i64 x.f.synced] 45)).alloc (.cells #[.string x.f.name, .slice x'.A x.f.data.length x'.c, .int .i64 x.f.synced] 45)) := bX.mono (by omega)
      have HS := hid (sameBytes_walk x.f.data _ x.A x'.A _ _ x.c x'.c (rdb r1 (by decide) bX0) (rdb r2 (by decide) bX0))
      clear hx hx' hxx r1 r2
      go_wp2_with fail
      refine HS.out.mono ?_
      rintro e w2 ⟨rfl, rfl⟩
      go_wp2_with fail
      go_roundw
      case rel => exact ⟨k + 1, by omega, by go_num, hbel.trans (bX.mono hzr)⟩
      case measure => simp [intOf]; omega
    · go_wp2_with fail
      go_ret
      exact ⟨rfl, b0⟩
end Go.Proofs.YtphgdpjfolkafaaDoor
