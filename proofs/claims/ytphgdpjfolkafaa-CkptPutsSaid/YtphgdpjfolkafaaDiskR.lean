/- disk.Read, the document's ReadFile; the statement. -/
import Derived.Test.YtphgdpjfolkafaaDiskO
import Derived.Test.YtphgdpjfolkafaaDiskN
import Derived.Test.YtphgdpjfolkafaaSameD
namespace Go.Proofs.Ytphgdpjfolkafaa
open Go.ChangeShapes Go.WideShapes Go.ChangeAt Go.RowKit
set_option linter.unusedVariables false
set_option linter.unusedSimpArgs false
set_option maxHeartbeats 2000000 in
theorem disks_walk (l : List MFile) (w : World) (A : Option Addr) (c : Nat) (hr : Files w w.heap.size A l) (hn : l.length * 48 ≤ 140737488355328) (hd : ∀ x ∈ l, x.f.data.length ≤ 140737488355328) :
    Calls Try.prog 32 #[.agg #[.slice A l.length c]] w fun e w' => ∃ A' c' l', e = .returned (.agg #[.slice A' l.length c']) ∧ files l' = files l ∧ l'.length = l.length ∧ Led MFile.cells MFile.parts w' w'.heap.size 3 A' l' ∧ Below w.heap.size w w' := by
  have b0 := bA (bA (Below.refl w.heap.size w) (.cells #[.slice A l.length c] 66)) (.cells #[.slice none 0 0] 66)
  have HC := hid (DiskCopy_walk l _ A c (Files.b hr b0) hn hd)
  go_enter Try.func32, Try.ntmps32
  go_wp2_with fail
  refine HC.out.mono ?_
  rintro e w1 ⟨A1, k1, l1, rfl, hf1, hl1, hown, b1⟩
  have q : w1.cell? ⟨w.heap.size + 1, 0, none⟩ = some (.slice none 0 0) := keepb b1 (by go_simp)
  have qf : ∀ o, w1.frozen? ⟨w.heap.size + 1, o, none⟩ = false := fun o => by rw [(bcell b1).2 _ _ (by simp)]; go_simp
  have HF := hid hf1
  have HL := hid hl1
  clear hf1 hl1
  go_wp2_with fail
  refine bodyPost_ret (v := .agg #[.slice A1 l.length k1]) (by simp [results, Try.results32, go_sem, *]) rfl ⟨A1, k1, l1, rfl, HF.out, HL.out, (hown.store (by show w.heap.size + 1 < _; simp) _).led, bS (bT b0 b1) (by show w.heap.size ≤ w.heap.size + 1; omega) _⟩
section
open Classical
noncomputable def okF (fs : List File) : Bool := decide (diskOk fs)
end
theorem okB_f (l : List MFile) : okB l = okF (files l) := rfl
/-- Sizes that an argument has. -/
def Okm (l : List MFile) : Prop := (∀ x ∈ l, x.f.data.length ≤ 140737488355328) ∧ (∀ x ∈ l, x.f.name.size ≤ 140737488351232)
theorem okm_of {l l' : List MFile} (h : files l' = files l) (ho : Okm l) : Okm l' := by
  have hm : ∀ x ∈ l', ∃ y ∈ l, y.f = x.f := fun x hx => by
    have h1 : x.f ∈ files l' := List.mem_map.2 ⟨x, hx, rfl⟩
    rw [h] at h1
    obtain ⟨y, hy, he⟩ := List.mem_map.1 h1
    exact ⟨y, hy, he⟩
  refine ⟨fun x hx => ?_, fun x hx => ?_⟩
  · obtain ⟨y, hy, he⟩ := hm x hx; rw [← he]; exact ho.1 y hy
  · obtain ⟨y, hy, he⟩ := hm x hx; rw [← he]; exact ho.2 y hy
theorem okm_wf {w : World} {l : List MFile} (h : ∀ x ∈ l, x.wf w) : Okm l := ⟨fun x hx => by obtain ⟨_, h1, h2, _⟩ := h x hx; omega, fun x hx => (h x hx).2.2.2.2.2⟩
theorem at_of {l l' : List MFile} (h : files l' = files l) (n : ByteArray) : l'.findIdx? (named n) = l.findIdx? (named n) := by rw [← fileAt_m, h, fileAt_m]
noncomputable def readF (fs : List File) (n : ByteArray) : List Int × Int :=
  if okF fs = false then ([], 9) else match fileAt fs n with | none => ([], 7) | some i => ((fs[i]?.map (·.data)).getD [], 0)
theorem readF_bad {l : List MFile} {n : ByteArray} (h : okB l = false) : readF (files l) n = ([], 9) := by unfold readF; rw [if_pos (by rw [← okB_f]; exact h)]
theorem readF_none {l : List MFile} {n : ByteArray} (h : okB l = true) (hk : l.findIdx? (named n) = none) : readF (files l) n = ([], 7) := by
  unfold readF; rw [if_neg (by rw [← okB_f, h]; simp), fileAt_m, hk]
theorem readF_some {l : List MFile} {n : ByteArray} {k : Nat} {x : MFile} (h : okB l = true) (hk : l.findIdx? (named n) = some k) (hx : l[k]? = some x) : readF (files l) n = (x.f.data, 0) := by
  unfold readF; rw [if_neg (by rw [← okB_f, h]; simp), fileAt_m, hk]
  unfold files; simp [hx]
/-- Bytes and an error number come back. -/
def RetR (w : World) (l : List Int) (err : Int) (e : Ending) (w' : World) : Prop :=
  ∃ A c, e = .returned (.tuple #[.slice A l.length c, .int .i64 err]) ∧ Rd w' w'.heap.size A 1 l.length (l.flatMap u8c) ∧ Below w.heap.size w w'
end Go.Proofs.Ytphgdpjfolkafaa
