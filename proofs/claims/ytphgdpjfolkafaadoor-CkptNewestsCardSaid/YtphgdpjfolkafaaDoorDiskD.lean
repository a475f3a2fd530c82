/- Disks in memory: their cells, how they are read, the statements' words for them. -/
import Derived.Test.YtphgdpjfolkafaaDoorMem
import Derived.Test.YtphgdpjfolkafaaDoorDiskP
namespace Go.Proofs.YtphgdpjfolkafaaDoor
open Go.RowKit Go.ChangeShapes Go.WideShapes Go.ChangeAt
set_option linter.unusedVariables false
set_option linter.unusedSimpArgs false
/-- A file, and where its data lies. -/
structure MFile where
  A : Option Addr
  c : Nat
  f : File
def MFile.cells (x : MFile) : List Value := [.string x.f.name, .slice x.A x.f.data.length x.c, .int .i64 x.f.synced]
/-- The data is read. -/
def MFile.rd (w : World) (B : Nat) (x : MFile) : Prop := Rd w B x.A 1 x.f.data.length (x.f.data.flatMap u8c)
def MFile.wf (w : World) (x : MFile) : Prop := x.rd w w.heap.size ∧ x.f.data.length ≤ x.c ∧ x.c ≤ 140737488351232 ∧ (∀ n ∈ x.f.data, 0 ≤ n ∧ n ≤ 255) ∧ I64 x.f.synced ∧ x.f.name.size ≤ 140737488351232
def MFile.parts (x : MFile) : List Part := [⟨x.A, 1, x.f.data.length, x.f.data.flatMap u8c⟩]
/-- Files at 'A'. -/
abbrev Files (w : World) (B : Nat) (A : Option Addr) (l : List MFile) : Prop := Led MFile.cells MFile.parts w B 3 A l
theorem Files.any {w : World} {B : Nat} {A : Option Addr} {l : List MFile} (h : Files w B A l) : Files w w.heap.size A l :=
  ⟨h.1.any (by decide), fun x hx p hp => by have := h.2 x hx p hp; obtain rfl := List.mem_singleton.1 hp; exact Rd.any (sz := 1) this (by decide)⟩
theorem Files.b {w w' : World} {B : Nat} {A : Option Addr} {l : List MFile} (h : Files w B A l) (hb : Below B w w') : Files w' w'.heap.size A l := Files.any (Led.below h hb)
theorem Files.data {w : World} {B : Nat} {A : Option Addr} {l : List MFile} (h : Files w B A l) {x : MFile} (hx : x ∈ l) : x.rd w B := h.2 x hx _ (List.mem_singleton.2 rfl)
theorem files_of {w : World} {bs : Nat} {A : Option Addr} {c : Nat} {l : List MFile} (h : Flat w w.heap.size bs 3 MFile.cells A c l) (hw : ∀ x ∈ l, x.wf w) : Files w w.heap.size A l :=
  ⟨h.2.2.2, fun x hx p hp => by obtain rfl := List.mem_singleton.1 hp; exact (hw x hx).1⟩
section
variable {H : Type} {enc : TypeId × Value → H} {W : World}
theorem opn_File : Opn enc Tryd.prog W 45 (fun cs (x : MFile) => cs = x.cells ∧ x.wf W) :=
  (opn_struct Tryd.underlying45 (by kernel_rfl) (opnF_cons (n := 1) rfl (by kernel_rfl) (opn_string Tryd.underlying9) (opnF_cons (n := 1) rfl (by kernel_rfl) opn_bytes (opnF_cons (n := 1) rfl (by kernel_rfl) opn_i64 opnF_nil)))).mono (fun cs x h => by
    obtain ⟨a, b, d, _⟩ := x
    obtain ⟨⟨h0, z0⟩, ⟨A, c, h1, ⟨f1, f2, f3, f4⟩, w1⟩, ⟨h2, w2⟩, hn⟩ := h
    exact ⟨⟨A, c, ⟨a, b, d⟩⟩, glue h0 (glue h1 (glue h2 hn)), f4, f1, by show c ≤ _; omega, w1, w2, z0⟩)
theorem opn_files : Opn enc Tryd.prog W 22 (FlatArg W 48 3 MFile.cells (MFile.wf W)) := opn_flat Tryd.underlying22 (by kernel_rfl) (by kernel_rfl) (by decide) (fun _ => rfl) opn_File
def DiskArg (W : World) (cs : List Value) (l : List MFile) : Prop :=
  ∃ A c, cs = [.slice A l.length c] ∧ Flat W W.heap.size 48 3 MFile.cells A c l ∧ ∀ x ∈ l, x.wf W
theorem opn_Disk : Opn enc Tryd.prog W 24 (DiskArg W) :=
  (opn_struct Tryd.underlying24 (by kernel_rfl) (opnF_cons (n := 1) rfl (by kernel_rfl) opn_files opnF_nil)).mono (fun cs x h => by
    obtain ⟨a, _⟩ := x
    obtain ⟨⟨A, c, h1, w1, w2⟩, hn⟩ := h
    exact ⟨a, A, c, glue h1 hn, w1, w2⟩)
end
theorem el_files : ElemTy Tryd.prog 22 45 3 48 := elemTy (z := .agg #[.string ByteArray.empty, .slice none 0 0, .int .i64 0]) Tryd.underlying22 (by decide) (by decide) (by kernel_rfl) rfl
theorem one_File (l : List MFile) : ∀ u ∈ l.flatMap MFile.cells, u.oneCell' = true := by
  intro u hu; obtain ⟨x, _, h⟩ := List.mem_flatMap.1 hu; simp [MFile.cells] at h; rcases h with rfl | rfl | rfl <;> rfl
/-- The three cells of a file. -/
theorem file_cells {w : World} {B n k : Nat} {A : Option Addr} {l : List MFile} {e : MFile} (h : Rd w B A 3 n (l.flatMap MFile.cells)) (hl : l.length = n) (hk : l[k]? = some e) :
    ∃ b off, A = some ⟨b, off, none⟩ ∧ b < B ∧ w.cell? ⟨b, off + k * 3, none⟩ = some (.string e.f.name) ∧ w.cell? ⟨b, off + k * 3 + 1, none⟩ = some (.slice e.A e.f.data.length e.c) ∧ w.cell? ⟨b, off + k * 3 + 2, none⟩ = some (.int .i64 e.f.synced) := by
  have hk' := (List.getElem?_eq_some_iff.1 hk).1
  obtain ⟨b, off, rfl, hb, hc⟩ := h.2 (by omega)
  obtain ⟨_, hg⟩ := flatMap_get (cells := MFile.cells) (sz := 3) (l := l) (fun _ _ => rfl)
  refine ⟨b, off, rfl, hb, ?_, ?_, ?_⟩
  · exact hc _ _ (hg k e 0 _ hk rfl)
  · rw [Nat.add_assoc]; exact hc _ _ (hg k e 1 _ hk rfl)
  · rw [Nat.add_assoc]; exact hc _ _ (hg k e 2 _ hk rfl)
end Go.Proofs.YtphgdpjfolkafaaDoor
