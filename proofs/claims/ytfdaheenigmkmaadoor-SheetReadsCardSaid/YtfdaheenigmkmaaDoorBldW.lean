/- strings.Builder: writing a string. -/
import Derived.Test.YtfdaheenigmkmaaDoorBase
import Derived.Test.YtfdaheenigmkmaaDoorMem
import Derived.Test.YtfdaheenigmkmaaDoorShelfP
import Derived.Lib.AppendStr
namespace Go.Proofs.YtfdaheenigmkmaaDoor
open Go.RowKit Go.ChangeShapes Go.WideShapes Go.ChangeAt
set_option linter.unusedVariables false
set_option linter.unusedSimpArgs false
/-- A builder of the call's own lies at b and holds l; its row lies behind it. -/
def Bld (w : World) (b : Nat) (l : List UInt8) : Prop :=
  ∃ (p : Value) (A : Option Addr) (c : Nat), (p = .pointer none ∨ p = .pointer (some ⟨b, 0, none⟩)) ∧ w.heap[b]? = some (.cells #[p, .slice A l.length c] 70 (0, 0)) ∧ w.ownsRow (b + 1) 5 1 (.slice A l.length c) l.length (Lib.byteCells l)
theorem Bld.lt {w : World} {b : Nat} {l : List UInt8} (h : Bld w b l) : b < w.heap.size := by
  obtain ⟨p, A, c, _, h2, _⟩ := h
  exact (Array.getElem?_eq_some_iff.1 h2).1
theorem Bld.below {w w' : World} {b : Nat} {l : List UInt8} (h : Bld w b l) (hb : Below w.heap.size w w') : Bld w' b l := by
  have hl := h.lt
  obtain ⟨p, A, c, h1, h2, h3⟩ := h
  exact ⟨p, A, c, h1, by rw [hb.block b hl]; exact h2, own_below h3 hb (Nat.le_refl _)⟩
theorem Bld.lib {w : World} {b : Nat} {l : List UInt8} (h : Bld w b l) : Lib.IsBuilder 70 5 b b (Lib.byteCells l) w := by
  obtain ⟨p, A, c, h1, h2, h3⟩ := h
  have h4 : Lib.BuilderAt 70 5 b b p (Lib.byteCells l) w := ⟨Nat.le_refl _, .slice A l.length c, h2, by rw [Lib.byteCells_length]; exact own_more h3 (Nat.le_succ _), fun e => by have := (h3.lt b e).1; omega⟩
  rcases h1 with rfl | rfl
  · exact .inl h4
  · exact .inr h4
set_option maxRecDepth 100000 in
set_option maxHeartbeats 2000000 in
theorem copyCheck_used (b : Nat) (w : World) (h0 : w.cell? ⟨b, 0, none⟩ = some (.pointer (some ⟨b, 0, none⟩))) :
    Calls Tryd.prog 40 #[.pointer (some ⟨b, 0, none⟩)] w fun e w' => e = .returned (.tuple #[]) ∧ w' = w := by
  have X : (Tryd.prog.info? 70).map (fun i => i.size) = some 2 := by kernel_rfl
  obtain ⟨j, hj, hjs⟩ := Option.map_eq_some_iff.1 X
  go_enter Tryd.func40, Tryd.ntmps40
  go_wp2
  rw [Lib.run_neq_ptr_same w _ Tryd.underlying67 hj]
  go_wp2
  go_end0
  exact ⟨rfl, rfl⟩
set_option maxRecDepth 100000 in
set_option maxHeartbeats 2000000 in
theorem copyCheck_fresh (b : Nat) (v : Value) (w : World) (h : w.heap[b]? = some (.cells #[.pointer none, v] 70 (0, 0))) :
    Calls Tryd.prog 40 #[.pointer (some ⟨b, 0, none⟩)] w fun e w' => e = .returned (.tuple #[]) ∧ w' = w.setCell ⟨b, 0, none⟩ (.pointer (some ⟨b, 0, none⟩)) := by
  have X : (Tryd.prog.info? 70).map (fun i => i.size) = some 2 := by kernel_rfl
  obtain ⟨j, hj, hjs⟩ := Option.map_eq_some_iff.1 X
  have hlies : liesAt Tryd.prog Tryd.prog.depth 70 (2 / Tryd.prog.cellsOf 70) 0 70 1 = true := by kernel_rfl
  have h0 : w.cell? ⟨b, 0, none⟩ = some (.pointer none) := by simp [World.cell?, h]
  have hsh : w.shape? b = some (70, 2) := by simp [World.shape?, h]
  have hfz : w.frozen? ⟨b, 0, none⟩ = false := by simp [World.frozen?, h]
  have hl : b < w.heap.size := World.block_lt_of_cell? _ _ h0
  go_enter Tryd.func40, Tryd.ntmps40
  go_wp2
  rw [Lib.run_to_unsafe w ⟨b, 0, none⟩ Tryd.underlying67 Tryd.underlying89 hj (by rw [hjs]; decide) hsh (Nat.zero_lt_succ 1)]
  simp only [Result.andThen]
  rw [Oper.upon_value]
  go_wp2
  rw [run_callFunc_extern Tryd.func52 (by kernel_rfl) (by kernel_rfl) (by kernel_rfl) (e := Extern.AbiNoEscape.same) (by kernel_rfl)]
  rw [Lib.run_noEscape]
  simp only [Result.andThen]
  rw [Oper.upon_value]
  go_wp2
  rw [Lib.run_from_unsafe w ⟨b, 0, none⟩ Tryd.underlying89 Tryd.underlying67 hj hsh hlies]
  simp only [Result.andThen]
  rw [Oper.upon_value]
  go_wp2
  go_end0
  exact ⟨rfl, rfl⟩
theorem copyCheck_walk (b : Nat) (l : List UInt8) (w : World) (h : Bld w b l) :
    Calls Tryd.prog 40 #[.pointer (some ⟨b, 0, none⟩)] w fun e w' => e = .returned (.tuple #[]) ∧ (∃ A c, w'.heap[b]? = some (.cells #[.pointer (some ⟨b, 0, none⟩), .slice A l.length c] 70 (0, 0)) ∧ w'.ownsRow (b + 1) 5 1 (.slice A l.length c) l.length (Lib.byteCells l)) ∧ Below b w w' ∧ w'.heap.size = w.heap.size := by
  have hl := h.lt
  obtain ⟨p, A, c, h1, h2, h3⟩ := h
  rcases h1 with rfl | rfl
  · refine (copyCheck_fresh b _ w h2).mono ?_
    rintro e w' ⟨rfl, rfl⟩
    refine ⟨rfl, ⟨A, c, ?_, ownsRow_setCell_below h3 (Nat.lt_succ_self b) _⟩, (Below.refl _ _).setCell (Nat.le_refl b) _, by simp⟩
    simp only [World.setCell, Array.getElem?_modify]
    rw [h2]
    simp
  · refine (copyCheck_used b w (by simp [World.cell?, h2])).mono ?_
    rintro e w' ⟨rfl, rfl⟩
    exact ⟨rfl, ⟨A, c, h2, h3⟩, Below.refl _ _, rfl⟩
set_option maxRecDepth 100000 in
set_option maxHeartbeats 2000000 in
theorem writeString_walk (b : Nat) (l : List UInt8) (s : ByteArray) (w : World) (h : Bld w b l) (hlen : l.length + s.size ≤ 140737488355328) :
    Calls Tryd.prog 30 #[.pointer (some ⟨b, 0, none⟩), .string s] w fun e w' => e = .returned (.tuple #[.int .i64 s.size, .nilIface]) ∧ Bld w' b (l ++ s.data.toList) ∧ Below b w w' := by
  have HC := hid (copyCheck_walk b l w h)
  have hl := h.lt
  have X : (Tryd.prog.info? 5).map (fun i => (i.zero, i.size, i.bytes)) = some (some (.int .u8 0), 1, 1) := by kernel_rfl
  obtain ⟨i0, hi, hz0, hz1, hz2⟩ := info_parts X
  have hss : s.data.toList.length = s.size := by rw [Array.length_toList]; rfl
  go_enter Tryd.func30, Tryd.ntmps30
  go_wp2_with fail
  refine HC.out.mono ?_
  rintro e w1 ⟨rfl, ⟨A, c, h2, h3⟩, b1, hsz⟩
  have c0 : w1.cell? ⟨b, 0, none⟩ = some (.pointer (some ⟨b, 0, none⟩)) := by simp [World.cell?, h2]
  have c1 : w1.cell? ⟨b, 1, none⟩ = some (.slice A l.length c) := by simp [World.cell?, h2]
  have hl1 : b < w1.heap.size := by omega
  go_wp2_with (at_builtin; refine Lib.wpList_append_own_string _ rfl _ _ 68 9 rfl (b + 1) 5 i0 Tryd.underlying68 Tryd.underlying9 hi hz0 hz1 hz2 _ _ _ rfl h3 s rfl (by unfold maxLen; omega) (by omega) (by omega) ?_; intro v2 w2 o2 g2 _; obtain ⟨A2, c2, rfl⟩ := own_slice o2; have bb : Below (b + 1) w1 w2 := (Below.refl _ _).grown g2 (by omega) (fun k hk => (h3.lt k hk).1); have hb2 : w2.heap[b]? = some (.cells #[.pointer (some ⟨b, 0, none⟩), .slice A l.length c] 70 (0, 0)) := (by rw [bb.block b (Nat.lt_succ_self b)]; exact h2); have d0 : w2.cell? ⟨b, 0, none⟩ = some (.pointer (some ⟨b, 0, none⟩)) := (by simp [World.cell?, hb2]); have d1 : w2.cell? ⟨b, 1, none⟩ = some (.slice A l.length c) := (by simp [World.cell?, hb2]); have df : w2.frozen? ⟨b, 1, none⟩ = false := (by simp [World.frozen?, hb2]); have hl2 : b < w2.heap.size := World.block_lt_of_cell? _ _ d0)
  go_ret2
  refine ⟨rfl, ⟨_, A2, c2, .inr rfl, ?_, ?_⟩, (b1.trans (bb.mono (Nat.le_succ b))).setCell (Nat.le_refl b) _⟩
  · simp only [World.setCell, Array.getElem?_modify]
    rw [hb2, List.length_append, hss]
    simp
  · rw [List.length_append, hss]
    refine ownsRow_setCell_below ?_ (Nat.lt_succ_self b) _
    have e1 : Lib.byteCells (l ++ s.data.toList) = Lib.byteCells l ++ Lib.strCells s := by unfold Lib.byteCells Lib.strCells; rw [List.map_append]
    rw [e1]
    exact o2
theorem builderString_walk (b : Nat) (l : List UInt8) (w : World) (h : Bld w b l) : Calls Tryd.prog 31 #[.pointer (some ⟨b, 0, none⟩)] w fun e w' => e = .returned (.string ⟨l.toArray⟩) ∧ Below b w w' :=
  Tryd.Builder_String_any b b l w h.lib (Nat.le_of_lt h.lt)
theorem bld_new (w : World) : Bld (w.alloc (.cells #[.pointer none, .slice none 0 0] 70)) w.heap.size [] := ⟨_, none, 0, .inl rfl, heap_alloc_new w _, World.ownsRow_nil _ _ _ _⟩
end Go.Proofs.YtfdaheenigmkmaaDoor
