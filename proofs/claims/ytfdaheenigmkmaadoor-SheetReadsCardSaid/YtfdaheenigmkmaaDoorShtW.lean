/- A builder written by a closure; sheet.Show's lines. -/
import Derived.Test.YtfdaheenigmkmaaDoorShoW
namespace Go.Proofs.YtfdaheenigmkmaaDoor
open Go.RowKit Go.ChangeShapes Go.WideShapes Go.ChangeAt
set_option linter.unusedVariables false
set_option linter.unusedSimpArgs false
/-- Blocks of other elements than bytes are as they were, but b. -/
def KeepO (b : Nat) (w w' : World) : Prop := ∀ (q : Nat) (cs : Array Value) (e : TypeId) (m : Nat × Nat), e ≠ 5 → q ≠ b → w.heap[q]? = some (.cells cs e m) → w'.heap[q]? = some (.cells cs e m)
theorem KeepO.refl {b : Nat} {w : World} : KeepO b w w := fun _ _ _ _ _ _ h => h
theorem KeepO.trans {b : Nat} {w w' w'' : World} (h : KeepO b w w') (h2 : KeepO b w' w'') : KeepO b w w'' := fun q cs e m he hq hh => h2 q cs e m he hq (h q cs e m he hq hh)
theorem KeepO.below {b : Nat} {w w' : World} (h : Below w.heap.size w w') : KeepO b w w' := fun q cs e m he hq hh => by rw [h.block q (Array.getElem?_eq_some_iff.1 hh).1]; exact hh
theorem KeepO.set {b : Nat} {w w' : World} (h : KeepO b w w') (o : Nat) (v : Value) : KeepO b w (w'.setCell ⟨b, o, none⟩ v) := fun q cs e m he hq hh => by
  have h2 := h q cs e m he hq hh
  simp only [World.setCell, Array.getElem?_modify]
  rw [if_neg (fun e => hq e.symm)]
  exact h2
theorem KeepO.grown {b base n c : Nat} {w w' : World} {A : Option Addr} {xs : List Value} (ho : w.ownsRow base 5 1 (.slice A n c) n xs) (hg : w.grownBy w' (Value.slice A n c).ownBlock) : KeepO b w w' := fun q cs e m he hq hh => by
  have hl := (Array.getElem?_eq_some_iff.1 hh).1
  rw [hg.block q hl (fun h9 => ?_)]
  · exact hh
  · rcases ho.2 with ⟨h0, _⟩ | ⟨g, cap, cur, hv, hb, hgg, r⟩
    · rw [h0] at h9; cases h9
    · rw [hv] at h9
      have h10 : some g = some q := h9.symm
      injection h10 with h10
      subst h10
      rw [hh] at hgg
      injection hgg with hgg
      injection hgg with h1 h2 h3
      exact he h2
theorem copyCheck_keep (b : Nat) (l : List UInt8) (w : World) (h : Bld w b l) :
    Calls Tryd.prog 40 #[.pointer (some ⟨b, 0, none⟩)] w fun e w' => e = .returned (.tuple #[]) ∧ (∃ A c, w'.heap[b]? = some (.cells #[.pointer (some ⟨b, 0, none⟩), .slice A l.length c] 70 (0, 0)) ∧ w'.ownsRow (b + 1) 5 1 (.slice A l.length c) l.length (Lib.byteCells l)) ∧ Below b w w' ∧ w'.heap.size = w.heap.size ∧ KeepO b w w' := by
  have hl := h.lt
  obtain ⟨p, A, c, h1, h2, h3⟩ := h
  rcases h1 with rfl | rfl
  · refine (copyCheck_fresh b _ w h2).mono ?_
    rintro e w' ⟨rfl, rfl⟩
    refine ⟨rfl, ⟨A, c, ?_, ownsRow_setCell_below h3 (Nat.lt_succ_self b) _⟩, (Below.refl _ _).setCell (Nat.le_refl b) _, by simp, KeepO.refl.set 0 _⟩
    simp only [World.setCell, Array.getElem?_modify]
    rw [h2]
    simp
  · refine (copyCheck_used b w (by simp [World.cell?, h2])).mono ?_
    rintro e w' ⟨rfl, rfl⟩
    exact ⟨rfl, ⟨A, c, h2, h3⟩, Below.refl _ _, rfl, KeepO.refl⟩
set_option maxRecDepth 100000 in
set_option maxHeartbeats 2000000 in
theorem writeStringK (b : Nat) (l : List UInt8) (s : ByteArray) (w : World) (h : Bld w b l) (hlen : l.length + s.size ≤ 140737488355328) :
    Calls Tryd.prog 30 #[.pointer (some ⟨b, 0, none⟩), .string s] w fun e w' => e = .returned (.tuple #[.int .i64 s.size, .nilIface]) ∧ Bld w' b (l ++ s.data.toList) ∧ Below b w w' ∧ KeepO b w w' := by
  have HC := hid (copyCheck_keep b l w h)
  have hl := h.lt
  have X : (Tryd.prog.info? 5).map (fun i => (i.zero, i.size, i.bytes)) = some (some (.int .u8 0), 1, 1) := by kernel_rfl
  obtain ⟨i0, hi, hz0, hz1, hz2⟩ := info_parts X
  have hss : s.data.toList.length = s.size := by rw [Array.length_toList]; rfl
  go_enter Tryd.func30, Tryd.ntmps30
  go_wp2_with fail
  refine HC.out.mono ?_
  rintro e w1 ⟨rfl, ⟨A, c, h2, h3⟩, b1, hsz, k1⟩
  have c0 : w1.cell? ⟨b, 0, none⟩ = some (.pointer (some ⟨b, 0, none⟩)) := by simp [World.cell?, h2]
  have c1 : w1.cell? ⟨b, 1, none⟩ = some (.slice A l.length c) := by simp [World.cell?, h2]
  have hl1 : b < w1.heap.size := by omega
  have HK1 := hid k1
  clear k1
  go_wp2_with (at_builtin; refine Lib.wpList_append_own_string _ rfl _ _ 68 9 rfl (b + 1) 5 i0 Tryd.underlying68 Tryd.underlying9 hi hz0 hz1 hz2 _ _ _ rfl h3 s rfl (by unfold maxLen; omega) (by omega) (by omega) ?_; intro v2 w2 o2 g2 _; obtain ⟨A2, c2, rfl⟩ := own_slice o2; have bb : Below (b + 1) w1 w2 := (Below.refl _ _).grown g2 (by omega) (fun k hk => (h3.lt k hk).1); have hb2 : w2.heap[b]? = some (.cells #[.pointer (some ⟨b, 0, none⟩), .slice A l.length c] 70 (0, 0)) := (by rw [bb.block b (Nat.lt_succ_self b)]; exact h2); have d0 : w2.cell? ⟨b, 0, none⟩ = some (.pointer (some ⟨b, 0, none⟩)) := (by simp [World.cell?, hb2]); have d1 : w2.cell? ⟨b, 1, none⟩ = some (.slice A l.length c) := (by simp [World.cell?, hb2]); have df : w2.frozen? ⟨b, 1, none⟩ = false := (by simp [World.frozen?, hb2]); have hl2 : b < w2.heap.size := World.block_lt_of_cell? _ _ d0)
  go_ret2
  refine ⟨rfl, ⟨_, A2, c2, .inr rfl, ?_, ?_⟩, (b1.trans (bb.mono (Nat.le_succ b))).setCell (Nat.le_refl b) _, (HK1.out.trans (KeepO.grown h3 g2)).set 1 _⟩
  · simp only [World.setCell, Array.getElem?_modify]
    rw [hb2, List.length_append, hss]
    simp
  · rw [List.length_append, hss]
    refine ownsRow_setCell_below ?_ (Nat.lt_succ_self b) _
    have e1 : Lib.byteCells (l ++ s.data.toList) = Lib.byteCells l ++ Lib.strCells s := by unfold Lib.byteCells Lib.strCells; rw [List.map_append]
    rw [e1]
    exact o2
set_option maxRecDepth 100000 in
set_option maxHeartbeats 2000000 in
theorem writeByteK (b : Nat) (l : List UInt8) (u : UInt8) (w : World) (h : Bld w b l) (hlen : l.length + 1 ≤ 140737488355328) :
    Calls Tryd.prog 29 #[.pointer (some ⟨b, 0, none⟩), .int .u8 ((u.toNat : Nat) : Int)] w fun e w' => e = .returned .nilIface ∧ Bld w' b (l ++ [u]) ∧ Below b w w' ∧ KeepO b w w' := by
  have HC := hid (copyCheck_keep b l w h)
  have hl := h.lt
  go_enter Tryd.func29, Tryd.ntmps29
  go_wp2_with fail
  refine HC.out.mono ?_
  rintro e w1 ⟨rfl, ⟨A, c, h2, h3⟩, b1, hsz, k1⟩
  have c0 : w1.cell? ⟨b, 0, none⟩ = some (.pointer (some ⟨b, 0, none⟩)) := by simp [World.cell?, h2]
  have c1 : w1.cell? ⟨b, 1, none⟩ = some (.slice A l.length c) := by simp [World.cell?, h2]
  have hl1 : b < w1.heap.size := by omega
  have HK1 := hid k1
  have hn1 : (l.length + 1) * 1 ≤ 140737488355328 := by omega
  have hb1 : b + 1 ≤ w1.heap.size := by omega
  clear k1 hsz
  go_wp2_with (at_builtin; refine wp_app3 _ rfl rfl el_bytes rfl (h3.alloc _) rfl (rd_newAt _ _ _ 1 1 _ (by simp) rfl) (one_cellV _ rfl) hn1 (Nat.le_trans hb1 (by simp)) ?_; intro A2 c2 w2 o2 bb g2 hlie; clear hlie; have HKG := hid (show KeepO b w1 w2 from KeepO.trans (KeepO.below ((Below.refl _ _).alloc (Nat.le_refl _) _)) (KeepO.grown (h3.alloc _) g2)); have bb2 : Below (b + 1) w1 w2 := ((Below.refl _ _).alloc (by omega) _).trans bb; have hb2 : w2.heap[b]? = some (.cells #[.pointer (some ⟨b, 0, none⟩), .slice A l.length c] 70 (0, 0)) := (by rw [bb2.block b (Nat.lt_succ_self b)]; exact h2); have d0 : w2.cell? ⟨b, 0, none⟩ = some (.pointer (some ⟨b, 0, none⟩)) := (by simp [World.cell?, hb2]); have d1 : w2.cell? ⟨b, 1, none⟩ = some (.slice A l.length c) := (by simp [World.cell?, hb2]); have df : w2.frozen? ⟨b, 1, none⟩ = false := (by simp [World.frozen?, hb2]); have hl2 : b < w2.heap.size := World.block_lt_of_cell? _ _ d0)
  go_ret
  refine ⟨rfl, ⟨_, A2, c2, .inr rfl, ?_, ?_⟩, (b1.trans (bb2.mono (Nat.le_succ b))).setCell (Nat.le_refl b) _, (HK1.out.trans HKG.out).set 1 _⟩
  · simp only [World.setCell, Array.getElem?_modify]
    rw [hb2, List.length_append]
    simp
  · rw [List.length_append]
    refine ownsRow_setCell_below ?_ (Nat.lt_succ_self b) _
    have e1 : Lib.byteCells (l ++ [u]) = Lib.byteCells l ++ [Value.int .u8 ((u.toNat : Nat) : Int)] := by unfold Lib.byteCells; rw [List.map_append]; rfl
    rw [e1]
    exact o2
end Go.Proofs.YtfdaheenigmkmaaDoor
