/- The document's hopsOf, HopsFrom; the law on graph.Hops. -/
import Derived.Test.YtifpngjipkmdcaaEHop
namespace Go.Proofs.Ytifpngjipkmdcaa
open Go.ChangeShapes Go.WideShapes Go.ChangeAt Go.RowKit
set_option linter.unusedVariables false
set_option linter.unusedSimpArgs false
set_option maxRecDepth 100000 in
set_option maxHeartbeats 4000000 in
theorem hopsOf_walk (l : List Edge) (v : Int) (w : World) (A : Option Addr) (c : Nat) (hr : Rd w w.heap.size A 3 l.length (l.flatMap Edge.cells)) (hl : l.length * 24 ≤ 140737488355328) :
    Calls Try.prog 67 #[.slice A l.length c, .int .i64 v] w fun e w' => ∃ A' c', e = .returned (.slice A' (hopsS l v).length c') ∧ w'.ownsRow w.heap.size 78 2 (.slice A' (hopsS l v).length c') (hopsS l v).length ((hopsS l v).flatMap Hop.cells) ∧ Below w.heap.size w w' := by
  have HSL := hid (srtOf_len (lt := elt) l)
  have HIO := hid (inOrder_walk l w A c hr hl)
  go_enter Try.func67, Try.ntmps67
  go_wp2_with fail
  refine HIO.out.mono ?_
  rintro e w1 ⟨A1, c1, rfl, o1, b1⟩
  have hr1 := rd_own o1
  have HDEF : Hid (hopsS l v = hopsT (srtOf elt l) v l.length) := hid rfl
  generalize srtOf elt l = L at *
  have hLl : L.length = l.length := HSL.out
  have HX : Hid (Rd w1 w1.heap.size A1 3 L.length (L.flatMap Edge.cells)) := hid (by rw [hLl]; exact hr1)
  have HE : Hid (hopsS l v = hopsT L v L.length) := hid (by rw [HDEF.out, hLl])
  rw [← hLl]
  have hnl : L.length * 24 ≤ 140737488355328 := by omega
  clear hLl hr1 o1 HDEF HSL
  go_wp2_with fail
  go_loopw [6, 7] (fun o i wr => HsRel L v w1 o i wr) (fun _ i _ => L.length - (intOf i).toNat)
  case atStart => exact ⟨0, 0, 0, none, by omega, rfl, rfl, hid rfl, by omega, World.ownsRow_nil _ _ _ _, Below.refl _ _⟩
  case round =>
    obtain ⟨k, m, c', A', hk, rfl, rfl, HM, hmk, hown, hbel⟩ := hrel
    have hsz := hbel.size
    by_cases hlt : k < L.length
    · obtain ⟨e, he⟩ : ∃ e, L[k]? = some e := ⟨_, List.getElem?_eq_getElem hlt⟩
      obtain ⟨b, off, rfl, hb, c0, c1, c2⟩ := edge_cells (HX.out.below hbel) rfl he
      have hkz : (k : Int) < (L.length : Int) := by omega
      have hn1 : (m + 1) * 16 ≤ 140737488355328 := by omega
      have hbr : b < wr.heap.size := by omega
      have hbn : b ≠ wr.heap.size := by omega
      by_cases hv : e.src = v
      · have HT := hid (hopsT_keep he hv)
        have hSZ : ∀ o : Obj, w1.heap.size ≤ ((wr.alloc o).drew).heap.size := fun o => by simp; omega
        have HKC : Hid (∀ (o : Obj) (w4 : World), Below w1.heap.size (wr.alloc o).drew w4 → Below w1.heap.size wr w4) := hid fun o w4 h => (((Below.refl w1.heap.size wr).alloc hsz o).drew).trans h
        have HO := hid (fun o => World.ownsRow.drew (hown.alloc o))
        have hK : ∀ (o : Obj) (w4 : World), (wr.alloc o).drew.grownBy w4 (Value.slice A' m c').ownBlock → w4.cell? ⟨b, off + k * 3 + 1, none⟩ = some (.int .i64 e.dst) ∧ w4.cell? ⟨b, off + k * 3 + 2, none⟩ = some (.int .i64 e.wt) := fun o w4 h => by
          have hne : ∀ x, (Value.slice A' m c').ownBlock = some x → w1.heap.size ≤ x := fun x hx => (hown.lt x hx).1
          have hc : ∀ (p : Addr) (u : Value), p.block < w1.heap.size → wr.cell? p = some u → w4.cell? p = some u := fun p u hp hu => by
            refine h.cell ?_ (fun e2 => ?_)
            · exact keepb (bA (Below.refl wr.heap.size wr) o) hu
            · have := hne _ e2.symm; omega
          exact ⟨hc _ _ hb c1, hc _ _ hb c2⟩
        have HK := hid hK
        subst hv
        clear he hown hK
        go_wp2_with fail
        go_region_held_law (fun w' => w'.cell? ⟨b, off + k * 3 + 1, none⟩ = some (.int .i64 e.dst) ∧ w'.cell? ⟨b, off + k * 3 + 2, none⟩ = some (.int .i64 e.wt)) (first | exact HK.out _ _ hg4 | go_keep) ((refine step_app1 rfl rfl el_hops rfl (HO.out _) rfl (rd_newAt _ _ _ 2 1 _ (by simp) rfl).drew (two_oneHp _ _) hn1 (hSZ _) ?_; intro A2 c2' w4 hown4 hb4 hg4))
        all_goals
          go_wp2_with fail
          go_roundw
          case rel => exact ⟨k + 1, m + 1, c2', A2, by omega, by go_num, rfl, hid (by rw [HT.out, List.length_append, ← HM.out]; rfl), by omega, by rw [HT.out, List.flatMap_append]; exact hown4, hbel.trans (HKC.out _ _ hb4)⟩
          case measure => simp [intOf]; omega
      · have HT := hid (hopsT_skip he hv)
        have hvb : (e.src == v) = false := by simpa using hv
        clear he hv
        go_wp2_with fail
        go_roundw
        case rel => exact ⟨k + 1, m, c', A', by omega, by go_num, rfl, hid (by rw [HT.out]; exact HM.out), by omega, by rw [HT.out]; exact hown, hbel⟩
        case measure => simp [intOf]; omega
    · obtain rfl : k = L.length := by omega
      have HO := hid hown
      have HMM := hid HM.out
      clear hown
      go_wp2_with fail
      go_ret
      rw [HE.out]
      exact ⟨A', c', by rw [← HMM.out]; rfl, by rw [← HMM.out]; exact own_more HO.out b1.size, bT b1 hbel⟩
end Go.Proofs.Ytifpngjipkmdcaa
