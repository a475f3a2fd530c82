/- The document's hopBytes. -/
import Derived.Test.YtifpngjipkmdcaaStoP
import Derived.Test.YtifpngjipkmdcaaGapsRef
namespace Go.Proofs.Ytifpngjipkmdcaa
open Go.ChangeShapes Go.WideShapes Go.ChangeAt Go.RowKit
set_option linter.unusedVariables false
set_option linter.unusedSimpArgs false
def HbR (n : Nat) (hs : List Hop) (w : World) (s u iv : Value) (wr : World) : Prop :=
  ∃ (k c1 c2 m : Nat) (A1 A2 : Option Addr), k ≤ n ∧ iv = .int .i64 k ∧ s = .slice A1 k c1 ∧ u = .slice A2 m c2 ∧ Hid (m = (packs ((hs.take k).map (·.wt))).length) ∧ wr.ownsRow w.heap.size 3 1 (.slice A1 k c1) k (((hs.take k).map (·.to)).flatMap i64c) ∧
    wr.ownsRow w.heap.size 5 1 (.slice A2 m c2) m ((packs ((hs.take k).map (·.wt))).flatMap u8c) ∧ (∀ y, (Value.slice A1 k c1).ownBlock = some y → (Value.slice A2 m c2).ownBlock ≠ some y) ∧ Below w.heap.size w wr
set_option maxRecDepth 100000 in
set_option maxHeartbeats 1000000 in
theorem hopBytes_walk (hs : List Hop) (w : World) (B : Option Addr) (d n : Nat) (hn : hs.length = n) (hr : Rd w w.heap.size B 2 n (hs.flatMap Hop.cells)) (hw : ∀ x ∈ hs, 0 ≤ x.wt ∧ x.wt ≤ 9223372036854775807) (hl : n ≤ 100000) :
    Calls Try.prog 68 #[.slice B n d] w (RetS 5 1 w (hopB hs).length ((hopB hs).flatMap u8c)) := by
  have HN := hid hn
  have HW := hid hw
  have HPK := hid (show ∀ x : Int, 0 ≤ x → x ≤ 18446744073709551615 → ∀ V, Calls Try.prog 66 #[.int .u64 x] V (RetS 5 1 V (pack x).length ((pack x).flatMap u8c)) from fun x h0 h1 V => packed_walk 9 x h0 h1 (by omega) (by omega) V)
  clear hw
  go_enter Try.func68, Try.ntmps68
  go_wp2_with fail
  go_loopw [3, 4, 5] (fun s u iv wr => HbR n hs w s u iv wr) (fun _ _ iv _ => n - (intOf iv).toNat)
  case atStart => exact ⟨0, 0, 0, 0, none, none, Nat.zero_le _, rfl, rfl, rfl, hid (by simp [packs]), World.ownsRow_nil _ _ _ _, by simpa [packs] using World.ownsRow_nil _ _ _ _, fun y hy => (by cases hy), Below.refl _ _⟩
  case round =>
    obtain ⟨k, c1, c2, m, A1, A2, hk, rfl, rfl, rfl, HM, hown, hu, hd, hbel⟩ := hrel
    have hsz := hbel.size
    by_cases hlt : k < n
    · obtain ⟨x, hx⟩ : ∃ x, hs[k]? = some x := ⟨_, List.getElem?_eq_getElem (by omega)⟩
      obtain ⟨bb, off, rfl, hbb, q0w, q1w⟩ := hcells hr HN.out hx
      have q0 := keepb hbel q0w
      obtain ⟨hx0, hx9⟩ := HW.out x (List.mem_of_getElem? hx)
      have hkz : (k : Int) < (n : Int) := by omega
      have hkb : (k + 1) * 8 ≤ 140737488355328 := by omega
      have HT := hid (show (hs.take (k + 1)).map (·.to) = (hs.take k).map (·.to) ++ [x.to] by rw [List.take_add_one, hx]; simp)
      have HU := hid (show packs ((hs.take (k + 1)).map (·.wt)) = packs ((hs.take k).map (·.wt)) ++ pack x.wt by rw [List.take_add_one, hx]; simp [packs])
      have hpl := packs_len ((hs.take k).map (·.wt))
      rw [List.length_map, List.length_take, ← HM.out] at hpl
      have hxl := (pack_len x.wt).1
      have hwx : IntKind.u64.wrap x.wt = x.wt := IntWalk.u64_in _ (by omega)
      have hbz : bb < wr.heap.size := by omega
      have HOW := hid hown
      have HU0 := hid hu
      have HD0 := hid hd
      have HBL := hid hbel
      clear hx hown hu hd hbel
      go_wp2_with (at_builtin; refine wp_app3 _ rfl rfl el_ints rfl (HOW.out.alloc _) rfl (rd_newAt _ _ _ 1 1 _ (by simp) rfl) (i64_oneS _) hkb (by simp; omega) ?_; intro A4 c4 w4 hown4 hb4 hg4 hh4; have b4 := (HBL.out.alloc hsz _).trans hb4; have q1 := keepb b4 q1w; clear q0)
      have hz4 := b4.size
      have hz4' := hb4.size
      have HU4 := hid (own_grown (HU0.out.alloc (.cells #[.int .i64 x.to] 3)) hg4 (fun y hy e => HD0.out y e hy))
      have HO4 := hid hown4
      have HD4 := hid (show ∀ y, (Value.slice A4 (k + 1) c4).ownBlock = some y → (Value.slice A2 m c2).ownBlock ≠ some y from fun y hy e => by
        rcases hh4 with h | h
        · rw [h] at hy; exact HD0.out y hy e
        · rw [h] at hy; injection hy with hy; have := (HU0.out.lt y e).2; simp at hy; omega)
      have HB4 := hid b4
      have HP := hid (HPK.out x.wt hx0 (by omega) w4)
      have hkc : (m + (pack x.wt).length) * 1 ≤ 140737488355328 := by omega
      clear hown4 hb4 hg4 hh4 b4
      go_wp2_with fail
      refine HP.out.mono ?_
      rintro e w5 ⟨A5, c5, rfl, o5, b5⟩
      have HU5 := hid (own_belowB HU4.out b5)
      have HO5 := hid (own_belowB HO4.out b5)
      have HP5 := hid o5
      have HB5 := hid (HB4.out.trans (b5.mono hz4))
      have HL4 := hid (fun y (hy : (Value.slice A4 (k + 1) c4).ownBlock = some y) => Nat.lt_of_lt_of_le (HO4.out.lt y hy).2 b5.size)
      have hz5 := HB5.out.size
      clear o5 b5 HP
      go_wp2_with (at_builtin; refine wp_app3 _ rfl rfl el_bytes rfl HU5.out rfl (rd_own HP5.out) (one_u8 (pack x.wt)) hkc hz5 ?_; intro A6 c6 w6 hown6 hb6 hg6 hh6)
      have hO6 := own_grown HO5.out hg6 (fun y hy e => HD4.out y hy e)
      have hD6 : ∀ y, (Value.slice A4 (k + 1) c4).ownBlock = some y → (Value.slice A6 (m + (pack x.wt).length) c6).ownBlock ≠ some y := fun y hy e => by
        rcases hh6 with h | h
        · rw [h] at e; exact HD4.out y hy e
        · rw [h] at e; injection e with e; have := HL4.out y hy; omega
      have HO6 := hid hO6
      have HU6 := hid hown6
      have HD6 := hid hD6
      have HB6 := hid (HB5.out.trans hb6)
      clear hO6 hown6 hD6 hb6 hg6 hh6
      go_wp2_with fail
      go_roundw
      case rel => exact ⟨k + 1, c4, c6, m + (pack x.wt).length, A4, A6, by omega, by go_num, rfl, rfl, hid (by rw [HU.out, List.length_append, ← HM.out]), by rw [HT.out, List.flatMap_append]; exact HO6.out, by rw [HU.out, List.flatMap_append]; exact HU6.out, HD6.out, HB6.out⟩
      case measure => (simp [intOf]) <;> omega
    · obtain rfl : k = n := by omega
      have hkz : ¬ (k : Int) < (k : Int) := by omega
      have HT := hid (show hs.take k = hs from by rw [← HN.out]; exact List.take_length)
      rw [HT.out] at hown hu HM
      have HG := hid (gapsOf_walk (hs.map (·.to)) wr A1 k c1 (rd_own hown) (by rw [List.length_map]; exact HN.out) (by omega))
      have hgl := gapsV_lenS (hs.map (·.to))
      have HPV := hid (show hopB hs = (gapsV (hs.map (·.to))).1 ++ packs (hs.map (·.wt)) from rfl)
      generalize gapsV (hs.map (·.to)) = gv at HG hgl HPV
      obtain ⟨gb, ge⟩ := gv
      dsimp only at HG hgl HPV
      have hpl := packs_len (hs.map (·.wt))
      rw [List.length_map, ← HM.out, HN.out] at hpl
      have HBL := hid hbel
      have HU0 := hid hu
      clear hown hu hd hbel
      go_wp2_with fail
      refine HG.out.mono ?_
      rintro e w2 ⟨A7, c7, rfl, o7, b7⟩
      have HO7 := hid o7
      have HU7 := hid (own_belowB HU0.out b7)
      have HB7 := hid (HBL.out.trans (b7.mono hsz))
      have hz7 := b7.size
      have hkc : (gb.length + m) * 1 ≤ 140737488355328 := by omega
      clear o7 b7
      go_wp2_with (at_builtin; refine wp_app1 _ rfl rfl el_bytes rfl HO7.out rfl (rd_own HU7.out) (one_u8 _) hkc hz7 ?_; intro A8 c8 w8 o8 b8 g8)
      go_ret
      have hlen : (hopB hs).length = gb.length + m := by rw [HPV.out, List.length_append, HM.out]
      refine ⟨A8, c8, by rw [hlen]; rfl, ?_, HB7.out.trans (b8.mono hsz)⟩
      rw [hlen, HPV.out, List.flatMap_append]
      exact own_more o8 hsz
end Go.Proofs.Ytifpngjipkmdcaa
