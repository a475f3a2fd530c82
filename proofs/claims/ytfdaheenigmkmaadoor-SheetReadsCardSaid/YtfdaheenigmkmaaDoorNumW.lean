/- sheet.numbers; the document's number. -/
import Derived.Test.YtfdaheenigmkmaaDoorMovW
import Derived.Test.YtfdaheenigmkmaaDoorBigW
import Derived.Test.YtfdaheenigmkmaaDoorRdG
namespace Go.Proofs.YtfdaheenigmkmaaDoor
open Go.RowKit Go.ChangeShapes Go.WideShapes Go.ChangeAt Go.Shelf
set_option linter.unusedVariables false
set_option linter.unusedSimpArgs false
theorem numV_ok {l : List UInt8} (h : atoiOk l = true) : numV l = atoiV l := by
  unfold atoiOk at h
  unfold numV atoiV
  cases h2 : Lib.atoiAll l with
  | ok v => rfl
  | _ => rw [h2] at h; cases h
theorem numV_no {l : List UInt8} (h : atoiOk l = false) : numV l = -1 := by
  unfold atoiOk at h
  unfold numV
  cases h2 : Lib.atoiAll l with
  | ok v => rw [h2] at h; cases h
  | _ => rfl
theorem one_in (x : Int) : ∀ u ∈ [Value.int .i64 x], u.oneCell' = true := fun u h => by rw [List.mem_singleton.1 h]; rfl
theorem keepbL {B : Nat} {w w' : World} {b o : Nat} {v : Value} (h : Below B w w') (hb : b < B) (hc : w.cell? ⟨b, o, none⟩ = some v) : w'.cell? ⟨b, o, none⟩ = some v := (h.cell (p := ⟨b, o, none⟩) hb).trans hc
def NuR (w : World) (ws : List ByteArray) (g : Nat) (v3 v12 : Value) (wr : World) : Prop :=
  ∃ (k : Nat) (A : Option Addr) (c : Nat), k ≤ ws.length ∧ v12 = .int .i64 (k : Nat) ∧ v3 = .slice A k c ∧ Hid (wr.ownsRow (w.heap.size + 1) 3 1 (.slice A k c) k (((ws.take k).map fun x => numV x.data.toList).flatMap i64c)) ∧
    Hid (∀ (i : Nat) (x : ByteArray), ws[i]? = some x → wr.cell? ⟨w.heap.size, i, none⟩ = some (.string x)) ∧ Hid (Below w.heap.size w wr) ∧ w.heap.size + 1 ≤ wr.heap.size
set_option maxRecDepth 100000 in
set_option maxHeartbeats 8000000 in
theorem numbers_walk (s : ByteArray) (w : World) (hs : s.size ≤ 5000000) (he : ErrsAt w) : Calls Tryd.prog 15 #[.string s] w fun e w' => (∃ A c, e = .returned (.slice A (numsL s.data.toList).length c) ∧ Rd w' w'.heap.size A 1 (numsL s.data.toList).length ((numsL s.data.toList).flatMap i64c)) ∧ Below w.heap.size w w' := by
  obtain ⟨s', hs'⟩ : ∃ s' : ByteArray, s' = ⟨(trimL s.data.toList).toArray⟩ := ⟨_, rfl⟩
  have HTR := hid (fun V => show Calls Tryd.prog 22 #[.string s, .string ⟨#[10]⟩] V fun e w' => e = .returned (.string s') ∧ V = w' from by rw [hs']; exact (Tryd.strings_TrimSuffix s ⟨#[10]⟩ V (by omega)).mono fun e w' h => ⟨h.1, h.2.symm⟩)
  have hsz' : s'.size ≤ 5000000 := by
    rw [hs']
    have h1 : (trimL s.data.toList).length ≤ s.data.toList.length := by unfold trimL Lib.trimSuffix; split <;> simp
    have h2 : s.data.toList.length = s.size := by rw [Array.length_toList]; rfl
    have h3 : (⟨(trimL s.data.toList).toArray⟩ : ByteArray).size = (trimL s.data.toList).length := by show (trimL s.data.toList).toArray.size = _; simp
    omega
  have HSP := hid (fun V => show Calls Tryd.prog 21 #[.string s', .string ⟨#[32]⟩] V _ from split_calls s' V (by omega))
  have HNS := hid (show numsL s.data.toList = (splitW s').map fun x => numV x.data.toList from by
    unfold numsL
    rw [show trimL s.data.toList = s'.data.toList by rw [hs'], ← splitW_data, List.map_map]; rfl)
  have HE := hid he
  have hlen : (splitW s').length ≤ 5000001 := by rw [splitW_len]; have := Lib.countB_le spB (by decide) s'.size s' (Nat.le_refl _); omega
  have HD8 := hid (fun x hx => Nat.le_trans (splitW_sz s' x hx) hsz')
  clear he hs'
  obtain ⟨W, hW⟩ : ∃ W, W = w.alloc (.cells ((splitW s').map Value.string).toArray 9) := ⟨_, rfl⟩
  obtain ⟨ws, hws⟩ : ∃ ws, ws = splitW s' := ⟨_, rfl⟩
  have HBW := hid (show Below w.heap.size w W by rw [hW]; exact bA (Below.refl _ _) _)
  have hWs : W.heap.size = w.heap.size + 1 := by rw [hW]; simp
  have HCL := hid (show ∀ (i : Nat) (x : ByteArray), ws[i]? = some x → W.cell? ⟨w.heap.size, i, none⟩ = some (.string x) from fun i x hx => by
    rw [hW, hws.symm, Go.Joins.cell_of_block (heap_alloc_new _ _)]
    rw [List.getElem?_toArray, List.getElem?_map, hx]; rfl)
  go_enter Tryd.func15, Tryd.ntmps15
  go_upto_region 3 with fail
  refine (HTR.out _).mono ?_
  rintro e w1 ⟨rfl, rfl⟩
  go_upto_region 3 with fail
  refine (HSP.out _).mono ?_
  rintro e w1 ⟨rfl, hw1⟩
  rw [hw1, ← hW]
  rw [← hws] at hlen HNS HD8 ⊢
  clear hw1 hW hws HSP HTR
  go_upto_region 3 with fail
  go_loopw [3, 12] (fun v3 v12 wr => NuR w ws 0 v3 v12 wr) (fun _ v12 _ => ws.length - (intOf v12).toNat)
  case atStart => exact ⟨0, none, 0, Nat.zero_le _, rfl, rfl, hid (World.ownsRow_nil _ _ _ _), HCL, HBW, by omega⟩
  case round =>
    clear HCL HBW hWs
    obtain ⟨k, A, c, hk, rfl, rfl, HOW, HC, HBL, hsz⟩ := hrel
    by_cases hlt : k < ws.length
    · have hlz : (k : Int) < (ws.length : Int) := by omega
      obtain ⟨x, hx⟩ : ∃ x, ws[k]? = some x := ⟨_, List.getElem?_eq_getElem hlt⟩
      have c0 := HC.out k x hx
      have HAT := hid (atoi_calls x wr (by have := HD8.out x (List.mem_of_getElem? hx); omega) (HE.out.below HBL.out))
      have HTK := hid (show (ws.take (k + 1)).map (fun x => numV x.data.toList) = (ws.take k).map (fun x => numV x.data.toList) ++ [numV x.data.toList] by rw [take_nextV hx, List.map_append]; rfl)
      clear hx
      go_wp2_with fail
      refine HAT.out.mono ?_
      rintro e w1 ⟨⟨ev, rfl, hev⟩, b1⟩
      have HO1 := hid (own_below HOW.out b1 (Nat.le_refl _))
      have HC1 := hid (fun (i : Nat) (y : ByteArray) (hy : ws[i]? = some y) => keepb b1 (HC.out i y hy))
      have HB1 := hid (bT HBL.out b1)
      have hs1 := b1.size
      have hSZ : (k + 1) * 8 ≤ 140737488355328 := by omega
      clear b1 c0
      rcases hev with ⟨hok, rfl⟩ | ⟨hok, t, p, rfl⟩
      · have HNV := hid (numV_ok hok)
        clear hok
        go_wp2_with (at_builtin; refine wp_app3 _ rfl rfl el_ints rfl (own_below HO1.out (bA (Below.refl _ _) _) (Nat.le_refl _)) rfl (rd_new _ _ _ 1 1 rfl) (one_in _) hSZ (by rw [World.size_alloc]; omega) ?_; intro A5 c5 w5 o5 b5 g5 h5)
        have HO5 := hid (show w5.ownsRow (w.heap.size + 1) 3 1 (.slice A5 (k + 1) c5) (k + 1) (((ws.take (k + 1)).map fun x => numV x.data.toList).flatMap i64c) by rw [HTK.out, List.flatMap_append, List.flatMap_singleton, HNV.out]; exact o5)
        have hA1 := bA (Below.refl w1.heap.size w1) (.cells #[.int .i64 (atoiV x.data.toList)] 3)
        have HC5 := hid (fun (i : Nat) (y : ByteArray) (hy : ws[i]? = some y) => keepbL b5 (show w.heap.size < w.heap.size + 1 by omega) (keepb hA1 (HC1.out i y hy)))
        have HB5 := hid (HB1.out.trans ((hA1.mono (by omega)).trans (b5.mono (by omega))))
        have hs5 := b5.size
        rw [World.size_alloc] at hs5
        clear o5 b5 g5 h5 hA1
        go_roundw
        case rel => exact ⟨k + 1, A5, c5, by omega, by go_num, rfl, HO5, HC5, HB5, by omega⟩
        case measure => simp [intOf]; omega
      · have HNV := hid (numV_no hok)
        clear hok
        go_wp2_with (at_builtin; refine wp_app3 _ rfl rfl el_ints rfl (own_below HO1.out (bA (Below.refl _ _) _) (Nat.le_refl _)) rfl (rd_new _ _ _ 1 1 rfl) (one_in _) hSZ (by rw [World.size_alloc]; omega) ?_; intro A5 c5 w5 o5 b5 g5 h5)
        have HO5 := hid (show w5.ownsRow (w.heap.size + 1) 3 1 (.slice A5 (k + 1) c5) (k + 1) (((ws.take (k + 1)).map fun x => numV x.data.toList).flatMap i64c) by rw [HTK.out, List.flatMap_append, List.flatMap_singleton, HNV.out]; exact o5)
        have hA1 := bA (Below.refl w1.heap.size w1) (.cells #[.int .i64 (-1)] 3)
        have HC5 := hid (fun (i : Nat) (y : ByteArray) (hy : ws[i]? = some y) => keepbL b5 (show w.heap.size < w.heap.size + 1 by omega) (keepb hA1 (HC1.out i y hy)))
        have HB5 := hid (HB1.out.trans ((hA1.mono (by omega)).trans (b5.mono (by omega))))
        have hs5 := b5.size
        rw [World.size_alloc] at hs5
        clear o5 b5 g5 h5 hA1
        go_roundw
        case rel => exact ⟨k + 1, A5, c5, by omega, by go_num, rfl, HO5, HC5, HB5, by omega⟩
        case measure => simp [intOf]; omega
    · have hlz : ¬ (k : Int) < (ws.length : Int) := by omega
      have hke : k = ws.length := by omega
      have HL := hid (show (numsL s.data.toList).length = k by rw [HNS.out, List.length_map]; exact hke.symm)
      have HRD := hid (show Rd wr wr.heap.size A 1 (numsL s.data.toList).length ((numsL s.data.toList).flatMap i64c) by
        rw [HL.out, HNS.out]
        have h := rd_own HOW.out
        rwa [List.take_of_length_le (by omega)] at h)
      clear hke
      go_wp2_with fail
      go_ret
      exact ⟨⟨A, ⟨c, by rw [HL.out]; rfl⟩, HRD.out⟩, HBL.out⟩
end Go.Proofs.YtfdaheenigmkmaaDoor
