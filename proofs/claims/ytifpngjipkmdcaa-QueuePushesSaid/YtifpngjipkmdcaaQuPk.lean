/- queue.pack, the document's RunBytes: the bytes of a run. -/
import Derived.Test.YtifpngjipkmdcaaGaps
import Derived.Test.YtifpngjipkmdcaaGapsRef
import Derived.Test.YtifpngjipkmdcaaMls
namespace Go.Proofs.Ytifpngjipkmdcaa
open Go.ChangeShapes Go.WideShapes Go.ChangeAt Go.RowKit
set_option linter.unusedVariables false
set_option linter.unusedSimpArgs false
/-- The bytes of a run. -/
noncomputable def packM (l : List Mail) : List Int := (gapsV (l.map Mail.to)).1 ++ l.flatMap (fun m => pack m.val)
theorem gapsV_len (l : List Int) : (gapsV l).1.length ≤ 20010 := by
  unfold gapsV
  split
  · simp
  · split
    · split
      · have := gapB_len l l.length; show (gapB l l.length).length ≤ _; omega
      · simp
    · simp
theorem packsM_len (l : List Mail) : (l.flatMap (fun m => pack m.val)).length ≤ 10 * l.length := by
  induction l with
  | nil => simp
  | cons a l ih =>
    rw [List.flatMap_cons, List.length_append, List.length_cons]
    have := (pack_len a.val).1
    omega
theorem packM_len (l : List Mail) : (packM l).length ≤ 20010 + 10 * l.length := by
  unfold packM; rw [List.length_append]; have := gapsV_len (l.map Mail.to); have := packsM_len l; omega
def Vals0 (l : List Mail) : Prop := ∀ m ∈ l, 0 ≤ m.val ∧ m.val ≤ 9223372036854775807
def Pk1 (l : List Mail) (w : World) (s i : Value) (wr : World) : Prop :=
  ∃ (k c : Nat) (A : Option Addr), k ≤ l.length ∧ i = .int .i64 (k : Nat) ∧ s = .slice A k c ∧ Hid (wr.ownsRow w.heap.size 3 1 (.slice A k c) k (((l.take k).map Mail.to).flatMap i64c)) ∧ Below w.heap.size w wr
def Pk2 (l : List Mail) (pre : List Int) (w : World) (s i : Value) (wr : World) : Prop :=
  ∃ (k m c : Nat) (A : Option Addr), k ≤ l.length ∧ m ≤ 20010 + 10 * k ∧ i = .int .i64 (k : Nat) ∧ s = .slice A m c ∧ Hid ((pre ++ (l.take k).flatMap (fun m => pack m.val)).length = m) ∧ Hid (wr.ownsRow w.heap.size 5 1 (.slice A m c) m ((pre ++ (l.take k).flatMap (fun m => pack m.val)).flatMap u8c)) ∧ Below w.heap.size w wr
set_option maxRecDepth 100000 in
set_option maxHeartbeats 1000000 in
theorem pack_walkQ (l : List Mail) (w : World) (A : Option Addr) (n c : Nat) (hr : Rd w w.heap.size A 2 n (l.flatMap Mail.cells)) (hL : l.length = n) (hn : n ≤ 1000) (hv : Vals0 l) :
    Calls Try.prog 74 #[.slice A n c] w (RetS 5 1 w (packM l).length ((packM l).flatMap u8c)) := by
  have HV := hid hv
  have HL := hid hL
  have HR := hid hr
  clear hv hL hr
  go_enter Try.func74, Try.ntmps74
  go_wp2_with fail
  go_loopw [3, 5, 12] (fun s _ i wr => Pk1 l w s i wr) (fun _ _ i _ => n - (intOf i).toNat)
  case atStart => exact ⟨0, 0, none, Nat.zero_le _, rfl, rfl, hid (World.ownsRow_nil _ _ _ _), Below.refl _ _⟩
  case round =>
    obtain ⟨k, c1, A1, hk, rfl, rfl, HOW, hbel⟩ := hrel
    rw [HL.out] at hk
    have hbs := hbel.size
    by_cases hlt : k < n
    · obtain ⟨x, hx⟩ : ∃ x, l[k]? = some x := ⟨_, List.getElem?_eq_getElem (by rw [HL.out]; exact hlt)⟩
      obtain ⟨b, off, rfl, hb, c0, c1'⟩ := mcells (HR.out.below hbel) HL.out hx
      have hkz : (k : Int) < (n : Int) := by omega
      have hSZ : (k + 1) * 8 ≤ 140737488355328 := by omega
      have HT := hid (show ((l.take (k + 1)).map Mail.to).flatMap i64c = ((l.take k).map Mail.to).flatMap i64c ++ [.int .i64 x.to] from by rw [take_nextV hx, List.map_append, List.flatMap_append]; rfl)
      clear hx
      go_wp2_with (at_builtin; refine wp_app1 _ rfl rfl el_ints rfl (own_below HOW.out (bA (bA (Below.refl _ _) _) _) (Nat.le_refl _)) rfl (rd_newAt _ _ _ 1 1 _ (by simp) rfl) (one_cellV _ rfl) hSZ (by simp; omega) ?_; intro A5 c5 w5 o5 b5 g5)
      have HO5 := hid (show World.ownsRow _ _ _ _ _ _ (((l.take (k + 1)).map Mail.to).flatMap i64c) from by rw [HT.out]; exact o5)
      have HB5 := hid ((hbel.trans ((bA (bA (Below.refl wr.heap.size wr) _) _).mono hbs)).trans b5)
      clear o5 b5 g5
      go_wp2_with fail
      go_roundw
      case rel => exact ⟨k + 1, c5, A5, by rw [HL.out]; omega, by go_num, rfl, HO5, HB5.out⟩
      case measure => (simp [intOf]) <;> omega
    · obtain rfl : k = n := by omega
      have hkz : ¬ (k : Int) < (k : Int) := by omega
      have HO1 := hid (show World.ownsRow wr w.heap.size 3 1 (.slice A1 k c1) k ((l.map Mail.to).flatMap i64c) from by have h := HOW.out; rw [List.take_of_length_le (by rw [HL.out]; exact Nat.le_refl _)] at h; exact h)
      have HG := hid (gaps_walk (l.map Mail.to) wr A1 k c1 (rd_own HO1.out) (by rw [List.length_map, HL.out]) (by omega))
      have HGL := hid (gapsV_len (l.map Mail.to))
      have HPM : Hid (packM l = (gapsV (l.map Mail.to)).1 ++ l.flatMap (fun m => pack m.val)) := hid rfl
      generalize gapsV (l.map Mail.to) = V at *
      obtain ⟨pre, err⟩ := V
      simp only at HG HGL HPM
      unfold RetL at HG
      have HBL := hid hbel
      clear HOW hbel
      go_wp2_with fail
      refine HG.out.mono ?_
      rintro e w1 ⟨A2, c2, rfl, o2, b2⟩
      have HO2 := hid (own_more (base' := w.heap.size) o2 hbs)
      have HB2 := hid (bT HBL.out b2)
      clear o2 b2 HG
      go_wp2_with fail
      go_loopw [6, 9, 29] (fun s _ i wr => Pk2 l pre w s i wr) (fun _ _ i _ => k - (intOf i).toNat)
      case atStart => exact ⟨0, pre.length, c2, A2, Nat.zero_le _, HGL.out, rfl, rfl, hid (by simp), hid (by rw [List.take_zero, List.flatMap_nil, List.append_nil]; exact HO2.out), HB2.out⟩
      case round =>
        clear HO2 HB2 HBL hbs
        obtain ⟨j, m, c3, A3, hj, hm, rfl, rfl, HML, HOW, hbel⟩ := hrel
        rw [HL.out] at hj
        have hbs := hbel.size
        by_cases hlj : j < k
        · obtain ⟨x, hx⟩ : ∃ x, l[j]? = some x := ⟨_, List.getElem?_eq_getElem (by rw [HL.out]; exact hlj)⟩
          obtain ⟨b, off, rfl, hb, c0, c1'⟩ := mcells (HR.out.below hbel) HL.out hx
          obtain ⟨hv0, hv1⟩ := HV.out x (List.mem_of_getElem? hx)
          have hjz : (j : Int) < (k : Int) := by omega
          have HT := hid (show pre ++ (l.take (j + 1)).flatMap (fun m => pack m.val) = (pre ++ (l.take j).flatMap (fun m => pack m.val)) ++ pack x.val from by rw [take_nextV hx, List.flatMap_append, ← List.append_assoc]; simp)
          have HPU := hid (fun V => put_walk x.val hv0 (by omega) V)
          have hpl := (pack_len x.val).1
          generalize pack x.val = p at *
          unfold RetS at HPU
          have hSZ : (m + p.length) * 1 ≤ 140737488355328 := by omega
          have hwu : IntKind.u64.wrap x.val = x.val := IntWalk.u64_in _ (by omega)
          clear hx
          go_wp2_with fail
          refine (HPU.out _).mono ?_
          rintro e w4 ⟨A4, c4, rfl, o4, b4⟩
          have HO4 := hid (rd_own o4)
          have HB4 := hid (bT (bA (Below.refl wr.heap.size wr) _) b4)
          clear o4 b4 HPU
          go_wp2_with (at_builtin; refine wp_app1 _ rfl rfl el_bytes rfl (own_below HOW.out HB4.out (Nat.le_refl _)) rfl HO4.out (one_u8 p) hSZ (by have := HB4.out.size; omega) ?_; intro A5 c5 w5 o5 b5 g5)
          have HO5 := hid (show World.ownsRow _ _ _ _ _ _ ((pre ++ (l.take (j + 1)).flatMap (fun m => pack m.val)).flatMap u8c) from by rw [HT.out, List.flatMap_append (xs := _ ++ _)]; exact o5)
          have HB5 := hid (bT hbel HB4.out |>.trans b5)
          have HML5 := hid (show (pre ++ (l.take (j + 1)).flatMap (fun m => pack m.val)).length = m + p.length from by rw [HT.out, List.length_append, HML.out])
          clear o5 b5 g5
          go_wp2_with fail
          go_roundw
          case rel => exact ⟨j + 1, m + p.length, c5, A5, by rw [HL.out]; omega, by omega, by go_num, rfl, HML5, HO5, HB5.out⟩
          case measure => (simp [intOf]) <;> omega
        · obtain rfl : j = k := by omega
          have hjz : ¬ (j : Int) < (j : Int) := by omega
          have ht : l.take j = l := List.take_of_length_le (by rw [HL.out]; exact Nat.le_refl _)
          have HOF := hid (show World.ownsRow wr w.heap.size 5 1 (.slice A3 m c3) m ((packM l).flatMap u8c) from by rw [HPM.out]; have h := HOW.out; rw [ht] at h; exact h)
          have HMF := hid (show (packM l).length = m from by rw [HPM.out]; have h := HML.out; rw [ht] at h; exact h)
          clear ht
          go_wp2_with fail
          go_ret
          rw [HMF.out]
          exact ⟨A3, c3, rfl, HOF.out, hbel⟩
def Rb1 (l : List Mail) (w : World) (s t i : Value) (wr : World) : Prop :=
  ∃ (k m c d : Nat) (A B : Option Addr), k ≤ l.length ∧ m ≤ 10 * k ∧ i = .int .i64 (k : Nat) ∧ s = .slice A k c ∧ t = .slice B m d ∧ Hid (((l.take k).flatMap (fun m => pack m.val)).length = m) ∧ Hid (wr.ownsRow w.heap.size 3 1 (.slice A k c) k (((l.take k).map Mail.to).flatMap i64c)) ∧ Hid (wr.ownsRow w.heap.size 5 1 (.slice B m d) m (((l.take k).flatMap (fun m => pack m.val)).flatMap u8c)) ∧
    Hid (∀ y, (Value.slice A k c).ownBlock = some y → (Value.slice B m d).ownBlock ≠ some y) ∧ Below w.heap.size w wr
set_option maxRecDepth 100000 in
set_option maxHeartbeats 1000000 in
theorem runBytes_walk (l : List Mail) (w : World) (A : Option Addr) (n c : Nat) (hr : Rd w w.heap.size A 2 n (l.flatMap Mail.cells)) (hL : l.length = n) (hn : n ≤ 1000) (hv : Vals0 l) :
    Calls Try.prog 77 #[.slice A n c] w (RetS 5 1 w (packM l).length ((packM l).flatMap u8c)) := by
  have HV := hid hv
  have HL := hid hL
  have HR := hid hr
  clear hv hL hr
  go_enter Try.func77, Try.ntmps77
  go_wp2_with fail
  go_loopw [3, 4, 5] (fun s t i wr => Rb1 l w s t i wr) (fun _ _ i _ => n - (intOf i).toNat)
  case atStart => exact ⟨0, 0, 0, 0, none, none, Nat.zero_le _, Nat.le_refl _, rfl, rfl, rfl, hid rfl, hid (World.ownsRow_nil _ _ _ _), hid (World.ownsRow_nil _ _ _ _), hid (fun y hy => by cases hy), Below.refl _ _⟩
  case round =>
    obtain ⟨k, m, c1, d1, A1, B1, hk, hm, rfl, rfl, rfl, HML, HOW, HOB, HAP, hbel⟩ := hrel
    rw [HL.out] at hk
    have hbs := hbel.size
    by_cases hlt : k < n
    · obtain ⟨x, hx⟩ : ∃ x, l[k]? = some x := ⟨_, List.getElem?_eq_getElem (by rw [HL.out]; exact hlt)⟩
      obtain ⟨b, off, rfl, hb, c0, e1⟩ := mcells (HR.out.below hbel) HL.out hx
      obtain ⟨hv0, hv1⟩ := HV.out x (List.mem_of_getElem? hx)
      have hkz : (k : Int) < (n : Int) := by omega
      have hSZ : (k + 1) * 8 ≤ 140737488355328 := by omega
      have HT := hid (show ((l.take (k + 1)).map Mail.to).flatMap i64c = ((l.take k).map Mail.to).flatMap i64c ++ [.int .i64 x.to] from by rw [take_nextV hx, List.map_append, List.flatMap_append]; rfl)
      have HT2 := hid (show (l.take (k + 1)).flatMap (fun m => pack m.val) = (l.take k).flatMap (fun m => pack m.val) ++ pack x.val from by rw [take_nextV hx, List.flatMap_append]; simp)
      have HPU := hid (fun V => packed_any x.val hv0 (by omega) V)
      have hpl := (pack_len x.val).1
      generalize pack x.val = p at *
      unfold RetS at HPU
      have hSZ2 : (m + p.length) * 1 ≤ 140737488355328 := by omega
      have hwu : IntKind.u64.wrap x.val = x.val := IntWalk.u64_in _ (by omega)
      have E1 := hid e1
      have hbr : b < wr.heap.size := by omega
      clear hx e1
      go_wp2_with (at_builtin; refine wp_app3 _ rfl rfl el_ints rfl (own_below HOW.out (bA (Below.refl _ _) _) (Nat.le_refl _)) rfl (rd_new _ _ _ 1 1 rfl) (one_cellV _ rfl) hSZ (by simp; omega) ?_; intro A5 c5 w5 o5 b5 g5 h5; have e5 : w5.cell? ⟨b, off + k * 2 + 1, none⟩ = some (.int .i64 x.val) := (b5.cell (p := ⟨b, off + k * 2 + 1, none⟩) hb).trans (keepb (bA (Below.refl _ _) _) E1.out); have HO5 := hid o5; have HB5 := hid b5; have HG5 := hid g5; have H5 := hid h5; clear o5 b5 g5 h5)
      have HOB5 := hid (own_grown (own_below HOB.out (bA (Below.refl wr.heap.size wr) _) (Nat.le_refl _)) HG5.out (fun y hy e => HAP.out y e hy))
      have HAP5 : Hid (∀ y, (Value.slice A5 (k + 1) c5).ownBlock = some y → (Value.slice B1 m d1).ownBlock ≠ some y) := hid fun y hy e => by
        rcases H5.out with h | h
        · rw [h] at hy; exact HAP.out y hy e
        · rw [h] at hy; injection hy with hy; have := (HOB.out.lt y e).2; simp at hy; omega
      have HBL5 := hid ((hbel.trans ((bA (Below.refl wr.heap.size wr) _).mono hbs)).trans HB5.out)
      have HO5' := hid (show World.ownsRow _ _ _ _ _ _ (((l.take (k + 1)).map Mail.to).flatMap i64c) from by rw [HT.out]; exact HO5.out)
      refine (HPU.out _).mono ?_
      rintro e w6 ⟨A6, c6, rfl, o6, b6⟩
      have HO6 := hid (rd_own o6)
      have HOB6 := hid (own_below HOB5.out b6 (Nat.le_refl _))
      have HO56 := hid (own_below HO5'.out b6 (Nat.le_refl _))
      have HB6 := hid (HBL5.out.trans (b6.mono HBL5.out.size))
      have HZ6 := hid b6.size
      clear o6 b6 HPU HOB HAP
      go_wp2_with (at_builtin; refine wp_app3 _ rfl rfl el_bytes rfl HOB6.out rfl HO6.out (one_u8 p) hSZ2 HB6.out.size ?_; intro A7 c7 w7 o7 b7 g7 h7)
      have HO7 := hid (show World.ownsRow _ _ _ _ _ _ (((l.take (k + 1)).flatMap (fun m => pack m.val)).flatMap u8c) from by rw [HT2.out, List.flatMap_append (xs := List.flatMap _ _)]; exact o7)
      have HO57 := hid (own_grown HO56.out g7 (fun y hy e => HAP5.out y hy e))
      have HML7 := hid (show ((l.take (k + 1)).flatMap (fun m => pack m.val)).length = m + p.length from by rw [HT2.out, List.length_append, HML.out])
      have HAP7 : Hid (∀ y, (Value.slice A5 (k + 1) c5).ownBlock = some y → (Value.slice A7 (m + p.length) c7).ownBlock ≠ some y) := hid fun y hy e => by
        rcases h7 with h | h
        · rw [h] at e; exact HAP5.out y hy e
        · rw [h] at e; injection e with e; have := (HO5'.out.lt y hy).2; have := HZ6.out; omega
      have HB7 := hid (HB6.out.trans b7)
      clear o7 b7 g7 h7
      go_wp2_with fail
      go_roundw
      case rel => exact ⟨k + 1, m + p.length, c5, c7, A5, A7, by rw [HL.out]; omega, by omega, by go_num, rfl, rfl, HML7, HO57, HO7, HAP7, HB7.out⟩
      case measure => (simp [intOf]) <;> omega
    · obtain rfl : k = n := by omega
      have hkz : ¬ (k : Int) < (k : Int) := by omega
      have HO1 := hid (show World.ownsRow wr w.heap.size 3 1 (.slice A1 k c1) k ((l.map Mail.to).flatMap i64c) from by have h := HOW.out; rw [List.take_of_length_le (by rw [HL.out]; exact Nat.le_refl _)] at h; exact h)
      have HB1 := hid (show World.ownsRow wr w.heap.size 5 1 (.slice B1 m d1) m ((l.flatMap (fun m => pack m.val)).flatMap u8c) from by have h := HOB.out; rw [List.take_of_length_le (by rw [HL.out]; exact Nat.le_refl _)] at h; exact h)
      have HM1 := hid (show (l.flatMap (fun m => pack m.val)).length = m from by have h := HML.out; rw [List.take_of_length_le (by rw [HL.out]; exact Nat.le_refl _)] at h; exact h)
      have HG := hid (gapsOf_walk (l.map Mail.to) wr A1 k c1 (rd_own HO1.out) (by rw [List.length_map, HL.out]) (by omega))
      have HGL := hid (gapsV_len (l.map Mail.to))
      have hgl := HGL.out
      have HPM : Hid (packM l = (gapsV (l.map Mail.to)).1 ++ l.flatMap (fun m => pack m.val)) := hid rfl
      generalize gapsV (l.map Mail.to) = V at *
      obtain ⟨pre, err⟩ := V
      simp only at HG HGL HPM hgl
      unfold RetL at HG
      have HBL := hid hbel
      have hSZ : (pre.length + m) * 1 ≤ 140737488355328 := by omega
      clear HOW hbel HOB HML HAP
      go_wp2_with fail
      refine HG.out.mono ?_
      rintro e w1 ⟨A2, c2, rfl, o2, b2⟩
      have HO2 := hid (own_more (base' := w.heap.size) o2 hbs)
      have HB2 := hid (bT HBL.out b2)
      have HT2 := hid (rd_own (own_below HB1.out b2 (Nat.le_refl _)))
      clear o2 b2 HG
      go_wp2_with (at_builtin; refine wp_app1 _ rfl rfl el_bytes rfl HO2.out rfl HT2.out (one_u8 _) hSZ HB2.out.size ?_; intro A7 c7 w7 o7 b7 g7)
      go_ret
      have e1 : (packM l).length = pre.length + m := by rw [HPM.out, List.length_append, HM1.out]
      rw [e1, HPM.out, List.flatMap_append (xs := pre)]
      exact ⟨A7, c7, rfl, o7, HB2.out.trans b7⟩
end Go.Proofs.Ytifpngjipkmdcaa
