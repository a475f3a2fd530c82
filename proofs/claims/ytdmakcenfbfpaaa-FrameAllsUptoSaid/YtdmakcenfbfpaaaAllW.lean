/- frame.All and the document's AllOf. -/
import Derived.Test.YtdmakcenfbfpaaaAllP
import Derived.Test.YtdmakcenfbfpaaaUnwrapR
import Derived.Test.YtdmakcenfbfpaaaLibK
import Derived.IntWalk
namespace Go.Proofs.Ytdmakcenfbfpaaa
open Go.ChangeShapes Go.WideShapes Go.ChangeAt Go.RowKit
set_option linter.unusedVariables false
set_option linter.unusedSimpArgs false
/-- A list of lists and a number come back. -/
def RetGN (w : World) (v : List (List Int) × Nat) (e : Ending) (w' : World) : Prop :=
  ∃ A c acc, e = .returned (.tuple #[.slice A v.1.length c, .int .i64 v.2]) ∧ lists acc = v.1 ∧ Grid u8c 1 w' w'.heap.size A acc ∧ Below w.heap.size w w'
def AllRel (l : List Int) (w : World) (s t : Value) (wr : World) : Prop :=
  ∃ (a c m : Nat) (A : Option Addr) (acc : List (ML Int)), a ≤ l.length ∧ t = .int .i64 a ∧ s = .slice A m c ∧ Hid (m = acc.length) ∧ Hid (lists acc ++ (allV (l.drop a)).1 = (allV l).1) ∧ Hid (a + (allV (l.drop a)).2 = (allV l).2) ∧ m * 5 ≤ a ∧
    Heaped ML.cells (ML.parts u8c 1) wr w.heap.size 25 1 A c acc ∧ Below w.heap.size w wr
theorem lists_snoc (acc : List (ML Int)) (x : ML Int) : lists (acc ++ [x]) = lists acc ++ [x.l] := by simp [lists]
theorem lists_length (acc : List (ML Int)) : (lists acc).length = acc.length := by simp [lists]
set_option maxRecDepth 100000 in
set_option maxHeartbeats 1000000 in
theorem all_walk (l : List Int) (w : World) (A : Option Addr) (L c : Nat) (hr : Rd w w.heap.size A 1 L (l.flatMap u8c)) (hL : l.length = L) (hb : ∀ x ∈ l, 0 ≤ x ∧ x ≤ 255) (hn : L ≤ 1099511627776) (hcap : L ≤ c) :
    Calls Try.prog 13 #[.slice A L c] w (RetGN w (allV l)) := by
  have HL := hid hL
  have HB := hid hb
  clear hL hb
  go_enter Try.func13, Try.ntmps13
  go_wp2_with fail
  go_loopw [4, 5] (AllRel l w) (fun _ t _ => L - (intOf t).toNat)
  case atStart => exact ⟨0, 0, 0, none, [], by omega, rfl, rfl, hid rfl, hid (by simp [lists]), hid (by simp), by omega, Heaped.nil, Below.refl _ _⟩
  case round =>
    obtain ⟨a, c', m, A', acc, ha, rfl, rfl, HM, HV, HK, h5, hown, hbel⟩ := hrel
    rw [HL.out] at ha
    by_cases hlt : a < L
    · obtain ⟨b, off, rfl, hb, hc⟩ := (hr.below hbel).at_ hlt
      have hcut := (rdb hr (by decide) hbel).cut (k := a) (cap := c) ha hcap
      rw [if_neg (by omega)] at hcut
      simp only [Option.map_some, addr_add, Nat.mul_one] at hcut
      have hdr : (l.flatMap u8c).drop a = (l.drop a).flatMap u8c := by have := drop_flat (cells := u8c) (sz := 1) (fun _ => rfl) l a; rwa [Nat.mul_one] at this
      rw [hdr] at hcut
      have HDL : (l.drop a).length = L - a := by rw [List.length_drop, HL.out]
      have HDB : ∀ x ∈ l.drop a, 0 ≤ x ∧ x ≤ 255 := fun x hx => HB.out x (List.mem_of_mem_drop hx)
      have hne : l.drop a ≠ [] := by intro h; rw [h] at HDL; simp at HDL; omega
      have HW := hid (unwrap_walk (l.drop a) wr _ (L - a) (c - a) hcut HDL HDB (by omega) (by omega))
      have hz := unwV_len (l.drop a) HDB
      have HS := hid (allV_step HDB hne)
      have HBD := hid (allV_bad hne)
      have haz : (a : Int) < (L : Int) := by omega
      have hac : a ≤ c := by omega
      clear hcut hdr HDB hne hc
      generalize hu : unwV (l.drop a) = u at HW hz HS HBD
      obtain ⟨p, n, r⟩ := u
      simp only at HW hz HS HBD
      unfold RetLN at HW
      have HU := hid hu
      clear hu
      by_cases hr0 : r = 0
      · subst hr0
        obtain ⟨k, rfl⟩ : ∃ k : Nat, n = k := ⟨n.toNat, by omega⟩
        have h5k := hz.2.2.2.2.2 rfl
        have hkL : k ≤ L - a := by have := hz.2.2.1; rw [HDL] at this; omega
        have HS2 := hid (HS.out rfl)
        have hp := hz.1
        clear hz HS HBD HDL
        simp only [Int.toNat_natCast, List.drop_drop] at HS2
        go_wp2_with fail
        refine HW.out.mono ?_
        rintro e w1 ⟨A1, c1, rfl, o1, b1⟩
        have hown1 := hown.below b1 (Nat.le_refl _)
        have hokp : ∀ o, ∀ q ∈ ML.parts u8c 1 ⟨A1, c1, p⟩, q.ok (w1.alloc o) w.heap.size (Value.slice A' acc.length c').ownBlock := fun o q hq => by
          obtain rfl := List.mem_singleton.1 hq
          exact (hown.ok o1 (Nat.le_refl _) hbel.size).alloc o
        have hn1 : (m + 1) * 24 ≤ 140737488355328 := by omega
        have hbase : ∀ o, w.heap.size ≤ (w1.alloc o).heap.size := fun o => by have := (bT hbel b1).size; simp; omega
        have hsum : IntKind.i64.wrap ((a : Int) + (k : Int)) = ((a + k : Nat) : Int) := by rw [IntWalk.i64_in _ (by omega)]; omega
        go_wp2_with (at_builtin; refine wp_heap _ rfl rfl el_grid_u8 rfl HM.out (hown1.alloc _) ⟨A1, c1, p⟩ (hokp _) rfl (rd_newAt _ _ _ 1 1 _ (by simp) rfl) (one_cellV _ rfl) hn1 (hbase _) ?_; intro A2 c2 w2 hown2 hb2 hg2)
        go_roundw
        case rel => exact ⟨a + k, c2, m + 1, A2, acc ++ [⟨A1, c1, p⟩], by rw [HL.out]; omega, by go_num, rfl, hid (by rw [List.length_append, HM.out]; rfl), hid (by rw [lists_snoc, ← HV.out, HS2.out, List.append_assoc]; rfl), hid (by rw [← HK.out, HS2.out]; simp only; omega), by omega, hown2, (bA (bT hbel b1) _).trans hb2⟩
        case measure => simp [intOf]; omega
      · have hrz : (r != 0) = true := by simpa using hr0
        have HS2 := hid (HBD.out hr0)
        clear hr0 hz HS HBD
        go_wp2_with fail
        refine HW.out.mono ?_
        rintro e w1 ⟨A1, c1, rfl, o1, b1⟩
        go_wp2_with fail
        go_ret2
        refine ⟨A', c', acc, ?_, ?_, Grid.b hown.led (by decide) b1, bT hbel b1⟩
        · rw [← HK.out, ← HV.out, HS2.out, List.append_nil, lists_length, ← HM.out]; rfl
        · rw [← HV.out, HS2.out, List.append_nil]
    · obtain rfl : a = L := by omega
      have hd : l.drop a = [] := List.drop_eq_nil_of_le (by rw [HL.out]; exact Nat.le_refl _)
      rw [hd, allV_nil] at HV HK
      have haz : ¬ ((a : Int) < (a : Int)) := by omega
      clear hd
      go_wp2_with fail
      go_ret2
      refine ⟨A', c', acc, ?_, ?_, hown.led, hbel⟩
      · rw [← HK.out, ← HV.out, List.append_nil, lists_length, ← HM.out]; rfl
      · rw [← HV.out, List.append_nil]
set_option maxRecDepth 100000 in
set_option maxHeartbeats 1000000 in
theorem allOf_walk (l : List Int) (w : World) (A : Option Addr) (L c : Nat) (hr : Rd w w.heap.size A 1 L (l.flatMap u8c)) (hL : l.length = L) (hb : ∀ x ∈ l, 0 ≤ x ∧ x ≤ 255) (hn : L ≤ 1099511627776) (hcap : L ≤ c) :
    Calls Try.prog 14 #[.slice A L c] w (RetGN w (allV l)) := by
  have HL := hid hL
  have HB := hid hb
  clear hL hb
  go_enter Try.func14, Try.ntmps14
  go_wp2_with fail
  go_loopw [4, 5] (AllRel l w) (fun _ t _ => L - (intOf t).toNat)
  case atStart => exact ⟨0, 0, 0, none, [], by omega, rfl, rfl, hid rfl, hid (by simp [lists]), hid (by simp), by omega, Heaped.nil, Below.refl _ _⟩
  case round =>
    obtain ⟨a, c', m, A', acc, ha, rfl, rfl, HM, HV, HK, h5, hown, hbel⟩ := hrel
    rw [HL.out] at ha
    by_cases hlt : a < L
    · obtain ⟨b, off, rfl, hb, hc⟩ := (hr.below hbel).at_ hlt
      have hcut := (rdb hr (by decide) hbel).cut (k := a) (cap := c) ha hcap
      rw [if_neg (by omega)] at hcut
      simp only [Option.map_some, addr_add, Nat.mul_one] at hcut
      have hdr : (l.flatMap u8c).drop a = (l.drop a).flatMap u8c := by have := drop_flat (cells := u8c) (sz := 1) (fun _ => rfl) l a; rwa [Nat.mul_one] at this
      rw [hdr] at hcut
      have HDL : (l.drop a).length = L - a := by rw [List.length_drop, HL.out]
      have HDB : ∀ x ∈ l.drop a, 0 ≤ x ∧ x ≤ 255 := fun x hx => HB.out x (List.mem_of_mem_drop hx)
      have hne : l.drop a ≠ [] := by intro h; rw [h] at HDL; simp at HDL; omega
      have HW := hid (unwrapped_walk (l.drop a) wr _ (L - a) (c - a) hcut HDL HDB (by omega) (by omega))
      have hz := unwV_len (l.drop a) HDB
      have HS := hid (allV_step HDB hne)
      have HBD := hid (allV_bad hne)
      have haz : ((a : Int) == (L : Int)) = false := by simp; omega
      have hac : a ≤ c := by omega
      clear hcut hdr HDB hne hc
      generalize hu : unwV (l.drop a) = u at HW hz HS HBD
      obtain ⟨p, n, r⟩ := u
      simp only at HW hz HS HBD
      unfold RetLN at HW
      have HU := hid hu
      clear hu
      by_cases hr0 : r = 0
      · subst hr0
        obtain ⟨k, rfl⟩ : ∃ k : Nat, n = k := ⟨n.toNat, by omega⟩
        have h5k := hz.2.2.2.2.2 rfl
        have hkL : k ≤ L - a := by have := hz.2.2.1; rw [HDL] at this; omega
        have HS2 := hid (HS.out rfl)
        have hp := hz.1
        clear hz HS HBD HDL
        simp only [Int.toNat_natCast, List.drop_drop] at HS2
        go_wp2_with fail
        refine HW.out.mono ?_
        rintro e w1 ⟨A1, c1, rfl, o1, b1⟩
        have hown1 := hown.below b1 (Nat.le_refl _)
        have hokp : ∀ o, ∀ q ∈ ML.parts u8c 1 ⟨A1, c1, p⟩, q.ok (w1.alloc o) w.heap.size (Value.slice A' acc.length c').ownBlock := fun o q hq => by
          obtain rfl := List.mem_singleton.1 hq
          exact (hown.ok o1 (Nat.le_refl _) hbel.size).alloc o
        have hn1 : (m + 1) * 24 ≤ 140737488355328 := by omega
        have hbase : ∀ o, w.heap.size ≤ (w1.alloc o).heap.size := fun o => by have := (bT hbel b1).size; simp; omega
        have hsum : IntKind.i64.wrap ((a : Int) + (k : Int)) = ((a + k : Nat) : Int) := by rw [IntWalk.i64_in _ (by omega)]; omega
        go_wp2_with (at_builtin; refine wp_heap _ rfl rfl el_grid_u8 rfl HM.out (hown1.alloc _) ⟨A1, c1, p⟩ (hokp _) rfl (rd_newAt _ _ _ 1 1 _ (by simp) rfl) (one_cellV _ rfl) hn1 (hbase _) ?_; intro A2 c2 w2 hown2 hb2 hg2)
        go_roundw
        case rel => exact ⟨a + k, c2, m + 1, A2, acc ++ [⟨A1, c1, p⟩], by rw [HL.out]; omega, by go_num, rfl, hid (by rw [List.length_append, HM.out]; rfl), hid (by rw [lists_snoc, ← HV.out, HS2.out, List.append_assoc]; rfl), hid (by rw [← HK.out, HS2.out]; simp only; omega), by omega, hown2, (bA (bT hbel b1) _).trans hb2⟩
        case measure => simp [intOf]; omega
      · have hrz : (r != 0) = true := by simpa using hr0
        have HS2 := hid (HBD.out hr0)
        clear hr0 hz HS HBD
        go_wp2_with fail
        refine HW.out.mono ?_
        rintro e w1 ⟨A1, c1, rfl, o1, b1⟩
        go_wp2_with fail
        go_ret2
        refine ⟨A', c', acc, ?_, ?_, Grid.b hown.led (by decide) b1, bT hbel b1⟩
        · rw [← HK.out, ← HV.out, HS2.out, List.append_nil, lists_length, ← HM.out]; rfl
        · rw [← HV.out, HS2.out, List.append_nil]
    · obtain rfl : a = L := by omega
      have hd : l.drop a = [] := List.drop_eq_nil_of_le (by rw [HL.out]; exact Nat.le_refl _)
      rw [hd, allV_nil] at HV HK
      have haz : ((a : Int) == (a : Int)) = true := by simp
      clear hd
      go_wp2_with fail
      go_ret2
      refine ⟨A', c', acc, ?_, ?_, hown.led, hbel⟩
      · rw [← HK.out, ← HV.out, List.append_nil, lists_length, ← HM.out]; rfl
      · rw [← HV.out, List.append_nil]
end Go.Proofs.Ytdmakcenfbfpaaa
