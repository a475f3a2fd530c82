/- frame.Unwrap. -/
import Derived.Test.YtdmakcenfbfpaaaUnwrapP
import Derived.Test.YtdmakcenfbfpaaaUngapW
namespace Go.Proofs.Ytdmakcenfbfpaaa
open Go.ChangeShapes Go.WideShapes Go.ChangeAt Go.RowKit
set_option linter.unusedVariables false
set_option linter.unusedSimpArgs false
theorem or32 (a b p : Nat) (k : Nat) (hp : p = 2 ^ k) (ha : a < p) (hb : a + b * p < 4294967296) : bits BinOp.or IntKind.u32 (a : Int) ((b * p : Nat) : Int) = ((a + b * p : Nat) : Int) := by
  have h : bits BinOp.or IntKind.u32 (a : Int) ((b * p : Nat) : Int) = IntKind.u32.wrap ((a ||| (b * p) : Nat) : Int) := by
    simp only [bits, BitVec.toNat_or]
    rw [bv32 a (by omega), bv32 (b * p) (by omega)]
  have hor : a ||| (b * p) = a + b * p := by
    have := Nat.two_pow_add_eq_or_of_lt (i := k) (b := a) (by omega) b
    rw [← hp] at this
    rw [Nat.mul_comm b p, Nat.or_comm, ← this, Nat.add_comm]
  rw [h, hor, u32_in' _ hb]
theorem four_bytes {l : List Int} {e : Nat} (h : e + 4 ≤ l.length) (hl : ∀ x ∈ l, 0 ≤ x ∧ x ≤ 255) : ∃ x0 x1 x2 x3 : Nat, (l.drop e).take 4 = [(x0 : Int), x1, x2, x3] ∧ x0 < 256 ∧ x1 < 256 ∧ x2 < 256 ∧ x3 < 256 ∧ l[e]? = some (x0 : Int) ∧ l[e + 1]? = some (x1 : Int) ∧ l[e + 2]? = some (x2 : Int) ∧ l[e + 3]? = some (x3 : Int) := by
  have hlen : ((l.drop e).take 4).length = 4 := by rw [List.length_take, List.length_drop]; omega
  have hb : ∀ x ∈ (l.drop e).take 4, 0 ≤ x ∧ x ≤ 255 := fun x hx => hl x (List.mem_of_mem_drop (List.mem_of_mem_take hx))
  have hget : ∀ j, j < 4 → l[e + j]? = ((l.drop e).take 4)[j]? := fun j hj => by rw [List.getElem?_take, if_pos hj, List.getElem?_drop]
  have g0 := hget 0 (by omega)
  have g1 := hget 1 (by omega)
  have g2 := hget 2 (by omega)
  have g3 := hget 3 (by omega)
  match hq : (l.drop e).take 4, hlen with
  | [a, b, c, d], _ =>
    rw [hq] at hb g0 g1 g2 g3
    obtain ⟨a0, a1⟩ := hb a (by simp)
    obtain ⟨b0, b1⟩ := hb b (by simp)
    obtain ⟨c0, c1⟩ := hb c (by simp)
    obtain ⟨d0, d1⟩ := hb d (by simp)
    obtain ⟨a, rfl⟩ := Int.eq_ofNat_of_zero_le a0
    obtain ⟨b, rfl⟩ := Int.eq_ofNat_of_zero_le b0
    obtain ⟨c, rfl⟩ := Int.eq_ofNat_of_zero_le c0
    obtain ⟨d, rfl⟩ := Int.eq_ofNat_of_zero_le d0
    exact ⟨a, b, c, d, rfl, by omega, by omega, by omega, by omega, g0, g1, g2, g3⟩
set_option maxRecDepth 100000 in
set_option maxHeartbeats 2000000 in
theorem unwrap_ok (l : List Int) (w : World) (A : Option Addr) (L c : Nat) (hr : Rd w w.heap.size A 1 L (l.flatMap u8c)) (hL : l.length = L) (hb : ∀ x ∈ l, 0 ≤ x ∧ x ≤ 255) (hn : L ≤ 140737488355328) (hcap : L ≤ c)
    (n k : Nat) (hg : getv l = ((n : Int), (k : Int), 0)) (hn2 : n ≤ 20000) (hlen : k + n + 4 ≤ L) :
    Calls Try.prog 35 #[.slice A L c] w (RetLN 5 1 w (unwV l).1.length ((unwV l).1.flatMap u8c) (unwV l).2.1 (unwV l).2.2) := by
  have hget0 := get_any l w A L c hr hb (by omega)
  unfold tri at hget0
  rw [hg] at hget0
  have HGet := hid hget0
  have HV : Hid (unwV l = if sumV (l.take (k + n)) = unquad ((l.drop (k + n)).take 4) then ((l.drop k).take n, ((k : Int) + (n : Int) + 4), 0) else ([], 0, 5)) := hid (by
    unfold unwV
    rw [hg, if_neg (by simp), if_neg (by simp; omega), if_neg (by simp; omega)]
    simp only [Int.toNat_natCast, show ((k : Int) + (n : Int)).toNat = k + n by omega])
  obtain ⟨x0, x1, x2, x3, hq, y0, y1, y2, y3, g0, g1, g2, g3⟩ := four_bytes (e := k + n) (by omega) hb
  rw [hq] at HV
  obtain ⟨b, off, rfl, hbl, hcell⟩ := hr.2 (by omega)
  have c0 : w.cell? ⟨b, off + (k + n), none⟩ = some (.int .u8 (x0 : Int)) := by
    exact hcell _ _ (by rw [flat_u8, List.getElem?_map, g0]; rfl)
  have c1 : w.cell? ⟨b, off + (k + n) + 1, none⟩ = some (.int .u8 (x1 : Int)) := by
    rw [Nat.add_assoc]; exact hcell _ _ (by rw [flat_u8, List.getElem?_map, g1]; rfl)
  have c2 : w.cell? ⟨b, off + (k + n) + 2, none⟩ = some (.int .u8 (x2 : Int)) := by
    rw [Nat.add_assoc]; exact hcell _ _ (by rw [flat_u8, List.getElem?_map, g2]; rfl)
  have c3 : w.cell? ⟨b, off + (k + n) + 3, none⟩ = some (.int .u8 (x3 : Int)) := by
    rw [Nat.add_assoc]; exact hcell _ _ (by rw [flat_u8, List.getElem?_map, g3]; rfl)
  have hE : k + n + 4 - (k + n) = 4 := by omega
  have HLl := hid hL
  have HB := hid hb
  clear hq g0 g1 g2 g3 hcell hget0 hg hL hb
  have z1 : (k : Int) + (n : Int) + 4 ≤ (L : Int) := by omega
  have z2 : (L : Int) ≤ (c : Int) := by omega
  have z3 : (n : Int) ≤ 20000 := by omega
  obtain ⟨s1, s2, s3, HU, o0, o1, o2, o3, hs3⟩ : ∃ s1 s2 s3 : Nat, Hid (unquad [(x0 : Int), x1, x2, x3] = (s3 : Int)) ∧ bits BinOp.or IntKind.u32 0 (x0 : Int) = (x0 : Int) ∧ bits BinOp.or IntKind.u32 (x0 : Int) ((x1 : Int) * 256) = (s1 : Int) ∧
      bits BinOp.or IntKind.u32 (s1 : Int) ((x2 : Int) * 65536) = (s2 : Int) ∧ bits BinOp.or IntKind.u32 (s2 : Int) ((x3 : Int) * 16777216) = (s3 : Int) ∧ s3 < 4294967296 := by
    refine ⟨x0 + x1 * 256, x0 + x1 * 256 + x2 * 65536, x0 + x1 * 256 + x2 * 65536 + x3 * 16777216, hid (by simp [unquad]; omega), ?_, ?_, ?_, ?_, by omega⟩
    · have := or32 0 x0 1 0 rfl (by omega) (by omega); simpa using this
    · have := or32 x0 x1 256 8 rfl (by omega) (by omega); simpa using this
    · have := or32 (x0 + x1 * 256) x2 65536 16 rfl (by omega) (by omega); simpa using this
    · have := or32 (x0 + x1 * 256 + x2 * 65536) x3 16777216 24 rfl (by omega) (by omega); simpa using this
  have ht := (hr.take (k := k + n) (by omega))
  rw [take_flat (cells := u8c) (sz := 1) (fun _ => rfl)] at ht
  have HSum := hid (sum_walk (l.take (k + n)) w (some ⟨b, off, none⟩) (k + n) c ht (by rw [List.length_take, HLl.out]; omega) (fun x hx => HB.out x (List.mem_of_mem_take hx)) (by omega))
  have hE2 : k + n - k = n := by omega
  have hrd : Rd w w.heap.size (some ⟨b, off + k, none⟩) 1 n (((l.drop k).take n).flatMap u8c) := by
    have h1 := (hr.cut (k := k) (cap := k + 1 + L) (by omega) (by omega)).take (k := n) (by omega)
    rw [if_neg (by omega), drop_flat (cells := u8c) (sz := 1) (fun _ => rfl), take_flat (cells := u8c) (sz := 1) (fun _ => rfl), Nat.mul_one] at h1
    simpa [addr_add] using h1
  have HRd := hid hrd
  clear ht hrd
  rw [HU.out] at HV
  have hdl : Hid (((l.drop k).take n).length = n) := hid (by rw [List.length_take, List.length_drop, HLl.out]; omega)
  generalize sumV (l.take (k + n)) = S at *
  by_cases hS : S = (s3 : Int)
  · rw [if_pos hS] at HV
    have hSb : ((s3 : Int) == S) = true := by simp [hS]
    have HVV := hid HV.out
    clear HV hS
    go_enter Try.func35, Try.ntmps35
    go_wp2_with fail
    refine HGet.out.mono ?_
    rintro e w1 ⟨rfl, rfl⟩
    go_wp2_with fail
    refine wp_loop_rounds 5 ?_
    iterate 5 (rw [rounds_succ]; go_wp2_with fail)
    refine HSum.out.mono ?_
    rintro e w2 ⟨rfl, b2⟩
    have r2 : Rd w2 w.heap.size (some ⟨b, off + k, none⟩) 1 (k + n - k) (((l.drop k).take n).flatMap u8c) := by rw [hE2]; exact HRd.out.below b2
    have HEE := hid hE2
    clear hE2
    go_wp2_with (at_builtin; refine wp_app0 _ rfl rfl el_bytes rfl rfl r2 (one_u8 _) (by omega) (Nat.le_refl _) ?_; intro A3 c3 w3 o3 b3)
    go_ret3
    rw [HVV.out]
    simp only
    rw [hdl.out]
    rw [HEE.out] at o3
    exact ⟨A3, c3, rfl, own_more o3 b2.size, bT b2 b3⟩
  · rw [if_neg hS] at HV
    have hSb : ((s3 : Int) == S) = false := by simpa using fun e : (s3 : Int) = S => hS e.symm
    have HVV := hid HV.out
    clear HV hS
    go_enter Try.func35, Try.ntmps35
    go_wp2_with fail
    refine HGet.out.mono ?_
    rintro e w1 ⟨rfl, rfl⟩
    go_wp2_with fail
    refine wp_loop_rounds 5 ?_
    iterate 5 (rw [rounds_succ]; go_wp2_with fail)
    refine HSum.out.mono ?_
    rintro e w2 ⟨rfl, b2⟩
    go_wp2_with fail
    go_ret3
    rw [HVV.out]
    exact retLN_nil _ _ _ _ _ b2
end Go.Proofs.Ytdmakcenfbfpaaa
