/- Spec, UngapP, UnwrapP, Varint, Unpack, UnpackW, Ungap, UngapW, Unwrap, UnwrapR: joined. -/
import Derived.Test.YtiemcicgohldeaaWrapR
import Derived.Test.YtiemcicgohldeaaRows
import Derived.Test.YtiemcicgohldeaaBase
import Derived.Test.YtiemcicgohldeaaBytes
import Derived.Test.YtiemcicgohldeaaMem
/- Plain functions: what the program's functions compute. No program in sight. -/
namespace Go.Proofs.Ytiemcicgohldeaa
/-- varint.Get from the byte 'i' on, 'n' being what was read so far. -/
def getGo : List Int → Nat → Int → Int × Int × Int
  | [], _, _ => (0, 0, 4)
  | c :: cs, i, n =>
    if i = 9 ∧ 1 < c then (0, 0, 6)
    else if c < 128 then (if c = 0 ∧ 0 < i then (0, 0, 3) else (n + c * 2 ^ (7 * i), i + 1, 0))
    else getGo cs (i + 1) (n + (c - 128) * 2 ^ (7 * i))
def getv (l : List Int) : Int × Int × Int := getGo l 0 0
end Go.Proofs.Ytiemcicgohldeaa

/- A list that rises, out of its bytes. Plain. -/
namespace Go.Proofs.Ytiemcicgohldeaa
set_option linter.unusedVariables false
set_option linter.unusedSimpArgs false
theorem pow7i (k : Nat) (hk : k ≤ 9) : (1 : Int) ≤ 2 ^ (7 * k) ∧ (2 : Int) ^ (7 * k) ≤ 9223372036854775808 ∧ (k ≤ 8 → (2 : Int) ^ (7 * k) ≤ 72057594037927936) := by
  have : ∀ j : Fin 10, (1 : Int) ≤ 2 ^ (7 * j.val) ∧ (2 : Int) ^ (7 * j.val) ≤ 9223372036854775808 ∧ (j.val ≤ 8 → (2 : Int) ^ (7 * j.val) ≤ 72057594037927936) := by decide +kernel
  exact this ⟨k, by omega⟩
/-- What varint.Get tells: a number below 2^64 and how many bytes it has; or what is wrong. -/
def GetOk (r : Int × Int × Int) (i len : Nat) : Prop := (r.2.2 = 0 ∧ 0 ≤ r.1 ∧ r.1 ≤ 18446744073709551615 ∧ (i : Int) + 1 ≤ r.2.1 ∧ r.2.1 ≤ i + len) ∨ (0 < r.2.2 ∧ r.2.2 ≤ 6 ∧ r.1 = 0 ∧ r.2.1 = 0)
theorem getGo_ok : ∀ (l : List Int) (i : Nat) (n : Int), (∀ x ∈ l, 0 ≤ x ∧ x ≤ 255) → i ≤ 9 → 0 ≤ n → n < 2 ^ (7 * i) → GetOk (getGo l i n) i l.length
  | [], i, n, _, _, _, _ => .inr (by simp [getGo])
  | c :: cs, i, n, hl, hi, h0, h1 => by
    obtain ⟨hc0, hc1⟩ := hl c (List.mem_cons_self ..)
    obtain ⟨p1, p2, p3⟩ := pow7i i hi
    rw [getGo]
    have e7 : (2 : Int) ^ (7 * (i + 1)) = 2 ^ (7 * i) * 128 := by rw [Nat.mul_add, Int.pow_add]; rfl
    generalize hP : (2 : Int) ^ (7 * i) = P at *
    split
    · exact .inr (by simp)
    · rename_i h9
      split
      · rename_i hlt
        split
        · exact .inr (by simp)
        · refine .inl ⟨rfl, ?_, ?_, ?_, ?_⟩
          · have : 0 ≤ c * P := Int.mul_nonneg hc0 (by omega)
            show 0 ≤ n + c * P
            omega
          · show n + c * P ≤ 18446744073709551615
            by_cases e : i = 9
            · have hc : c ≤ 1 := by omega
              have : c * P ≤ 1 * P := Int.mul_le_mul_of_nonneg_right hc (by omega)
              omega
            · have := p3 (by omega)
              have : c * P ≤ 127 * P := Int.mul_le_mul_of_nonneg_right (by omega) (by omega)
              omega
          · show (i : Int) + 1 ≤ ((i : Int) + 1)
            omega
          · show (i : Int) + 1 ≤ (i : Int) + ((c :: cs).length : Nat)
            simp only [List.length_cons]
            omega
      · rename_i hge
        have hi8 : i ≤ 8 := by omega
        have hb : (c - 128) * P ≤ 127 * P := Int.mul_le_mul_of_nonneg_right (by omega) (by omega)
        have hb0 : 0 ≤ (c - 128) * P := Int.mul_nonneg (by omega) (by omega)
        have h := getGo_ok cs (i + 1) (n + (c - 128) * P) (fun x hx => hl x (List.mem_cons_of_mem _ hx)) (by omega) (by omega) (by rw [e7]; omega)
        rcases h with ⟨g0, g1, g2, g3, g4⟩ | h
        · refine .inl ⟨g0, g1, g2, ?_, ?_⟩
          · omega
          · simp only [List.length_cons]; omega
        · exact .inr h
theorem getv_ok (l : List Int) (hl : ∀ x ∈ l, 0 ≤ x ∧ x ≤ 255) : GetOk (getv l) 0 l.length := getGo_ok l 0 0 hl (by omega) (by omega) (by decide)
/-- so many gaps more, from a place on. -/
def ungGo (l : List Int) : Nat → Nat → Int → List Int → List Int × Int × Int
  | 0, at_, _, acc => (acc, at_, 0)
  | n + 1, at_, last, acc =>
    if (getv (l.drop at_)).2.2 ≠ 0 then ([], 0, (getv (l.drop at_)).2.2)
    else if 1152921504606846976 < last + (getv (l.drop at_)).1 then ([], 0, 2)
    else ungGo l n (at_ + (getv (l.drop at_)).2.1.toNat) (last + (getv (l.drop at_)).1) (acc ++ [last + (getv (l.drop at_)).1])
/-- A list, and how many bytes it has; or what is wrong. -/
def ungV (l : List Int) : List Int × Int × Int :=
  if (getv l).2.2 ≠ 0 then ([], 0, (getv l).2.2) else if 2000 < (getv l).1 then ([], 0, 1) else ungGo l (getv l).1.toNat (getv l).2.1.toNat 0 []
/-- What a list says that was unpacked: rising numbers, MaxNumber at most. -/
theorem ungGo_ok (l : List Int) (hl : ∀ x ∈ l, 0 ≤ x ∧ x ≤ 255) : ∀ (n at_ : Nat) (last : Int) (acc : List Int), at_ ≤ l.length → 0 ≤ last → last ≤ 1152921504606846976 → (∀ x ∈ acc, 0 ≤ x ∧ x ≤ 1152921504606846976) →
    (∀ x ∈ (ungGo l n at_ last acc).1, 0 ≤ x ∧ x ≤ 1152921504606846976) ∧ (ungGo l n at_ last acc).1.length ≤ acc.length + n ∧ 0 ≤ (ungGo l n at_ last acc).2.1 ∧ (ungGo l n at_ last acc).2.1 ≤ l.length ∧ 0 ≤ (ungGo l n at_ last acc).2.2 ∧ (ungGo l n at_ last acc).2.2 ≤ 6 ∧ ((ungGo l n at_ last acc).2.2 = 0 → (ungGo l n at_ last acc).1.length = acc.length + n)
  | 0, at_, last, acc, ha, _, _, hacc => ⟨hacc, by simp [ungGo], by simp [ungGo], by simp [ungGo]; omega, by simp [ungGo], by simp [ungGo], by simp [ungGo]⟩
  | n + 1, at_, last, acc, ha, h0, h1, hacc => by
    have hg := getv_ok (l.drop at_) (fun x hx => hl x (List.mem_of_mem_drop hx))
    rw [ungGo]
    rw [List.length_drop] at hg
    generalize getv (l.drop at_) = r at *
    rcases hg with ⟨g0, g1, g2, g3, g4⟩ | ⟨g0, g1, g2, g3⟩
    · rw [if_neg (by simp [g0])]
      split
      · exact ⟨by simp, by simp, by simp, by simp, by simp, by simp, by simp⟩
      · have h := ungGo_ok l hl n (at_ + r.2.1.toNat) (last + r.1) (acc ++ [last + r.1]) (by omega) (by omega) (by omega) (fun x hx => by
          rcases List.mem_append.1 hx with hx | hx
          · exact hacc x hx
          · obtain rfl := List.mem_singleton.1 hx
            omega)
        simp only [List.length_append, List.length_cons, List.length_nil] at h
        obtain ⟨k1, k2, k3, k4, k5, k6, k7⟩ := h
        exact ⟨k1, by omega, k3, k4, k5, k6, fun h => by have := k7 h; omega⟩
    · rw [if_pos (by omega)]
      exact ⟨by simp, by simp, by simp, by simp, Int.le_of_lt g0, g1, fun h => by simp at h; omega⟩
theorem ungV_ok (l : List Int) (hl : ∀ x ∈ l, 0 ≤ x ∧ x ≤ 255) :
    (∀ x ∈ (ungV l).1, 0 ≤ x ∧ x ≤ 1152921504606846976) ∧ (ungV l).1.length ≤ 2000 ∧ 0 ≤ (ungV l).2.1 ∧ (ungV l).2.1 ≤ l.length ∧ 0 ≤ (ungV l).2.2 ∧ (ungV l).2.2 ≤ 6 := by
  have hg := getv_ok l hl
  unfold ungV
  generalize getv l = r at *
  rcases hg with ⟨g0, g1, g2, g3, g4⟩ | ⟨g0, g1, g2, g3⟩
  · rw [if_neg (by simp [g0])]
    split
    · exact ⟨by simp, by simp, by simp, by simp, by simp, by simp⟩
    · obtain ⟨k1, k2, k3, k4, k5, k6, _⟩ := ungGo_ok l hl r.1.toNat r.2.1.toNat 0 [] (by omega) (by omega) (by omega) (by simp)
      exact ⟨k1, by simp at k2; omega, k3, k4, k5, k6⟩
  · rw [if_pos (by omega)]
    exact ⟨by simp, by simp, by simp, by simp, Int.le_of_lt g0, g1⟩
end Go.Proofs.Ytiemcicgohldeaa

/- What frame.Unwrap answers. Plain. -/
namespace Go.Proofs.Ytiemcicgohldeaa
set_option linter.unusedVariables false
set_option linter.unusedSimpArgs false
theorem getGo_pack : ∀ (l : List Int) (i : Nat) (m r k : Int), (∀ x ∈ l, 0 ≤ x ∧ x ≤ 255) → i ≤ 9 → getGo l i m = (r, k, 0) →
    ∃ v : Int, 0 ≤ v ∧ r = m + v * 2 ^ (7 * i) ∧ packF (9 - i) v = l.take (k - i).toNat ∧ (0 < i → 0 < v) ∧ (i : Int) < k
  | [], i, m, r, k, _, _, h => by simp [getGo] at h
  | c :: cs, i, m, r, k, hl, hi, h => by
    obtain ⟨hc0, hc1⟩ := hl c (List.mem_cons_self ..)
    rw [getGo] at h
    split at h
    · simp at h
    · rename_i h9
      split at h
      · rename_i hlt
        split at h
        · simp at h
        · rename_i hz
          simp only [Prod.mk.injEq] at h
          obtain ⟨h1, h2, _⟩ := h
          refine ⟨c, hc0, h1.symm, ?_, fun hi0 => ?_, by omega⟩
          · rw [packF_small _ _ hlt]
            have : (k - (i : Int)).toNat = 1 := by omega
            rw [this]; rfl
          · have : ¬ (c = 0) := fun e => hz ⟨e, hi0⟩
            omega
      · rename_i hge
        have hi8 : i ≤ 8 := by omega
        obtain ⟨v, hv0, hr, hp, hpos, hk⟩ := getGo_pack cs (i + 1) _ r k (fun x hx => hl x (List.mem_cons_of_mem _ hx)) (by omega) h
        have hv := hpos (by omega)
        have e7 : (2 : Int) ^ (7 * (i + 1)) = 128 * 2 ^ (7 * i) := by rw [Nat.mul_add, Int.pow_add, Int.mul_comm]; rfl
        refine ⟨(c - 128) + 128 * v, by omega, ?_, ?_, fun _ => by omega, by omega⟩
        · rw [hr, e7, Int.add_mul, Int.add_assoc]
          congr 2
          rw [← Int.mul_assoc, Int.mul_comm v 128]
        · have e9 : 9 - i = (9 - (i + 1)) + 1 := by omega
          have hk2 : (k - (i : Int)).toNat = (k - ((i + 1 : Nat) : Int)).toNat + 1 := by omega
          rw [e9, packF, if_neg (by omega), hk2, List.take_succ_cons, ← hp]
          have ea : ((c - 128) + 128 * v) % 128 + 128 = c := by omega
          have eb : ((c - 128) + 128 * v) / 128 = v := by omega
          rw [ea, eb]
/-- Get takes no other bytes than Put gives. -/
theorem getv_pack {l : List Int} (hl : ∀ x ∈ l, 0 ≤ x ∧ x ≤ 255) {r k : Int} (h : getv l = (r, k, 0)) : pack r = l.take k.toNat := by
  obtain ⟨v, _, hr, hp, _, _⟩ := getGo_pack l 0 0 r k hl (by omega) h
  have : r = v := by simpa using hr
  rw [this]
  unfold pack
  simpa using hp
def unquad (l : List Int) : Int := l.getD 0 0 + 256 * l.getD 1 0 + 65536 * l.getD 2 0 + 16777216 * l.getD 3 0
theorem quad_iff {l : List Int} (h4 : l.length = 4) (hl : ∀ x ∈ l, 0 ≤ x ∧ x ≤ 255) {s : Int} (h0 : 0 ≤ s) (h1 : s < 4294967296) : quad s = l ↔ s = unquad l := by
  match l, h4 with
  | [a, b, c, d], _ =>
    have ha := hl a (by simp)
    have hb := hl b (by simp)
    have hc := hl c (by simp)
    have hd := hl d (by simp)
    unfold quad unquad
    simp only [List.cons.injEq, and_true, List.getD_cons_zero, List.getD_cons_succ]
    omega
/-- The payload that bytes begin with, and how many bytes the frame has; or what is wrong. -/
def unwV (l : List Int) : List Int × Int × Int :=
  if (getv l).2.2 ≠ 0 then ([], 0, (getv l).2.2) else if 20000 < (getv l).1 then ([], 0, 1) else if (l.length : Int) < (getv l).2.1 + (getv l).1 + 4 then ([], 0, 4) else
  if sumV (l.take ((getv l).2.1 + (getv l).1).toNat) = unquad ((l.drop ((getv l).2.1 + (getv l).1).toNat).take 4) then ((l.drop (getv l).2.1.toNat).take (getv l).1.toNat, (getv l).2.1 + (getv l).1 + 4, 0) else ([], 0, 5)
/-- The frame anew, held against the bytes. -/
theorem wrap_same {l : List Int} (hl : ∀ x ∈ l, 0 ≤ x ∧ x ≤ 255) {n k : Nat} (h : getv l = ((n : Int), (k : Int), 0)) (hlen : k + n + 4 ≤ l.length) :
    wrapB ((l.drop k).take n) = l.take (k + n) ++ quad (sumV (l.take (k + n))) ∧ (wrapB ((l.drop k).take n)).length = k + n + 4 ∧
    (wrapB ((l.drop k).take n) = l.take (k + n + 4) ↔ sumV (l.take (k + n)) = unquad ((l.drop (k + n)).take 4)) := by
  have hp := getv_pack hl h
  have hpl : ((l.drop k).take n).length = n := by rw [List.length_take, List.length_drop]; omega
  have e1 : pack ((((l.drop k).take n).length : Nat) : Int) ++ (l.drop k).take n = l.take (k + n) := by
    rw [hpl, hp, Int.toNat_natCast, List.take_add]
  have hW : wrapB ((l.drop k).take n) = l.take (k + n) ++ quad (sumV (l.take (k + n))) := by unfold wrapB; rw [e1]
  have hT : l.take (k + n + 4) = l.take (k + n) ++ (l.drop (k + n)).take 4 := List.take_add
  refine ⟨hW, ?_, ?_⟩
  · rw [hW]; simp only [List.length_append, List.length_take, quad, List.length_cons, List.length_nil]; omega
  · rw [hW, hT, List.append_cancel_left_eq]
    obtain ⟨s0, s1⟩ := sumV_lt (l.take (k + n)) (fun x hx => hl x (List.mem_of_mem_take hx))
    exact quad_iff (by rw [List.length_take, List.length_drop]; omega) (fun x hx => hl x (List.mem_of_mem_drop (List.mem_of_mem_take hx))) s0 s1
theorem unwV_len (l : List Int) (h : ∀ x ∈ l, 0 ≤ x ∧ x ≤ 255) : (unwV l).1.length ≤ 20000 ∧ 0 ≤ (unwV l).2.1 ∧ (unwV l).2.1 ≤ l.length ∧ 0 ≤ (unwV l).2.2 ∧ (unwV l).2.2 ≤ 6 ∧ ((unwV l).2.2 = 0 → 5 ≤ (unwV l).2.1) := by
  have hg := getv_ok l h
  unfold unwV
  generalize getv l = r at *
  rcases hg with ⟨g0, g1, g2, g3, g4⟩ | ⟨g0, g1, g2, g3⟩
  · rw [if_neg (by simp [g0])]
    split
    · simp
    · split
      · simp
      · split
        · refine ⟨?_, ?_, ?_, ?_, ?_, fun _ => ?_⟩
          · rw [List.length_take]; show min r.1.toNat _ ≤ 20000; omega
          · show 0 ≤ r.2.1 + r.1 + 4; omega
          · show r.2.1 + r.1 + 4 ≤ _; omega
          · simp
          · simp
          · show 5 ≤ r.2.1 + r.1 + 4; omega
        · simp
  · rw [if_pos (by omega)]
    exact ⟨by simp, by simp, by simp, Int.le_of_lt g0, g1, fun h => by simp at h; omega⟩
end Go.Proofs.Ytiemcicgohldeaa

/- varint: walks. -/
namespace Go.Proofs.Ytiemcicgohldeaa
open Go.ChangeShapes Go.WideShapes Go.ChangeAt Go.RowKit
theorem and127 (x : Int) (h0 : 0 ≤ x) (h1 : x ≤ 255) : bits BinOp.and IntKind.u8 x 127 = x % 128 := by
  have : ∀ y : Fin 256, bits BinOp.and IntKind.u8 (y.val : Int) 127 = (y.val : Int) % 128 := by decide +kernel
  have h := this ⟨x.toNat, by omega⟩
  simpa [Int.toNat_of_nonneg h0] using h
theorem pow7 (k : Nat) (hk : k ≤ 9) : (2 : Int) ^ (7 * k) ≤ 9223372036854775808 ∧ (k ≤ 8 → (2 : Int) ^ (7 * k) ≤ 72057594037927936) ∧ 1 ≤ (2 : Int) ^ (7 * k) := by
  have : ∀ j : Fin 10, (2 : Int) ^ (7 * j.val) ≤ 9223372036854775808 ∧ (j.val ≤ 8 → (2 : Int) ^ (7 * j.val) ≤ 72057594037927936) ∧ 1 ≤ (2 : Int) ^ (7 * j.val) := by decide +kernel
  exact this ⟨k, by omega⟩
theorem or_shl (m y : Int) (k : Nat) (h0 : 0 ≤ m) (h1 : m < 2 ^ (7 * k)) (hy0 : 0 ≤ y) (hy : y ≤ 127) (hk : k ≤ 9) (h9 : k = 9 → y ≤ 1) : bits BinOp.or IntKind.u64 m (IntKind.u64.wrap (y * 2 ^ (7 * k))) = m + y * 2 ^ (7 * k) := by
  obtain ⟨p1, p2, p3⟩ := pow7 k hk
  obtain ⟨a, rfl⟩ := Int.eq_ofNat_of_zero_le h0
  obtain ⟨b, rfl⟩ := Int.eq_ofNat_of_zero_le hy0
  have hp : ((2 : Int) ^ (7 * k)) = ((2 ^ (7 * k) : Nat) : Int) := by simp
  rw [hp] at h1 p1 p2 p3 ⊢
  generalize hP : (2 ^ (7 * k) : Nat) = P at *
  have hle : b * P ≤ 18446744073709551615 - P + 1 := by
    by_cases e : k = 9
    · have hb : b ≤ 1 := by have := h9 e; omega
      have : b * P ≤ 1 * P := Nat.mul_le_mul_right _ hb
      omega
    · have hb : b ≤ 127 := by omega
      have : b * P ≤ 127 * P := Nat.mul_le_mul_right _ hb
      have := p2 (by omega)
      omega
  have hw : IntKind.u64.wrap ((b : Int) * (P : Int)) = ((b * P : Nat) : Int) := by
    rw [← Int.natCast_mul]; exact IntWalk.u64_in _ (by omega)
  rw [hw]
  have hor : a ||| (b * P) = a + b * P := by
    have := Nat.two_pow_add_eq_or_of_lt (i := 7 * k) (b := a) (by rw [hP]; omega) b
    rw [hP] at this
    rw [Nat.mul_comm b P, Nat.or_comm, ← this, Nat.add_comm]
  have e : bits BinOp.or IntKind.u64 (a : Int) ((b * P : Nat) : Int) = IntKind.u64.wrap ((a ||| (b * P) : Nat) : Int) := by
    simp only [bits, BitVec.toNat_or]
    congr 2
    rw [BitVec.toNat_ofInt, BitVec.toNat_ofInt]
    have hb64 : IntKind.u64.bits = 64 := rfl
    rw [hb64]
    congr 1 <;> omega
  rw [e, hor, IntWalk.u64_in _ (by omega)]
  simp
theorem acc (m x : Int) (k : Nat) (h0 : 0 ≤ m) (h1 : m < 2 ^ (7 * k)) (hx0 : 0 ≤ x) (hx : x ≤ 255) (hk : k ≤ 9) (h9 : k = 9 → x ≤ 1) :
    bits BinOp.or IntKind.u64 m (IntKind.u64.wrap (IntKind.u64.wrap (bits BinOp.and IntKind.u8 x 127) * 2 ^ (7 * k))) = m + x % 128 * 2 ^ (7 * k) := by
  rw [and127 x hx0 hx, IntWalk.u64_in (x % 128) (by omega)]
  exact or_shl m (x % 128) k h0 h1 (by omega) (by omega) hk (by omega)
set_option maxHeartbeats 2000000 in
theorem get_walk (l : List Int) (w : World) (A : Option Addr) (n c : Nat) (hr : Rd w w.heap.size A 1 n (l.map (Value.int .u8))) (hl : ∀ x ∈ l, 0 ≤ x ∧ x ≤ 255) (hn : n ≤ 9223372036854775807) :
    Calls Try.prog 54 #[.slice A n c] w fun e w' => e = .returned (.tuple #[.int .u64 (getv l).1, .int .i64 (getv l).2.1, .int .i64 (getv l).2.2]) ∧ w = w' := by
  have hlen : l.length = n := by simpa using hr.1
  go_enter Try.func54, Try.ntmps54
  go_wp2
  go_loop [5, 10] (fun a i => ∃ k : Nat, ∃ m : Int, k ≤ n ∧ k ≤ 9 ∧ 0 ≤ m ∧ m < 2 ^ (7 * k) ∧ Hid (getv l = getGo (l.drop k) k m) ∧ i = .int .i64 k ∧ a = .int .u64 m) (fun _ i => n - (intOf i).toNat)
  case atStart => exact ⟨0, 0, by omega, by omega, by omega, by simp, rfl, rfl, rfl⟩
  case round =>
    obtain ⟨k, m, hk, hk9, hm0, hm1, HG, rfl, rfl⟩ := hrel
    by_cases hlt : k < n
    · obtain ⟨b, off, rfl, hb, hc⟩ := hr.at_ hlt
      have hkl : k < l.length := by omega
      obtain ⟨x, hx⟩ : ∃ x, l[k]? = some x := ⟨_, List.getElem?_eq_getElem hkl⟩
      have hcell := hc k (Value.int .u8 x) (by simp [hx])
      obtain ⟨hx0, hx1⟩ := hl x (List.mem_of_getElem? hx)
      have hd : l.drop k = x :: l.drop (k + 1) := by rw [List.drop_eq_getElem_cons hkl]; congr 1; rw [List.getElem?_eq_getElem hkl] at hx; exact Option.some.inj hx
      have HE : Hid (getv l = if k = 9 ∧ 1 < x then (0, 0, 6) else if x < 128 then (if x = 0 ∧ 0 < k then (0, 0, 3) else (m + x * 2 ^ (7 * k), (k : Int) + 1, 0)) else getGo (l.drop (k + 1)) (k + 1) (m + (x - 128) * 2 ^ (7 * k))) := by
        have := HG.out
        rw [hd, getGo] at this
        exact this
      clear hx hd hlen hc HG
      have hs : (0 : Int) ≤ 7 * (k : Int) := by omega
      by_cases hbad : k = 9 ∧ 1 < x
      · have HV : Hid (getv l = (0, 0, 6)) := by have := HE.out; rw [if_pos hbad] at this; exact this
        obtain ⟨rfl, h1x⟩ := hbad
        go_wp2
        go_ret3
        rw [HV.out]
        exact ⟨rfl, rfl⟩
      · have HE2 := HE.out
        rw [if_neg hbad] at HE2
        by_cases hx00 : x = 0
        · by_cases hk0 : 0 < k
          · have HV : Hid (getv l = (0, 0, 3)) := by rw [if_pos (by omega), if_pos ⟨hx00, hk0⟩] at HE2; exact HE2
            subst hx00
            clear HE HE2
            go_wp2
            all_goals go_ret3
            all_goals rw [HV.out]
            all_goals exact ⟨rfl, rfl⟩
          · obtain rfl : k = 0 := by omega
            have HV : Hid (getv l = (m, 1, 0)) := by
              rw [if_pos (by omega), if_neg (by omega)] at HE2
              exact hid (by rw [HE2, hx00]; simp)
            obtain rfl : m = 0 := by simp at hm1; omega
            subst hx00
            clear HE HE2
            simp only [Nat.add_zero] at hcell
            go_wp2
            go_ret3
            rw [HV.out]
            exact ⟨rfl, rfl⟩
        · by_cases h9 : k = 9
          · subst h9
            obtain rfl : x = 1 := by omega
            have HV : Hid (getv l = (m + 1 * 2 ^ (7 * 9), 10, 0)) := by rw [if_pos (by omega), if_neg (by omega)] at HE2; exact HE2
            have ha := acc m 1 9 hm0 hm1 (by omega) (by omega) (by omega) (by omega)
            have HA := hid ha
            clear HE HE2 ha
            go_wp2
            go_ret3
            rw [HV.out]
            exact ⟨ret3 HA.out rfl rfl, rfl⟩
          · have h9' : ((k : Int) == 9) = false := by simp; omega
            have ha := acc m x k hm0 hm1 hx0 hx1 hk9 (by omega)
            have HA := hid ha
            clear ha
            by_cases hx128 : x < 128
            · have HV : Hid (getv l = (m + x * 2 ^ (7 * k), (k : Int) + 1, 0)) := by rw [if_pos (by omega), if_neg (by omega)] at HE2; exact HE2
              clear HE HE2
              have hxx : (x == 0) = false := by simp [hx00]
              go_wp2
              go_ret3
              rw [HV.out]
              have hA := HA.out
              rw [Int.emod_eq_of_lt hx0 hx128] at hA
              exact ⟨ret3 hA rfl rfl, rfl⟩
            · rw [if_neg hx128] at HE2
              have HF := hid HE2
              clear HE HE2
              go_wp2
              go_round
              case rel =>
                refine ⟨k + 1, m + (x - 128) * 2 ^ (7 * k), by omega, by omega, ?_, ?_, HF, by go_num, ?_⟩
                · have := pow7 k hk9
                  have : 0 ≤ (x - 128) * 2 ^ (7 * k) := Int.mul_nonneg (by omega) (by omega)
                  omega
                · have e : (2 : Int) ^ (7 * (k + 1)) = 128 * 2 ^ (7 * k) := by rw [Nat.mul_add, Int.pow_add]; simp [Int.mul_comm]
                  have : (x - 128) * 2 ^ (7 * k) ≤ 127 * 2 ^ (7 * k) := Int.mul_le_mul_of_nonneg_right (by omega) (by have := pow7 k hk9; omega)
                  omega
                · have hA := HA.out
                  rw [show x % 128 = x - 128 by omega] at hA
                  rw [← hA]
              case measure => simp [intOf]; omega
    · go_wp2
      go_ret3
      rw [HG.out, List.drop_eq_nil_of_le (by omega)]
      exact ⟨rfl, rfl⟩
end Go.Proofs.Ytiemcicgohldeaa

/- The document's Unpacked answers what varint.Get answers. -/
namespace Go.Proofs.Ytiemcicgohldeaa
open Go.ChangeShapes Go.WideShapes Go.ChangeAt Go.RowKit
set_option linter.unusedVariables false
set_option linter.unusedSimpArgs false
/-- The number that bytes hold, seven bits each. -/
def hv : List Int → Int
  | [] => 0
  | x :: l => x % 128 + 128 * hv l
theorem hv_append : ∀ (a b : List Int), hv (a ++ b) = hv a + 128 ^ a.length * hv b
  | [], b => by simp [hv]
  | x :: a, b => by
    simp only [List.cons_append, hv, hv_append a b, List.length_cons, Int.pow_succ]
    generalize (128 : Int) ^ a.length = P
    rw [Int.mul_add, ← Int.mul_assoc, Int.mul_comm P 128]
    omega
theorem hv_bound : ∀ (a : List Int), 0 ≤ hv a ∧ hv a < 128 ^ a.length
  | [] => by simp [hv]
  | x :: a => by
    have := hv_bound a
    simp only [hv, List.length_cons, Int.pow_succ]
    generalize (128 : Int) ^ a.length = P at *
    omega
theorem pow128 (k : Nat) : (2 : Int) ^ (7 * k) = 128 ^ k := by rw [Int.pow_mul]; rfl
theorem getGo_pre : ∀ (pre rest : List Int) (i : Nat) (n : Int), (∀ x ∈ pre, 128 ≤ x ∧ x ≤ 255) → i + pre.length ≤ 9 → getGo (pre ++ rest) i n = getGo rest (i + pre.length) (n + 128 ^ i * hv pre)
  | [], rest, i, n, _, _ => by simp [hv]
  | x :: pre, rest, i, n, h, hl => by
    have hx := h x (List.mem_cons_self ..)
    simp only [List.length_cons] at hl
    rw [List.cons_append, getGo, if_neg (by omega), if_neg (by omega), getGo_pre pre rest (i + 1) _ (fun y hy => h y (List.mem_cons_of_mem _ hy)) (by omega)]
    have e1 : x % 128 = x - 128 := by omega
    have e2 : i + 1 + pre.length = i + (x :: pre).length := by simp only [List.length_cons]; omega
    have e3 : n + (x - 128) * 2 ^ (7 * i) + 128 ^ (i + 1) * hv pre = n + 128 ^ i * hv (x :: pre) := by
      rw [pow128, hv, e1, Int.pow_succ, Int.mul_add, Int.mul_comm (x - 128)]
      rw [← Int.mul_assoc]
      omega
    rw [e2, e3]
/-- How many bytes go on, ten at most. -/
def more : Nat → List Int → Nat
  | 0, _ => 0
  | _, [] => 0
  | f + 1, x :: l => if 128 ≤ x then more f l + 1 else 0
theorem more_spec : ∀ (f : Nat) (l : List Int), more f l ≤ f ∧ more f l ≤ l.length ∧ (∀ (i : Nat) (x : Int), i < more f l → l[i]? = some x → 128 ≤ x) ∧ (more f l < f → ∀ x, l[more f l]? = some x → x < 128)
  | 0, l => by simp [more]
  | f + 1, [] => by simp [more]
  | f + 1, x :: l => by
    obtain ⟨h1, h2, h3, h4⟩ := more_spec f l
    rw [more]
    split
    · rename_i hx
      refine ⟨by omega, by simp; omega, fun i y hi hy => ?_, fun hf y hy => ?_⟩
      · cases i with
        | zero => simp at hy; omega
        | succ i => exact h3 i y (by omega) (by simpa using hy)
      · exact h4 (by omega) y (by simpa using hy)
    · rename_i hx
      refine ⟨by omega, by simp, fun i y hi => by omega, fun _ y hy => ?_⟩
      simp at hy
      omega
theorem take_mem {l : List Int} {k : Nat} {p : Int → Prop} (h : ∀ (i : Nat) (x : Int), i < k → l[i]? = some x → p x) : ∀ x ∈ l.take k, p x := by
  intro x hx
  obtain ⟨i, hi, he⟩ := List.getElem_of_mem hx
  have hi' : i < k := by rw [List.length_take] at hi; omega
  refine h i x hi' ?_
  rw [← he, List.getElem_take]
  exact List.getElem?_eq_getElem _
/-- What the bytes tell, by where the number ends. -/
theorem getv_over (l : List Int) (hl : ∀ x ∈ l, 0 ≤ x ∧ x ≤ 255) (h : more 10 l = 10) : getv l = (0, 0, 6) := by
  obtain ⟨_, h2, h3, _⟩ := more_spec 10 l
  rw [h] at h2 h3
  have e : l = l.take 9 ++ l.drop 9 := (List.take_append_drop 9 l).symm
  obtain ⟨x, hx⟩ : ∃ x, l[9]? = some x := ⟨_, List.getElem?_eq_getElem (by omega)⟩
  have hd : l.drop 9 = x :: l.drop 10 := by
    rw [List.drop_eq_getElem_cons (by omega)]
    congr 1
    rw [List.getElem?_eq_getElem (by omega)] at hx
    exact Option.some.inj hx
  have hx9 := h3 9 x (by omega) hx
  rw [getv, e, getGo_pre _ _ 0 0 (take_mem fun i y hi hy => ⟨h3 i y (by omega) hy, (hl y (List.mem_of_getElem? hy)).2⟩) (by rw [List.length_take]; omega), hd]
  have el : (l.take 9).length = 9 := by rw [List.length_take]; omega
  rw [el, getGo, if_pos ⟨rfl, by omega⟩]
theorem getv_short (l : List Int) (hl : ∀ x ∈ l, 0 ≤ x ∧ x ≤ 255) (h : more 10 l = l.length) (h9 : l.length ≤ 9) : getv l = (0, 0, 4) := by
  obtain ⟨_, _, h3, _⟩ := more_spec 10 l
  have := getGo_pre l [] 0 0 (fun x hx => by
    obtain ⟨i, hi, rfl⟩ := List.getElem_of_mem hx
    exact ⟨h3 i _ (by omega) (List.getElem?_eq_getElem hi), (hl _ hx).2⟩) (by omega)
  rw [List.append_nil] at this
  rw [getv, this, getGo]
theorem getv_at (l : List Int) (hl : ∀ x ∈ l, 0 ≤ x ∧ x ≤ 255) (k : Nat) (x : Int) (h : more 10 l = k) (hk : k ≤ 9) (hx : l[k]? = some x) (hx1 : x < 128) :
    getv l = if k = 9 ∧ 1 < x then (0, 0, 6) else if x = 0 ∧ 0 < k then (0, 0, 3) else (hv (l.take (k + 1)), (k : Int) + 1, 0) := by
  subst h
  obtain ⟨_, h2, h3, _⟩ := more_spec 10 l
  generalize more 10 l = k at *
  have hkl : k < l.length := (List.getElem?_eq_some_iff.1 hx).1
  have e : l = l.take k ++ l.drop k := (List.take_append_drop k l).symm
  have hd : l.drop k = x :: l.drop (k + 1) := by
    rw [List.drop_eq_getElem_cons hkl]
    congr 1
    rw [List.getElem?_eq_getElem hkl] at hx
    exact Option.some.inj hx
  have el : (l.take k).length = k := by rw [List.length_take]; omega
  have ht : l.take (k + 1) = l.take k ++ [x] := by
    rw [List.take_add_one, hx]; rfl
  have hx0 := (hl x (List.mem_of_getElem? hx)).1
  conv => lhs; rw [getv, e, getGo_pre _ _ 0 0 (take_mem fun i y hi hy => ⟨h3 i y (by omega) hy, (hl y (List.mem_of_getElem? hy)).2⟩) (by rw [el]; omega), hd, el, getGo]
  rw [Nat.zero_add, if_pos hx1, ht, hv_append, el, pow128]
  have e4 : (0 : Int) + 128 ^ 0 * hv (l.take k) + x * 128 ^ k = hv (l.take k) + 128 ^ k * hv [x] := by
    simp only [hv]
    rw [Int.emod_eq_of_lt hx0 hx1, Int.mul_comm x]
    simp
  rw [e4]
/-- The sum that the second loop has before the byte 'i'. -/
theorem hv_step (l : List Int) (i k : Nat) (x : Int) (hi : i ≤ k) (hx : l[i]? = some x) : hv ((l.take (k + 1)).drop i) = x % 128 + 128 * hv ((l.take (k + 1)).drop (i + 1)) := by
  have hil : i < (l.take (k + 1)).length := by
    have := (List.getElem?_eq_some_iff.1 hx).1
    rw [List.length_take]; omega
  rw [List.drop_eq_getElem_cons hil, hv]
  have : (l.take (k + 1))[i] = x := by
    rw [List.getElem_take]
    rw [List.getElem?_eq_getElem (by have := (List.getElem?_eq_some_iff.1 hx).1; omega)] at hx
    exact Option.some.inj hx
  rw [this]
theorem hv_small (l : List Int) (i k : Nat) (x : Int) (hk : k ≤ 9) (hx : l[k]? = some x) (hx1 : x < 128) (hx0 : 0 ≤ x) (h9 : k = 9 → x ≤ 1) (hi : i ≤ k) :
    0 ≤ hv ((l.take (k + 1)).drop (i + 1)) ∧ hv ((l.take (k + 1)).drop (i + 1)) ≤ 144115188075855871 := by
  have hkl := (List.getElem?_eq_some_iff.1 hx).1
  have hb := hv_bound ((l.take (k + 1)).drop (i + 1))
  have hlen : ((l.take (k + 1)).drop (i + 1)).length = k - i := by rw [List.length_drop, List.length_take]; omega
  refine ⟨hb.1, ?_⟩
  rw [hlen] at hb
  by_cases h8 : k - i ≤ 8
  · have : ∀ j : Fin 9, (128 : Int) ^ j.val ≤ 72057594037927936 := by decide +kernel
    have := this ⟨k - i, by omega⟩
    simp only at this
    omega
  · obtain rfl : k = 9 := by omega
    obtain rfl : i = 0 := by omega
    have ht : l.take (9 + 1) = l.take 9 ++ [x] := by rw [List.take_add_one, hx]; rfl
    rw [ht, List.drop_append_of_le_length (by rw [List.length_take]; omega), hv_append]
    have hb2 := hv_bound ((l.take 9).drop (0 + 1))
    have hl2 : ((l.take 9).drop (0 + 1)).length = 8 := by rw [List.length_drop, List.length_take]; omega
    rw [hl2] at hb2 ⊢
    have hx9 := h9 rfl
    have e : hv [x] = x := by simp [hv]; omega
    rw [e]
    simp at hb2 ⊢
    omega
end Go.Proofs.Ytiemcicgohldeaa

/- The document's Unpacked: the walk; the statement on varint.Get. -/
namespace Go.Proofs.Ytiemcicgohldeaa
open Go.ChangeShapes Go.WideShapes Go.ChangeAt Go.RowKit
set_option linter.unusedVariables false
set_option linter.unusedSimpArgs false
def UnpRel (l : List Int) (K : Nat) (a i : Value) : Prop :=
  ∃ (j : Nat) (m q : Int), j ≤ K + 1 ∧ Hid (m = hv ((l.take (K + 1)).drop j)) ∧ Hid (q = (j : Int) - 1) ∧ i = .int .i64 q ∧ a = .int .u64 m
def tri (a b c : Int) : Value := .tuple #[.int .u64 a, .int .i64 b, .int .i64 c]
set_option maxHeartbeats 4000000 in
theorem unpacked_walk (l : List Int) (w : World) (A : Option Addr) (n c : Nat) (hr : Rd w w.heap.size A 1 n (l.flatMap u8c)) (hl : ∀ x ∈ l, 0 ≤ x ∧ x ≤ 255) (hn : n ≤ 9223372036854775807) :
    Calls Try.prog 58 #[.slice A n c] w fun e w' => e = .returned (tri (getv l).1 (getv l).2.1 (getv l).2.2) ∧ w = w' := by
  have hlen : l.length = n := by
    have h1 := hr.1
    have h2 := (flatMap_get (l := l) (cells := u8c) (sz := 1) (fun _ _ => rfl)).1
    omega
  have hcell : ∀ (k : Nat) (x : Int), l[k]? = some x → ∃ b off, A = some ⟨b, off, none⟩ ∧ w.cell? ⟨b, off + k, none⟩ = some (.int .u8 x) := by
    intro k x hx
    have hk := (List.getElem?_eq_some_iff.1 hx).1
    obtain ⟨b, off, e, _, hc⟩ := hr.at_ (show k < n by omega)
    have := hc _ _ ((flatMap_get (l := l) (cells := u8c) (sz := 1) (fun _ _ => rfl)).2 k x 0 (.int .u8 x) hx rfl)
    simp only [Nat.mul_one, Nat.add_zero] at this
    exact ⟨b, off, e, this⟩
  obtain ⟨m1, m2, m3, m4⟩ := more_spec 10 l
  obtain ⟨K, hK⟩ : ∃ K, more 10 l = K := ⟨_, rfl⟩
  rw [hK] at m1 m2 m3 m4
  have HC := hid hcell
  have HL := hid hlen
  have HLL := hid hl
  have M3 := hid m3
  have M4 := hid m4
  have HK := hid hK
  have mn : K ≤ n := by omega
  clear hcell hlen hl m3 m4 hK m2 hr
  go_enter Try.func58, Try.ntmps58
  go_wp2
  go_loop [5] (fun i => ∃ k : Nat, k ≤ K ∧ i = .int .i64 k) (fun i => K - (intOf i).toNat)
  case atStart => exact ⟨0, by omega, rfl⟩
  case round =>
    obtain ⟨k, hk, rfl⟩ := hrel
    by_cases hlt : k < K
    · obtain ⟨x, hx⟩ : ∃ x, l[k]? = some x := ⟨_, List.getElem?_eq_getElem (by have := HL.out; omega)⟩
      have hx1 := M3.out k x hlt hx
      obtain ⟨b, off, rfl, hc⟩ := HC.out k x hx
      have HX := hid hx
      clear hx
      have hd : decide (128 ≤ x) = true := by simp; omega
      have hk10 : k < 10 := by omega
      have hkn : k < n := by omega
      go_wp2
      go_round
      case rel => exact ⟨k + 1, by omega, by go_num⟩
      case measure => simp [intOf]; omega
    · obtain rfl : k = K := by omega
      rcases (show k = 10 ∨ (k = n ∧ k < 10) ∨ (k < 10 ∧ k < n) by omega) with h10 | ⟨hkn, h10⟩ | ⟨h10, hkn⟩
      · have HV := hid (getv_over l HLL.out (by rw [HK.out, h10]))
        obtain ⟨x, hx⟩ : ∃ x, l[9]? = some x := ⟨_, List.getElem?_eq_getElem (by have := HL.out; omega)⟩
        have hx1 := M3.out 9 x (by omega) hx
        obtain ⟨b, off, rfl, hc⟩ := HC.out 9 x hx
        have HX := hid hx
        subst h10
        rw [show ((10 : Nat) : Int) = 10 from rfl]
        clear hx
        go_wp2
        all_goals go_ret3
        all_goals rw [HV.out]
        all_goals exact ⟨rfl, rfl⟩
      · have HV := hid (getv_short l HLL.out (by rw [HK.out, HL.out, hkn]) (by have := HL.out; omega))
        subst hkn
        go_wp2
        all_goals go_ret3
        all_goals rw [HV.out]
        all_goals exact ⟨rfl, rfl⟩
      · obtain ⟨x, hx⟩ : ∃ x, l[k]? = some x := ⟨_, List.getElem?_eq_getElem (by have := HL.out; omega)⟩
        have hx1 := M4.out h10 x hx
        have hx0 := (HLL.out x (List.mem_of_getElem? hx)).1
        have hV := getv_at l HLL.out k x HK.out (by omega) hx hx1
        have hw := hid (fun (i : Nat) (hi : i ≤ k) (h9 : k = 9 → x ≤ 1) => hv_small l i k x (by omega) hx hx1 hx0 h9 hi)
        obtain ⟨b, off, rfl, hc⟩ := HC.out k x hx
        have HX := hid hx
        clear hx M4 M3
        by_cases hbad : k = 9 ∧ 1 < x
        · have HV := hid hV
          rw [if_pos hbad] at HV
          obtain ⟨rfl, hx2⟩ := hbad
          rw [show ((9 : Nat) : Int) = 9 from rfl]
          clear hV
          go_wp2
          go_ret3
          rw [HV.out]
          exact ⟨rfl, rfl⟩
        · rw [if_neg hbad] at hV
          by_cases hz : x = 0 ∧ 0 < k
          · rw [if_pos hz] at hV
            have HV := hid hV
            obtain ⟨rfl, hk0⟩ := hz
            clear hV
            by_cases h9 : k = 9
            · subst h9
              rw [show ((9 : Nat) : Int) = 9 from rfl]
              go_wp2
              all_goals go_ret3
              all_goals rw [HV.out]
              all_goals exact ⟨rfl, rfl⟩
            · have h9' : k < 9 := by omega
              clear h9
              go_wp2
              all_goals go_ret3
              all_goals rw [HV.out]
              all_goals exact ⟨rfl, rfl⟩
          · rw [if_neg hz] at hV
            have HV := hid hV
            have hw2 := hid (fun (i : Nat) (hi : i ≤ k) => hw.out i hi (by omega))
            have hxz : 0 < k → x ≠ 0 := fun h e => hz ⟨e, h⟩
            clear hV hw hz
            rcases (show k = 9 ∨ k = 0 ∨ (0 < k ∧ k < 9) by omega) with h9 | h0 | ⟨hk0, h9⟩
            · subst h9
              obtain rfl : x = 1 := by have := hxz (by omega); omega
              rw [show ((9 : Nat) : Int) = 9 from rfl]
              clear hxz hbad
              go_wp2
              · go_loop [6, 7] (UnpRel l 9) (fun _ i => (intOf i + 1).toNat)
                case atStart => exact ⟨9 + 1, 0, 9, by omega, hid (by rw [List.drop_eq_nil_of_le (by rw [List.length_take]; omega)]; rfl), hid (by omega), rfl, rfl⟩
                case round =>
                  obtain ⟨j, m, q, hj, HM, HQ, rfl, rfl⟩ := hrel
                  cases j with
                  | zero =>
                    obtain rfl : q = -1 := by have := HQ.out; omega
                    go_wp2
                    go_ret3
                    rw [HV.out]
                    have hM := HM.out
                    rw [List.drop_zero] at hM
                    exact ⟨ret3 hM rfl rfl, rfl⟩
                  | succ i =>
                    obtain rfl : q = (i : Int) := by have := HQ.out; omega
                    obtain ⟨y, hy⟩ : ∃ y, l[i]? = some y := ⟨_, List.getElem?_eq_getElem (by have := HL.out; omega)⟩
                    obtain ⟨hy0, hy1⟩ := HLL.out y (List.mem_of_getElem? hy)
                    obtain ⟨b', off', hA, hc'⟩ := HC.out i y hy
                    injection hA with hA
                    injection hA with hA1 hA2
                    subst hA1
                    subst hA2
                    have HS := hid (hv_step l i 9 y (by omega) hy)
                    have hbd := hw2.out i (by omega)
                    rw [← HM.out] at hbd
                    obtain ⟨hb0, hb1⟩ := hbd
                    have hym : 0 ≤ y % 128 ∧ y % 128 ≤ 127 := by omega
                    obtain ⟨hym0, hym1⟩ := hym
                    have hin : i < n := by omega
                    clear hy
                    go_wp2
                    go_round
                    case rel => exact ⟨i, m * 128 + y % 128, (i : Int) - 1, by omega, hid (by rw [HS.out, ← HM.out]; omega), hid (by omega), rfl, rfl⟩
                    case measure => simp [intOf]
            · subst h0
              rw [show ((0 : Nat) : Int) = 0 from rfl]
              clear hxz hbad
              simp only [Nat.add_zero] at hc
              go_wp2
              · go_loop [6, 7] (UnpRel l 0) (fun _ i => (intOf i + 1).toNat)
                case atStart => exact ⟨0 + 1, 0, 0, by omega, hid (by rw [List.drop_eq_nil_of_le (by rw [List.length_take]; omega)]; rfl), hid (by omega), rfl, rfl⟩
                case round =>
                  obtain ⟨j, m, q, hj, HM, HQ, rfl, rfl⟩ := hrel
                  cases j with
                  | zero =>
                    obtain rfl : q = -1 := by have := HQ.out; omega
                    go_wp2
                    go_ret3
                    rw [HV.out]
                    have hM := HM.out
                    rw [List.drop_zero] at hM
                    exact ⟨ret3 hM rfl rfl, rfl⟩
                  | succ i =>
                    obtain rfl : q = (i : Int) := by have := HQ.out; omega
                    obtain ⟨y, hy⟩ : ∃ y, l[i]? = some y := ⟨_, List.getElem?_eq_getElem (by have := HL.out; omega)⟩
                    obtain ⟨hy0, hy1⟩ := HLL.out y (List.mem_of_getElem? hy)
                    obtain ⟨b', off', hA, hc'⟩ := HC.out i y hy
                    injection hA with hA
                    injection hA with hA1 hA2
                    subst hA1
                    subst hA2
                    have HS := hid (hv_step l i 0 y (by omega) hy)
                    have hbd := hw2.out i (by omega)
                    rw [← HM.out] at hbd
                    obtain ⟨hb0, hb1⟩ := hbd
                    have hym : 0 ≤ y % 128 ∧ y % 128 ≤ 127 := by omega
                    obtain ⟨hym0, hym1⟩ := hym
                    have hin : i < n := by omega
                    clear hy
                    go_wp2
                    go_round
                    case rel => exact ⟨i, m * 128 + y % 128, (i : Int) - 1, by omega, hid (by rw [HS.out, ← HM.out]; omega), hid (by omega), rfl, rfl⟩
                    case measure => simp [intOf]
            · have hxb : (x == 0) = false := by simp [hxz hk0]
              clear hxz hbad
              go_wp2
              · go_loop [6, 7] (UnpRel l k) (fun _ i => (intOf i + 1).toNat)
                case atStart => exact ⟨k + 1, 0, k, by omega, hid (by rw [List.drop_eq_nil_of_le (by rw [List.length_take]; omega)]; rfl), hid (by omega), rfl, rfl⟩
                case round =>
                  obtain ⟨j, m, q, hj, HM, HQ, rfl, rfl⟩ := hrel
                  cases j with
                  | zero =>
                    obtain rfl : q = -1 := by have := HQ.out; omega
                    go_wp2
                    go_ret3
                    rw [HV.out]
                    have hM := HM.out
                    rw [List.drop_zero] at hM
                    exact ⟨ret3 hM rfl rfl, rfl⟩
                  | succ i =>
                    obtain rfl : q = (i : Int) := by have := HQ.out; omega
                    obtain ⟨y, hy⟩ : ∃ y, l[i]? = some y := ⟨_, List.getElem?_eq_getElem (by have := HL.out; omega)⟩
                    obtain ⟨hy0, hy1⟩ := HLL.out y (List.mem_of_getElem? hy)
                    obtain ⟨b', off', hA, hc'⟩ := HC.out i y hy
                    injection hA with hA
                    injection hA with hA1 hA2
                    subst hA1
                    subst hA2
                    have HS := hid (hv_step l i k y (by omega) hy)
                    have hbd := hw2.out i (by omega)
                    rw [← HM.out] at hbd
                    obtain ⟨hb0, hb1⟩ := hbd
                    have hym : 0 ≤ y % 128 ∧ y % 128 ≤ 127 := by omega
                    obtain ⟨hym0, hym1⟩ := hym
                    have hin : i < n := by omega
                    clear hy
                    go_wp2
                    go_round
                    case rel => exact ⟨i, m * 128 + y % 128, (i : Int) - 1, by omega, hid (by rw [HS.out, ← HM.out]; omega), hid (by omega), rfl, rfl⟩
                    case measure => simp [intOf]
theorem flat_u8 (l : List Int) : l.flatMap u8c = l.map (Value.int .u8) := by
  induction l with
  | nil => rfl
  | cons x l ih => rw [List.flatMap_cons, List.map_cons, ih]; rfl
/-- varint.Get, at cells that are told one by one. -/
theorem get_any (l : List Int) (w : World) (A : Option Addr) (n c : Nat) (hr : Rd w w.heap.size A 1 n (l.flatMap u8c)) (hl : ∀ x ∈ l, 0 ≤ x ∧ x ≤ 255) (hn : n ≤ 9223372036854775807) :
    Calls Try.prog 54 #[.slice A n c] w fun e w' => e = .returned (tri (getv l).1 (getv l).2.1 (getv l).2.2) ∧ w = w' :=
  get_walk l w A n c (by rw [← flat_u8]; exact hr) hl hn
end Go.Proofs.Ytiemcicgohldeaa

/- varint.Ungap: the reader. -/
namespace Go.Proofs.Ytiemcicgohldeaa
open Go.ChangeShapes Go.WideShapes Go.ChangeAt Go.RowKit
set_option linter.unusedVariables false
set_option linter.unusedSimpArgs false
def NextR (w : World) (R : Nat) (r : Int × Int × Int) (at_ : Nat) (e : Ending) (w' : World) : Prop :=
  e = .returned (.tuple #[.int .u64 r.1, .int .i64 r.2.2]) ∧ ∃ q, w' = (w.drewN q).setCell ⟨R, 1, none⟩ (.int .i64 ((at_ : Int) + r.2.1))
set_option maxHeartbeats 1000000 in
theorem next_some (l : List Int) (w : World) (R B : Nat) (A : Option Addr) (n c at_ : Nat) (hc0 : w.cell? ⟨R, 0, none⟩ = some (.slice A n c)) (hc1 : w.cell? ⟨R, 1, none⟩ = some (.int .i64 at_)) (hf : w.frozen? ⟨R, 1, none⟩ = false)
    (hr : Rd w B A 1 n (l.flatMap u8c)) (hl : ∀ x ∈ l, 0 ≤ x ∧ x ≤ 255) (hn : n ≤ 140737488355328) (hcap : n ≤ c) (hat : at_ ≤ n) (hne : ¬ c = at_) :
    Calls Try.prog 78 #[.pointer (some ⟨R, 0, none⟩)] w (NextR w R (getv (l.drop at_)) at_) := by
  have hll : l.length = n := by have := hr.1; rw [(flatMap_get (l := l) (cells := u8c) (sz := 1) (fun _ _ => rfl)).1] at this; omega
  have hg := getv_ok (l.drop at_) (fun x hx => hl x (List.mem_of_mem_drop hx))
  rw [List.length_drop, hll] at hg
  have hcut := hr.cut (k := at_) (cap := c) hat hcap
  rw [if_neg hne, drop_flat (cells := u8c) (sz := 1) (fun _ => rfl)] at hcut
  rw [Nat.mul_one] at hcut
  have hget0 := (fun k => get_any (l.drop at_) (w.drewN k) (Option.map (fun x => x.add at_) A) (n - at_) (c - at_) (hcut.any (by decide)) (fun x hx => hl x (List.mem_of_mem_drop hx)) (by omega))
  unfold tri at hget0
  have hget := hid hget0
  clear hcut hr hl hll hget0
  generalize getv (l.drop at_) = r at *
  obtain ⟨r1, r2, r3⟩ := r
  have hb : 0 ≤ r2 ∧ r2 ≤ 140737488355328 := by
    rcases hg with ⟨g0, g1, g2, g3, g4⟩ | ⟨g0, g1, g2, g3⟩ <;> simp only at * <;> omega
  obtain ⟨hb0, hb1⟩ := hb
  clear hg
  have z0 : (0 : Int) ≤ (at_ : Int) := by omega
  have z1 : (at_ : Int) ≤ (n : Int) := by omega
  have z2 : (n : Int) ≤ (c : Int) := by omega
  go_enter Try.func78, Try.ntmps78
  go_wp2_with fail
  go_quiet ((go_at_call 54; exact qsame (hget.out _)))
  go_wp2_with fail
  go_ret2
  exact ⟨rfl, nq, rfl⟩
set_option maxHeartbeats 1000000 in
theorem next_none (w : World) (R : Nat) (A : Option Addr) (n : Nat) (hc0 : w.cell? ⟨R, 0, none⟩ = some (.slice A n n)) (hc1 : w.cell? ⟨R, 1, none⟩ = some (.int .i64 n)) (hf : w.frozen? ⟨R, 1, none⟩ = false) (hn : n ≤ 140737488355328) :
    Calls Try.prog 78 #[.pointer (some ⟨R, 0, none⟩)] w (NextR w R (getv []) n) := by
  have hget0 := (fun k => get_any [] (w.drewN k) A 0 0 Rd.nil_ (by simp) (by omega))
  unfold tri at hget0
  have e0 : getv [] = (0, 0, 4) := rfl
  rw [e0] at hget0 ⊢
  have hget := hid hget0
  clear hget0 e0
  have z0 : (0 : Int) ≤ (n : Int) := by omega
  go_enter Try.func78, Try.ntmps78
  go_wp2_with fail
  go_quiet ((go_at_call 54; exact qsame (hget.out _)))
  go_wp2_with fail
  go_ret2
  exact ⟨rfl, nq, by simp⟩
theorem next_walk (l : List Int) (w : World) (R B : Nat) (A : Option Addr) (n c at_ : Nat) (hc0 : w.cell? ⟨R, 0, none⟩ = some (.slice A n c)) (hc1 : w.cell? ⟨R, 1, none⟩ = some (.int .i64 at_)) (hf : w.frozen? ⟨R, 1, none⟩ = false)
    (hr : Rd w B A 1 n (l.flatMap u8c)) (hl : ∀ x ∈ l, 0 ≤ x ∧ x ≤ 255) (hn : n ≤ 140737488355328) (hcap : n ≤ c) (hat : at_ ≤ n) :
    Calls Try.prog 78 #[.pointer (some ⟨R, 0, none⟩)] w (NextR w R (getv (l.drop at_)) at_) := by
  by_cases hne : c = at_
  · subst hne
    obtain rfl : n = c := by omega
    have hll : l.length = n := by have := hr.1; rw [(flatMap_get (l := l) (cells := u8c) (sz := 1) (fun _ _ => rfl)).1] at this; omega
    rw [List.drop_of_length_le (by omega)]
    exact next_none w R A n hc0 hc1 hf hn
  · exact next_some l w R B A n c at_ hc0 hc1 hf hr hl hn hcap hat hne
end Go.Proofs.Ytiemcicgohldeaa

/- varint.Ungap. -/
namespace Go.Proofs.Ytiemcicgohldeaa
open Go.ChangeShapes Go.WideShapes Go.ChangeAt Go.RowKit
set_option linter.unusedVariables false
set_option linter.unusedSimpArgs false
/-- A list, a number and an error number come back; the list is new memory. -/
def RetLN (E sz : Nat) (w : World) (n : Nat) (xs : List Value) (k err : Int) (e : Ending) (w' : World) : Prop :=
  ∃ A c, e = .returned (.tuple #[.slice A n c, .int .i64 k, .int .i64 err]) ∧ w'.ownsRow w.heap.size E sz (.slice A n c) n xs ∧ Below w.heap.size w w'
theorem retLN_nil (E sz : Nat) (w w' : World) (err : Int) (b : Below w.heap.size w w') : RetLN E sz w 0 [] 0 err (.returned (.tuple #[.slice none 0 0, .int .i64 0, .int .i64 err])) w' :=
  ⟨none, 0, rfl, World.ownsRow_nil _ _ _ _, b⟩
def UngRel (l : List Int) (V : List Int × Int × Int) (R : Nat) (v0 : Value) (M : Nat) (w : World) (s t i : Value) (wr : World) : Prop :=
  ∃ (j m c a : Nat) (A : Option Addr) (q : Int) (acc : List Int), j ≤ M ∧ Hid (acc.length = m) ∧ m ≤ j ∧ a ≤ l.length ∧ i = .int .u64 j ∧ t = .int .u64 q ∧ s = .slice A m c ∧ 0 ≤ q ∧ q ≤ 1152921504606846976 ∧ Hid (V = ungGo l (M - j) a q acc) ∧
    wr.ownsRow (R + 1) 3 1 (.slice A m c) m (acc.flatMap i64c) ∧ Below w.heap.size w wr ∧ R < wr.heap.size ∧ wr.cell? ⟨R, 0, none⟩ = some v0 ∧ wr.cell? ⟨R, 1, none⟩ = some (.int .i64 a) ∧ wr.frozen? ⟨R, 1, none⟩ = false
set_option maxRecDepth 100000 in
set_option maxHeartbeats 2000000 in
theorem ungap_walk (l : List Int) (w : World) (A : Option Addr) (n c : Nat) (hr : Rd w w.heap.size A 1 n (l.flatMap u8c)) (hL : l.length = n) (hl : ∀ x ∈ l, 0 ≤ x ∧ x ≤ 255) (hn : n ≤ 140737488355328) (hcap : n ≤ c) :
    Calls Try.prog 57 #[.slice A n c] w (RetLN 3 1 w (ungV l).1.length ((ungV l).1.flatMap i64c) (ungV l).2.1 (ungV l).2.2) := by
  have HV : Hid (ungV l = if (getv l).2.2 ≠ 0 then ([], 0, (getv l).2.2) else if 2000 < (getv l).1 then ([], 0, 1) else ungGo l (getv l).1.toNat (getv l).2.1.toNat 0 []) := hid rfl
  have hg := getv_ok l hl
  have hnx := hid (fun w' B at_ => next_walk l w' w.heap.size B A n c at_)
  have HLl := hid hL
  have HB := hid hl
  have h0 := getv_ok l hl
  have e0 : l.drop 0 = l := List.drop_zero
  generalize hq : getv l = r at *
  have HQ := hid hq
  clear hq hl hL h0
  generalize ungV l = V at *
  obtain ⟨r1, r2, r3⟩ := r
  simp only at HV
  have b0 := bA (Below.refl w.heap.size w) (.cells #[.slice A n c, .int .i64 0] 125)
  have r0 := rdb hr (by decide) b0
  rcases hg with ⟨g0, g1, g2, g3, g4⟩ | ⟨g0, g1, g2, g3⟩
  · simp only at g0 g1 g2 g3 g4
    subst g0
    obtain ⟨a0, rfl⟩ := Int.eq_ofNat_of_zero_le (show 0 ≤ r2 by omega)
    obtain ⟨M, rfl⟩ := Int.eq_ofNat_of_zero_le g1
    by_cases hM : 2000 < M
    · have HV2 : Hid (V = ([], 0, 1)) := hid (by rw [HV.out, if_neg (by simp), if_pos (by omega)])
      have hMi : (2000 : Int) < (M : Int) := by omega
      go_enter Try.func57, Try.ntmps57
      go_wp2_with fail
      refine (hnx.out _ _ 0 (by go_simp) (by go_simp) (by go_simp) r0 HB.out hn hcap (Nat.zero_le _)).mono ?_
      rintro e w1 ⟨rfl, q, rfl⟩
      rw [e0, HQ.out]
      go_wp2_with fail
      go_ret3
      rw [HV2.out]
      exact retLN_nil _ _ _ _ _ (bS (bN b0 _) (by simp) _)
    · have HV2 : Hid (V = ungGo l M a0 0 []) := hid (by rw [HV.out, if_neg (by simp), if_neg (by omega)]; simp)
      have hMi : (M : Int) ≤ 2000 := by omega
      clear HV hM
      go_enter Try.func57, Try.ntmps57
      go_wp2_with fail
      refine (hnx.out _ _ 0 (by go_simp) (by go_simp) (by go_simp) r0 HB.out hn hcap (Nat.zero_le _)).mono ?_
      rintro e w1 ⟨rfl, q, rfl⟩
      rw [e0, HQ.out]
      go_wp2_with fail
      go_loopw [8, 9, 26] (UngRel l V w.heap.size (.slice A n c) M w) (fun _ _ i _ => M - (intOf i).toNat)
      case atStart => exact ⟨0, 0, 0, a0, none, 0, [], by omega, hid rfl, by omega, by omega, rfl, rfl, rfl, by omega, by omega, hid (by rw [HV2.out]; rfl), World.ownsRow_nil _ _ _ _, bS (bN b0 _) (by simp) _, by simp, by go_simp, by go_simp, by go_simp⟩
      case round =>
        obtain ⟨j, m, c', a, A', q', acc, hj, HA, hmj, ha, rfl, rfl, rfl, hq0, hq1, HU, hown, hbel, hsz, k0, k1, kf⟩ := hrel
        by_cases hlt : j < M
        · obtain ⟨t, ht⟩ : ∃ t, M - j = t + 1 := ⟨M - j - 1, by omega⟩
          have HU2 := HU.out
          rw [ht, ungGo] at HU2
          have hg := getv_ok (l.drop a) (fun x hx => HB.out x (List.mem_of_mem_drop hx))
          have HN := hid (hnx.out wr w.heap.size a k0 k1 kf (hr.below hbel) HB.out hn hcap (by rw [← HLl.out]; exact ha))
          rw [List.length_drop] at hg
          generalize getv (l.drop a) = r at HU2 hg HN
          obtain ⟨r1, r2, r3⟩ := r
          simp only at HU2
          have HT := hid ht
          clear ht HU
          rcases hg with ⟨g0, g1, g2, g3, g4⟩ | ⟨g0, g1, g2, g3⟩
          · simp only at g0 g1 g2 g3 g4
            subst g0
            obtain ⟨k, rfl⟩ := Int.eq_ofNat_of_zero_le (show 0 ≤ r2 by omega)
            rw [if_neg (by simp)] at HU2
            by_cases hov : 1152921504606846976 < q' + r1
            · rw [if_pos hov] at HU2
              have HV3 := hid HU2
              clear HU2
              have hd : 1152921504606846976 < r1 ∨ (r1 ≤ 1152921504606846976 ∧ 1152921504606846976 < q' + r1) := by omega
              clear hov
              rcases hd with hd | ⟨hd, hd2⟩
              all_goals
                go_wp2_with fail
                refine HN.out.mono ?_
                rintro e w2 ⟨rfl, q2, rfl⟩
                go_wp2_with fail
                go_ret3
                rw [HV3.out]
                exact retLN_nil _ _ _ _ _ (bS (bN hbel _) (Nat.le_refl _) _)
            · rw [if_neg hov] at HU2
              have HV3 := hid HU2
              clear HU2
              have hov1 : r1 ≤ 1152921504606846976 := by omega
              have hov2 : q' + r1 ≤ 1152921504606846976 := by omega
              have hm8 : (m + 1) * 8 ≤ 140737488355328 := by omega
              have hown2 := fun (q2 : Nat) => ((ownsRow_setCell_below (show (wr.drewN q2).ownsRow _ _ _ _ _ _ from hown) (show (⟨w.heap.size, 1, none⟩ : Addr).block < w.heap.size + 1 by simp) (.int .i64 ((a : Int) + (k : Int)))).alloc (.cells #[.int .i64 (q' + r1)] 3))
              have HO := hid hown2
              clear hov hown2
              go_wp2_with fail
              refine HN.out.mono ?_
              rintro e w2 ⟨rfl, q2, rfl⟩
              go_wp2_with (at_builtin; refine wp_app1 _ rfl rfl el_ints rfl (HO.out q2) rfl (rd_newAt _ _ _ 1 1 wr.heap.size (by simp) rfl) (ints_one .i64 [q' + r1]) hm8 (by simp; omega) ?_; intro A3 c3 w3 hown3 hb3 hg3)
              have hk0 : w3.cell? ⟨w.heap.size, 0, none⟩ = some (.slice A n c) := (hb3.cell (p := ⟨w.heap.size, 0, none⟩) (by simp)).trans (by go_simp)
              have hk1 : w3.cell? ⟨w.heap.size, 1, none⟩ = some (.int .i64 ((a : Int) + (k : Int))) := (hb3.cell (p := ⟨w.heap.size, 1, none⟩) (by simp)).trans (by go_simp)
              have hkf : w3.frozen? ⟨w.heap.size, 1, none⟩ = false := (hb3.frozen (p := ⟨w.heap.size, 1, none⟩) (by simp)).trans (by go_simp)
              have hs3 : w.heap.size < w3.heap.size := by have := hb3.size; simp at this; omega
              go_roundw
              case rel =>
                refine ⟨j + 1, m + 1, c3, a + k, A3, q' + r1, acc ++ [q' + r1], by omega, hid (by rw [List.length_append, HA.out]; rfl), by omega, by omega, by go_num, rfl, rfl, by omega, by omega, hid ?_, by rw [List.flatMap_append]; exact hown3, ?_, hs3, hk0, by rw [Int.natCast_add]; exact hk1, hkf⟩
                · rw [HV3.out, show M - (j + 1) = t by have := HT.out; omega, Int.toNat_natCast]
                · exact (bA (bS (bN hbel _) (Nat.le_refl _) _) _).trans (hb3.mono (by omega))
              case measure => simp [intOf]; omega
          · simp only at g0 g1 g2 g3
            subst g2 g3
            have hb : (r3 == 0) = false := by rw [beq_eq_false_iff_ne]; omega
            rw [if_pos (by omega)] at HU2
            have HV3 := hid HU2
            clear HU2
            go_wp2_with fail
            refine HN.out.mono ?_
            rintro e w2 ⟨rfl, q2, rfl⟩
            go_wp2_with fail
            go_ret3
            rw [HV3.out]
            exact retLN_nil _ _ _ _ _ (bS (bN hbel _) (Nat.le_refl _) _)
        · obtain rfl : j = M := by omega
          have HV3 : Hid (V = (acc, (a : Int), 0)) := hid (by rw [HU.out, Nat.sub_self]; rfl)
          clear HU
          go_wp2_with fail
          go_quiet (fail)
          go_wp2_with fail
          go_ret3
          rw [HV3.out]
          simp only
          rw [HA.out]
          exact ⟨A', c', rfl, own_more (show (wr.drewN _).ownsRow _ _ _ _ _ _ from hown) (by omega), bN hbel _⟩
  · simp only at g0 g1 g2 g3
    subst g2 g3
    have hb : (r3 == 0) = false := by rw [beq_eq_false_iff_ne]; omega
    have HV2 : Hid (V = ([], 0, r3)) := hid (by rw [HV.out, if_pos (by simp; omega)])
    clear HV
    go_enter Try.func57, Try.ntmps57
    go_wp2_with fail
    refine (hnx.out _ _ 0 (by go_simp) (by go_simp) (by go_simp) r0 HB.out hn hcap (Nat.zero_le _)).mono ?_
    rintro e w1 ⟨rfl, q, rfl⟩
    rw [e0, HQ.out]
    go_wp2_with fail
    go_ret3
    rw [HV2.out]
    exact retLN_nil _ _ _ _ _ (bS (bN b0 _) (by simp) _)
end Go.Proofs.Ytiemcicgohldeaa

/- frame.Unwrap. -/
namespace Go.Proofs.Ytiemcicgohldeaa
open Go.ChangeShapes Go.WideShapes Go.ChangeAt Go.RowKit
set_option linter.unusedVariables false
set_option linter.unusedSimpArgs false
theorem or32 (a b p : Nat) (k : Nat) (hp : p = 2 ^ k) (ha : a < p) (hb : a + b * p < 4294967296) : bits BinOp.or IntKind.u32 (a : Int) ((b * p : Nat) : Int) = ((a + b * p : Nat) : Int) := by
  have h : bits BinOp.or IntKind.u32 (a : Int) ((b * p : Nat) : Int) = IntKind.u32.wrap ((a ||| (b * p) : Nat) : Int) := by
    simp only [bits, BitVec.toNat_or]
    rw [bv32 a (by omega), bv32 (b * p) (by omega)]
  have hor : a ||| (b * p) = a + b * p := by
    have := Nat.two_pow_add_eq_or_of_lt (i := k) (b := a) (by omega) b
    rw [← hp] at this
    rw [Nat.mul_comm b p, Nat.or_comm, ← this, Nat.add_comm]
  rw [h, hor, u32_in' _ hb]
theorem four_bytes {l : List Int} {e : Nat} (h : e + 4 ≤ l.length) (hl : ∀ x ∈ l, 0 ≤ x ∧ x ≤ 255) : ∃ x0 x1 x2 x3 : Nat, (l.drop e).take 4 = [(x0 : Int), x1, x2, x3] ∧ x0 < 256 ∧ x1 < 256 ∧ x2 < 256 ∧ x3 < 256 ∧ l[e]? = some (x0 : Int) ∧ l[e + 1]? = some (x1 : Int) ∧ l[e + 2]? = some (x2 : Int) ∧ l[e + 3]? = some (x3 : Int) := by
  have hlen : ((l.drop e).take 4).length = 4 := by rw [List.length_take, List.length_drop]; omega
  have hb : ∀ x ∈ (l.drop e).take 4, 0 ≤ x ∧ x ≤ 255 := fun x hx => hl x (List.mem_of_mem_drop (List.mem_of_mem_take hx))
  have hget : ∀ j, j < 4 → l[e + j]? = ((l.drop e).take 4)[j]? := fun j hj => by rw [List.getElem?_take, if_pos hj, List.getElem?_drop]
  have g0 := hget 0 (by omega)
  have g1 := hget 1 (by omega)
  have g2 := hget 2 (by omega)
  have g3 := hget 3 (by omega)
  match hq : (l.drop e).take 4, hlen with
  | [a, b, c, d], _ =>
    rw [hq] at hb g0 g1 g2 g3
    obtain ⟨a0, a1⟩ := hb a (by simp)
    obtain ⟨b0, b1⟩ := hb b (by simp)
    obtain ⟨c0, c1⟩ := hb c (by simp)
    obtain ⟨d0, d1⟩ := hb d (by simp)
    obtain ⟨a, rfl⟩ := Int.eq_ofNat_of_zero_le a0
    obtain ⟨b, rfl⟩ := Int.eq_ofNat_of_zero_le b0
    obtain ⟨c, rfl⟩ := Int.eq_ofNat_of_zero_le c0
    obtain ⟨d, rfl⟩ := Int.eq_ofNat_of_zero_le d0
    exact ⟨a, b, c, d, rfl, by omega, by omega, by omega, by omega, g0, g1, g2, g3⟩
set_option maxRecDepth 100000 in
set_option maxHeartbeats 2000000 in
theorem unwrap_ok (l : List Int) (w : World) (A : Option Addr) (L c : Nat) (hr : Rd w w.heap.size A 1 L (l.flatMap u8c)) (hL : l.length = L) (hb : ∀ x ∈ l, 0 ≤ x ∧ x ≤ 255) (hn : L ≤ 140737488355328) (hcap : L ≤ c)
    (n k : Nat) (hg : getv l = ((n : Int), (k : Int), 0)) (hn2 : n ≤ 20000) (hlen : k + n + 4 ≤ L) :
    Calls Try.prog 19 #[.slice A L c] w (RetLN 5 1 w (unwV l).1.length ((unwV l).1.flatMap u8c) (unwV l).2.1 (unwV l).2.2) := by
  have hget0 := get_any l w A L c hr hb (by omega)
  unfold tri at hget0
  rw [hg] at hget0
  have HGet := hid hget0
  have HV : Hid (unwV l = if sumV (l.take (k + n)) = unquad ((l.drop (k + n)).take 4) then ((l.drop k).take n, ((k : Int) + (n : Int) + 4), 0) else ([], 0, 5)) := hid (by
    unfold unwV
    rw [hg, if_neg (by simp), if_neg (by simp; omega), if_neg (by simp; omega)]
    simp only [Int.toNat_natCast, show ((k : Int) + (n : Int)).toNat = k + n by omega])
  obtain ⟨x0, x1, x2, x3, hq, y0, y1, y2, y3, g0, g1, g2, g3⟩ := four_bytes (e := k + n) (by omega) hb
  rw [hq] at HV
  obtain ⟨b, off, rfl, hbl, hcell⟩ := hr.2 (by omega)
  have c0 : w.cell? ⟨b, off + (k + n), none⟩ = some (.int .u8 (x0 : Int)) := by
    exact hcell _ _ (by rw [flat_u8, List.getElem?_map, g0]; rfl)
  have c1 : w.cell? ⟨b, off + (k + n) + 1, none⟩ = some (.int .u8 (x1 : Int)) := by
    rw [Nat.add_assoc]; exact hcell _ _ (by rw [flat_u8, List.getElem?_map, g1]; rfl)
  have c2 : w.cell? ⟨b, off + (k + n) + 2, none⟩ = some (.int .u8 (x2 : Int)) := by
    rw [Nat.add_assoc]; exact hcell _ _ (by rw [flat_u8, List.getElem?_map, g2]; rfl)
  have c3 : w.cell? ⟨b, off + (k + n) + 3, none⟩ = some (.int .u8 (x3 : Int)) := by
    rw [Nat.add_assoc]; exact hcell _ _ (by rw [flat_u8, List.getElem?_map, g3]; rfl)
  have hE : k + n + 4 - (k + n) = 4 := by omega
  have HLl := hid hL
  have HB := hid hb
  clear hq g0 g1 g2 g3 hcell hget0 hg hL hb
  have z1 : (k : Int) + (n : Int) + 4 ≤ (L : Int) := by omega
  have z2 : (L : Int) ≤ (c : Int) := by omega
  have z3 : (n : Int) ≤ 20000 := by omega
  obtain ⟨s1, s2, s3, HU, o0, o1, o2, o3, hs3⟩ : ∃ s1 s2 s3 : Nat, Hid (unquad [(x0 : Int), x1, x2, x3] = (s3 : Int)) ∧ bits BinOp.or IntKind.u32 0 (x0 : Int) = (x0 : Int) ∧ bits BinOp.or IntKind.u32 (x0 : Int) ((x1 : Int) * 256) = (s1 : Int) ∧
      bits BinOp.or IntKind.u32 (s1 : Int) ((x2 : Int) * 65536) = (s2 : Int) ∧ bits BinOp.or IntKind.u32 (s2 : Int) ((x3 : Int) * 16777216) = (s3 : Int) ∧ s3 < 4294967296 := by
    refine ⟨x0 + x1 * 256, x0 + x1 * 256 + x2 * 65536, x0 + x1 * 256 + x2 * 65536 + x3 * 16777216, hid (by simp [unquad]; omega), ?_, ?_, ?_, ?_, by omega⟩
    · have := or32 0 x0 1 0 rfl (by omega) (by omega); simpa using this
    · have := or32 x0 x1 256 8 rfl (by omega) (by omega); simpa using this
    · have := or32 (x0 + x1 * 256) x2 65536 16 rfl (by omega) (by omega); simpa using this
    · have := or32 (x0 + x1 * 256 + x2 * 65536) x3 16777216 24 rfl (by omega) (by omega); simpa using this
  have ht := (hr.take (k := k + n) (by omega))
  rw [take_flat (cells := u8c) (sz := 1) (fun _ => rfl)] at ht
  have HSum := hid (sum_walk (l.take (k + n)) w (some ⟨b, off, none⟩) (k + n) c ht (by rw [List.length_take, HLl.out]; omega) (fun x hx => HB.out x (List.mem_of_mem_take hx)) (by omega))
  have hE2 : k + n - k = n := by omega
  have hrd : Rd w w.heap.size (some ⟨b, off + k, none⟩) 1 n (((l.drop k).take n).flatMap u8c) := by
    have h1 := (hr.cut (k := k) (cap := k + 1 + L) (by omega) (by omega)).take (k := n) (by omega)
    rw [if_neg (by omega), drop_flat (cells := u8c) (sz := 1) (fun _ => rfl), take_flat (cells := u8c) (sz := 1) (fun _ => rfl), Nat.mul_one] at h1
    simpa [addr_add] using h1
  have HRd := hid hrd
  clear ht hrd
  rw [HU.out] at HV
  have hdl : Hid (((l.drop k).take n).length = n) := hid (by rw [List.length_take, List.length_drop, HLl.out]; omega)
  generalize sumV (l.take (k + n)) = S at *
  by_cases hS : S = (s3 : Int)
  · rw [if_pos hS] at HV
    have hSb : ((s3 : Int) == S) = true := by simp [hS]
    have HVV := hid HV.out
    clear HV hS
    go_enter Try.func19, Try.ntmps19
    go_wp2_with fail
    refine HGet.out.mono ?_
    rintro e w1 ⟨rfl, rfl⟩
    go_wp2_with fail
    refine wp_loop_rounds 5 ?_
    iterate 5 (rw [rounds_succ]; go_wp2_with fail)
    refine HSum.out.mono ?_
    rintro e w2 ⟨rfl, b2⟩
    have r2 : Rd w2 w.heap.size (some ⟨b, off + k, none⟩) 1 (k + n - k) (((l.drop k).take n).flatMap u8c) := by rw [hE2]; exact HRd.out.below b2
    have HEE := hid hE2
    clear hE2
    go_wp2_with (at_builtin; refine wp_app0 _ rfl rfl el_bytes rfl rfl r2 (one_u8 _) (by omega) (Nat.le_refl _) ?_; intro A3 c3 w3 o3 b3)
    go_ret3
    rw [HVV.out]
    simp only
    rw [hdl.out]
    rw [HEE.out] at o3
    exact ⟨A3, c3, rfl, own_more o3 b2.size, bT b2 b3⟩
  · rw [if_neg hS] at HV
    have hSb : ((s3 : Int) == S) = false := by simpa using fun e : (s3 : Int) = S => hS e.symm
    have HVV := hid HV.out
    clear HV hS
    go_enter Try.func19, Try.ntmps19
    go_wp2_with fail
    refine HGet.out.mono ?_
    rintro e w1 ⟨rfl, rfl⟩
    go_wp2_with fail
    refine wp_loop_rounds 5 ?_
    iterate 5 (rw [rounds_succ]; go_wp2_with fail)
    refine HSum.out.mono ?_
    rintro e w2 ⟨rfl, b2⟩
    go_wp2_with fail
    go_ret3
    rw [HVV.out]
    exact retLN_nil _ _ _ _ _ b2
end Go.Proofs.Ytiemcicgohldeaa

/- The document's Unwrapped. -/
namespace Go.Proofs.Ytiemcicgohldeaa
open Go.ChangeShapes Go.WideShapes Go.ChangeAt Go.RowKit
set_option linter.unusedVariables false
set_option linter.unusedSimpArgs false
theorem unwV_cases (l : List Int) (h : ∀ x ∈ l, 0 ≤ x ∧ x ≤ 255) :
    (∃ e, getv l = (0, 0, e) ∧ 0 < e ∧ unwV l = ([], 0, e)) ∨
    (∃ n k : Nat, getv l = ((n : Int), (k : Int), 0) ∧ 1 ≤ k ∧ k ≤ l.length ∧ (n : Int) ≤ 18446744073709551615 ∧ ((20000 < n ∧ unwV l = ([], 0, 1)) ∨ (n ≤ 20000 ∧ l.length < k + n + 4 ∧ unwV l = ([], 0, 4)) ∨ (n ≤ 20000 ∧ k + n + 4 ≤ l.length))) := by
  have hg := getv_ok l h
  obtain ⟨V, HV⟩ : ∃ V, V = unwV l := ⟨_, rfl⟩
  rw [← HV]
  unfold unwV at HV
  generalize getv l = r at *
  obtain ⟨r1, r2, r3⟩ := r
  rcases hg with ⟨g0, g1, g2, g3, g4⟩ | ⟨g0, g1, g2, g3⟩
  · simp only at g0 g1 g2 g3 g4
    subst g0
    obtain ⟨k, rfl⟩ := Int.eq_ofNat_of_zero_le (show 0 ≤ r2 by omega)
    obtain ⟨n, rfl⟩ := Int.eq_ofNat_of_zero_le g1
    refine .inr ⟨n, k, rfl, by omega, by omega, by omega, ?_⟩
    simp only at HV
    rw [if_neg (by simp)] at HV
    by_cases h1 : 20000 < n
    · rw [if_pos (by omega)] at HV
      exact .inl ⟨h1, HV⟩
    · rw [if_neg (by omega)] at HV
      by_cases h2 : l.length < k + n + 4
      · rw [if_pos (by omega)] at HV
        exact .inr (.inl ⟨by omega, h2, HV⟩)
      · exact .inr (.inr ⟨by omega, by omega⟩)
  · simp only at g0 g1 g2 g3
    subst g2 g3
    refine .inl ⟨r3, rfl, g0, ?_⟩
    simp only at HV
    rw [if_pos (by omega)] at HV
    exact HV
set_option maxRecDepth 100000 in
set_option maxHeartbeats 2000000 in
theorem unwrap_walk (l : List Int) (w : World) (A : Option Addr) (L c : Nat) (hr : Rd w w.heap.size A 1 L (l.flatMap u8c)) (hL : l.length = L) (hb : ∀ x ∈ l, 0 ≤ x ∧ x ≤ 255) (hn : L ≤ 140737488355328) (hcap : L ≤ c) :
    Calls Try.prog 19 #[.slice A L c] w (RetLN 5 1 w (unwV l).1.length ((unwV l).1.flatMap u8c) (unwV l).2.1 (unwV l).2.2) := by
  have hget0 := get_any l w A L c hr hb (by omega)
  unfold tri at hget0
  rcases unwV_cases l hb with ⟨e, h1, h2, h3⟩ | ⟨n, k, h1, h2, h4, h5, ⟨h6, h7⟩ | ⟨h6, h7, h8⟩ | ⟨h6, h7⟩⟩
  · rw [h1] at hget0
    have HGet := hid hget0
    have HV := hid h3
    have hbb : (e == 0) = false := by rw [beq_eq_false_iff_ne]; omega
    clear hget0 h1 h3
    go_enter Try.func19, Try.ntmps19
    go_wp2_with fail
    refine HGet.out.mono ?_
    rintro e w1 ⟨rfl, rfl⟩
    go_wp2_with fail
    go_ret3
    rw [HV.out]
    exact retLN_nil _ _ _ _ _ (Below.refl _ _)
  · rw [h1] at hget0
    have HGet := hid hget0
    have HV := hid h7
    have z1 : (20000 : Int) < (n : Int) := by omega
    clear hget0 h1 h7
    go_enter Try.func19, Try.ntmps19
    go_wp2_with fail
    refine HGet.out.mono ?_
    rintro e w1 ⟨rfl, rfl⟩
    go_wp2_with fail
    go_ret3
    rw [HV.out]
    exact retLN_nil _ _ _ _ _ (Below.refl _ _)
  · rw [h1] at hget0
    have HGet := hid hget0
    have HV := hid h8
    have z1 : (n : Int) ≤ 20000 := by omega
    have z2 : (L : Int) < (k : Int) + (n : Int) + 4 := by omega
    clear hget0 h1 h8
    go_enter Try.func19, Try.ntmps19
    go_wp2_with fail
    refine HGet.out.mono ?_
    rintro e w1 ⟨rfl, rfl⟩
    go_wp2_with fail
    go_ret3
    rw [HV.out]
    exact retLN_nil _ _ _ _ _ (Below.refl _ _)
  · exact unwrap_ok l w A L c hr hL hb hn hcap n k h1 h6 (by omega)
def UwRel (l : List Int) (k n : Nat) (w : World) (p i : Value) (wr : World) : Prop :=
  ∃ (q j c : Nat) (A : Option Addr), Hid (q = k + j) ∧ j ≤ n ∧ i = .int .i64 (q : Int) ∧ p = .slice A j c ∧ wr.ownsRow w.heap.size 5 1 (.slice A j c) j (((l.drop k).take j).flatMap u8c) ∧ Below w.heap.size w wr
def UwEq (l m : List Int) (w2 : World) (i : Value) (wr : World) : Prop := ∃ j : Nat, j ≤ m.length ∧ i = .int .i64 j ∧ Hid (∀ q, q < j → m[q]? = l[q]?) ∧ ∃ nq, wr = w2.drewN nq
theorem drop_take_next {α : Type} {l : List α} {k j : Nat} {x : α} (h : l[k + j]? = some x) : (l.drop k).take (j + 1) = (l.drop k).take j ++ [x] := by
  rw [List.take_add_one, List.getElem?_drop, h]; rfl
theorem own_drewN {w : World} {base : Nat} {e : TypeId} {size : Nat} {v : Value} {n : Nat} {xs : List Value} (h : w.ownsRow base e size v n xs) (k : Nat) : (w.drewN k).ownsRow base e size v n xs := h
theorem u8_cell {w : World} {B n k : Nat} {A : Option Addr} {l : List Int} {x : Int} (h : Rd w B A 1 n (l.flatMap u8c)) (hL : l.length = n) (hk : l[k]? = some x) : ∃ b off, A = some ⟨b, off, none⟩ ∧ b < B ∧ w.cell? ⟨b, off + k, none⟩ = some (.int .u8 x) := by
  have hk' := (List.getElem?_eq_some_iff.1 hk).1
  obtain ⟨b, off, rfl, hb, hc⟩ := h.2 (by omega)
  exact ⟨b, off, rfl, hb, hc _ _ (by rw [flat_u8, List.getElem?_map, hk]; rfl)⟩
set_option maxRecDepth 100000 in
set_option maxHeartbeats 2000000 in
theorem unwrapped_walk (l : List Int) (w : World) (A : Option Addr) (L c : Nat) (hr : Rd w w.heap.size A 1 L (l.flatMap u8c)) (hL : l.length = L) (hb : ∀ x ∈ l, 0 ≤ x ∧ x ≤ 255) (hn : L ≤ 140737488355328) (hcap : L ≤ c) :
    Calls Try.prog 25 #[.slice A L c] w (RetLN 5 1 w (unwV l).1.length ((unwV l).1.flatMap u8c) (unwV l).2.1 (unwV l).2.2) := by
  have hget0 := unpacked_walk l w A L c hr hb (by omega)
  unfold tri at hget0
  rcases unwV_cases l hb with ⟨e, h1, h2, h3⟩ | ⟨n, k, h1, h2, h4, h5, ⟨h6, h7⟩ | ⟨h6, h7, h8⟩ | ⟨h6, h7⟩⟩
  · rw [h1] at hget0
    have HGet := hid hget0
    have HV := hid h3
    have hbb : (e == 0) = false := by rw [beq_eq_false_iff_ne]; omega
    clear hget0 h1 h3
    go_enter Try.func25, Try.ntmps25
    go_wp2_with fail
    refine HGet.out.mono ?_
    rintro e w1 ⟨rfl, rfl⟩
    go_wp2_with fail
    go_ret3
    rw [HV.out]
    exact retLN_nil _ _ _ _ _ (Below.refl _ _)
  · rw [h1] at hget0
    have HGet := hid hget0
    have HV := hid h7
    have z1 : (20000 : Int) < (n : Int) := by omega
    clear hget0 h1 h7
    go_enter Try.func25, Try.ntmps25
    go_wp2_with fail
    refine HGet.out.mono ?_
    rintro e w1 ⟨rfl, rfl⟩
    go_wp2_with fail
    go_ret3
    rw [HV.out]
    exact retLN_nil _ _ _ _ _ (Below.refl _ _)
  · rw [h1] at hget0
    have HGet := hid hget0
    have HV := hid h8
    have z1 : (n : Int) ≤ 20000 := by omega
    have z2 : (L : Int) - (k : Int) < (n : Int) + 4 := by omega
    clear hget0 h1 h8
    go_enter Try.func25, Try.ntmps25
    go_wp2_with fail
    refine HGet.out.mono ?_
    rintro e w1 ⟨rfl, rfl⟩
    go_wp2_with fail
    go_ret3
    rw [HV.out]
    exact retLN_nil _ _ _ _ _ (Below.refl _ _)
  · have hws := wrap_same hb h1 (by omega)
    have HV : Hid (unwV l = if sumV (l.take (k + n)) = unquad ((l.drop (k + n)).take 4) then ((l.drop k).take n, ((k : Int) + (n : Int) + 4), 0) else ([], 0, 5)) := hid (by
      unfold unwV
      rw [h1, if_neg (by simp), if_neg (by simp; omega), if_neg (by simp; omega)]
      simp only [Int.toNat_natCast, show ((k : Int) + (n : Int)).toNat = k + n by omega])
    rw [h1] at hget0
    have HGet := hid hget0
    obtain ⟨hw1, hw2, hw3⟩ := hws
    have hpl : ((l.drop k).take n).length = n := by rw [List.length_take, List.length_drop]; omega
    have hpb : ∀ x ∈ (l.drop k).take n, 0 ≤ x ∧ x ≤ 255 := fun x hx => hb x (List.mem_of_mem_drop (List.mem_of_mem_take hx))
    have hwv : wrapV ((l.drop k).take n) = (wrapB ((l.drop k).take n), 0) := wrapV_ok (by omega)
    have HWr := hid (fun w A m c hr hL => wrapped_walk ((l.drop k).take n) w A m c hr hL hpb)
    rw [hwv] at HWr
    have HW3 := hid hw3
    have HPL := hid hpl
    have HLl := hid hL
    have HB := hid hb
    have hmb : ∀ j x, (wrapB ((l.drop k).take n))[j]? = some x → ∃ u, l[j]? = some u := fun j x hx => ⟨_, List.getElem?_eq_getElem (by have := (List.getElem?_eq_some_iff.1 hx).1; omega)⟩
    have HMB := hid hmb
    clear hget0 h1 hw1 hw3 hpl hpb hwv hmb hL hb
    generalize wrapB ((l.drop k).take n) = m at *
    generalize sumV (l.take (k + n)) = S at *
    generalize unquad ((l.drop (k + n)).take 4) = U at *
    have z1 : (n : Int) ≤ 20000 := by omega
    have z2 : (n : Int) + 4 ≤ (L : Int) - (k : Int) := by have := HLl.out; omega
    have z3 : (L : Int) ≤ 140737488355328 := by omega
    have z4 : k + n + 4 ≤ L := by have := HLl.out; omega
    clear hn h7
    go_enter Try.func25, Try.ntmps25
    go_wp2_with fail
    refine HGet.out.mono ?_
    rintro e w1 ⟨rfl, rfl⟩
    go_wp2_with fail
    go_loopw [8, 9] (UwRel l k n w) (fun _ i _ => k + n - (intOf i).toNat)
    case atStart => exact ⟨k, 0, 0, none, hid rfl, by omega, rfl, rfl, World.ownsRow_nil _ _ _ _, Below.refl _ _⟩
    case round =>
      obtain ⟨q0, j, c', A', HQ0, hj, rfl, rfl, hown, hbel⟩ := hrel
      by_cases hlt : j < n
      · obtain ⟨x, hx⟩ : ∃ x, l[k + j]? = some x := ⟨_, List.getElem?_eq_getElem (by rw [HLl.out]; omega)⟩
        have hx0 : l[q0]? = some x := by rw [HQ0.out]; exact hx
        obtain ⟨b, off, rfl, hb, c0⟩ := u8_cell (hr.below hbel) HLl.out hx0
        have HT := hid (drop_take_next hx)
        have hkj2 : (q0 : Int) < (k : Int) + (n : Int) := by have := HQ0.out; omega
        have hkj3 : (q0 : Int) < (L : Int) := by have := HQ0.out; omega
        clear hx hx0
        go_wp2_with (at_builtin; refine wp_app1 _ rfl rfl el_bytes rfl (hown.alloc _) rfl (rd_new _ _ _ 1 1 rfl) (one1 _ _) (by omega) (Nat.le_trans hbel.size (by simp)) ?_; intro A2 c2 w2 hown2 hb2 hg2)
        go_roundw
        case rel => exact ⟨q0 + 1, j + 1, c2, A2, hid (by rw [HQ0.out]; omega), by omega, by go_num, rfl, by rw [HT.out, List.flatMap_append]; exact hown2, (hbel.alloc hbel.size _).trans hb2⟩
        case measure => simp [intOf]; have := HQ0.out; omega
      · obtain rfl : j = n := by omega
        have hq0 : (q0 : Int) = (k : Int) + (j : Int) := by have := HQ0.out; omega
        rw [hq0]
        clear hq0
        go_wp2_with fail
        refine (HWr.out _ A' j c' (rd_own hown) HPL.out (by omega)).mono ?_
        rintro e w2 ⟨A2, c2, rfl, o2, b2⟩
        have hm := rd_own o2
        have hl2 := hr.below (bT hbel b2)
        have b02 := bT hbel b2
        have hownp := own_below (base' := w.heap.size) hown b2 (Nat.le_refl _)
        by_cases hS : S = U
        · have HE : Hid (m = l.take (k + j + 4)) := hid (HW3.out.2 hS)
          rw [if_pos hS] at HV
          have HVV := hid HV.out
          have hlt' : ¬ (j < j) := hlt
          clear HV hS hlt hlt'
          go_wp2_with fail
          go_loopw [12] (UwEq l m w2) (fun i _ => m.length - (intOf i).toNat)
          case atStart => exact ⟨0, by omega, rfl, hid (fun q h => absurd h (by omega)), 0, rfl⟩
          case round =>
            obtain ⟨q, hq, rfl, HQ, nr, rfl⟩ := hrel
            by_cases hlt : q < m.length
            · obtain ⟨x, hx⟩ : ∃ x, m[q]? = some x := ⟨_, List.getElem?_eq_getElem hlt⟩
              have hx2 : l[q]? = some x := by
                have h := hx
                rw [HE.out, List.getElem?_take] at h
                split at h
                · exact h
                · cases h
              obtain ⟨b, off, rfl, hb, c0⟩ := u8_cell hm rfl hx
              obtain ⟨b', off', rfl, hb', c1⟩ := u8_cell hl2 HLl.out hx2
              have hqm : (q : Int) < (m.length : Int) := by omega
              have hqL : (q : Int) < (L : Int) := by omega
              have HX := hid hx
              have HX2 := hid hx2
              clear hx hx2
              go_wp2_with fail
              go_quiet (fail)
              go_wp2_with fail
              go_roundw
              case rel => exact ⟨q + 1, by omega, by go_num, hid (fun p hp => by
                by_cases e : p = q
                · subst e; rw [HX.out, HX2.out]
                · exact HQ.out p (by omega)), _, rfl⟩
              case measure => simp [intOf]; omega
            · obtain rfl : q = m.length := by omega
              go_wp2_with fail
              go_ret3
              rw [HVV.out]
              simp only
              rw [HPL.out]
              refine ⟨A', c', ?_, own_drewN hownp _, bN b02 _⟩
              rw [hw2]
              simp
        · rw [if_neg hS] at HV
          have HVV := hid HV.out
          have HN := hid (fun h => hS (HW3.out.1 h))
          clear HV hS
          go_wp2_with fail
          go_loopw [12] (UwEq l m w2) (fun i _ => m.length - (intOf i).toNat)
          case atStart => exact ⟨0, by omega, rfl, hid (fun q h => absurd h (by omega)), 0, rfl⟩
          case round =>
            obtain ⟨q, hq, rfl, HQ, nr, rfl⟩ := hrel
            by_cases hlt : q < m.length
            · obtain ⟨x, hx⟩ : ∃ x, m[q]? = some x := ⟨_, List.getElem?_eq_getElem hlt⟩
              obtain ⟨y, hy⟩ := HMB.out q x hx
              obtain ⟨b, off, rfl, hb, c0⟩ := u8_cell hm rfl hx
              obtain ⟨b', off', rfl, hb', c1⟩ := u8_cell hl2 HLl.out hy
              have hqm : (q : Int) < (m.length : Int) := by omega
              have hqL : (q : Int) < (L : Int) := by omega
              have HX := hid hx
              have HX2 := hid hy
              clear hx hy
              by_cases hxy : x = y
              · subst hxy
                go_wp2_with fail
                go_quiet (fail)
                go_wp2_with fail
                go_roundw
                case rel => exact ⟨q + 1, by omega, by go_num, hid (fun p hp => by
                  by_cases e : p = q
                  · subst e; rw [HX.out, HX2.out]
                  · exact HQ.out p (by omega)), _, rfl⟩
                case measure => simp [intOf]; omega
              · have hxb : (x != y) = true := by simpa using hxy
                clear hxy
                go_wp2_with fail
                go_quiet (fail)
                go_wp2_with fail
                go_ret3
                rw [HVV.out]
                exact retLN_nil _ _ _ _ _ (bN (bN b02 _) _)
            · obtain rfl : q = m.length := by omega
              exact absurd (by
                have hll := HLl.out
                apply List.ext_getElem?
                intro p
                by_cases hp : p < m.length
                · rw [HQ.out p hp, List.getElem?_take, if_pos (by omega)]
                · rw [List.getElem?_eq_none (by omega), List.getElem?_eq_none (by rw [List.length_take]; omega)]) HN.out
end Go.Proofs.Ytiemcicgohldeaa

