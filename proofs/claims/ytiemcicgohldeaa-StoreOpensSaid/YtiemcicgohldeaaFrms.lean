/- Crc, FrameBits, FrameSum, FrameSum2: joined. -/
import Derived.Test.YtiemcicgohldeaaMem
import Derived.Deep.MidRow
/- The sum of bytes: bit by bit, and by a table. Plain numbers; no program in sight. -/
namespace Go.Proofs.Ytiemcicgohldeaa
set_option linter.unusedVariables false
set_option linter.unusedSimpArgs false
/-- One bit of the sum. -/
def cstep (x : Nat) : Nat := if x % 2 = 1 then (x / 2) ^^^ 3988292384 else x / 2
def csteps : Nat → Nat → Nat
  | 0, x => x
  | k + 1, x => csteps k (cstep x)
/-- What eight bits do. -/
def ctab (i : Nat) : Nat := csteps 8 i
/-- One byte of the sum. -/
def cbyte (s c : Nat) : Nat := ctab ((s % 256) ^^^ c) ^^^ (s / 256)
theorem xor_mod2 (x b : Nat) : (x ^^^ (2 * b)) % 2 = x % 2 := by
  have := Nat.xor_mod_two_pow (a := x) (b := 2 * b) (n := 1)
  simpa using this
theorem xor_div2 (x b : Nat) : (x ^^^ (2 * b)) / 2 = (x / 2) ^^^ b := by
  have := Nat.xor_div_two_pow (a := x) (b := 2 * b) (n := 1)
  simpa using this
theorem cstep_xor (x b : Nat) : cstep (x ^^^ (2 * b)) = cstep x ^^^ b := by
  unfold cstep
  rw [xor_mod2, xor_div2]
  split
  · rw [Nat.xor_assoc, Nat.xor_comm b, ← Nat.xor_assoc]
  · rfl
theorem csteps_xor : ∀ (k x b : Nat), csteps k (x ^^^ (2 ^ k * b)) = csteps k x ^^^ b
  | 0, x, b => by simp [csteps]
  | k + 1, x, b => by
    have e : 2 ^ (k + 1) * b = 2 * (2 ^ k * b) := by rw [Nat.pow_succ, Nat.mul_comm (2 ^ k) 2, Nat.mul_assoc]
    rw [csteps, csteps, e, cstep_xor, csteps_xor k]
theorem csteps_succ' : ∀ (k x : Nat), csteps (k + 1) x = cstep (csteps k x)
  | 0, x => rfl
  | k + 1, x => by rw [csteps, csteps_succ' k, csteps]
theorem cbyte_eq (s c : Nat) (hc : c < 256) : csteps 8 (s ^^^ c) = cbyte s c := by
  unfold cbyte ctab
  have h1 : (s ^^^ c) = ((s % 256) ^^^ c) ^^^ (2 ^ 8 * (s / 256)) := by
    have e1 : (s % 256) ^^^ (2 ^ 8 * (s / 256)) = s := by
      have h := Nat.two_pow_add_eq_or_of_lt (i := 8) (b := s % 256) (by omega) (s / 256)
      have h2 : (2 ^ 8 * (s / 256)) ^^^ (s % 256) = 2 ^ 8 * (s / 256) + s % 256 := by
        rw [h]
        apply Nat.eq_of_testBit_eq
        intro i
        rw [Nat.testBit_xor, Nat.testBit_or]
        by_cases hi : i < 8
        · have : (2 ^ 8 * (s / 256)).testBit i = false := by
            rw [Nat.testBit_two_pow_mul]; simp; omega
          rw [this]; simp
        · have : (s % 256).testBit i = false := by
            apply Nat.testBit_lt_two_pow
            calc s % 256 < 256 := by omega
              _ = 2 ^ 8 := rfl
              _ ≤ 2 ^ i := Nat.pow_le_pow_right (by omega) (by omega)
          rw [this]; simp
      rw [Nat.xor_comm, h2]
      omega
    rw [Nat.xor_assoc, Nat.xor_comm c, ← Nat.xor_assoc, e1]
  rw [h1, csteps_xor]
theorem cstep_lt {x : Nat} (h : x < 4294967296) : cstep x < 4294967296 := by
  unfold cstep
  split
  · exact Nat.xor_lt_two_pow (n := 32) (by omega) (by omega)
  · omega
theorem csteps_lt : ∀ (k : Nat) {x : Nat}, x < 4294967296 → csteps k x < 4294967296
  | 0, x, h => h
  | k + 1, x, h => csteps_lt k (cstep_lt h)
theorem ctab_lt {i : Nat} (h : i < 4294967296) : ctab i < 4294967296 := csteps_lt 8 h
theorem cbyte_lt {s c : Nat} (hs : s < 4294967296) (hc : c < 256) : cbyte s c < 4294967296 := by
  rw [← cbyte_eq s c hc]
  exact csteps_lt 8 (Nat.xor_lt_two_pow (n := 32) (by omega) (by omega))
/-- After so many bits of the byte c: the sum and the rest of the byte. -/
def cpair : Nat → Nat → Nat → Nat × Nat
  | 0, s, c => (s, c)
  | k + 1, s, c => cpair k (if (s + c) % 2 = 1 then (s / 2) ^^^ 3988292384 else s / 2) (c / 2)
theorem add_mod2 (s c : Nat) : (s + c) % 2 = (s ^^^ c) % 2 := by
  have := Nat.xor_mod_two_pow (a := s) (b := c) (n := 1)
  simp only [Nat.pow_one] at this
  rw [this]
  have h1 : s % 2 = 0 ∨ s % 2 = 1 := by omega
  have h2 : c % 2 = 0 ∨ c % 2 = 1 := by omega
  rcases h1 with h1 | h1 <;> rcases h2 with h2 | h2 <;> rw [h1, h2, Nat.add_mod, h1, h2] <;> rfl
theorem cpair_xor : ∀ (k s c : Nat), (cpair k s c).1 ^^^ (cpair k s c).2 = csteps k (s ^^^ c)
  | 0, s, c => rfl
  | k + 1, s, c => by
    rw [cpair, csteps, cpair_xor k]
    congr 1
    unfold cstep
    rw [add_mod2]
    have h2 := Nat.xor_div_two_pow (a := s) (b := c) (n := 1)
    simp only [Nat.pow_one] at h2
    rw [h2]
    split
    · rw [Nat.xor_assoc, Nat.xor_comm _ (c / 2), ← Nat.xor_assoc]
    · rfl
theorem cpair_snd : ∀ (k s c : Nat), (cpair k s c).2 = c / 2 ^ k
  | 0, s, c => by simp [cpair]
  | k + 1, s, c => by rw [cpair, cpair_snd k, Nat.div_div_eq_div_mul, Nat.pow_succ, Nat.mul_comm]
theorem cpair_8 (s c : Nat) (hc : c < 256) : (cpair 8 s c).1 = cbyte s c := by
  have h1 := cpair_xor 8 s c
  have h2 : (cpair 8 s c).2 = 0 := by rw [cpair_snd]; omega
  rw [h2, Nat.xor_zero] at h1
  rw [h1, cbyte_eq s c hc]
theorem cpair_succ' : ∀ (k s c : Nat), cpair (k + 1) s c = (if ((cpair k s c).1 + (cpair k s c).2) % 2 = 1 then ((cpair k s c).1 / 2) ^^^ 3988292384 else (cpair k s c).1 / 2, (cpair k s c).2 / 2)
  | 0, s, c => rfl
  | k + 1, s, c => by rw [cpair, cpair_succ' k, cpair]
theorem cpair_lt (k : Nat) {s c : Nat} (hs : s < 4294967296) (hc : c < 256) : (cpair k s c).1 < 4294967296 ∧ (cpair k s c).2 < 256 := by
  have h2 : (cpair k s c).2 < 256 := by
    rw [cpair_snd]; exact Nat.lt_of_le_of_lt (Nat.div_le_self _ _) hc
  refine ⟨?_, h2⟩
  have h1 := cpair_xor k s c
  have h3 : csteps k (s ^^^ c) < 4294967296 := csteps_lt k (Nat.xor_lt_two_pow (n := 32) (by omega) (by omega))
  have h4 : (cpair k s c).1 = csteps k (s ^^^ c) ^^^ (cpair k s c).2 := by rw [← h1, Nat.xor_assoc, Nat.xor_self, Nat.xor_zero]
  rw [h4]
  exact Nat.xor_lt_two_pow (n := 32) (by omega) (by omega)
def crcGo (s : Nat) (l : List Nat) : Nat := l.foldl cbyte s
/-- The sum of bytes. -/
def crc (l : List Nat) : Nat := 4294967295 - crcGo 4294967295 l
theorem crcGo_lt : ∀ (l : List Nat) (s : Nat), s < 4294967296 → (∀ c ∈ l, c < 256) → crcGo s l < 4294967296
  | [], s, h, _ => h
  | c :: l, s, h, hl => crcGo_lt l _ (cbyte_lt h (hl c (List.mem_cons_self ..))) (fun x hx => hl x (List.mem_cons_of_mem _ hx))
theorem crcGo_snoc (s : Nat) (l : List Nat) (c : Nat) : crcGo s (l ++ [c]) = cbyte (crcGo s l) c := by unfold crcGo; rw [List.foldl_append]; rfl
end Go.Proofs.Ytiemcicgohldeaa

/- Bits of 32-bit numbers, as the model reckons them. -/
namespace Go.Proofs.Ytiemcicgohldeaa
open Go.RowKit
theorem u32_in' (n : Nat) (h : n < 4294967296) : IntKind.u32.wrap (n : Int) = (n : Int) := IntWalk.u32_in _ (by omega)
theorem bv32 (a : Nat) (h : a < 4294967296) : (BitVec.ofInt IntKind.u32.bits (a : Int)).toNat = a := by
  rw [BitVec.toNat_ofInt]
  have : IntKind.u32.bits = 32 := rfl
  rw [this]; omega
theorem bv8 (a : Nat) (h : a < 256) : (BitVec.ofInt IntKind.u8.bits (a : Int)).toNat = a := by
  rw [BitVec.toNat_ofInt]
  have : IntKind.u8.bits = 8 := rfl
  rw [this]; omega
theorem xor32 (a b : Nat) (ha : a < 4294967296) (hb : b < 4294967296) : bits BinOp.xor IntKind.u32 (a : Int) (b : Int) = ((a ^^^ b : Nat) : Int) := by
  have h : bits BinOp.xor IntKind.u32 (a : Int) (b : Int) = IntKind.u32.wrap ((a ^^^ b : Nat) : Int) := by
    simp only [bits, BitVec.toNat_xor]
    rw [bv32 a ha, bv32 b hb]
  rw [h, u32_in' _ (Nat.xor_lt_two_pow (n := 32) (by omega) (by omega))]
theorem xor8 (a b : Nat) (ha : a < 256) (hb : b < 256) : bits BinOp.xor IntKind.u8 (a : Int) (b : Int) = ((a ^^^ b : Nat) : Int) := by
  have h : bits BinOp.xor IntKind.u8 (a : Int) (b : Int) = IntKind.u8.wrap ((a ^^^ b : Nat) : Int) := by
    simp only [bits, BitVec.toNat_xor]
    rw [bv8 a ha, bv8 b hb]
  have h2 : a ^^^ b < 256 := Nat.xor_lt_two_pow (n := 8) (by omega) (by omega)
  rw [h, IntWalk.u8_in _ (by omega)]
theorem and1 (a : Nat) (ha : a < 4294967296) : bits BinOp.and IntKind.u32 (a : Int) 1 = ((a % 2 : Nat) : Int) := by
  have h : bits BinOp.and IntKind.u32 (a : Int) ((1 : Nat) : Int) = IntKind.u32.wrap ((a &&& 1 : Nat) : Int) := by
    simp only [bits, BitVec.toNat_and]
    rw [bv32 a ha, bv32 1 (by omega)]
  rw [Nat.and_one_is_mod] at h
  rw [show (1 : Int) = ((1 : Nat) : Int) from rfl, h, u32_in' _ (by omega)]
theorem not32 (a : Nat) (ha : a < 4294967296) : bits BinOp.xor IntKind.u32 4294967295 (a : Int) = ((4294967295 - a : Nat) : Int) := by
  have h := xor32 4294967295 a (by omega) ha
  have e : 4294967295 ^^^ a = 4294967295 - a := by
    have := BitVec.toNat_not (x := BitVec.ofNat 32 a)
    rw [BitVec.not_def, BitVec.toNat_xor] at this
    simp only [BitVec.toNat_allOnes, BitVec.toNat_ofNat] at this
    have h1 : a % 2 ^ 32 = a := by omega
    rw [h1] at this
    exact this
  rw [e] at h
  exact h
end Go.Proofs.Ytiemcicgohldeaa

/- frame.table, frame.Sum; the document's Summed. -/
namespace Go.Proofs.Ytiemcicgohldeaa
open Go.ChangeShapes Go.WideShapes Go.ChangeAt Go.RowKit
set_option linter.unusedVariables false
set_option linter.unusedSimpArgs false
def natsOf (l : List Int) : List Nat := l.map Int.toNat
def sumV (l : List Int) : Int := (crc (natsOf l) : Int)
def tabC (k : Nat) : List Value := (List.range 256).map fun i => .int .u32 (if i < k then (ctab i : Int) else 0)
def SumRel (l : List Int) (s i : Value) : Prop := ∃ k : Nat, k ≤ l.length ∧ i = .int .i64 k ∧ s = .int .u32 (crcGo 4294967295 (natsOf (l.take k)) : Int)
def PairRel (s0 c0 : Nat) (s c i : Value) : Prop := ∃ k : Nat, k ≤ 8 ∧ i = .int .i64 k ∧ s = .int .u32 ((cpair k s0 c0).1 : Int) ∧ c = .int .u32 ((cpair k s0 c0).2 : Int)
theorem natsOf_lt {l : List Int} (h : ∀ x ∈ l, 0 ≤ x ∧ x ≤ 255) : ∀ c ∈ natsOf l, c < 256 := by
  intro c hc
  obtain ⟨x, hx, rfl⟩ := List.mem_map.1 hc
  have := h x hx
  omega
theorem byte_cell {w : World} {B n k : Nat} {A : Option Addr} {l : List Int} {x : Int} (h : Rd w B A 1 n (l.flatMap u8c)) (hl : l.length = n) (hk : l[k]? = some x) :
    ∃ b off, A = some ⟨b, off, none⟩ ∧ b < B ∧ w.cell? ⟨b, off + k, none⟩ = some (.int .u8 x) := by
  have hkl := (List.getElem?_eq_some_iff.1 hk).1
  obtain ⟨b, off, rfl, hb, hc⟩ := h.at_ (show k < n by omega)
  have c0 := hc _ _ ((flatMap_get (l := l) (cells := u8c) (sz := 1) (fun _ _ => rfl)).2 k x 0 _ hk rfl)
  simp only [Nat.mul_one, Nat.add_zero] at c0
  exact ⟨b, off, rfl, hb, c0⟩
set_option maxHeartbeats 2000000 in
theorem summed_walk (l : List Int) (w : World) (A : Option Addr) (n c : Nat) (hr : Rd w w.heap.size A 1 n (l.flatMap u8c)) (hL : l.length = n) (hb : ∀ x ∈ l, 0 ≤ x ∧ x ≤ 255) (hn : n ≤ 9223372036854775807) :
    Calls Try.prog 69 #[.slice A n c] w fun e w' => e = .returned (.int .u32 (sumV l)) ∧ w = w' := by
  have HL := hid hL
  clear hL
  go_enter Try.func69, Try.ntmps69
  go_wp2
  go_loop [3, 4] (SumRel l) (fun _ i => n - (intOf i).toNat)
  case atStart => exact ⟨0, by omega, rfl, rfl⟩
  case round =>
    obtain ⟨k, hk, rfl, rfl⟩ := hrel
    have hs0 := crcGo_lt (natsOf (l.take k)) 4294967295 (by omega) (natsOf_lt (fun x hx => hb x (List.mem_of_mem_take hx)))
    by_cases hlt : k < n
    · obtain ⟨x, hx⟩ : ∃ x, l[k]? = some x := ⟨_, List.getElem?_eq_getElem (by rw [HL.out]; exact hlt)⟩
      obtain ⟨hx0, hx1⟩ := hb x (List.mem_of_getElem? hx)
      obtain ⟨x, rfl⟩ := Int.eq_ofNat_of_zero_le hx0
      obtain ⟨b, off, rfl, hbb, c0⟩ := byte_cell hr HL.out hx
      have HT : Hid (crcGo 4294967295 (natsOf (l.take (k + 1))) = (cpair 8 (crcGo 4294967295 (natsOf (l.take k))) x).1) := hid (by
        rw [List.take_add_one, hx, cpair_8 _ _ (by omega), ← crcGo_snoc]
        simp [natsOf])
      clear hx
      generalize crcGo 4294967295 (natsOf (l.take k)) = s at *
      go_wp2
      go_loop [3, 5, 6] (PairRel s x) (fun _ _ i => 8 - (intOf i).toNat)
      case atStart => exact ⟨0, by omega, rfl, rfl, rfl⟩
      case round =>
        obtain ⟨j, hj, rfl, rfl, rfl⟩ := hrel
        obtain ⟨hp1, hp2⟩ := cpair_lt j hs0 (show x < 256 by omega)
        have HS := hid (cpair_succ' j s x)
        by_cases hj8 : j < 8
        · generalize (cpair j s x).1 = a at *
          generalize (cpair j s x).2 = d at *
          have hx := xor32 (a / 2) 3988292384 (by omega) (by omega)
          by_cases hodd : (a + d) % 2 = 1
          · have hb1 : (((a : Int) + (d : Int)) % 2 == 1) = true := by simp; omega
            have hb2 : (IntKind.u32.wrap ((a : Int) + (d : Int)) % 2 == 1) = true := by rw [IntKind.wrap_u32]; simp; omega
            have HO := hid hodd
            clear hodd
            go_wp2
            go_round
            case rel => exact ⟨j + 1, by omega, by go_num, by rw [HS.out, if_pos HO.out]; exact congrArg _ hx, by rw [HS.out]; rfl⟩
            case measure => simp [intOf]; omega
          · have hb1 : (((a : Int) + (d : Int)) % 2 == 1) = false := by rw [beq_eq_false_iff_ne]; omega
            have hb2 : (IntKind.u32.wrap ((a : Int) + (d : Int)) % 2 == 1) = false := by rw [IntKind.wrap_u32, beq_eq_false_iff_ne]; omega
            have HO := hid hodd
            clear hodd
            go_wp2
            go_round
            case rel => exact ⟨j + 1, by omega, by go_num, by rw [HS.out, if_neg HO.out]; rfl, by rw [HS.out]; rfl⟩
            case measure => simp [intOf]; omega
        · obtain rfl : j = 8 := by omega
          go_wp2
          go_round
          case rel => exact ⟨k + 1, by rw [HL.out]; omega, by go_num, by rw [HT.out]⟩
          case measure => simp [intOf]; omega
    · obtain rfl : k = n := by have := HL.out; omega
      have HT := hid (List.take_of_length_le (l := l) (i := k) (by rw [HL.out]; exact Nat.le_refl _))
      rw [HT.out] at hs0 ⊢
      have HV : Hid (sumV l = ((4294967295 - crcGo 4294967295 (natsOf l) : Nat) : Int)) := hid rfl
      generalize crcGo 4294967295 (natsOf l) = s at *
      go_wp2
      go_ret
      exact ⟨ret1 (by rw [HV.out]; omega), rfl⟩
theorem below_setCells {B : Nat} {a : World} (b : Nat) (hb : B ≤ b) : ∀ (vs : List Value) (o : Nat) {w : World}, Below B a w → Below B a (w.setCells b o vs)
  | [], _, _, h => h
  | v :: vs, o, w, h => below_setCells b hb vs (o + 1) (h.setCell (p := ⟨b, o, none⟩) hb v)
theorem tabC_len (k : Nat) : (tabC k).length = 256 := by simp [tabC]
theorem tabC_get {k i : Nat} (h : i < 256) : (tabC k)[i]? = some (.int .u32 (if i < k then (ctab i : Int) else 0)) := by simp [tabC, h]
theorem tabC_set {k : Nat} (h : k < 256) : (tabC k).set k (.int .u32 (ctab k : Int)) = tabC (k + 1) := by
  apply List.ext_getElem?
  intro j
  rw [List.getElem?_set, tabC_len]
  by_cases hj : j < 256
  · rw [tabC_get hj, tabC_get hj]
    by_cases e : k = j
    · subst e; simp [h]
    · rw [if_neg e]
      by_cases h2 : j < k
      · rw [if_pos h2, if_pos (by omega)]
      · rw [if_neg h2, if_neg (by omega)]
  · rw [List.getElem?_eq_none (by rw [tabC_len]; omega), List.getElem?_eq_none (by rw [tabC_len]; omega)]
    rw [if_neg (by omega)]
theorem tabC_zero : (tabC 0).toArray = Try.zeroCells120 := by kernel_rfl
theorem tabC_one (k : Nat) : ∀ v ∈ tabC k, v.oneCell' = true := by
  intro v hv
  obtain ⟨i, _, rfl⟩ := List.mem_map.1 hv
  rfl
def Blk (w : World) (b : Nat) (cs : List Value) (t : TypeId) : Prop := w.heap[b]? = some (.cells cs.toArray t (0, 0))
theorem Blk.cell {w : World} {b : Nat} {cs : List Value} {t : TypeId} (h : Blk w b cs t) {j : Nat} {v : Value} (hj : cs[j]? = some v) : w.cell? ⟨b, j, none⟩ = some v := by
  rw [cell_of_row w b j _ t (0, 0) h]; simpa using hj
theorem Blk.free {w : World} {b : Nat} {cs : List Value} {t : TypeId} (h : Blk w b cs t) (j : Nat) : w.frozen? ⟨b, j, none⟩ = false := by
  have h' := h
  unfold Blk at h'
  simp [World.frozen?, h']
theorem Blk.range {w : World} {b : Nat} {cs : List Value} {t : TypeId} (h : Blk w b cs t) : w.rangeAt b 0 cs := fun j v hv => by
  rw [Nat.zero_add]; exact h.cell hv
theorem Blk.there {w : World} {b : Nat} {cs : List Value} {t : TypeId} (h : Blk w b cs t) {n : Nat} (hn : cs.length = n) : w.there b 0 n := fun j hj => by
  rw [Nat.zero_add]
  obtain ⟨v, hv⟩ : ∃ v, cs[j]? = some v := ⟨_, List.getElem?_eq_getElem (by omega)⟩
  rw [h.cell hv]
  exact ⟨rfl, h.free j⟩
theorem Blk.set {w : World} {b : Nat} {cs : List Value} {t : TypeId} (h : Blk w b cs t) (j : Nat) (u : Value) : Blk (w.setCell ⟨b, j, none⟩ u) b (cs.set j u) t := by
  unfold Blk
  rw [heap_setCell_same w b j cs.toArray t u h]
  simp
theorem Blk.other {w : World} {b : Nat} {cs : List Value} {t : TypeId} (h : Blk w b cs t) {a : Addr} (ha : b ≠ a.block) (u : Value) : Blk (w.setCell a u) b cs t := by
  unfold Blk
  rw [heap_setCell_other w a b u ha]; exact h
def TabRel (w : World) (i : Value) (wr : World) : Prop :=
  ∃ k : Nat, k ≤ 256 ∧ i = .int .i64 k ∧ Below w.heap.size w wr ∧ Blk wr w.heap.size (tabC 0) 120 ∧ Blk wr (w.heap.size + 1) (tabC k) 120
def StepRel (x : Nat) (c i : Value) : Prop := ∃ j : Nat, j ≤ 8 ∧ i = .int .i64 j ∧ c = .int .u32 (csteps j x : Int)
theorem results_cell1 {P : Program} {fn : Func} {p : Tmp} {ty : TypeId} (h : fn.results = #[.cell p ty]) (tmps : Array Value) (w : World) (b o : Nat) (hp : tmps.getD p undef = .pointer (some ⟨b, o, none⟩)) {v : Value} (hl : (loadVar ty ⟨b, o, none⟩).run P w = .ok v w) : (results fn tmps).run P w = .ok v w := by
  have hp' : tmps[p]?.getD undef = .pointer (some ⟨b, o, none⟩) := by simpa using hp
  simp only [results, h]
  simp [hp', asAddr, hl]
theorem u_tab : ∃ n e, Try.prog.underlying 120 = some (.array n e) := ⟨_, _, Try.underlying120⟩
theorem i_tab (k : Nat) : (Try.prog.info? 120).map (·.size) = some (tabC k).length := by rw [tabC_len]; kernel_rfl
set_option maxRecDepth 100000 in
set_option maxHeartbeats 2000000 in
theorem table_walk (w : World) :
    Calls Try.prog 77 #[] w fun e w' => e = .returned (.agg (tabC 256).toArray) ∧ Below w.heap.size w w' := by
  go_enter Try.func77, Try.ntmps77
  go_wp2_with fail
  go_loopw [4] (TabRel w) (fun i _ => 256 - (intOf i).toNat)
  case atStart =>
    rw [← tabC_zero]
    exact ⟨0, by omega, rfl, bA (bA (Below.refl _ _) _) _, by unfold Blk; rw [Below.heap_alloc _ _ _ (by simp)]; exact heap_alloc_new w _, by unfold Blk; have := heap_alloc_new (w.alloc (.cells (tabC 0).toArray 120)) (.cells (tabC 0).toArray 120); simpa using this⟩
  case round =>
    obtain ⟨k, hk, rfl, hbel, hB0, hB1⟩ := hrel
    by_cases hlt : k < 256
    · have c1 := hB1.cell (tabC_get (k := k) hlt)
      rw [if_neg (by omega)] at c1
      have f1 := hB1.free k
      go_wp2
      go_loop [3, 9] (StepRel k) (fun _ i => 8 - (intOf i).toNat)
      case atStart => exact ⟨0, by omega, rfl, rfl⟩
      case round =>
        obtain ⟨j, hj, rfl, rfl⟩ := hrel
        have hp := csteps_lt j (x := k) (by omega)
        have HS := hid (csteps_succ' j k)
        by_cases hj8 : j < 8
        · generalize csteps j k = a at *
          have hx := hid (xor32 (a / 2) 3988292384 (by omega) (by omega))
          have ha := and1 a hp
          by_cases hodd : a % 2 = 1
          · have hb1 : (bits BinOp.and IntKind.u32 (a : Int) 1 == 1) = true := by rw [ha]; simp; omega
            have HO := hid hodd
            clear hodd ha
            go_wp2
            go_round
            case rel => exact ⟨j + 1, by omega, by go_num, by rw [HS.out]; unfold cstep; rw [if_pos HO.out]; exact congrArg _ hx.out⟩
            case measure => simp [intOf]; omega
          · have hb1 : (bits BinOp.and IntKind.u32 (a : Int) 1 == 1) = false := by rw [ha, beq_eq_false_iff_ne]; omega
            have HO := hid hodd
            clear hodd ha
            go_wp2
            go_round
            case rel => exact ⟨j + 1, by omega, by go_num, by rw [HS.out]; unfold cstep; rw [if_neg HO.out]; rfl⟩
            case measure => simp [intOf]; omega
        · obtain rfl : j = 8 := by omega
          have HB := hid (hB1.set k (.int .u32 (ctab k : Int)))
          have HS2 := hid (tabC_set hlt)
          have hE : csteps 8 k = ctab k := rfl
          rw [hE]
          clear hE
          go_wp2
          go_roundw
          case rel => exact ⟨k + 1, by omega, by go_num, hbel.setCell (by simp) _, hB0.other (by simp) _, by rw [← HS2.out]; exact HB.out⟩
          case measure => simp [intOf]; omega
    · obtain rfl : k = 256 := by omega
      go_wp2_with (first | (refine wpList_load_mid rfl 120 (.tmp 1) rfl (w.heap.size + 1) 0 rfl (tabC 256) _ hB1.range Try.underlying120 rfl (i_tab 256) ?_) | (refine wpList_store_mid rfl 120 (.tmp 0) (.tmp 24) rfl w.heap.size 0 (tabC 256).toArray rfl rfl (hB0.there (by simp [tabC_len])) (by simpa using i_tab 256) (all_oneCell_toArray (tabC_one 256)) ?_))
      have hl := run_loadVar_mid (P := Try.prog) (wr.setCells w.heap.size 0 (tabC 256)) w.heap.size 0 120 (tabC 256) _ (World.rangeAt_setCells_same _ _ _ _ (hB0.there (by simp [tabC_len]))) Try.underlying120 rfl (i_tab 256)
      exact bodyPost_ret (v := .agg (tabC 256).toArray) (results_cell1 rfl _ _ w.heap.size 0 rfl hl) rfl ⟨rfl, below_setCells _ (Nat.le_refl _) _ 0 hbel⟩
end Go.Proofs.Ytiemcicgohldeaa

/- frame.Sum. -/
namespace Go.Proofs.Ytiemcicgohldeaa
open Go.ChangeShapes Go.WideShapes Go.ChangeAt Go.RowKit
set_option linter.unusedVariables false
set_option linter.unusedSimpArgs false
def TabAt (W : World) (b : Nat) : Prop := ∀ i : Nat, i < 256 → W.cell? ⟨b, i, none⟩ = some (.int .u32 (ctab i : Int))
theorem tab_blk (w : World) : Blk (w.alloc (.cells Try.zeroCells120 120)) w.heap.size (tabC 0) 120 := by unfold Blk; rw [tabC_zero]; exact heap_alloc_new w _
theorem tab_there (w : World) : (w.alloc (.cells Try.zeroCells120 120)).there w.heap.size 0 (tabC 256).toArray.size := (tab_blk w).there (by simp [tabC_len])
theorem tab_info : (Try.prog.info? 120).map (·.size) = some (tabC 256).toArray.size := by
  rw [List.size_toArray]; exact i_tab 256
theorem tab_one : (tabC 256).toArray.all (·.oneCell') = true := all_oneCell_toArray (tabC_one 256)
theorem tab_laid (w : World) : TabAt ((w.alloc (.cells Try.zeroCells120 120)).setCells w.heap.size 0 (tabC 256)) w.heap.size ∧ Below w.heap.size w ((w.alloc (.cells Try.zeroCells120 120)).setCells w.heap.size 0 (tabC 256)) := by
  have hrng := World.rangeAt_setCells_same (w.alloc (.cells Try.zeroCells120 120)) w.heap.size 0 (tabC 256) ((tab_blk w).there (by simp [tabC_len]))
  refine ⟨fun i hi => ?_, below_setCells w.heap.size (Nat.le_refl _) (tabC 256) 0 (bA (Below.refl w.heap.size w) _)⟩
  have := hrng i _ (tabC_get hi)
  rw [Nat.zero_add, if_pos hi] at this
  exact this
set_option maxRecDepth 100000 in
set_option maxHeartbeats 600000 in
theorem sum_walk (l : List Int) (w : World) (A : Option Addr) (n c : Nat) (hr : Rd w w.heap.size A 1 n (l.flatMap u8c)) (hL : l.length = n) (hb : ∀ x ∈ l, 0 ≤ x ∧ x ≤ 255) (hn : n ≤ 9223372036854775807) :
    Calls Try.prog 55 #[.slice A n c] w fun e w' => e = .returned (.int .u32 (sumV l)) ∧ Below w.heap.size w w' := by
  have HL := hid hL
  clear hL
  have ht := hid (table_walk w)
  go_enter Try.func55, Try.ntmps55
  go_wp2_with fail
  refine ht.out.mono ?_
  rintro e w1 ⟨rfl, b1⟩
  go_wp2_with (refine wpList_store_mid rfl 120 (.tmp 3) (.tmp 7) rfl w1.heap.size 0 (tabC 256).toArray rfl rfl ?_ ?_ ?_ ?_)
  · exact tab_there w1
  · exact tab_info
  · exact tab_one
  obtain ⟨HT, b2⟩ := tab_laid w1
  have r1 := hr.below (bT b1 b2)
  generalize (w1.alloc (.cells Try.zeroCells120 120)).setCells w1.heap.size 0 (tabC 256) = W at HT b2 r1 ⊢
  go_loop [4, 10] (SumRel l) (fun _ i => n - (intOf i).toNat)
  case atStart => exact ⟨0, by omega, rfl, rfl⟩
  case round =>
    obtain ⟨k, hk, rfl, rfl⟩ := hrel
    have hs0 := crcGo_lt (natsOf (l.take k)) 4294967295 (by omega) (natsOf_lt (fun x hx => hb x (List.mem_of_mem_take hx)))
    by_cases hlt : k < n
    · obtain ⟨x, hx⟩ : ∃ x, l[k]? = some x := ⟨_, List.getElem?_eq_getElem (by rw [HL.out]; exact hlt)⟩
      obtain ⟨hx0, hx1⟩ := hb x (List.mem_of_getElem? hx)
      obtain ⟨x, rfl⟩ := Int.eq_ofNat_of_zero_le hx0
      obtain ⟨b, off, rfl, hbb, c0⟩ := byte_cell r1 HL.out hx
      have HS : Hid (crcGo 4294967295 (natsOf (l.take (k + 1))) = cbyte (crcGo 4294967295 (natsOf (l.take k))) x) := hid (by
        rw [List.take_add_one, hx, ← crcGo_snoc]
        simp [natsOf])
      clear hx
      generalize crcGo 4294967295 (natsOf (l.take k)) = s at *
      unfold cbyte at HS
      have hw8 : IntKind.u8.wrap (s : Int) = ((s % 256 : Nat) : Int) := by rw [IntKind.wrap_u8]; omega
      have hm256 : (s % 256) ^^^ x < 256 := Nat.xor_lt_two_pow (n := 8) (by omega) (by omega)
      have ht := HT _ hm256
      have hx8 := xor8 (s % 256) x (by omega) (by omega)
      have hcl := ctab_lt (show (s % 256) ^^^ x < 4294967296 by omega)
      have hx32 := xor32 (ctab ((s % 256) ^^^ x)) (s / 256) hcl (by omega)
      have hd : ((s / 256 : Nat) : Int) = (s : Int) / 256 := by omega
      rw [hd] at hx32
      have hlt2 := Nat.xor_lt_two_pow (x := ctab ((s % 256) ^^^ x)) (y := s / 256) (n := 32) (by omega) (by omega)
      clear hd
      generalize hmm : s % 256 = m at *
      generalize hii : m ^^^ x = i at *
      generalize htt : ctab i = t at *
      generalize hqq : t ^^^ s / 256 = q at *
      clear hmm hii htt hqq
      have hi0 : (i : Int) < 256 := by omega
      go_wp2
      go_round
      case rel => exact ⟨k + 1, by rw [HL.out]; omega, by go_num, by rw [HS.out]⟩
      case measure => simp [intOf]; omega
    · obtain rfl : k = n := by have := HL.out; omega
      have HT2 := hid (List.take_of_length_le (l := l) (i := k) (by rw [HL.out]; exact Nat.le_refl _))
      rw [HT2.out] at hs0 ⊢
      have HV : Hid (sumV l = ((4294967295 - crcGo 4294967295 (natsOf l) : Nat) : Int)) := hid rfl
      generalize crcGo 4294967295 (natsOf l) = s at *
      have hx : bits BinOp.xor IntKind.u32 IntKind.u32.max (s : Int) = ((4294967295 - s : Nat) : Int) := not32 s hs0
      have hsg : IntKind.u32.signed = false := rfl
      go_wp2
      go_ret
      exact ⟨ret1 (by rw [HV.out]), bT b1 b2⟩
end Go.Proofs.Ytiemcicgohldeaa

