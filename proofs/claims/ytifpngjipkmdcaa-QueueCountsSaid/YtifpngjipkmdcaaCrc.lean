/- The sum of bytes: bit by bit, and by a table. Plain numbers; no program in sight. -/
namespace Go.Proofs.Ytifpngjipkmdcaa
set_option linter.unusedVariables false
set_option linter.unusedSimpArgs false
/-- One bit of the sum. -/
def cstep (x : Nat) : Nat := if x % 2 = 1 then (x / 2) ^^^ 3988292384 else x / 2
def csteps : Nat → Nat → Nat
  | 0, x => x
  | k + 1, x => csteps k (cstep x)
/-- What eight bits do. -/
def ctab (i : Nat) : Nat := csteps 8 i
/-- One byte of the sum. -/
def cbyte (s c : Nat) : Nat := ctab ((s % 256) ^^^ c) ^^^ (s / 256)
theorem xor_mod2 (x b : Nat) : (x ^^^ (2 * b)) % 2 = x % 2 := by
  have := Nat.xor_mod_two_pow (a := x) (b := 2 * b) (n := 1)
  simpa using this
theorem xor_div2 (x b : Nat) : (x ^^^ (2 * b)) / 2 = (x / 2) ^^^ b := by
  have := Nat.xor_div_two_pow (a := x) (b := 2 * b) (n := 1)
  simpa using this
theorem cstep_xor (x b : Nat) : cstep (x ^^^ (2 * b)) = cstep x ^^^ b := by
  unfold cstep
  rw [xor_mod2, xor_div2]
  split
  · rw [Nat.xor_assoc, Nat.xor_comm b, ← Nat.xor_assoc]
  · rfl
theorem csteps_xor : ∀ (k x b : Nat), csteps k (x ^^^ (2 ^ k * b)) = csteps k x ^^^ b
  | 0, x, b => by simp [csteps]
  | k + 1, x, b => by
    have e : 2 ^ (k + 1) * b = 2 * (2 ^ k * b) := by rw [Nat.pow_succ, Nat.mul_comm (2 ^ k) 2, Nat.mul_assoc]
    rw [csteps, csteps, e, cstep_xor, csteps_xor k]
theorem csteps_succ' : ∀ (k x : Nat), csteps (k + 1) x = cstep (csteps k x)
  | 0, x => rfl
  | k + 1, x => by rw [csteps, csteps_succ' k, csteps]
theorem cbyte_eq (s c : Nat) (hc : c < 256) : csteps 8 (s ^^^ c) = cbyte s c := by
  unfold cbyte ctab
  have h1 : (s ^^^ c) = ((s % 256) ^^^ c) ^^^ (2 ^ 8 * (s / 256)) := by
    have e1 : (s % 256) ^^^ (2 ^ 8 * (s / 256)) = s := by
      have h := Nat.two_pow_add_eq_or_of_lt (i := 8) (b := s % 256) (by omega) (s / 256)
      have h2 : (2 ^ 8 * (s / 256)) ^^^ (s % 256) = 2 ^ 8 * (s / 256) + s % 256 := by
        rw [h]
        apply Nat.eq_of_testBit_eq
        intro i
        rw [Nat.testBit_xor, Nat.testBit_or]
        by_cases hi : i < 8
        · have : (2 ^ 8 * (s / 256)).testBit i = false := by
            rw [Nat.testBit_two_pow_mul]; simp; omega
          rw [this]; simp
        · have : (s % 256).testBit i = false := by
            apply Nat.testBit_lt_two_pow
            calc s % 256 < 256 := by omega
              _ = 2 ^ 8 := rfl
              _ ≤ 2 ^ i := Nat.pow_le_pow_right (by omega) (by omega)
          rw [this]; simp
      rw [Nat.xor_comm, h2]
      omega
    rw [Nat.xor_assoc, Nat.xor_comm c, ← Nat.xor_assoc, e1]
  rw [h1, csteps_xor]
theorem cstep_lt {x : Nat} (h : x < 4294967296) : cstep x < 4294967296 := by
  unfold cstep
  split
  · exact Nat.xor_lt_two_pow (n := 32) (by omega) (by omega)
  · omega
theorem csteps_lt : ∀ (k : Nat) {x : Nat}, x < 4294967296 → csteps k x < 4294967296
  | 0, x, h => h
  | k + 1, x, h => csteps_lt k (cstep_lt h)
theorem ctab_lt {i : Nat} (h : i < 4294967296) : ctab i < 4294967296 := csteps_lt 8 h
theorem cbyte_lt {s c : Nat} (hs : s < 4294967296) (hc : c < 256) : cbyte s c < 4294967296 := by
  rw [← cbyte_eq s c hc]
  exact csteps_lt 8 (Nat.xor_lt_two_pow (n := 32) (by omega) (by omega))
/-- After so many bits of the byte c: the sum and the rest of the byte. -/
def cpair : Nat → Nat → Nat → Nat × Nat
  | 0, s, c => (s, c)
  | k + 1, s, c => cpair k (if (s + c) % 2 = 1 then (s / 2) ^^^ 3988292384 else s / 2) (c / 2)
theorem add_mod2 (s c : Nat) : (s + c) % 2 = (s ^^^ c) % 2 := by
  have := Nat.xor_mod_two_pow (a := s) (b := c) (n := 1)
  simp only [Nat.pow_one] at this
  rw [this]
  have h1 : s % 2 = 0 ∨ s % 2 = 1 := by omega
  have h2 : c % 2 = 0 ∨ c % 2 = 1 := by omega
  rcases h1 with h1 | h1 <;> rcases h2 with h2 | h2 <;> rw [h1, h2, Nat.add_mod, h1, h2] <;> rfl
theorem cpair_xor : ∀ (k s c : Nat), (cpair k s c).1 ^^^ (cpair k s c).2 = csteps k (s ^^^ c)
  | 0, s, c => rfl
  | k + 1, s, c => by
    rw [cpair, csteps, cpair_xor k]
    congr 1
    unfold cstep
    rw [add_mod2]
    have h2 := Nat.xor_div_two_pow (a := s) (b := c) (n := 1)
    simp only [Nat.pow_one] at h2
    rw [h2]
    split
    · rw [Nat.xor_assoc, Nat.xor_comm _ (c / 2), ← Nat.xor_assoc]
    · rfl
theorem cpair_snd : ∀ (k s c : Nat), (cpair k s c).2 = c / 2 ^ k
  | 0, s, c => by simp [cpair]
  | k + 1, s, c => by rw [cpair, cpair_snd k, Nat.div_div_eq_div_mul, Nat.pow_succ, Nat.mul_comm]
theorem cpair_8 (s c : Nat) (hc : c < 256) : (cpair 8 s c).1 = cbyte s c := by
  have h1 := cpair_xor 8 s c
  have h2 : (cpair 8 s c).2 = 0 := by rw [cpair_snd]; omega
  rw [h2, Nat.xor_zero] at h1
  rw [h1, cbyte_eq s c hc]
theorem cpair_succ' : ∀ (k s c : Nat), cpair (k + 1) s c = (if ((cpair k s c).1 + (cpair k s c).2) % 2 = 1 then ((cpair k s c).1 / 2) ^^^ 3988292384 else (cpair k s c).1 / 2, (cpair k s c).2 / 2)
  | 0, s, c => rfl
  | k + 1, s, c => by rw [cpair, cpair_succ' k, cpair]
theorem cpair_lt (k : Nat) {s c : Nat} (hs : s < 4294967296) (hc : c < 256) : (cpair k s c).1 < 4294967296 ∧ (cpair k s c).2 < 256 := by
  have h2 : (cpair k s c).2 < 256 := by
    rw [cpair_snd]; exact Nat.lt_of_le_of_lt (Nat.div_le_self _ _) hc
  refine ⟨?_, h2⟩
  have h1 := cpair_xor k s c
  have h3 : csteps k (s ^^^ c) < 4294967296 := csteps_lt k (Nat.xor_lt_two_pow (n := 32) (by omega) (by omega))
  have h4 : (cpair k s c).1 = csteps k (s ^^^ c) ^^^ (cpair k s c).2 := by rw [← h1, Nat.xor_assoc, Nat.xor_self, Nat.xor_zero]
  rw [h4]
  exact Nat.xor_lt_two_pow (n := 32) (by omega) (by omega)
def crcGo (s : Nat) (l : List Nat) : Nat := l.foldl cbyte s
/-- The sum of bytes. -/
def crc (l : List Nat) : Nat := 4294967295 - crcGo 4294967295 l
theorem crcGo_lt : ∀ (l : List Nat) (s : Nat), s < 4294967296 → (∀ c ∈ l, c < 256) → crcGo s l < 4294967296
  | [], s, h, _ => h
  | c :: l, s, h, hl => crcGo_lt l _ (cbyte_lt h (hl c (List.mem_cons_self ..))) (fun x hx => hl x (List.mem_cons_of_mem _ hx))
theorem crcGo_snoc (s : Nat) (l : List Nat) (c : Nat) : crcGo s (l ++ [c]) = cbyte (crcGo s l) c := by unfold crcGo; rw [List.foldl_append]; rfl
end Go.Proofs.Ytifpngjipkmdcaa
