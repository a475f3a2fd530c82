/- Plain: a line's words, decimal numbers that are read. -/
import Derived.Test.YtfdaheenigmkmaaDoorMvL
import Derived.Lib.SplitLaws
import Derived.Lib.IndexBytes
import Derived.Lib.AtoiAll
namespace Go.Proofs.YtfdaheenigmkmaaDoor
set_option linter.unusedVariables false
set_option linter.unusedSimpArgs false
/-- The words of a line: cut at each blank. -/
def splitL : List UInt8 → List (List UInt8)
  | [] => [[]]
  | b :: l => if b = 32 then [] :: splitL l else (b :: (splitL l).headD []) :: (splitL l).tail
def joinL : List (List UInt8) → List UInt8
  | [] => []
  | [w] => w
  | w :: v :: ws => w ++ 32 :: joinL (v :: ws)
theorem splitL_ne (l : List UInt8) : splitL l ≠ [] := by cases l with | nil => simp [splitL] | cons b l => unfold splitL; split <;> simp
theorem splitL_none : ∀ {a : List UInt8}, (32 : UInt8) ∉ a → splitL a = [a]
  | [], _ => rfl
  | b :: l, h => by
    have h1 : b ≠ 32 := fun e => h (by simp [e])
    have h2 := splitL_none (a := l) (fun e => h (by simp [e]))
    unfold splitL; rw [if_neg h1, h2]; rfl
theorem splitL_cut : ∀ {a r : List UInt8}, (32 : UInt8) ∉ a → splitL (a ++ 32 :: r) = a :: splitL r
  | [], r, _ => by rw [List.nil_append]; conv => lhs; unfold splitL
                   rw [if_pos rfl]
  | b :: l, r, h => by
    have h1 : b ≠ 32 := fun e => h (by simp [e])
    have h2 := splitL_cut (a := l) (r := r) (fun e => h (by simp [e]))
    rw [List.cons_append]; conv => lhs; unfold splitL
    rw [if_neg h1, h2]; rfl
theorem joinL_split : ∀ l : List UInt8, joinL (splitL l) = l
  | [] => rfl
  | b :: l => by
    have ih := joinL_split l
    unfold splitL
    by_cases h : b = 32
    · rw [if_pos h]
      cases hs : splitL l with
      | nil => exact absurd hs (splitL_ne l)
      | cons w ws => rw [hs] at ih; show [] ++ 32 :: joinL (w :: ws) = _; rw [ih, h]; rfl
    · rw [if_neg h]
      cases hs : splitL l with
      | nil => exact absurd hs (splitL_ne l)
      | cons w ws =>
        rw [hs] at ih
        cases ws with
        | nil => show b :: w = _; rw [show w = l from ih]
        | cons v vs => show (b :: w) ++ 32 :: joinL (v :: vs) = _; rw [← ih]; rfl
theorem split_cases (l : List UInt8) : (32 : UInt8) ∉ l ∨ ∃ a r, (32 : UInt8) ∉ a ∧ l = a ++ 32 :: r := by
  induction l with
  | nil => exact .inl (by simp)
  | cons b l ih =>
    by_cases h : b = 32
    · exact .inr ⟨[], l, by simp, by rw [h]; rfl⟩
    · rcases ih with h2 | ⟨a, r, h2, h3⟩
      · exact .inl (by simp [h2]; exact fun e => h e.symm)
      · exact .inr ⟨b :: a, r, by simp [h2]; exact fun e => h e.symm, by rw [h3]; rfl⟩
theorem idx_none : ∀ {l : List UInt8} {c : UInt8}, c ∉ l → Lib.indexByte l c = -1
  | [], _, _ => rfl
  | b :: l, c, h => by
    have h1 : ¬ (b == c) = true := by simp; exact fun e => h (by simp [e])
    have h2 := idx_none (l := l) (c := c) (fun e => h (by simp [e]))
    unfold Lib.indexByte; rw [if_neg h1, h2]; try rfl
theorem idx_at : ∀ {a r : List UInt8} {c : UInt8}, c ∉ a → Lib.indexByte (a ++ c :: r) c = a.length
  | [], r, c, _ => by rw [List.nil_append]; unfold Lib.indexByte; rw [if_pos (by simp)]; rfl
  | b :: l, r, c, h => by
    have h1 : ¬ (b == c) = true := by simp; exact fun e => h (by simp [e])
    have h2 := idx_at (a := l) (r := r) (c := c) (fun e => h (by simp [e]))
    rw [List.cons_append]; unfold Lib.indexByte; rw [if_neg h1, h2, if_neg (by rw [beq_iff_eq]; omega), List.length_cons]; omega
theorem splitK_eq : ∀ (n : Nat) (l : List UInt8), l.count 32 = n → Lib.splitK [32] 0 n l = splitL l
  | 0, l, h => by
    have h2 : (32 : UInt8) ∉ l := List.count_eq_zero.1 h
    unfold Lib.splitK; rw [splitL_none h2]
  | n + 1, l, h => by
    rcases split_cases l with h2 | ⟨a, r, h2, rfl⟩
    · rw [List.count_eq_zero.2 h2] at h; cases h
    · have hc : r.count 32 = n := by
        rw [List.count_append, List.count_eq_zero.2 h2, List.count_cons_self] at h; omega
      have hi : Lib.index (a ++ 32 :: r) [32] = a.length := by rw [Lib.index_one]; exact idx_at h2
      unfold Lib.splitK
      rw [hi, if_neg (by rw [beq_iff_eq]; omega), splitL_cut h2, ← splitK_eq n r hc]
      have e1 : ((a.length : Int).toNat + 0) = a.length := by omega
      have e2 : ((a.length : Int).toNat + ([32] : List UInt8).length) = a.length + 1 := by simp
      rw [e1, e2, List.take_left' rfl, show a.length + 1 = (a ++ [32]).length by simp, show a ++ 32 :: r = (a ++ [32]) ++ r by simp, List.drop_left' rfl]
/-- What the library's Split answers at a blank. -/
def splitW (s : ByteArray) : List ByteArray := Lib.splitB spB 0 (Lib.countB s spB) s
theorem splitW_data (s : ByteArray) : (splitW s).map (·.data.toList) = splitL s.data.toList := by
  unfold splitW
  rw [Lib.splitB_data]
  have : Lib.countB s spB = s.data.toList.count 32 := Lib.count_one 32 s.data.toList
  rw [this]
  exact splitK_eq _ _ rfl
theorem splitW_len (s : ByteArray) : (splitW s).length = Lib.countB s spB + 1 := Lib.splitB_all spB (by decide) 0 _ s rfl
/-- A number in decimal digits: what the document's big reads. -/
def bigF : Nat → List UInt8 → Int
  | n, [] => if 1152921504606846976 < n then -1 else (n : Int)
  | n, c :: r => if c.toNat < 48 ∨ 57 < c.toNat ∨ 115292150460684697 < n then -1 else bigF (10 * n + (c.toNat - 48)) r
def bigV (l : List UInt8) : Int := if l.length = 0 ∨ 19 < l.length ∨ (l[0]? = some 48 ∧ 1 < l.length) then -1 else bigF 0 l
abbrev dd (n : Nat) : List UInt8 := Lib.decDigits n
theorem dd_small {n : Nat} (h : n < 10) : dd n = [UInt8.ofNat (48 + n)] := by unfold dd; rw [Lib.decDigits, dif_pos h]
theorem dd_big {n : Nat} (h : ¬ n < 10) : dd n = dd (n / 10) ++ [UInt8.ofNat (48 + n % 10)] := by unfold dd; rw [Lib.decDigits, dif_neg h]
theorem dig_nat {d : Nat} (h : d < 10) : (UInt8.ofNat (48 + d)).toNat = 48 + d := by
  show (48 + d) % 256 = 48 + d; omega
theorem dig_of {c : UInt8} (h0 : 48 ≤ c.toNat) (h1 : c.toNat ≤ 57) : c = UInt8.ofNat (48 + (c.toNat - 48)) := by
  apply UInt8.toNat_inj.1; rw [dig_nat (by omega)]; omega
theorem dd_digits : ∀ (n : Nat) (c : UInt8), c ∈ dd n → 48 ≤ c.toNat ∧ c.toNat ≤ 57 := by
  intro n
  induction n using Nat.strongRecOn with
  | _ n ih =>
    intro c hc
    by_cases h : n < 10
    · rw [dd_small h, List.mem_singleton] at hc; subst hc; rw [dig_nat h]; omega
    · rw [dd_big h, List.mem_append, List.mem_singleton] at hc
      rcases hc with hc | rfl
      · exact ih _ (by omega) c hc
      · rw [dig_nat (by omega)]; omega
theorem dd_pos (n : Nat) : 0 < (dd n).length := by
  by_cases h : n < 10
  · rw [dd_small h]; exact Nat.zero_lt_one
  · rw [dd_big h]; simp
theorem dd_head : ∀ (n : Nat), 1 ≤ n → (dd n)[0]? ≠ some 48 := by
  intro n
  induction n using Nat.strongRecOn with
  | _ n ih =>
    intro hn
    by_cases h : n < 10
    · rw [dd_small h]
      intro e
      have e2 : UInt8.ofNat (48 + n) = 48 := by simpa using e
      have := congrArg UInt8.toNat e2
      rw [dig_nat h] at this
      have : (48 : UInt8).toNat = 48 := rfl
      omega
    · rw [dd_big h, List.getElem?_append_left (dd_pos _)]
      exact ih _ (by omega) (by omega)
theorem dd_len1 {n : Nat} (h : 1 < (dd n).length) : 10 ≤ n := by
  by_cases h2 : n < 10
  · rw [dd_small h2] at h; simp at h
  · omega
theorem bigF_dd : ∀ (n : Nat), n ≤ 1152921504606846976 → ∀ r, bigF 0 (dd n ++ r) = bigF n r := by
  intro n
  induction n using Nat.strongRecOn with
  | _ n ih =>
    intro hn r
    by_cases h : n < 10
    · rw [dd_small h, List.singleton_append]; conv => lhs; unfold bigF
      rw [dig_nat h, if_neg (by omega)]; congr 1; omega
    · rw [dd_big h, List.append_assoc, ih (n / 10) (by omega) (by omega), List.singleton_append]; conv => lhs; unfold bigF
      rw [dig_nat (by omega), if_neg (by omega)]; congr 1; omega
theorem dd_step {a d : Nat} (ha : 1 ≤ a) (hd : d < 10) : dd (10 * a + d) = dd a ++ [UInt8.ofNat (48 + d)] := by
  rw [dd_big (by omega), show (10 * a + d) / 10 = a by omega, show (10 * a + d) % 10 = d by omega]
theorem bigF_inv : ∀ (l : List UInt8) (a n : Nat), 1 ≤ a → bigF a l = (n : Int) → n ≤ 1152921504606846976 ∧ dd n = dd a ++ l
  | [], a, n, ha, h => by
    unfold bigF at h
    split at h
    · omega
    · have : a = n := by omega
      subst this; exact ⟨by omega, by simp⟩
  | c :: r, a, n, ha, h => by
    unfold bigF at h
    split at h
    · omega
    · rename_i hc
      obtain ⟨h1, h2⟩ := bigF_inv r _ n (by omega) h
      refine ⟨h1, ?_⟩
      rw [h2, dd_step ha (by omega), ← dig_of (by omega) (by omega)]; simp
theorem dd_19 {n : Nat} (h : n ≤ 1152921504606846976) : (dd n).length ≤ 19 := by
  have : ∀ (d n : Nat), n < 10 ^ (d + 1) → (dd n).length ≤ d + 1 := by
    intro d
    induction d with
    | zero => intro n h; rw [dd_small (by simpa using h)]; simp
    | succ d ih =>
      intro n h
      by_cases h1 : n < 10
      · rw [dd_small h1]; simp
      · rw [dd_big h1, List.length_append]
        have := ih (n / 10) (by rw [Nat.div_lt_iff_lt_mul (by decide)]; rw [Nat.pow_succ] at h; exact h)
        simp; omega
  exact this 18 n (Nat.lt_of_le_of_lt h (by decide))
theorem bigV_dd {n : Nat} (h : n ≤ 1152921504606846976) : bigV (dd n) = n := by
  unfold bigV
  have h1 := dd_pos n
  have h2 := dd_19 h
  rw [if_neg]
  · have := bigF_dd n h []
    rw [List.append_nil] at this
    rw [this]; unfold bigF; rw [if_neg (by omega)]
  · rintro (h3 | h3 | ⟨h3, h4⟩)
    · omega
    · omega
    · exact dd_head n (by have := dd_len1 h4; omega) h3
theorem bigV_inv {l : List UInt8} {n : Nat} (h : bigV l = n) : n ≤ 1152921504606846976 ∧ l = dd n := by
  unfold bigV at h
  split at h
  · omega
  · rename_i hb
    cases l with
    | nil => simp at hb
    | cons c r =>
      unfold bigF at h
      split at h
      · omega
      · rename_i hc
        by_cases h0 : c.toNat = 48
        · have hc48 : c = 48 := UInt8.toNat_inj.1 h0
          have hr : r = [] := by
            cases r with
            | nil => rfl
            | cons x y => exact absurd (.inr (.inr ⟨by simp [hc48], by simp⟩)) hb
          subst hr
          unfold bigF at h
          have : n = 0 := by split at h <;> omega
          subst this
          exact ⟨by decide, by rw [dd_small (by decide), hc48]; rfl⟩
        · have ha : 1 ≤ 10 * 0 + (c.toNat - 48) := by omega
          obtain ⟨h1, h2⟩ := bigF_inv r _ n ha h
          refine ⟨h1, ?_⟩
          rw [h2, dd_small (by omega), show 48 + (10 * 0 + (c.toNat - 48)) = 48 + (c.toNat - 48) by omega, ← dig_of (by omega) (by omega)]; rfl
/-- strconv.Atoi, whatever comes. -/
def atoiV (l : List UInt8) : Int := match Lib.atoiAll l with
  | .ok v => v
  | .range => Lib.atoiSat l
  | _ => 0
theorem parse_dd : ∀ (n : Nat), n ≤ 1152921504606846976 → ∀ r, Lib.parseUint10 0 (dd n ++ r) = Lib.parseUint10 n r := by
  intro n
  induction n using Nat.strongRecOn with
  | _ n ih =>
    intro hn r
    by_cases h : n < 10
    · rw [dd_small h, List.singleton_append]; conv => lhs; unfold Lib.parseUint10
      rw [dig_nat h, if_pos (by omega), if_neg (by omega), if_neg (by omega)]; congr 1; omega
    · rw [dd_big h, List.append_assoc, ih (n / 10) (by omega) (by omega), List.singleton_append]; conv => lhs; unfold Lib.parseUint10
      rw [dig_nat (by omega), if_pos (by omega), if_neg (by omega), if_neg (by omega)]; congr 1; omega
theorem atoi_dd {n : Nat} (h : n ≤ 1152921504606846976) : Lib.atoiAll (dd n) = .ok (n : Int) := by
  have h1 := parse_dd n h []
  rw [List.append_nil] at h1
  cases hl : dd n with
  | nil => have := dd_pos n; rw [hl] at this; simp at this
  | cons c r =>
    have hc := dd_digits n c (by rw [hl]; simp)
    rw [hl] at h1
    unfold Lib.atoiAll
    dsimp only
    rw [if_neg (by omega)]
    unfold Lib.parseMag
    rw [if_neg (by simp), h1]
    unfold Lib.parseUint10
    dsimp only
    rw [if_neg (by omega), if_neg (by omega), if_neg (by omega)]
theorem atoiV_dd {n : Nat} (h : n ≤ 1152921504606846976) : atoiV (dd n) = n := by unfold atoiV; rw [atoi_dd h]
theorem dd_no32 (n : Nat) : (32 : UInt8) ∉ dd n := fun h => by have := (dd_digits n 32 h).1; revert this; decide
theorem dd_no10 (n : Nat) : (10 : UInt8) ∉ dd n := fun h => by have := (dd_digits n 10 h).1; revert this; decide
/-- The lines of a text; each keeps its line feed. -/
def linesF : Nat → List UInt8 → List (List UInt8)
  | 0, _ => []
  | n + 1, l => if l = [] then [] else if 0 ≤ Lib.indexByte l 10 then l.take ((Lib.indexByte l 10).toNat + 1) :: linesF n (l.drop ((Lib.indexByte l 10).toNat + 1)) else [l]
def linesL (l : List UInt8) : List (List UInt8) := linesF l.length l
theorem idx_cases (l : List UInt8) : ((10 : UInt8) ∉ l ∧ Lib.indexByte l 10 = -1) ∨ ∃ a r, (10 : UInt8) ∉ a ∧ l = a ++ 10 :: r ∧ Lib.indexByte l 10 = a.length := by
  have : (10 : UInt8) ∉ l ∨ ∃ a r, (10 : UInt8) ∉ a ∧ l = a ++ 10 :: r := by
    induction l with
    | nil => exact .inl (by simp)
    | cons b l ih =>
      by_cases h : b = 10
      · exact .inr ⟨[], l, by simp, by rw [h]; rfl⟩
      · rcases ih with h2 | ⟨a, r, h2, h3⟩
        · exact .inl (by simp [h2]; exact fun e => h e.symm)
        · exact .inr ⟨b :: a, r, by simp [h2]; exact fun e => h e.symm, by rw [h3]; rfl⟩
  rcases this with h | ⟨a, r, h, rfl⟩
  · exact .inl ⟨h, idx_none h⟩
  · exact .inr ⟨a, r, h, rfl, idx_at h⟩
theorem linesF_more : ∀ (n m : Nat) (l : List UInt8), l.length ≤ n → l.length ≤ m → linesF n l = linesF m l := by
  intro n
  induction n with
  | zero =>
    intro m l h1 h2
    have : l = [] := List.length_eq_zero_iff.1 (by omega)
    subst this
    cases m with | zero => rfl | succ m => unfold linesF; rw [if_pos rfl]
  | succ n ih =>
    intro m l h1 h2
    cases m with
    | zero =>
      have : l = [] := List.length_eq_zero_iff.1 (by omega)
      subst this
      unfold linesF; rw [if_pos rfl]
    | succ m =>
      unfold linesF
      by_cases h0 : l = []
      · rw [if_pos h0, if_pos h0]
      · rw [if_neg h0, if_neg h0]
        split
        · have hl : 0 < l.length := by cases l with | nil => exact absurd rfl h0 | cons _ _ => simp
          rw [ih m _ (by rw [List.length_drop]; omega) (by rw [List.length_drop]; omega)]
        · rfl
theorem linesL_nil : linesL [] = [] := rfl
theorem linesL_cut {a r : List UInt8} (h : (10 : UInt8) ∉ a) : linesL (a ++ 10 :: r) = (a ++ [10]) :: linesL r := by
  unfold linesL
  rw [show (a ++ 10 :: r).length = (a.length + r.length) + 1 by simp; omega]
  conv => lhs; unfold linesF
  rw [if_neg (by simp), idx_at h, if_pos (by omega), show (a.length : Int).toNat + 1 = (a ++ [10]).length by simp, show a ++ 10 :: r = (a ++ [10]) ++ r by simp, List.take_left' rfl, List.drop_left' rfl, linesF_more _ r.length r (by omega) (Nat.le_refl _)]
theorem linesL_last {a : List UInt8} (h : (10 : UInt8) ∉ a) (h0 : a ≠ []) : linesL a = [a] := by
  unfold linesL
  cases a with
  | nil => exact absurd rfl h0
  | cons b l =>
    rw [List.length_cons]
    unfold linesF
    rw [if_neg h0, idx_none h, if_neg (by decide)]
theorem linesF_size : ∀ (n : Nat) (l : List UInt8), (linesF n l).length ≤ l.length ∧ ∀ x ∈ linesF n l, x.length ≤ l.length
  | 0, l => ⟨Nat.zero_le _, fun x h => by cases h⟩
  | n + 1, l => by
    unfold linesF
    by_cases h0 : l = []
    · rw [if_pos h0]; exact ⟨Nat.zero_le _, fun x h => by cases h⟩
    · rw [if_neg h0]
      have hl : 0 < l.length := by cases l with | nil => exact absurd rfl h0 | cons _ _ => simp
      split
      · obtain ⟨h1, h2⟩ := linesF_size n (l.drop ((Lib.indexByte l 10).toNat + 1))
        rw [List.length_drop] at h1 h2
        refine ⟨by rw [List.length_cons]; omega, fun x h => ?_⟩
        rcases List.mem_cons.1 h with rfl | h
        · rw [List.length_take]; omega
        · have := h2 x h; omega
      · refine ⟨by simp; omega, fun x h => ?_⟩
        rw [List.mem_singleton.1 h]; exact Nat.le_refl _
theorem linesL_size (l : List UInt8) : (linesL l).length ≤ l.length ∧ ∀ x ∈ linesL l, x.length ≤ l.length := linesF_size _ l
theorem splitL_len : ∀ (l w : List UInt8), w ∈ splitL l → w.length ≤ l.length
  | [], w, h => by rw [show splitL [] = [[]] from rfl, List.mem_singleton] at h; rw [h]; exact Nat.le_refl _
  | b :: l, w, h => by
    have ih := splitL_len l
    unfold splitL at h
    by_cases hb : b = 32
    · rw [if_pos hb] at h
      rcases List.mem_cons.1 h with rfl | h
      · exact Nat.zero_le _
      · have := ih w h; rw [List.length_cons]; omega
    · rw [if_neg hb] at h
      cases hs : splitL l with
      | nil => exact absurd hs (splitL_ne l)
      | cons y ys =>
        rw [hs] at h ih
        rcases List.mem_cons.1 h with rfl | h
        · have := ih y (by simp); simp; omega
        · have := ih w (List.mem_cons_of_mem _ (by simpa using h)); rw [List.length_cons]; omega
theorem splitW_sz (s x : ByteArray) (h : x ∈ splitW s) : x.size ≤ s.size := by
  have h1 : x.data.toList ∈ splitL s.data.toList := by rw [← splitW_data]; exact List.mem_map.2 ⟨x, h, rfl⟩
  have h2 := splitL_len _ _ h1
  rw [Array.length_toList, Array.length_toList] at h2
  exact h2
end Go.Proofs.YtfdaheenigmkmaaDoor
