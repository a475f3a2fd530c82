/- play.line. -/
import Derived.Test.YtfdaheenigmkmaaDoorMvR
import Derived.Test.YtfdaheenigmkmaaDoorBldW
import Derived.Lib.SmallJoins
import Derived.Deep.DeepCutAuto
namespace Go.Proofs.YtfdaheenigmkmaaDoor
open Go.RowKit Go.ChangeShapes Go.WideShapes Go.ChangeAt
set_option linter.unusedVariables false
set_option linter.unusedSimpArgs false
/-- The forms of all kinds, where the variable lies. -/
def FormsAt (w : World) : Prop := ∀ k : Nat, k < 8 → w.cell? ⟨0, k * 3, none⟩ = some (.string (wordB ((k : Int) + 1))) ∧ w.cell? ⟨0, k * 3 + 1, none⟩ = some (.bool (atB ((k : Int) + 1))) ∧ w.cell? ⟨0, k * 3 + 2, none⟩ = some (.bool (keepB ((k : Int) + 1)))
/-- What Itoa wants of the world. -/
def PowAt (w : World) : Prop := Lib.TabIs Tryd.prog w "internal/strconv.uint64pow10" .u64 Lib.pow10Tab
theorem FormsAt.below {w w' : World} (h : FormsAt w) (hb : Below w.heap.size w w') : FormsAt w' := fun k hk => ⟨keepb hb (h k hk).1, keepb hb (h k hk).2.1, keepb hb (h k hk).2.2⟩
theorem PowAt.below {w w' : World} (h : PowAt w) (hb : Below w.heap.size w w') : PowAt w' := Go.Joins.tab_stays (g := 4) (by kernel_rfl) h hb (Nat.le_refl _)
theorem below_growD (w : World) (k : Nat) (os : Array Obj) : Below w.heap.size w (Go.Sort.grow (w.drewN k) os) :=
  ⟨rfl, rfl, rfl, by show w.heap.size ≤ (w.heap ++ os).size; rw [Array.size_append]; omega, fun i hi => by show (w.heap ++ os)[i]? = w.heap[i]?; rw [Array.getElem?_append_left hi]⟩
theorem itoa_all (n : Nat) (hn : n ≤ 1152921504606846976) (w : World) (h : PowAt w) : Calls Tryd.prog 24 #[.int .i64 (n : Int)] w fun e w' => e = .returned (.string (decB n)) ∧ Below w.heap.size w w' := by
  refine (Tryd.strconv_Itoa (n : Int) (by omega) (by omega) w h).mono ?_
  rintro e w' ⟨rfl, k, os, rfl⟩
  refine ⟨?_, below_growD w k os⟩
  have : Lib.itoa (n : Int) = Lib.decDigits n := by unfold Lib.itoa; rw [if_neg (by omega)]; simp
  rw [this]; rfl
def partB (k a p : Int) : Nat → ByteArray
  | 0 => wordB k
  | 1 => addN (wordB k) (atB k) a
  | _ => addN (addN (wordB k) (atB k) a) (keepB k) p
def okAt (k a p : Int) : Nat → Prop
  | 0 => numOk (atB k) a
  | _ => numOk (keepB k) p
def LnR (k a p : Int) (W : World) (v5 v34 : Value) (wr : World) : Prop :=
  ∃ (i : Nat) (s : ByteArray), i ≤ 2 ∧ v34 = .int .i64 (i : Nat) ∧ v5 = .string s ∧ Hid (s = partB k a p i) ∧ Hid (s.size ≤ 6 + i * 1152921504606846978) ∧ Hid (∀ j < i, okAt k a p j) ∧ Hid (Below W.heap.size W wr)
theorem sz_step {s i : Nat} (h : s ≤ 6 + i * 1152921504606846978) : s ≤ 6 + (i + 1) * 1152921504606846978 := Nat.le_trans h (Nat.add_le_add_left (Nat.mul_le_mul_right _ (Nat.le_succ i)) 6)
theorem pair_at (x y : Bool) (a p : Int) (q : Nat) (hq : q < 2) : ∃ (has : Bool) (n : Int), (∀ w, (Instr.index 62 (.agg #[.bool x, .int .i64 a, .bool y, .int .i64 p]) (.int .i64 (q : Nat))).run Tryd.prog w = .ok (.agg #[.bool has, .int .i64 n]) w) ∧ (q = 0 → has = x ∧ n = a) ∧ (q = 1 → has = y ∧ n = p) := by
  match q, hq with
  | 0, _ => exact ⟨x, a, fun w => by kernel_rfl, fun _ => ⟨rfl, rfl⟩, fun h => absurd h (by decide)⟩
  | 1, _ => exact ⟨y, p, fun w => by kernel_rfl, fun h => absurd h (by decide), fun _ => ⟨rfl, rfl⟩⟩
set_option maxRecDepth 100000 in
set_option maxHeartbeats 8000000 in
theorem line_walk (m : Move) (w : World) (hf : FormsAt w) (hp : PowAt w) : Calls Tryd.prog 13 #[.agg #[.int .i64 m.kind, .int .i64 m.at_, .int .i64 m.keep]] w fun e w' => e = .returned (.tuple #[.string (lineV m).1, .int .i64 (lineV m).2]) ∧ Below w.heap.size w w' := by
  obtain ⟨k, a, p⟩ := m
  dsimp only
  have HB := hid (bA (Below.refl w.heap.size w) (.cells #[.int .i64 k, .int .i64 a, .int .i64 p] 38))
  by_cases hbad : k < 1 ∨ 8 < k
  · have HLV := hid (show lineV ⟨k, a, p⟩ = (⟨#[]⟩, 3) by unfold lineV; rw [if_pos hbad])
    by_cases h1 : k < 1
    · clear hbad
      go_enter Tryd.func13, Tryd.ntmps13
      go_wp2_with fail
      go_ret2
      exact ⟨by rw [HLV.out]; rfl, HB.out⟩
    · have h8 : 8 < k := by omega
      clear hbad
      go_enter Tryd.func13, Tryd.ntmps13
      go_wp2_with fail
      go_ret2
      exact ⟨by rw [HLV.out]; rfl, HB.out⟩
  · have h1 : ¬ k < 1 := by omega
    have h8 : ¬ 8 < k := by omega
    have HLV := hid (show lineV ⟨k, a, p⟩ = if ¬ (numOk (atB k) a ∧ numOk (keepB k) p) then (⟨#[]⟩, 2) else (addN (addN (wordB k) (atB k) a) (keepB k) p ++ nlB, 0) by unfold lineV; rw [if_neg hbad])
    obtain ⟨K, hK⟩ : ∃ K : Nat, k = (K : Int) + 1 := ⟨(k - 1).toNat, by omega⟩
    have hK8 : K < 8 := by omega
    have hKz : (K : Int) < 8 := by omega
    have HWS := hid (wordB_size k)
    have hl0 : 0 < w.heap.size := World.block_lt_of_cell? _ _ (hf 0 (by decide)).1
    have hwk : IntKind.i64.wrap (k - 1) = (K : Int) := by rw [IntWalk.i64_in _ (by omega)]; omega
    obtain ⟨W, hW⟩ : ∃ W, W = w.alloc (.cells #[.int .i64 k, .int .i64 a, .int .i64 p] 38) := ⟨_, rfl⟩
    have HFW : Hid (FormsAt W) := hid (hf.below (by rw [hW]; exact HB.out))
    obtain ⟨f0, f1, f2⟩ := HFW.out K hK8
    rw [← hK] at f0 f1 f2
    have HPW := hid hp
    have hBW : Below w.heap.size w W := by rw [hW]; exact HB.out
    have g0 : W.cell? ⟨w.heap.size, 0, none⟩ = some (.int .i64 k) := by rw [hW]; go_simp
    have g1 : W.cell? ⟨w.heap.size, 1, none⟩ = some (.int .i64 a) := by rw [hW]; go_simp
    have g2 : W.cell? ⟨w.heap.size, 2, none⟩ = some (.int .i64 p) := by rw [hW]; go_simp
    have hWs : W.heap.size = w.heap.size + 1 := by rw [hW]; simp
    obtain ⟨V, hV⟩ : ∃ V, V = W.alloc (.cells #[.string (wordB k), .bool (atB k), .bool (keepB k)] 55) := ⟨_, rfl⟩
    have HBV := hid (show Below w.heap.size w V by rw [hV]; exact bT hBW (bA (Below.refl _ _) _))
    have HPI := hid (pair_at (atB k) (keepB k) a p)
    have HL0 : Hid (LnR k a p V (.string (wordB k)) (.int .i64 (0 : Nat)) V) := hid ⟨0, wordB k, by decide, rfl, rfl, hid rfl, hid (by have := HWS.out; omega), hid (fun j hj => absurd hj (by omega)), hid (Below.refl _ _)⟩
    have HK := hid hK
    clear hbad hf hp hBW hK
    go_enter Tryd.func13, Tryd.ntmps13
    go_upto_region 3 with fail
    rw [← hW]
    clear hW
    go_upto_region 4 with fail
    rw [← hV]
    have v0 : V.cell? ⟨w.heap.size + 1, 0, none⟩ = some (.string (wordB k)) := by rw [hV, ← hWs]; go_simp
    have v1 : V.cell? ⟨w.heap.size + 1, 1, none⟩ = some (.bool (atB k)) := by rw [hV, ← hWs]; go_simp
    have v2 : V.cell? ⟨w.heap.size + 1, 2, none⟩ = some (.bool (keepB k)) := by rw [hV, ← hWs]; go_simp
    have bWV : Below W.heap.size W V := by rw [hV]; exact bA (Below.refl _ _) _
    have g0 := keepb bWV g0
    have g1 := keepb bWV g1
    have g2 := keepb bWV g2
    clear hV f0 f1 f2 bWV hl0 hWs
    go_wp2_with fail
    go_loopw [5, 34] (fun v5 v34 wr => LnR k a p V v5 v34 wr) (fun _ v34 _ => 2 - (intOf v34).toNat)
    case atStart => exact HL0.out
    case round =>
      clear HL0
      obtain ⟨i, s, hi, rfl, rfl, HS, HSZ, HOKS, HBR⟩ := hrel
      have HBT := hid (HBV.out.trans (HBR.out.mono HBV.out.size))
      by_cases hlt : i < 2
      · obtain ⟨has, n, hix, hq0, hq1⟩ := HPI.out i hlt
        have HIX := hid hix
        have hiz : (i : Int) < 2 := by omega
        have HST : Hid (partB k a p (i + 1) = addN s has n) := hid (by
          rw [HS.out]
          rcases (show i = 0 ∨ i = 1 by omega) with rfl | rfl
          · obtain ⟨e1, e2⟩ := hq0 rfl; rw [e1, e2]; rfl
          · obtain ⟨e1, e2⟩ := hq1 rfl; rw [e1, e2]; rfl)
        have HOI : Hid (okAt k a p i ↔ numOk has n) := hid (by
          rcases (show i = 0 ∨ i = 1 by omega) with rfl | rfl
          · obtain ⟨e1, e2⟩ := hq0 rfl; rw [e1, e2]; exact Iff.rfl
          · obtain ⟨e1, e2⟩ := hq1 rfl; rw [e1, e2]; exact Iff.rfl)
        have HBADI : Hid (¬ numOk has n → lineV ⟨k, a, p⟩ = (⟨#[]⟩, 2)) := hid fun hno => by
          rw [HLV.out, if_pos]
          rintro ⟨c1, c2⟩
          apply hno
          rcases (show i = 0 ∨ i = 1 by omega) with rfl | rfl
          · obtain ⟨e1, e2⟩ := hq0 rfl; rw [e1, e2]; exact c1
          · obtain ⟨e1, e2⟩ := hq1 rfl; rw [e1, e2]; exact c2
        have HBX := hid (bA HBT.out (.cells #[.bool has, .int .i64 n] 61))
        clear hix hq0 hq1
        by_cases hn0 : n < 0
        · have HLE := hid (HBADI.out (fun h => by have := h.1; omega))
          clear HBADI HOI
          go_wp2_with (first | rw [HIX.out])
          go_ret2
          exact ⟨by rw [HLE.out]; rfl, HBX.out⟩
        · by_cases hnm : 1152921504606846976 < n
          · have HLE := hid (HBADI.out (fun h => by have := h.2.1; omega))
            clear HBADI HOI
            go_wp2_with (first | rw [HIX.out])
            go_ret2
            exact ⟨by rw [HLE.out]; rfl, HBX.out⟩
          · cases has with
            | false =>
              by_cases hnz : n = 0
              · subst hnz
                have HREL := hid (fun (Z : World) (hZ : Below V.heap.size V Z) => (show LnR k a p V (.string s) (.int .i64 ((i + 1 : Nat) : Int)) Z from ⟨i + 1, s, by omega, rfl, rfl, hid (by rw [HST.out]; unfold addN; simp), hid (sz_step HSZ.out), hid (fun j hj => by
                  rcases Nat.lt_succ_iff_lt_or_eq.1 hj with h | rfl
                  · exact HOKS.out j h
                  · exact HOI.out.2 ⟨by omega, by omega, fun _ => rfl⟩), hid hZ⟩))
                clear HBADI HOI HST HOKS
                go_wp2_with (first | rw [HIX.out])
                go_roundw
                case rel =>
                  have h := HREL.out _ (bA HBR.out (.cells #[.bool false, .int .i64 0] 61))
                  rw [show ((i + 1 : Nat) : Int) = (i : Int) + 1 by omega] at h
                  exact h
                case measure => simp [intOf]; omega
              · have HLE := hid (HBADI.out (fun h => hnz (h.2.2 rfl)))
                have hnb : (n != 0) = true := by simpa using hnz
                clear HBADI HOI
                go_wp2_with (first | rw [HIX.out])
                go_ret2
                exact ⟨by rw [HLE.out]; rfl, HBX.out⟩
            | true =>
              obtain ⟨N, rfl⟩ := Int.eq_ofNat_of_zero_le (show 0 ≤ n by omega)
              have hnd := nDig N (by omega)
              have hsz := HSZ.out
              have hc1 : ¬ 9223372036854775807 < 1 + (decB N).size := by omega
              have hc2 : ¬ 9223372036854775807 < s.size + (1 + (decB N).size) := by
                have : i * 1152921504606846978 ≤ 1152921504606846978 := by
                  rcases (show i = 0 ∨ i = 1 by omega) with rfl | rfl <;> decide
                omega
              have hc2' : ¬ 9223372036854775807 < s.size + (⟨#[32]⟩ ++ decB N : ByteArray).size := by rw [ByteArray.size_append, show (⟨#[32]⟩ : ByteArray).size = 1 from rfl]; exact hc2
              have HIT := hid (fun (Z : World) (hZ : Below w.heap.size w Z) => itoa_all N (by omega) Z (show PowAt Z from Go.Joins.tab_stays (g := 4) (by kernel_rfl) HPW.out hZ (Nat.le_refl _)))
              have HREL := hid (fun (Z : World) (hZ : Below V.heap.size V Z) => (show LnR k a p V (.string (s ++ (⟨#[32]⟩ ++ decB N))) (.int .i64 ((i + 1 : Nat) : Int)) Z from ⟨i + 1, _, by omega, rfl, rfl, hid (by rw [HST.out]; unfold addN spB; rw [if_pos rfl, Int.toNat_natCast]), hid (by rw [ByteArray.size_append, ByteArray.size_append, show (⟨#[32]⟩ : ByteArray).size = 1 from rfl]; have e : (i + 1) * 1152921504606846978 = i * 1152921504606846978 + 1152921504606846978 := Nat.succ_mul _ _; omega), hid (fun j hj => by
                  rcases Nat.lt_succ_iff_lt_or_eq.1 hj with h | rfl
                  · exact HOKS.out j h
                  · exact HOI.out.2 ⟨by omega, by omega, fun h => by cases h⟩), hid hZ⟩))
              clear HBADI HOI HST HOKS hnd hsz
              go_wp2_with (first | rw [HIX.out])
              refine (HIT.out _ HBX.out).mono ?_
              rintro e z ⟨rfl, bz⟩
              go_wp2_with fail
              go_roundw
              case rel =>
                have h := HREL.out z (bT (bA HBR.out (.cells #[.bool true, .int .i64 (N : Int)] 61)) bz)
                rw [show ((i + 1 : Nat) : Int) = (i : Int) + 1 by omega] at h
                exact h
              case measure => simp [intOf]; omega
      · obtain rfl : i = 2 := by omega
        have hsz := HSZ.out
        have hc1 : ¬ 9223372036854775807 < s.size + 1 := by omega
        have HLE := hid (show lineV ⟨k, a, p⟩ = (s ++ ⟨#[10]⟩, 0) by
          rw [HLV.out, if_neg (fun h => h ⟨HOKS.out 0 (by decide), HOKS.out 1 (by decide)⟩), HS.out]; rfl)
        clear hsz
        go_wp2_with fail
        go_ret2
        exact ⟨by rw [HLE.out]; rfl, HBT.out⟩
end Go.Proofs.YtfdaheenigmkmaaDoor
