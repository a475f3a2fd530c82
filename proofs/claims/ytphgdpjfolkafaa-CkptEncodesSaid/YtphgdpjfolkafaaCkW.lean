/- ckpt.Encode. -/
import Derived.Test.YtphgdpjfolkafaaCkE
namespace Go.Proofs.Ytphgdpjfolkafaa
open Go.ChangeShapes Go.WideShapes Go.ChangeAt Go.RowKit
set_option linter.unusedVariables false
set_option linter.unusedSimpArgs false
theorem retL_nilB (w w' : World) (err : Int) (b : Below w.heap.size w w') : RetL 5 1 w 0 [] err (.returned (.tuple #[.slice none 0 0, .int .i64 err])) w' := ⟨none, 0, rfl, World.ownsRow_nil _ _ _ _, b⟩
theorem nums_of (s : Saved) : nums s = [s.step, s.phase, b01 s.fresh, (s.vals.length : Int)] ++ numsV s.vals ++ [(s.mail.length : Int)] ++ numsM s.mail := rfl
theorem InkN.below {q : Nat} {ns : List Int} {w w' : World} (h : InkN q ns w) (hb : Below w.heap.size w w') : InkN q ns w' := by
  obtain ⟨A, c, h1, h2, h3, h4⟩ := h
  exact ⟨A, c, keepb hb h1, own_below h2 hb (Nat.le_refl _), Nat.lt_of_lt_of_le h3 hb.size, (hb.frozen (p := ⟨q, 0, none⟩) h3).trans h4⟩
def EVRel (q : Nat) (ns : List Int) (l : List Val) (W : World) (i : Value) (wr : World) : Prop := ∃ k : Nat, k ≤ l.length ∧ i = .int .i64 k ∧ Hid (InkN q (ns ++ numsV (l.take k)) wr) ∧ Below q W wr
def EMRel (q : Nat) (ns : List Int) (l : List Mail) (W : World) (i : Value) (wr : World) : Prop := ∃ k : Nat, k ≤ l.length ∧ i = .int .i64 k ∧ Hid (InkN q (ns ++ numsM (l.take k)) wr) ∧ Below q W wr
set_option maxRecDepth 100000 in
set_option maxHeartbeats 8000000 in
theorem encode_walk (s : Saved) (w : World) (A B : Option Addr) (c d : Nat) (hv : Rd w w.heap.size A 2 s.vals.length (s.vals.flatMap Val.cells)) (hm : Rd w w.heap.size B 2 s.mail.length (s.mail.flatMap Mail.cells)) :
    Calls Try.prog 17 #[.agg (svC s A c B d)] w (RetL 5 1 w (encV s).1.length ((encV s).1.flatMap u8c) (encV s).2) := by
  have b00 : Below w.heap.size w (w.alloc (.cells (svC s A c B d) 36)) := bA (Below.refl _ _) _
  have HMAY := hid (may_walk s (w.alloc (.cells (svC s A c B d) 36)) A B c d ((hv.below b00).any (by omega)) ((hm.below b00).any (by omega)))
  cases hs : svB s with
  | false =>
    rw [encV_bad hs]
    rw [hs] at HMAY
    obtain ⟨st, ph, fr, vs, ms⟩ := s
    clear hs
    unfold svC at *
    simp only at *
    go_enter Try.func17, Try.ntmps17
    go_wp2_with fail
    refine HMAY.out.mono ?_
    rintro e w1 ⟨rfl, b1⟩
    go_wp2_with fail
    go_ret2
    exact retL_nilB _ _ _ (bT b00 b1)
  | true =>
    rw [encV_ok hs]
    rw [hs] at HMAY
    have hok := svB_ok hs
    have HU := hid (nums_ok hok)
    have HNS := hid (nums_of s)
    have HNL := hid (nums_len s)
    have HPL := hid (packs_len (nums s))
    have HPB := hid (packs_byte (nums_ok hok))
    obtain ⟨⟨o1, o2, o3, o4⟩, o5, o6, _⟩ := hok
    generalize hP : packs (nums s) = P at *
    have HP := hid hP
    clear hP hs
    generalize nums s = NS at *
    have HB0 := hid b00
    obtain ⟨st, ph, fr, vs, ms⟩ := s
    unfold svC at *
    simp only at *
    have HO5 := hid o5
    have HO6 := hid o6
    have HIN : ∀ x, x ∈ NS → 0 ≤ x ∧ x ≤ 9223372036854775807 := fun x hx => HU.out x hx
    have HHD : Hid (u64s [st, ph, b01 fr, (vs.length : Int)]) := hid fun x hx => HIN x (by rw [HNS.out]; simp only [List.mem_append]; exact .inl (.inl (.inl hx)))
    have HTL : Hid (u64s [(ms.length : Int)]) := hid fun x hx => HIN x (by rw [HNS.out]; simp only [List.mem_append]; exact .inl (.inr hx))
    have HVL := hid (fun k : Nat => numsV_len (vs.take k))
    have HML := hid (fun k : Nat => numsM_len (ms.take k))
    clear HIN o1 o2 o5 o6 HU
    have q0 : (w.alloc (.cells #[.int .i64 st, .int .i64 ph, .bool fr, .slice A vs.length c, .slice B ms.length d] 36)).cell? ⟨w.heap.size, 0, none⟩ = some (.int .i64 st) := by go_simp
    have q1 : (w.alloc (.cells #[.int .i64 st, .int .i64 ph, .bool fr, .slice A vs.length c, .slice B ms.length d] 36)).cell? ⟨w.heap.size, 1, none⟩ = some (.int .i64 ph) := by go_simp
    have q2 : (w.alloc (.cells #[.int .i64 st, .int .i64 ph, .bool fr, .slice A vs.length c, .slice B ms.length d] 36)).cell? ⟨w.heap.size, 2, none⟩ = some (.bool fr) := by go_simp
    have q3 : (w.alloc (.cells #[.int .i64 st, .int .i64 ph, .bool fr, .slice A vs.length c, .slice B ms.length d] 36)).cell? ⟨w.heap.size, 3, none⟩ = some (.slice A vs.length c) := by go_simp
    have q4 : (w.alloc (.cells #[.int .i64 st, .int .i64 ph, .bool fr, .slice A vs.length c, .slice B ms.length d] 36)).cell? ⟨w.heap.size, 4, none⟩ = some (.slice B ms.length d) := by go_simp
    clear b00
    have hcom : ∀ f : Int, b01 fr = f → True := fun _ _ => trivial
    have HNS2 : Hid (∃ f : Int, b01 fr = f ∧ (f = 0 ∨ f = 1)) := hid ⟨_, rfl, by unfold b01; split <;> simp⟩
    cases fr
    case' false => obtain ⟨f, hf⟩ : ∃ f : Int, f = 0 := ⟨_, rfl⟩
    case' true => obtain ⟨f, hf⟩ : ∃ f : Int, f = 1 := ⟨_, rfl⟩
    all_goals
      have HHD2 : Hid (u64s [st, ph, f, (vs.length : Int)]) := hid (by have := HHD.out; rw [hf]; exact this)
      go_enter Try.func17, Try.ntmps17
      go_wp2_with fail
      refine HMAY.out.mono ?_
      rintro e w1 ⟨rfl, b1⟩
      have q0 := keepb b1 q0
      have q1 := keepb b1 q1
      have q2 := keepb b1 q2
      have q3 := keepb b1 q3
      have q4 := keepb b1 q4
      have HB1 := hid (bT HB0.out b1)
      have hz1 : w.heap.size + 1 ≤ w1.heap.size := by have := b1.size; simpa using this
      have HI0 : Hid (InkN w1.heap.size [] (w1.alloc (.cells #[.slice none 0 0] 22))) := hid ⟨none, 0, by show World.cell? _ _ = some (.slice none 0 0); go_simp, World.ownsRow_nil _ _ _ _, by simp, by go_simp⟩
      have HAL : Below w1.heap.size w1 (w1.alloc (.cells #[.slice none 0 0] 22)) := bA (Below.refl _ _) _
      have q0 := keepb HAL q0
      have q1 := keepb HAL q1
      have q2 := keepb HAL q2
      have q3 := keepb HAL q3
      have q4 := keepb HAL q4
      have HPUT := hid (encPut_new [st, ph, f, (vs.length : Int)] HI0.out #[.int .i64 st, .int .i64 ph, .int .i64 f, .int .i64 vs.length] rfl HHD2.out (by simp) 4 rfl (w1.heap.size + 1) (by simp))
      go_wp2_with fail
      rw [hf] at HPUT
      refine HPUT.out.mono ?_
      rintro e w2 ⟨rfl, hi2, b2⟩
      have HI2 : Hid (InkN w1.heap.size [st, ph, f, (vs.length : Int)] w2) := hid (by rw [hf]; exact hi2)
      have HF := hid hf
      clear hi2 HPUT HI0 hf q0 q1 q2
      have HB2 : Hid (Below w1.heap.size w1 w2) := hid (HAL.trans b2)
      have q3 := b2.cell (p := ⟨w.heap.size, 3, none⟩) (by show w.heap.size < w1.heap.size; omega) |>.trans q3
      have q4 := b2.cell (p := ⟨w.heap.size, 4, none⟩) (by show w.heap.size < w1.heap.size; omega) |>.trans q4
      have R4 := hid ((HB2.out.cell (p := ⟨w.heap.size, 4, none⟩) (by show w.heap.size < w1.heap.size; omega)).symm.trans q4)
      clear b2 HAL
      go_wp2_with fail
      go_loopw [31] (fun i wr => EVRel w1.heap.size [st, ph, f, (vs.length : Int)] vs w1 i wr) (fun i _ => vs.length - (intOf i).toNat)
      case atStart => exact ⟨0, by omega, rfl, hid (by rw [List.take_zero]; simpa [numsV] using HI2.out), HB2.out⟩
      case round =>
        clear q3 q4 HI2 HB2
        obtain ⟨k, hkl, rfl, HI, hbel⟩ := hrel
        have hb0 := bT HB1.out hbel
        have hqs := HI.out.choose_spec.choose_spec.2.2.1
        have q4 := (hbel.cell (p := ⟨w.heap.size, 4, none⟩) (by show w.heap.size < w1.heap.size; omega)).trans R4.out
        by_cases hlt : k < vs.length
        · obtain ⟨x, hx⟩ : ∃ x, vs[k]? = some x := ⟨_, List.getElem?_eq_getElem hlt⟩
          obtain ⟨b, off, rfl, hb, c0, c1⟩ := vals_cells (hv.below hb0) rfl hx
          have hkz : (k : Int) < (vs.length : Int) := by omega
          have hox := HO5.out x (List.mem_of_getElem? hx)
          obtain ⟨xa, xl⟩ := x
          obtain ⟨⟨h1, h2⟩, h3, h4⟩ := hox
          simp only at c0 c1 h1 h2 h3 h4
          have HT : Hid (numsV (vs.take (k + 1)) = numsV (vs.take k) ++ [xa + 1, xl + 1]) := hid (by rw [take_nextV hx, numsV_snoc])
          have hw1 : IntKind.i64.wrap (xa + 1) = xa + 1 := IntWalk.i64_in _ (by omega)
          have hw2 : IntKind.i64.wrap (xl + 1) = xl + 1 := IntWalk.i64_in _ (by omega)
          have HPUT := hid (encPut_new [xa + 1, xl + 1] (HI.out.below (bA (Below.refl wr.heap.size wr) (.cells #[.int .i64 xa, .int .i64 xl] 99))) #[.int .i64 (xa + 1), .int .i64 (xl + 1)] rfl (fun n hn => by simp only [List.mem_cons, List.not_mem_nil, or_false] at hn; rcases hn with rfl | rfl <;> omega) (by have := HVL.out k; rw [List.length_take] at this; simp only [List.length_append, List.length_cons, List.length_nil]; omega) 2 rfl (wr.heap.size + 1) (by simp))
          clear hx h1 h2 h3 h4 hb0
          go_wp2_with fail
          refine HPUT.out.mono ?_
          rintro e w3 ⟨rfl, hi3, b3⟩
          have HI3 := hid hi3
          clear hi3 HPUT
          go_wp2_with fail
          go_roundw
          case rel => exact ⟨k + 1, by omega, by go_num, hid (by rw [HT.out, ← List.append_assoc]; exact HI3.out), (hbel.trans ((bA (Below.refl wr.heap.size wr) _).mono (Nat.le_of_lt hqs))).trans b3⟩
          case measure => simp [intOf]; omega
        · obtain rfl : k = vs.length := by omega
          have hkz : ¬ ((vs.length : Int) < (vs.length : Int)) := by omega
          rw [List.take_length] at HI
          have HPUT := hid (encPut_new [(ms.length : Int)] HI.out #[.int .i64 ms.length] rfl HTL.out (by have := HVL.out vs.length; rw [List.take_length] at this; simp only [List.length_append, List.length_cons, List.length_nil]; omega) 1 rfl wr.heap.size rfl)
          clear HI
          go_wp2_with fail
          refine HPUT.out.mono ?_
          rintro e w3 ⟨rfl, hi3, b3⟩
          have HI3 := hid hi3
          have HB3 := hid (hbel.trans b3)
          have q4 := (HB3.out.cell (p := ⟨w.heap.size, 4, none⟩) (by show w.heap.size < w1.heap.size; omega)).trans R4.out
          clear hi3 HPUT hb0 b3 hbel
          go_wp2_with fail
          go_loopw [54] (fun i wr => EMRel w1.heap.size ([st, ph, f, (vs.length : Int)] ++ numsV vs ++ [(ms.length : Int)]) ms w1 i wr) (fun i _ => ms.length - (intOf i).toNat)
          case atStart => exact ⟨0, by omega, rfl, hid (by rw [List.take_zero]; simpa [numsM] using HI3.out), HB3.out⟩
          case round =>
            clear q4 HI3 HB3 hqs
            obtain ⟨m, hml, rfl, HI, hbel⟩ := hrel
            have hb0 := bT HB1.out hbel
            have hqs := HI.out.choose_spec.choose_spec.2.2.1
            by_cases hlm : m < ms.length
            · obtain ⟨x, hx⟩ : ∃ x, ms[m]? = some x := ⟨_, List.getElem?_eq_getElem hlm⟩
              obtain ⟨b, off, rfl, hb, c0, c1⟩ := mail_cells (hm.below hb0) rfl hx
              have hmz : (m : Int) < (ms.length : Int) := by omega
              have hox := HO6.out x (List.mem_of_getElem? hx)
              obtain ⟨xa, xl⟩ := x
              obtain ⟨⟨h1, h2⟩, h3, h4⟩ := hox
              simp only at c0 c1 h1 h2 h3 h4
              have HT : Hid (numsM (ms.take (m + 1)) = numsM (ms.take m) ++ [xa, xl]) := hid (by rw [take_nextV hx, numsM_snoc])
              have HPUT := hid (encPut_new [xa, xl] (HI.out.below (bA (Below.refl wr.heap.size wr) (.cells #[.int .i64 xa, .int .i64 xl] 59))) #[.int .i64 xa, .int .i64 xl] rfl (fun n hn => by simp only [List.mem_cons, List.not_mem_nil, or_false] at hn; rcases hn with rfl | rfl <;> omega) (by have := HML.out m; rw [List.length_take] at this; have h9 := HVL.out vs.length; rw [List.take_length] at h9; simp only [List.length_append, List.length_cons, List.length_nil]; omega) 2 rfl (wr.heap.size + 1) (by simp))
              clear hx h1 h2 h3 h4 hb0
              go_wp2_with fail
              refine HPUT.out.mono ?_
              rintro e w3 ⟨rfl, hi3, b3⟩
              have HI3 := hid hi3
              clear hi3 HPUT
              go_wp2_with fail
              go_roundw
              case rel => exact ⟨m + 1, by omega, by go_num, hid (by rw [HT.out, ← List.append_assoc]; exact HI3.out), (hbel.trans ((bA (Below.refl wr.heap.size wr) _).mono (Nat.le_of_lt hqs))).trans b3⟩
              case measure => simp [intOf]; omega
            · obtain rfl : m = ms.length := by omega
              have hmz : ¬ ((ms.length : Int) < (ms.length : Int)) := by omega
              rw [List.take_length] at HI
              have e1 : packs ([st, ph, f, (vs.length : Int)] ++ numsV vs ++ [(ms.length : Int)] ++ numsM ms) = P := by rw [← HP.out, HNS.out, HF.out]; rfl
              obtain ⟨A5, c5, h1, h2, -, -⟩ := HI.out
              rw [e1] at h1 h2
              have HO := hid h2
              have HWR := hid (wrap_walk P wr A5 P.length c5 (rd_own h2) rfl HPB.out (by have := HPL.out; have := HNL.out; omega))
              clear h2 HI e1
              go_wp2_with fail
              refine HWR.out.mono ?_
              rintro e w4 ⟨A6, c6, rfl, o6, b6⟩
              have HO6 := hid o6
              clear o6
              go_wp2_with fail
              go_ret2
              exact ⟨A6, c6, rfl, own_more HO6.out hb0.size, bT hb0 b6⟩
end Go.Proofs.Ytphgdpjfolkafaa
