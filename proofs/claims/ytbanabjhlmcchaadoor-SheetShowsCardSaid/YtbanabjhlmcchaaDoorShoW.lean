/- play.Show. -/
import Derived.Test.YtbanabjhlmcchaaDoorLinW
namespace Go.Proofs.YtbanabjhlmcchaaDoor
open Go.RowKit Go.ChangeShapes Go.WideShapes Go.ChangeAt
set_option linter.unusedVariables false
set_option linter.unusedSimpArgs false
theorem decB_len : ∀ (d n : Nat), n < 10 ^ (d + 1) → (decB n).size ≤ d + 1
  | 0, n, h => by rw [decB_small (by simpa using h)]; exact Nat.le_refl 1
  | d + 1, n, h => by
    by_cases h1 : n < 10
    · rw [decB_small h1]; show 1 ≤ _; omega
    · rw [decB_big h1, ByteArray.size_append, show (⟨#[UInt8.ofNat (48 + n % 10)]⟩ : ByteArray).size = 1 from rfl]
      have h2 : n / 10 < 10 ^ (d + 1) := by
        rw [Nat.div_lt_iff_lt_mul (by decide)]
        rw [Nat.pow_succ] at h
        exact h
      have := decB_len d (n / 10) h2
      omega
theorem dec19 {n : Nat} (h : n ≤ 1152921504606846976) : (decB n).size ≤ 19 := decB_len 18 n (Nat.lt_of_le_of_lt h (by decide))
theorem addN_size {s : ByteArray} {has : Bool} {n : Int} (h : numOk has n) : (addN s has n).size ≤ s.size + 20 := by
  unfold addN
  split
  · rw [ByteArray.size_append, ByteArray.size_append]
    have := dec19 (n := n.toNat) (by have := h.2.1; omega)
    have h1 : spB.size = 1 := rfl
    omega
  · omega
theorem lineV_size (m : Move) : (lineV m).1.size ≤ 60 := by
  unfold lineV
  split
  · decide
  · split
    · decide
    · rename_i h
      have h2 : numOk (atB m.kind) m.at_ ∧ numOk (keepB m.kind) m.keep := by simpa using h
      show (addN (addN (wordB m.kind) (atB m.kind) m.at_) (keepB m.kind) m.keep ++ nlB).size ≤ 60
      rw [ByteArray.size_append]
      have h3 := addN_size (s := addN (wordB m.kind) (atB m.kind) m.at_) h2.2
      have h4 := addN_size (s := wordB m.kind) h2.1
      have h5 := wordB_size m.kind
      have h6 : nlB.size = 1 := rfl
      omega
def bodyL (l : List Move) : List UInt8 := l.flatMap fun m => (lineV m).1.data.toList
theorem bodyL_len (l : List Move) : (bodyL l).length ≤ 60 * l.length := by
  unfold bodyL
  induction l with
  | nil => simp
  | cons m l ih =>
    rw [List.flatMap_cons, List.length_append, List.length_cons]
    have h := lineV_size m
    have h2 : (lineV m).1.data.toList.length = (lineV m).1.size := by rw [Array.length_toList]; rfl
    omega
theorem bodyL_step {l : List Move} {k : Nat} {m : Move} (h : l[k]? = some m) : bodyL (l.take (k + 1)) = bodyL (l.take k) ++ (lineV m).1.data.toList := by
  unfold bodyL; rw [take_nextV h, List.flatMap_append, List.flatMap_singleton]
def errL (l : List Move) : Int := match l.find? fun m => decide ((lineV m).2 ≠ 0) with | none => 0 | some m => (lineV m).2
def showV (l : List Move) : ByteArray × Int := if 100000 < l.length then (⟨#[]⟩, 1) else if errL l ≠ 0 then (⟨#[]⟩, errL l) else (⟨(bodyL l).toArray⟩, 0)
theorem errL_at {l : List Move} {k : Nat} {m : Move} (h : l[k]? = some m) (h0 : ∀ j < k, ∀ x : Move, l[j]? = some x → (lineV x).2 = 0) (hm : (lineV m).2 ≠ 0) : errL l = (lineV m).2 := by
  induction l generalizing k with
  | nil => simp at h
  | cons a l ih =>
    cases k with
    | zero =>
      have : a = m := by simpa using h
      subst this
      unfold errL
      rw [List.find?_cons_of_pos (by simpa using hm)]
    | succ k =>
      have ha := h0 0 (by omega) a rfl
      have h2 := ih (k := k) (by simpa using h) (fun j hj x hx => h0 (j + 1) (by omega) x (by simpa using hx))
      unfold errL at h2 ⊢
      rw [List.find?_cons_of_neg (by simp [ha])]
      exact h2
theorem errL_none {l : List Move} (h0 : ∀ (j : Nat) (x : Move), l[j]? = some x → (lineV x).2 = 0) : errL l = 0 := by
  unfold errL
  rw [List.find?_eq_none.2]
  intro x hx
  obtain ⟨j, hj⟩ := List.mem_iff_getElem?.1 hx
  simp [h0 j x hj]
theorem moveCells {w : World} {B n k : Nat} {A : Option Addr} {l : List Move} {x : Move} (h : Rd w B A 3 n (l.flatMap Move.cells)) (hl : l.length = n) (hk : l[k]? = some x) :
    ∃ b off, A = some ⟨b, off, none⟩ ∧ b < B ∧ w.cell? ⟨b, off + k * 3, none⟩ = some (.int .i64 x.kind) ∧ w.cell? ⟨b, off + k * 3 + 1, none⟩ = some (.int .i64 x.at_) ∧ w.cell? ⟨b, off + k * 3 + 2, none⟩ = some (.int .i64 x.keep) := by
  have hkl := (List.getElem?_eq_some_iff.1 hk).1
  obtain ⟨b, off, e, hb, hc⟩ := h.2 (by omega)
  have hf := (flatMap_get (l := l) (cells := Move.cells) (sz := 3) (fun _ _ => rfl)).2 k x
  exact ⟨b, off, e, hb, by have := hc _ _ (hf 0 _ hk rfl); simpa using this, by have := hc _ _ (hf 1 _ hk rfl); rw [← Nat.add_assoc] at this; exact this, by have := hc _ _ (hf 2 _ hk rfl); rw [← Nat.add_assoc] at this; exact this⟩
def ShR (w : World) (G : Nat) (l : List Move) (v14 : Value) (wr : World) : Prop :=
  ∃ k : Nat, k ≤ l.length ∧ v14 = .int .i64 (k : Nat) ∧ Hid (Bld wr G (bodyL (l.take k))) ∧ Hid (∀ j < k, ∀ x, l[j]? = some x → (lineV x).2 = 0) ∧ Hid (Below w.heap.size w wr)
set_option maxRecDepth 100000 in
set_option maxHeartbeats 4000000 in
theorem show_walk (l : List Move) (w : World) (A : Option Addr) (c : Nat) (hr : Rd w w.heap.size A 3 l.length (l.flatMap Move.cells)) (hl : l.length ≤ 9223372036854775807) (hf : FormsAt w) (hp : PowAt w) :
    Calls Tryd.prog 6 #[.slice A l.length c] w fun e w' => e = .returned (.tuple #[.string (showV l).1, .int .i64 (showV l).2]) ∧ Below w.heap.size w w' := by
  have HR := hid hr
  have HLN := hid (fun m (V : World) (hV : Below w.heap.size w V) => line_walk m V (hf.below hV) (hp.below hV))
  by_cases hbig : 100000 < l.length
  · have hbz : (100000 : Int) < (l.length : Int) := by omega
    have HSV := hid (show showV l = (⟨#[]⟩, 1) by unfold showV; rw [if_pos hbig])
    clear hbig hr
    go_enter Tryd.func6, Tryd.ntmps6
    go_wp2_with fail
    go_ret2
    exact ⟨by rw [HSV.out]; rfl, Below.refl _ _⟩
  · have hbz : ¬ (100000 : Int) < (l.length : Int) := by omega
    have HSV := hid (show showV l = if errL l ≠ 0 then (⟨#[]⟩, errL l) else (⟨(bodyL l).toArray⟩, 0) by unfold showV; rw [if_neg hbig])
    have hlb : l.length ≤ 100000 := by omega
    obtain ⟨W, hW⟩ : ∃ W, W = w.alloc (.cells #[.pointer none, .slice none 0 0] 39) := ⟨_, rfl⟩
    have HB0 := hid (show Bld W w.heap.size [] by rw [hW]; exact bld_new w)
    have HBW := hid (show Below w.heap.size w W by rw [hW]; exact bA (Below.refl _ _) _)
    clear hbig hr hf hp
    go_enter Tryd.func6, Tryd.ntmps6
    go_wp2_with fail
    rw [← hW]
    clear hW
    go_loopw [14] (fun v14 wr => ShR w w.heap.size l v14 wr) (fun v14 _ => l.length - (intOf v14).toNat)
    case atStart => exact ⟨0, Nat.zero_le _, rfl, HB0, hid (fun j hj => absurd hj (by omega)), HBW⟩
    case round =>
      clear HB0 HBW
      obtain ⟨k, hk, rfl, HBD, HNO, HBL⟩ := hrel
      by_cases hlt : k < l.length
      · obtain ⟨m, hm⟩ : ∃ m, l[k]? = some m := ⟨_, List.getElem?_eq_getElem hlt⟩
        obtain ⟨b, off, rfl, hb, c0, c1, c2⟩ := moveCells (HR.out.below HBL.out) rfl hm
        have hkz : (k : Int) < (l.length : Int) := by omega
        have hbw : b < wr.heap.size := by have := HBL.out.size; omega
        have HST := hid (bodyL_step hm)
        have hlen := bodyL_len (l.take k)
        have hlm := lineV_size m
        have htk : (l.take k).length ≤ 100000 := by rw [List.length_take]; omega
        obtain ⟨W5, hW5⟩ : ∃ W5, W5 = wr.alloc (.cells #[.int .i64 m.kind, .int .i64 m.at_, .int .i64 m.keep] 41) := ⟨_, rfl⟩
        have HB5 := hid (show Below wr.heap.size wr W5 by rw [hW5]; exact bA (Below.refl _ _) _)
        have HL := hid (HLN.out m W5 (HBL.out.trans (HB5.out.mono HBL.out.size)))
        have HER := hid (fun h => errL_at hm HNO.out h)
        have x0 : W5.cell? ⟨wr.heap.size, 0, none⟩ = some (.int .i64 m.kind) := by rw [hW5]; go_simp
        have x1 : W5.cell? ⟨wr.heap.size, 1, none⟩ = some (.int .i64 m.at_) := by rw [hW5]; go_simp
        have x2 : W5.cell? ⟨wr.heap.size, 2, none⟩ = some (.int .i64 m.keep) := by rw [hW5]; go_simp
        have HM := hid hm
        clear hm
        go_upto_region 7 with fail
        rw [← hW5]
        clear hW5
        go_wp2_with fail
        refine HL.out.mono ?_
        rintro e w6 ⟨rfl, b6⟩
        have HB6 := hid (HBL.out.trans ((HB5.out.trans (b6.mono HB5.out.size)).mono HBL.out.size))
        by_cases he : (lineV m).2 = 0
        · have heb : ((lineV m).2 != 0) = false := by simpa using he
          have HWS := hid (writeString_walk w.heap.size (bodyL (l.take k)) (lineV m).1 w6 ((HBD.out.below HB5.out).below b6) (by omega))
          have HN2 := hid (show ∀ j < k + 1, ∀ x, l[j]? = some x → (lineV x).2 = 0 from fun j hj x hx => by
            rcases Nat.lt_succ_iff_lt_or_eq.1 hj with h | rfl
            · exact HNO.out j h x hx
            · rw [HM.out] at hx; injection hx with hx; rw [← hx]; exact he)
          clear he HER
          go_wp2_with fail
          refine HWS.out.mono ?_
          rintro e w7 ⟨rfl, hbd, b7⟩
          go_wp2_with fail
          go_roundw
          case rel => exact ⟨k + 1, by omega, by go_num, hid (by rw [HST.out]; exact hbd), HN2, hid (HB6.out.trans b7)⟩
          case measure => simp [intOf]; omega
        · have heb : ((lineV m).2 != 0) = true := by simpa using he
          have HSE := hid (show showV l = (⟨#[]⟩, (lineV m).2) by rw [HSV.out, HER.out he, if_pos he])
          clear he
          go_wp2_with fail
          go_ret2
          exact ⟨by rw [HSE.out]; rfl, HB6.out⟩
      · obtain rfl : k = l.length := by omega
        have HSE := hid (show showV l = (⟨(bodyL l).toArray⟩, 0) by
          rw [HSV.out, errL_none (fun j x hx => HNO.out j (List.getElem?_eq_some_iff.1 hx).1 x hx), if_neg (by simp)])
        have HBS := hid (builderString_walk w.heap.size (bodyL (l.take l.length)) wr HBD.out)
        have htl : l.take l.length = l := List.take_length
        rw [htl] at HBS
        go_wp2_with fail
        refine HBS.out.mono ?_
        rintro e w7 ⟨rfl, b7⟩
        go_wp2_with fail
        go_ret2
        exact ⟨by rw [HSE.out]; rfl, HBL.out.trans b7⟩
end Go.Proofs.YtbanabjhlmcchaaDoor
