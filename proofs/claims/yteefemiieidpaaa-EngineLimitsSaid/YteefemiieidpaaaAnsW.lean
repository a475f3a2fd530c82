/- slices.IsSorted over int, rounds.may. -/
import Derived.Test.YteefemiieidpaaaAnsP
import Derived.Test.YteefemiieidpaaaOrds
import Derived.Test.YteefemiieidpaaaSameS
import Derived.Test.YteefemiieidpaaaBegin
namespace Go.Proofs.Yteefemiieidpaaa
open Go.ChangeShapes Go.WideShapes Go.ChangeAt Go.RowKit
set_option linter.unusedVariables false
set_option linter.unusedSimpArgs false
theorem less_walk (x y : Int) (w : World) : Calls Try.prog 58 #[.int .i64 x, .int .i64 y] w fun e w' => e = .returned (.bool (decide (x < y))) ∧ w = w' := by
  go_enter Try.func58, Try.ntmps58
  go_wp2_with fail
  refine (isNaN_walk _ _).mono ?_
  rintro e w1 ⟨rfl, rfl⟩
  go_wp2_with fail
  go_ret
  exact ⟨by simp, rfl⟩
set_option maxRecDepth 100000 in
set_option maxHeartbeats 4000000 in
theorem isSortedI_walk (l : List Int) (w : World) (A : Option Addr) (c : Nat) (hr : Rd w w.heap.size A 1 l.length (l.flatMap i64c)) (hl : l.length ≤ 140737488355328) :
    Calls Try.prog 39 #[.slice A l.length c] w fun e w' => e = .returned (.bool (risesB l)) ∧ ∃ m, w' = w.drewN m := by
  generalize hF : risesB l = F
  have HF := hid hF
  clear hF
  go_enter Try.func39, Try.ntmps39
  go_wp2_with fail
  go_loopw [3] (fun i wr => ∃ k : Nat, i = .int .i64 ((k : Int) - 1) ∧ k ≤ l.length ∧ (∃ m, wr = w.drewN m) ∧ Hid (∀ j, k ≤ j + 1 → adjI l j)) (fun i _ => (intOf i + 1).toNat)
  case atStart => exact ⟨l.length, by go_num, by omega, ⟨0, rfl⟩, hid fun j hj => adjI_out (by omega)⟩
  case round =>
    obtain ⟨k, rfl, hk, ⟨q, hq⟩, HO⟩ := hrel
    have hr : Rd wr wr.heap.size A 1 l.length (l.flatMap i64c) := by rw [hq]; exact hr
    have HQ := hid hq
    clear hq
    by_cases hlt : 2 ≤ k
    · obtain ⟨m, rfl⟩ : ∃ m, k = m + 2 := ⟨k - 2, by omega⟩
      obtain ⟨x, hx⟩ : ∃ x, l[m + 1]? = some x := ⟨_, List.getElem?_eq_getElem (by omega)⟩
      obtain ⟨y, hy⟩ : ∃ y, l[m]? = some y := ⟨_, List.getElem?_eq_getElem (by omega)⟩
      obtain ⟨b, off, rfl, hb, hc⟩ := hr.at_ (show m < l.length by omega)
      have hg := (flatMap_get (l := l) (cells := i64c) (sz := 1) (fun _ _ => rfl)).2
      have c0 := hc _ _ (hg (m + 1) x 0 _ hx rfl)
      have d0 := hc _ _ (hg m y 0 _ hy rfl)
      simp only [Nat.mul_one, Nat.add_zero] at c0 d0
      clear hg hc hr
      have HX := hid hx
      have HY := hid hy
      have e0 : (((m + 2 : Nat) : Int) - 1) = ((m + 1 : Nat) : Int) := by omega
      rw [e0]
      have hm1 : (m : Int) + 1 < (l.length : Int) := by omega
      have hm2 : (0 : Int) ≤ (m : Int) + 1 := by omega
      have hm3 : (m : Int) + 1 ≤ (l.length : Int) := by omega
      have hm4 : (m : Int) < (l.length : Int) := by omega
      have hm5 : (0 : Int) ≤ (m : Int) := by omega
      have hw1 : IntKind.i64.wrap (m : Int) = (m : Int) := IntWalk.i64_in _ (by omega)
      have hw2 : IntKind.i64.wrap ((m : Int) + 1 - 1) = (m : Int) := by rw [show (m : Int) + 1 - 1 = (m : Int) by omega]; exact hw1
      have hm6 : (m : Int) ≤ (l.length : Int) := by omega
      have HL := hid (less_walk x y)
      clear hx hy
      cases hv : decide (x < y) with
      | true =>
        rw [hv] at HL
        have HV : Hid (F = false) := hid (by rw [← HF.out]; exact risesB_no HY.out HX.out (by simpa using hv))
        go_wp2_with fail
        go_quiet ((go_at_call 58; exact qsame (HL.out _)))
        go_wp2_with fail
        go_ret
        exact ⟨by rw [HV.out]; rfl, q + nq, by rw [HQ.out, World.drewN_drewN]⟩
      | false =>
        rw [hv] at HL
        have HV : Hid (∀ j, m + 1 ≤ j + 1 → adjI l j) := hid fun j hj => by
          rcases Nat.lt_or_ge j (m + 1) with h | h
          · obtain rfl : j = m := by omega
            intro u v hu hv2
            rw [HY.out] at hu
            rw [HX.out] at hv2
            injection hu with hu
            injection hv2 with hv2
            have : ¬ (x < y) := by simpa using hv
            omega
          · exact HO.out j (by omega)
        go_wp2_with fail
        go_quiet ((go_at_call 58; exact qsame (HL.out _)))
        go_wp2_with fail
        go_roundw
        case rel => exact ⟨m + 1, by go_num, by omega, ⟨q + nq, by rw [HQ.out, World.drewN_drewN]⟩, HV⟩
        case measure => simp [intOf] <;> omega
    · have hk1 : ¬ ((0 : Int) < (k : Int) - 1) := by omega
      have HV : Hid (F = true) := hid (by rw [← HF.out]; exact risesB_yes fun i => HO.out i (by omega))
      go_wp2_with fail
      go_ret
      exact ⟨by rw [HV.out]; rfl, q, HQ.out⟩
def jobC (j : Job) (A : Option Addr) (c : Nat) : Array Value := #[.int .i64 j.graph.n, .slice A j.graph.edges.length c, .int .i64 j.kind, .int .i64 j.source]
/-- The cells of the value 'k'. -/
theorem vcells {w : World} {B n k : Nat} {A : Option Addr} {l : List Val} {x : Val} (h : Rd w B A 2 n (l.flatMap Val.cells)) (hl : l.length = n) (hk : l[k]? = some x) :
    ∃ b off, A = some ⟨b, off, none⟩ ∧ b < B ∧ w.cell? ⟨b, off + k * 2, none⟩ = some (.int .i64 x.a) ∧ w.cell? ⟨b, off + k * 2 + 1, none⟩ = some (.int .i64 x.label) := by
  have hkl := (List.getElem?_eq_some_iff.1 hk).1
  obtain ⟨b, off, rfl, hb, hc⟩ := h.2 (show 0 < n by omega)
  have hg := (flatMap_get (l := l) (cells := Val.cells) (sz := 2) (fun _ _ => rfl)).2 k x
  have c0 := hc _ _ (hg 0 _ hk rfl)
  have c1 := hc _ _ (hg 1 _ hk rfl)
  simp only [Nat.add_zero, ← Nat.add_assoc] at c0 c1
  exact ⟨b, off, rfl, hb, c0, c1⟩
/-- The cell of the number 'k'. -/
theorem icell {w : World} {B n k : Nat} {b off : Nat} {l : List Int} {x : Int} (h : Rd w B (some ⟨b, off, none⟩) 1 n (l.flatMap i64c)) (hl : l.length = n) (hk : l[k]? = some x) : w.cell? ⟨b, off + k, none⟩ = some (.int .i64 x) := by
  have hkl := (List.getElem?_eq_some_iff.1 hk).1
  obtain ⟨b', off', e, hb, hc⟩ := h.2 (show 0 < n by omega)
  injection e with e
  injection e with e1 e2
  subst e1 e2
  have hg := (flatMap_get (l := l) (cells := i64c) (sz := 1) (fun _ _ => rfl)).2 k x 0 _ hk rfl
  have := hc _ _ hg
  simpa using this
theorem bad_val {k : Int} {x : Val} (h : ¬ valOk k x) : (x.a < -1) ∨ (¬ x.a < -1 ∧ topV k < x.a) ∨ (¬ x.a < -1 ∧ ¬ topV k < x.a ∧ x.label < -1) ∨ (¬ x.a < -1 ∧ ¬ topV k < x.a ∧ ¬ x.label < -1 ∧ 200 ≤ x.label) := by
  unfold valOk at h; omega
/-- What a round of 'may' knows. -/
def MayRel (j : Job) (s : State) (d : Nat) (B : Option Addr) (w : World) (i mn : Value) (wr : World) : Prop :=
  ∃ k : Nat, k ≤ s.mail.length ∧ i = .int .i64 k ∧ mn = .int .i64 (manyM (s.mail.take k) : Nat) ∧ Hid (∀ (i : Nat) x, i < k → s.vals[i]? = some x → valOk j.kind x) ∧ Hid (∀ (i : Nat) (x : ML Int), i < k → s.mail[i]? = some x → rowOk j.kind x.l) ∧ Below w.heap.size w wr ∧ w.heap.size + 2 ≤ wr.heap.size ∧
    wr.cell? ⟨w.heap.size + 1, 2, none⟩ = some (.bool s.fresh) ∧ wr.cell? ⟨w.heap.size + 1, 3, none⟩ = some (.bool s.done) ∧ wr.cell? ⟨w.heap.size + 1, 4, none⟩ = some (.slice B s.vals.length d)
set_option maxRecDepth 100000 in
set_option maxHeartbeats 8000000 in
theorem may_walk (j : Job) (hj : jobV j = 0) (s : State) (w : World) (A B B' : Option Addr) (c d d' : Nat)
    (hv : Rd w w.heap.size B 2 s.vals.length (s.vals.flatMap Val.cells)) (hg : Grid i64c 1 w w.heap.size B' s.mail) (hz : ∀ x ∈ s.mail, x.l.length ≤ 140737488355328) :
    Calls Try.prog 18 #[.agg (jobC j A c), .agg (stCells s B d B' d')] w fun e w' => e = .returned (.bool (stB j s)) ∧ Below w.heap.size w w' := by
  have hk := jobV_kind hj
  have hn := jobV_n hj
  clear hj
  generalize hF : stB j s = F
  have HF := hid hF
  clear hF
  have HNO : Hid (¬ stOk j s → F = false) := hid fun h => by rw [← HF.out]; exact stB_no h
  have HYES : Hid (stOk j s → F = true) := hid fun h => by rw [← HF.out]; exact stB_yes h
  obtain ⟨⟨n, es⟩, kind, src⟩ := j
  obtain ⟨step, phase, fresh, done, vs, ml⟩ := s
  unfold jobC stCells
  simp only at *
  clear HF
  obtain ⟨n, rfl⟩ := Int.eq_ofNat_of_zero_le hn.1
  have b0 := bA (bA (Below.refl w.heap.size w) (.cells #[.int .i64 (n : Int), .slice A es.length c, .int .i64 kind, .int .i64 src] 26)) (.cells #[.int .i64 step, .int .i64 phase, .bool fresh, .bool done, .slice B vs.length d, .slice B' ml.length d'] 30)
  have hfd2 : (fresh = true ∧ done = true) ∨ (fresh = false) ∨ (fresh = true ∧ done = false) := by
    cases fresh <;> cases done <;> simp
  have hcase : (step < 0) ∨ (¬ step < 0 ∧ 100000 < step) ∨ (¬ step < 0 ∧ ¬ 100000 < step ∧ ((vs.length : Int) != (n : Int)) = true) ∨ (¬ step < 0 ∧ ¬ 100000 < step ∧ ((vs.length : Int) != (n : Int)) = false ∧ ((ml.length : Int) != (n : Int)) = true)
      ∨ (¬ step < 0 ∧ ¬ 100000 < step ∧ ((vs.length : Int) != (n : Int)) = false ∧ ((ml.length : Int) != (n : Int)) = false) := by
    by_cases h1 : step < 0
    · exact .inl h1
    · by_cases h2 : 100000 < step
      · exact .inr (.inl ⟨h1, h2⟩)
      · cases h3 : ((vs.length : Int) != (n : Int)) with
        | true => exact .inr (.inr (.inl ⟨h1, h2, rfl⟩))
        | false =>
          cases h4 : ((ml.length : Int) != (n : Int)) with
          | true => exact .inr (.inr (.inr (.inl ⟨h1, h2, rfl, rfl⟩)))
          | false => exact .inr (.inr (.inr (.inr ⟨h1, h2, rfl, rfl⟩)))
  rcases hcase with h1 | ⟨h1, h2⟩ | ⟨h1, h2, h3⟩ | ⟨h1, h2, h3, h4⟩ | ⟨h1, h2, h3, h4⟩
  · have HV : Hid (F = false) := hid (HNO.out fun h => by have := h.1; simp only at this; omega)
    go_enter Try.func18, Try.ntmps18
    go_wp2_with fail
    go_ret
    exact ⟨by rw [HV.out]; rfl, bA (bA (Below.refl _ _) _) _⟩
  · have HV : Hid (F = false) := hid (HNO.out fun h => by have := h.1; simp only at this; omega)
    go_enter Try.func18, Try.ntmps18
    go_wp2_with fail
    go_ret
    exact ⟨by rw [HV.out]; rfl, bA (bA (Below.refl _ _) _) _⟩
  · have HV : Hid (F = false) := hid (HNO.out fun h => by have := h.2.2.1; simp only at this; simp [this] at h3)
    go_enter Try.func18, Try.ntmps18
    go_wp2_with fail
    go_ret
    exact ⟨by rw [HV.out]; rfl, bA (bA (Below.refl _ _) _) _⟩
  · have HV : Hid (F = false) := hid (HNO.out fun h => by have := h.2.2.2.1; simp only at this; simp [this] at h4)
    go_enter Try.func18, Try.ntmps18
    go_wp2_with fail
    go_ret
    exact ⟨by rw [HV.out]; rfl, bA (bA (Below.refl _ _) _) _⟩
  · have HVN : Hid (vs.length = n) := hid (by have : (vs.length : Int) = (n : Int) := by simpa using h3
                                              omega)
    have HMN : Hid (ml.length = n) := hid (by have : (ml.length : Int) = (n : Int) := by simpa using h4
                                              omega)
    rcases hfd2 with ⟨hf, hd⟩ | hfd2
    · have HV : Hid (F = false) := hid (HNO.out fun h => h.2.2.2.2.2.2.1 ⟨hf, hd⟩)
      go_enter Try.func18, Try.ntmps18
      go_wp2_with fail
      go_ret
      exact ⟨by rw [HV.out]; rfl, bA (bA (Below.refl _ _) _) _⟩
    · have hph : (phase = 0 ∨ phase = 1 ∧ kind = 3) ∨ ((phase != 0) = true ∧ (phase != 1) = true) ∨ (phase = 1 ∧ (kind != 3) = true) := by
        by_cases p0 : phase = 0
        · exact .inl (.inl p0)
        · by_cases p1 : phase = 1
          · by_cases p2 : kind = 3
            · exact .inl (.inr ⟨p1, p2⟩)
            · exact .inr (.inr ⟨p1, by simpa using p2⟩)
          · exact .inr (.inl ⟨by simpa using p0, by simpa using p1⟩)
      rcases hph with hph | hph | hph
      · have HPH := hid hph
        have hkd : (phase = 0 ∧ kind = 1 ∧ topV kind = 4398046511104) ∨ (phase = 0 ∧ (kind == 1) = false ∧ topV kind = 199) ∨ (phase = 1 ∧ kind = 3 ∧ topV kind = 199) := by
          rcases hph with p0 | ⟨p1, p2⟩
          · by_cases k1 : kind = 1
            · exact .inl ⟨p0, k1, by unfold topV; rw [if_pos k1]⟩
            · exact .inr (.inl ⟨p0, by simpa using k1, by unfold topV; rw [if_neg k1]⟩)
          · exact .inr (.inr ⟨p1, p2, by unfold topV; rw [if_neg (by omega)]⟩)
        clear hph
        have HMEM : Hid (∀ (k : Nat) (x : ML Int), ml[k]? = some x → x.l.length ≤ 140737488355328) := hid fun k x hx => hz x (List.mem_of_getElem? hx)
        have HLE : Hid (∀ k, manyM (ml.take k) ≤ 28147497671065600) := hid fun k => by
          have h5 := manyM_le (b := 140737488355328) (ml.take k) (fun x hx => hz x (List.mem_of_mem_take hx))
          have h6 : (ml.take k).length ≤ 200 := by rw [List.length_take]; have := HMN.out; omega
          have h7 := Nat.mul_le_mul_right 140737488355328 h6
          omega
        have HST : Hid (0 ≤ step ∧ step ≤ 100000) := hid (by omega)
        clear hz
        rcases hkd with ⟨hp, k1, hT⟩ | ⟨hp, k1, hT⟩ | ⟨hp, k1, hT⟩
        all_goals have HFD := hid hfd2
        all_goals rcases hfd2 with hf | ⟨hf, hd⟩
        all_goals
          have HT := hid hT
          clear hT
          go_enter Try.func18, Try.ntmps18
          go_wp2_with fail
          go_loopw [7, 8, 9, 10, 63] (fun mn _ _ _ i wr => MayRel ⟨⟨(n : Int), es⟩, kind, src⟩ ⟨step, phase, fresh, done, vs, ml⟩ d B w i mn wr) (fun _ _ _ _ i _ => ml.length - (intOf i).toNat)
          case atStart => exact ⟨0, by omega, rfl, rfl, hid fun i x h => by omega, hid fun i x h => by omega, by first | exact b0 | (simp only [*] at b0 ⊢; exact b0), by simp, by go_simp, by go_simp, by go_simp⟩
          case round =>
            obtain ⟨k, hkl, rfl, rfl, HV1, HV2, hbel, hsz, g2, g3, g4⟩ := hrel
            dsimp only at hkl HV1 HV2 g2 g3 g4
            have hM0 := HLE.out k
            by_cases hlt : k < ml.length
            · obtain ⟨l, hl⟩ : ∃ l, ml[k]? = some l := ⟨_, List.getElem?_eq_getElem hlt⟩
              obtain ⟨x, hx⟩ : ∃ x, vs[k]? = some x := ⟨_, List.getElem?_eq_getElem (by have := HVN.out; have := HMN.out; omega)⟩
              have hM1 := HLE.out (k + 1)
              have hMt := manyM_take hl
              rw [hMt] at hM1
              have HMT := hid hMt
              clear hMt
              generalize manyM (ml.take k) = M at *
              obtain ⟨b, off, rfl, hb, c0⟩ := ml_cell (hg.1.below hbel) rfl hl
              obtain ⟨b', off', rfl, hb', e0, e1⟩ := vcells (hv.below hbel) rfl hx
              have hrow : Rd wr wr.heap.size l.A 1 l.l.length (l.l.flatMap i64c) := rdb (Grid.data hg (List.mem_of_getElem? hl)) (by decide) hbel
              have HS := hid (fun (W : World) (h : Below wr.heap.size wr W) => isSortedI_walk l.l W l.A l.c (rdb hrow (by decide) h) (HMEM.out k l hl))
              have HX := hid hx
              have HL := hid hl
              have hk2 : k < 200 := by have := HMN.out; omega
              have hkz : (k : Int) < (ml.length : Int) := by omega
              have hkv : (k : Int) < (vs.length : Int) := by have := HVN.out; have := HMN.out; omega
              have hbr : b < wr.heap.size := by have := hbel.size; omega
              have hbr' : b' < wr.heap.size := by have := hbel.size; omega
              clear hx hl
              by_cases hval : valOk kind x
              · obtain ⟨⟨v1, v2⟩, v3, v4⟩ := id hval
                have HVAL := hid hval
                rw [HT.out] at v2
                have nv1 : ¬ (x.a < -1) := by omega
                have nv2 := Int.not_lt.2 v2
                have nv3 : ¬ (x.label < -1) := by omega
                have nv4 : ¬ (200 ≤ x.label) := by omega
                have HV1' : Hid (∀ (i : Nat) y, i < k + 1 → vs[i]? = some y → valOk kind y) := hid fun i y hi hy => by
                  rcases Nat.lt_or_ge i k with h | h
                  · exact HV1.out i y h hy
                  · obtain rfl : i = k := by omega
                    rw [HX.out] at hy
                    injection hy with hy
                    rw [← hy]
                    exact HVAL.out
                have HV2' : Hid (rowOk kind l.l → ∀ (i : Nat) (y : ML Int), i < k + 1 → ml[i]? = some y → rowOk kind y.l) := hid fun hr i y hi hy => by
                  rcases Nat.lt_or_ge i k with h | h
                  · exact HV2.out i y h hy
                  · obtain rfl : i = k := by omega
                    rw [HL.out] at hy
                    injection hy with hy
                    rw [← hy]
                    exact hr
                clear v1 v2 v3 v4 hval
                cases hsb : risesB l.l with
                | false =>
                  rw [hsb] at HS
                  have HV : Hid (F = false) := hid (HNO.out fun h => (risesB_bad hsb) (h.2.2.2.2.2.1 k l HL.out).1)
                  clear hsb
                  go_wp2_with (go_at_call 39; refine (HS.out _ (bA (Below.refl _ _) _)).mono ?_; rintro e w' ⟨rfl, q, rfl⟩)
                  go_ret
                  exact ⟨by rw [HV.out]; rfl, below_drewN (bA hbel _) _⟩
                | true =>
                  rw [hsb] at HS
                  by_cases h0 : l.l.length = 0
                  · have HR := hid (HV2'.out (rowOk_nil h0))
                    have hz0 : ¬ ((0 : Int) < (l.l.length : Int)) := by omega
                    have hz1 : IntKind.i64.wrap ((M : Int) + (l.l.length : Int)) = (M : Int) + (l.l.length : Int) := IntWalk.i64_in _ (by omega)
                    clear hsb h0
                    go_wp2_with (go_at_call 39; refine (HS.out _ (bA (Below.refl _ _) _)).mono ?_; rintro e w' ⟨rfl, q, rfl⟩)
                    go_roundw
                    case rel => exact ⟨k + 1, by show k + 1 ≤ ml.length; omega, by go_num, by show _ = Value.int .i64 ((manyM (ml.take (k + 1)) : Nat) : Int); rw [HMT.out]; simp, HV1', HR, below_drewN (bA hbel _) _, by simp; omega, keepb (below_drewN (bA (Below.refl _ _) _) q) g2, keepb (below_drewN (bA (Below.refl _ _) _) q) g3, keepb (below_drewN (bA (Below.refl _ _) _) q) g4⟩
                    case measure => simp [intOf]; omega
                  · obtain ⟨m, hm⟩ : ∃ m, l.l.length = m + 1 := ⟨l.l.length - 1, by omega⟩
                    obtain ⟨b2, off2, hA2, hb2, _⟩ := hrow.2 (by omega)
                    obtain ⟨y, hy⟩ : ∃ y, l.l[0]? = some y := ⟨_, List.getElem?_eq_getElem (by omega)⟩
                    obtain ⟨z, hz⟩ : ∃ z, l.l[m]? = some z := ⟨_, List.getElem?_eq_getElem (by omega)⟩
                    rw [hA2] at hrow c0 HS
                    have f0 := icell hrow rfl hy
                    have f1 := icell hrow rfl hz
                    rw [Nat.add_zero] at f0
                    have HY := hid hy
                    have HZ := hid hz
                    have HRO : Hid (0 ≤ y → z ≤ topV kind → rowOk kind l.l) := hid fun h1 h2 => rowOk_ends hm (risesB_ok hsb) hy hz h1 h2
                    rw [hm] at c0 HS HMT hM1
                    have hw : IntKind.i64.wrap ((m : Int) + 1 - 1) = (m : Int) := by rw [show (m : Int) + 1 - 1 = (m : Int) by omega]; exact IntWalk.i64_in _ (by omega)
                    have hz1 : IntKind.i64.wrap ((M : Int) + ((m : Int) + 1)) = (M : Int) + ((m : Int) + 1) := IntWalk.i64_in _ (by omega)
                    have zm0 : (0 : Int) ≤ (m : Int) := by omega
                    have zm1 : (m : Int) < (m : Int) + 1 := by omega
                    have zm2 : (0 : Int) < (m : Int) + 1 := by omega
                    have zm3 : (m : Int) ≤ (m : Int) + 1 := by omega
                    clear hsb hy hz hm h0 hrow
                    by_cases hy0 : y < 0
                    · have HV : Hid (F = false) := hid (HNO.out fun h => by have := ((h.2.2.2.2.2.1 k l HL.out).2 0 y HY.out).1; omega)
                      go_wp2_with (go_at_call 39; refine (HS.out _ (bA (Below.refl _ _) _)).mono ?_; rintro e w' ⟨rfl, q, rfl⟩)
                      go_ret
                      exact ⟨by rw [HV.out]; rfl, below_drewN (bA hbel _) _⟩
                    · by_cases hzT : topV kind < z
                      · have HV : Hid (F = false) := hid (HNO.out fun h => by have h9 := ((h.2.2.2.2.2.1 k l HL.out).2 m z HZ.out).2; dsimp only at h9; omega)
                        rw [HT.out] at hzT
                        go_wp2_with (go_at_call 39; refine (HS.out _ (bA (Below.refl _ _) _)).mono ?_; rintro e w' ⟨rfl, q, rfl⟩)
                        go_ret
                        exact ⟨by rw [HV.out]; rfl, below_drewN (bA hbel _) _⟩
                      · have HR := hid (HV2'.out (HRO.out (by omega) (by omega)))
                        rw [HT.out] at hzT
                        go_wp2_with (go_at_call 39; refine (HS.out _ (bA (Below.refl _ _) _)).mono ?_; rintro e w' ⟨rfl, q, rfl⟩)
                        go_roundw
                        case rel => exact ⟨k + 1, by show k + 1 ≤ ml.length; omega, by go_num, by show _ = Value.int .i64 ((manyM (ml.take (k + 1)) : Nat) : Int); rw [HMT.out]; simp, HV1', HR, below_drewN (bA hbel _) _, by simp; omega, keepb (below_drewN (bA (Below.refl _ _) _) q) g2, keepb (below_drewN (bA (Below.refl _ _) _) q) g3, keepb (below_drewN (bA (Below.refl _ _) _) q) g4⟩
                        case measure => simp [intOf]; omega
              · have HV : Hid (F = false) := hid (HNO.out fun h => hval (h.2.2.2.2.1 k x HX.out))
                have hbad := bad_val hval
                rw [HT.out] at hbad
                clear hval
                rcases hbad with n1 | ⟨n1, n2⟩ | ⟨n1, n2, n3⟩ | ⟨n1, n2, n3, n4⟩
                all_goals
                  go_wp2_with fail
                  go_ret
                  exact ⟨by rw [HV.out]; rfl, bA hbel _⟩
            · obtain rfl : k = ml.length := by omega
              have HFV : Hid (F = (decide ((manyM (ml.take ml.length) : Int) ≤ 5000) && (((manyM (ml.take ml.length) : Int) == 0) || (!fresh && !done)))) := hid (by
                have e1 : ml.take ml.length = ml := List.take_of_length_le (Nat.le_refl _)
                rw [e1]
                by_cases hs : stOk ⟨⟨(n : Int), es⟩, kind, src⟩ ⟨step, phase, fresh, done, vs, ml⟩
                · rw [HYES.out hs]
                  obtain ⟨_, _, _, _, _, _, _, s8, s9⟩ := hs
                  dsimp only at s8 s9
                  have e2 : (manyM ml : Int) ≤ 5000 := by omega
                  rcases s9 with s9 | ⟨s9, s10⟩
                  · simp [s9]
                  · rw [decide_eq_true e2, s9, s10]; simp
                · rw [HNO.out hs]
                  symm
                  rw [Bool.and_eq_false_iff]
                  refine Classical.byContradiction fun hc => hs ⟨HST.out, HPH.out, by have := HVN.out; dsimp only; omega, by have := HMN.out; dsimp only; omega, fun i x hx => HV1.out i x (by have := (List.getElem?_eq_some_iff.1 hx).1; have := HVN.out; have := HMN.out; dsimp only at *; omega) hx, fun i x hx => HV2.out i x (List.getElem?_eq_some_iff.1 hx).1 hx, ?_, ?_, ?_⟩
                  · rintro ⟨h5, h6⟩
                    dsimp only at h5 h6
                    rcases HFD.out with h7 | ⟨_, h7⟩
                    · rw [h5] at h7; cases h7
                    · rw [h6] at h7; cases h7
                  · dsimp only
                    refine Classical.byContradiction fun h5 => hc (.inl (decide_eq_false (by omega)))
                  · dsimp only
                    refine Classical.byContradiction fun h5 => hc (.inr ?_)
                    rw [Bool.or_eq_false_iff]
                    refine ⟨by rw [beq_eq_false_iff_ne]; intro h6; exact h5 (.inl (by omega)), ?_⟩
                    cases hf2 : fresh <;> cases hd2 : done <;> simp_all)
              generalize manyM (ml.take ml.length) = M at *
              go_wp2_with fail
              all_goals
                go_ret
                exact ⟨by rw [HFV.out]; first | (simp [*]; done) | (simp [*]; intros; omega), hbel⟩
      · have HV : Hid (F = false) := hid (HNO.out fun h => by
          obtain ⟨p1, p2⟩ := hph
          rcases h.2.1 with h | h
          · simp only at h; simp [h] at p1
          · simp only at h; simp [h.1] at p2)
        obtain ⟨p1, p2⟩ := hph
        rcases hfd2 with hf | ⟨hf, hd⟩
        all_goals
          go_enter Try.func18, Try.ntmps18
          go_wp2_with fail
          go_ret
          exact ⟨by rw [HV.out]; rfl, bA (bA (Below.refl _ _) _) _⟩
      · have HV : Hid (F = false) := hid (HNO.out fun h => by
          obtain ⟨p1, p2⟩ := hph
          rcases h.2.1 with h | h
          · simp only at h; omega
          · simp only at h; simp [h.2] at p2)
        obtain ⟨p1, p2⟩ := hph
        rcases hfd2 with hf | ⟨hf, hd⟩
        all_goals
          go_enter Try.func18, Try.ntmps18
          go_wp2_with fail
          go_ret
          exact ⟨by rw [HV.out]; rfl, bA (bA (Below.refl _ _) _) _⟩
end Go.Proofs.Yteefemiieidpaaa
