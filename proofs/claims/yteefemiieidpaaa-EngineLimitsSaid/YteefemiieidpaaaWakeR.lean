/- pacelineref.Woken. -/
import Derived.Test.YteefemiieidpaaaWakeL
namespace Go.Proofs.Yteefemiieidpaaa
open Go.ChangeShapes Go.WideShapes Go.ChangeAt Go.RowKit
set_option linter.unusedVariables false
set_option linter.unusedSimpArgs false
def WkW (x : Val) (w wr : World) : Prop := wr.cell? ⟨w.heap.size, 0, none⟩ = some (.int .i64 x.a) ∧ wr.cell? ⟨w.heap.size, 1, none⟩ = some (.int .i64 x.label) ∧ wr.cell? ⟨w.heap.size + 1, 0, none⟩ = some (.int .i64 0) ∧ wr.cell? ⟨w.heap.size + 1, 1, none⟩ = some (.int .i64 0) ∧ (∀ o, wr.frozen? ⟨w.heap.size + 1, o, none⟩ = false) ∧ w.heap.size + 2 ≤ wr.heap.size ∧ Below w.heap.size w wr
theorem WkW.drew {x : Val} {w wr : World} (h : WkW x w wr) (n : Nat) : WkW x w (wr.drewN n) := by
  obtain ⟨h0, h1, h2, h3, h4, h5, h6⟩ := h
  exact ⟨by simpa using h0, by simpa using h1, by simpa using h2, by simpa using h3, fun o => by simpa using h4 o, by simpa using h5, below_drewN h6 _⟩
set_option maxRecDepth 100000 in
set_option maxHeartbeats 8000000 in
theorem woken_walk (k v src : Int) (x : Val) (p : Int) (fresh : Bool) (l : List Int) (w : World) (A : Option Addr) (c : Nat) (hr : Rd w w.heap.size A 1 l.length (l.flatMap i64c)) (hl : l.length * 8 ≤ 140737488355328) :
    Calls Try.prog 28 #[.int .i64 k, .int .i64 v, .int .i64 src, .agg #[.int .i64 x.a, .int .i64 x.label], .int .i64 p, .bool fresh, .slice A l.length c] w (RetVBE w (wakeV k v src x p fresh l)) := by
  have hkm := kindMay_walk k p
  have hin := In_walk v 0 199
  have HI := hid (fun n lo hi => In_walk n lo hi)
  have HT := hid (topR_walk k)
  have b0 := bA (bA (Below.refl w.heap.size w) (.cells #[.int .i64 x.a, .int .i64 x.label] 50)) (.cells #[.int .i64 0, .int .i64 0] 50)
  have hV := valueR_walk k x ((w.alloc (.cells #[.int .i64 x.a, .int .i64 x.label] 50)).alloc (.cells #[.int .i64 0, .int .i64 0] 50))
  cases hk : kindB k p with
  | false =>
    have HE := hid (wakeV_kind (v := v) (src := src) (x := x) (fresh := fresh) (l := l) hk)
    rw [hk] at hkm
    have HK := hid hkm
    clear hk hkm hV hin
    go_enter Try.func28, Try.ntmps28
    go_wp2_with fail
    refine (HK.out _).mono ?_
    rintro e w' ⟨rfl, rfl⟩
    go_wp2_with fail
    refine bodyPost_ret (v := .tuple #[.agg #[.int .i64 0, .int .i64 0], .bool false, .int .i64 3]) (by simp [results, Try.results28, go_sem, *]) rfl ?_
    rw [HE.out]
    refine ⟨rfl, ?_⟩
    repeat (with_reducible refine bS ?_ (by simp; try omega) _)
    exact b0
  | true =>
    rw [hk] at hkm
    have HK := hid hkm
    clear hkm
    by_cases hv : 0 ≤ v ∧ v ≤ 199
    rotate_left
    · have HE := hid (wakeV_bad (v := v) (src := src) (x := x) (fresh := fresh) (l := l) hk (by omega))
      rw [inB_no (by omega)] at hin
      have HIN := hid hin
      clear hin hV hk hv
      go_enter Try.func28, Try.ntmps28
      go_wp2_with fail
      refine (HK.out _).mono ?_
      rintro e w' ⟨rfl, rfl⟩
      go_wp2_with fail
      refine (HIN.out _).mono ?_
      rintro e w' ⟨rfl, rfl⟩
      go_wp2_with fail
      refine bodyPost_ret (v := .tuple #[.agg #[.int .i64 0, .int .i64 0], .bool false, .int .i64 2]) (by simp [results, Try.results28, go_sem, *]) rfl ?_
      rw [HE.out]
      refine ⟨rfl, ?_⟩
      repeat (with_reducible refine bS ?_ (by simp; try omega) _)
      exact b0
    rw [inB_yes hv] at hin
    have HIN := hid hin
    clear hin
    cases hx : vB k x with
    | false =>
      have HE := hid (wakeV_bad (v := v) (src := src) (x := x) (fresh := fresh) (l := l) hk (.inr (.inr (.inl hx))))
      rw [hx] at hV
      have HVV := hid hV
      clear hV hk hx hv
      go_enter Try.func28, Try.ntmps28
      go_wp2_with fail
      refine (HK.out _).mono ?_
      rintro e w' ⟨rfl, rfl⟩
      go_wp2_with fail
      refine (HIN.out _).mono ?_
      rintro e w' ⟨rfl, rfl⟩
      go_wp2_with fail
      refine HVV.out.mono ?_
      rintro e w1 ⟨rfl, b1⟩
      have bb := bT b0 b1
      have q0 : w1.cell? ⟨w.heap.size, 0, none⟩ = some (.int .i64 x.a) := keepb b1 (by go_simp)
      have q1 : w1.cell? ⟨w.heap.size, 1, none⟩ = some (.int .i64 x.label) := keepb b1 (by go_simp)
      have z0 : w1.cell? ⟨w.heap.size + 1, 0, none⟩ = some (.int .i64 0) := keepb b1 (by go_simp)
      have z1 : w1.cell? ⟨w.heap.size + 1, 1, none⟩ = some (.int .i64 0) := keepb b1 (by go_simp)
      have zf : ∀ o, w1.frozen? ⟨w.heap.size + 1, o, none⟩ = false := fun o => keepf b1 (by go_simp) (by simp)
      have hs1 : w.heap.size + 2 ≤ w1.heap.size := by have := b1.size; simp at this; omega
      clear b1
      go_wp2_with fail
      refine bodyPost_ret (v := .tuple #[.agg #[.int .i64 0, .int .i64 0], .bool false, .int .i64 2]) (by simp [results, Try.results28, go_sem, *]) rfl ?_
      rw [HE.out]
      refine ⟨rfl, ?_⟩
      repeat (with_reducible refine bS ?_ (by simp; try omega) _)
      exact bb
    | true =>
      rw [hx] at hV
      have HVV := hid hV
      have HBAD : Hid (∀ m ∈ l, (m < 0 ∨ topS k < m) → wakeV k v src x p fresh l = (⟨0, 0⟩, false, 2)) := hid fun m hm hb => wakeV_bad hk (.inr (.inr (.inr ⟨m, hm, hb⟩)))
      have HOK : Hid ((∀ (j : Nat) (m : Int), l[j]? = some m → ¬ (m < 0 ∨ topS k < m)) → wakeV k v src x p fresh l = ((kindWV k v src x p fresh l).1, (kindWV k v src x p fresh l).2, 0)) := hid fun hall => wakeV_ok hk (by
        rintro (h | h | h | ⟨m, hm, hb⟩)
        · omega
        · omega
        · rw [hx] at h; cases h
        · obtain ⟨j, hj⟩ := List.mem_iff_getElem?.1 hm; exact hall j m hj hb)
      have HKK := hid hk
      have HX := hid hx
      have HLS := hid (fun w hr => leastMail_walk l w A c hr hl)
      clear hV hk hx hv
      go_enter Try.func28, Try.ntmps28
      go_wp2_with fail
      refine (HK.out _).mono ?_
      rintro e w' ⟨rfl, rfl⟩
      go_wp2_with fail
      refine (HIN.out _).mono ?_
      rintro e w' ⟨rfl, rfl⟩
      go_wp2_with fail
      refine HVV.out.mono ?_
      rintro e w1 ⟨rfl, b1⟩
      have bb := bT b0 b1
      have q0 : w1.cell? ⟨w.heap.size, 0, none⟩ = some (.int .i64 x.a) := keepb b1 (by go_simp)
      have q1 : w1.cell? ⟨w.heap.size, 1, none⟩ = some (.int .i64 x.label) := keepb b1 (by go_simp)
      have z0 : w1.cell? ⟨w.heap.size + 1, 0, none⟩ = some (.int .i64 0) := keepb b1 (by go_simp)
      have z1 : w1.cell? ⟨w.heap.size + 1, 1, none⟩ = some (.int .i64 0) := keepb b1 (by go_simp)
      have zf : ∀ o, w1.frozen? ⟨w.heap.size + 1, o, none⟩ = false := fun o => keepf b1 (by go_simp) (by simp)
      have hs1 : w.heap.size + 2 ≤ w1.heap.size := by have := b1.size; simp at this; omega
      clear b1
      go_wp2_with fail
      have hW : WkW x w w1 := ⟨q0, q1, z0, z1, zf, hs1, bb⟩
      clear q0 q1 z0 z1 zf hs1 bb b0 HVV
      go_loopw [17] (fun i wr => ∃ j : Nat, j ≤ l.length ∧ i = .int .i64 j ∧ WkW x w wr ∧ Hid (∀ (i : Nat) (m : Int), i < j → l[i]? = some m → ¬ (m < 0 ∨ topS k < m))) (fun i _ => l.length - (intOf i).toNat)
      case atStart => exact ⟨0, by omega, rfl, hW, hid fun j y hj => by omega⟩
      case round =>
        clear hW
        obtain ⟨j, hj, rfl, hW, H0⟩ := hrel
        have HW := hid hW
        obtain ⟨q0, q1, z0, z1, zf, hs1, bb⟩ := hW
        by_cases hlt : j < l.length
        · obtain ⟨m, hmk⟩ : ∃ m, l[j]? = some m := ⟨_, List.getElem?_eq_getElem hlt⟩
          obtain ⟨b, off, rfl, hb, c0⟩ := icellW (hr.below bb) rfl hmk
          have hkz : (j : Int) < (l.length : Int) := by omega
          have hbn : b ≠ w.heap.size := by omega
          have hbn1 : b ≠ w.heap.size + 1 := by omega
          have hb1 : b < wr.heap.size := by omega
          have HM := hid hmk
          clear hmk
          cases hi : inB m 0 (topS k) with
          | false =>
            have HE := hid (HBAD.out m (List.mem_of_getElem? HM.out) (by
              by_cases h1 : m < 0
              · exact .inl h1
              · right
                by_cases h2 : topS k < m
                · exact h2
                · rw [inB_yes (by omega)] at hi; cases hi))
            go_wp2_with fail
            go_quiet ((first | (go_at_call 55; exact qsame (HT.out _)) | (go_at_call 52; exact qsame (HI.out _ _ _ _))))
            go_wp2_with fail
            refine bodyPost_ret (v := .tuple #[.agg #[.int .i64 0, .int .i64 0], .bool false, .int .i64 2]) (by simp [results, Try.results28, go_sem, *]) rfl ?_
            rw [HE.out]
            refine ⟨rfl, ?_⟩
            repeat (with_reducible refine bS ?_ (by simp; try omega) _)
            exact (below_drewN bb _)
          | true =>
            have HN : Hid (∀ (i : Nat) (y : Int), i < j + 1 → l[i]? = some y → ¬ (y < 0 ∨ topS k < y)) := hid fun i y hi2 hy => by
              rcases Nat.lt_or_ge i j with h2 | h2
              · exact H0.out i y h2 hy
              · obtain rfl : i = j := by omega
                rw [HM.out] at hy; injection hy with hy
                by_cases hc : 0 ≤ m ∧ m ≤ topS k
                · rw [← hy]; omega
                · rw [inB_no hc] at hi; cases hi
            go_wp2_with fail
            go_quiet ((first | (go_at_call 55; exact qsame (HT.out _)) | (go_at_call 52; exact qsame (HI.out _ _ _ _))))
            go_wp2_with fail
            go_roundw
            case rel => exact ⟨j + 1, by omega, by go_num, HW.out.drew _, HN⟩
            case measure => simp [intOf]; omega
        · obtain rfl : j = l.length := by omega
          have HE0 := hid (HOK.out fun j m hj => H0.out j m (List.getElem?_eq_some_iff.1 hj).1 hj)
          have HMM : Hid (∀ m ∈ l, 0 ≤ m) := hid fun m hm => by obtain ⟨j, hj⟩ := List.mem_iff_getElem?.1 hm; have := H0.out j m (List.getElem?_eq_some_iff.1 hj).1 hj; omega
          clear HOK HBAD H0 hlt
          have HL := hid (HLS.out wr (rdb hr (by decide) bb))
          obtain ⟨V, hVV⟩ : ∃ V, V = wr := ⟨_, rfl⟩
          subst hVV
          by_cases hA : k = 3 ∧ 0 ≤ x.label
          · have HE : Hid (wakeV k v src x p fresh l = (x, false, 0)) := hid (by rw [HE0.out, wv_strong hA.1 hA.2])
            have hk3 : (k == 3) = true := by simpa using hA.1
            have hlb := hA.2
            clear hA
            go_wp2_with fail
            refine HL.out.mono ?_
            rintro e w' ⟨rfl, rfl⟩
            go_wp2_with fail
            refine bodyPost_ret (v := .tuple #[.agg #[.int .i64 x.a, .int .i64 x.label], .bool false, .int .i64 0]) (by simp [results, Try.results28, go_sem, *]) rfl ?_
            rw [HE.out]
            refine ⟨rfl, ?_⟩
            repeat (with_reducible refine bS ?_ (by simp; try omega) _)
            exact bb
          have hA3 : (k == 3) = false ∨ ((k == 3) = true ∧ x.label < 0) := by
            by_cases h3 : k = 3
            · exact .inr ⟨by simpa using h3, by omega⟩
            · exact .inl (by simpa using h3)
          have HA := hid hA
          clear hA
          by_cases hp : p = 1
          · have HP1 := hid hp
            have hk3 : (k == 3) = true := by
              have h1 := kindB_ok HKK.out
              have h3 : k = 3 := by omega
              simpa using h3
            have hlb : x.label < 0 := by
              have h3 : k = 3 := by simpa using hk3
              have := HA.out
              omega
            have hpb : (p == 1) = true := by simpa using hp
            have HB := hid (wv_back (src := src) (v := v) (fresh := fresh) (l := l) HKK.out HX.out HA.out HP1.out)
            clear hp hA3
            go_wp2_with fail
            refine HL.out.mono ?_
            rintro e w' ⟨rfl, rfl⟩
            have hs0 : hereF fresh x.a v (l.take 0) = (fresh && x.a == v) := by unfold hereF; simp
            have HS0 := hid hs0
            clear hs0
            cases fresh with
            | true =>
              go_wp2_with fail
              go_loopw [19, 20] (fun hr i wr => ∃ j : Nat, j ≤ l.length ∧ i = .int .i64 j ∧ hr = .bool (hereF true x.a v (l.take j)) ∧ WkW x w wr) (fun _ i _ => l.length - (intOf i).toNat)
              case atStart => exact ⟨0, by omega, rfl, by rw [HS0.out]; simp, HW.out⟩
              case round =>
                clear q0 q1 z0 z1 zf hs1 bb HW HL
                obtain ⟨j, hj, rfl, rfl, hW⟩ := hrel
                have HW := hid hW
                obtain ⟨q0, q1, z0, z1, zf, hs1, bb⟩ := hW
                by_cases hlt : j < l.length
                · obtain ⟨m, hmk⟩ : ∃ m, l[j]? = some m := ⟨_, List.getElem?_eq_getElem hlt⟩
                  obtain ⟨b, off, rfl, hb, c0⟩ := icellW (hr.below bb) rfl hmk
                  have hkz : (j : Int) < (l.length : Int) := by omega
                  have hbn : b ≠ w.heap.size := by omega
                  have hbn1 : b ≠ w.heap.size + 1 := by omega
                  have hb1 : b < wr.heap.size := by omega
                  have HT := hid (hereF_take (fresh := true) (a := x.a) (v := v) hmk)
                  clear hmk
                  generalize hereF true x.a v (l.take j) = h at *
                  cases h with
                  | true =>
                    have HN : Hid (hereF true x.a v (l.take (j + 1)) = true) := hid (by rw [HT.out]; rfl)
                    go_wp2_with fail
                    go_quiet (fail)
                    go_wp2_with fail
                    go_roundw
                    case rel => exact ⟨j + 1, by omega, by go_num, by rw [HN.out], HW.out.drew _⟩
                    case measure => simp [intOf]; omega
                  | false =>
                    have HN : Hid (hereF true x.a v (l.take (j + 1)) = false) := hid (by rw [HT.out]; rfl)
                    go_wp2_with fail
                    go_quiet (fail)
                    go_wp2_with fail
                    go_roundw
                    case rel => exact ⟨j + 1, by omega, by go_num, by rw [HN.out], HW.out.drew _⟩
                    case measure => simp [intOf]; omega
                · obtain rfl : j = l.length := by omega
                  rw [List.take_length]
                  cases hh : hereF true x.a v l with
                  | true =>
                    have HE : Hid (wakeV k v src x p true l = (⟨x.a, x.a⟩, true, 0)) := hid (by rw [HE0.out, HB.out, if_pos hh])
                    clear hh
                    go_wp2_with fail
                    refine bodyPost_ret (v := .tuple #[.agg #[.int .i64 x.a, .int .i64 x.a], .bool true, .int .i64 0]) (by simp [results, Try.results28, go_sem, *]) rfl ?_
                    rw [HE.out]
                    refine ⟨rfl, ?_⟩
                    repeat (with_reducible refine bS ?_ (by simp; try omega) _)
                    exact bb
                  | false =>
                    have HE : Hid (wakeV k v src x p true l = (x, false, 0)) := hid (by rw [HE0.out, HB.out, if_neg (by rw [hh]; simp)])
                    clear hh
                    go_wp2_with fail
                    refine bodyPost_ret (v := .tuple #[.agg #[.int .i64 x.a, .int .i64 x.label], .bool false, .int .i64 0]) (by simp [results, Try.results28, go_sem, *]) rfl ?_
                    rw [HE.out]
                    refine ⟨rfl, ?_⟩
                    repeat (with_reducible refine bS ?_ (by simp; try omega) _)
                    exact bb
            | false =>
              go_wp2_with fail
              go_loopw [19, 20] (fun hr i wr => ∃ j : Nat, j ≤ l.length ∧ i = .int .i64 j ∧ hr = .bool (hereF false x.a v (l.take j)) ∧ WkW x w wr) (fun _ i _ => l.length - (intOf i).toNat)
              case atStart => exact ⟨0, by omega, rfl, by rw [HS0.out]; simp, HW.out⟩
              case round =>
                clear q0 q1 z0 z1 zf hs1 bb HW HL
                obtain ⟨j, hj, rfl, rfl, hW⟩ := hrel
                have HW := hid hW
                obtain ⟨q0, q1, z0, z1, zf, hs1, bb⟩ := hW
                by_cases hlt : j < l.length
                · obtain ⟨m, hmk⟩ : ∃ m, l[j]? = some m := ⟨_, List.getElem?_eq_getElem hlt⟩
                  obtain ⟨b, off, rfl, hb, c0⟩ := icellW (hr.below bb) rfl hmk
                  have hkz : (j : Int) < (l.length : Int) := by omega
                  have hbn : b ≠ w.heap.size := by omega
                  have hbn1 : b ≠ w.heap.size + 1 := by omega
                  have hb1 : b < wr.heap.size := by omega
                  have HT := hid (hereF_take (fresh := false) (a := x.a) (v := v) hmk)
                  clear hmk
                  generalize hereF false x.a v (l.take j) = h at *
                  cases h with
                  | true =>
                    have HN : Hid (hereF false x.a v (l.take (j + 1)) = true) := hid (by rw [HT.out]; rfl)
                    go_wp2_with fail
                    go_quiet (fail)
                    go_wp2_with fail
                    go_roundw
                    case rel => exact ⟨j + 1, by omega, by go_num, by rw [HN.out], HW.out.drew _⟩
                    case measure => simp [intOf]; omega
                  | false =>
                    have HN : Hid (hereF false x.a v (l.take (j + 1)) = (m == x.a)) := hid (by rw [HT.out]; rfl)
                    go_wp2_with fail
                    go_quiet (fail)
                    go_wp2_with fail
                    go_roundw
                    case rel => exact ⟨j + 1, by omega, by go_num, by rw [HN.out], HW.out.drew _⟩
                    case measure => simp [intOf]; omega
                · obtain rfl : j = l.length := by omega
                  rw [List.take_length]
                  cases hh : hereF false x.a v l with
                  | true =>
                    have HE : Hid (wakeV k v src x p false l = (⟨x.a, x.a⟩, true, 0)) := hid (by rw [HE0.out, HB.out, if_pos hh])
                    clear hh
                    go_wp2_with fail
                    refine bodyPost_ret (v := .tuple #[.agg #[.int .i64 x.a, .int .i64 x.a], .bool true, .int .i64 0]) (by simp [results, Try.results28, go_sem, *]) rfl ?_
                    rw [HE.out]
                    refine ⟨rfl, ?_⟩
                    repeat (with_reducible refine bS ?_ (by simp; try omega) _)
                    exact bb
                  | false =>
                    have HE : Hid (wakeV k v src x p false l = (x, false, 0)) := hid (by rw [HE0.out, HB.out, if_neg (by rw [hh]; simp)])
                    clear hh
                    go_wp2_with fail
                    refine bodyPost_ret (v := .tuple #[.agg #[.int .i64 x.a, .int .i64 x.label], .bool false, .int .i64 0]) (by simp [results, Try.results28, go_sem, *]) rfl ?_
                    rw [HE.out]
                    refine ⟨rfl, ?_⟩
                    repeat (with_reducible refine bS ?_ (by simp; try omega) _)
                    exact bb
          have hpb : (p == 1) = false := by simpa using hp
          have HP1 := hid hp
          clear hp
          cases fresh with
          | true =>
            have HF := hid (wv_fresh (src := src) (v := v) (l := l) HKK.out HX.out HA.out HP1.out)
            by_cases hk1 : k = 1
            · by_cases hvs : v = src
              · have HE : Hid (wakeV k v src x p true l = (⟨0, -1⟩, true, 0)) := hid (by rw [HE0.out, HF.out, if_pos hk1, if_pos hvs])
                have hk1b : (k == 1) = true := by simpa using hk1
                have hk3b : (k == 3) = false := by simpa using (show k ≠ 3 by omega)
                have hvb : (v == src) = true := by simpa using hvs
                clear hk1 hvs hA3
                go_wp2_with fail
                refine HL.out.mono ?_
                rintro e w' ⟨rfl, rfl⟩
                go_wp2_with fail
                refine bodyPost_ret (v := .tuple #[.agg #[.int .i64 0, .int .i64 (-1)], .bool true, .int .i64 0]) (by simp [results, Try.results28, go_sem, *]) rfl ?_
                rw [HE.out]
                refine ⟨rfl, ?_⟩
                repeat (with_reducible refine bS ?_ (by simp; try omega) _)
                exact bb
              · have HE : Hid (wakeV k v src x p true l = (⟨-1, -1⟩, false, 0)) := hid (by rw [HE0.out, HF.out, if_pos hk1, if_neg hvs])
                have hk1b : (k == 1) = true := by simpa using hk1
                have hk3b : (k == 3) = false := by simpa using (show k ≠ 3 by omega)
                have hvb : (v == src) = false := by simpa using hvs
                clear hk1 hvs hA3
                go_wp2_with fail
                refine HL.out.mono ?_
                rintro e w' ⟨rfl, rfl⟩
                go_wp2_with fail
                refine bodyPost_ret (v := .tuple #[.agg #[.int .i64 (-1), .int .i64 (-1)], .bool false, .int .i64 0]) (by simp [results, Try.results28, go_sem, *]) rfl ?_
                rw [HE.out]
                refine ⟨rfl, ?_⟩
                repeat (with_reducible refine bS ?_ (by simp; try omega) _)
                exact bb
            · have HE : Hid (wakeV k v src x p true l = (⟨v, -1⟩, true, 0)) := hid (by rw [HE0.out, HF.out, if_neg hk1])
              have hk1b : (k == 1) = false := by simpa using hk1
              clear hk1
              rcases hA3 with h3 | ⟨h3, h3l⟩
              · go_wp2_with fail
                refine HL.out.mono ?_
                rintro e w' ⟨rfl, rfl⟩
                go_wp2_with fail
                refine bodyPost_ret (v := .tuple #[.agg #[.int .i64 v, .int .i64 (-1)], .bool true, .int .i64 0]) (by simp [results, Try.results28, go_sem, *]) rfl ?_
                rw [HE.out]
                refine ⟨rfl, ?_⟩
                repeat (with_reducible refine bS ?_ (by simp; try omega) _)
                exact bb
              · go_wp2_with fail
                refine HL.out.mono ?_
                rintro e w' ⟨rfl, rfl⟩
                go_wp2_with fail
                refine bodyPost_ret (v := .tuple #[.agg #[.int .i64 v, .int .i64 (-1)], .bool true, .int .i64 0]) (by simp [results, Try.results28, go_sem, *]) rfl ?_
                rw [HE.out]
                refine ⟨rfl, ?_⟩
                repeat (with_reducible refine bS ?_ (by simp; try omega) _)
                exact bb
          | false =>
            have HF := hid (wv_low (src := src) (v := v) HKK.out HX.out HA.out HP1.out HMM.out)
            generalize leastF l = n at HF HL
            by_cases hn : 0 ≤ n
            · by_cases ha : x.a < 0
              ·
                have HE : Hid (wakeV k v src x p false l = (⟨n, x.label⟩, true, 0)) := hid (by rw [HE0.out, HF.out, if_pos (by omega)])
                rcases hA3 with h3 | ⟨h3, h3l⟩
                · go_wp2_with fail
                  refine HL.out.mono ?_
                  rintro e w' ⟨rfl, rfl⟩
                  go_wp2_with fail
                  refine bodyPost_ret (v := .tuple #[.agg #[.int .i64 n, .int .i64 x.label], .bool true, .int .i64 0]) (by simp [results, Try.results28, go_sem, *]) rfl ?_
                  rw [HE.out]
                  refine ⟨rfl, ?_⟩
                  repeat (with_reducible refine bS ?_ (by simp; try omega) _)
                  exact bb
                · go_wp2_with fail
                  refine HL.out.mono ?_
                  rintro e w' ⟨rfl, rfl⟩
                  go_wp2_with fail
                  refine bodyPost_ret (v := .tuple #[.agg #[.int .i64 n, .int .i64 x.label], .bool true, .int .i64 0]) (by simp [results, Try.results28, go_sem, *]) rfl ?_
                  rw [HE.out]
                  refine ⟨rfl, ?_⟩
                  repeat (with_reducible refine bS ?_ (by simp; try omega) _)
                  exact bb
              · by_cases hb : n < x.a
                ·
                  have HE : Hid (wakeV k v src x p false l = (⟨n, x.label⟩, true, 0)) := hid (by rw [HE0.out, HF.out, if_pos (by omega)])
                  rcases hA3 with h3 | ⟨h3, h3l⟩
                  · go_wp2_with fail
                    refine HL.out.mono ?_
                    rintro e w' ⟨rfl, rfl⟩
                    go_wp2_with fail
                    refine bodyPost_ret (v := .tuple #[.agg #[.int .i64 n, .int .i64 x.label], .bool true, .int .i64 0]) (by simp [results, Try.results28, go_sem, *]) rfl ?_
                    rw [HE.out]
                    refine ⟨rfl, ?_⟩
                    repeat (with_reducible refine bS ?_ (by simp; try omega) _)
                    exact bb
                  · go_wp2_with fail
                    refine HL.out.mono ?_
                    rintro e w' ⟨rfl, rfl⟩
                    go_wp2_with fail
                    refine bodyPost_ret (v := .tuple #[.agg #[.int .i64 n, .int .i64 x.label], .bool true, .int .i64 0]) (by simp [results, Try.results28, go_sem, *]) rfl ?_
                    rw [HE.out]
                    refine ⟨rfl, ?_⟩
                    repeat (with_reducible refine bS ?_ (by simp; try omega) _)
                    exact bb
                ·
                  have HE : Hid (wakeV k v src x p false l = (x, false, 0)) := hid (by rw [HE0.out, HF.out, if_neg (by omega)])
                  rcases hA3 with h3 | ⟨h3, h3l⟩
                  · go_wp2_with fail
                    refine HL.out.mono ?_
                    rintro e w' ⟨rfl, rfl⟩
                    go_wp2_with fail
                    refine bodyPost_ret (v := .tuple #[.agg #[.int .i64 x.a, .int .i64 x.label], .bool false, .int .i64 0]) (by simp [results, Try.results28, go_sem, *]) rfl ?_
                    rw [HE.out]
                    refine ⟨rfl, ?_⟩
                    repeat (with_reducible refine bS ?_ (by simp; try omega) _)
                    exact bb
                  · go_wp2_with fail
                    refine HL.out.mono ?_
                    rintro e w' ⟨rfl, rfl⟩
                    go_wp2_with fail
                    refine bodyPost_ret (v := .tuple #[.agg #[.int .i64 x.a, .int .i64 x.label], .bool false, .int .i64 0]) (by simp [results, Try.results28, go_sem, *]) rfl ?_
                    rw [HE.out]
                    refine ⟨rfl, ?_⟩
                    repeat (with_reducible refine bS ?_ (by simp; try omega) _)
                    exact bb
            ·
              have HE : Hid (wakeV k v src x p false l = (x, false, 0)) := hid (by rw [HE0.out, HF.out, if_neg (by omega)])
              rcases hA3 with h3 | ⟨h3, h3l⟩
              · go_wp2_with fail
                refine HL.out.mono ?_
                rintro e w' ⟨rfl, rfl⟩
                go_wp2_with fail
                refine bodyPost_ret (v := .tuple #[.agg #[.int .i64 x.a, .int .i64 x.label], .bool false, .int .i64 0]) (by simp [results, Try.results28, go_sem, *]) rfl ?_
                rw [HE.out]
                refine ⟨rfl, ?_⟩
                repeat (with_reducible refine bS ?_ (by simp; try omega) _)
                exact bb
              · go_wp2_with fail
                refine HL.out.mono ?_
                rintro e w' ⟨rfl, rfl⟩
                go_wp2_with fail
                refine bodyPost_ret (v := .tuple #[.agg #[.int .i64 x.a, .int .i64 x.label], .bool false, .int .i64 0]) (by simp [results, Try.results28, go_sem, *]) rfl ?_
                rw [HE.out]
                refine ⟨rfl, ?_⟩
                repeat (with_reducible refine bS ?_ (by simp; try omega) _)
                exact bb
end Go.Proofs.Yteefemiieidpaaa
