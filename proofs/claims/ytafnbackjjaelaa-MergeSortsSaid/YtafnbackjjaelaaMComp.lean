/- slices.CompactFunc at mail, walked. -/
import Derived.Test.YtafnbackjjaelaaMCompP
namespace Go.Proofs.Ytafnbackjjaelaa
open Go.ChangeShapes Go.WideShapes Go.ChangeAt Go.RowKit
set_option linter.unusedVariables false
theorem alike_walk (a b : Mail) (w : World) : Calls Try.prog 125 #[.agg #[.int .i64 a.to, .int .i64 a.val], .agg #[.int .i64 b.to, .int .i64 b.val]] w fun e w' => e = .returned (.bool (a.to == b.to)) ∧ Below w.heap.size w w' := by
  go_enter Try.func125, Try.ntmps125
  go_wp2_with fail
  go_ret
  exact ⟨rfl, bA (bA (Below.refl _ _) _) _⟩
theorem zero_Mail (w : World) : (zeroValue 162).run Try.prog w = .ok (.agg #[.int .i64 0, .int .i64 0]) w := by kernel_rfl
def noPartsM : Mail → List Part := fun _ => []
abbrev OwnM (w : World) (B : Nat) (A : Option Addr) (c : Nat) (l : List Mail) : Prop := Heaped Mail.cells noPartsM w B 162 2 A c l
def CmOut (l : List Mail) (B c g : Nat) (w : World) (i : Value) (wr : World) : Prop :=
  ∃ k : Nat, i = .int .i64 ((k : Int) + 1) ∧ k + 1 ≤ l.length ∧ Hid (Apts l (k + 1)) ∧ OwnM wr B (some ⟨g, 0, none⟩) c l ∧ Below B w wr
def CmIn (l : List Mail) (B c g K : Nat) (w : World) (i j : Value) (wr : World) : Prop :=
  ∃ (a m : Nat) (L : List Mail), i = .int .i64 a ∧ j = .int .i64 ((m : Int) + 1) ∧ Hid (CompIn l L a (K + m)) ∧ a < K + m + 1 ∧ K + m + 1 ≤ l.length ∧ OwnM wr B (some ⟨g, 0, none⟩) c L ∧ Below B w wr
set_option maxRecDepth 100000 in
set_option maxHeartbeats 8000000 in
theorem compact_walk (l : List Mail) (w : World) (B : Nat) (A : Option Addr) (c : Nat) (hB : B ≤ w.heap.size) (hown : OwnM w B A c l) (hl : l.length * 2 ≤ 140737488355328) :
    Calls Try.prog 123 #[.slice A l.length c, .func (.func 125) #[] #[]] w fun e w' => e = .returned (.slice A (compT l l.length).length c) ∧ OwnM w' B A c (compT l l.length) ∧ Below B w w' := by
  by_cases h2 : l.length < 2
  · have HE := hid (show compT l l.length = l by
      rw [compT_all (Nat.le_refl _) (fun i x y hi => by omega), List.take_length])
    have h2z : (l.length : Int) < 2 := by omega
    go_enter Try.func123, Try.ntmps123
    go_wp2_with fail
    go_ret
    rw [HE.out]
    exact ⟨rfl, hown, Below.refl _ _⟩
  · have h2z : ¬ ((l.length : Int) < 2) := by omega
    obtain ⟨g, rfl⟩ : ∃ g, A = some ⟨g, 0, none⟩ := by
      rcases hown.1.2 with ⟨hv, h0⟩ | ⟨g, cap, cur, hv, _⟩
      · omega
      · injection hv with e1 _ _; exact ⟨g, e1⟩
    have hcap := own_cap hown.1
    have hcz : (l.length : Int) ≤ (c : Int) := by omega
    go_enter Try.func123, Try.ntmps123
    go_wp2_with fail
    go_loopw [5, 6, 7] (fun i _ _ wr => CmOut l B c g w i wr) (fun i _ _ _ => l.length - (intOf i).toNat)
    case atStart => exact ⟨0, by go_num, by omega, hid fun i x y hi => by omega, hown, Below.refl _ _⟩
    case round =>
      clear hown
      obtain ⟨m, rfl, hkl, HA, hown, hbel⟩ := hrel
      by_cases hlt : m + 1 < l.length
      · obtain ⟨x, hx⟩ : ∃ x, l[m + 1]? = some x := ⟨_, List.getElem?_eq_getElem (by omega)⟩
        obtain ⟨y, hy⟩ : ∃ y, l[m]? = some y := ⟨_, List.getElem?_eq_getElem (by omega)⟩
        obtain ⟨b, off, hbo, hb, c0, c1⟩ := mcells hown.led.1 rfl hx
        obtain ⟨b', off', hbb, hb', d0, d1⟩ := mcells hown.led.1 rfl hy
        injection hbo with hbo
        injection hbo with e1 e2
        subst e1 e2
        injection hbb with hbb
        injection hbb with e1 e2
        subst e1 e2
        simp only [Nat.zero_add] at c0 c1 d0 d1
        have HO2 := hid fun q => alike_walk x y (wr.drewN q)
        have HX := hid hx
        have HY := hid hy
        have hbr := hbel.size
        have hBr : B ≤ wr.heap.size := by omega
        have hm1 : (m : Int) + 1 < (l.length : Int) := by omega
        have hm2 : (0 : Int) ≤ (m : Int) + 1 := by omega
        have hm3 : (m : Int) + 1 ≤ (l.length : Int) := by omega
        have hm4 : (m : Int) < (l.length : Int) := by omega
        have hm5 : (0 : Int) ≤ (m : Int) := by omega
        have hm6 : (m : Int) ≤ (l.length : Int) := by omega
        have hw1 : IntKind.i64.wrap (m : Int) = (m : Int) := IntWalk.i64_in _ (by omega)
        have hw2 : IntKind.i64.wrap ((m : Int) + 1 - 1) = (m : Int) := by rw [show (m : Int) + 1 - 1 = (m : Int) by omega]; exact hw1
        have hk : ∀ (q : Nat) (w3 : World), Below (wr.drewN q).heap.size (wr.drewN q) w3 → w3.cell? ⟨g, (m + 1) * 2, none⟩ = some (.int .i64 x.to) ∧ w3.cell? ⟨g, (m + 1) * 2 + 1, none⟩ = some (.int .i64 x.val) ∧ w3.cell? ⟨g, m * 2, none⟩ = some (.int .i64 y.to) ∧ w3.cell? ⟨g, m * 2 + 1, none⟩ = some (.int .i64 y.val) := fun q w3 h3 =>
          ⟨keepb h3 (by simpa using c0), keepb h3 (by simpa using c1), keepb h3 (by simpa using d0), keepb h3 (by simpa using d1)⟩
        have HK := hid hk
        clear hx hy
        cases hv : (x.to == y.to) with
        | false =>
          rw [hv] at HO2
          have HV := hid (HA.out.next HX.out HY.out (by simpa using hv))
          go_wp2_with fail
          go_region_held3 (fun w' => w'.cell? ⟨g, (m + 1) * 2, none⟩ = some (.int .i64 x.to) ∧ w'.cell? ⟨g, (m + 1) * 2 + 1, none⟩ = some (.int .i64 x.val) ∧ w'.cell? ⟨g, m * 2, none⟩ = some (.int .i64 y.to) ∧ w'.cell? ⟨g, m * 2 + 1, none⟩ = some (.int .i64 y.val)) (first | exact HK.out _ _ b3 | go_keep) ((go_at_call 125; refine (HO2.out 1).mono ?_; rintro r w3 ⟨rfl, b3⟩))
          all_goals
            have b13 : Below wr.heap.size wr w3 := (below_drewN (Below.refl wr.heap.size wr) 1).trans b3
            go_wp2_with fail
            go_roundw
            case rel => exact ⟨m + 1, by go_num, by omega, HV, hown.below b13 (Nat.le_refl _), hbel.trans (b13.mono hBr)⟩
            case measure => simp [intOf] <;> omega
        | true =>
          rw [hv] at HO2
          have HV := hid (CompIn.start HA.out HX.out HY.out (by simpa using hv))
          go_wp2_with fail
          go_region_held3 (fun w' => w'.cell? ⟨g, (m + 1) * 2, none⟩ = some (.int .i64 x.to) ∧ w'.cell? ⟨g, (m + 1) * 2 + 1, none⟩ = some (.int .i64 x.val) ∧ w'.cell? ⟨g, m * 2, none⟩ = some (.int .i64 y.to) ∧ w'.cell? ⟨g, m * 2 + 1, none⟩ = some (.int .i64 y.val)) (first | exact HK.out _ _ b3 | go_keep) ((go_at_call 125; refine (HO2.out 1).mono ?_; rintro r w3 ⟨rfl, b3⟩))
          all_goals
            have b13 : Below wr.heap.size wr w3 := (below_drewN (Below.refl wr.heap.size wr) 1).trans b3
            have hown3 := hown.below b13 (Nat.le_refl _)
            have hb3 := hbel.trans (b13.mono hBr)
            have hcz2 : (m : Int) + 1 ≤ (c : Int) := by omega
            clear c0 c1 d0 d1 hown HK hk
            go_wp2_with fail
            go_loopw [5, 7] (fun i j wr => CmIn l B c g (m + 1) w i j wr) (fun _ j _ => l.length - (intOf j).toNat)
            case atStart => exact ⟨m + 1, 0, l, by go_num, by go_num, HV, by omega, by omega, hown3, hb3⟩
            case round =>
              clear hown3 hb3 HA HV hbel HX HY HO2
              obtain ⟨a, k, L, rfl, rfl, HD, hak, hkl2, hown, hbel⟩ := hrel
              have hLL := HD.out.len
              have hbr := hbel.size
              by_cases hlt2 : m + 1 + k + 1 < l.length
              · obtain ⟨x2, hx⟩ : ∃ x, l[m + 1 + k + 1]? = some x := ⟨_, List.getElem?_eq_getElem hlt2⟩
                obtain ⟨y2, hy⟩ : ∃ y, l[m + 1 + k]? = some y := ⟨_, List.getElem?_eq_getElem (by omega)⟩
                have hLx := HD.out.get1.trans hx
                have hLy := HD.out.get0.trans hy
                obtain ⟨b, off, hbo, hb, c0, c1⟩ := mcells hown.led.1 rfl hLx
                obtain ⟨b', off', hbb, hb', d0, d1⟩ := mcells hown.led.1 rfl hLy
                injection hbo with hbo
                injection hbo with e1 e2
                subst e1 e2
                injection hbb with hbb
                injection hbb with e1 e2
                subst e1 e2
                rw [show 0 + (m + 1 + k + 1) * 2 = (m + 1) * 2 + (k + 1) * 2 by omega] at c0 c1
                rw [show 0 + (m + 1 + k) * 2 = (m + 1) * 2 + k * 2 by omega] at d0 d1
                have HO2 := hid fun q => alike_walk x2 y2 (wr.drewN q)
                have HX := hid hx
                have HY := hid hy
                have hBr : B ≤ wr.heap.size := by omega
                have hn1 : (k : Int) + 1 < ((l.length - (m + 1) : Nat) : Int) := by omega
                have hn2 : (0 : Int) ≤ (k : Int) + 1 := by omega
                have hn4 : (k : Int) < ((l.length - (m + 1) : Nat) : Int) := by omega
                have hn5 : (0 : Int) ≤ (k : Int) := by omega
                have haz : (a : Int) < (l.length : Int) := by omega
                have hw1 : IntKind.i64.wrap (k : Int) = (k : Int) := IntWalk.i64_in _ (by omega)
                have hw2 : IntKind.i64.wrap ((k : Int) + 1 - 1) = (k : Int) := by rw [show (k : Int) + 1 - 1 = (k : Int) by omega]; exact hw1
                have hw3 : IntKind.i64.wrap ((k : Int) + 1 + 1) = (k : Int) + 1 + 1 := IntWalk.i64_in _ (by omega)
                have hk : ∀ (q : Nat) (w3 : World), Below (wr.drewN q).heap.size (wr.drewN q) w3 → w3.cell? ⟨g, (m + 1) * 2 + (k + 1) * 2, none⟩ = some (.int .i64 x2.to) ∧ w3.cell? ⟨g, (m + 1) * 2 + (k + 1) * 2 + 1, none⟩ = some (.int .i64 x2.val) ∧ w3.cell? ⟨g, (m + 1) * 2 + k * 2, none⟩ = some (.int .i64 y2.to) ∧ w3.cell? ⟨g, (m + 1) * 2 + k * 2 + 1, none⟩ = some (.int .i64 y2.val) := fun q w3 h3 =>
                  ⟨keepb h3 (by simpa using c0), keepb h3 (by simpa using c1), keepb h3 (by simpa using d0), keepb h3 (by simpa using d1)⟩
                have HK := hid hk
                clear hx hy hk
                cases hv : (x2.to == y2.to) with
                | true =>
                  rw [hv] at HO2
                  have HV := hid (HD.out.skip HX.out HY.out (by simpa using hv))
                  go_wp2_with fail
                  go_region_held3 (fun w' => w'.cell? ⟨g, (m + 1) * 2 + (k + 1) * 2, none⟩ = some (.int .i64 x2.to) ∧ w'.cell? ⟨g, (m + 1) * 2 + (k + 1) * 2 + 1, none⟩ = some (.int .i64 x2.val) ∧ w'.cell? ⟨g, (m + 1) * 2 + k * 2, none⟩ = some (.int .i64 y2.to) ∧ w'.cell? ⟨g, (m + 1) * 2 + k * 2 + 1, none⟩ = some (.int .i64 y2.val)) (first | exact HK.out _ _ b4 | go_keep) ((go_at_call 125; refine (HO2.out 1).mono ?_; rintro r w4 ⟨rfl, b4⟩))
                  all_goals
                    have b14 : Below wr.heap.size wr w4 := (below_drewN (Below.refl wr.heap.size wr) 1).trans b4
                    go_wp2_with fail
                    go_roundw
                    case rel => exact ⟨a, k + 1, L, rfl, by go_num, HV, by omega, by omega, hown.below b14 (Nat.le_refl _), hbel.trans (b14.mono hBr)⟩
                    case measure => simp [intOf] <;> omega
                | false =>
                  rw [hv] at HO2
                  have HV := hid (HD.out.put HX.out HY.out (by simpa using hv))
                  go_wp2_with fail
                  go_region_held3 (fun w' => w'.cell? ⟨g, (m + 1) * 2 + (k + 1) * 2, none⟩ = some (.int .i64 x2.to) ∧ w'.cell? ⟨g, (m + 1) * 2 + (k + 1) * 2 + 1, none⟩ = some (.int .i64 x2.val) ∧ w'.cell? ⟨g, (m + 1) * 2 + k * 2, none⟩ = some (.int .i64 y2.to) ∧ w'.cell? ⟨g, (m + 1) * 2 + k * 2 + 1, none⟩ = some (.int .i64 y2.val)) (first | exact HK.out _ _ b4 | go_keep) ((go_at_call 125; refine (HO2.out 1).mono ?_; rintro r w4 ⟨rfl, b4⟩))
                  all_goals
                    have b14 : Below wr.heap.size wr w4 := (below_drewN (Below.refl wr.heap.size wr) 1).trans b4
                    obtain ⟨q0, q1, _, _⟩ := HK.out 1 w4 b4
                    have hown4 := hown.below b14 (Nat.le_refl _)
                    obtain ⟨z, hz⟩ : ∃ z, L[a]? = some z := ⟨_, List.getElem?_eq_getElem (by omega)⟩
                    obtain ⟨g', hg', hgB, hgs, hgc, hgf, hput⟩ := heap_put (cells := Mail.cells) (sz := 2) (fun _ => rfl) hown4 hz x2 (fun pt hpt => by cases hpt) (by decide)
                    injection hg' with hg'
                    injection hg' with hg'
                    subst hg'
                    have z0 : w4.cell? ⟨g, a * 2, none⟩ = some (.int .i64 z.to) := hgc 0 _ rfl
                    have z1 := hgc 1 _ rfl
                    have f0 := hgf (a * 2)
                    have f1 := hgf (a * 2 + 1)
                    have HP := hid hput
                    have HB4 := hid (hbel.trans (b14.mono hBr))
                    clear hput hgc hgf hown4 hown c0 c1 d0 d1
                    go_wp2_with fail
                    go_roundw
                    case rel => exact ⟨a + 1, k + 1, L.set a x2, by go_num, by go_num, HV, by omega, by omega, HP.out, (HB4.out.setCell hgB _).setCell hgB _⟩
                    case measure => simp [intOf] <;> omega
              · have hk1 : ¬ ((k : Int) + 1 < ((l.length - (m + 1) : Nat) : Int)) := by omega
                have HE := hid (HD.out.done (by omega))
                have hcz : (a : Int) ≤ (c : Int) := by omega
                have haz : (a : Int) ≤ (l.length : Int) := by omega
                obtain ⟨w', hcl, hown', hg'⟩ := run_clear_own (P := Try.prog) (z := .agg #[.int .i64 0, .int .i64 0]) (c' := c - a) (i := a) (k := l.length - a) (o := a * 2) Try.underlying94 zero_Mail rfl (by simp [go_sem, Value.oneCell']) hown.1 (by rw [hLL]; omega) rfl
                have hla : (L.take a).length = a := by rw [List.length_take]; omega
                have hH : OwnM w' B (some ⟨g, 0, none⟩) c (L.take a) := by
                  refine ⟨by rw [hla, ← flat_take (cells := Mail.cells) (sz := 2) (fun _ => rfl)]; exact hown', fun x hx p hp => by cases hp⟩
                have hFl : (compT l l.length).length = a := by rw [← HE.out]; exact hla
                rw [HE.out] at hH
                have HH := hid hH
                have hgb := (hown.1.lt g rfl).1
                have hBr : B ≤ wr.heap.size := by omega
                have HB := hid (hbel.trans ((Below.refl B wr).grown hg' hBr (fun k hk => by injection hk with hk; omega)))
                have HFl := hid hFl
                clear hH hFl hown hown' hg' HE HD hla hLL
                go_wp2_with (simp only [hcl])
                go_ret
                exact ⟨by rw [HFl.out]; rfl, HH.out, HB.out⟩
      · have hk1 : ¬ ((m : Int) + 1 < (l.length : Int)) := by omega
        have HE := hid (show compT l l.length = l by
          have e : l.length = m + 1 := by omega
          rw [compT_all (Nat.le_refl _) (by rw [e]; exact HA.out), List.take_length])
        go_wp2_with fail
        go_ret
        rw [HE.out]
        exact ⟨rfl, hown, hbel⟩
end Go.Proofs.Ytafnbackjjaelaa
