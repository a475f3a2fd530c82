/- queue.open. -/
import Derived.Test.YtifpngjipkmdcaaQueD
import Derived.Test.YtifpngjipkmdcaaQueF
namespace Go.Proofs.Ytifpngjipkmdcaa
open Go.ChangeShapes Go.WideShapes Go.ChangeAt Go.RowKit
set_option linter.unusedVariables false
set_option linter.unusedSimpArgs false
def queBad (q : Queue) : Prop := q.budget < 1 ∨ 1000 < q.budget ∨ q.budget ≤ q.loose.length ∨ 5000 < q.runs.length
open Classical in
/-- How much mail a queue holds; none: it may not be. -/
noncomputable def countV (q : Queue) : Option Nat :=
  if queBad q then none else if okMl q.loose = false then none else manyGo q.runs q.loose.length
theorem countV_bad {q : Queue} (h : queBad q) : countV q = none := by unfold countV; rw [if_pos h]
theorem countV_mail {q : Queue} (h : ¬ queBad q) (h2 : okMl q.loose = false) : countV q = none := by unfold countV; rw [if_neg h, if_pos h2]
theorem countV_ok {q : Queue} (h : ¬ queBad q) (h2 : okMl q.loose = true) : countV q = manyGo q.runs q.loose.length := by unfold countV; rw [if_neg h, if_neg (by rw [h2]; decide)]
theorem manyGo_bad {r : ML Int} {rs : List (ML Int)} {n : Nat} (h : runV r.l = [] ∨ 5000 < n + (runV r.l).length) : manyGo (r :: rs) n = none := by rw [manyGo, if_pos h]
theorem manyGo_ok {r : ML Int} {rs : List (ML Int)} {n : Nat} (h : ¬ (runV r.l = [] ∨ 5000 < n + (runV r.l).length)) : manyGo (r :: rs) n = manyGo rs (n + (runV r.l).length) := by rw [manyGo, if_neg h]
/-- Sizes that a queue's runs have. -/
def RunsOk (q : Queue) : Prop := ∀ x ∈ q.runs, (∀ n ∈ x.l, 0 ≤ n ∧ n ≤ 255) ∧ x.l.length ≤ x.c ∧ x.l.length ≤ 140737488355328
/-- What open hands back: the runs are not told. -/
def RetO (w : World) (rs : List (ML Int)) (r : Option Nat) (e : Ending) (w' : World) : Prop :=
  (∃ (A : Option Addr) (N c m : Nat) (ok : Bool), e = .returned (.tuple #[.slice A N c, .int .i64 (m : Nat), .bool ok]) ∧ (r = none → ok = false) ∧ (∀ k, r = some k → ok = true ∧ m = k) ∧ (ok = true → ∃ us : List (ML Mail), us.length = N ∧ rowsOf us = rs.map (fun x => runV x.l) ∧ MGrid w' w.heap.size A c us)) ∧ Below w.heap.size w w'
theorem retO_none {w w' : World} {rs : List (ML Int)} {r : Option Nat} (h : r = none) (hb : Below w.heap.size w w') : RetO w rs r (.returned (.tuple #[.slice none 0 0, .int .i64 0, .bool false])) w' :=
  ⟨⟨none, 0, 0, 0, false, rfl, (fun _ => rfl), (fun k hk => by rw [h] at hk; cases hk), (fun h => by cases h)⟩, hb⟩
def OpnRel (R : Option Nat) (rs : List (ML Int)) (W : World) (a s i : Value) (wr : World) : Prop :=
  ∃ (k n N : Nat) (A : Option Addr) (c : Nat) (us : List (ML Mail)), k ≤ rs.length ∧ i = .int .i64 (k : Nat) ∧ a = .int .i64 (n : Nat) ∧ s = .slice A N c ∧ n ≤ 5000 ∧ N = k ∧ Hid (R = manyGo (rs.drop k) n) ∧ Hid (us.length = N) ∧ Hid (rowsOf us = (rs.take k).map (fun x => runV x.l)) ∧ Hid (MGrid wr W.heap.size A c us) ∧ Below W.heap.size W wr
set_option maxRecDepth 100000 in
set_option maxHeartbeats 8000000 in
theorem open_walkQ (q : Queue) (w : World) (A B : Option Addr) (c d : Nat) (hl : Rd w w.heap.size A 2 q.loose.length (q.loose.flatMap Mail.cells)) (hg : Grid u8c 1 w w.heap.size B q.runs) (hll : q.loose.length ≤ 140737488355328) (hrl : q.runs.length ≤ 140737488355328) (hx : RunsOk q) :
    Calls Try.prog 58 #[.agg #[.int .i64 q.budget, .slice A q.loose.length c, .slice B q.runs.length d]] w (RetO w q.runs (countV q)) := by
  have b0 : Below w.heap.size w (w.alloc (.cells #[.int .i64 q.budget, .slice A q.loose.length c, .slice B q.runs.length d] 53)) := bA (Below.refl _ _) _
  have HCB := hid (countV_bad (q := q))
  have HCM := hid (countV_mail (q := q))
  have HCO := hid (countV_ok (q := q))
  have HAB := hid (anyBad_walk q.loose _ A c (rdb hl (by decide) b0) hll)
  unfold queBad at HCB HCM HCO
  unfold RunsOk at hx
  obtain ⟨bu, lo, rs⟩ := q
  simp only at *
  generalize countV ⟨bu, lo, rs⟩ = R at *
  by_cases h1 : bu < 1
  · have HV := hid (HCB.out (.inl h1))
    clear HCB HCM HCO
    go_enter Try.func58, Try.ntmps58
    go_wp2_with fail
    refine bodyPost_ret (v := .tuple #[.slice none 0 0, .int .i64 0, .bool false]) (by simp [results, Try.results58, go_sem, *]) rfl (retO_none HV.out b0)
  · by_cases h2 : 1000 < bu
    · have HV := hid (HCB.out (.inr (.inl h2)))
      clear HCB HCM HCO
      go_enter Try.func58, Try.ntmps58
      go_wp2_with fail
      refine bodyPost_ret (v := .tuple #[.slice none 0 0, .int .i64 0, .bool false]) (by simp [results, Try.results58, go_sem, *]) rfl (retO_none HV.out b0)
    · by_cases h3 : bu ≤ (lo.length : Int)
      · have HV := hid (HCB.out (.inr (.inr (.inl h3))))
        clear HCB HCM HCO
        go_enter Try.func58, Try.ntmps58
        go_wp2_with fail
        refine bodyPost_ret (v := .tuple #[.slice none 0 0, .int .i64 0, .bool false]) (by simp [results, Try.results58, go_sem, *]) rfl (retO_none HV.out b0)
      · by_cases h4 : 5000 < rs.length
        · have HV := hid (HCB.out (.inr (.inr (.inr h4))))
          have h4z : (5000 : Int) < (rs.length : Int) := by omega
          clear HCB HCM HCO
          go_enter Try.func58, Try.ntmps58
          go_wp2_with fail
          refine bodyPost_ret (v := .tuple #[.slice none 0 0, .int .i64 0, .bool false]) (by simp [results, Try.results58, go_sem, *]) rfl (retO_none HV.out b0)
        · have h4z : ¬ (5000 : Int) < (rs.length : Int) := by omega
          have HCM := hid (HCM.out (by omega))
          have HCO := hid (HCO.out (by omega))
          have hlo : lo.length ≤ 1000 := by omega
          cases hok : okMl lo with
          | false =>
            have HV := hid (HCM.out hok)
            rw [hok] at HAB
            simp only [Bool.not_false] at HAB
            clear HCB HCM HCO hok
            go_enter Try.func58, Try.ntmps58
            go_wp2_with fail
            refine HAB.out.mono ?_
            rintro e w1 ⟨rfl, b1⟩
            go_wp2_with fail
            refine bodyPost_ret (v := .tuple #[.slice none 0 0, .int .i64 0, .bool false]) (by simp [results, Try.results58, go_sem, *]) rfl (retO_none HV.out (bT b0 b1))
          | true =>
            have HR := hid (HCO.out hok)
            rw [hok] at HAB
            simp only [Bool.not_true] at HAB
            have B0 := hid b0
            clear HCB HCM HCO hok
            go_enter Try.func58, Try.ntmps58
            go_wp2_with fail
            refine HAB.out.mono ?_
            rintro e w1 ⟨rfl, b1⟩
            have q1 : w1.cell? ⟨w.heap.size, 1, none⟩ = some (.slice A lo.length c) := keepb b1 (by go_simp)
            have q2 : w1.cell? ⟨w.heap.size, 2, none⟩ = some (.slice B rs.length d) := keepb b1 (by go_simp)
            have B1 := hid (bT B0.out b1)
            clear b0 b1
            go_wp2_with fail
            go_loopw [5, 6, 42] (fun a s i wr => OpnRel R rs w1 a s i wr) (fun _ _ i _ => rs.length - (intOf i).toNat)
            case atStart => exact ⟨0, lo.length, 0, none, 0, [], Nat.zero_le _, rfl, rfl, rfl, by omega, rfl, hid (by rw [List.drop_zero]; exact HR.out), hid rfl, hid rfl, hid OwnGrid.nil, Below.refl _ _⟩
            case round =>
              clear HR
              obtain ⟨k, n, M, A2, c2, us, hk, rfl, rfl, rfl, hn5, rfl, HRK, HUL, HUR, HOWN, hbel⟩ := hrel
              have hb0 := bT B1.out hbel
              have hsz := hbel.size
              by_cases hlt : M < rs.length
              · have hkz : (M : Int) < (rs.length : Int) := by omega
                obtain ⟨x, hxk⟩ : ∃ x, rs[M]? = some x := ⟨_, List.getElem?_eq_getElem hlt⟩
                have hxm := List.mem_of_getElem? hxk
                obtain ⟨x1, x2, x3⟩ := hx x hxm
                obtain ⟨b', off, rfl, hb', cv⟩ := ml_cell (hg.1.below hb0) rfl hxk
                have HU := hid (unpack_walk x.l wr x.A x.l.length x.c (rdb (Grid.data hg hxm) (by decide) hb0) rfl x1 x3 x2)
                have hdr : rs.drop M = x :: rs.drop (M + 1) := (List.drop_eq_getElem_cons hlt).trans (by rw [List.getElem?_eq_getElem hlt] at hxk; injection hxk with hxk; rw [hxk])
                have HKB := hid (fun h => manyGo_bad (r := x) (rs := rs.drop (M + 1)) (n := n) h)
                have HKO := hid (fun h => manyGo_ok (r := x) (rs := rs.drop (M + 1)) (n := n) h)
                have HRX : Hid (R = manyGo (x :: rs.drop (M + 1)) n) := hid (by rw [← hdr]; exact HRK.out)
                have HXN := hid (take_nextV hxk)
                obtain ⟨xA, xc, xl⟩ := x
                simp only at cv HU HKB HKO x1 x2 x3
                unfold RetU at HU
                clear hxk hxm hdr HRK x1 x2
                go_wp2_with fail
                refine HU.out.mono ?_
                rintro e w2 ⟨Au, cu, l, ok, rfl, hy, hnn, hl5, ou, bu⟩
                have hwn : IntKind.i64.wrap ((n : Int) + (l.length : Int)) = (n : Int) + (l.length : Int) := IntWalk.i64_in _ (by omega)
                cases ok with
                | false =>
                  have HV := hid (HRX.out.trans (HKB.out (.inl (hnn rfl))))
                  clear HKB HKO hy hnn ou
                  go_wp2_with fail
                  refine bodyPost_ret (v := .tuple #[.slice none 0 0, .int .i64 0, .bool false]) (by simp [results, Try.results58, go_sem, *]) rfl (retO_none HV.out (bT hb0 bu))
                | true =>
                  obtain ⟨e1, e2⟩ := hy rfl
                  have HE1 := hid e1
                  by_cases hmany : 5000 < n + l.length
                  · have HV := hid (HRX.out.trans (HKB.out (.inr (by rw [← HE1.out]; exact hmany))))
                    have hmz : (5000 : Int) < (n : Int) + (l.length : Int) := by omega
                    clear HKB HKO hy hnn ou e1 e2
                    go_wp2_with fail
                    refine bodyPost_ret (v := .tuple #[.slice none 0 0, .int .i64 0, .bool false]) (by simp [results, Try.results58, go_sem, *]) rfl (retO_none HV.out (bT hb0 bu))
                  · have HV : Hid (R = manyGo (rs.drop (M + 1)) (n + l.length)) := hid (by
                      rw [HRX.out, HKO.out (fun h => by
                        rcases h with h | h
                        · exact e2 h
                        · rw [← HE1.out] at h; omega), ← HE1.out])
                    have hmz : ¬ (5000 : Int) < (n : Int) + (l.length : Int) := by omega
                    have hSZ : (M + 1) * 24 ≤ 140737488355328 := by omega
                    have HBU := hid bu
                    have hz2 := bu.size
                    have HOU := hid (own_more (base' := w1.heap.size) ou hsz)
                    have HAS : Hid (Aside id A2 c2 us (id (⟨Au, cu, l⟩ : ML Mail))) := hid (OwnGrid.aside HOWN.out (base' := wr.heap.size) ou (Nat.le_refl _))
                    have HG1 := hid (HOWN.out.below bu (Nat.le_refl _))
                    have HRN : Hid (rowsOf (us ++ [(⟨Au, cu, l⟩ : ML Mail)]) = (rs.take (M + 1)).map (fun x => runV x.l)) := hid (by rw [HXN.out]; unfold rowsOf at *; rw [List.map_append, List.map_append, HUR.out]; show _ ++ [l] = _ ++ [runV xl]; rw [HE1.out])
                    clear HKB HKO hy hnn ou e1 e2 bu
                    go_wp2_with (at_builtin; refine wp_grid (cells := Mail.cells) (inner := id) (sz := 2) _ rfl rfl el_grid_mail rfl HUL.out.symm (HG1.out.alloc _) (⟨Au, cu, l⟩ : ML Mail) (own_below HOU.out (bA (Below.refl _ _) _) (Nat.le_refl _)) HAS.out rfl (rd_new _ _ _ 1 1 rfl) (one_rowV _) hSZ (by simp; omega) ?_; intro A5 c5 w5 o5 b5 g5)
                    have HO5 := hid o5
                    have HB5 := hid ((bT hbel HBU.out).trans ((bA (Below.refl w2.heap.size w2) _ |>.mono (by omega)).trans b5))
                    clear o5 b5 g5
                    go_wp2_with fail
                    go_roundw
                    case rel => exact ⟨M + 1, n + l.length, M + 1, A5, c5, us ++ [⟨Au, cu, l⟩], by omega, by go_num, by go_num, rfl, by omega, rfl, HV, hid (by rw [List.length_append, HUL.out]; rfl), HRN, HO5, HB5.out⟩
                    case measure => (simp [intOf]) <;> omega
              · obtain rfl : M = rs.length := by omega
                have hkz : ¬ (rs.length : Int) < (rs.length : Int) := by omega
                have HV : Hid (R = some n) := hid (by rw [HRK.out, List.drop_length]; rfl)
                go_wp2_with fail
                refine bodyPost_ret (v := .tuple #[.slice A2 rs.length c2, .int .i64 (n : Nat), .bool true]) (by simp [results, Try.results58, go_sem, *]) rfl ?_
                exact ⟨⟨A2, rs.length, c2, n, true, rfl, (fun h => by rw [HV.out] at h; cases h), (fun k hk => by rw [HV.out] at hk; injection hk with hk; exact ⟨rfl, hk⟩), (fun _ => ⟨us, HUL.out, by have h := HUR.out; rwa [List.take_length] at h, HOWN.out.less (B1.out.size)⟩)⟩, hb0⟩
end Go.Proofs.Ytifpngjipkmdcaa
