/- RunP, RunR, RunU: joined. -/
import Derived.Test.YtifpngjipkmdcaaSmallR
import Derived.Test.YtifpngjipkmdcaaCka
import Derived.Test.YtifpngjipkmdcaaUngapR
/- A run of mail out of its bytes: what it answers. -/
namespace Go.Proofs.Ytifpngjipkmdcaa
open Go.ChangeShapes Go.WideShapes Go.ChangeAt Go.RowKit
set_option linter.unusedVariables false
set_option linter.unusedSimpArgs false
/-- The values behind the ends, one by one. -/
def runBad (b : List Int) (v : Int) (n : Nat) : Bool := takeBad (b.drop n) false 4398046511104 || decide (200 ≤ v)
def runGo (b : List Int) : List Int → Nat → Option (List Mail × Nat)
  | [], n => some ([], n)
  | v :: to, n => if runBad b v n then none else
    match runGo b to (n + (getv (b.drop n)).2.1.toNat) with
    | none => none
    | some r => some (⟨v, (getv (b.drop n)).1⟩ :: r.1, r.2)
def runK (b : List Int) (to : List Int) (n : Nat) (acc : List Mail) : Option (List Mail × Nat) := (runGo b to n).map fun r => (acc ++ r.1, r.2)
theorem runK_nil (b : List Int) (n : Nat) (acc : List Mail) : runK b [] n acc = some (acc, n) := by simp [runK, runGo]
theorem runK_start (b to : List Int) (n : Nat) : runGo b to n = runK b to n [] := by
  unfold runK
  cases runGo b to n with
  | none => rfl
  | some r => rfl
theorem runK_bad {b : List Int} {v : Int} {to : List Int} {n : Nat} {acc : List Mail} (h : runBad b v n = true) : runK b (v :: to) n acc = none := by
  unfold runK; rw [runGo, if_pos h]; rfl
theorem runK_step {b : List Int} {v r : Int} {k : Nat} {to : List Int} {n : Nat} {acc : List Mail} (h : runBad b v n = false) (h1 : (getv (b.drop n)).1 = r) (h2 : (getv (b.drop n)).2.1 = (k : Int)) : runK b (v :: to) n acc = runK b to (n + k) (acc ++ [⟨v, r⟩]) := by
  unfold runK
  rw [runGo, if_neg (by rw [h]; decide), h1, h2, Int.toNat_natCast]
  cases runGo b to (n + k) with
  | none => rfl
  | some r => simp
/-- The run; none where there is none. -/
noncomputable def runV (b : List Int) : List Mail :=
  if (ungV b).2.2 ≠ 0 ∨ 1000 < (ungV b).1.length then [] else
  match runGo b (ungV b).1 (ungV b).2.1.toNat with
  | none => []
  | some r => if r.2 = b.length ∧ ordB r.1 = true then r.1 else []
theorem runV_err {b : List Int} (h : (ungV b).2.2 ≠ 0 ∨ 1000 < (ungV b).1.length) : runV b = [] := by unfold runV; rw [if_pos h]
theorem runV_none {b : List Int} (h : ¬ ((ungV b).2.2 ≠ 0 ∨ 1000 < (ungV b).1.length)) (h2 : runGo b (ungV b).1 (ungV b).2.1.toNat = none) : runV b = [] := by unfold runV; rw [if_neg h, h2]
theorem runV_some {b : List Int} (h : ¬ ((ungV b).2.2 ≠ 0 ∨ 1000 < (ungV b).1.length)) {l : List Mail} {m : Nat} (h2 : runGo b (ungV b).1 (ungV b).2.1.toNat = some (l, m)) : runV b = if m = b.length ∧ ordB l = true then l else [] := by unfold runV; rw [if_neg h, h2]
theorem runGo_len (b : List Int) : ∀ (to : List Int) (n : Nat) (l : List Mail) (m : Nat), runGo b to n = some (l, m) → l.length = to.length
  | [], n, l, m, h => by simp only [runGo, Option.some.injEq, Prod.mk.injEq] at h; rw [← h.1]; rfl
  | v :: to, n, l, m, h => by
    rw [runGo] at h
    split at h
    · cases h
    · split at h
      · cases h
      · rename_i r hr
        simp only [Option.some.injEq, Prod.mk.injEq] at h
        rw [← h.1, List.length_cons, List.length_cons, runGo_len b to _ r.1 r.2 hr]
theorem runV_len (b : List Int) : (runV b).length ≤ 1000 := by
  by_cases h : (ungV b).2.2 ≠ 0 ∨ 1000 < (ungV b).1.length
  · rw [runV_err h]; exact Nat.zero_le _
  · cases h2 : runGo b (ungV b).1 (ungV b).2.1.toNat with
    | none => rw [runV_none h h2]; exact Nat.zero_le _
    | some r =>
      rw [runV_some h (l := r.1) (m := r.2) h2]
      have := runGo_len b _ _ r.1 r.2 h2
      split
      · omega
      · exact Nat.zero_le _
/-- A number that is small, told of the two kinds of bound. -/
theorem runBad_or {b : List Int} {v : Int} {n : Nat} : runBad b v n = true ↔ takeBad (b.drop n) false 4398046511104 = true ∨ 200 ≤ v := by
  unfold runBad; rw [Bool.or_eq_true, decide_eq_true_eq]
end Go.Proofs.Ytifpngjipkmdcaa

/- The document's RunOf. -/
namespace Go.Proofs.Ytifpngjipkmdcaa
open Go.ChangeShapes Go.WideShapes Go.ChangeAt Go.RowKit
set_option linter.unusedVariables false
set_option linter.unusedSimpArgs false
def RunRel (b to : List Int) (R : Option (List Mail × Nat)) (W : World) (a s i : Value) (wr : World) : Prop :=
  ∃ (k n : Nat) (acc : List Mail) (A : Option Addr) (c : Nat), k ≤ to.length ∧ i = .int .i64 (k : Nat) ∧ a = .int .i64 (n : Nat) ∧ s = .slice A acc.length c ∧ n ≤ b.length ∧ Hid (acc.length = k) ∧ Hid (R = runK b (to.drop k) n acc) ∧ Hid (wr.ownsRow W.heap.size 62 2 (.slice A acc.length c) acc.length (acc.flatMap Mail.cells)) ∧ Below W.heap.size W wr
theorem two_intsR (a b : Int) : ∀ u ∈ (#[Value.int .i64 a, Value.int .i64 b] : Array Value).toList, u.oneCell' = true := by
  intro u hu; simp at hu; rcases hu with rfl | rfl <;> rfl
set_option maxRecDepth 100000 in
set_option maxHeartbeats 8000000 in
theorem runOf_walk (b : List Int) (w : World) (A : Option Addr) (L c : Nat) (hr : Rd w w.heap.size A 1 L (b.flatMap u8c)) (hL : b.length = L) (hb : ∀ x ∈ b, 0 ≤ x ∧ x ≤ 255) (hn : L ≤ 140737488355328) (hcap : L ≤ c) :
    Calls Try.prog 96 #[.slice A L c] w (RetS 62 2 w (runV b).length ((runV b).flatMap Mail.cells)) := by
  have HUN := hid (ungapped_walk b w A L c hr hL hb hn hcap)
  have hok := ungV_ok b hb
  have HE := hid (runV_err (b := b))
  have HN := hid (runV_none (b := b))
  have HS := hid (fun l m => runV_some (b := b) (l := l) (m := m))
  have HBB := hid hb
  have HSMc := hid (fun (W : World) (n : Nat) (h : Rd W W.heap.size A 1 L (b.flatMap u8c)) (h2 : n ≤ L) => small_walk2 b n 4398046511104 W A L c h hL hb hcap h2 (by omega) (by decide) (by decide))
  generalize ungV b = z at *
  obtain ⟨to, at', e⟩ := z
  obtain ⟨h1, h2, h3, h4, h5, h6⟩ := hok
  simp only at h1 h2 h3 h4 h5 h6 HUN HE HN HS
  obtain ⟨n0, rfl⟩ := Int.eq_ofNat_of_zero_le h3
  rw [Int.toNat_natCast] at HN HS
  have hret0 : ∀ w', Below w.heap.size w w' → runV b = [] → RetS 62 2 w (runV b).length ((runV b).flatMap Mail.cells) (.returned (.slice none 0 0)) w' := fun w' hb he => by
    rw [he]; exact ⟨none, 0, rfl, World.ownsRow_nil _ _ _ _, hb⟩
  have HR0 := hid hret0
  clear hret0
  by_cases he : e = 0
  · subst he
    by_cases hbig : 1000 < to.length
    · have HV := hid (HE.out (.inr hbig))
      have hbz : (1000 : Int) < (to.length : Int) := by omega
      clear HE HN HS
      go_enter Try.func96, Try.ntmps96
      go_wp2_with fail
      refine HUN.out.mono ?_
      rintro e w1 ⟨A1, k1, rfl, o1, b1⟩
      go_wp2_with fail
      go_ret
      exact HR0.out _ b1 HV.out
    · have hbz : ¬ (1000 : Int) < (to.length : Int) := by omega
      have HN := hid (HN.out (by simp; omega))
      have HS := hid (fun l m => HS.out l m (by simp; omega))
      have HTO := hid h1
      obtain ⟨R, hR⟩ : ∃ R, runGo b to n0 = R := ⟨_, rfl⟩
      rw [hR] at HN HS
      have HRK : Hid (R = runK b (to.drop 0) n0 []) := hid (by rw [List.drop_zero, ← runK_start, hR])
      clear HE h1 hR hb
      go_enter Try.func96, Try.ntmps96
      go_wp2_with fail
      refine HUN.out.mono ?_
      rintro e w1 ⟨A1, k1, rfl, o1, b1⟩
      have HRT := hid (rd_own o1)
      have B1 := hid b1
      clear o1 b1
      go_wp2_with fail
      go_loopw [4, 6, 7] (fun a s i wr => RunRel b to R w1 a s i wr) (fun _ _ i _ => to.length - (intOf i).toNat)
      case atStart => exact ⟨0, n0, [], none, 0, Nat.zero_le _, rfl, rfl, rfl, by omega, hid rfl, HRK, hid (World.ownsRow_nil _ _ _ _), Below.refl _ _⟩
      case round =>
        clear HRK
        obtain ⟨k, n, acc, A2, c2, hk, rfl, rfl, rfl, hnl, HAL, HRK, HOWN, hbel⟩ := hrel
        have hb0 := bT B1.out hbel
        have hsz := hbel.size
        by_cases hlt : k < to.length
        · have hkz : (k : Int) < (to.length : Int) := by omega
          obtain ⟨v, hv⟩ : ∃ v, to[k]? = some v := ⟨_, List.getElem?_eq_getElem hlt⟩
          have hv0 := HTO.out v (List.mem_of_getElem? hv)
          obtain ⟨b', off, rfl, hb', hcs⟩ := (HRT.out.below hbel).at_ hlt
          have cv := hcs _ _ (flat_i64_get hv)
          have hdr : to.drop k = v :: to.drop (k + 1) := (List.drop_eq_getElem_cons hlt).trans (by rw [List.getElem?_eq_getElem hlt] at hv; injection hv with hv; rw [hv])
          have HC := hid (HSMc.out wr n (rdb hr (by decide) hb0) (by omega))
          have hSZ : (acc.length + 1) * 16 ≤ 140737488355328 := by have := HAL.out; omega
          rcases small_cases HBB.out (n := n) hnl 4398046511104 with ⟨hb1, hs1⟩ | ⟨r, k2, hb1, hs1, ht, hr0, hr1, hk1, hkl, he1, hkp⟩
          · have HV := hid (HN.out (by rw [HRK.out, hdr, runK_bad (runBad_or.2 (.inl hb1))]))
            rw [hs1] at HC
            clear hs1 hb1 hdr hcs hv
            go_wp2_with fail
            refine HC.out.mono ?_
            rintro e w2 ⟨rfl, rfl⟩
            go_wp2_with fail
            go_ret
            exact HR0.out _ hb0 HV.out
          · rw [hs1] at HC
            have hnn : ¬ ((n + k2 : Nat) : Int) < 0 := by omega
            have hnn2 : ¬ ((n : Int) + (k2 : Int)) < 0 := by omega
            by_cases hv2 : 200 ≤ v
            · have HV := hid (HN.out (by rw [HRK.out, hdr, runK_bad (runBad_or.2 (.inr hv2))]))
              clear hs1 hb1 hdr hcs hv ht he1 hkp
              go_wp2_with fail
              refine HC.out.mono ?_
              rintro e w2 ⟨rfl, rfl⟩
              go_wp2_with fail
              go_ret
              exact HR0.out _ hb0 HV.out
            · have hbad : runBad b v n = false := by
                cases h : runBad b v n with
                | false => rfl
                | true => rcases runBad_or.1 h with h | h
                          · rw [hb1] at h; cases h
                          · exact absurd h hv2
              have HST : Hid (R = runK b (to.drop (k + 1)) (n + k2) (acc ++ [⟨v, r⟩])) := hid (by
                rw [smallV_ok hb1] at hs1
                injection hs1 with e1 e2
                rw [HRK.out, hdr, runK_step hbad e1 (k := k2) (by omega)])
              clear hs1 hb1 hdr hcs hv ht he1 hkp hbad HRK
              go_wp2_with fail
              refine HC.out.mono ?_
              rintro e w2 ⟨rfl, rfl⟩
              go_wp2_with (at_builtin; refine wp_app3 _ rfl rfl el_mails rfl (own_below HOWN.out (bA (Below.refl _ _) _) (Nat.le_refl _)) rfl (rd_new _ _ _ 2 1 rfl) (two_intsR _ _) hSZ (Nat.le_trans hsz (by simp)) ?_; intro A5 c5 w5 o5 b5 g5 h5)
              have HO5 := hid o5
              have HB5 := hid ((hbel.trans (bA (Below.refl wr.heap.size wr) _ |>.mono hsz)).trans b5)
              clear o5 b5 g5 h5
              go_wp2_with fail
              go_roundw
              case rel => exact ⟨k + 1, n + k2, acc ++ [⟨v, r⟩], A5, c5, by omega, by go_num, by go_num, by rw [List.length_append]; rfl, hkl, hid (by rw [List.length_append, HAL.out]; rfl), HST, hid (by rw [List.length_append, List.flatMap_append]; exact HO5.out), HB5.out⟩
              case measure => (simp [intOf]) <;> omega
        · obtain rfl : k = to.length := by omega
          have hkz : ¬ (to.length : Int) < (to.length : Int) := by omega
          have HE2 : Hid (R = some (acc, n)) := hid (by rw [HRK.out, List.drop_length, runK_nil])
          have HV := hid (HS.out acc n HE2.out)
          have HOR := hid (isOrdered_walk acc wr A2 c2 (rd_own HOWN.out) (by have := HAL.out; omega))
          clear HRK HE2 HS HN
          by_cases hnL : n = L
          · subst hnL
            cases ho : ordB acc with
            | true =>
              rw [ho] at HOR
              have HV2 : Hid (runV b = acc) := hid (by rw [HV.out, if_pos ⟨hL.symm, ho⟩])
              clear ho HV
              go_wp2_with fail
              refine HOR.out.mono ?_
              rintro e w2 ⟨rfl, b2⟩
              go_wp2_with fail
              go_ret
              rw [HV2.out]
              exact ⟨A2, c2, rfl, own_more (own_below HOWN.out b2 (Nat.le_refl _)) B1.out.size, bT hb0 b2⟩
            | false =>
              rw [ho] at HOR
              have HV2 : Hid (runV b = []) := hid (by rw [HV.out, if_neg (fun h => by rw [ho] at h; cases h.2)])
              clear ho HV
              go_wp2_with fail
              refine HOR.out.mono ?_
              rintro e w2 ⟨rfl, b2⟩
              go_wp2_with fail
              go_ret
              exact HR0.out _ (bT hb0 b2) HV2.out
          · have hnb : ((n : Int) != (L : Int)) = true := by simp; omega
            have HV2 : Hid (runV b = []) := hid (by rw [HV.out, if_neg (fun h => hnL (by rw [h.1, hL]))])
            clear HV hnL
            go_wp2_with fail
            go_ret
            exact HR0.out _ hb0 HV2.out
  · have HV := hid (HE.out (.inl he))
    have heb : (e != 0) = true := by simpa using he
    clear HE HN HS he
    go_enter Try.func96, Try.ntmps96
    go_wp2_with fail
    refine HUN.out.mono ?_
    rintro e w1 ⟨A1, k1, rfl, o1, b1⟩
    go_wp2_with fail
    go_ret
    exact HR0.out _ b1 HV.out
end Go.Proofs.Ytifpngjipkmdcaa

/- queue.unpack. -/
namespace Go.Proofs.Ytifpngjipkmdcaa
open Go.ChangeShapes Go.WideShapes Go.ChangeAt Go.RowKit
set_option linter.unusedVariables false
set_option linter.unusedSimpArgs false
theorem mailQ_walk (x : Mail) (w : World) : Calls Try.prog 70 #[.agg #[.int .i64 x.to, .int .i64 x.val]] w fun e w' => e = .returned (.bool (mlB x)) ∧ Below w.heap.size w w' := by
  have HY := hid (mlB_yes (m := x))
  have HN := hid (mlB_no (m := x))
  obtain ⟨xt, xv⟩ := x
  unfold mlOk at HY HN
  simp only at *
  generalize mlB ⟨xt, xv⟩ = F at *
  by_cases h1 : 0 ≤ xt
  · by_cases h2 : xt < 200
    · by_cases h3 : 0 ≤ xv
      · by_cases h4 : xv ≤ 4398046511104
        · have HF := hid (HY.out ⟨⟨h1, by omega⟩, h3, h4⟩)
          clear HY HN
          go_enter Try.func70, Try.ntmps70
          go_wp2_with fail
          go_ret
          exact ⟨by rw [HF.out]; rfl, bA (Below.refl _ _) _⟩
        · have HF := hid (HN.out (by omega))
          clear HY HN
          go_enter Try.func70, Try.ntmps70
          go_wp2_with fail
          go_ret
          exact ⟨by rw [HF.out]; rfl, bA (Below.refl _ _) _⟩
      · have HF := hid (HN.out (by omega))
        clear HY HN
        go_enter Try.func70, Try.ntmps70
        go_wp2_with fail
        go_ret
        exact ⟨by rw [HF.out]; rfl, bA (Below.refl _ _) _⟩
    · have HF := hid (HN.out (by omega))
      clear HY HN
      go_enter Try.func70, Try.ntmps70
      go_wp2_with fail
      go_ret
      exact ⟨by rw [HF.out]; rfl, bA (Below.refl _ _) _⟩
  · have HF := hid (HN.out (by omega))
    clear HY HN
    go_enter Try.func70, Try.ntmps70
    go_wp2_with fail
    go_ret
    exact ⟨by rw [HF.out]; rfl, bA (Below.refl _ _) _⟩
def RunURel (b to : List Int) (R : Option (List Mail × Nat)) (W : World) (a s i : Value) (wr : World) : Prop :=
  ∃ (k n : Nat) (acc : List Mail) (A : Option Addr) (c : Nat), k ≤ to.length ∧ i = .int .i64 (k : Nat) ∧ a = .int .i64 (n : Nat) ∧ s = .slice A acc.length c ∧ n ≤ b.length ∧ Hid (acc.length = k) ∧ Hid (R = runK b (to.drop k) n acc) ∧ Hid (wr.ownsRow W.heap.size 62 2 (.slice A acc.length c) acc.length (acc.flatMap Mail.cells)) ∧ Below W.heap.size W wr
/-- What unpack hands back: where 'ok', the run. -/
def RetU (w : World) (b : List Int) (e : Ending) (w' : World) : Prop :=
  ∃ (A : Option Addr) (c : Nat) (l : List Mail) (ok : Bool), e = .returned (.tuple #[.slice A l.length c, .bool ok]) ∧ (ok = true → l = runV b ∧ runV b ≠ []) ∧ (ok = false → runV b = []) ∧ l.length ≤ 1000 ∧ w'.ownsRow w.heap.size 62 2 (.slice A l.length c) l.length (l.flatMap Mail.cells) ∧ Below w.heap.size w w'
theorem retU_nil {w w' : World} {b : List Int} (h : runV b = []) (hb : Below w.heap.size w w') : RetU w b (.returned (.tuple #[.slice none 0 0, .bool false])) w' :=
  ⟨none, 0, [], false, rfl, (fun h => by cases h), (fun _ => h), Nat.zero_le _, World.ownsRow_nil _ _ _ _, hb⟩
theorem two_intsU (a b : Int) : ∀ u ∈ (#[Value.int .i64 a, Value.int .i64 b] : Array Value).toList, u.oneCell' = true := by
  intro u hu; simp at hu; rcases hu with rfl | rfl <;> rfl
set_option maxRecDepth 100000 in
set_option maxHeartbeats 8000000 in
theorem unpack_walk (b : List Int) (w : World) (A : Option Addr) (L c : Nat) (hr : Rd w w.heap.size A 1 L (b.flatMap u8c)) (hL : b.length = L) (hb : ∀ x ∈ b, 0 ≤ x ∧ x ≤ 255) (hn : L ≤ 140737488355328) (hcap : L ≤ c) :
    Calls Try.prog 95 #[.slice A L c] w (RetU w b) := by
  have HUN := hid (ungap_walk b w A L c hr hL hb hn hcap)
  have hok := ungV_ok b hb
  have HE := hid (runV_err (b := b))
  have HN := hid (runV_none (b := b))
  have HS := hid (fun l m => runV_some (b := b) (l := l) (m := m))
  have HBB := hid hb
  have HCUT := hid (fun (W : World) (n : Nat) (h : Rd W W.heap.size A 1 L (b.flatMap u8c)) (hn : n ≤ L) => (by
    have h := h.cut (k := n) (cap := c) hn hcap
    rw [drop_flat (cells := u8c) (sz := 1) (fun _ => rfl)] at h
    rwa [Nat.mul_one] at h : Rd W W.heap.size (if c = n then A else A.map (·.add n)) 1 (L - n) ((b.drop n).flatMap u8c)))
  generalize ungV b = z at *
  obtain ⟨to, at', e⟩ := z
  obtain ⟨h1, h2, h3, h4, h5, h6⟩ := hok
  simp only at h1 h2 h3 h4 h5 h6 HUN HE HN HS
  obtain ⟨n0, rfl⟩ := Int.eq_ofNat_of_zero_le h3
  rw [Int.toNat_natCast] at HN HS
  by_cases he : e = 0
  · subst he
    by_cases hbig : 1000 < to.length
    · have HV := hid (HE.out (.inr hbig))
      have hbz : (1000 : Int) < (to.length : Int) := by omega
      have hez : ((to.length : Int) == 0) = false := by rw [beq_eq_false_iff_ne]; omega
      clear HE HN HS
      go_enter Try.func95, Try.ntmps95
      go_wp2_with fail
      refine HUN.out.mono ?_
      rintro e w1 ⟨A1, k1, rfl, o1, b1⟩
      go_wp2_with fail
      go_ret2
      exact retU_nil HV.out b1
    · have hbz : ¬ (1000 : Int) < (to.length : Int) := by omega
      have HN := hid (HN.out (by simp; omega))
      have HS := hid (fun l m => HS.out l m (by simp; omega))
      by_cases hz0 : to.length = 0
      · have hto : to = [] := List.eq_nil_of_length_eq_zero hz0
        subst hto
        have HV : Hid (runV b = []) := hid (by rw [HS.out [] n0 rfl]; split <;> rfl)
        simp only [List.length_nil, List.flatMap_nil] at HUN
        clear HE HN HS hz0 hbz hbig
        go_enter Try.func95, Try.ntmps95
        go_wp2_with fail
        refine HUN.out.mono ?_
        rintro e w1 ⟨A1, k1, rfl, o1, b1⟩
        go_wp2_with fail
        go_ret2
        exact retU_nil HV.out b1
      · have hez : ((to.length : Int) == 0) = false := by rw [beq_eq_false_iff_ne]; omega
        have HTO := hid h1
        obtain ⟨R, hR⟩ : ∃ R, runGo b to n0 = R := ⟨_, rfl⟩
        rw [hR] at HN HS
        have HRK : Hid (R = runK b (to.drop 0) n0 []) := hid (by rw [List.drop_zero, ← runK_start, hR])
        clear HE h1 hR hb
        go_enter Try.func95, Try.ntmps95
        go_wp2_with fail
        refine HUN.out.mono ?_
        rintro e w1 ⟨A1, k1, rfl, o1, b1⟩
        have HRT := hid (rd_own o1)
        have B1 := hid b1
        clear o1 b1
        go_wp2_with fail
        go_loopw [5, 7, 36] (fun a s i wr => RunURel b to R w1 a s i wr) (fun _ _ i _ => to.length - (intOf i).toNat)
        case atStart => exact ⟨0, n0, [], none, 0, Nat.zero_le _, rfl, rfl, rfl, by omega, hid rfl, HRK, hid (World.ownsRow_nil _ _ _ _), Below.refl _ _⟩
        case round =>
          clear HRK
          obtain ⟨k, n, acc, A2, c2, hk, rfl, rfl, rfl, hnl, HAL, HRK, HOWN, hbel⟩ := hrel
          have hb0 := bT B1.out hbel
          have hsz := hbel.size
          by_cases hlt : k < to.length
          · have hkz : (k : Int) < (to.length : Int) := by omega
            obtain ⟨v, hv⟩ : ∃ v, to[k]? = some v := ⟨_, List.getElem?_eq_getElem hlt⟩
            have hv0 := HTO.out v (List.mem_of_getElem? hv)
            obtain ⟨b', off, rfl, hb', hcs⟩ := (HRT.out.below hbel).at_ hlt
            have cv := hcs _ _ (flat_i64_get hv)
            have hdr : to.drop k = v :: to.drop (k + 1) := (List.drop_eq_getElem_cons hlt).trans (by rw [List.getElem?_eq_getElem hlt] at hv; injection hv with hv; rw [hv])
            have hSZ : (acc.length + 1) * 16 ≤ 140737488355328 := by have := HAL.out; omega
            have hnL : n ≤ L := by omega
            have hnLz : (n : Int) ≤ (L : Int) := by omega
            have hncz : (n : Int) ≤ (c : Int) := by omega
            have hLcz : (L : Int) ≤ (c : Int) := by omega
            have hns : ¬ ((n : Int) < 0) := by omega
            have hd : ∀ x ∈ b.drop n, 0 ≤ x ∧ x ≤ 255 := fun x hx => HBB.out x (List.mem_of_mem_drop hx)
            have hget0 := get_any (b.drop n) wr (if c = n then A else A.map (·.add n)) (L - n) (c - n) (HCUT.out wr n (rdb hr (by decide) hb0) hnL) hd (by omega)
            unfold tri at hget0
            have hg := getv_ok (b.drop n) hd
            have hdl : (b.drop n).length = L - n := by rw [List.length_drop, hL]
            rw [hdl] at hg
            have HBD := hid (show runBad b v n = (false || (getv (b.drop n)).2.2 != 0 || decide (4398046511104 < (getv (b.drop n)).1) || decide (200 ≤ v)) from rfl)
            have HST0 := hid (fun (h : runBad b v n = false) (k2 : Nat) (h2 : (getv (b.drop n)).2.1 = (k2 : Int)) => runK_step (to := to.drop (k + 1)) (acc := acc) h rfl h2)
            have HKB := hid (fun (h : runBad b v n = true) => runK_bad (to := to.drop (k + 1)) (acc := acc) h)
            have HNL := hid (show c = n → (getv (b.drop n)).2.2 ≠ 0 from fun h => by
              have : b.drop n = [] := List.drop_of_length_le (by omega)
              rw [this]; decide)
            generalize getv (b.drop n) = g at *
            obtain ⟨r, k2, e⟩ := g
            simp only at hget0 hg HBD HST0 HKB HNL
            by_cases hcn : c = n
            · have he := HNL.out hcn
              have heb : (e != 0) = true := by simpa using he
              have HV := hid (HN.out (by rw [HRK.out, hdr, HKB.out (by rw [HBD.out, heb]; simp)]))
              subst hcn
              obtain rfl : L = c := by omega
              rw [if_pos rfl, Nat.sub_self] at hget0
              have hget := hid hget0
              clear hget0 hg HBD HST0 HKB HNL hdr hcs hv he HS HN HCUT
              go_wp2_with fail
              refine hget.out.mono ?_
              rintro e w2 ⟨rfl, rfl⟩
              go_wp2_with fail
              go_ret2
              exact retU_nil HV.out (bA hb0 _)
            · rw [if_neg hcn] at hget0
              have hget := hid hget0
              clear hget0
              by_cases he : e = 0
              · subst he
                have hgk : 0 ≤ r ∧ r ≤ 18446744073709551615 ∧ 1 ≤ k2 ∧ k2 ≤ ((L - n : Nat) : Int) := by
                  rcases hg with ⟨g0, g1, g2, g3, g4⟩ | ⟨g0, _⟩ <;> simp only at * <;> omega
                obtain ⟨hr0, hr1, hk0, hk1⟩ := hgk
                obtain ⟨K, rfl⟩ := Int.eq_ofNat_of_zero_le (show 0 ≤ k2 by omega)
                obtain ⟨mn, hmn⟩ : ∃ m : Int, m = min r 4398046511105 := ⟨_, rfl⟩
                have hmn2 : min r 4398046511105 = mn := hmn.symm
                have hmb : 0 ≤ mn ∧ mn ≤ 4398046511105 := by omega
                have hmw : IntKind.i64.wrap mn = mn := IntWalk.i64_in _ (by omega)
                have HML := hid (mailQ_walk ⟨v, mn⟩)
                cases hbd : runBad b v n with
                | true =>
                  have HV := hid (HN.out (by rw [HRK.out, hdr, HKB.out hbd]))
                  have hmB : mlB ⟨v, mn⟩ = false := mlB_no fun h => by
                    obtain ⟨⟨_, g2⟩, _, g4⟩ := h
                    simp only at g2 g4
                    rw [hbd] at HBD
                    have := HBD.out
                    have h1 : decide (4398046511104 < r) = false := by simp; omega
                    have h2 : decide (200 ≤ v) = false := by simp; omega
                    rw [h1, h2] at this
                    simp at this
                  rw [hmB] at HML
                  simp only at HML
                  clear hg HBD HST0 HKB HNL hdr hcs hv HS HN HCUT hbd hmB hmb hmn hk0 hk1 hr0 hr1
                  go_wp2_with fail
                  refine hget.out.mono ?_
                  rintro e w2 ⟨rfl, rfl⟩
                  go_wp2_with fail
                  refine (HML.out _).mono ?_
                  rintro e w3 ⟨rfl, b3⟩
                  go_wp2_with fail
                  go_ret2
                  exact retU_nil HV.out (bT (bA hb0 _) b3)
                | false =>
                  rw [hbd] at HBD
                  have hB := HBD.out
                  have hrM : r ≤ 4398046511104 := by
                    refine Classical.byContradiction fun h => ?_
                    have h1 : decide (4398046511104 < r) = true := by simp; omega
                    rw [h1] at hB
                    simp at hB
                  have hvM : v < 200 := by
                    refine Classical.byContradiction fun h => ?_
                    have h1 : decide (200 ≤ v) = true := by simp; omega
                    rw [h1] at hB
                    simp at hB
                  have hmr : mn = r := by omega
                  subst hmr
                  have hmB : mlB ⟨v, mn⟩ = true := mlB_yes ⟨⟨hv0.1, by show v ≤ 199; omega⟩, hr0, hrM⟩
                  rw [hmB] at HML
                  simp only at HML
                  have HST : Hid (R = runK b (to.drop (k + 1)) (n + K) (acc ++ [⟨v, mn⟩])) := hid (by rw [HRK.out, hdr, HST0.out hbd K rfl])
                  have hnK : n + K ≤ b.length := by omega
                  have hwn : IntKind.i64.wrap ((n : Int) + (K : Int)) = (n : Int) + (K : Int) := IntWalk.i64_in _ (by omega)
                  clear hg HBD HST0 HKB HNL hdr hcs hv HS HN HCUT hbd hmB hmb hmn hk0 hk1 HRK hB
                  go_wp2_with fail
                  refine hget.out.mono ?_
                  rintro e w2 ⟨rfl, rfl⟩
                  go_wp2_with fail
                  refine (HML.out _).mono ?_
                  rintro e w3 ⟨rfl, b3⟩
                  have e0 := keepb b3 (show World.cell? _ ⟨wr.heap.size, 0, none⟩ = some (.int .i64 v) by go_simp)
                  have e1 := keepb b3 (show World.cell? _ ⟨wr.heap.size, 1, none⟩ = some (.int .i64 mn) by go_simp)
                  have HB3 := hid (bT (bA (Below.refl wr.heap.size wr) _) b3)
                  have hz3 : wr.heap.size < w3.heap.size := by have := b3.size; simp at this; omega
                  clear b3
                  go_wp2_with (at_builtin; refine wp_app3 _ rfl rfl el_mails rfl (own_below (own_below HOWN.out HB3.out (Nat.le_refl _)) (bA (Below.refl _ _) _) (Nat.le_refl _)) rfl (rd_new _ _ _ 2 1 rfl) (two_intsU _ _) hSZ (by simp; omega) ?_; intro A5 c5 w5 o5 b5 g5 h5)
                  have HO5 := hid o5
                  have HB5 := hid ((bT hbel HB3.out).trans ((bA (Below.refl w3.heap.size w3) _ |>.mono (by omega)).trans b5))
                  clear o5 b5 g5 h5
                  go_wp2_with fail
                  go_roundw
                  case rel => exact ⟨k + 1, n + K, acc ++ [⟨v, mn⟩], A5, c5, by omega, by go_num, by go_num, by rw [List.length_append]; rfl, hnK, hid (by rw [List.length_append, HAL.out]; rfl), HST, hid (by rw [List.length_append, List.flatMap_append]; exact HO5.out), HB5.out⟩
                  case measure => (simp [intOf]) <;> omega
              · have heb : (e != 0) = true := by simpa using he
                have HV := hid (HN.out (by rw [HRK.out, hdr, HKB.out (by rw [HBD.out, heb]; simp)]))
                clear hg HBD HST0 HKB HNL hdr hcs hv he HS HN HCUT
                go_wp2_with fail
                refine hget.out.mono ?_
                rintro e w2 ⟨rfl, rfl⟩
                go_wp2_with fail
                go_ret2
                exact retU_nil HV.out (bA hb0 _)
          · obtain rfl : k = to.length := by omega
            have hkz : ¬ (to.length : Int) < (to.length : Int) := by omega
            have HE2 : Hid (R = some (acc, n)) := hid (by rw [HRK.out, List.drop_length, runK_nil])
            have HV := hid (HS.out acc n HE2.out)
            have hal : acc.length ≤ 1000 := by have := HAL.out; omega
            have HNE : Hid (acc ≠ []) := hid (fun h => by have := HAL.out; rw [h] at this; simp at this; omega)
            have HSO := hid (sort_walk acc wr A2 c2 (rd_own HOWN.out) (by omega))
            have HOS := hid (ord_srt (l := acc) (by omega))
            clear HRK HE2 HS HN HCUT
            by_cases hnL : n = L
            · subst hnL
              have hnb : ((n : Int) == (n : Int)) = true := by simp
              go_wp2_with fail
              refine HSO.out.mono ?_
              rintro e w2 ⟨A6, c6, rfl, o6, b6⟩
              have HEQ := hid (eqM_walk (sortV acc).1 acc w2 A6 A2 _ _ c6 c2 (rd_own o6) (own_rdb HOWN.out (by decide) b6) rfl rfl (by have := sortV_len acc; omega) (by omega))
              rw [HOS.out] at HEQ
              have HO6 := hid (own_below HOWN.out b6 (Nat.le_refl _))
              have HB6 := hid (bT hb0 b6)
              clear o6 b6
              go_wp2_with fail
              refine HEQ.out.mono ?_
              rintro e w3 ⟨rfl, b3⟩
              go_wp2_with fail
              go_ret2
              refine ⟨A2, c2, acc, ordB acc, rfl, fun h => ?_, fun h => ?_, hal, own_more (own_below HO6.out b3 (Nat.le_refl _)) B1.out.size, bT HB6.out b3⟩
              · have e : runV b = acc := by rw [HV.out, if_pos ⟨hL.symm, h⟩]
                exact ⟨e.symm, by rw [e]; exact HNE.out⟩
              · rw [HV.out, if_neg (fun h2 => by rw [h] at h2; cases h2.2)]
            · have hnb : ((n : Int) == (L : Int)) = false := by rw [beq_eq_false_iff_ne]; omega
              have HV2 : Hid (runV b = []) := hid (by rw [HV.out, if_neg (fun h => hnL (by rw [h.1, hL]))])
              clear HV hnL
              go_wp2_with fail
              refine HSO.out.mono ?_
              rintro e w2 ⟨A6, c6, rfl, o6, b6⟩
              have HO6 := hid (own_below HOWN.out b6 (Nat.le_refl _))
              have HB6 := hid (bT hb0 b6)
              clear o6 b6
              go_wp2_with fail
              go_ret2
              exact ⟨A2, c2, acc, false, rfl, (fun h => by cases h), (fun _ => HV2.out), hal, own_more HO6.out B1.out.size, HB6.out⟩
  · have HV := hid (HE.out (.inl he))
    have heb : (e != 0) = true := by simpa using he
    clear HE HN HS he
    go_enter Try.func95, Try.ntmps95
    go_wp2_with fail
    refine HUN.out.mono ?_
    rintro e w1 ⟨A1, k1, rfl, o1, b1⟩
    go_wp2_with fail
    go_ret2
    exact retU_nil HV.out b1
end Go.Proofs.Ytifpngjipkmdcaa

