/- The document's RunOf. -/
import Derived.Test.YtifpngjipkmdcaaRunP
import Derived.Test.YtifpngjipkmdcaaUngapR
namespace Go.Proofs.Ytifpngjipkmdcaa
open Go.ChangeShapes Go.WideShapes Go.ChangeAt Go.RowKit
set_option linter.unusedVariables false
set_option linter.unusedSimpArgs false
def RunRel (b to : List Int) (R : Option (List Mail × Nat)) (W : World) (a s i : Value) (wr : World) : Prop :=
  ∃ (k n : Nat) (acc : List Mail) (A : Option Addr) (c : Nat), k ≤ to.length ∧ i = .int .i64 (k : Nat) ∧ a = .int .i64 (n : Nat) ∧ s = .slice A acc.length c ∧ n ≤ b.length ∧ Hid (acc.length = k) ∧ Hid (R = runK b (to.drop k) n acc) ∧ Hid (wr.ownsRow W.heap.size 62 2 (.slice A acc.length c) acc.length (acc.flatMap Mail.cells)) ∧ Below W.heap.size W wr
theorem two_intsR (a b : Int) : ∀ u ∈ (#[Value.int .i64 a, Value.int .i64 b] : Array Value).toList, u.oneCell' = true := by
  intro u hu; simp at hu; rcases hu with rfl | rfl <;> rfl
set_option maxRecDepth 100000 in
set_option maxHeartbeats 8000000 in
theorem runOf_walk (b : List Int) (w : World) (A : Option Addr) (L c : Nat) (hr : Rd w w.heap.size A 1 L (b.flatMap u8c)) (hL : b.length = L) (hb : ∀ x ∈ b, 0 ≤ x ∧ x ≤ 255) (hn : L ≤ 140737488355328) (hcap : L ≤ c) :
    Calls Try.prog 96 #[.slice A L c] w (RetS 62 2 w (runV b).length ((runV b).flatMap Mail.cells)) := by
  have HUN := hid (ungapped_walk b w A L c hr hL hb hn hcap)
  have hok := ungV_ok b hb
  have HE := hid (runV_err (b := b))
  have HN := hid (runV_none (b := b))
  have HS := hid (fun l m => runV_some (b := b) (l := l) (m := m))
  have HBB := hid hb
  have HSMc := hid (fun (W : World) (n : Nat) (h : Rd W W.heap.size A 1 L (b.flatMap u8c)) (h2 : n ≤ L) => small_walk2 b n 4398046511104 W A L c h hL hb hcap h2 (by omega) (by decide) (by decide))
  generalize ungV b = z at *
  obtain ⟨to, at', e⟩ := z
  obtain ⟨h1, h2, h3, h4, h5, h6⟩ := hok
  simp only at h1 h2 h3 h4 h5 h6 HUN HE HN HS
  obtain ⟨n0, rfl⟩ := Int.eq_ofNat_of_zero_le h3
  rw [Int.toNat_natCast] at HN HS
  have hret0 : ∀ w', Below w.heap.size w w' → runV b = [] → RetS 62 2 w (runV b).length ((runV b).flatMap Mail.cells) (.returned (.slice none 0 0)) w' := fun w' hb he => by
    rw [he]; exact ⟨none, 0, rfl, World.ownsRow_nil _ _ _ _, hb⟩
  have HR0 := hid hret0
  clear hret0
  by_cases he : e = 0
  · subst he
    by_cases hbig : 1000 < to.length
    · have HV := hid (HE.out (.inr hbig))
      have hbz : (1000 : Int) < (to.length : Int) := by omega
      clear HE HN HS
      go_enter Try.func96, Try.ntmps96
      go_wp2_with fail
      refine HUN.out.mono ?_
      rintro e w1 ⟨A1, k1, rfl, o1, b1⟩
      go_wp2_with fail
      go_ret
      exact HR0.out _ b1 HV.out
    · have hbz : ¬ (1000 : Int) < (to.length : Int) := by omega
      have HN := hid (HN.out (by simp; omega))
      have HS := hid (fun l m => HS.out l m (by simp; omega))
      have HTO := hid h1
      obtain ⟨R, hR⟩ : ∃ R, runGo b to n0 = R := ⟨_, rfl⟩
      rw [hR] at HN HS
      have HRK : Hid (R = runK b (to.drop 0) n0 []) := hid (by rw [List.drop_zero, ← runK_start, hR])
      clear HE h1 hR hb
      go_enter Try.func96, Try.ntmps96
      go_wp2_with fail
      refine HUN.out.mono ?_
      rintro e w1 ⟨A1, k1, rfl, o1, b1⟩
      have HRT := hid (rd_own o1)
      have B1 := hid b1
      clear o1 b1
      go_wp2_with fail
      go_loopw [4, 6, 7] (fun a s i wr => RunRel b to R w1 a s i wr) (fun _ _ i _ => to.length - (intOf i).toNat)
      case atStart => exact ⟨0, n0, [], none, 0, Nat.zero_le _, rfl, rfl, rfl, by omega, hid rfl, HRK, hid (World.ownsRow_nil _ _ _ _), Below.refl _ _⟩
      case round =>
        clear HRK
        obtain ⟨k, n, acc, A2, c2, hk, rfl, rfl, rfl, hnl, HAL, HRK, HOWN, hbel⟩ := hrel
        have hb0 := bT B1.out hbel
        have hsz := hbel.size
        by_cases hlt : k < to.length
        · have hkz : (k : Int) < (to.length : Int) := by omega
          obtain ⟨v, hv⟩ : ∃ v, to[k]? = some v := ⟨_, List.getElem?_eq_getElem hlt⟩
          have hv0 := HTO.out v (List.mem_of_getElem? hv)
          obtain ⟨b', off, rfl, hb', hcs⟩ := (HRT.out.below hbel).at_ hlt
          have cv := hcs _ _ (flat_i64_get hv)
          have hdr : to.drop k = v :: to.drop (k + 1) := (List.drop_eq_getElem_cons hlt).trans (by rw [List.getElem?_eq_getElem hlt] at hv; injection hv with hv; rw [hv])
          have HC := hid (HSMc.out wr n (rdb hr (by decide) hb0) (by omega))
          have hSZ : (acc.length + 1) * 16 ≤ 140737488355328 := by have := HAL.out; omega
          rcases small_cases HBB.out (n := n) hnl 4398046511104 with ⟨hb1, hs1⟩ | ⟨r, k2, hb1, hs1, ht, hr0, hr1, hk1, hkl, he1, hkp⟩
          · have HV := hid (HN.out (by rw [HRK.out, hdr, runK_bad (runBad_or.2 (.inl hb1))]))
            rw [hs1] at HC
            clear hs1 hb1 hdr hcs hv
            go_wp2_with fail
            refine HC.out.mono ?_
            rintro e w2 ⟨rfl, rfl⟩
            go_wp2_with fail
            go_ret
            exact HR0.out _ hb0 HV.out
          · rw [hs1] at HC
            have hnn : ¬ ((n + k2 : Nat) : Int) < 0 := by omega
            have hnn2 : ¬ ((n : Int) + (k2 : Int)) < 0 := by omega
            by_cases hv2 : 200 ≤ v
            · have HV := hid (HN.out (by rw [HRK.out, hdr, runK_bad (runBad_or.2 (.inr hv2))]))
              clear hs1 hb1 hdr hcs hv ht he1 hkp
              go_wp2_with fail
              refine HC.out.mono ?_
              rintro e w2 ⟨rfl, rfl⟩
              go_wp2_with fail
              go_ret
              exact HR0.out _ hb0 HV.out
            · have hbad : runBad b v n = false := by
                cases h : runBad b v n with
                | false => rfl
                | true => rcases runBad_or.1 h with h | h
                          · rw [hb1] at h; cases h
                          · exact absurd h hv2
              have HST : Hid (R = runK b (to.drop (k + 1)) (n + k2) (acc ++ [⟨v, r⟩])) := hid (by
                rw [smallV_ok hb1] at hs1
                injection hs1 with e1 e2
                rw [HRK.out, hdr, runK_step hbad e1 (k := k2) (by omega)])
              clear hs1 hb1 hdr hcs hv ht he1 hkp hbad HRK
              go_wp2_with fail
              refine HC.out.mono ?_
              rintro e w2 ⟨rfl, rfl⟩
              go_wp2_with (at_builtin; refine wp_app3 _ rfl rfl el_mails rfl (own_below HOWN.out (bA (Below.refl _ _) _) (Nat.le_refl _)) rfl (rd_new _ _ _ 2 1 rfl) (two_intsR _ _) hSZ (Nat.le_trans hsz (by simp)) ?_; intro A5 c5 w5 o5 b5 g5 h5)
              have HO5 := hid o5
              have HB5 := hid ((hbel.trans (bA (Below.refl wr.heap.size wr) _ |>.mono hsz)).trans b5)
              clear o5 b5 g5 h5
              go_wp2_with fail
              go_roundw
              case rel => exact ⟨k + 1, n + k2, acc ++ [⟨v, r⟩], A5, c5, by omega, by go_num, by go_num, by rw [List.length_append]; rfl, hkl, hid (by rw [List.length_append, HAL.out]; rfl), HST, hid (by rw [List.length_append, List.flatMap_append]; exact HO5.out), HB5.out⟩
              case measure => (simp [intOf]) <;> omega
        · obtain rfl : k = to.length := by omega
          have hkz : ¬ (to.length : Int) < (to.length : Int) := by omega
          have HE2 : Hid (R = some (acc, n)) := hid (by rw [HRK.out, List.drop_length, runK_nil])
          have HV := hid (HS.out acc n HE2.out)
          have HOR := hid (isOrdered_walk acc wr A2 c2 (rd_own HOWN.out) (by have := HAL.out; omega))
          clear HRK HE2 HS HN
          by_cases hnL : n = L
          · subst hnL
            cases ho : ordB acc with
            | true =>
              rw [ho] at HOR
              have HV2 : Hid (runV b = acc) := hid (by rw [HV.out, if_pos ⟨hL.symm, ho⟩])
              clear ho HV
              go_wp2_with fail
              refine HOR.out.mono ?_
              rintro e w2 ⟨rfl, b2⟩
              go_wp2_with fail
              go_ret
              rw [HV2.out]
              exact ⟨A2, c2, rfl, own_more (own_below HOWN.out b2 (Nat.le_refl _)) B1.out.size, bT hb0 b2⟩
            | false =>
              rw [ho] at HOR
              have HV2 : Hid (runV b = []) := hid (by rw [HV.out, if_neg (fun h => by rw [ho] at h; cases h.2)])
              clear ho HV
              go_wp2_with fail
              refine HOR.out.mono ?_
              rintro e w2 ⟨rfl, b2⟩
              go_wp2_with fail
              go_ret
              exact HR0.out _ (bT hb0 b2) HV2.out
          · have hnb : ((n : Int) != (L : Int)) = true := by simp; omega
            have HV2 : Hid (runV b = []) := hid (by rw [HV.out, if_neg (fun h => hnL (by rw [h.1, hL]))])
            clear HV hnL
            go_wp2_with fail
            go_ret
            exact HR0.out _ hb0 HV2.out
  · have HV := hid (HE.out (.inl he))
    have heb : (e != 0) = true := by simpa using he
    clear HE HN HS he
    go_enter Try.func96, Try.ntmps96
    go_wp2_with fail
    refine HUN.out.mono ?_
    rintro e w1 ⟨A1, k1, rfl, o1, b1⟩
    go_wp2_with fail
    go_ret
    exact HR0.out _ b1 HV.out
end Go.Proofs.Ytifpngjipkmdcaa
