/- The document's SavedOf: the walk. -/
import Derived.Test.YtphgdpjfolkafaaDoorCkC
import Derived.Test.YtphgdpjfolkafaaDoorCkK
import Derived.Test.YtphgdpjfolkafaaDoorSmallR
import Derived.Test.YtphgdpjfolkafaaDoorBytes
import Derived.Deep.DeepCutAuto
namespace Go.Proofs.YtphgdpjfolkafaaDoor
open Go.ChangeShapes Go.WideShapes Go.ChangeAt Go.RowKit
set_option linter.unusedVariables false
set_option linter.unusedSimpArgs false
theorem strOfNums_inj : ∀ (l m : List Int), (∀ x ∈ l, 0 ≤ x ∧ x ≤ 255) → (∀ x ∈ m, 0 ≤ x ∧ x ≤ 255) → strOfNums l = strOfNums m → l = m := fun l m hl hm h => by
  have h := congrArg (fun s : ByteArray => s.data.toList.map fun x => (x.toNat : Int)) h
  simp only [strOfNums_data, List.map_map] at h
  have key : ∀ k : List Int, (∀ x ∈ k, 0 ≤ x ∧ x ≤ 255) → k.map ((fun x : UInt8 => (x.toNat : Int)) ∘ fun n : Int => UInt8.ofNat n.toNat) = k := fun k hk => by
    induction k with
    | nil => rfl
    | cons a k ih =>
      have ha := hk a (List.mem_cons_self ..)
      rw [List.map_cons, ih (fun x hx => hk x (List.mem_cons_of_mem _ hx))]
      congr 1
      show ((UInt8.ofNat a.toNat).toNat : Int) = a
      rw [UInt8.toNat_ofNat']
      omega
  rw [key l hl, key m hm] at h
  exact h
theorem str_ne {s t : ByteArray} (h : s ≠ t) : (s.toList == t.toList) = false := by
  cases he : s.toList == t.toList with
  | false => rfl
  | true =>
    exfalso
    have h1 : s.toList = t.toList := by simpa using he
    rw [ByteArray.toList_eq, ByteArray.toList_eq] at h1
    apply h
    cases s; cases t
    congr 1
    exact Array.toList_inj.1 h1
theorem wrapV_byte {l : List Int} (hl : ∀ x ∈ l, 0 ≤ x ∧ x ≤ 255) : ∀ x ∈ (wrapV l).1, 0 ≤ x ∧ x ≤ 255 := fun x hx => by
  by_cases hn : 20000 < l.length
  · rw [wrapV_big hn] at hx; cases hx
  · rw [wrapV_ok hn] at hx
    have hpl : ∀ x ∈ pack l.length ++ l, 0 ≤ x ∧ x ≤ 255 := fun x hx => by
      rcases List.mem_append.1 hx with hx | hx
      · exact pack_byte _ (by omega) (by omega) x hx
      · exact hl x hx
    have hs := sumV_lt _ hpl
    unfold wrapB at hx
    rcases List.mem_append.1 hx with hx | hx
    · exact hpl x hx
    · exact quad_byte _ hs.1 hs.2 x hx
theorem encV_byte (s : Saved) : ∀ x ∈ (encV s).1, 0 ≤ x ∧ x ≤ 255 := fun x hx => by
  cases h : svB s with
  | false => rw [encV_bad h] at hx; cases hx
  | true =>
    rw [encV_ok h] at hx
    exact wrapV_byte (packs_byte (nums_ok (svB_ok h))) x hx
theorem at0_some {ns : List Int} {k : Nat} {x : Int} (h : ns[k]? = some x) : at0 ns k = x := by unfold at0; rw [h]; rfl
def msr (L : Nat) (x : Int) : Nat := if x < 0 then 0 else L - x.toNat + 1
theorem msr_neg {L : Nat} {x : Int} (h : x < 0) : msr L x = 0 := if_pos h
theorem msr_nn {L : Nat} {x : Int} (h : 0 ≤ x) : msr L x = L - x.toNat + 1 := if_neg (by omega)
/-- The numbers so far. -/
def RS1 (b ink : List Int) (W : World) (s a : Value) (wr : World) : Prop :=
  ∃ A c m, s = .slice A m c ∧ Below W.heap.size W wr ∧ Hid (m ≤ ink.length + 1) ∧ (∃ ns : List Int, Hid (wr.ownsRow W.heap.size 3 1 (.slice A m c) m (ns.flatMap i64c)) ∧ ns.length = m ∧
    ((∃ n : Nat, a = .int .i64 (n : Nat) ∧ n ≤ ink.length ∧ Hid (ink = packs ns ++ ink.drop n) ∧ Hid (e60 ns) ∧ m ≤ n) ∨ (a = .int .i64 (-1) ∧ Hid (decV b = (svZero, 3)))))
def RS2 (w1 : World) (s : Nat) (ns : List Int) (st ph : Int) (fr : Bool) (mn : Nat) (i : Value) (wr : World) : Prop :=
  ∃ (k : Nat) (B : Option Addr) (d : Nat), k ≤ mn ∧ i = .int .i64 (k : Nat) ∧ DS w1 s s ⟨st, ph, fr, docVals ns k, []⟩ B d none 0 wr ∧ Hid (wr.ownsRow (s + 1) 61 2 (.slice B (docVals ns k).length d) (docVals ns k).length ((docVals ns k).flatMap Val.cells))
def RS3 (w1 : World) (s t : Nat) (ns : List Int) (st ph : Int) (fr : Bool) (vs : List Val) (A : Option Addr) (c : Nat) (o mm : Nat) (i : Value) (wr : World) : Prop :=
  ∃ (k q : Nat) (B : Option Addr) (d : Nat), k ≤ mm ∧ q = o + 2 * k ∧ i = .int .i64 (q : Nat) ∧ DS w1 s s ⟨st, ph, fr, vs, docMails ns o k⟩ A c B d wr ∧ Hid (wr.ownsRow (s + 1) 61 2 (.slice A vs.length c) vs.length (vs.flatMap Val.cells)) ∧ Hid (wr.ownsRow t 63 2 (.slice B (docMails ns o k).length d) (docMails ns o k).length ((docMails ns o k).flatMap Mail.cells)) ∧ t ≤ wr.heap.size
set_option maxRecDepth 100000 in
set_option maxHeartbeats 8000000 in
theorem savedOf_walk (b : List Int) (w : World) (A : Option Addr) (L c : Nat) (hr : Rd w w.heap.size A 1 L (b.flatMap u8c)) (hL : b.length = L) (hb : ∀ x ∈ b, 0 ≤ x ∧ x ≤ 255) (hn : L ≤ 140737488355328) (hcap : L ≤ c) :
    Calls Tryd.prog 19 #[.slice A L c] w (RetSv w (decV b).1 (decV b).2) := by
  obtain ⟨ink, k, e, hu⟩ : ∃ ink k e, unwV b = (ink, k, e) := ⟨_, _, _, rfl⟩
  have HUN := hid (fun W (h : Rd W W.heap.size A 1 L (b.flatMap u8c)) => unwrapped_walk b W A L c h hL hb hn hcap)
  rw [hu] at HUN
  simp only at HUN
  have HBB := hid hb
  have HU := hid hu
  have hlen := unwV_len b hb
  rw [hu] at hlen
  obtain ⟨hi1, _⟩ := hlen
  have hib : e = 0 → ∀ x ∈ ink, 0 ≤ x ∧ x ≤ 255 := fun he => by have := unwV_byte hb; rw [hu] at this; exact this
  simp only at hi1
  have bz : Below w.heap.size w (w.alloc (.cells #[.int .i64 0, .int .i64 0, .bool false, .slice none 0 0, .slice none 0 0] 29)) := bA (Below.refl _ _) _
  have rz := (hr.below bz).any (by decide)
  have HR0 := hid hr
  clear hL hb hu hr
  by_cases he : e = 0
  · subst he
    have HIB := hid (hib rfl)
    clear hib
    go_enter Tryd.func19, Tryd.ntmps19
    go_wp2_with fail
    refine (HUN.out _ rz).mono ?_
    rintro e w1 ⟨A1, k1, rfl, o1, b1⟩
    have HBZ := hid (bT bz b1)
    have hz1 : w.heap.size < w1.heap.size := by have := b1.size; simp at this; omega
    have z0 : w1.cell? ⟨w.heap.size, 0, none⟩ = some (.int .i64 0) := keepb b1 (by go_simp)
    have z1 : w1.cell? ⟨w.heap.size, 1, none⟩ = some (.int .i64 0) := keepb b1 (by go_simp)
    have z2 : w1.cell? ⟨w.heap.size, 2, none⟩ = some (.bool false) := keepb b1 (by go_simp)
    have z3 : w1.cell? ⟨w.heap.size, 3, none⟩ = some (.slice none 0 0) := keepb b1 (by go_simp)
    have z4 : w1.cell? ⟨w.heap.size, 4, none⟩ = some (.slice none 0 0) := keepb b1 (by go_simp)
    have zf : ∀ o, w1.frozen? ⟨w.heap.size, o, none⟩ = false := fun o => by rw [b1.frozen (by simp)]; go_simp
    have HRI := hid (rd_own o1)
    have hcapI := own_cap o1
    have HBAD : Hid (∀ (ns : List Int) (n : Nat), ink = packs ns ++ ink.drop n → e60 ns → n < ink.length → takeBad (ink.drop n) false 1152921504606846976 = true → decV b = (svZero, 3)) := hid fun ns n h1 h2 h3 h4 => doc_bad HBB.out HU.out h1 h2 (fun e => by have h := List.length_drop (i := n) (l := ink); rw [e, List.length_nil] at h; omega) h4
    have HDS : Hid (∀ ns : List Int, ink = packs ns → e60 ns → (ns.length < 5 ∨ 200 < at0 ns 3 ∨ (ns.length : Int) < 5 + 2 * at0 ns 3) → decV b = (svZero, 3)) := hid fun ns h1 h2 h3 => doc_short HBB.out HU.out h1 h2 h3
    have HDN : Hid (∀ ns : List Int, ink = packs ns → e60 ns → encV (docS ns) ≠ (b, 0) → decV b = (svZero, 3)) := hid fun ns h1 h2 h3 => doc_no HBB.out HU.out h1 h2 h3
    have HSM : Hid (∀ (W : World) (n : Nat), Below w1.heap.size w1 W → n ≤ ink.length → Calls Tryd.prog 34 #[.slice A1 ink.length k1, .int .i64 (n : Int), .int .i64 1152921504606846976] W fun e w' => e = .returned (.tuple #[.int .i64 (smallV ink n 1152921504606846976).1, .int .i64 (smallV ink n 1152921504606846976).2]) ∧ W = w') := hid fun W n hB hn => small_walk2 ink n _ W A1 ink.length k1 (rdb HRI.out (by decide) hB) rfl HIB.out hcapI hn (by omega) (by decide) (by decide)
    have HSC := hid (fun n (hn : n ≤ ink.length) => small_cases HIB.out (n := n) hn 1152921504606846976)
    clear b1 o1 bz rz HUN HU
    go_wp2_with fail
    go_loopw [7, 8] (fun s a wr => RS1 b ink w1 s a wr) (fun _ a _ => msr ink.length (intOf a))
    case atStart => exact ⟨none, 0, 0, rfl, Below.refl _ _, hid (Nat.zero_le _), [], hid (World.ownsRow_nil _ _ _ _), rfl, .inl ⟨0, rfl, Nat.zero_le _, hid (by simp [packs]), hid (fun n hn => by cases hn), Nat.le_refl _⟩⟩
    case round =>
      obtain ⟨A2, c2, m, rfl, hbel, HM, ns, HOWN, hnm, hor⟩ := hrel
      have HNM := hid hnm
      clear hnm
      have hsz := hbel.size
      rcases hor with ⟨n, rfl, hnl, HE, H60, hmn⟩ | ⟨rfl, HB3⟩
      · have hge : (0 : Int) ≤ (n : Int) := by omega
        by_cases hlt : n < ink.length
        · have hlz : (n : Int) < (ink.length : Int) := by omega
          have hSZ : (m + 1) * 8 ≤ 140737488355328 := by omega
          rcases HSC.out n hnl with ⟨hb1, hs1⟩ | ⟨r, k2, hb1, hs1, ht, hr0, hr1, hk1, hkl, he1, hkp⟩
          · have HC := hid (HSM.out wr n hbel hnl)
            rw [hs1] at HC
            have HBD := hid (HBAD.out ns n HE.out H60.out hlt hb1)
            clear hs1 hb1
            go_wp2_with fail
            refine HC.out.mono ?_
            rintro e w2 ⟨rfl, rfl⟩
            go_wp2_with (at_builtin; refine wp_app3 _ rfl rfl el_ints rfl (own_below HOWN.out (bA (Below.refl _ _) _) (Nat.le_refl _)) rfl (rd_new _ _ _ 1 1 rfl) (one1 _ _) hSZ (Nat.le_trans hsz (by simp)) ?_; intro A5 c5 w5 o5 b5 g5 h5)
            have HO5 := hid o5
            have HB5 := hid ((hbel.trans (bA (Below.refl wr.heap.size wr) _ |>.mono hsz)).trans b5)
            clear o5 b5 g5 h5
            go_wp2_with fail
            go_roundw
            case rel => exact ⟨A5, c5, m + 1, rfl, HB5.out, hid (by omega), ns ++ [0], hid (by rw [List.flatMap_append]; exact HO5.out), by rw [List.length_append, HNM.out]; rfl, .inr ⟨rfl, HBD⟩⟩
            case measure => (simp only [intOf]; rw [msr_neg (by decide), msr_nn (by omega)]; omega)
          · have HC := hid (HSM.out wr n hbel hnl)
            rw [hs1] at HC
            have HE2 : Hid (ink = packs (ns ++ [r]) ++ ink.drop (n + k2)) := hid (by rw [packs_append, packs_one, List.append_assoc, ← he1]; exact HE.out)
            have H62 : Hid (e60 (ns ++ [r])) := hid (fun x hx => by
              rcases List.mem_append.1 hx with hx | hx
              · exact H60.out x hx
              · rw [List.mem_singleton.1 hx]; exact ⟨hr0, hr1⟩)
            clear hs1 hb1 ht he1 hkp
            go_wp2_with fail
            refine HC.out.mono ?_
            rintro e w2 ⟨rfl, rfl⟩
            go_wp2_with (at_builtin; refine wp_app3 _ rfl rfl el_ints rfl (own_below HOWN.out (bA (Below.refl _ _) _) (Nat.le_refl _)) rfl (rd_new _ _ _ 1 1 rfl) (one1 _ _) hSZ (Nat.le_trans hsz (by simp)) ?_; intro A5 c5 w5 o5 b5 g5 h5)
            have HO5 := hid o5
            have HB5 := hid ((hbel.trans (bA (Below.refl wr.heap.size wr) _ |>.mono hsz)).trans b5)
            clear o5 b5 g5 h5
            go_wp2_with fail
            go_roundw
            case rel => exact ⟨A5, c5, m + 1, rfl, HB5.out, hid (by omega), ns ++ [r], hid (by rw [List.flatMap_append]; exact HO5.out), by rw [List.length_append, HNM.out]; rfl, .inl ⟨n + k2, by go_num, hkl, HE2, H62, by omega⟩⟩
            case measure => (simp only [intOf]; rw [msr_nn (by omega), msr_nn (by omega)]; omega)
        · have hlz : ¬ (n : Int) < (ink.length : Int) := by omega
          have HEN : Hid (ink = packs ns) := hid (by have h := HE.out; rwa [List.drop_of_length_le (by omega), List.append_nil] at h)
          have hnn : ¬ (n : Int) < 0 := by omega
          clear HE HSC HSM HBAD
          have g0 := keepb hbel z0
          have g1 := keepb hbel z1
          have g2 := keepb hbel z2
          have g3 := keepb hbel z3
          have g4 := keepb hbel z4
          have gf : ∀ o, wr.frozen? ⟨w.heap.size, o, none⟩ = false := fun o => (hbel.frozen (p := ⟨w.heap.size, o, none⟩) hz1).trans (zf o)
          have HBW := hid (bT HBZ.out hbel)
          have hzw : w.heap.size < wr.heap.size := by omega
          clear z0 z1 z2 z3 z4 zf
          by_cases h5 : m < 5
          · have h5z : (m : Int) < 5 := by omega
            have HN0 := hid (HDS.out ns HEN.out H60.out (.inl (by rw [HNM.out]; exact h5)))
            have gf0 := gf 0
            have gf1 := gf 1
            have gf2 := gf 2
            have gf3 := gf 3
            have gf4 := gf 4
            go_wp2_with fail
            refine bodyPost_ret (v := .tuple #[.agg #[.int .i64 0, .int .i64 0, .bool false, .slice none 0 0, .slice none 0 0], .int .i64 3]) (by simp [results, Tryd.results19, go_sem, *]) rfl ?_
            rw [HN0.out]
            refine retSv_zero _ ?_
            repeat (with_reducible refine Below.setCell ?_ (by simp; try omega) _)
            exact HBW.out
          · have h5z : ¬ (m : Int) < 5 := by omega
            obtain ⟨x0, hx0⟩ : ∃ x, ns[0]? = some x := ⟨_, List.getElem?_eq_getElem (by rw [HNM.out]; omega)⟩
            obtain ⟨x1, hx1⟩ : ∃ x, ns[1]? = some x := ⟨_, List.getElem?_eq_getElem (by rw [HNM.out]; omega)⟩
            obtain ⟨x2, hx2⟩ : ∃ x, ns[2]? = some x := ⟨_, List.getElem?_eq_getElem (by rw [HNM.out]; omega)⟩
            obtain ⟨x3, hx3⟩ : ∃ x, ns[3]? = some x := ⟨_, List.getElem?_eq_getElem (by rw [HNM.out]; omega)⟩
            obtain ⟨b', off, rfl, hb', hcs⟩ := (rd_own HOWN.out).at_ (show 0 < m by omega)
            have c0 : wr.cell? ⟨b', off, none⟩ = some (.int .i64 x0) := hcs 0 _ (flat_i64_get hx0)
            have c1 : wr.cell? ⟨b', off + 1, none⟩ = some (.int .i64 x1) := hcs 1 _ (flat_i64_get hx1)
            have c2 : wr.cell? ⟨b', off + 2, none⟩ = some (.int .i64 x2) := hcs 2 _ (flat_i64_get hx2)
            have c3 : wr.cell? ⟨b', off + 3, none⟩ = some (.int .i64 x3) := hcs 3 _ (flat_i64_get hx3)
            have HX := hid (fun (k : Nat) x (h : ns[k]? = some x) => (hcs k _ (flat_i64_get h) : wr.cell? ⟨b', off + k, none⟩ = some (.int .i64 x)))
            have h3b := H60.out x3 (List.mem_of_getElem? hx3)
            obtain ⟨mn, rfl⟩ := Int.eq_ofNat_of_zero_le h3b.1
            have HA3 := hid (at0_some hx3)
            have HDOC : Hid (docS ns = ⟨x0, x1, x2 == 1, docVals ns mn, docMails ns (5 + 2 * mn) ((m - (5 + 2 * mn)) / 2)⟩) := hid (by unfold docS; rw [at0_some hx0, at0_some hx1, at0_some hx2, at0_some hx3, HNM.out]; rfl)
            have hm0 : (0 : Int) < (m : Int) := by omega
            have hk0 : 0 < m := by omega
            have hk1 : 1 < m := by omega
            have hk2 : 2 < m := by omega
            have hk3 : 3 < m := by omega
            have hm1 : (1 : Int) < (m : Int) := by omega
            have hm2 : (2 : Int) < (m : Int) := by omega
            have hm3 : (3 : Int) < (m : Int) := by omega
            have hwm : IntKind.i64.wrap (2 * (mn : Int)) = 2 * (mn : Int) := IntWalk.i64_in _ (by omega)
            have hwa : IntKind.i64.wrap (5 + 2 * (mn : Int)) = 5 + 2 * (mn : Int) := IntWalk.i64_in _ (by omega)
            have HMI := hid (show m ≤ 20001 by have := HM.out; omega)
            clear hx0 hx1 hx2 hx3 hcs h3b hnl hmn
            obtain ⟨wb, hwb⟩ : ∃ x, x = wr := ⟨_, rfl⟩
            subst hwb
            have hzb : w.heap.size < wb.heap.size := hzw
            clear hbel HBZ HRI
            go_wp2_with fail
            go_upto_region 12 with fail
            go_cut [11] (fun s11 wx => s11 = .pointer (some ⟨wb.heap.size, 0, none⟩) ∧ DS wb wb.heap.size wb.heap.size ⟨x0, x1, x2 == 1, [], []⟩ none 0 none 0 wx)
            case first =>
              refine wp_region_F (S := (fun V => V.cell? ⟨b', off, none⟩ = some (.int .i64 x0) ∧ V.cell? ⟨b', off + 1, none⟩ = some (.int .i64 x1) ∧ V.cell? ⟨b', off + 2, none⟩ = some (.int .i64 x2))) [12] (by kernel_rfl) ⟨keepb (bD (Below.refl _ _)) c0, keepb (bD (Below.refl _ _)) c1, keepb (bD (Below.refl _ _)) c2⟩ (fun hHeld => ?_)
              refine wpAnyF_pure (i := 0) (v := ?vg1_1_0) rfl (by kernel_rfl) (by kernel_rfl) (by kernel_rfl) (fun _ _ _ h => h) (Or.inl ⟨by rfl, ?hyg1_1_0⟩) ?restg1_1_0
              case hyg1_1_0 => (intro w hSw; clear hSw; go_simp; (all_goals with_reducible rfl))
              try simp only [Act.put, List.setIfInBounds_toArray, List.set_cons_zero, List.set_cons_succ, List.getElem_toArray, List.getElem_cons_succ, List.getElem_cons_zero]
              refine wpAnyF_pure (i := 1) (v := ?vg1_2_1) rfl (by kernel_rfl) (by kernel_rfl) (by kernel_rfl) (fun _ _ _ h => h) (Or.inl ⟨by rfl, ?hyg1_2_1⟩) ?restg1_2_1
              case hyg1_2_1 => (intro w hSw; clear hSw; go_simp; (all_goals with_reducible rfl))
              try simp only [Act.put, List.setIfInBounds_toArray, List.set_cons_zero, List.set_cons_succ, List.getElem_toArray, List.getElem_cons_succ, List.getElem_cons_zero]
              refine wpAnyF_pure (i := 3) (v := ?vg1_3_3) rfl (by kernel_rfl) (by kernel_rfl) (by kernel_rfl) (fun _ _ _ h => h) (Or.inl ⟨by rfl, ?hyg1_3_3⟩) ?restg1_3_3
              case hyg1_3_3 => (intro w hSw; clear hSw; go_simp; (all_goals with_reducible rfl))
              try simp only [Act.put, List.setIfInBounds_toArray, List.set_cons_zero, List.set_cons_succ, List.getElem_toArray, List.getElem_cons_succ, List.getElem_cons_zero]
              refine wpAnyF_pure (i := 4) (v := ?vg1_4_4) rfl (by kernel_rfl) (by kernel_rfl) (by kernel_rfl) (fun _ _ _ h => h) (Or.inl ⟨by rfl, ?hyg1_4_4⟩) ?restg1_4_4
              case hyg1_4_4 => (intro w hSw; clear hSw; go_simp; (all_goals with_reducible rfl))
              try simp only [Act.put, List.setIfInBounds_toArray, List.set_cons_zero, List.set_cons_succ, List.getElem_toArray, List.getElem_cons_succ, List.getElem_cons_zero]
              refine wpAnyF_pure (i := 6) (v := ?vg1_5_6) rfl (by kernel_rfl) (by kernel_rfl) (by kernel_rfl) (fun _ _ _ h => h) (Or.inl ⟨by rfl, ?hyg1_5_6⟩) ?restg1_5_6
              case hyg1_5_6 => (intro w hSw; clear hSw; go_simp; (all_goals with_reducible rfl))
              try simp only [Act.put, List.setIfInBounds_toArray, List.set_cons_zero, List.set_cons_succ, List.getElem_toArray, List.getElem_cons_succ, List.getElem_cons_zero]
              refine wpAnyF_pure (i := 7) (v := ?vg1_6_7) rfl (by kernel_rfl) (by kernel_rfl) (by kernel_rfl) (fun _ _ _ h => h) (Or.inl ⟨by rfl, ?hyg1_6_7⟩) ?restg1_6_7
              case hyg1_6_7 => (intro w hSw; clear hSw; go_simp; (all_goals with_reducible rfl))
              try simp only [Act.put, List.setIfInBounds_toArray, List.set_cons_zero, List.set_cons_succ, List.getElem_toArray, List.getElem_cons_succ, List.getElem_cons_zero]
              refine wpAnyF_take [10, 12] (i := 2) (v := ?vg1_7_2) rfl (by kernel_rfl) (by kernel_rfl) (by kernel_rfl) (by kernel_rfl) (fun _ _ _ h => h) (Or.inl ⟨by rfl, ?hyg1_7_2⟩) (by assumption) ?restg1_7_2
              case hyg1_7_2 => (intro w hSw; (try dsimp only at hSw); go_simp; (all_goals with_reducible rfl))
              try simp only [Act.put, List.setIfInBounds_toArray, List.set_cons_zero, List.set_cons_succ, List.getElem_toArray, List.getElem_cons_succ, List.getElem_cons_zero]
              refine wpAnyF_take [10, 12] (i := 5) (v := ?vg1_8_5) rfl (by kernel_rfl) (by kernel_rfl) (by kernel_rfl) (by kernel_rfl) (fun _ _ _ h => h) (Or.inl ⟨by rfl, ?hyg1_8_5⟩) (by assumption) ?restg1_8_5
              case hyg1_8_5 => (intro w hSw; (try dsimp only at hSw); go_simp; (all_goals with_reducible rfl))
              try simp only [Act.put, List.setIfInBounds_toArray, List.set_cons_zero, List.set_cons_succ, List.getElem_toArray, List.getElem_cons_succ, List.getElem_cons_zero]
              refine wpAnyF_take [9, 10, 12] (i := 8) (v := ?vg1_9_8) rfl (by kernel_rfl) (by kernel_rfl) (by kernel_rfl) (by kernel_rfl) (fun _ _ _ h => h) (Or.inl ⟨by rfl, ?hyg1_9_8⟩) (by assumption) ?restg1_9_8
              case hyg1_9_8 => (intro w hSw; (try dsimp only at hSw); go_simp; (all_goals with_reducible rfl))
              try simp only [Act.put, List.setIfInBounds_toArray, List.set_cons_zero, List.set_cons_succ, List.getElem_toArray, List.getElem_cons_succ, List.getElem_cons_zero]
              refine wpAnyF_pure (i := 9) (v := ?vg1_10_9) rfl (by kernel_rfl) (by kernel_rfl) (by kernel_rfl) (fun _ _ _ h => h) (Or.inl ⟨by rfl, ?hyg1_10_9⟩) ?restg1_10_9
              case hyg1_10_9 => (intro w hSw; clear hSw; go_simp; (all_goals with_reducible rfl))
              try simp only [Act.put, List.setIfInBounds_toArray, List.set_cons_zero, List.set_cons_succ, List.getElem_toArray, List.getElem_cons_succ, List.getElem_cons_zero]
              refine wpAnyF_pure (i := 10) (v := ?vg1_11_10) rfl (by kernel_rfl) (by kernel_rfl) (by kernel_rfl) (fun _ _ _ h => h) (Or.inl ⟨by rfl, ?hyg1_11_10⟩) ?restg1_11_10
              case hyg1_11_10 => (intro w hSw; clear hSw; go_simp; (all_goals with_reducible rfl))
              try simp only [Act.put, List.setIfInBounds_toArray, List.set_cons_zero, List.set_cons_succ, List.getElem_toArray, List.getElem_cons_succ, List.getElem_cons_zero]
              refine wpAnyF_one (i := 11) (by kernel_rfl) rfl (fun K hK => ?_)
              go_simp
              refine hK.out _ _ ⟨keepb (bA (Below.refl _ _) _) hHeld.1, keepb (bA (Below.refl _ _) _) hHeld.2.1, keepb (bA (Below.refl _ _) _) hHeld.2.2⟩ (fun hHeld => ?_)
              clear hK K
              try simp only [Act.put, List.setIfInBounds_toArray, List.set_cons_zero, List.set_cons_succ, List.getElem_toArray, List.getElem_cons_succ, List.getElem_cons_zero]
              refine wpAnyF_oneD (i := 12) (by kernel_rfl) (by kernel_rfl) rfl (fun K hK => ?_)
              go_simp
              refine hK.out _ _ ?_
              clear hK K
              try simp only [Act.put, List.setIfInBounds_toArray, List.set_cons_zero, List.set_cons_succ, List.getElem_toArray, List.getElem_cons_succ, List.getElem_cons_zero]
              refine wpAnyF_done (by kernel_rfl) ?_ _
              go_wp2_with fail
              go_meet
              refine ⟨rfl, by go_simp, by go_simp, by go_simp, by go_simp, by go_simp, fun o => by go_simp, by simp, ?_⟩
              first
              | exact bD (bA (Below.refl _ _) _)
              | exact bA (bD (Below.refl _ _)) _
            case rest =>
              obtain ⟨rfl, hDX⟩ := hcut
              have c3x := (hDX.bl.cell (p := ⟨b', off + 3, none⟩) hb').trans c3
              have q0 := g0
              have q1 := g1
              have q2 := g2
              have q3 := g3
              have q4 := g4
              have qf := gf
              replace g0 := (hDX.bl.cell (p := ⟨w.heap.size, 0, none⟩) hzb).trans g0
              replace g1 := (hDX.bl.cell (p := ⟨w.heap.size, 1, none⟩) hzb).trans g1
              replace g2 := (hDX.bl.cell (p := ⟨w.heap.size, 2, none⟩) hzb).trans g2
              replace g3 := (hDX.bl.cell (p := ⟨w.heap.size, 3, none⟩) hzb).trans g3
              replace g4 := (hDX.bl.cell (p := ⟨w.heap.size, 4, none⟩) hzb).trans g4
              replace gf : ∀ o, wc.frozen? ⟨w.heap.size, o, none⟩ = false := fun o => (hDX.bl.frozen (p := ⟨w.heap.size, o, none⟩) hzb).trans (gf o)
              have HBC := hid HBW.out
              replace HBW := hid (bT HBW.out hDX.bl)
              have HDX := hid hDX
              clear hDX c0 c1 c2 c3 hsz hge hlz hnn h5z
              have g0w := HX.out
              clear g0w
              obtain ⟨s, hsE⟩ : ∃ s, wb.heap.size = s := ⟨_, rfl⟩
              have HSS := hid hsE
              rw [hsE] at hb' hzb HDX ⊢
              clear hsE hzw
              by_cases hbig : 200 < (mn : Int)
              · have HN0 := hid (HDS.out ns HEN.out H60.out (.inr (.inl (by rw [HA3.out]; exact hbig))))
                have gf0 := gf 0
                have gf1 := gf 1
                have gf2 := gf 2
                have gf3 := gf 3
                have gf4 := gf 4
                go_wp2_with fail
                refine bodyPost_ret (v := .tuple #[.agg #[.int .i64 0, .int .i64 0, .bool false, .slice none 0 0, .slice none 0 0], .int .i64 3]) (by simp [results, Tryd.results19, go_sem, *]) rfl ?_
                rw [HN0.out]
                refine retSv_zero _ ?_
                repeat (with_reducible refine Below.setCell ?_ (by simp; try omega) _)
                exact HBW.out
              · by_cases hbig2 : (m : Int) < 5 + 2 * (mn : Int)
                · have HN0 := hid (HDS.out ns HEN.out H60.out (.inr (.inr (by rw [HA3.out, HNM.out]; exact hbig2))))
                  have gf0 := gf 0
                  have gf1 := gf 1
                  have gf2 := gf 2
                  have gf3 := gf 3
                  have gf4 := gf 4
                  go_wp2_with fail
                  refine bodyPost_ret (v := .tuple #[.agg #[.int .i64 0, .int .i64 0, .bool false, .slice none 0 0, .slice none 0 0], .int .i64 3]) (by simp [results, Tryd.results19, go_sem, *]) rfl ?_
                  rw [HN0.out]
                  refine retSv_zero _ ?_
                  repeat (with_reducible refine Below.setCell ?_ (by simp; try omega) _)
                  exact HBW.out
                · have hmn2 : mn ≤ 200 := by omega
                  have hme : 5 + 2 * mn ≤ m := by omega
                  have hmz : m ≤ 20001 := HMI.out
                  go_wp2_with fail
                  go_loopw [13] (fun i wx => RS2 wb s ns x0 x1 (x2 == 1) mn i wx) (fun i _ => mn - (intOf i).toNat)
                  case atStart => exact ⟨0, none, 0, Nat.zero_le _, rfl, HDX.out, hid (World.ownsRow_nil _ _ _ _)⟩
                  case round =>
                    clear HDX
                    obtain ⟨k, B, d, hk, rfl, hD, HOWN2⟩ := hrel
                    have hss := hD.sz
                    by_cases hlt : k < mn
                    · have hkz : (k : Int) < (mn : Int) := by omega
                      obtain ⟨j, HJ⟩ : ∃ j, Hid (j = 2 * k) := ⟨_, hid rfl⟩
                      obtain ⟨p4, HP4⟩ : ∃ q, Hid (q = 4 + 2 * k) := ⟨_, hid rfl⟩
                      obtain ⟨p5, HP5⟩ : ∃ q, Hid (q = 5 + 2 * k) := ⟨_, hid rfl⟩
                      have hj2 : IntKind.i64.wrap (2 * (k : Int)) = (j : Int) := by rw [IntWalk.i64_in _ (by omega), HJ.out]; omega
                      have hj4 : IntKind.i64.wrap (4 + (j : Int)) = (p4 : Int) := by rw [HJ.out, HP4.out, IntWalk.i64_in _ (by omega)]; omega
                      have hj5 : IntKind.i64.wrap (5 + (j : Int)) = (p5 : Int) := by rw [HJ.out, HP5.out, IntWalk.i64_in _ (by omega)]; omega
                      have hp4 : p4 < m := by rw [HP4.out]; omega
                      have hp5 : p5 < m := by rw [HP5.out]; omega
                      have hp4z : (p4 : Int) < (m : Int) := by omega
                      have hp5z : (p5 : Int) < (m : Int) := by omega
                      obtain ⟨y4, hy4⟩ : ∃ x, ns[p4]? = some x := ⟨_, List.getElem?_eq_getElem (by rw [HNM.out]; exact hp4)⟩
                      obtain ⟨y5, hy5⟩ : ∃ x, ns[p5]? = some x := ⟨_, List.getElem?_eq_getElem (by rw [HNM.out]; exact hp5)⟩
                      have ca := (hD.bl.cell (p := ⟨b', off + p4, none⟩) hb').trans (HX.out p4 y4 hy4)
                      have cb := (hD.bl.cell (p := ⟨b', off + p5, none⟩) hb').trans (HX.out p5 y5 hy5)
                      have hy4b := H60.out y4 (List.mem_of_getElem? hy4)
                      have hy5b := H60.out y5 (List.mem_of_getElem? hy5)
                      have hw4 : IntKind.i64.wrap (y4 - 1) = y4 - 1 := IntWalk.i64_in _ (by omega)
                      have hw5 : IntKind.i64.wrap (y5 - 1) = y5 - 1 := IntWalk.i64_in _ (by omega)
                      have HVS : Hid (docVals ns (k + 1) = docVals ns k ++ [⟨y4 - 1, y5 - 1⟩]) := hid (by rw [docVals_succ, ← HP4.out, ← HP5.out, at0_some hy4, at0_some hy5])
                      obtain ⟨vs, hvs⟩ : ∃ vs, docVals ns k = vs := ⟨_, rfl⟩
                      rw [hvs] at hD HOWN2 HVS
                      have hvl : vs.length ≤ 200 := by rw [← hvs, docVals_len]; omega
                      clear hvs hy4 hy5 hy4b hy5b
                      have hSZ : (vs.length + 1) * 16 ≤ 140737488355328 := by omega
                      have c3 := hD.c3
                      have f3 := hD.fz 3
                      have hst := Nat.lt_succ_self s
                      simp only at c3
                      go_wp2_with fail
                      refine wp_region_F (S := (fun V => Below wr.heap.size wr V ∧ V.cell? ⟨s, 3, none⟩ = some (.slice B vs.length d) ∧ V.cell? ⟨b', off + p4, none⟩ = some (.int .i64 y4) ∧ V.cell? ⟨b', off + p5, none⟩ = some (.int .i64 y5))) [18, 20] (by kernel_rfl) ⟨bD (Below.refl _ _), keepb (bD (Below.refl _ _)) c3, keepb (bD (Below.refl _ _)) ca, keepb (bD (Below.refl _ _)) cb⟩ (fun hHeld => ?_)
                      refine wpAnyF_pure (i := 0) (v := ?vg2_1_0) rfl (by kernel_rfl) (by kernel_rfl) (by kernel_rfl) (fun _ _ _ h => h) (Or.inl ⟨by rfl, ?hyg2_1_0⟩) ?restg2_1_0
                      case hyg2_1_0 => (intro w hSw; clear hSw; go_simp; (all_goals with_reducible rfl))
                      try simp only [Act.put, List.setIfInBounds_toArray, List.set_cons_zero, List.set_cons_succ, List.getElem_toArray, List.getElem_cons_succ, List.getElem_cons_zero]
                      refine wpAnyF_pure (i := 2) (v := ?vg2_2_2) rfl (by kernel_rfl) (by kernel_rfl) (by kernel_rfl) (fun _ _ _ h => h) (Or.inl ⟨by rfl, ?hyg2_2_2⟩) ?restg2_2_2
                      case hyg2_2_2 => (intro w hSw; clear hSw; go_simp; (all_goals with_reducible rfl))
                      try simp only [Act.put, List.setIfInBounds_toArray, List.set_cons_zero, List.set_cons_succ, List.getElem_toArray, List.getElem_cons_succ, List.getElem_cons_zero]
                      refine wpAnyF_pure (i := 3) (v := ?vg2_3_3) rfl (by kernel_rfl) (by kernel_rfl) (by kernel_rfl) (fun _ _ _ h => h) (Or.inl ⟨by rfl, ?hyg2_3_3⟩) ?restg2_3_3
                      case hyg2_3_3 => (intro w hSw; clear hSw; go_simp; (all_goals with_reducible rfl))
                      try simp only [Act.put, List.setIfInBounds_toArray, List.set_cons_zero, List.set_cons_succ, List.getElem_toArray, List.getElem_cons_succ, List.getElem_cons_zero]
                      refine wpAnyF_pure (i := 4) (v := ?vg2_4_4) rfl (by kernel_rfl) (by kernel_rfl) (by kernel_rfl) (fun _ _ _ h => h) (Or.inl ⟨by rfl, ?hyg2_4_4⟩) ?restg2_4_4
                      case hyg2_4_4 => (intro w hSw; clear hSw; go_simp; (all_goals with_reducible rfl))
                      try simp only [Act.put, List.setIfInBounds_toArray, List.set_cons_zero, List.set_cons_succ, List.getElem_toArray, List.getElem_cons_succ, List.getElem_cons_zero]
                      refine wpAnyF_pure (i := 5) (v := ?vg2_5_5) rfl (by kernel_rfl) (by kernel_rfl) (by kernel_rfl) (fun _ _ _ h => h) (Or.inl ⟨by rfl, ?hyg2_5_5⟩) ?restg2_5_5
                      case hyg2_5_5 => (intro w hSw; clear hSw; go_simp; (all_goals with_reducible rfl))
                      try simp only [Act.put, List.setIfInBounds_toArray, List.set_cons_zero, List.set_cons_succ, List.getElem_toArray, List.getElem_cons_succ, List.getElem_cons_zero]
                      refine wpAnyF_pure (i := 6) (v := ?vg2_6_6) rfl (by kernel_rfl) (by kernel_rfl) (by kernel_rfl) (fun _ _ _ h => h) (Or.inl ⟨by rfl, ?hyg2_6_6⟩) ?restg2_6_6
                      case hyg2_6_6 => (intro w hSw; clear hSw; go_simp; (all_goals with_reducible rfl))
                      try simp only [Act.put, List.setIfInBounds_toArray, List.set_cons_zero, List.set_cons_succ, List.getElem_toArray, List.getElem_cons_succ, List.getElem_cons_zero]
                      refine wpAnyF_pure (i := 9) (v := ?vg2_7_9) rfl (by kernel_rfl) (by kernel_rfl) (by kernel_rfl) (fun _ _ _ h => h) (Or.inl ⟨by rfl, ?hyg2_7_9⟩) ?restg2_7_9
                      case hyg2_7_9 => (intro w hSw; clear hSw; go_simp; (all_goals with_reducible rfl))
                      try simp only [Act.put, List.setIfInBounds_toArray, List.set_cons_zero, List.set_cons_succ, List.getElem_toArray, List.getElem_cons_succ, List.getElem_cons_zero]
                      refine wpAnyF_pure (i := 10) (v := ?vg2_8_10) rfl (by kernel_rfl) (by kernel_rfl) (by kernel_rfl) (fun _ _ _ h => h) (Or.inl ⟨by rfl, ?hyg2_8_10⟩) ?restg2_8_10
                      case hyg2_8_10 => (intro w hSw; clear hSw; go_simp; (all_goals with_reducible rfl))
                      try simp only [Act.put, List.setIfInBounds_toArray, List.set_cons_zero, List.set_cons_succ, List.getElem_toArray, List.getElem_cons_succ, List.getElem_cons_zero]
                      refine wpAnyF_pure (i := 11) (v := ?vg2_9_11) rfl (by kernel_rfl) (by kernel_rfl) (by kernel_rfl) (fun _ _ _ h => h) (Or.inl ⟨by rfl, ?hyg2_9_11⟩) ?restg2_9_11
                      case hyg2_9_11 => (intro w hSw; clear hSw; go_simp; (all_goals with_reducible rfl))
                      try simp only [Act.put, List.setIfInBounds_toArray, List.set_cons_zero, List.set_cons_succ, List.getElem_toArray, List.getElem_cons_succ, List.getElem_cons_zero]
                      refine wpAnyF_pure (i := 12) (v := ?vg2_10_12) rfl (by kernel_rfl) (by kernel_rfl) (by kernel_rfl) (fun _ _ _ h => h) (Or.inl ⟨by rfl, ?hyg2_10_12⟩) ?restg2_10_12
                      case hyg2_10_12 => (intro w hSw; clear hSw; go_simp; (all_goals with_reducible rfl))
                      try simp only [Act.put, List.setIfInBounds_toArray, List.set_cons_zero, List.set_cons_succ, List.getElem_toArray, List.getElem_cons_succ, List.getElem_cons_zero]
                      refine wpAnyF_pure (i := 13) (v := ?vg2_11_13) rfl (by kernel_rfl) (by kernel_rfl) (by kernel_rfl) (fun _ _ _ h => h) (Or.inl ⟨by rfl, ?hyg2_11_13⟩) ?restg2_11_13
                      case hyg2_11_13 => (intro w hSw; clear hSw; go_simp; (all_goals with_reducible rfl))
                      try simp only [Act.put, List.setIfInBounds_toArray, List.set_cons_zero, List.set_cons_succ, List.getElem_toArray, List.getElem_cons_succ, List.getElem_cons_zero]
                      refine wpAnyF_take [18, 19, 20] (i := 1) (v := ?vg2_12_1) rfl (by kernel_rfl) (by kernel_rfl) (by kernel_rfl) (by kernel_rfl) (fun _ _ _ h => h) (Or.inl ⟨by rfl, ?hyg2_12_1⟩) (by assumption) ?restg2_12_1
                      case hyg2_12_1 => (intro w hSw; (try dsimp only at hSw); go_simp; (all_goals with_reducible rfl))
                      try simp only [Act.put, List.setIfInBounds_toArray, List.set_cons_zero, List.set_cons_succ, List.getElem_toArray, List.getElem_cons_succ, List.getElem_cons_zero]
                      refine wpAnyF_take [8, 16, 17, 18, 19, 20] (i := 7) (v := ?vg2_13_7) rfl (by kernel_rfl) (by kernel_rfl) (by kernel_rfl) (by kernel_rfl) (fun _ _ _ h => h) (Or.inl ⟨by rfl, ?hyg2_13_7⟩) (by assumption) ?restg2_13_7
                      case hyg2_13_7 => (intro w hSw; (try dsimp only at hSw); go_simp; (all_goals with_reducible rfl))
                      try simp only [Act.put, List.setIfInBounds_toArray, List.set_cons_zero, List.set_cons_succ, List.getElem_toArray, List.getElem_cons_succ, List.getElem_cons_zero]
                      refine wpAnyF_pure (i := 8) (v := ?vg2_14_8) rfl (by kernel_rfl) (by kernel_rfl) (by kernel_rfl) (fun _ _ _ h => h) (Or.inl ⟨by rfl, ?hyg2_14_8⟩) ?restg2_14_8
                      case hyg2_14_8 => (intro w hSw; clear hSw; go_simp; (all_goals with_reducible rfl))
                      try simp only [Act.put, List.setIfInBounds_toArray, List.set_cons_zero, List.set_cons_succ, List.getElem_toArray, List.getElem_cons_succ, List.getElem_cons_zero]
                      refine wpAnyF_take [15, 16, 17, 18, 19, 20] (i := 14) (v := ?vg2_15_14) rfl (by kernel_rfl) (by kernel_rfl) (by kernel_rfl) (by kernel_rfl) (fun _ _ _ h => h) (Or.inl ⟨by rfl, ?hyg2_15_14⟩) (by assumption) ?restg2_15_14
                      case hyg2_15_14 => (intro w hSw; (try dsimp only at hSw); go_simp; (all_goals with_reducible rfl))
                      try simp only [Act.put, List.setIfInBounds_toArray, List.set_cons_zero, List.set_cons_succ, List.getElem_toArray, List.getElem_cons_succ, List.getElem_cons_zero]
                      refine wpAnyF_pure (i := 15) (v := ?vg2_16_15) rfl (by kernel_rfl) (by kernel_rfl) (by kernel_rfl) (fun _ _ _ h => h) (Or.inl ⟨by rfl, ?hyg2_16_15⟩) ?restg2_16_15
                      case hyg2_16_15 => (intro w hSw; clear hSw; go_simp; (all_goals with_reducible rfl))
                      try simp only [Act.put, List.setIfInBounds_toArray, List.set_cons_zero, List.set_cons_succ, List.getElem_toArray, List.getElem_cons_succ, List.getElem_cons_zero]
                      refine wpAnyF_pure (i := 16) (v := ?vg2_17_16) rfl (by kernel_rfl) (by kernel_rfl) (by kernel_rfl) (fun _ _ _ h => h) (Or.inl ⟨by rfl, ?hyg2_17_16⟩) ?restg2_17_16
                      case hyg2_17_16 => (intro w hSw; clear hSw; go_simp; (all_goals with_reducible rfl))
                      try simp only [Act.put, List.setIfInBounds_toArray, List.set_cons_zero, List.set_cons_succ, List.getElem_toArray, List.getElem_cons_succ, List.getElem_cons_zero]
                      refine wpAnyF_one (i := 17) (by kernel_rfl) rfl (fun K hK => ?_)
                      go_simp
                      refine hK.out _ _ ⟨bA hHeld.1 _, keepb (bA (Below.refl _ _) _) hHeld.2.1, keepb (bA (Below.refl _ _) _) hHeld.2.2.1, keepb (bA (Below.refl _ _) _) hHeld.2.2.2⟩ (fun hHeld => ?_)
                      clear hK K
                      try simp only [Act.put, List.setIfInBounds_toArray, List.set_cons_zero, List.set_cons_succ, List.getElem_toArray, List.getElem_cons_succ, List.getElem_cons_zero]
                      refine wpAnyF_oneD (i := 18) (by kernel_rfl) (by kernel_rfl) rfl (fun K hK => ?_)
                      refine step_app3 rfl rfl el_vals rfl (own_below HOWN2.out hHeld.1 (Nat.le_refl _)) rfl (rd_newAt _ _ _ 2 1 _ (by simp) rfl).drew (two_ints _ _) hSZ (by have := hHeld.1.size; omega) ?_
                      intro A3 k3 w3 o3 b3 g3 h3
                      have HO3 := hid o3
                      have HB3 := hid b3
                      have HG3 := hid g3
                      have HB4 := hid hHeld.1
                      have cs3 := (HB3.out.cell (p := ⟨s, 3, none⟩) hst).trans hHeld.2.1
                      have fs3 : w3.frozen? ⟨s, 3, none⟩ = false := (HB3.out.frozen (p := ⟨s, 3, none⟩) hst).trans ((HB4.out.frozen (p := ⟨s, 3, none⟩) hD.sz).trans (hD.fz 3))
                      clear o3 b3 g3 h3
                      refine hK.out _ _ ?_
                      clear hK K
                      try simp only [Act.put, List.setIfInBounds_toArray, List.set_cons_zero, List.set_cons_succ, List.getElem_toArray, List.getElem_cons_succ, List.getElem_cons_zero]
                      refine wpAnyF_pure (i := 19) (v := ?vg2_20_19) rfl (by kernel_rfl) (by kernel_rfl) (by kernel_rfl) (fun _ _ _ h => h) (Or.inl ⟨by rfl, ?hyg2_20_19⟩) ?restg2_20_19
                      case hyg2_20_19 => (intro w hSw; clear hSw; go_simp; (all_goals with_reducible rfl))
                      try simp only [Act.put, List.setIfInBounds_toArray, List.set_cons_zero, List.set_cons_succ, List.getElem_toArray, List.getElem_cons_succ, List.getElem_cons_zero]
                      refine wpAnyF_oneD (i := 20) (by kernel_rfl) (by kernel_rfl) rfl (fun K hK => ?_)
                      go_simp
                      refine hK.out _ _ ?_
                      clear hK K
                      try simp only [Act.put, List.setIfInBounds_toArray, List.set_cons_zero, List.set_cons_succ, List.getElem_toArray, List.getElem_cons_succ, List.getElem_cons_zero]
                      refine wpAnyF_done (by kernel_rfl) ?_ _
                      go_wp2_with fail
                      go_roundw
                      case rel =>
                        have k0 : ∀ (o : Nat) (v : Value), o ≠ 3 → wr.cell? ⟨s, o, none⟩ = some v → (w3.setCell ⟨s, 3, none⟩ (.slice A3 (vs.length + 1) k3)).cell? ⟨s, o, none⟩ = some v := fun o v ho h => by
                          have h3 := (HB3.out.cell (p := ⟨s, o, none⟩) hst).trans (keepb HB4.out h)
                          go_simp
                        refine ⟨k + 1, A3, k3, by omega, by go_num, ⟨k0 0 _ (by decide) hD.c0, k0 1 _ (by decide) hD.c1, k0 2 _ (by decide) hD.c2, ?_, k0 4 _ (by decide) hD.c4, ?_, ?_, ?_⟩, hid ?_⟩
                        · rw [HVS.out]; simp only [List.length_append, List.length_cons, List.length_nil]; go_simp
                        · intro o
                          have h3 : w3.frozen? ⟨s, o, none⟩ = false := (HB3.out.frozen (p := ⟨s, o, none⟩) hst).trans ((HB4.out.frozen (p := ⟨s, o, none⟩) hss).trans (hD.fz o))
                          go_simp
                        · have h1 := HB4.out.size; have h2 := HB3.out.size; simp; omega
                        · exact ((hD.bl.trans (HB4.out.mono (Nat.le_of_lt hss))).trans (HB3.out.mono (Nat.le_succ s))).setCell (Nat.le_refl s) _
                        · rw [HVS.out, List.flatMap_append, List.length_append]; exact ownsRow_setCell_below HO3.out (a := ⟨s, 3, none⟩) hst _
                      case measure => simp [intOf]; omega
                    · obtain rfl : k = mn := by omega
                      have hkz : ¬ (k : Int) < (k : Int) := by omega
                      obtain ⟨mm, HMQ⟩ : ∃ q, Hid (q = (m - (5 + 2 * k)) / 2) := ⟨_, hid rfl⟩
                      obtain ⟨vs, hvs⟩ : ∃ vs, docVals ns k = vs := ⟨_, rfl⟩
                      rw [hvs] at hD HOWN2 HDOC
                      rw [← HMQ.out] at HDOC
                      clear hvs
                      obtain ⟨t, ht⟩ : ∃ t, wr.heap.size = t := ⟨_, rfl⟩
                      have hst : s < t := by rw [← ht]; exact hss
                      have HVT : Hid (∀ y, (Value.slice B vs.length d).ownBlock = some y → y < t) := hid fun y hy => by rw [← ht]; exact (HOWN2.out.lt y hy).2
                      have HT := hid ht
                      have HD2 := hid hD
                      clear ht hD hss c3x
                      go_wp2_with fail
                      go_loopw [14] (fun i wx => RS3 wb s t ns x0 x1 (x2 == 1) vs B d (5 + 2 * k) mm i wx) (fun i _ => m - (intOf i).toNat)
                      case atStart => exact ⟨0, 5 + 2 * k, none, 0, Nat.zero_le _, rfl, congrArg (Value.int .i64) (by omega), HD2.out, HOWN2, hid (World.ownsRow_nil _ _ _ _), by rw [HT.out]; exact Nat.le_refl _⟩
                      case round =>
                        clear HD2 HOWN2 HT
                        obtain ⟨i3, q, B2, d2, hi3, hq, rfl, hD, HOV, HOWN2, htw⟩ := hrel
                        have HQ := hid hq
                        clear hq
                        have hss := hD.sz
                        obtain ⟨p1, HP1⟩ : ∃ x, Hid (x = q + 1) := ⟨_, hid rfl⟩
                        have hqm : q ≤ 20001 := by have h1 := HQ.out; have h2 := HMQ.out; omega
                        have hq1 : IntKind.i64.wrap ((q : Int) + 1) = (p1 : Int) := by rw [HP1.out, IntWalk.i64_in _ (by omega)]; omega
                        by_cases hlt : i3 < mm
                        · have hp1 : p1 < m := by have h1 := HQ.out; have h2 := HMQ.out; have h3 := HP1.out; omega
                          have hqk : q < m := by have h3 := HP1.out; omega
                          have hp1z : (p1 : Int) < (m : Int) := by omega
                          have hqz : (q : Int) < (m : Int) := by omega
                          have hq2 : IntKind.i64.wrap ((q : Int) + 2) = ((q + 2 : Nat) : Int) := by rw [IntWalk.i64_in _ (by omega)]; omega
                          obtain ⟨z0, hz0⟩ : ∃ x, ns[q]? = some x := ⟨_, List.getElem?_eq_getElem (by rw [HNM.out]; exact hqk)⟩
                          obtain ⟨z1, hz1⟩ : ∃ x, ns[p1]? = some x := ⟨_, List.getElem?_eq_getElem (by rw [HNM.out]; exact hp1)⟩
                          have ca := (hD.bl.cell (p := ⟨b', off + q, none⟩) hb').trans (HX.out q z0 hz0)
                          have cb := (hD.bl.cell (p := ⟨b', off + p1, none⟩) hb').trans (HX.out p1 z1 hz1)
                          have HVS : Hid (docMails ns (5 + 2 * k) (i3 + 1) = docMails ns (5 + 2 * k) i3 ++ [⟨z0, z1⟩]) := hid (by rw [docMails_succ, ← HQ.out, ← HP1.out, at0_some hz0, at0_some hz1])
                          obtain ⟨ms, hms⟩ : ∃ ms, docMails ns (5 + 2 * k) i3 = ms := ⟨_, rfl⟩
                          rw [hms] at hD HOWN2 HVS
                          have hml : ms.length ≤ 20001 := by rw [← hms, docMails_len]; have h2 := HMQ.out; omega
                          clear hms hz0 hz1
                          have hSZ : (ms.length + 1) * 16 ≤ 140737488355328 := by omega
                          have c3 := hD.c4
                          have f3 := hD.fz 4
                          simp only at c3
                          go_wp2_with fail
                          refine wp_region_F (S := (fun V => Below wr.heap.size wr V ∧ V.cell? ⟨s, 4, none⟩ = some (.slice B2 ms.length d2) ∧ V.cell? ⟨b', off + q, none⟩ = some (.int .i64 z0) ∧ V.cell? ⟨b', off + p1, none⟩ = some (.int .i64 z1))) [13, 15] (by kernel_rfl) ⟨bD (Below.refl _ _), keepb (bD (Below.refl _ _)) c3, keepb (bD (Below.refl _ _)) ca, keepb (bD (Below.refl _ _)) cb⟩ (fun hHeld => ?_)
                          refine wpAnyF_pure (i := 0) (v := ?vg3_1_0) rfl (by kernel_rfl) (by kernel_rfl) (by kernel_rfl) (fun _ _ _ h => h) (Or.inl ⟨by rfl, ?hyg3_1_0⟩) ?restg3_1_0
                          case hyg3_1_0 => (intro w hSw; clear hSw; go_simp; (all_goals with_reducible rfl))
                          try simp only [Act.put, List.setIfInBounds_toArray, List.set_cons_zero, List.set_cons_succ, List.getElem_toArray, List.getElem_cons_succ, List.getElem_cons_zero]
                          refine wpAnyF_pure (i := 2) (v := ?vg3_2_2) rfl (by kernel_rfl) (by kernel_rfl) (by kernel_rfl) (fun _ _ _ h => h) (Or.inl ⟨by rfl, ?hyg3_2_2⟩) ?restg3_2_2
                          case hyg3_2_2 => (intro w hSw; clear hSw; go_simp; (all_goals with_reducible rfl))
                          try simp only [Act.put, List.setIfInBounds_toArray, List.set_cons_zero, List.set_cons_succ, List.getElem_toArray, List.getElem_cons_succ, List.getElem_cons_zero]
                          refine wpAnyF_pure (i := 3) (v := ?vg3_3_3) rfl (by kernel_rfl) (by kernel_rfl) (by kernel_rfl) (fun _ _ _ h => h) (Or.inl ⟨by rfl, ?hyg3_3_3⟩) ?restg3_3_3
                          case hyg3_3_3 => (intro w hSw; clear hSw; go_simp; (all_goals with_reducible rfl))
                          try simp only [Act.put, List.setIfInBounds_toArray, List.set_cons_zero, List.set_cons_succ, List.getElem_toArray, List.getElem_cons_succ, List.getElem_cons_zero]
                          refine wpAnyF_pure (i := 4) (v := ?vg3_4_4) rfl (by kernel_rfl) (by kernel_rfl) (by kernel_rfl) (fun _ _ _ h => h) (Or.inl ⟨by rfl, ?hyg3_4_4⟩) ?restg3_4_4
                          case hyg3_4_4 => (intro w hSw; clear hSw; go_simp; (all_goals with_reducible rfl))
                          try simp only [Act.put, List.setIfInBounds_toArray, List.set_cons_zero, List.set_cons_succ, List.getElem_toArray, List.getElem_cons_succ, List.getElem_cons_zero]
                          refine wpAnyF_pure (i := 6) (v := ?vg3_5_6) rfl (by kernel_rfl) (by kernel_rfl) (by kernel_rfl) (fun _ _ _ h => h) (Or.inl ⟨by rfl, ?hyg3_5_6⟩) ?restg3_5_6
                          case hyg3_5_6 => (intro w hSw; clear hSw; go_simp; (all_goals with_reducible rfl))
                          try simp only [Act.put, List.setIfInBounds_toArray, List.set_cons_zero, List.set_cons_succ, List.getElem_toArray, List.getElem_cons_succ, List.getElem_cons_zero]
                          refine wpAnyF_pure (i := 7) (v := ?vg3_6_7) rfl (by kernel_rfl) (by kernel_rfl) (by kernel_rfl) (fun _ _ _ h => h) (Or.inl ⟨by rfl, ?hyg3_6_7⟩) ?restg3_6_7
                          case hyg3_6_7 => (intro w hSw; clear hSw; go_simp; (all_goals with_reducible rfl))
                          try simp only [Act.put, List.setIfInBounds_toArray, List.set_cons_zero, List.set_cons_succ, List.getElem_toArray, List.getElem_cons_succ, List.getElem_cons_zero]
                          refine wpAnyF_pure (i := 8) (v := ?vg3_7_8) rfl (by kernel_rfl) (by kernel_rfl) (by kernel_rfl) (fun _ _ _ h => h) (Or.inl ⟨by rfl, ?hyg3_7_8⟩) ?restg3_7_8
                          case hyg3_7_8 => (intro w hSw; clear hSw; go_simp; (all_goals with_reducible rfl))
                          try simp only [Act.put, List.setIfInBounds_toArray, List.set_cons_zero, List.set_cons_succ, List.getElem_toArray, List.getElem_cons_succ, List.getElem_cons_zero]
                          refine wpAnyF_pure (i := 9) (v := ?vg3_8_9) rfl (by kernel_rfl) (by kernel_rfl) (by kernel_rfl) (fun _ _ _ h => h) (Or.inl ⟨by rfl, ?hyg3_8_9⟩) ?restg3_8_9
                          case hyg3_8_9 => (intro w hSw; clear hSw; go_simp; (all_goals with_reducible rfl))
                          try simp only [Act.put, List.setIfInBounds_toArray, List.set_cons_zero, List.set_cons_succ, List.getElem_toArray, List.getElem_cons_succ, List.getElem_cons_zero]
                          refine wpAnyF_take [13, 14, 15] (i := 1) (v := ?vg3_9_1) rfl (by kernel_rfl) (by kernel_rfl) (by kernel_rfl) (by kernel_rfl) (fun _ _ _ h => h) (Or.inl ⟨by rfl, ?hyg3_9_1⟩) (by assumption) ?restg3_9_1
                          case hyg3_9_1 => (intro w hSw; (try dsimp only at hSw); go_simp; (all_goals with_reducible rfl))
                          try simp only [Act.put, List.setIfInBounds_toArray, List.set_cons_zero, List.set_cons_succ, List.getElem_toArray, List.getElem_cons_succ, List.getElem_cons_zero]
                          refine wpAnyF_take [11, 12, 13, 14, 15] (i := 5) (v := ?vg3_10_5) rfl (by kernel_rfl) (by kernel_rfl) (by kernel_rfl) (by kernel_rfl) (fun _ _ _ h => h) (Or.inl ⟨by rfl, ?hyg3_10_5⟩) (by assumption) ?restg3_10_5
                          case hyg3_10_5 => (intro w hSw; (try dsimp only at hSw); go_simp; (all_goals with_reducible rfl))
                          try simp only [Act.put, List.setIfInBounds_toArray, List.set_cons_zero, List.set_cons_succ, List.getElem_toArray, List.getElem_cons_succ, List.getElem_cons_zero]
                          refine wpAnyF_take [11, 12, 13, 14, 15] (i := 10) (v := ?vg3_11_10) rfl (by kernel_rfl) (by kernel_rfl) (by kernel_rfl) (by kernel_rfl) (fun _ _ _ h => h) (Or.inl ⟨by rfl, ?hyg3_11_10⟩) (by assumption) ?restg3_11_10
                          case hyg3_11_10 => (intro w hSw; (try dsimp only at hSw); go_simp; (all_goals with_reducible rfl))
                          try simp only [Act.put, List.setIfInBounds_toArray, List.set_cons_zero, List.set_cons_succ, List.getElem_toArray, List.getElem_cons_succ, List.getElem_cons_zero]
                          refine wpAnyF_pure (i := 11) (v := ?vg3_12_11) rfl (by kernel_rfl) (by kernel_rfl) (by kernel_rfl) (fun _ _ _ h => h) (Or.inl ⟨by rfl, ?hyg3_12_11⟩) ?restg3_12_11
                          case hyg3_12_11 => (intro w hSw; clear hSw; go_simp; (all_goals with_reducible rfl))
                          try simp only [Act.put, List.setIfInBounds_toArray, List.set_cons_zero, List.set_cons_succ, List.getElem_toArray, List.getElem_cons_succ, List.getElem_cons_zero]
                          refine wpAnyF_one (i := 12) (by kernel_rfl) rfl (fun K hK => ?_)
                          go_simp
                          refine hK.out _ _ ⟨bA hHeld.1 _, keepb (bA (Below.refl _ _) _) hHeld.2.1, keepb (bA (Below.refl _ _) _) hHeld.2.2.1, keepb (bA (Below.refl _ _) _) hHeld.2.2.2⟩ (fun hHeld => ?_)
                          clear hK K
                          try simp only [Act.put, List.setIfInBounds_toArray, List.set_cons_zero, List.set_cons_succ, List.getElem_toArray, List.getElem_cons_succ, List.getElem_cons_zero]
                          refine wpAnyF_oneD (i := 13) (by kernel_rfl) (by kernel_rfl) rfl (fun K hK => ?_)
                          refine step_app3 rfl rfl el_mails rfl (own_below HOWN2.out hHeld.1 (Nat.le_refl _)) rfl (rd_newAt _ _ _ 2 1 _ (by simp) rfl).drew (two_ints _ _) hSZ (by have := hHeld.1.size; omega) ?_
                          intro A3 k3 w3 o3 b3 g3 h3
                          have HO3 := hid o3
                          have HB3 := hid b3
                          have HG3 := hid g3
                          have HB4 := hid hHeld.1
                          have cs3 := (HB3.out.cell (p := ⟨s, 4, none⟩) hst).trans hHeld.2.1
                          have fs3 : w3.frozen? ⟨s, 4, none⟩ = false := (HB3.out.frozen (p := ⟨s, 4, none⟩) hst).trans ((HB4.out.frozen (p := ⟨s, 4, none⟩) hD.sz).trans (hD.fz 4))
                          clear o3 b3 g3 h3
                          refine hK.out _ _ ?_
                          clear hK K
                          try simp only [Act.put, List.setIfInBounds_toArray, List.set_cons_zero, List.set_cons_succ, List.getElem_toArray, List.getElem_cons_succ, List.getElem_cons_zero]
                          refine wpAnyF_pure (i := 14) (v := ?vg3_15_14) rfl (by kernel_rfl) (by kernel_rfl) (by kernel_rfl) (fun _ _ _ h => h) (Or.inl ⟨by rfl, ?hyg3_15_14⟩) ?restg3_15_14
                          case hyg3_15_14 => (intro w hSw; clear hSw; go_simp; (all_goals with_reducible rfl))
                          try simp only [Act.put, List.setIfInBounds_toArray, List.set_cons_zero, List.set_cons_succ, List.getElem_toArray, List.getElem_cons_succ, List.getElem_cons_zero]
                          refine wpAnyF_oneD (i := 15) (by kernel_rfl) (by kernel_rfl) rfl (fun K hK => ?_)
                          go_simp
                          refine hK.out _ _ ?_
                          clear hK K
                          try simp only [Act.put, List.setIfInBounds_toArray, List.set_cons_zero, List.set_cons_succ, List.getElem_toArray, List.getElem_cons_succ, List.getElem_cons_zero]
                          refine wpAnyF_done (by kernel_rfl) ?_ _
                          go_wp2_with fail
                          go_roundw
                          case rel =>
                            have k0 : ∀ (o : Nat) (v : Value), o ≠ 4 → wr.cell? ⟨s, o, none⟩ = some v → (w3.setCell ⟨s, 4, none⟩ (.slice A3 (ms.length + 1) k3)).cell? ⟨s, o, none⟩ = some v := fun o v ho h => by
                              have h3 := (HB3.out.cell (p := ⟨s, o, none⟩) hst).trans (keepb HB4.out h)
                              go_simp
                            refine ⟨i3 + 1, q + 2, A3, k3, by omega, by have := HQ.out; omega, by go_num, ⟨k0 0 _ (by decide) hD.c0, k0 1 _ (by decide) hD.c1, k0 2 _ (by decide) hD.c2, k0 3 _ (by decide) hD.c3, ?_, ?_, ?_, ?_⟩, hid ?_, hid ?_, ?_⟩
                            · rw [HVS.out]; simp only [List.length_append, List.length_cons, List.length_nil]; go_simp
                            · intro o
                              have h3 : w3.frozen? ⟨s, o, none⟩ = false := (HB3.out.frozen (p := ⟨s, o, none⟩) hst).trans ((HB4.out.frozen (p := ⟨s, o, none⟩) hss).trans (hD.fz o))
                              go_simp
                            · have h1 := HB4.out.size; have h2 := HB3.out.size; simp; omega
                            · exact ((hD.bl.trans (HB4.out.mono (Nat.le_of_lt hss))).trans (HB3.out.mono (Nat.le_of_lt hst))).setCell (Nat.le_refl s) _
                            · refine ownsRow_setCell_below (own_grown (own_below HOV.out HB4.out (Nat.le_refl _)) HG3.out fun x hx e => ?_) (a := ⟨s, 4, none⟩) (Nat.lt_succ_self s) _
                              have h1 := HVT.out x hx
                              have h2 := (HOWN2.out.lt x e).1
                              omega
                            · rw [HVS.out, List.flatMap_append, List.length_append]; exact ownsRow_setCell_below HO3.out (a := ⟨s, 4, none⟩) hst _
                            · have h1 := HB4.out.size; have h2 := HB3.out.size; simp; omega
                          case measure => simp [intOf]; omega
                        · have hp1z : ¬ (p1 : Int) < (m : Int) := by have h1 := HQ.out; have h2 := HMQ.out; have h3 := HP1.out; omega
                          obtain rfl : i3 = mm := by omega
                          obtain ⟨ms, hms⟩ : ∃ ms, docMails ns (5 + 2 * k) i3 = ms := ⟨_, rfl⟩
                          rw [hms] at hD HOWN2 HDOC
                          clear hms
                          have HRV := hid (rd_own HOV.out)
                          have HRM := hid (rd_own HOWN2.out)
                          have HSB := hid (savedBytes_walk ⟨x0, x1, x2 == 1, vs, ms⟩ wr B B2 d d2 HRV.out HRM.out)
                          have HNO : Hid (encV ⟨x0, x1, x2 == 1, vs, ms⟩ ≠ (b, 0) → decV b = (svZero, 3)) := hid fun h => HDN.out ns HEN.out H60.out (by rw [HDOC.out]; exact h)
                          have HYES : Hid (encV ⟨x0, x1, x2 == 1, vs, ms⟩ = (b, 0) → decV b = (⟨x0, x1, x2 == 1, vs, ms⟩, 0)) := hid fun h => doc_yes HBB.out h
                          have HEB := hid (encV_byte ⟨x0, x1, x2 == 1, vs, ms⟩)
                          generalize encV ⟨x0, x1, x2 == 1, vs, ms⟩ = z at HSB HNO HYES HEB
                          obtain ⟨v, r⟩ := z
                          replace HBW := hid (bT HBC.out (hD.bl.mono (Nat.le_of_eq HSS.out)))
                          obtain ⟨d0, d1, d2', d3, d4, _, _, hbl⟩ := hD
                          have hwr : w.heap.size < wr.heap.size := Nat.lt_trans hzb hss
                          replace g0 := (hbl.cell (p := ⟨w.heap.size, 0, none⟩) hzb).trans q0
                          replace g1 := (hbl.cell (p := ⟨w.heap.size, 1, none⟩) hzb).trans q1
                          replace g2 := (hbl.cell (p := ⟨w.heap.size, 2, none⟩) hzb).trans q2
                          replace g3 := (hbl.cell (p := ⟨w.heap.size, 3, none⟩) hzb).trans q3
                          replace g4 := (hbl.cell (p := ⟨w.heap.size, 4, none⟩) hzb).trans q4
                          replace gf : ∀ o, wr.frozen? ⟨w.heap.size, o, none⟩ = false := fun o => (hbl.frozen (p := ⟨w.heap.size, o, none⟩) hzb).trans (qf o)
                          clear q0 q1 q2 q3 q4 qf
                          unfold svC at HSB
                          simp only at HSB HEB d0 d1 d2' d3 d4
                          clear hbl HVT HX HQ HP1 HMQ HDOC HDS HDN HA3 HMI HM
                          go_wp2_with fail
                          refine HSB.out.mono ?_
                          rintro e w9 ⟨A9, c9, rfl, o9, b9⟩
                          replace d0 := keepb b9 d0
                          replace d1 := keepb b9 d1
                          replace d2' := keepb b9 d2'
                          replace d3 := keepb b9 d3
                          replace d4 := keepb b9 d4
                          replace g0 := keepb b9 g0
                          replace g1 := keepb b9 g1
                          replace g2 := keepb b9 g2
                          replace g3 := keepb b9 g3
                          replace g4 := keepb b9 g4
                          replace gf : ∀ o, w9.frozen? ⟨w.heap.size, o, none⟩ = false := fun o => (b9.frozen (p := ⟨w.heap.size, o, none⟩) hwr).trans (gf o)
                          have gf0 := gf 0
                          have gf1 := gf 1
                          have gf2 := gf 2
                          have gf3 := gf 3
                          have gf4 := gf 4
                          have HBW9 := hid (bT HBW.out b9)
                          have HO8 := hid (own_below HOV.out b9 (Nat.le_refl _))
                          have HO9 := hid (own_below HOWN2.out b9 (Nat.le_refl _))
                          have e1 := run_str w9 36 5 Tryd.underlying36 Tryd.underlying5 (dst := 9) Tryd.underlying9 v A9 v.length c9 _ (rd_own o9)
                          have e2 := run_str w9 36 5 Tryd.underlying36 Tryd.underlying5 (dst := 9) Tryd.underlying9 b A L c _ (rdb HR0.out (by decide) HBW9.out)
                          clear gf b9 o9 HOV HOWN2 HRV HRM HSB
                          try clear hm0
                          try clear hm1
                          try clear hm2
                          try clear hm3
                          try clear hk0
                          try clear hk1
                          try clear hk2
                          try clear hk3
                          try clear hwm
                          try clear hwa
                          try clear hbig
                          try clear hbig2
                          try clear hmn2
                          try clear hme
                          try clear hmz
                          try clear hq1
                          try clear hp1z
                          try clear hk
                          try clear hi3
                          try clear htw
                          try clear hqm
                          try clear hlt
                          try clear hkz
                          try clear hz1
                          try clear hi1
                          try clear hcapI
                          try clear hge
                          try clear hlz
                          try clear hnn
                          try clear h5z
                          try clear HEN
                          try clear H60
                          try clear HBC
                          try clear HIB
                          try clear HD2
                          try clear hsz
                          try clear hb'
                          try clear HOWN
                          try clear HNM
                          by_cases hr : r = 0
                          · subst hr
                            by_cases hvb : v = b
                            · subst hvb
                              have HY0 := hid (HYES.out rfl)
                              clear HNO HYES HEB
                              generalize strOfNums v = s1 at e1 e2
                              go_wp2_with fail
                              refine bodyPost_ret (v := .tuple #[.agg #[.int .i64 x0, .int .i64 x1, .bool (x2 == 1), .slice B vs.length d, .slice B2 ms.length d2], .int .i64 0]) (by simp [results, Tryd.results19, go_sem, *]) rfl ?_
                              rw [HY0.out]
                              refine ⟨B, d, B2, d2, rfl, ?_, ?_, ?_⟩
                              · refine own_more (base := s + 1) ?_ (by omega)
                                repeat (with_reducible refine ownsRow_setCell_below ?_ (by simp; try omega) _)
                                exact HO8.out
                              · refine own_more (base := t) ?_ (by omega)
                                repeat (with_reducible refine ownsRow_setCell_below ?_ (by simp; try omega) _)
                                exact HO9.out
                              · repeat (with_reducible refine Below.setCell ?_ (by simp) _)
                                exact HBW9.out
                            · have HN0 := hid (HNO.out (fun h => hvb (congrArg Prod.fst h)))
                              have hs12 : strOfNums v ≠ strOfNums b := fun h => hvb (strOfNums_inj _ _ HEB.out HBB.out h)
                              clear HNO HYES HEB hvb
                              generalize strOfNums v = s1 at e1 hs12
                              generalize strOfNums b = s2 at e2 hs12
                              have hs12b := str_ne hs12
                              go_wp2_with fail
                              refine bodyPost_ret (v := .tuple #[.agg #[.int .i64 0, .int .i64 0, .bool false, .slice none 0 0, .slice none 0 0], .int .i64 3]) (by simp [results, Tryd.results19, go_sem, *]) rfl ?_
                              rw [HN0.out]
                              refine retSv_zero _ ?_
                              repeat (with_reducible refine Below.setCell ?_ (by simp; try omega) _)
                              exact HBW9.out
                          · have HN0 := hid (HNO.out (fun h => hr (congrArg Prod.snd h)))
                            have heb : (r != 0) = true := by simpa using hr
                            clear HNO HYES HEB hr e1 e2
                            go_wp2_with fail
                            refine bodyPost_ret (v := .tuple #[.agg #[.int .i64 0, .int .i64 0, .bool false, .slice none 0 0, .slice none 0 0], .int .i64 3]) (by simp [results, Tryd.results19, go_sem, *]) rfl ?_
                            rw [HN0.out]
                            refine retSv_zero _ ?_
                            repeat (with_reducible refine Below.setCell ?_ (by simp; try omega) _)
                            exact HBW9.out
      · have hge : ¬ (0 : Int) ≤ (-1 : Int) := by omega
        have g0 := keepb hbel z0
        have g1 := keepb hbel z1
        have g2 := keepb hbel z2
        have g3 := keepb hbel z3
        have g4 := keepb hbel z4
        have gf : ∀ o, wr.frozen? ⟨w.heap.size, o, none⟩ = false := fun o => (hbel.frozen (p := ⟨w.heap.size, o, none⟩) hz1).trans (zf o)
        have HBW := hid (bT HBZ.out hbel)
        have HN0 := HB3
        clear z0 z1 z2 z3 z4 zf
        have gf0 := gf 0
        have gf1 := gf 1
        have gf2 := gf 2
        have gf3 := gf 3
        have gf4 := gf 4
        go_wp2_with fail
        refine bodyPost_ret (v := .tuple #[.agg #[.int .i64 0, .int .i64 0, .bool false, .slice none 0 0, .slice none 0 0], .int .i64 3]) (by simp [results, Tryd.results19, go_sem, *]) rfl ?_
        rw [HN0.out]
        refine retSv_zero _ ?_
        repeat (with_reducible refine Below.setCell ?_ (by simp; try omega) _)
        exact HBW.out
  · have HV := hid (decV_err HU.out he)
    have heb : (e != 0) = true := by simpa using he
    rw [HV.out]
    go_enter Tryd.func19, Tryd.ntmps19
    go_wp2_with fail
    refine (HUN.out _ rz).mono ?_
    rintro e w1 ⟨A1, k1, rfl, o1, b1'⟩
    have HBZ := hid (bT bz b1')
    have z0 : w1.cell? ⟨w.heap.size, 0, none⟩ = some (.int .i64 0) := keepb b1' (by go_simp)
    have z1 : w1.cell? ⟨w.heap.size, 1, none⟩ = some (.int .i64 0) := keepb b1' (by go_simp)
    have z2 : w1.cell? ⟨w.heap.size, 2, none⟩ = some (.bool false) := keepb b1' (by go_simp)
    have z3 : w1.cell? ⟨w.heap.size, 3, none⟩ = some (.slice none 0 0) := keepb b1' (by go_simp)
    have z4 : w1.cell? ⟨w.heap.size, 4, none⟩ = some (.slice none 0 0) := keepb b1' (by go_simp)
    have gf : ∀ o, w1.frozen? ⟨w.heap.size, o, none⟩ = false := fun o => by rw [b1'.frozen (by simp)]; go_simp
    have gf0 := gf 0
    have gf1 := gf 1
    have gf2 := gf 2
    have gf3 := gf 3
    have gf4 := gf 4
    clear b1' o1 bz rz gf
    go_wp2_with fail
    refine bodyPost_ret (v := .tuple #[.agg #[.int .i64 0, .int .i64 0, .bool false, .slice none 0 0, .slice none 0 0], .int .i64 e]) (by simp [results, Tryd.results19, go_sem, *]) rfl (retSv_zero _ ?_)
    repeat (with_reducible refine Below.setCell ?_ (by simp) _)
    exact HBZ.out
end Go.Proofs.YtphgdpjfolkafaaDoor
