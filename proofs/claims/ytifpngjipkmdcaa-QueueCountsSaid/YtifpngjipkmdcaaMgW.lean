/- merge.merged: lists in order made one by a heap of their heads. -/
import Derived.Test.YtifpngjipkmdcaaHpV
namespace Go.Proofs.Ytifpngjipkmdcaa
open Go.ChangeShapes Go.WideShapes Go.ChangeAt Go.RowKit
set_option linter.unusedVariables false
set_option linter.unusedSimpArgs false
theorem grown_cell {w w' : World} {g : Option Nat} (h : w.grownBy w' g) {b o : Nat} (hb : b < w.heap.size) (hne : g ≠ some b) : w'.cell? ⟨b, o, none⟩ = w.cell? ⟨b, o, none⟩ :=
  World.cell?_of_block (w := w) (h.block b hb (fun e => hne e.symm))
theorem grown_frozen {w w' : World} {g : Option Nat} (h : w.grownBy w' g) {b o : Nat} (hb : b < w.heap.size) (hne : g ≠ some b) : w'.frozen? ⟨b, o, none⟩ = w.frozen? ⟨b, o, none⟩ :=
  World.frozen?_of_block (w := w) (h.block b hb (fun e => hne e.symm))
theorem two_mailN (a b : Int) : ∀ u ∈ [Value.int .i64 a, .int .i64 b], u.oneCell' = true := by
  intro u hu; simp at hu; rcases hu with rfl | rfl <;> rfl
theorem drop2_flat {x : Mail} {t l : List Mail} (h : l = x :: t) : (l.flatMap Mail.cells).drop 2 = t.flatMap Mail.cells := by subst h; rfl
def slcLen : Value → Nat
  | .slice _ n _ => n
  | _ => 0
def CapOk (H : List Hd) : Prop := ∀ h ∈ H, h.m.l.length ≤ h.m.c
def Mg1 (l : List (ML Mail)) (w : World) (iv : Value) (wr : World) : Prop :=
  ∃ (k : Nat) (A : Option Addr) (c : Nat) (H : List Hd), iv = .int .i64 (k : Nat) ∧ k ≤ l.length ∧ Hid (HO wr w.heap.size w.heap.size A c H) ∧ Hid (MInv ((l.take k).flatMap fun x => x.l) H []) ∧ Hid (HdOk H) ∧ Hid (CapOk H) ∧ Hid (HeapF hdlt (nthL hd0 H) H.length) ∧ H.length ≤ k ∧ Below w.heap.size w wr
def Mg2 (all : List Mail) (w : World) (ov : Value) (wr : World) : Prop :=
  ∃ (A : Option Addr) (c m : Nat) (H : List Hd) (out : List Mail) (Ao : Option Addr) (co n : Nat), ov = .slice Ao n co ∧ Hid (out.length = n) ∧ Hid (HO wr w.heap.size w.heap.size A c H) ∧ Hid (MInv all H out) ∧ Hid (HdOk H) ∧ Hid (CapOk H) ∧ Hid (HeapF hdlt (nthL hd0 H) H.length) ∧ Hid (H.length = m) ∧ m ≤ 5000 ∧
    Hid (wr.ownsRow (w.heap.size + 1) 62 2 (.slice Ao n co) n (out.flatMap Mail.cells)) ∧ Hid (∀ x, (Value.slice Ao n co).ownBlock = some x → hdBlk A c H ≠ some x) ∧ Below w.heap.size w wr
theorem MInv.len {all out : List Mail} {H : List Hd} (h : MInv all H out) : out.length ≤ all.length ∧ (H ≠ [] → out.length < all.length) := by
  have h1 := h.1.length_eq
  rw [List.length_append] at h1
  refine ⟨by omega, fun hn => ?_⟩
  obtain ⟨x, t, e⟩ := List.exists_cons_of_ne_nil hn
  have h2 := (h.2.2.2 x (by rw [e]; exact List.mem_cons_self ..)).1
  rw [e, List.flatMap_cons, List.length_append] at h1
  have : 0 < x.m.l.length := List.length_pos_iff.2 h2
  omega
theorem HO.grown {w w' : World} {B G : Nat} {A : Option Addr} {c : Nat} {H : List Hd} {g : Option Nat} (h : HO w B G A c H) (hg : w.grownBy w' g) (hne : ∀ y, g = some y → y ≠ G ∧ hdBlk A c H ≠ some y ∧ B ≤ y) : HO w' B G A c H := by
  have hG : g ≠ some G := fun e => (hne G e).1 rfl
  refine ⟨h.le, (grown_cell hg h.lt hG).trans h.all, (grown_cell hg h.lt hG).trans h.ord, (grown_frozen hg h.lt hG).trans h.fz, ⟨own_grown h.row.1 hg fun x hx e => (hne x e).2.1 hx, fun _ _ _ hp => by cases hp⟩, fun x hx => ?_⟩
  exact (h.rd x hx).keep fun p hp => World.cell?_of_block (w := w) (hg.block p.block (Nat.lt_of_lt_of_le hp (Nat.le_trans h.le (Nat.le_of_lt h.lt))) (fun e => by have := (hne p.block e.symm).2.2; omega))
theorem grown_one (w : World) (g o : Nat) (v : Value) : w.grownBy (w.setCell ⟨g, o, none⟩ v) (some g) := grown_setCells g [v] o w
theorem HO.blk_lt {w : World} {B G : Nat} {A : Option Addr} {c : Nat} {H : List Hd} (h : HO w B G A c H) {y : Nat} (hy : hdBlk A c H = some y) : G < y ∧ y < w.heap.size := h.row.1.lt y hy
set_option maxRecDepth 100000 in
set_option maxHeartbeats 4000000 in
theorem merged_walk (l : List (ML Mail)) (w : World) (A : Option Addr) (c : Nat) (hg : Grid Mail.cells 2 w w.heap.size A l) (hl : l.length ≤ 5000) (hs : ∀ x ∈ l, Srt mlt x.l) (hc : ∀ x ∈ l, x.l.length ≤ x.c) (ha : (l.flatMap fun x => x.l).length ≤ 5000) :
    Calls Try.prog 44 #[.slice A l.length c, .func (.func 43) #[] #[]] w (RetS 62 2 w (l.flatMap fun x => x.l).length ((srtOf mlt (l.flatMap fun x => x.l)).flatMap Mail.cells)) := by
  have hta := asHd
  have b1 : Below w.heap.size w (w.alloc (.cells #[.slice none 0 0, .func (.func 43) #[] #[]] 140)) := bA (Below.refl _ _) _
  have HO0 : Hid (HO (w.alloc (.cells #[.slice none 0 0, .func (.func 43) #[] #[]] 140)) w.heap.size w.heap.size none 0 []) := hid ⟨Nat.le_refl _, by go_simp, by go_simp, by go_simp, Heaped.nil, fun h hh => by cases hh⟩
  have HG := hid hg
  have HS := hid hs
  have HC := hid hc
  clear hg hs hc
  go_enter Try.func44, Try.ntmps44
  go_wp2_with fail
  go_loopw [6, 7, 15] (fun _ _ iv wr => Mg1 l w iv wr) (fun _ _ iv _ => l.length - (intOf iv).toNat)
  case atStart => exact ⟨0, none, 0, [], rfl, Nat.zero_le _, HO0, hid MInv.start, hid (fun x hx => by cases hx), hid (fun x hx => by cases hx), hid (fun k _ h => by cases h), Nat.zero_le _, b1⟩
  case round =>
    clear HO0 b1
    obtain ⟨k, A1, c1, H, rfl, hk, HH, HM, HOK, HCAP, HHP, hHk, hbel⟩ := hrel
    by_cases hlt : k < l.length
    · obtain ⟨x, hx⟩ : ∃ x, l[k]? = some x := ⟨_, List.getElem?_eq_getElem hlt⟩
      have hxm := List.mem_of_getElem? hx
      obtain ⟨b, off, rfl, hb, c0⟩ := ml_cell (HG.out.1.below hbel) rfl hx
      have hkz : (k : Int) < (l.length : Int) := by omega
      have htk := take_nextV hx
      have HT : Hid ((l.take (k + 1)).flatMap (fun x => x.l) = (l.take k).flatMap (fun x => x.l) ++ x.l) := hid (by rw [htk, List.flatMap_append]; simp)
      have HRD := hid ((Grid.data HG.out hxm).below hbel)
      have HSX := hid (HS.out x hxm)
      have HCX := hid (HC.out x hxm)
      have HXL : Hid ((l.take (k + 1)).flatMap (fun x => x.l) = (l.take k).flatMap (fun x => x.l) ++ x.l) := HT
      clear hx hxm htk
      by_cases h0 : x.l.length = 0
      · have hz : ¬ (0 : Int) < (x.l.length : Int) := by omega
        have HMX := hid (show MInv ((l.take (k + 1)).flatMap fun x => x.l) H [] by rw [HT.out, List.eq_nil_of_length_eq_zero h0, List.append_nil]; exact HM.out)
        clear HM HT HXL h0
        go_wp2_with fail
        go_roundw
        case rel => exact ⟨k + 1, A1, c1, H, by go_num, by omega, HH, HMX, HOK, HCAP, HHP, by omega, hbel⟩
        case measure => (simp [intOf]) <;> omega
      · have hz : (0 : Int) < (x.l.length : Int) := by omega
        have hxne : x.l ≠ [] := fun e => h0 (by rw [e]; rfl)
        have HNE := hid hxne
        have HOK2 := hid (show HdOk (H ++ [(⟨x, k⟩ : Hd)]) from fun y hy => by
          rcases List.mem_append.1 hy with hy | hy
          · exact HOK.out y hy
          · obtain rfl := List.mem_singleton.1 hy
            exact ⟨HNE.out, by show k ≤ 5000; omega⟩)
        have HPU := hid (hpPush_walk HH.out (⟨x, k⟩ : Hd) HRD.out (by omega) HOK2.out HHP.out)
        have HMX := hid (HM.out.push (k := (⟨x, k⟩ : Hd)) hxne HSX.out HT.out)
        have HCP := hid (show CapOk (H ++ [(⟨x, k⟩ : Hd)]) from fun y hy => by
          rcases List.mem_append.1 hy with hy | hy
          · exact HCAP.out y hy
          · obtain rfl := List.mem_singleton.1 hy
            exact HCX.out)
        clear HM HT HXL h0 hxne HRD
        go_wp2_with fail
        refine HPU.out.mono ?_
        rintro e w1 ⟨rfl, A2, c2, H2, hp2, hh2, ho2, hf2⟩
        have HH2 := hid ho2
        have HP2 := hid hp2
        have HHP2 := hid hh2
        have HB2 := hid (hbel.trans hf2.1)
        have hl2 : H2.length = H.length + 1 := by rw [hp2.length_eq]; simp
        clear ho2 hp2 hh2 hf2
        go_wp2_with fail
        go_roundw
        case rel => exact ⟨k + 1, A2, c2, H2, by go_num, by omega, HH2, hid (HMX.out.perm HP2.out.symm), hid (HOK2.out.perm HP2.out), hid (fun y hy => HCP.out y (HP2.out.mem_iff.1 hy)), HHP2, by omega, HB2.out⟩
        case measure => (simp [intOf]) <;> omega
    · obtain rfl : k = l.length := by omega
      have hkz : ¬ (l.length : Int) < (l.length : Int) := by omega
      have HM0 := hid (show MInv (l.flatMap fun x => x.l) H [] by have := HM.out; rwa [List.take_length] at this)
      have HBE := hid hbel
      generalize hall : (l.flatMap fun x => x.l) = all at *
      have HALL := hid hall
      clear HM HG HS HC hall hbel
      go_wp2_with fail
      go_loopw [8, 9] (fun ov _ wr => Mg2 all w ov wr) (fun ov _ _ => all.length - slcLen ov)
      case atStart => exact ⟨A1, c1, H.length, H, [], none, 0, 0, rfl, hid rfl, HH, HM0, HOK, HCAP, HHP, hid rfl, by omega, hid (World.ownsRow_nil _ _ _ _), hid (fun x hx => by cases hx), HBE.out⟩
      case round =>
        clear HH HM0 HOK HCAP HHP HBE hHk hk hlt hkz
        obtain ⟨A1, c1, m, H, out, Ao, co, n, rfl, HON, HH, HM, HOK, HCAP, HHP, HHL, hm5, HOW, HAP, hbel⟩ := hrel
        have HLEN := hid (hdLen_walk HH.out)
        rw [HHL.out] at HLEN
        rcases Nat.eq_zero_or_pos m with rfl | hm0
        · have hHe : H = [] := List.eq_nil_of_length_eq_zero HHL.out
          have HD := hid (show srtOf mlt all = out by have h := HM.out; rw [hHe] at h; exact h.done)
          have HNL := hid (show all.length = n by rw [← HON.out, ← HD.out, srtOf_len])
          clear hHe
          go_wp2_with fail
          refine HLEN.out.mono ?_
          rintro e w1 ⟨rfl, rfl⟩
          go_wp2_with fail
          go_ret
          rw [HALL.out, HD.out, HNL.out]
          exact ⟨Ao, co, rfl, own_more HOW.out (Nat.le_succ _), hbel⟩
        · obtain ⟨q, rfl⟩ : ∃ q, m = q + 1 := ⟨m - 1, by omega⟩
          have HPO := hid (hpPop_walk HH.out HHL.out (by omega) HOK.out HHP.out)
          have hmz : (0 : Int) < ((q + 1 : Nat) : Int) := by omega
          have hml := HM.out.len
          have hna : n < all.length := by rw [← HON.out]; exact hml.2 (fun e => by have := HHL.out; rw [e] at this; cases this)
          clear hml
          go_wp2_with fail
          refine HLEN.out.mono ?_
          rintro e w1 ⟨rfl, rfl⟩
          go_wp2_with fail
          refine HPO.out.mono ?_
          rintro e w2 ⟨k, H0, rfl, hl0, hp0, hlst, hh0, ho0, hf0⟩
          have hkm := hp0.mem_iff.1 (List.mem_cons_self (a := k) (l := H0))
          have hkr := (HH.out.rd k hkm).below hf0.1
          obtain ⟨hkne, hki⟩ := HOK.out k hkm
          have hkc := HCAP.out k hkm
          have HKM := hid hkm
          have HP0 := hid hp0
          have HLS := hid hlst
          have HH0 := hid hh0
          have HO0 := hid ho0
          have HOW2 := hid (own_hf HOW.out hf0 (fun y hy => ⟨by have := (HOW.out.lt y hy).1; omega, HAP.out y hy⟩))
          have HAP2 : Hid (∀ y, (Value.slice Ao n co).ownBlock = some y → hdBlk A1 c1 H0 ≠ some y) := hid fun y hy e => by
            rcases hf0.2.2 y e with e2 | e2
            · exact HAP.out y hy e2
            · have := (HOW.out.lt y hy).2; omega
          have HB2 := hid (hbel.trans hf0.1)
          clear hkm hp0 hlst hh0 ho0 hf0 HOW HAP HH HLEN HPO hbel
          obtain ⟨⟨kA, kc, kl⟩, ki⟩ := k
          simp only at hkr hkne hki hkc
          obtain ⟨x, t, hkt⟩ := List.exists_cons_of_ne_nil hkne
          have HKT := hid hkt
          have hkp : 0 < kl.length := List.length_pos_iff.2 hkne
          obtain ⟨b, off, rfl, hb, hkcell⟩ := hkr.2 hkp
          have u0 : w2.cell? ⟨b, off, none⟩ = some (.int .i64 x.to) := hkcell 0 _ (by rw [hkt]; rfl)
          have u1 : w2.cell? ⟨b, off + 1, none⟩ = some (.int .i64 x.val) := hkcell 1 _ (by rw [hkt]; rfl)
          have htl : t.length = kl.length - 1 := by rw [hkt]; rfl
          have HRK := hid (hkr.cut (k := 1) (cap := kc) (by omega) hkc)
          rw [Nat.one_mul, drop2_flat hkt] at HRK
          have HTL := hid htl
          clear hkt hkne hkcell hkr htl
          dsimp only
          generalize kl.length = kn at *
          have hkn0 : (0 : Int) < (kn : Int) := by omega
          have hkn1 : (1 : Int) ≤ (kn : Int) := by omega
          have hkcz : (kn : Int) ≤ (kc : Int) := by omega
          have hSZ : (n + 1) * 16 ≤ 140737488355328 := by omega
          obtain ⟨P, hP⟩ : ∃ P, w2.heap.size = P := ⟨_, rfl⟩
          have HPP := hid hP
          have hGP : w.heap.size < P := by have := HO0.out.lt; omega
          have hbP : b < P := by omega
          have HPO : Hid ((Value.slice Ao n co).ownBlock ≠ some P) := hid fun e => by have := (HOW2.out.lt P e).2; omega
          have HPM := hid (HM.out.perm HP0.out.symm)
          have HKO := hid (HOK.out.perm HP0.out)
          have HKC : Hid (CapOk (⟨⟨some ⟨b, off, none⟩, kc, kl⟩, ki⟩ :: H0)) := hid fun y hy => HCAP.out y (HP0.out.mem_iff.1 hy)
          have HNX : Hid ((out ++ [x]).length = n + 1) := hid (by rw [List.length_append, HON.out]; rfl)
          have HCX : Hid (out.flatMap Mail.cells ++ [.int .i64 x.to, .int .i64 x.val] = (out ++ [x]).flatMap Mail.cells) := hid (by rw [List.flatMap_append]; rfl)
          clear HM HOK HCAP HHP
          by_cases hk1 : kn = 1
          · have hkz : ¬ (0 : Int) < (kn : Int) - 1 := by omega
            have hte : t = [] := List.eq_nil_of_length_eq_zero (by rw [HTL.out]; omega)
            have HMN := hid (show MInv all H0 (out ++ [x]) from by
              rcases HPM.out.pop (k := ⟨⟨some ⟨b, off, none⟩, kc, kl⟩, ki⟩) HKT.out HLS.out with h | h
              · exact h
              · exact absurd hte h)
            clear hte hk1
            go_wp2_with (at_builtin; refine wp_app3 (news := [.int .i64 x.to, .int .i64 x.val]) (B := P + 2) _ rfl rfl el_mails rfl (own_below HOW2.out (bA (bA (Below.refl _ _) _) _) (Nat.le_refl _)) rfl (rd_newAt _ _ _ 2 1 (P + 1) (by simp [HPP.out]) rfl) (two_mailN _ _) hSZ (by simp; omega) ?_; intro A5 c5 w5 o5 b5 g5 h5; have cP0 : w5.cell? ⟨P, 0, none⟩ = some (.slice (some ⟨b, off, none⟩) kn kc) := (grown_cell g5 (by simp; omega) HPO.out).trans (by go_simp); have cP1 : w5.cell? ⟨P, 1, none⟩ = some (.int .i64 (ki : Nat)) := (grown_cell g5 (by simp; omega) HPO.out).trans (by go_simp); have fP : ∀ o, w5.frozen? ⟨P, o, none⟩ = false := (fun o => (grown_frozen g5 (by simp; omega) HPO.out).trans (by go_simp)); have fP0 := fP 0; have HO5 := hid o5; have HB5 := hid b5; have HG5 := hid g5; have H5 := hid h5; have HFP := hid fP; clear o5 b5 g5 h5 fP)
            have HG2 : Hid (w2.grownBy w5 (Value.slice Ao n co).ownBlock) := hid ⟨HG5.out.os, HG5.out.tape, HG5.out.output, by have := HG5.out.size; simp at this; omega, fun y hy hne => (HG5.out.block y (by simp; omega) hne).trans ((bA (bA (Below.refl w2.heap.size w2) _) _).block y hy)⟩
            have HH5 := hid (HO0.out.grown HG2.out (fun y hy => ⟨by have := (HOW2.out.lt y hy).1; omega, HAP2.out y hy, by have := (HOW2.out.lt y hy).1; omega⟩))
            have HN5 : Hid (∀ y, (Value.slice A5 (n + 1) c5).ownBlock = some y → (∃ z, (Value.slice Ao n co).ownBlock = some z ∧ z = y) ∨ P < y) := hid fun y hy => by
              rcases H5.out with h | h
              · rw [h] at hy; exact .inl ⟨y, hy, rfl⟩
              · rw [h] at hy; injection hy with hy; simp at hy; exact .inr (by omega)
            have HAP5 : Hid (∀ y, (Value.slice A5 (n + 1) c5).ownBlock = some y → hdBlk A1 c1 H0 ≠ some y ∧ y ≠ P) := hid fun y hy => by
              rcases HN5.out y hy with ⟨z, hz, rfl⟩ | hz
              · refine ⟨HAP2.out z hz, fun e => ?_⟩
                have := (HOW2.out.lt z hz).2; omega
              · refine ⟨fun e => ?_, fun e => by omega⟩
                have := (HO0.out.blk_lt e).2; omega
            have hP5 : P < w5.heap.size := by have := HG5.out.size; simp at this; omega
            have HHF := hid (fun v => HH5.out.grown (grown_one w5 P 0 v) (fun y hy => by injection hy with hy; subst hy; exact ⟨by omega, fun e => by have := (HO0.out.blk_lt e).2; omega, by omega⟩))
            have HOF := hid (fun v => own_grown HO5.out (grown_one w5 P 0 v) (fun y hy e => by injection e with e; exact (HAP5.out y hy).2 e.symm))
            have HBG := hid (fun v => (((bA (bA (Below.refl w2.heap.size w2) (.cells #[.slice (some ⟨b, off, none⟩) kn kc, .int .i64 (ki : Nat)] 142)) (.cells #[.int .i64 x.to, .int .i64 x.val] 62)).mono (show w.heap.size ≤ w2.heap.size by omega)).trans ((HB5.out.mono (Nat.le_succ w.heap.size)).setCell (p := ⟨P, 0, none⟩) (by show w.heap.size ≤ P; omega) v)))
            have HBF := hid (fun v => HB2.out.trans (HBG.out v))
            go_roundw
            case rel => exact ⟨A1, c1, q, H0, out ++ [x], A5, c5, n + 1, rfl, HNX, hid (HHF.out _), HMN, hid (fun y hy => HKO.out y (List.mem_cons_of_mem _ hy)), hid (fun y hy => HKC.out y (List.mem_cons_of_mem _ hy)), hid (by rw [hl0]; exact HH0.out), hid hl0, by omega, hid (by rw [← HCX.out]; exact HOF.out _), hid (fun y hy => (HAP5.out y hy).1), HBF.out _⟩
            case measure => simp only [slcLen]; omega
          · have hkz : (0 : Int) < (kn : Int) - 1 := by omega
            have hkc1 : ¬ kc = 1 := by omega
            have htne : t ≠ [] := fun e => by have := HTL.out; rw [e] at this; simp at this; omega
            have HMN := hid (MInv.less (k := ⟨⟨some ⟨b, off, none⟩, kc, kl⟩, ki⟩) (k' := ⟨⟨some ⟨b, off + 2, none⟩, kc - 1, t⟩, ki⟩) HPM.out HKT.out HLS.out rfl htne)
            have HOK3 : Hid (HdOk (H0 ++ [(⟨⟨some ⟨b, off + 2, none⟩, kc - 1, t⟩, ki⟩ : Hd)])) := hid fun y hy => by
              rcases List.mem_append.1 hy with hy | hy
              · exact HKO.out y (List.mem_cons_of_mem _ hy)
              · obtain rfl := List.mem_singleton.1 hy
                exact ⟨htne, hki⟩
            have HKC3 : Hid (CapOk (H0 ++ [(⟨⟨some ⟨b, off + 2, none⟩, kc - 1, t⟩, ki⟩ : Hd)])) := hid fun y hy => by
              rcases List.mem_append.1 hy with hy | hy
              · exact HKC.out y (List.mem_cons_of_mem _ hy)
              · obtain rfl := List.mem_singleton.1 hy
                show t.length ≤ kc - 1
                rw [HTL.out]; omega
            have HRK2 : Hid (Rd w2 w.heap.size (some ⟨b, off + 2, none⟩) 2 t.length (t.flatMap Mail.cells)) := hid (by
              have h := HRK.out
              rw [if_neg hkc1, ← HTL.out] at h
              simpa [addr_add] using h)
            have HPU : Hid (∀ V : World, HO V w.heap.size w.heap.size A1 c1 H0 → Rd V w.heap.size (some ⟨b, off + 2, none⟩) 2 t.length (t.flatMap Mail.cells) → Calls Try.prog 38 #[.iface 137 (.pointer (some ⟨w.heap.size, 0, none⟩)), .iface 142 (.agg #[.slice (some ⟨b, off + 2, none⟩) (kn - 1) (kc - 1), .int .i64 (ki : Nat)])] V fun e w' => e = .returned (.tuple #[]) ∧ ∃ A' c' H', H'.Perm (H0 ++ [(⟨⟨some ⟨b, off + 2, none⟩, kc - 1, t⟩, ki⟩ : Hd)]) ∧ HeapF hdlt (nthL hd0 H') H'.length ∧ HO w' w.heap.size w.heap.size A' c' H' ∧ HF V w' w.heap.size (hdBlk A1 c1 H0) (hdBlk A' c' H')) := hid fun V h1 h2 => by
              have h := hpPush_walk h1 (⟨⟨some ⟨b, off + 2, none⟩, kc - 1, t⟩, ki⟩ : Hd) h2 (by rw [hl0]; omega) HOK3.out (by rw [hl0]; exact HH0.out)
              dsimp only at h
              rw [HTL.out] at h
              exact h
            clear htne hk1
            go_wp2_with (at_builtin; refine wp_app3 (news := [.int .i64 x.to, .int .i64 x.val]) (B := P + 2) _ rfl rfl el_mails rfl (own_below HOW2.out (bA (bA (Below.refl _ _) _) _) (Nat.le_refl _)) rfl (rd_newAt _ _ _ 2 1 (P + 1) (by simp [HPP.out]) rfl) (two_mailN _ _) hSZ (by simp; omega) ?_; intro A5 c5 w5 o5 b5 g5 h5; have cP0 : w5.cell? ⟨P, 0, none⟩ = some (.slice (some ⟨b, off, none⟩) kn kc) := (grown_cell g5 (by simp; omega) HPO.out).trans (by go_simp); have cP1 : w5.cell? ⟨P, 1, none⟩ = some (.int .i64 (ki : Nat)) := (grown_cell g5 (by simp; omega) HPO.out).trans (by go_simp); have fP : ∀ o, w5.frozen? ⟨P, o, none⟩ = false := (fun o => (grown_frozen g5 (by simp; omega) HPO.out).trans (by go_simp)); have fP0 := fP 0; have HO5 := hid o5; have HB5 := hid b5; have HG5 := hid g5; have H5 := hid h5; have HFP := hid fP; clear o5 b5 g5 h5 fP)
            have HG2 : Hid (w2.grownBy w5 (Value.slice Ao n co).ownBlock) := hid ⟨HG5.out.os, HG5.out.tape, HG5.out.output, by have := HG5.out.size; simp at this; omega, fun y hy hne => (HG5.out.block y (by simp; omega) hne).trans ((bA (bA (Below.refl w2.heap.size w2) _) _).block y hy)⟩
            have HH5 := hid (HO0.out.grown HG2.out (fun y hy => ⟨by have := (HOW2.out.lt y hy).1; omega, HAP2.out y hy, by have := (HOW2.out.lt y hy).1; omega⟩))
            have HN5 : Hid (∀ y, (Value.slice A5 (n + 1) c5).ownBlock = some y → (∃ z, (Value.slice Ao n co).ownBlock = some z ∧ z = y) ∨ P < y) := hid fun y hy => by
              rcases H5.out with h | h
              · rw [h] at hy; exact .inl ⟨y, hy, rfl⟩
              · rw [h] at hy; injection hy with hy; simp at hy; exact .inr (by omega)
            have HAP5 : Hid (∀ y, (Value.slice A5 (n + 1) c5).ownBlock = some y → hdBlk A1 c1 H0 ≠ some y ∧ y ≠ P) := hid fun y hy => by
              rcases HN5.out y hy with ⟨z, hz, rfl⟩ | hz
              · refine ⟨HAP2.out z hz, fun e => ?_⟩
                have := (HOW2.out.lt z hz).2; omega
              · refine ⟨fun e => ?_, fun e => by omega⟩
                have := (HO0.out.blk_lt e).2; omega
            have hP5 : P < w5.heap.size := by have := HG5.out.size; simp at this; omega
            have HHF := hid (fun v => HH5.out.grown (grown_one w5 P 0 v) (fun y hy => by injection hy with hy; subst hy; exact ⟨by omega, fun e => by have := (HO0.out.blk_lt e).2; omega, by omega⟩))
            have HOF := hid (fun v => own_grown HO5.out (grown_one w5 P 0 v) (fun y hy e => by injection e with e; exact (HAP5.out y hy).2 e.symm))
            have HBG := hid (fun v => (((bA (bA (Below.refl w2.heap.size w2) (.cells #[.slice (some ⟨b, off, none⟩) kn kc, .int .i64 (ki : Nat)] 142)) (.cells #[.int .i64 x.to, .int .i64 x.val] 62)).mono (show w.heap.size ≤ w2.heap.size by omega)).trans ((HB5.out.mono (Nat.le_succ w.heap.size)).setCell (p := ⟨P, 0, none⟩) (by show w.heap.size ≤ P; omega) v)))
            have HBF := hid (fun v => HB2.out.trans (HBG.out v))
            have HRV := hid (fun v => HRK2.out.below (HBG.out v))
            refine (HPU.out _ (HHF.out _) (HRV.out _)).mono ?_
            rintro e w6 ⟨rfl, A6, c6, H6, hp6, hh6, ho6, hf6⟩
            have HP6 := hid hp6
            have HH6 := hid hh6
            have HO6 := hid ho6
            have HW6 := hid (own_hf (HOF.out _) hf6 (fun y hy => ⟨by have := (HO5.out.lt y hy).1; omega, (HAP5.out y hy).1⟩))
            have HA6 : Hid (∀ y, (Value.slice A5 (n + 1) c5).ownBlock = some y → hdBlk A6 c6 H6 ≠ some y) := hid fun y hy e => by
              rcases hf6.2.2 y e with e2 | e2
              · exact (HAP5.out y hy).1 e2
              · have := (HO5.out.lt y hy).2
                simp at e2; omega
            have HB6 := hid ((HBF.out _).trans hf6.1)
            have hl6 : H6.length = q + 1 := by rw [hp6.length_eq, List.length_append, hl0]; rfl
            clear hp6 hh6 ho6 hf6
            go_wp2_with fail
            go_roundw
            case rel => exact ⟨A6, c6, q + 1, H6, out ++ [x], A5, c5, n + 1, rfl, HNX, HO6, hid (HMN.out.perm HP6.out.symm), hid (HOK3.out.perm HP6.out), hid (fun y hy => HKC3.out y (HP6.out.mem_iff.1 hy)), HH6, hid hl6, hm5, hid (by rw [← HCX.out]; exact HW6.out), HA6, HB6.out⟩
            case measure => simp only [slcLen]; omega
end Go.Proofs.Ytifpngjipkmdcaa
