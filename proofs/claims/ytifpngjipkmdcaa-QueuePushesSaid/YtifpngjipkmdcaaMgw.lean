/- MgW, MgL, MgR, LMerg: joined. -/
import Derived.Test.YtifpngjipkmdcaaMhp
import Derived.Test.YtifpngjipkmdcaaOrds
import Derived.Test.YtifpngjipkmdcaaMls
import Derived.Test.YtifpngjipkmdcaaStateD
import Derived.Test.YtifpngjipkmdcaaRegF
/- merge.merged: lists in order made one by a heap of their heads. -/
namespace Go.Proofs.Ytifpngjipkmdcaa
open Go.ChangeShapes Go.WideShapes Go.ChangeAt Go.RowKit
set_option linter.unusedVariables false
set_option linter.unusedSimpArgs false
theorem grown_cell {w w' : World} {g : Option Nat} (h : w.grownBy w' g) {b o : Nat} (hb : b < w.heap.size) (hne : g ≠ some b) : w'.cell? ⟨b, o, none⟩ = w.cell? ⟨b, o, none⟩ :=
  World.cell?_of_block (w := w) (h.block b hb (fun e => hne e.symm))
theorem grown_frozen {w w' : World} {g : Option Nat} (h : w.grownBy w' g) {b o : Nat} (hb : b < w.heap.size) (hne : g ≠ some b) : w'.frozen? ⟨b, o, none⟩ = w.frozen? ⟨b, o, none⟩ :=
  World.frozen?_of_block (w := w) (h.block b hb (fun e => hne e.symm))
theorem two_mailN (a b : Int) : ∀ u ∈ [Value.int .i64 a, .int .i64 b], u.oneCell' = true := by
  intro u hu; simp at hu; rcases hu with rfl | rfl <;> rfl
theorem drop2_flat {x : Mail} {t l : List Mail} (h : l = x :: t) : (l.flatMap Mail.cells).drop 2 = t.flatMap Mail.cells := by subst h; rfl
def slcLen : Value → Nat
  | .slice _ n _ => n
  | _ => 0
def CapOk (H : List Hd) : Prop := ∀ h ∈ H, h.m.l.length ≤ h.m.c
def Mg1 (l : List (ML Mail)) (w : World) (iv : Value) (wr : World) : Prop :=
  ∃ (k : Nat) (A : Option Addr) (c : Nat) (H : List Hd), iv = .int .i64 (k : Nat) ∧ k ≤ l.length ∧ Hid (HO wr w.heap.size w.heap.size A c H) ∧ Hid (MInv ((l.take k).flatMap fun x => x.l) H []) ∧ Hid (HdOk H) ∧ Hid (CapOk H) ∧ Hid (HeapF hdlt (nthL hd0 H) H.length) ∧ H.length ≤ k ∧ Below w.heap.size w wr
def Mg2 (all : List Mail) (w : World) (ov : Value) (wr : World) : Prop :=
  ∃ (A : Option Addr) (c m : Nat) (H : List Hd) (out : List Mail) (Ao : Option Addr) (co n : Nat), ov = .slice Ao n co ∧ Hid (out.length = n) ∧ Hid (HO wr w.heap.size w.heap.size A c H) ∧ Hid (MInv all H out) ∧ Hid (HdOk H) ∧ Hid (CapOk H) ∧ Hid (HeapF hdlt (nthL hd0 H) H.length) ∧ Hid (H.length = m) ∧ m ≤ 5000 ∧
    Hid (wr.ownsRow (w.heap.size + 1) 62 2 (.slice Ao n co) n (out.flatMap Mail.cells)) ∧ Hid (∀ x, (Value.slice Ao n co).ownBlock = some x → hdBlk A c H ≠ some x) ∧ Below w.heap.size w wr
theorem MInv.len {all out : List Mail} {H : List Hd} (h : MInv all H out) : out.length ≤ all.length ∧ (H ≠ [] → out.length < all.length) := by
  have h1 := h.1.length_eq
  rw [List.length_append] at h1
  refine ⟨by omega, fun hn => ?_⟩
  obtain ⟨x, t, e⟩ := List.exists_cons_of_ne_nil hn
  have h2 := (h.2.2.2 x (by rw [e]; exact List.mem_cons_self ..)).1
  rw [e, List.flatMap_cons, List.length_append] at h1
  have : 0 < x.m.l.length := List.length_pos_iff.2 h2
  omega
theorem HO.grown {w w' : World} {B G : Nat} {A : Option Addr} {c : Nat} {H : List Hd} {g : Option Nat} (h : HO w B G A c H) (hg : w.grownBy w' g) (hne : ∀ y, g = some y → y ≠ G ∧ hdBlk A c H ≠ some y ∧ B ≤ y) : HO w' B G A c H := by
  have hG : g ≠ some G := fun e => (hne G e).1 rfl
  refine ⟨h.le, (grown_cell hg h.lt hG).trans h.all, (grown_cell hg h.lt hG).trans h.ord, (grown_frozen hg h.lt hG).trans h.fz, ⟨own_grown h.row.1 hg fun x hx e => (hne x e).2.1 hx, fun _ _ _ hp => by cases hp⟩, fun x hx => ?_⟩
  exact (h.rd x hx).keep fun p hp => World.cell?_of_block (w := w) (hg.block p.block (Nat.lt_of_lt_of_le hp (Nat.le_trans h.le (Nat.le_of_lt h.lt))) (fun e => by have := (hne p.block e.symm).2.2; omega))
theorem grown_one (w : World) (g o : Nat) (v : Value) : w.grownBy (w.setCell ⟨g, o, none⟩ v) (some g) := grown_setCells g [v] o w
theorem HO.blk_lt {w : World} {B G : Nat} {A : Option Addr} {c : Nat} {H : List Hd} (h : HO w B G A c H) {y : Nat} (hy : hdBlk A c H = some y) : G < y ∧ y < w.heap.size := h.row.1.lt y hy
set_option maxRecDepth 100000 in
set_option maxHeartbeats 4000000 in
theorem merged_walk (l : List (ML Mail)) (w : World) (A : Option Addr) (c : Nat) (hg : Grid Mail.cells 2 w w.heap.size A l) (hl : l.length ≤ 5000) (hs : ∀ x ∈ l, Srt mlt x.l) (hc : ∀ x ∈ l, x.l.length ≤ x.c) (ha : (l.flatMap fun x => x.l).length ≤ 5000) :
    Calls Try.prog 44 #[.slice A l.length c, .func (.func 43) #[] #[]] w (RetS 62 2 w (l.flatMap fun x => x.l).length ((srtOf mlt (l.flatMap fun x => x.l)).flatMap Mail.cells)) := by
  have hta := asHd
  have b1 : Below w.heap.size w (w.alloc (.cells #[.slice none 0 0, .func (.func 43) #[] #[]] 140)) := bA (Below.refl _ _) _
  have HO0 : Hid (HO (w.alloc (.cells #[.slice none 0 0, .func (.func 43) #[] #[]] 140)) w.heap.size w.heap.size none 0 []) := hid ⟨Nat.le_refl _, by go_simp, by go_simp, by go_simp, Heaped.nil, fun h hh => by cases hh⟩
  have HG := hid hg
  have HS := hid hs
  have HC := hid hc
  clear hg hs hc
  go_enter Try.func44, Try.ntmps44
  go_wp2_with fail
  go_loopw [6, 7, 15] (fun _ _ iv wr => Mg1 l w iv wr) (fun _ _ iv _ => l.length - (intOf iv).toNat)
  case atStart => exact ⟨0, none, 0, [], rfl, Nat.zero_le _, HO0, hid MInv.start, hid (fun x hx => by cases hx), hid (fun x hx => by cases hx), hid (fun k _ h => by cases h), Nat.zero_le _, b1⟩
  case round =>
    clear HO0 b1
    obtain ⟨k, A1, c1, H, rfl, hk, HH, HM, HOK, HCAP, HHP, hHk, hbel⟩ := hrel
    by_cases hlt : k < l.length
    · obtain ⟨x, hx⟩ : ∃ x, l[k]? = some x := ⟨_, List.getElem?_eq_getElem hlt⟩
      have hxm := List.mem_of_getElem? hx
      obtain ⟨b, off, rfl, hb, c0⟩ := ml_cell (HG.out.1.below hbel) rfl hx
      have hkz : (k : Int) < (l.length : Int) := by omega
      have htk := take_nextV hx
      have HT : Hid ((l.take (k + 1)).flatMap (fun x => x.l) = (l.take k).flatMap (fun x => x.l) ++ x.l) := hid (by rw [htk, List.flatMap_append]; simp)
      have HRD := hid ((Grid.data HG.out hxm).below hbel)
      have HSX := hid (HS.out x hxm)
      have HCX := hid (HC.out x hxm)
      have HXL : Hid ((l.take (k + 1)).flatMap (fun x => x.l) = (l.take k).flatMap (fun x => x.l) ++ x.l) := HT
      clear hx hxm htk
      by_cases h0 : x.l.length = 0
      · have hz : ¬ (0 : Int) < (x.l.length : Int) := by omega
        have HMX := hid (show MInv ((l.take (k + 1)).flatMap fun x => x.l) H [] by rw [HT.out, List.eq_nil_of_length_eq_zero h0, List.append_nil]; exact HM.out)
        clear HM HT HXL h0
        go_wp2_with fail
        go_roundw
        case rel => exact ⟨k + 1, A1, c1, H, by go_num, by omega, HH, HMX, HOK, HCAP, HHP, by omega, hbel⟩
        case measure => (simp [intOf]) <;> omega
      · have hz : (0 : Int) < (x.l.length : Int) := by omega
        have hxne : x.l ≠ [] := fun e => h0 (by rw [e]; rfl)
        have HNE := hid hxne
        have HOK2 := hid (show HdOk (H ++ [(⟨x, k⟩ : Hd)]) from fun y hy => by
          rcases List.mem_append.1 hy with hy | hy
          · exact HOK.out y hy
          · obtain rfl := List.mem_singleton.1 hy
            exact ⟨HNE.out, by show k ≤ 5000; omega⟩)
        have HPU := hid (hpPush_walk HH.out (⟨x, k⟩ : Hd) HRD.out (by omega) HOK2.out HHP.out)
        have HMX := hid (HM.out.push (k := (⟨x, k⟩ : Hd)) hxne HSX.out HT.out)
        have HCP := hid (show CapOk (H ++ [(⟨x, k⟩ : Hd)]) from fun y hy => by
          rcases List.mem_append.1 hy with hy | hy
          · exact HCAP.out y hy
          · obtain rfl := List.mem_singleton.1 hy
            exact HCX.out)
        clear HM HT HXL h0 hxne HRD
        go_wp2_with fail
        refine HPU.out.mono ?_
        rintro e w1 ⟨rfl, A2, c2, H2, hp2, hh2, ho2, hf2⟩
        have HH2 := hid ho2
        have HP2 := hid hp2
        have HHP2 := hid hh2
        have HB2 := hid (hbel.trans hf2.1)
        have hl2 : H2.length = H.length + 1 := by rw [hp2.length_eq]; simp
        clear ho2 hp2 hh2 hf2
        go_wp2_with fail
        go_roundw
        case rel => exact ⟨k + 1, A2, c2, H2, by go_num, by omega, HH2, hid (HMX.out.perm HP2.out.symm), hid (HOK2.out.perm HP2.out), hid (fun y hy => HCP.out y (HP2.out.mem_iff.1 hy)), HHP2, by omega, HB2.out⟩
        case measure => (simp [intOf]) <;> omega
    · obtain rfl : k = l.length := by omega
      have hkz : ¬ (l.length : Int) < (l.length : Int) := by omega
      have HM0 := hid (show MInv (l.flatMap fun x => x.l) H [] by have := HM.out; rwa [List.take_length] at this)
      have HBE := hid hbel
      generalize hall : (l.flatMap fun x => x.l) = all at *
      have HALL := hid hall
      clear HM HG HS HC hall hbel
      go_wp2_with fail
      go_loopw [8, 9] (fun ov _ wr => Mg2 all w ov wr) (fun ov _ _ => all.length - slcLen ov)
      case atStart => exact ⟨A1, c1, H.length, H, [], none, 0, 0, rfl, hid rfl, HH, HM0, HOK, HCAP, HHP, hid rfl, by omega, hid (World.ownsRow_nil _ _ _ _), hid (fun x hx => by cases hx), HBE.out⟩
      case round =>
        clear HH HM0 HOK HCAP HHP HBE hHk hk hlt hkz
        obtain ⟨A1, c1, m, H, out, Ao, co, n, rfl, HON, HH, HM, HOK, HCAP, HHP, HHL, hm5, HOW, HAP, hbel⟩ := hrel
        have HLEN := hid (hdLen_walk HH.out)
        rw [HHL.out] at HLEN
        rcases Nat.eq_zero_or_pos m with rfl | hm0
        · have hHe : H = [] := List.eq_nil_of_length_eq_zero HHL.out
          have HD := hid (show srtOf mlt all = out by have h := HM.out; rw [hHe] at h; exact h.done)
          have HNL := hid (show all.length = n by rw [← HON.out, ← HD.out, srtOf_len])
          clear hHe
          go_wp2_with fail
          refine HLEN.out.mono ?_
          rintro e w1 ⟨rfl, rfl⟩
          go_wp2_with fail
          go_ret
          rw [HALL.out, HD.out, HNL.out]
          exact ⟨Ao, co, rfl, own_more HOW.out (Nat.le_succ _), hbel⟩
        · obtain ⟨q, rfl⟩ : ∃ q, m = q + 1 := ⟨m - 1, by omega⟩
          have HPO := hid (hpPop_walk HH.out HHL.out (by omega) HOK.out HHP.out)
          have hmz : (0 : Int) < ((q + 1 : Nat) : Int) := by omega
          have hml := HM.out.len
          have hna : n < all.length := by rw [← HON.out]; exact hml.2 (fun e => by have := HHL.out; rw [e] at this; cases this)
          clear hml
          go_wp2_with fail
          refine HLEN.out.mono ?_
          rintro e w1 ⟨rfl, rfl⟩
          go_wp2_with fail
          refine HPO.out.mono ?_
          rintro e w2 ⟨k, H0, rfl, hl0, hp0, hlst, hh0, ho0, hf0⟩
          have hkm := hp0.mem_iff.1 (List.mem_cons_self (a := k) (l := H0))
          have hkr := (HH.out.rd k hkm).below hf0.1
          obtain ⟨hkne, hki⟩ := HOK.out k hkm
          have hkc := HCAP.out k hkm
          have HKM := hid hkm
          have HP0 := hid hp0
          have HLS := hid hlst
          have HH0 := hid hh0
          have HO0 := hid ho0
          have HOW2 := hid (own_hf HOW.out hf0 (fun y hy => ⟨by have := (HOW.out.lt y hy).1; omega, HAP.out y hy⟩))
          have HAP2 : Hid (∀ y, (Value.slice Ao n co).ownBlock = some y → hdBlk A1 c1 H0 ≠ some y) := hid fun y hy e => by
            rcases hf0.2.2 y e with e2 | e2
            · exact HAP.out y hy e2
            · have := (HOW.out.lt y hy).2; omega
          have HB2 := hid (hbel.trans hf0.1)
          clear hkm hp0 hlst hh0 ho0 hf0 HOW HAP HH HLEN HPO hbel
          obtain ⟨⟨kA, kc, kl⟩, ki⟩ := k
          simp only at hkr hkne hki hkc
          obtain ⟨x, t, hkt⟩ := List.exists_cons_of_ne_nil hkne
          have HKT := hid hkt
          have hkp : 0 < kl.length := List.length_pos_iff.2 hkne
          obtain ⟨b, off, rfl, hb, hkcell⟩ := hkr.2 hkp
          have u0 : w2.cell? ⟨b, off, none⟩ = some (.int .i64 x.to) := hkcell 0 _ (by rw [hkt]; rfl)
          have u1 : w2.cell? ⟨b, off + 1, none⟩ = some (.int .i64 x.val) := hkcell 1 _ (by rw [hkt]; rfl)
          have htl : t.length = kl.length - 1 := by rw [hkt]; rfl
          have HRK := hid (hkr.cut (k := 1) (cap := kc) (by omega) hkc)
          rw [Nat.one_mul, drop2_flat hkt] at HRK
          have HTL := hid htl
          clear hkt hkne hkcell hkr htl
          dsimp only
          generalize kl.length = kn at *
          have hkn0 : (0 : Int) < (kn : Int) := by omega
          have hkn1 : (1 : Int) ≤ (kn : Int) := by omega
          have hkcz : (kn : Int) ≤ (kc : Int) := by omega
          have hSZ : (n + 1) * 16 ≤ 140737488355328 := by omega
          obtain ⟨P, hP⟩ : ∃ P, w2.heap.size = P := ⟨_, rfl⟩
          have HPP := hid hP
          have hGP : w.heap.size < P := by have := HO0.out.lt; omega
          have hbP : b < P := by omega
          have HPO : Hid ((Value.slice Ao n co).ownBlock ≠ some P) := hid fun e => by have := (HOW2.out.lt P e).2; omega
          have HPM := hid (HM.out.perm HP0.out.symm)
          have HKO := hid (HOK.out.perm HP0.out)
          have HKC : Hid (CapOk (⟨⟨some ⟨b, off, none⟩, kc, kl⟩, ki⟩ :: H0)) := hid fun y hy => HCAP.out y (HP0.out.mem_iff.1 hy)
          have HNX : Hid ((out ++ [x]).length = n + 1) := hid (by rw [List.length_append, HON.out]; rfl)
          have HCX : Hid (out.flatMap Mail.cells ++ [.int .i64 x.to, .int .i64 x.val] = (out ++ [x]).flatMap Mail.cells) := hid (by rw [List.flatMap_append]; rfl)
          clear HM HOK HCAP HHP
          by_cases hk1 : kn = 1
          · have hkz : ¬ (0 : Int) < (kn : Int) - 1 := by omega
            have hte : t = [] := List.eq_nil_of_length_eq_zero (by rw [HTL.out]; omega)
            have HMN := hid (show MInv all H0 (out ++ [x]) from by
              rcases HPM.out.pop (k := ⟨⟨some ⟨b, off, none⟩, kc, kl⟩, ki⟩) HKT.out HLS.out with h | h
              · exact h
              · exact absurd hte h)
            clear hte hk1
            go_wp2_with (at_builtin; refine wp_app3 (news := [.int .i64 x.to, .int .i64 x.val]) (B := P + 2) _ rfl rfl el_mails rfl (own_below HOW2.out (bA (bA (Below.refl _ _) _) _) (Nat.le_refl _)) rfl (rd_newAt _ _ _ 2 1 (P + 1) (by simp [HPP.out]) rfl) (two_mailN _ _) hSZ (by simp; omega) ?_; intro A5 c5 w5 o5 b5 g5 h5; have cP0 : w5.cell? ⟨P, 0, none⟩ = some (.slice (some ⟨b, off, none⟩) kn kc) := (grown_cell g5 (by simp; omega) HPO.out).trans (by go_simp); have cP1 : w5.cell? ⟨P, 1, none⟩ = some (.int .i64 (ki : Nat)) := (grown_cell g5 (by simp; omega) HPO.out).trans (by go_simp); have fP : ∀ o, w5.frozen? ⟨P, o, none⟩ = false := (fun o => (grown_frozen g5 (by simp; omega) HPO.out).trans (by go_simp)); have fP0 := fP 0; have HO5 := hid o5; have HB5 := hid b5; have HG5 := hid g5; have H5 := hid h5; have HFP := hid fP; clear o5 b5 g5 h5 fP)
            have HG2 : Hid (w2.grownBy w5 (Value.slice Ao n co).ownBlock) := hid ⟨HG5.out.os, HG5.out.tape, HG5.out.output, by have := HG5.out.size; simp at this; omega, fun y hy hne => (HG5.out.block y (by simp; omega) hne).trans ((bA (bA (Below.refl w2.heap.size w2) _) _).block y hy)⟩
            have HH5 := hid (HO0.out.grown HG2.out (fun y hy => ⟨by have := (HOW2.out.lt y hy).1; omega, HAP2.out y hy, by have := (HOW2.out.lt y hy).1; omega⟩))
            have HN5 : Hid (∀ y, (Value.slice A5 (n + 1) c5).ownBlock = some y → (∃ z, (Value.slice Ao n co).ownBlock = some z ∧ z = y) ∨ P < y) := hid fun y hy => by
              rcases H5.out with h | h
              · rw [h] at hy; exact .inl ⟨y, hy, rfl⟩
              · rw [h] at hy; injection hy with hy; simp at hy; exact .inr (by omega)
            have HAP5 : Hid (∀ y, (Value.slice A5 (n + 1) c5).ownBlock = some y → hdBlk A1 c1 H0 ≠ some y ∧ y ≠ P) := hid fun y hy => by
              rcases HN5.out y hy with ⟨z, hz, rfl⟩ | hz
              · refine ⟨HAP2.out z hz, fun e => ?_⟩
                have := (HOW2.out.lt z hz).2; omega
              · refine ⟨fun e => ?_, fun e => by omega⟩
                have := (HO0.out.blk_lt e).2; omega
            have hP5 : P < w5.heap.size := by have := HG5.out.size; simp at this; omega
            have HHF := hid (fun v => HH5.out.grown (grown_one w5 P 0 v) (fun y hy => by injection hy with hy; subst hy; exact ⟨by omega, fun e => by have := (HO0.out.blk_lt e).2; omega, by omega⟩))
            have HOF := hid (fun v => own_grown HO5.out (grown_one w5 P 0 v) (fun y hy e => by injection e with e; exact (HAP5.out y hy).2 e.symm))
            have HBG := hid (fun v => (((bA (bA (Below.refl w2.heap.size w2) (.cells #[.slice (some ⟨b, off, none⟩) kn kc, .int .i64 (ki : Nat)] 142)) (.cells #[.int .i64 x.to, .int .i64 x.val] 62)).mono (show w.heap.size ≤ w2.heap.size by omega)).trans ((HB5.out.mono (Nat.le_succ w.heap.size)).setCell (p := ⟨P, 0, none⟩) (by show w.heap.size ≤ P; omega) v)))
            have HBF := hid (fun v => HB2.out.trans (HBG.out v))
            go_roundw
            case rel => exact ⟨A1, c1, q, H0, out ++ [x], A5, c5, n + 1, rfl, HNX, hid (HHF.out _), HMN, hid (fun y hy => HKO.out y (List.mem_cons_of_mem _ hy)), hid (fun y hy => HKC.out y (List.mem_cons_of_mem _ hy)), hid (by rw [hl0]; exact HH0.out), hid hl0, by omega, hid (by rw [← HCX.out]; exact HOF.out _), hid (fun y hy => (HAP5.out y hy).1), HBF.out _⟩
            case measure => simp only [slcLen]; omega
          · have hkz : (0 : Int) < (kn : Int) - 1 := by omega
            have hkc1 : ¬ kc = 1 := by omega
            have htne : t ≠ [] := fun e => by have := HTL.out; rw [e] at this; simp at this; omega
            have HMN := hid (MInv.less (k := ⟨⟨some ⟨b, off, none⟩, kc, kl⟩, ki⟩) (k' := ⟨⟨some ⟨b, off + 2, none⟩, kc - 1, t⟩, ki⟩) HPM.out HKT.out HLS.out rfl htne)
            have HOK3 : Hid (HdOk (H0 ++ [(⟨⟨some ⟨b, off + 2, none⟩, kc - 1, t⟩, ki⟩ : Hd)])) := hid fun y hy => by
              rcases List.mem_append.1 hy with hy | hy
              · exact HKO.out y (List.mem_cons_of_mem _ hy)
              · obtain rfl := List.mem_singleton.1 hy
                exact ⟨htne, hki⟩
            have HKC3 : Hid (CapOk (H0 ++ [(⟨⟨some ⟨b, off + 2, none⟩, kc - 1, t⟩, ki⟩ : Hd)])) := hid fun y hy => by
              rcases List.mem_append.1 hy with hy | hy
              · exact HKC.out y (List.mem_cons_of_mem _ hy)
              · obtain rfl := List.mem_singleton.1 hy
                show t.length ≤ kc - 1
                rw [HTL.out]; omega
            have HRK2 : Hid (Rd w2 w.heap.size (some ⟨b, off + 2, none⟩) 2 t.length (t.flatMap Mail.cells)) := hid (by
              have h := HRK.out
              rw [if_neg hkc1, ← HTL.out] at h
              simpa [addr_add] using h)
            have HPU : Hid (∀ V : World, HO V w.heap.size w.heap.size A1 c1 H0 → Rd V w.heap.size (some ⟨b, off + 2, none⟩) 2 t.length (t.flatMap Mail.cells) → Calls Try.prog 38 #[.iface 137 (.pointer (some ⟨w.heap.size, 0, none⟩)), .iface 142 (.agg #[.slice (some ⟨b, off + 2, none⟩) (kn - 1) (kc - 1), .int .i64 (ki : Nat)])] V fun e w' => e = .returned (.tuple #[]) ∧ ∃ A' c' H', H'.Perm (H0 ++ [(⟨⟨some ⟨b, off + 2, none⟩, kc - 1, t⟩, ki⟩ : Hd)]) ∧ HeapF hdlt (nthL hd0 H') H'.length ∧ HO w' w.heap.size w.heap.size A' c' H' ∧ HF V w' w.heap.size (hdBlk A1 c1 H0) (hdBlk A' c' H')) := hid fun V h1 h2 => by
              have h := hpPush_walk h1 (⟨⟨some ⟨b, off + 2, none⟩, kc - 1, t⟩, ki⟩ : Hd) h2 (by rw [hl0]; omega) HOK3.out (by rw [hl0]; exact HH0.out)
              dsimp only at h
              rw [HTL.out] at h
              exact h
            clear htne hk1
            go_wp2_with (at_builtin; refine wp_app3 (news := [.int .i64 x.to, .int .i64 x.val]) (B := P + 2) _ rfl rfl el_mails rfl (own_below HOW2.out (bA (bA (Below.refl _ _) _) _) (Nat.le_refl _)) rfl (rd_newAt _ _ _ 2 1 (P + 1) (by simp [HPP.out]) rfl) (two_mailN _ _) hSZ (by simp; omega) ?_; intro A5 c5 w5 o5 b5 g5 h5; have cP0 : w5.cell? ⟨P, 0, none⟩ = some (.slice (some ⟨b, off, none⟩) kn kc) := (grown_cell g5 (by simp; omega) HPO.out).trans (by go_simp); have cP1 : w5.cell? ⟨P, 1, none⟩ = some (.int .i64 (ki : Nat)) := (grown_cell g5 (by simp; omega) HPO.out).trans (by go_simp); have fP : ∀ o, w5.frozen? ⟨P, o, none⟩ = false := (fun o => (grown_frozen g5 (by simp; omega) HPO.out).trans (by go_simp)); have fP0 := fP 0; have HO5 := hid o5; have HB5 := hid b5; have HG5 := hid g5; have H5 := hid h5; have HFP := hid fP; clear o5 b5 g5 h5 fP)
            have HG2 : Hid (w2.grownBy w5 (Value.slice Ao n co).ownBlock) := hid ⟨HG5.out.os, HG5.out.tape, HG5.out.output, by have := HG5.out.size; simp at this; omega, fun y hy hne => (HG5.out.block y (by simp; omega) hne).trans ((bA (bA (Below.refl w2.heap.size w2) _) _).block y hy)⟩
            have HH5 := hid (HO0.out.grown HG2.out (fun y hy => ⟨by have := (HOW2.out.lt y hy).1; omega, HAP2.out y hy, by have := (HOW2.out.lt y hy).1; omega⟩))
            have HN5 : Hid (∀ y, (Value.slice A5 (n + 1) c5).ownBlock = some y → (∃ z, (Value.slice Ao n co).ownBlock = some z ∧ z = y) ∨ P < y) := hid fun y hy => by
              rcases H5.out with h | h
              · rw [h] at hy; exact .inl ⟨y, hy, rfl⟩
              · rw [h] at hy; injection hy with hy; simp at hy; exact .inr (by omega)
            have HAP5 : Hid (∀ y, (Value.slice A5 (n + 1) c5).ownBlock = some y → hdBlk A1 c1 H0 ≠ some y ∧ y ≠ P) := hid fun y hy => by
              rcases HN5.out y hy with ⟨z, hz, rfl⟩ | hz
              · refine ⟨HAP2.out z hz, fun e => ?_⟩
                have := (HOW2.out.lt z hz).2; omega
              · refine ⟨fun e => ?_, fun e => by omega⟩
                have := (HO0.out.blk_lt e).2; omega
            have hP5 : P < w5.heap.size := by have := HG5.out.size; simp at this; omega
            have HHF := hid (fun v => HH5.out.grown (grown_one w5 P 0 v) (fun y hy => by injection hy with hy; subst hy; exact ⟨by omega, fun e => by have := (HO0.out.blk_lt e).2; omega, by omega⟩))
            have HOF := hid (fun v => own_grown HO5.out (grown_one w5 P 0 v) (fun y hy e => by injection e with e; exact (HAP5.out y hy).2 e.symm))
            have HBG := hid (fun v => (((bA (bA (Below.refl w2.heap.size w2) (.cells #[.slice (some ⟨b, off, none⟩) kn kc, .int .i64 (ki : Nat)] 142)) (.cells #[.int .i64 x.to, .int .i64 x.val] 62)).mono (show w.heap.size ≤ w2.heap.size by omega)).trans ((HB5.out.mono (Nat.le_succ w.heap.size)).setCell (p := ⟨P, 0, none⟩) (by show w.heap.size ≤ P; omega) v)))
            have HBF := hid (fun v => HB2.out.trans (HBG.out v))
            have HRV := hid (fun v => HRK2.out.below (HBG.out v))
            refine (HPU.out _ (HHF.out _) (HRV.out _)).mono ?_
            rintro e w6 ⟨rfl, A6, c6, H6, hp6, hh6, ho6, hf6⟩
            have HP6 := hid hp6
            have HH6 := hid hh6
            have HO6 := hid ho6
            have HW6 := hid (own_hf (HOF.out _) hf6 (fun y hy => ⟨by have := (HO5.out.lt y hy).1; omega, (HAP5.out y hy).1⟩))
            have HA6 : Hid (∀ y, (Value.slice A5 (n + 1) c5).ownBlock = some y → hdBlk A6 c6 H6 ≠ some y) := hid fun y hy e => by
              rcases hf6.2.2 y e with e2 | e2
              · exact (HAP5.out y hy).1 e2
              · have := (HO5.out.lt y hy).2
                simp at e2; omega
            have HB6 := hid ((HBF.out _).trans hf6.1)
            have hl6 : H6.length = q + 1 := by rw [hp6.length_eq, List.length_append, hl0]; rfl
            clear hp6 hh6 ho6 hf6
            go_wp2_with fail
            go_roundw
            case rel => exact ⟨A6, c6, q + 1, H6, out ++ [x], A5, c5, n + 1, rfl, HNX, HO6, hid (HMN.out.perm HP6.out.symm), hid (HOK3.out.perm HP6.out), hid (fun y hy => HKC3.out y (HP6.out.mem_iff.1 hy)), HH6, hid hl6, hm5, hid (by rw [← HCX.out]; exact HW6.out), HA6, HB6.out⟩
            case measure => simp only [slcLen]; omega
end Go.Proofs.Ytifpngjipkmdcaa

/- merge.Lists, and the document's MailMerged. -/
namespace Go.Proofs.Ytifpngjipkmdcaa
open Go.ChangeShapes Go.WideShapes Go.ChangeAt Go.RowKit
set_option linter.unusedVariables false
set_option linter.unusedSimpArgs false
def lensGo : List (ML Mail) → Int → Int
  | [], a => a
  | x :: l, a => lensGo l (wrap64 (a + (x.l.length : Int)))
abbrev catL (l : List (ML Mail)) : List Mail := l.flatMap fun x => x.l
section
open Classical
/-- What merging answers: the list, and an error number. -/
noncomputable def mergeL (l : List (ML Mail)) : List Mail × Int :=
  if 5000 < lensGo l 0 ∨ 5000 < l.length then ([], 1) else if ∀ x ∈ l, ordB x.l = true then (srtOf mlt (catL l), 0) else ([], 3)
end
theorem mergeL_big {l : List (ML Mail)} (h : 5000 < lensGo l 0 ∨ 5000 < l.length) : mergeL l = ([], 1) := by unfold mergeL; rw [if_pos h]
theorem mergeL_form {l : List (ML Mail)} (h : ¬ (5000 < lensGo l 0 ∨ 5000 < l.length)) {x : ML Mail} (hx : x ∈ l) (h2 : ordB x.l = false) : mergeL l = ([], 3) := by
  unfold mergeL; rw [if_neg h, if_neg (fun h3 => by rw [h3 x hx] at h2; cases h2)]
theorem mergeL_ok {l : List (ML Mail)} (h : ¬ (5000 < lensGo l 0 ∨ 5000 < l.length)) (h2 : ∀ x ∈ l, ordB x.l = true) : mergeL l = (srtOf mlt (catL l), 0) := by
  unfold mergeL; rw [if_neg h, if_pos h2]
theorem lensGo_sum : ∀ (l : List (ML Mail)) (a : Nat), (∀ x ∈ l, x.l.length ≤ 140737488355328) → a + l.length * 140737488355328 ≤ 4611686018427387904 → lensGo l a = ((a + (catL l).length : Nat) : Int)
  | [], a, _, _ => by simp [lensGo, catL]
  | x :: l, a, h, hb => by
    have hx := h x (List.mem_cons_self ..)
    rw [List.length_cons, Nat.add_mul, Nat.one_mul] at hb
    have e : wrap64 ((a : Int) + (x.l.length : Int)) = ((a + x.l.length : Nat) : Int) := by rw [IntWalk.wrap64_in _ (by omega)]; omega
    rw [lensGo, e, lensGo_sum l _ (fun y hy => h y (List.mem_cons_of_mem _ hy)) (by omega)]
    simp only [catL, List.flatMap_cons, List.length_append]
    omega
theorem lensGo_cat {l : List (ML Mail)} (h : ∀ x ∈ l, x.l.length ≤ 140737488355328) (hb : ¬ (5000 < lensGo l 0 ∨ 5000 < l.length)) : (catL l).length ≤ 5000 := by
  have := lensGo_sum l 0 h (by omega)
  simp only [Nat.zero_add] at this
  have h2 : lensGo l ((0 : Nat) : Int) = lensGo l 0 := rfl
  rw [h2] at this
  omega
theorem drop_step {α : Type} {l : List α} {k : Nat} {x : α} (h : l[k]? = some x) : l.drop k = x :: l.drop (k + 1) := by
  have hk := (List.getElem?_eq_some_iff.1 h).1
  rw [List.drop_eq_getElem_cons hk]
  congr 1
  rw [List.getElem?_eq_getElem hk] at h; injection h
def Ls1 (l : List (ML Mail)) (w : World) (av iv : Value) (wr : World) : Prop :=
  ∃ (k : Nat) (a : Int), k ≤ l.length ∧ iv = .int .i64 (k : Nat) ∧ av = .int .i64 a ∧ Hid (lensGo (l.drop k) a = lensGo l 0) ∧ w = wr
def Ls2 (l : List (ML Mail)) (w : World) (iv : Value) (wr : World) : Prop :=
  ∃ (k : Nat), k ≤ l.length ∧ iv = .int .i64 (k : Nat) ∧ Hid (∀ x ∈ l.take k, ordB x.l = true) ∧ Below w.heap.size w wr
theorem retL_nil {E sz : Nat} {w w' : World} {l : List Mail} {e : Int} {p : List Mail × Int} (h : p = ([], e)) (hb : Below w.heap.size w w') : RetL E sz w p.1.length (p.1.flatMap Mail.cells) p.2 (.returned (.tuple #[.slice none 0 0, .int .i64 e])) w' := by
  subst h; exact ⟨none, 0, rfl, World.ownsRow_nil _ _ _ _, hb⟩
theorem ord_next {l : List (ML Mail)} {k : Nat} {x : ML Mail} (h : ∀ x ∈ l.take k, ordB x.l = true) (hx : l[k]? = some x) (h2 : ordB x.l = true) : ∀ x ∈ l.take (k + 1), ordB x.l = true := fun y hy => by
  rw [take_nextV hx] at hy
  rcases List.mem_append.1 hy with hy | hy
  · exact h y hy
  · obtain rfl := List.mem_singleton.1 hy; exact h2
set_option maxRecDepth 100000 in
set_option maxHeartbeats 4000000 in
theorem mergeLists_walk (l : List (ML Mail)) (w : World) (A : Option Addr) (c : Nat) (hg : Grid Mail.cells 2 w w.heap.size A l) (hl : l.length ≤ 140737488355328) (hz : ∀ x ∈ l, x.l.length ≤ 140737488355328) (hc : ∀ x ∈ l, x.l.length ≤ x.c) :
    Calls Try.prog 16 #[.slice A l.length c] w (RetL 62 2 w (mergeL l).1.length ((mergeL l).1.flatMap Mail.cells) (mergeL l).2) := by
  have HG := hid hg
  have HZ := hid hz
  have HC := hid hc
  clear hg hz hc
  go_enter Try.func16, Try.ntmps16
  go_wp2_with fail
  go_loopw [4, 6, 11] (fun av _ iv wr => Ls1 l w av iv wr) (fun _ _ iv _ => l.length - (intOf iv).toNat)
  case atStart => exact ⟨0, 0, Nat.zero_le _, rfl, rfl, hid (by rw [List.drop_zero]), rfl⟩
  case round =>
    obtain ⟨k, a, hk, rfl, rfl, HA, rfl⟩ := hrel
    by_cases hlt : k < l.length
    · obtain ⟨x, hx⟩ : ∃ x, l[k]? = some x := ⟨_, List.getElem?_eq_getElem hlt⟩
      obtain ⟨b, off, rfl, hb, c0⟩ := ml_cell HG.out.1 rfl hx
      have hkz : (k : Int) < (l.length : Int) := by omega
      have HN := hid (show lensGo (l.drop (k + 1)) (wrap64 (a + (x.l.length : Int))) = lensGo l 0 from by rw [← HA.out, drop_step hx]; rfl)
      clear hx HA
      go_wp2_with fail
      go_roundw
      case rel => exact ⟨k + 1, _, by omega, by go_num, rfl, HN, rfl⟩
      case measure => (simp [intOf]) <;> omega
    · obtain rfl : k = l.length := by omega
      have hkz : ¬ (l.length : Int) < (l.length : Int) := by omega
      have HA2 := hid (show a = lensGo l 0 from by have h := HA.out; rwa [List.drop_length] at h)
      clear HA
      by_cases h1 : 5000 < a
      · have HV := hid (mergeL_big (l := l) (.inl (by rw [← HA2.out]; exact h1)))
        go_wp2_with fail
        go_ret2
        exact retL_nil (l := []) HV.out (Below.refl _ _)
      · by_cases h2 : 5000 < l.length
        · have HV := hid (mergeL_big (l := l) (.inr h2))
          have h2z : (5000 : Int) < (l.length : Int) := by omega
          go_wp2_with fail
          go_ret2
          exact retL_nil (l := []) HV.out (Below.refl _ _)
        · have h2z : ¬ (5000 : Int) < (l.length : Int) := by omega
          have HNB := hid (show ¬ (5000 < lensGo l 0 ∨ 5000 < l.length) from by rw [← HA2.out]; omega)
          clear HA2
          go_wp2_with fail
          go_loopw [8, 29] (fun _ iv wr => Ls2 l w iv wr) (fun _ iv _ => l.length - (intOf iv).toNat)
          case atStart => exact ⟨0, Nat.zero_le _, rfl, hid (fun x hx => by cases hx), Below.refl _ _⟩
          case round =>
            obtain ⟨k, hk, rfl, HO, hbel⟩ := hrel
            by_cases hlt : k < l.length
            · obtain ⟨x, hx⟩ : ∃ x, l[k]? = some x := ⟨_, List.getElem?_eq_getElem hlt⟩
              have hxm := List.mem_of_getElem? hx
              obtain ⟨b, off, rfl, hb, c0⟩ := ml_cell (HG.out.1.below hbel) rfl hx
              have hkz : (k : Int) < (l.length : Int) := by omega
              have HS := hid (isSorted_walk x.l wr x.A x.c (rdb (Grid.data HG.out hxm) (by decide) hbel) (HZ.out x hxm))
              have HNX := hid (fun h => ord_next HO.out hx h)
              have HBD := hid (fun h => mergeL_form HNB.out hxm h)
              clear hx hxm HO
              generalize ordB x.l = r at *
              cases r with
              | false =>
                have HV := hid (HBD.out rfl)
                clear HNX HBD
                go_wp2_with fail
                refine HS.out.mono ?_
                rintro e w1 ⟨rfl, b1⟩
                go_wp2_with fail
                go_ret2
                exact retL_nil (l := []) HV.out (bT hbel b1)
              | true =>
                have HV := hid (HNX.out rfl)
                clear HNX HBD
                go_wp2_with fail
                refine HS.out.mono ?_
                rintro e w1 ⟨rfl, b1⟩
                have HB1 := hid (bT hbel b1)
                clear b1
                go_wp2_with fail
                go_roundw
                case rel => exact ⟨k + 1, by omega, by go_num, HV, HB1.out⟩
                case measure => (simp [intOf]) <;> omega
            · obtain rfl : k = l.length := by omega
              have HOA := hid (show ∀ x ∈ l, ordB x.l = true from by have h := HO.out; rwa [List.take_length] at h)
              have HV := hid (mergeL_ok HNB.out HOA.out)
              have HMW := hid (merged_walk l wr A c (Grid.b HG.out (by decide) hbel) (by omega) (fun x hx => ordB_srt (HOA.out x hx)) HC.out (lensGo_cat HZ.out HNB.out))
              have HLN := hid (srtOf_len (lt := mlt) (catL l))
              unfold RetS at HMW
              generalize hN : (catL l).length = N at *
              have HNN := hid hN
              clear hN
              have HBE := hid hbel
              have hbs := hbel.size
              clear HO hbel
              go_wp2_with fail
              refine HMW.out.mono ?_
              rintro e w1 ⟨A1, c1, rfl, o1, b1⟩
              go_wp2_with fail
              go_ret2
              rw [HV.out]
              refine ⟨A1, c1, ?_, ?_, bT HBE.out b1⟩
              · dsimp only; rw [HLN.out]; rfl
              · dsimp only; rw [HLN.out]; exact own_more o1 hbs
end Go.Proofs.Ytifpngjipkmdcaa

/- The document's MailMerged. -/
namespace Go.Proofs.Ytifpngjipkmdcaa
open Go.ChangeShapes Go.WideShapes Go.ChangeAt Go.RowKit
set_option linter.unusedVariables false
set_option linter.unusedSimpArgs false
def Mr2 (l : List (ML Mail)) (w : World) (sv iv : Value) (wr : World) : Prop :=
  ∃ (k n c : Nat) (A : Option Addr), k ≤ l.length ∧ iv = .int .i64 (k : Nat) ∧ sv = .slice A n c ∧ Hid ((catL (l.take k)).length = n) ∧ Hid (∀ x ∈ l.take k, ordB x.l = true) ∧ Hid (wr.ownsRow w.heap.size 62 2 (.slice A n c) n ((catL (l.take k)).flatMap Mail.cells)) ∧ Below w.heap.size w wr
def Mr3 (l : List (ML Mail)) (k : Nat) (x : ML Mail) (n0 : Nat) (w : World) (sv jv : Value) (wr : World) : Prop :=
  ∃ (j n c : Nat) (A : Option Addr), j ≤ x.l.length ∧ n = n0 + j ∧ jv = .int .i64 (j : Nat) ∧ sv = .slice A n c ∧ Hid (wr.ownsRow w.heap.size 62 2 (.slice A n c) n ((catL (l.take k) ++ x.l.take j).flatMap Mail.cells)) ∧ Below w.heap.size w wr
theorem catL_next {l : List (ML Mail)} {k : Nat} {x : ML Mail} (h : l[k]? = some x) : catL (l.take (k + 1)) = catL (l.take k) ++ x.l := by
  rw [take_nextV h]; simp [catL]
theorem catL_le (l : List (ML Mail)) (k : Nat) : (catL (l.take k)).length ≤ (catL l).length := by
  have h : catL l = catL (l.take k) ++ catL (l.drop k) := by unfold catL; rw [← List.flatMap_append, List.take_append_drop]
  rw [h, List.length_append]; omega
theorem mails_at (l : List Mail) (w : World) (A : Option Addr) (c : Nat) {n : Nat} (hn : l.length = n) (hr : Rd w w.heap.size A 2 n (l.flatMap Mail.cells)) (hl : n * 16 ≤ 140737488355328) :
    Calls Try.prog 46 #[.slice A n c] w fun e w' => ∃ A' c', e = .returned (.slice A' n c') ∧ w'.ownsRow w.heap.size 62 2 (.slice A' n c') n ((srtOf mlt l).flatMap Mail.cells) ∧ Below w.heap.size w w' := by
  subst hn; exact mails_walk l w A c hr hl
set_option maxRecDepth 100000 in
set_option maxHeartbeats 4000000 in
theorem mailMerged_walk (l : List (ML Mail)) (w : World) (A : Option Addr) (c : Nat) (hg : Grid Mail.cells 2 w w.heap.size A l) (hl : l.length ≤ 140737488355328) (hz : ∀ x ∈ l, x.l.length ≤ 140737488355328) :
    Calls Try.prog 17 #[.slice A l.length c] w (RetL 62 2 w (mergeL l).1.length ((mergeL l).1.flatMap Mail.cells) (mergeL l).2) := by
  have HG := hid hg
  have HZ := hid hz
  clear hg hz
  go_enter Try.func17, Try.ntmps17
  go_wp2_with fail
  go_loopw [4, 5] (fun av iv wr => Ls1 l w av iv wr) (fun _ iv _ => l.length - (intOf iv).toNat)
  case atStart => exact ⟨0, 0, Nat.zero_le _, rfl, rfl, hid (by rw [List.drop_zero]), rfl⟩
  case round =>
    obtain ⟨k, a, hk, rfl, rfl, HA, rfl⟩ := hrel
    by_cases hlt : k < l.length
    · obtain ⟨x, hx⟩ : ∃ x, l[k]? = some x := ⟨_, List.getElem?_eq_getElem hlt⟩
      obtain ⟨b, off, rfl, hb, c0⟩ := ml_cell HG.out.1 rfl hx
      have hkz : (k : Int) < (l.length : Int) := by omega
      have HN := hid (show lensGo (l.drop (k + 1)) (wrap64 (a + (x.l.length : Int))) = lensGo l 0 from by rw [← HA.out, drop_step hx]; rfl)
      clear hx HA
      go_wp2_with fail
      go_roundw
      case rel => exact ⟨k + 1, _, by omega, by go_num, rfl, HN, rfl⟩
      case measure => (simp [intOf]) <;> omega
    · obtain rfl : k = l.length := by omega
      have hkz : ¬ (l.length : Int) < (l.length : Int) := by omega
      have HA2 := hid (show a = lensGo l 0 from by have h := HA.out; rwa [List.drop_length] at h)
      clear HA
      by_cases h1 : 5000 < a
      · have HV := hid (mergeL_big (l := l) (.inl (by rw [← HA2.out]; exact h1)))
        go_wp2_with fail
        go_ret2
        exact retL_nil (l := []) HV.out (Below.refl _ _)
      · by_cases h2 : 5000 < l.length
        · have HV := hid (mergeL_big (l := l) (.inr h2))
          have h2z : (5000 : Int) < (l.length : Int) := by omega
          go_wp2_with fail
          go_ret2
          exact retL_nil (l := []) HV.out (Below.refl _ _)
        · have h2z : ¬ (5000 : Int) < (l.length : Int) := by omega
          have HNB := hid (show ¬ (5000 < lensGo l 0 ∨ 5000 < l.length) from by rw [← HA2.out]; omega)
          have HC5 := hid (lensGo_cat HZ.out HNB.out)
          clear HA2
          go_wp2_with fail
          go_loopw [6, 7, 8] (fun sv iv _ wr => Mr2 l w sv iv wr) (fun _ iv _ _ => l.length - (intOf iv).toNat)
          case atStart => exact ⟨0, 0, 0, none, Nat.zero_le _, rfl, rfl, hid rfl, hid (fun x hx => by cases hx), hid (World.ownsRow_nil _ _ _ _), Below.refl _ _⟩
          case round =>
            obtain ⟨k, n, c1, A1, hk, rfl, rfl, HN, HO, HOW, hbel⟩ := hrel
            by_cases hlt : k < l.length
            · obtain ⟨x, hx⟩ : ∃ x, l[k]? = some x := ⟨_, List.getElem?_eq_getElem hlt⟩
              have hxm := List.mem_of_getElem? hx
              obtain ⟨b, off, rfl, hb, c0⟩ := ml_cell (HG.out.1.below hbel) rfl hx
              have hkz : (k : Int) < (l.length : Int) := by omega
              have HRX := hid (rdb (Grid.data HG.out hxm) (by decide) hbel)
              have HS := hid (isOrdered_walk x.l wr x.A x.c HRX.out (HZ.out x hxm))
              have HNX := hid (fun h => ord_next HO.out hx h)
              have HBD := hid (fun h => mergeL_form HNB.out hxm h)
              have HCN := hid (catL_next hx)
              have hcl : n + x.l.length ≤ 5000 := by
                have h1 := catL_le l (k + 1)
                rw [HCN.out, List.length_append, HN.out] at h1
                have := HC5.out; omega
              have hbs := hbel.size
              have HXK := hid hx
              clear hx hxm HO
              generalize ordB x.l = r at *
              cases r with
              | false =>
                have HV := hid (HBD.out rfl)
                clear HNX HBD
                go_wp2_with fail
                refine HS.out.mono ?_
                rintro e w1 ⟨rfl, b1⟩
                go_wp2_with fail
                go_ret2
                exact retL_nil (l := []) HV.out (bT hbel b1)
              | true =>
                have HV := hid (HNX.out rfl)
                clear HNX HBD
                go_wp2_with fail
                refine HS.out.mono ?_
                rintro e w1 ⟨rfl, b1⟩
                have HB1 := hid (bT hbel b1)
                have HOW1 := hid (own_below HOW.out b1 (Nat.le_refl _))
                clear b1 HOW HRX c0 hbel hb
                go_wp2_with fail
                go_loopw [6, 8] (fun sv jv wr => Mr3 l k x n w sv jv wr) (fun _ jv _ => x.l.length - (intOf jv).toNat)
                case atStart => exact ⟨0, n, c1, A1, Nat.zero_le _, rfl, rfl, rfl, hid (by rw [List.take_zero, List.append_nil]; exact HOW1.out), HB1.out⟩
                case round =>
                  clear HOW1 HB1
                  obtain ⟨j, m, c3, A3, hj, hm, rfl, rfl, HOW, hbel⟩ := hrel
                  obtain ⟨b3, off3, hA, hb, c0⟩ := ml_cell (HG.out.1.below hbel) rfl HXK.out
                  injection hA with hA
                  injection hA with hA1 hA2
                  subst hA1 hA2
                  have HM := hid hm
                  have hbs := hbel.size
                  clear hm
                  by_cases hlj : j < x.l.length
                  · obtain ⟨y, hy⟩ : ∃ y, x.l[j]? = some y := ⟨_, List.getElem?_eq_getElem hlj⟩
                    obtain ⟨b4, off4, hxA, hb4, e0, e1⟩ := mcells (rdb (Grid.data HG.out (List.mem_of_getElem? HXK.out)) (by decide) hbel) rfl hy
                    rw [hxA] at c0
                    have hjz : (j : Int) < (x.l.length : Int) := by omega
                    have hmn : m < 5000 := by have := HM.out; omega
                    have hSZ : (m + 1) * 16 ≤ 140737488355328 := by omega
                    have HT := hid (show (catL (l.take k) ++ x.l.take (j + 1)).flatMap Mail.cells = (catL (l.take k) ++ x.l.take j).flatMap Mail.cells ++ [.int .i64 y.to, .int .i64 y.val] from by rw [take_nextV hy, ← List.append_assoc, List.flatMap_append (xs := _ ++ _)]; rfl)
                    have hb4' : b4 < wr.heap.size := hb4
                    clear hy hxA
                    go_wp2_with (at_builtin; refine wp_app1 _ rfl rfl el_mails rfl (own_below HOW.out (bA (Below.refl _ _) _) (Nat.le_refl _)) rfl (rd_new _ _ _ 2 1 rfl) (two_oneN y) hSZ (by simp; omega) ?_; intro A5 c5 w5 o5 b5 g5)
                    have HO5 := hid (show World.ownsRow _ _ _ _ _ _ ((catL (l.take k) ++ x.l.take (j + 1)).flatMap Mail.cells) from by rw [HT.out]; exact o5)
                    have HB5 := hid ((hbel.trans ((bA (Below.refl wr.heap.size wr) _).mono hbs)).trans b5)
                    clear o5 b5 g5
                    go_wp2_with fail
                    go_roundw
                    case rel => exact ⟨j + 1, m + 1, c5, A5, by omega, by have := HM.out; omega, by go_num, rfl, HO5, HB5.out⟩
                    case measure => (simp [intOf]) <;> omega
                  · obtain rfl : j = x.l.length := by omega
                    have hjz : ¬ (x.l.length : Int) < (x.l.length : Int) := by omega
                    have HO5 := hid (show World.ownsRow _ _ _ _ _ _ ((catL (l.take (k + 1))).flatMap Mail.cells) from by rw [HCN.out]; have h := HOW.out; rw [List.take_length] at h; exact h)
                    have HNL := hid (show (catL (l.take (k + 1))).length = m from by rw [HCN.out, List.length_append, HN.out, HM.out])
                    clear HOW
                    go_wp2_with fail
                    go_roundw
                    case rel => exact ⟨k + 1, m, c3, A3, by omega, by go_num, rfl, HNL, HV, HO5, hbel⟩
                    case measure => (simp [intOf]) <;> omega
            · obtain rfl : k = l.length := by omega
              have HOA := hid (show ∀ x ∈ l, ordB x.l = true from by have h := HO.out; rwa [List.take_length] at h)
              have HV := hid (mergeL_ok HNB.out HOA.out)
              have HOF := hid (show World.ownsRow wr w.heap.size 62 2 (.slice A1 n c1) n ((catL l).flatMap Mail.cells) from by have h := HOW.out; rwa [List.take_length] at h)
              have HNF := hid (show (catL l).length = n from by have h := HN.out; rwa [List.take_length] at h)
              have hn5 : n ≤ 5000 := by rw [← HNF.out]; exact HC5.out
              have HMW := hid (mails_at (catL l) wr A1 c1 HNF.out (rd_own HOF.out) (by omega))
              have HLN := hid (show (srtOf mlt (catL l)).length = n from by rw [srtOf_len, HNF.out])
              have HBE := hid hbel
              have hbs := hbel.size
              clear HO hbel HOW HN
              go_wp2_with fail
              refine HMW.out.mono ?_
              rintro e w1 ⟨A2, c2, rfl, o1, b1⟩
              go_wp2_with fail
              go_ret2
              rw [HV.out]
              refine ⟨A2, c2, ?_, ?_, bT HBE.out b1⟩
              · dsimp only; rw [HLN.out]; rfl
              · dsimp only; rw [HLN.out]; exact own_more o1 hbs
end Go.Proofs.Ytifpngjipkmdcaa

/- The statement on merge.Lists. -/
namespace Go.Proofs.Ytifpngjipkmdcaa
open Go.ChangeShapes Go.WideShapes Go.ChangeAt Go.RowKit
set_option linter.unusedVariables false
set_option linter.unusedSimpArgs false
theorem catL_rows (l : List (ML Mail)) : catL l = (rowsOf l).flatten := by unfold catL rowsOf; rw [List.flatMap_def]
theorem lensGo_congr : ∀ (l m : List (ML Mail)) (a : Int), rowsOf l = rowsOf m → lensGo l a = lensGo m a
  | [], [], _, _ => rfl
  | [], _ :: _, _, h => by cases h
  | _ :: _, [], _, h => by cases h
  | x :: l, y :: m, a, h => by
    unfold rowsOf at h
    rw [List.map_cons, List.map_cons] at h
    injection h with h1 h2
    rw [lensGo, lensGo, h1]
    exact lensGo_congr l m _ h2
theorem mergeL_congr {l m : List (ML Mail)} (h : rowsOf l = rowsOf m) : mergeL l = mergeL m := by
  have e1 := lensGo_congr l m 0 h
  have e2 := rows_len h
  have e3 : catL l = catL m := by rw [catL_rows, catL_rows, h]
  have e4 : (∀ x ∈ l, ordB x.l = true) ↔ (∀ x ∈ m, ordB x.l = true) := by
    have k : ∀ q : List (ML Mail), (∀ x ∈ q, ordB x.l = true) ↔ ∀ y ∈ rowsOf q, ordB y = true := fun q => by simp [rowsOf]
    rw [k, k, h]
  by_cases h1 : 5000 < lensGo l 0 ∨ 5000 < l.length
  · rw [mergeL_big h1, mergeL_big (by rw [← e1, ← e2]; exact h1)]
  · have h2 : ¬ (5000 < lensGo m 0 ∨ 5000 < m.length) := by rw [← e1, ← e2]; exact h1
    by_cases h3 : ∀ x ∈ l, ordB x.l = true
    · rw [mergeL_ok h1 h3, mergeL_ok h2 (e4.1 h3), e3]
    · obtain ⟨x, hx, hb⟩ : ∃ x ∈ l, ordB x.l = false := by
        by_cases hh : ∃ x ∈ l, ordB x.l = false
        · exact hh
        · exact absurd (fun x hx => by
            cases ho : ordB x.l with
            | true => rfl
            | false => exact absurd ⟨x, hx, ho⟩ hh) h3
      have h4 : ¬ ∀ x ∈ m, ordB x.l = true := fun h => h3 (e4.2 h)
      obtain ⟨y, hy, hb2⟩ : ∃ x ∈ m, ordB x.l = false := by
        by_cases hh : ∃ x ∈ m, ordB x.l = false
        · exact hh
        · exact absurd (fun x hx => by
            cases ho : ordB x.l with
            | true => rfl
            | false => exact absurd ⟨x, hx, ho⟩ hh) h4
      rw [mergeL_form h1 hx hb, mergeL_form h2 hy hb2]
theorem mergeL_len (l : List (ML Mail)) (hz : ∀ x ∈ l, x.l.length ≤ 140737488355328) : (mergeL l).1.length ≤ 5000 := by
  unfold mergeL
  split
  · simp
  · split
    · rename_i h _; show (srtOf mlt (catL l)).length ≤ 5000; rw [srtOf_len]; exact lensGo_cat hz h
    · simp
def LcR (l : List (ML Mail)) (w : World) (sv iv : Value) (wr : World) : Prop :=
  ∃ (k c : Nat) (A : Option Addr) (acc : List (ML Mail)), k ≤ l.length ∧ iv = .int .i64 (k : Nat) ∧ sv = .slice A k c ∧ Hid (acc.length = k) ∧ Hid (rowsOf acc = rowsOf (l.take k)) ∧ Hid (MGrid wr w.heap.size A c acc) ∧ Below w.heap.size w wr
def RetLC (w : World) (l : List (ML Mail)) (e : Ending) (w' : World) : Prop :=
  ∃ A' c' m, e = .returned (.slice A' l.length c') ∧ m.length = l.length ∧ rowsOf m = rowsOf l ∧ MGrid w' w.heap.size A' c' m ∧ Below w.heap.size w w'
set_option maxRecDepth 100000 in
set_option maxHeartbeats 4000000 in
theorem lists_copy (l : List (ML Mail)) (w : World) (A : Option Addr) (c : Nat) (hg : Grid Mail.cells 2 w w.heap.size A l) (hl : l.length * 24 ≤ 140737488355328) (hz : ∀ x ∈ l, x.l.length * 16 ≤ 140737488355328) :
    Calls Try.prog 15 #[.slice A l.length c] w (RetLC w l) := by
  have HG := hid hg
  have HZ := hid hz
  clear hg hz
  go_enter Try.func15, Try.ntmps15
  go_wp2_with fail
  go_loopw [3, 4] (fun sv iv wr => LcR l w sv iv wr) (fun _ iv _ => l.length - (intOf iv).toNat)
  case atStart => exact ⟨0, 0, none, [], Nat.zero_le _, rfl, rfl, hid rfl, hid rfl, hid OwnGrid.nil, Below.refl _ _⟩
  case round =>
    obtain ⟨k, c1, A1, acc, hk, rfl, rfl, HAL, HRW, HGR, hbel⟩ := hrel
    have hbs := hbel.size
    by_cases hlt : k < l.length
    · obtain ⟨x, hx⟩ : ∃ x, l[k]? = some x := ⟨_, List.getElem?_eq_getElem hlt⟩
      have hxm := List.mem_of_getElem? hx
      obtain ⟨b, off, rfl, hb, c0⟩ := ml_cell (HG.out.1.below hbel) rfl hx
      have hkz : (k : Int) < (l.length : Int) := by omega
      have HM := hid (mails_copy x.l wr x.A x.l.length x.c _ ((Grid.data HG.out hxm).below hbel) (HZ.out x hxm))
      have HRN := hid (fun A c => rows_snoc A c HRW.out hx)
      have hSZ : (k + 1) * 24 ≤ 140737488355328 := by omega
      clear hx hxm HRW
      go_wp2_with fail
      refine HM.out.mono ?_
      rintro e w1 ⟨A2, c2, rfl, o2, b2⟩
      have HO2 := hid (own_more (base' := w.heap.size) o2 hbs)
      have HG1 := hid (HGR.out.below b2 (Nat.le_refl _))
      have HAS : Hid (Aside id A1 c1 acc (id (⟨A2, c2, x.l⟩ : ML Mail))) := hid (OwnGrid.aside HGR.out (base' := wr.heap.size) o2 (Nat.le_refl _))
      have HB2 := hid (bT hbel b2)
      have hz2 := b2.size
      clear o2 b2 HGR
      go_wp2_with (at_builtin; refine wp_grid (cells := Mail.cells) (inner := id) (sz := 2) _ rfl rfl el_grid_mail rfl HAL.out.symm (HG1.out.alloc _) (⟨A2, c2, x.l⟩ : ML Mail) (own_below HO2.out (bA (Below.refl _ _) _) (Nat.le_refl _)) HAS.out rfl (rd_new _ _ _ 1 1 rfl) (one_rowV _) hSZ (by simp; omega) ?_; intro A5 c5 w5 o5 b5 g5)
      have HO5 := hid o5
      have HB5 := hid ((HB2.out.trans ((bA (Below.refl w1.heap.size w1) _).mono (by omega))).trans b5)
      clear o5 b5 g5
      go_wp2_with fail
      go_roundw
      case rel => exact ⟨k + 1, c5, A5, acc ++ [⟨A2, c2, x.l⟩], by omega, by go_num, rfl, hid (by rw [List.length_append, HAL.out]; rfl), hid (HRN.out _ _), HO5, HB5.out⟩
      case measure => (simp [intOf]) <;> omega
    · obtain rfl : k = l.length := by omega
      have hkz : ¬ (l.length : Int) < (l.length : Int) := by omega
      go_wp2_with fail
      go_ret
      exact ⟨A1, c1, acc, rfl, HAL.out, by have h := HRW.out; rwa [List.take_length] at h, HGR.out, hbel⟩
set_option maxRecDepth 100000 in
set_option maxHeartbeats 400000 in
theorem sameLists_walk (l m : List (ML Mail)) (w : World) (A A' : Option Addr) (c c' n : Nat) (hn : l.length = n) (hm : rowsOf m = rowsOf l) (hg : Grid Mail.cells 2 w w.heap.size A' l) (hgm : Grid Mail.cells 2 w w.heap.size A m) (hl : n ≤ 140737488355328) (hz : ∀ x ∈ l, x.l.length ≤ 140737488355328) :
    Calls Try.prog 19 #[.slice A n c, .slice A' n c'] w fun e w' => e = .returned (.bool true) ∧ Below w.heap.size w w' := by
  have HG := hid hg
  have HGM := hid hgm
  have HZ := hid hz
  have HN := hid hn
  have HM := hid hm
  have HML := hid (show m.length = n from by rw [rows_len hm, hn])
  clear hg hgm hz hn hm
  go_enter Try.func19, Try.ntmps19
  go_wp2_with fail
  go_loopw [5] (fun iv wr => ∃ k : Nat, k ≤ n ∧ iv = .int .i64 (k : Nat) ∧ Below w.heap.size w wr) (fun iv _ => n - (intOf iv).toNat)
  case atStart => exact ⟨0, Nat.zero_le _, rfl, Below.refl _ _⟩
  case round =>
    obtain ⟨k, hk, rfl, hbel⟩ := hrel
    have hbs := hbel.size
    by_cases hlt : k < n
    · obtain ⟨x0, hx⟩ : ∃ x, l[k]? = some x := ⟨_, List.getElem?_eq_getElem (by rw [HN.out]; exact hlt)⟩
      obtain ⟨x, hy, hxy⟩ := rows_at HM.out hx
      obtain ⟨b', off', rfl, hb', d0⟩ := ml_cell (HG.out.1.below hbel) rfl hx
      have hgm2 := HGM.out.1.below hbel
      obtain ⟨b, off, rfl, hb, c0⟩ := ml_cell hgm2 rfl hy
      have hkz : (k : Int) < (n : Int) := by omega
      have HS := hid (fun (V : World) (hV : Below wr.heap.size wr V) => sameMails_walk x0.l V x.A x0.A x.c x0.c (by
          have h := rdb (Grid.data HGM.out (List.mem_of_getElem? hy)) (by decide) (hbel.trans (hV.mono hbs))
          rw [hxy] at h; exact h) (rdb (Grid.data HG.out (List.mem_of_getElem? hx)) (by decide) (hbel.trans (hV.mono hbs))) (HZ.out x0 (List.mem_of_getElem? hx)))
      rw [hxy] at c0
      generalize hq : x0.l.length = q at *
      clear hx hy hxy hq hgm2
      go_wp2_with fail
      refine wp_region_F (S := (fun V => Below wr.heap.size wr V ∧ V.cell? ⟨b, off + k, none⟩ = some (.slice x.A q x.c) ∧ V.cell? ⟨b', off' + k, none⟩ = some (.slice x0.A q x0.c))) [] (by kernel_rfl) ⟨bD (Below.refl _ _), keepb (bD (Below.refl _ _)) c0, keepb (bD (Below.refl _ _)) d0⟩ (fun hHeld => ?_)
      refine wpAnyF_pure (i := 0) (v := ?vg1_1_0) rfl (by kernel_rfl) (by kernel_rfl) (by kernel_rfl) (fun _ _ _ h => h) (Or.inl ⟨by rfl, ?hyg1_1_0⟩) ?restg1_1_0
      case hyg1_1_0 => (intro w hSw; clear hSw; go_simp; (all_goals with_reducible rfl))
      try simp only [Act.put, List.setIfInBounds_toArray, List.set_cons_zero, List.set_cons_succ, List.getElem_toArray, List.getElem_cons_succ, List.getElem_cons_zero]
      refine wpAnyF_pure (i := 1) (v := ?vg1_2_1) rfl (by kernel_rfl) (by kernel_rfl) (by kernel_rfl) (fun _ _ _ h => h) (Or.inl ⟨by rfl, ?hyg1_2_1⟩) ?restg1_2_1
      case hyg1_2_1 => (intro w hSw; clear hSw; go_simp; (all_goals with_reducible rfl))
      try simp only [Act.put, List.setIfInBounds_toArray, List.set_cons_zero, List.set_cons_succ, List.getElem_toArray, List.getElem_cons_succ, List.getElem_cons_zero]
      refine wpAnyF_pure (i := 2) (v := ?vg1_3_2) rfl (by kernel_rfl) (by kernel_rfl) (by kernel_rfl) (fun _ _ _ h => h) (Or.inl ⟨by rfl, ?hyg1_3_2⟩) ?restg1_3_2
      case hyg1_3_2 => (intro w hSw; clear hSw; go_simp; (all_goals with_reducible rfl))
      try simp only [Act.put, List.setIfInBounds_toArray, List.set_cons_zero, List.set_cons_succ, List.getElem_toArray, List.getElem_cons_succ, List.getElem_cons_zero]
      refine wpAnyF_pure (i := 4) (v := ?vg1_4_4) rfl (by kernel_rfl) (by kernel_rfl) (by kernel_rfl) (fun _ _ _ h => h) (Or.inl ⟨by rfl, ?hyg1_4_4⟩) ?restg1_4_4
      case hyg1_4_4 => (intro w hSw; clear hSw; go_simp; (all_goals with_reducible rfl))
      try simp only [Act.put, List.setIfInBounds_toArray, List.set_cons_zero, List.set_cons_succ, List.getElem_toArray, List.getElem_cons_succ, List.getElem_cons_zero]
      refine wpAnyF_pure (i := 5) (v := ?vg1_5_5) rfl (by kernel_rfl) (by kernel_rfl) (by kernel_rfl) (fun _ _ _ h => h) (Or.inl ⟨by rfl, ?hyg1_5_5⟩) ?restg1_5_5
      case hyg1_5_5 => (intro w hSw; clear hSw; go_simp; (all_goals with_reducible rfl))
      try simp only [Act.put, List.setIfInBounds_toArray, List.set_cons_zero, List.set_cons_succ, List.getElem_toArray, List.getElem_cons_succ, List.getElem_cons_zero]
      refine wpAnyF_pure (i := 6) (v := ?vg1_6_6) rfl (by kernel_rfl) (by kernel_rfl) (by kernel_rfl) (fun _ _ _ h => h) (Or.inl ⟨by rfl, ?hyg1_6_6⟩) ?restg1_6_6
      case hyg1_6_6 => (intro w hSw; clear hSw; go_simp; (all_goals with_reducible rfl))
      try simp only [Act.put, List.setIfInBounds_toArray, List.set_cons_zero, List.set_cons_succ, List.getElem_toArray, List.getElem_cons_succ, List.getElem_cons_zero]
      refine wpAnyF_take [8, 9] (i := 3) (v := ?vg1_7_3) rfl (by kernel_rfl) (by kernel_rfl) (by kernel_rfl) (by kernel_rfl) (fun _ _ _ h => h) (Or.inl ⟨by rfl, ?hyg1_7_3⟩) (by assumption) ?restg1_7_3
      case hyg1_7_3 => (intro w hSw; (try dsimp only at hSw); go_simp; (all_goals with_reducible rfl))
      try simp only [Act.put, List.setIfInBounds_toArray, List.set_cons_zero, List.set_cons_succ, List.getElem_toArray, List.getElem_cons_succ, List.getElem_cons_zero]
      refine wpAnyF_take [8, 9] (i := 7) (v := ?vg1_8_7) rfl (by kernel_rfl) (by kernel_rfl) (by kernel_rfl) (by kernel_rfl) (fun _ _ _ h => h) (Or.inl ⟨by rfl, ?hyg1_8_7⟩) (by assumption) ?restg1_8_7
      case hyg1_8_7 => (intro w hSw; (try dsimp only at hSw); go_simp; (all_goals with_reducible rfl))
      try simp only [Act.put, List.setIfInBounds_toArray, List.set_cons_zero, List.set_cons_succ, List.getElem_toArray, List.getElem_cons_succ, List.getElem_cons_zero]
      refine wpAnyF_one (i := 8) (by kernel_rfl) rfl (fun K hK => ?_)
      go_simp
      go_at_call 18
      refine (HS.out _ hHeld.1).mono ?_
      rintro e w2 ⟨rfl, b2⟩
      go_wp2_with fail
      refine hK.out _ _ ⟨bT hHeld.1 b2, keepb b2 hHeld.2.1, keepb b2 hHeld.2.2⟩ (fun hHeld => ?_)
      clear hK K
      try simp only [Act.put, List.setIfInBounds_toArray, List.set_cons_zero, List.set_cons_succ, List.getElem_toArray, List.getElem_cons_succ, List.getElem_cons_zero]
      refine wpAnyF_pure (i := 9) (v := ?vg1_10_9) rfl (by kernel_rfl) (by kernel_rfl) (by kernel_rfl) (fun _ _ _ h => h) (Or.inl ⟨by rfl, ?hyg1_10_9⟩) ?restg1_10_9
      case hyg1_10_9 => (intro w hSw; clear hSw; go_simp; (all_goals with_reducible rfl))
      try simp only [Act.put, List.setIfInBounds_toArray, List.set_cons_zero, List.set_cons_succ, List.getElem_toArray, List.getElem_cons_succ, List.getElem_cons_zero]
      refine wpAnyF_done (by kernel_rfl) ?_ _
      go_wp2_with fail
      go_roundw
      case rel => exact ⟨k + 1, by omega, by go_num, hbel.trans (hHeld.1.mono hbs)⟩
      case measure => (simp [intOf]) <;> omega
    · obtain rfl : n = k := by omega
      go_wp2_with fail
      go_ret
      exact ⟨rfl, hbel⟩
set_option maxHeartbeats 400000 in
theorem law_MergeLists (w : World) (l : List (ML Mail)) (A : Option Addr) (c : Nat) (hf : Flat w w.heap.size 24 1 ML.cells A c l) (hb : ∀ x ∈ l, x.wf Mail.cells 2 16 Mail.wf w) :
    Calls Try.prog 4 #[.slice A l.length c] w fun e w' => e = .returned (.bool true) ∧ Below w.heap.size w w' := by
  have hg := grid_of hf hb
  obtain ⟨f1, f2, f3, f4⟩ := hf
  have hl : l.length * 24 ≤ 140737488355328 := by omega
  have hz : ∀ x ∈ l, x.l.length * 16 ≤ 140737488355328 := fun x hx => by obtain ⟨_, h1, h2, _⟩ := hb x hx; omega
  have hz1 : ∀ x ∈ l, x.l.length ≤ 140737488355328 := fun x hx => by have := hz x hx; omega
  clear hb f1 f2 f3 f4
  have C1 := hid (lists_copy l w A c hg hl hz)
  have C2 := hid (fun (V : World) A k (m : List (ML Mail)) (hm : rowsOf m = rowsOf l) (h : MGrid V w.heap.size A k m) => mergeLists_walk m V A k h.led (by rw [rows_len hm]; omega) (fun x hx => by
    obtain ⟨i, hi⟩ := List.mem_iff_getElem?.1 hx
    obtain ⟨y, hy, he⟩ := rows_at hm.symm hi
    rw [← he]; exact hz1 y (List.mem_of_getElem? hy)) (fun x hx => by
    obtain ⟨i, hi⟩ := List.mem_iff_getElem?.1 hx
    exact own_cap (h.row hi)))
  have C3 := hid (fun (V : World) (h : Grid Mail.cells 2 V V.heap.size A l) => mailMerged_walk l V A c h (by omega) hz1)
  have hlen := mergeL_len l hz1
  have C4 := hid (fun (V : World) A' k' (m : List (ML Mail)) (hm : rowsOf m = rowsOf l) (h : Grid Mail.cells 2 V V.heap.size A' m) (h2 : Grid Mail.cells 2 V V.heap.size A l) => sameLists_walk l m V A' A k' c l.length rfl hm h2 h (by omega) hz1)
  have HCG := hid (fun (m : List (ML Mail)) (hm : rowsOf m = rowsOf l) => mergeL_congr hm)
  have HG := hid hg
  clear hg hz hz1
  generalize hM : mergeL l = M at *
  obtain ⟨v, r⟩ := M
  simp only at hlen
  clear hM
  go_enter Try.func4, Try.ntmps4
  go_wp2_with fail
  refine C1.out.mono ?_
  rintro e w1 ⟨A1, k1, m, rfl, hml, hmr, hmg, b1⟩
  have C2b := C2.out w1 A1 k1 m hmr hmg
  rw [HCG.out m hmr, hml] at C2b
  unfold RetL at C2b C3
  simp only at C2b C3
  have HMR := hid hmr
  have HMG := hid hmg.led
  have HB1 := hid b1
  clear hml hmr hmg b1
  go_wp2_with fail
  refine C2b.mono ?_
  rintro e w2 ⟨A2, k2, rfl, o2, b2⟩
  have HO2 := hid (rd_own o2)
  have HB2 := hid b2
  clear o2 b2 C2b
  go_wp2_with fail
  refine (C3.out w2 (Grid.b HG.out (by decide) (HB1.out.trans (HB2.out.mono HB1.out.size)))).mono ?_
  rintro e w3 ⟨A3, k3, rfl, o3, b3⟩
  have HO3 := hid (rd_own o3)
  have HB3 := hid b3
  clear o3 b3
  go_wp2_with fail
  refine (sameMails_walk v _ _ _ _ _ ((HO2.out.below HB3.out).any (by decide)) HO3.out (by omega)).mono ?_
  rintro e w4 ⟨rfl, b4⟩
  have HB14 := hid (bT (bT HB2.out HB3.out) b4)
  go_wp2_with fail
  refine (C4.out w4 A1 k1 m HMR.out (Grid.b HMG.out (by decide) HB14.out) (Grid.b HG.out (by decide) (bT HB1.out HB14.out))).mono ?_
  rintro e w5 ⟨rfl, b5⟩
  go_wp2_with fail
  go_ret
  exact ⟨by simp, bT (bT HB1.out HB14.out) b5⟩
end Go.Proofs.Ytifpngjipkmdcaa

