/- disk.may: a set of names. -/
import Derived.Test.YtphgdpjfolkafaaDoorDiskF
import Derived.Maps.OwnSet
import Derived.StringKeys
namespace Go.Proofs.YtphgdpjfolkafaaDoor
open Go.ChangeShapes Go.WideShapes Go.ChangeAt Go.RowKit Go.Maps Go.WideMaps
set_option linter.unusedVariables false
set_option linter.unusedSimpArgs false
def keyL (x : MFile) : Lit := .string x.f.name.data.toList
def keysL (l : List MFile) (k : Nat) : List Lit := (l.take k).map keyL
def setL {H : Type} (l : List MFile) (k : Nat) : DataW H := setOf (.agg []) (keysL l k)
theorem setL_next {H : Type} {l : List MFile} {k : Nat} {x : MFile} (hx : l[k]? = some x) : setL (H := H) l (k + 1) = (setL l k).put (keyL x) (.agg []) := by
  unfold setL keysL
  rw [take_next hx, List.map_append, List.map_cons, List.map_nil, setOf_snoc]
theorem setL_zero {H : Type} (l : List MFile) : setL (H := H) l 0 = .map [] := by simp [setL, keysL, setOf]
theorem keyL_eq {x y : MFile} : keyL x = keyL y ↔ x.f.name = y.f.name := by
  unfold keyL
  constructor
  · intro h; injection h with h; exact bytes_inj h
  · intro h; rw [h]
/-- As many keys as files, just where all names are apart. -/
theorem addKey_count : ∀ (xs acc : List Lit), (∀ x ∈ xs, ∃ s, x = .string s) → (xs.foldl addKey acc).length ≤ acc.length + xs.length ∧ ((xs.foldl addKey acc).length = acc.length + xs.length ↔ xs.Pairwise (· ≠ ·) ∧ ∀ x ∈ xs, acc.any (fun y => y.sameKey x) = false)
  | [], acc, _ => by simp
  | x :: xs, acc, h => by
    have hs := fun y hy => h y (List.mem_cons_of_mem _ hy)
    obtain ⟨s, rfl⟩ := h x (List.mem_cons_self ..)
    rw [List.foldl_cons]
    by_cases ha : acc.any (fun y => y.sameKey (.string s)) = true
    · have e : addKey acc (.string s) = acc := by unfold addKey; rw [if_pos ha]
      rw [e]
      obtain ⟨h1, h2⟩ := addKey_count xs acc hs
      refine ⟨by simp; omega, ⟨fun h3 => by simp at h3; omega, fun h3 => ?_⟩⟩
      have := h3.2 (.string s) (List.mem_cons_self ..)
      rw [ha] at this
      cases this
    · have ha' : acc.any (fun y => y.sameKey (.string s)) = false := by simpa using ha
      have e : addKey acc (.string s) = acc ++ [.string s] := by unfold addKey; rw [if_neg ha]
      rw [e]
      obtain ⟨h1, h2⟩ := addKey_count xs (acc ++ [.string s]) hs
      rw [List.length_append, List.length_singleton] at h1 h2
      refine ⟨by simp; omega, ?_⟩
      rw [show acc.length + (Lit.string s :: xs).length = acc.length + 1 + xs.length by simp; omega, h2, List.pairwise_cons]
      constructor
      · intro ⟨h3, h4⟩
        refine ⟨⟨fun y hy he => ?_, h3⟩, fun y hy => ?_⟩
        · have := h4 y hy
          rw [← he, List.any_append] at this
          simp [Lit.sameKey] at this
        · rcases List.mem_cons.1 hy with rfl | hy
          · exact ha'
          · have := h4 y hy
            rw [List.any_append] at this
            simp at this
            simpa using this.1
      · intro ⟨⟨h3, h4⟩, h5⟩
        refine ⟨h4, fun y hy => ?_⟩
        rw [List.any_append, h5 y (List.mem_cons_of_mem _ hy)]
        obtain ⟨s', rfl⟩ := hs y hy
        have := h3 _ hy
        simp [Lit.sameKey]
        intro e
        exact this (by rw [e])
theorem setL_size {H : Type} (l : List MFile) : Maps.size (setL (H := H) l l.length) ≤ l.length ∧ (Maps.size (setL (H := H) l l.length) = l.length ↔ l.Pairwise fun a b => a.f.name ≠ b.f.name) := by
  have hk : ∀ x ∈ keysL l l.length, ∃ s, x = .string s := fun x hx => by
    obtain ⟨y, _, rfl⟩ := List.mem_map.1 hx
    exact ⟨_, rfl⟩
  have hi : ∀ x ∈ keysL l l.length, WideAt.IsKeyLit x := fun x hx => by
    obtain ⟨s, rfl⟩ := hk x hx
    trivial
  have e : Maps.size (setL (H := H) l l.length) = ((keysL l l.length).foldl addKey []).length := size_setOf _ _ hi
  obtain ⟨h1, h2⟩ := addKey_count (keysL l l.length) [] hk
  have hl : (keysL l l.length).length = l.length := by simp [keysL]
  rw [e]
  rw [hl] at h1 h2
  simp only [List.length_nil, Nat.zero_add] at h1 h2
  refine ⟨h1, ?_⟩
  rw [h2]
  have hp : (keysL l l.length).Pairwise (· ≠ ·) ↔ l.Pairwise fun a b => a.f.name ≠ b.f.name := by
    unfold keysL
    rw [List.take_length, List.pairwise_map]
    constructor
    · exact fun h => h.imp fun hab he => hab (keyL_eq.2 he)
    · exact fun h => h.imp fun hab he => hab (keyL_eq.1 he)
  rw [hp]
  exact ⟨fun h => h.1, fun h => ⟨h, fun x hx => rfl⟩⟩
theorem toList_nil (s : ByteArray) : s.toList = [] ↔ s.size = 0 := by
  rw [ByteArray.toList_eq]
  constructor
  · intro h
    have := congrArg List.length h
    simpa using this
  · intro h
    exact List.eq_nil_of_length_eq_zero (by simpa using h)
def MayRel (l : List MFile) (d : Value) (G : Nat) (w : World) (i : Value) (wr : World) : Prop := ∃ k : Nat, k ≤ l.length ∧ i = .int .i64 k ∧ wr.ownsMap Tryd.prog 9 unitElem (G + 1) k (setL (H := Unit) l k) ∧ Below G w wr ∧ wr.cell? ⟨G, 0, none⟩ = some d ∧ G + 1 < wr.heap.size ∧ Hid (∀ j x, j < k → l[j]? = some x → fileOk x.f)
set_option maxRecDepth 100000 in
set_option maxHeartbeats 4000000 in
theorem may_walk (l : List MFile) (w : World) (A : Option Addr) (c : Nat) (hr : Rd w w.heap.size A 3 l.length (l.flatMap MFile.cells)) (hl : l.length ≤ 140737488355328) (hnm : ∀ x ∈ l, x.f.name.size ≤ 140737488351232) :
    Calls Tryd.prog 36 #[.agg #[.slice A l.length c]] w fun e w' => e = .returned (.bool (okB l)) ∧ Below w.heap.size w w' := by
  have b0 := bA (Below.refl w.heap.size w) (.cells #[.slice A l.length c] 24)
  have hmm := @run_makeMap Tryd.prog
  generalize hF : okB l = F
  have HF := hid hF
  clear hF
  by_cases h40 : l.length ≤ 40
  · have h40z : ¬ ((40 : Int) < (l.length : Int)) := by omega
    go_enter Tryd.func36, Tryd.ntmps36
    go_wp2
    go_loopw [14] (MayRel l (.slice A l.length c) w.heap.size w) (fun i _ => l.length - (intOf i).toNat)
    case atStart => exact ⟨0, by omega, rfl, by rw [setL_zero]; have hmm2 := World.ownsMap_made (H := Unit) (w.alloc (.cells #[.slice A l.length c] 24)) Tryd.prog 9 unitElem; simpa using hmm2, bA b0 _, by go_simp, by simp, hid (fun j x h => by omega)⟩
    case round =>
      obtain ⟨k, hk, rfl, hown, hbel, g0, hgs, HO⟩ := hrel
      by_cases hlt : k < l.length
      · obtain ⟨x, hx⟩ : ∃ x, l[k]? = some x := ⟨_, List.getElem?_eq_getElem hlt⟩
        obtain ⟨b, off, rfl, hb, c0, c1, c2⟩ := file_cells (hr.below hbel) rfl hx
        have hbr : b < wr.heap.size := by have := hbel.size; omega
        have hkz : (k : Int) < (l.length : Int) := by omega
        have HX := hid hx
        have hns := hnm x (List.mem_of_getElem? hx)
        have hkey : keyOf Tryd.prog 9 (.string x.f.name) = some (keyL x) := keyOf_string_mk Tryd.underlying9 (by unfold maxLen; omega)
        have hbX := bA (Below.refl wr.heap.size wr) (.cells #[.string x.f.name, .slice x.A x.f.data.length x.c, .int .i64 x.f.synced] 45)
        have hsz0 := toList_nil x.f.name
        have HB := hid (fun h : ¬ fileOk x.f => (show F = false by rw [← HF.out]; exact okB_bad HX.out h))
        clear hx
        by_cases n0 : x.f.name.toList = []
        · have HV := hid (HB.out (fun h => by have := h.1.1; have := hsz0.1 n0; omega))
          clear hsz0
          go_wp2_with fail
          go_ret
          exact ⟨by rw [HV.out]; rfl, hbel.trans (hbX.mono hbel.size)⟩
        · by_cases n1 : (20 : Int) < (x.f.name.size : Int)
          · have HV := hid (HB.out (fun h => by have := h.1.2; omega))
            clear hsz0
            go_wp2_with fail
            go_ret
            exact ⟨by rw [HV.out]; rfl, hbel.trans (hbX.mono hbel.size)⟩
          · have n1' : (x.f.name.size : Int) ≤ 20 := by omega
            by_cases n2 : x.f.synced < 0
            · have HV := hid (HB.out (fun h => by have := h.2.2.1; omega))
              clear hsz0
              go_wp2_with fail
              go_ret
              exact ⟨by rw [HV.out]; rfl, hbel.trans (hbX.mono hbel.size)⟩
            · have n2' : 0 ≤ x.f.synced := by omega
              by_cases n3 : (x.f.data.length : Int) < x.f.synced
              · have HV := hid (HB.out (fun h => by have := h.2.2.2; omega))
                clear hsz0
                go_wp2_with fail
                go_ret
                exact ⟨by rw [HV.out]; rfl, hbel.trans (hbX.mono hbel.size)⟩
              · have n3' : x.f.synced ≤ (x.f.data.length : Int) := by omega
                by_cases n4 : (100000 : Int) < (x.f.data.length : Int)
                · have HV := hid (HB.out (fun h => by have := h.2.1; omega))
                  clear hsz0
                  go_wp2_with fail
                  go_ret
                  exact ⟨by rw [HV.out]; rfl, hbel.trans (hbX.mono hbel.size)⟩
                · have n4' : (x.f.data.length : Int) ≤ 100000 := by omega
                  have HK := hid (show fileOk x.f from ⟨⟨by have := hsz0.2; apply Nat.one_le_iff_ne_zero.2; intro h; exact n0 (hsz0.2 h), by omega⟩, by omega, n2', n3'⟩)
                  have HS := hid (setL_next (H := Unit) HX.out)
                  have n0e : x.f.name.toList.isEmpty = false := by simpa using n0
                  clear hsz0 n1 n2 n3 n4
                  go_wp2_with (first
                    | (at_mapUpdate; refine wpList_mapUpdate_own _ rfl _ _ _ 83 rfl 9 84 (string_keyed Tryd.underlying9) Tryd.underlying83 (unitElem (H := Unit)) (w.heap.size + 1) k _ rfl (hown.alloc _) (by unfold maxLen; omega) _ _ _ rfl rfl hkey _ [] unitElem_mk ?_; intro w1 hown1 hgrow1)
                    | fail)
                  go_roundw
                  case rel =>
                    have hb2 : Below w.heap.size w w1 := (hbel.trans (hbX.mono hbel.size)).grown hgrow1 (Nat.le_trans hbel.size (by simp)) (fun j hj => by injection hj with hj; omega)
                    refine ⟨k + 1, by omega, by go_num, HS.out.symm ▸ hown1, hb2, ?_, Nat.lt_of_lt_of_le hgs (Nat.le_trans (by simp) hgrow1.size), hid (fun j y hj hy => ?_)⟩
                    · exact hgrow1.cell (keepb hbX g0) (by intro e; injection e with e; have h2 : w.heap.size = w.heap.size + 1 := e; omega)
                    · by_cases e : j = k
                      · subst e; rw [HX.out] at hy; cases hy; exact HK.out
                      · exact HO.out j y (by omega) hy
                  case measure => simp [intOf]; omega
      · obtain rfl : k = l.length := by omega
        obtain ⟨hz1, hz2⟩ := setL_size (H := Unit) l
        have HZ := hid hz2
        clear hz2
        generalize hSz : Maps.size (setL (H := Unit) l l.length) = sz at *
        have HSz := hid hSz
        clear hSz
        have hall : ∀ x ∈ l, fileOk x.f := fun x hx => by
          obtain ⟨i, hi, rfl⟩ := List.getElem_of_mem hx
          exact HO.out i _ hi (List.getElem?_eq_getElem hi)
        by_cases hp : sz = l.length
        · have HV : Hid (F = true) := hid (by rw [← HF.out]; exact okB_yes h40 (okTo_all.2 ⟨hall, HZ.out.1 hp⟩))
          have hpz : ((sz : Int) == (l.length : Int)) = true := by simp [hp]
          have HP := hid hp
          clear hp hall
          go_wp2_with (first
            | (at_len; refine wpList_len_own _ rfl _ 83 rfl 9 84 Tryd.underlying83 (unitElem (H := Unit)) (w.heap.size + 1) _ _ rfl hown ?_; rw [HSz.out])
            | fail)
          go_ret
          exact ⟨by rw [HV.out]; rfl, hbel⟩
        · have HV : Hid (F = false) := hid (by
            rw [← HF.out]; unfold okB
            refine @decide_eq_false _ (_) ?_
            intro h
            have h2 := ((diskOk_m l).1 h).2
            exact hp (HZ.out.2 (okTo_all.1 h2).2))
          have hpz : ((sz : Int) == (l.length : Int)) = false := by simp; omega
          clear hp hall
          go_wp2_with (first
            | (at_len; refine wpList_len_own _ rfl _ 83 rfl 9 84 Tryd.underlying83 (unitElem (H := Unit)) (w.heap.size + 1) _ _ rfl hown ?_; rw [HSz.out])
            | fail)
          go_ret
          exact ⟨by rw [HV.out]; rfl, hbel⟩
  · have h40z : (40 : Int) < (l.length : Int) := by omega
    have HV : Hid (F = false) := hid (by rw [← HF.out]; exact okB_len h40)
    go_enter Tryd.func36, Tryd.ntmps36
    go_wp2_with fail
    go_ret
    exact ⟨by rw [HV.out]; rfl, b0⟩
end Go.Proofs.YtphgdpjfolkafaaDoor
