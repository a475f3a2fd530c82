/- The document's GraphRead. -/
import Derived.Test.YtfdaheenigmkmaaDoorDocN
import Derived.Test.YtfdaheenigmkmaaDoorGraphRef
import Derived.Laws.ResultCell
namespace Go.Proofs.YtfdaheenigmkmaaDoor
open Go.RowKit Go.ChangeShapes Go.WideShapes Go.ChangeAt
set_option linter.unusedVariables false
set_option linter.unusedSimpArgs false
theorem edgesF_more : ∀ (f f' : Nat) (l : List UInt8), l.length < f → l.length < f' → edgesF f l = edgesF f' l
  | 0, f', l, h, _ => by omega
  | f + 1, 0, l, _, h => by omega
  | f + 1, f' + 1, l, h, h' => by
    unfold edgesF
    by_cases h0 : l = []
    · rw [if_pos h0, if_pos h0]
    · rw [if_neg h0, if_neg h0]
      cases h1 : numberL l 32 with
      | none => rfl
      | some x =>
        obtain ⟨a, l1⟩ := x
        dsimp only
        cases h2 : numberL l1 32 with
        | none => rfl
        | some x =>
          obtain ⟨b, l2⟩ := x
          dsimp only
          cases h3 : numberL l2 10 with
          | none => rfl
          | some x =>
            obtain ⟨c, l3⟩ := x
            dsimp only
            have g1 := numberL_short h1
            have g2 := numberL_short h2
            have g3 := numberL_short h3
            rw [edgesF_more f f' l3 (by omega) (by omega)]
def edgesL (l : List UInt8) : Option (List Edge) := edgesF (l.length + 1) l
theorem edgesL_nil : edgesL [] = some [] := rfl
theorem edgesL_step {l : List UInt8} (h : l ≠ []) : edgesL l = match numberL l 32 with
    | none => none
    | some (a, l1) => match numberL l1 32 with
      | none => none
      | some (b, l2) => match numberL l2 10 with
        | none => none
        | some (w, l3) => (edgesL l3).map fun es => ⟨a, b, w⟩ :: es := by
  unfold edgesL
  conv => lhs; unfold edgesF
  rw [if_neg h]
  cases h1 : numberL l 32 with
  | none => rfl
  | some x =>
    obtain ⟨a, l1⟩ := x
    dsimp only
    cases h2 : numberL l1 32 with
    | none => rfl
    | some x =>
      obtain ⟨b, l2⟩ := x
      dsimp only
      cases h3 : numberL l2 10 with
      | none => rfl
      | some x =>
        obtain ⟨c, l3⟩ := x
        dsimp only
        have g1 := numberL_short h1
        have g2 := numberL_short h2
        have g3 := numberL_short h3
        rw [edgesF_more l.length (l3.length + 1) l3 (by omega) (by omega)]
theorem num_at {l : List UInt8} {q n : Nat} {e : UInt8} {r : List UInt8} (h : numberL (l.drop q) e = some (n, r)) : r = l.drop (l.length - r.length) ∧ q < l.length - r.length ∧ l.length - r.length ≤ l.length ∧ numA l q e = ((n : Int), ((l.length - r.length : Nat) : Int)) := by
  have h1 := numberL_inv h
  have h2 := congrArg List.length h1
  rw [List.length_drop, List.length_append, List.length_cons] at h2
  have hd := dd_pos n
  refine ⟨?_, by omega, by omega, ?_⟩
  · have h3 : (l.drop q).drop ((dd n).length + 1) = r := by
      rw [h1, show dd n ++ e :: r = (dd n ++ [e]) ++ r by simp, List.drop_left' (by simp)]
    rw [List.drop_drop] at h3
    rw [show l.length - r.length = q + ((dd n).length + 1) by omega]
    exact h3.symm
  · unfold numA; rw [h]
    dsimp only
    congr 1; omega
theorem num_no {l : List UInt8} {q : Nat} {e : UInt8} (h : numberL (l.drop q) e = none) : numA l q e = (0, -1) := by unfold numA; rw [h]
theorem heap_setM {W : World} {b o k : Nat} (v : Value) (h : k ≠ b) : (W.setCell ⟨b, o, none⟩ v).heap[k]? = W.heap[k]? := by
  simp only [World.setCell, Array.getElem?_modify]
  rw [if_neg (fun e => h e.symm)]
theorem own_otherN {W : World} {base : Nat} {e : TypeId} {sz n b o c : Nat} {A : Option Addr} {xs : List Value} (h : W.ownsRow base e sz (.slice A n c) n xs) (hb : b < base) (v : Value) : (W.setCell ⟨b, o, none⟩ v).ownsRow base e sz (.slice A n c) n xs := by
  refine ⟨h.1, ?_⟩
  rcases h.2 with h0 | ⟨g, cap, cur, h1, h2, h3, r⟩
  · exact .inl h0
  · exact .inr ⟨g, cap, cur, h1, h2, (heap_setM v (by omega)).trans h3, r⟩
theorem one_ed (a b c : Int) : ∀ u ∈ [Value.int .i64 a, .int .i64 b, .int .i64 c], u.oneCell' = true := fun u h => by simp at h; rcases h with rfl | rfl | rfl <;> rfl
def DgR (w : World) (s : ByteArray) (n : Int) (v6 : Value) (wr : World) : Prop :=
  ∃ (p : Int) (done : List Edge) (A : Option Addr) (c : Nat), v6 = .int .i64 p ∧ Hid (wr.heap[w.heap.size + 1]? = some (.cells #[.int .i64 n, .slice A done.length c] 30 (0, 0))) ∧ Hid (wr.ownsRow (w.heap.size + 2) 45 3 (.slice A done.length c) done.length (done.flatMap Edge.cells)) ∧
    Hid (wr.heap[w.heap.size]? = some (.cells #[.int .i64 0, .slice none 0 0] 30 (0, 0))) ∧ Hid (Below w.heap.size w wr) ∧ w.heap.size + 2 ≤ wr.heap.size ∧ done.length ≤ 20001 ∧
    ((p = -1 ∧ Hid (docG s.data.toList = (⟨0, []⟩, 3))) ∨ (∃ q : Nat, p = (q : Int) ∧ q ≤ s.size ∧ done.length ≤ q ∧ Hid (docG s.data.toList = match (edgesL (s.data.toList.drop q)).map (done ++ ·) with
      | none => (⟨0, []⟩, 3)
      | some es => if graphV ⟨n, es⟩ = 0 then (⟨n, es⟩, 0) else (⟨0, []⟩, 3))))
theorem res2_end {w W : World} {T : TypeId} {a b : Value} (h : W.heap[w.heap.size]? = some (.cells #[a, b] T (0, 0))) (hb : Below w.heap.size w W) (x y : Value) :
    ((W.setCell ⟨w.heap.size, 0, none⟩ x).setCell ⟨w.heap.size, 1, none⟩ y).cell? ⟨w.heap.size, 0, none⟩ = some x ∧ ((W.setCell ⟨w.heap.size, 0, none⟩ x).setCell ⟨w.heap.size, 1, none⟩ y).cell? ⟨w.heap.size, 1, none⟩ = some y ∧
    Below w.heap.size w ((W.setCell ⟨w.heap.size, 0, none⟩ x).setCell ⟨w.heap.size, 1, none⟩ y) := by
  have e := Go.Joins.block_setCell (Go.Joins.block_setCell h x (i := 0)) y (i := 1)
  exact ⟨by rw [Go.Joins.cell_of_block e]; rfl, by rw [Go.Joins.cell_of_block e]; rfl, bS (bS hb (Nat.le_refl _) _) (Nat.le_refl _) _⟩
set_option maxRecDepth 100000 in
set_option maxHeartbeats 8000000 in
theorem graphRead_walk (s : ByteArray) (w : World) :
    Calls Tryd.prog 9 #[.string s] w fun e w' => (∃ A c, e = .returned (.tuple #[.agg #[.int .i64 (docG s.data.toList).1.n, .slice A (docG s.data.toList).1.edges.length c], .int .i64 (docG s.data.toList).2]) ∧ Rd w' w'.heap.size A 3 (docG s.data.toList).1.edges.length ((docG s.data.toList).1.edges.flatMap Edge.cells)) ∧ Below w.heap.size w w' := by
  have hss : s.data.toList.length = s.size := by rw [Array.length_toList]; rfl
  by_cases hbig : 20000 < s.size
  · have hbz : (20000 : Int) < (s.size : Int) := by omega
    have HV := hid (show docG s.data.toList = (⟨0, []⟩, 1) by unfold docG; rw [if_pos (by omega)])
    clear hbig hss
    go_enter Tryd.func9, Tryd.ntmps9
    go_wp2_with fail
    refine bodyPost_ret (v := .tuple #[.agg #[.int .i64 0, .slice none 0 0], .int .i64 1]) (by simp [results, Tryd.results9, go_sem, *]) rfl ?_
    exact ⟨⟨none, 0, by rw [HV.out]; rfl, by rw [HV.out]; exact Rd.nil_⟩, bA (Below.refl _ _) _⟩
  · have hbz : ¬ (20000 : Int) < (s.size : Int) := by omega
    have hs2 : s.size ≤ 20000 := by omega
    have HSS := hid hss
    have HNM := hid (fun (fr : Nat) (hf : fr ≤ s.size) V => number_walk s fr 32 32 rfl (by decide) V (by omega) hf)
    have HNT := hid (fun (fr : Nat) (hf : fr ≤ s.size) V => number_walk s fr 10 10 rfl (by decide) V (by omega) hf)
    obtain ⟨W, hW⟩ : ∃ W, W = (w.alloc (.cells #[.int .i64 0, .slice none 0 0] 30)).alloc (.cells #[.int .i64 0, .slice none 0 0] 30) := ⟨_, rfl⟩
    have hBW : Below w.heap.size w W := by rw [hW]; exact bA (bA (Below.refl _ _) _) _
    have hWs : W.heap.size = w.heap.size + 2 := by rw [hW]; simp
    have HR0 := hid (show W.heap[w.heap.size]? = some (.cells #[.int .i64 0, .slice none 0 0] 30 (0, 0)) by rw [hW]; exact (Below.heap_alloc _ _ _ (by simp)).trans (heap_alloc_new w _))
    have HG0 := hid (show W.heap[w.heap.size + 1]? = some (.cells #[.int .i64 0, .slice none 0 0] 30 (0, 0)) by rw [hW]; have := heap_alloc_new (w.alloc (.cells #[.int .i64 0, .slice none 0 0] 30)) (.cells #[.int .i64 0, .slice none 0 0] 30); simpa using this)
    clear hbig hss
    go_enter Tryd.func9, Tryd.ntmps9
    go_upto_region 4 with fail
    rw [← hW]
    clear hW
    have HNO := hid (show DgR w s (numA s.data.toList 0 10).1 (.int .i64 (numA s.data.toList 0 10).2) (W.setCell ⟨w.heap.size + 1, 0, none⟩ (.int .i64 (numA s.data.toList 0 10).1)) by
      refine ⟨_, [], none, 0, rfl, hid (by rw [Go.Joins.block_setCell HG0.out]; rfl), hid (World.ownsRow_nil _ _ _ _), hid ((heap_setM _ (by omega)).trans HR0.out), hid (bS hBW (by simp) _), by simp; omega, by simp, ?_⟩
      cases h1 : numberL (s.data.toList.drop 0) 10 with
      | none =>
        refine .inl ⟨by rw [num_no h1], hid ?_⟩
        rw [List.drop_zero] at h1
        unfold docG; rw [if_neg (by rw [HSS.out]; omega), h1]
      | some x =>
        obtain ⟨n, r⟩ := x
        obtain ⟨h2, h3, h4, h5⟩ := num_at h1
        refine .inr ⟨s.data.toList.length - r.length, by rw [h5], by rw [HSS.out]; omega, by simp, hid ?_⟩
        rw [h5, ← h2]
        rw [List.drop_zero] at h1
        unfold docG; rw [if_neg (by rw [HSS.out]; omega), h1]
        dsimp only
        unfold edgesL
        cases edgesF (r.length + 1) r with
        | none => rfl
        | some es => rfl)
    obtain ⟨n, hn⟩ : ∃ n, n = (numA s.data.toList 0 10).1 := ⟨_, rfl⟩
    rw [← hn] at HNO
    have g0 := Go.Joins.cell_of_block HG0.out 0
    have gf0 := Go.Joins.unfrozen_of_block HG0.out 0
    have HNT0 := hid (show Calls Tryd.prog 17 #[.string s, .int .i64 0, .int .u8 10] W fun x w' => x = .returned (.tuple #[.int .i64 n, .int .i64 (numA s.data.toList 0 10).2]) ∧ w' = W from by rw [hn]; exact HNT.out 0 (Nat.zero_le _) W)
    clear hBW hWs HR0 HG0 hn
    go_wp2_with fail
    refine HNT0.out.mono ?_
    rintro e w1 ⟨rfl, hw1⟩
    rw [hw1]
    clear hw1 HNT0
    go_wp2_with fail
    go_loopw [6] (fun v6 wr => DgR w s n v6 wr) (fun v6 _ => if intOf v6 < 0 then 0 else s.size + 1 - (intOf v6).toNat)
    case atStart => exact HNO.out
    case round =>
      clear HNO g0 gf0
      obtain ⟨p, done, A, c, rfl, HG, HOW, HR, HBL, hsz, hdl, hp⟩ := hrel
      rcases hp with ⟨rfl, HV⟩ | ⟨q, rfl, hq, hdq, HV⟩
      · have hpz : ¬ (0 : Int) ≤ -1 := by decide
        obtain ⟨z0, z1, zb⟩ := res2_end HR.out HBL.out (.int .i64 0) (.slice none 0 0)
        have r0 := Go.Joins.cell_of_block HR.out 0
        have r1 := Go.Joins.cell_of_block HR.out 1
        have rf0 := Go.Joins.unfrozen_of_block HR.out 0
        have rf1 := Go.Joins.unfrozen_of_block HR.out 1
        go_wp2_with fail
        refine bodyPost_ret (v := .tuple #[.agg #[.int .i64 0, .slice none 0 0], .int .i64 3]) (by simp [results, Tryd.results9, go_sem, *]) rfl ?_
        exact ⟨⟨none, ⟨0, by rw [HV.out]; rfl⟩, by rw [HV.out]; exact Rd.nil_⟩, zb⟩
      · have hqz : (0 : Int) ≤ (q : Int) := by omega
        have hqn : ¬ (q : Int) < 0 := by omega
        by_cases hlt : q < s.size
        · have hltz : (q : Int) < (s.size : Int) := by omega
          have hne : s.data.toList.drop q ≠ [] := fun e => by
            have := congrArg List.length e
            rw [List.length_drop, HSS.out] at this
            simp at this; omega
          have HVS := hid (edgesL_step hne)
          cases h1 : numberL (s.data.toList.drop q) 32 with
          | none =>
            have HV2 := hid (show docG s.data.toList = (⟨0, []⟩, 3) by rw [HV.out, HVS.out, h1]; rfl)
            have HC1 := hid (show Calls Tryd.prog 17 #[.string s, .int .i64 (q : Nat), .int .u8 32] wr fun x w' => x = .returned (.tuple #[.int .i64 0, .int .i64 (-1)]) ∧ w' = wr from by
              have h := HNM.out q hq wr
              rwa [num_no h1] at h)
            obtain ⟨z0, z1, zb⟩ := res2_end HR.out HBL.out (.int .i64 0) (.slice none 0 0)
            have r0 := Go.Joins.cell_of_block HR.out 0
            have r1 := Go.Joins.cell_of_block HR.out 1
            have rf0 := Go.Joins.unfrozen_of_block HR.out 0
            have rf1 := Go.Joins.unfrozen_of_block HR.out 1
            clear hne h1
            go_wp2_with fail
            refine HC1.out.mono ?_
            rintro e w2 ⟨rfl, hw2⟩
            rw [hw2]
            clear hw2
            go_wp2_with fail
            refine bodyPost_ret (v := .tuple #[.agg #[.int .i64 0, .slice none 0 0], .int .i64 3]) (by simp [results, Tryd.results9, go_sem, *]) rfl ?_
            exact ⟨⟨none, 0, by rw [HV2.out]; rfl, by rw [HV2.out]; exact Rd.nil_⟩, zb⟩
          | some x1 =>
            obtain ⟨a, l1⟩ := x1
            obtain ⟨e1, e2, e3, e4⟩ := num_at h1
            obtain ⟨q1, hq1⟩ : ∃ q1, q1 = s.data.toList.length - l1.length := ⟨_, rfl⟩
            rw [← hq1] at e1 e2 e3 e4
            have HC1 := hid (show Calls Tryd.prog 17 #[.string s, .int .i64 (q : Nat), .int .u8 32] wr fun x w' => x = .returned (.tuple #[.int .i64 (a : Int), .int .i64 (q1 : Nat)]) ∧ w' = wr from by
              have h := HNM.out q hq wr
              rwa [e4] at h)
            have hq1s : q1 ≤ s.size := by rw [HSS.out] at e3; exact e3
            have HS1 := hid (show numberL (s.data.toList.drop q) 32 = some (a, s.data.toList.drop q1) by rw [h1, ← e1])
            have hq1n : ¬ (q1 : Int) < 0 := by omega
            clear hne h1 e1 e3 e4 hq1
            cases h2 : numberL (s.data.toList.drop q1) 32 with
            | none =>
              have HV2 := hid (show docG s.data.toList = (⟨0, []⟩, 3) by rw [HV.out, HVS.out, HS1.out]; dsimp only; rw [h2]; rfl)
              have HC2 := hid (show Calls Tryd.prog 17 #[.string s, .int .i64 (q1 : Nat), .int .u8 32] wr fun x w' => x = .returned (.tuple #[.int .i64 0, .int .i64 (-1)]) ∧ w' = wr from by
                have h := HNM.out q1 hq1s wr
                rwa [num_no h2] at h)
              obtain ⟨z0, z1, zb⟩ := res2_end HR.out HBL.out (.int .i64 0) (.slice none 0 0)
              have r0 := Go.Joins.cell_of_block HR.out 0
              have r1 := Go.Joins.cell_of_block HR.out 1
              have rf0 := Go.Joins.unfrozen_of_block HR.out 0
              have rf1 := Go.Joins.unfrozen_of_block HR.out 1
              clear h2
              go_wp2_with fail
              refine HC1.out.mono ?_
              rintro e w2 ⟨rfl, hw2⟩
              rw [hw2]
              clear hw2
              go_wp2_with fail
              refine HC2.out.mono ?_
              rintro e w2 ⟨rfl, hw2⟩
              rw [hw2]
              clear hw2
              go_wp2_with fail
              refine bodyPost_ret (v := .tuple #[.agg #[.int .i64 0, .slice none 0 0], .int .i64 3]) (by simp [results, Tryd.results9, go_sem, *]) rfl ?_
              exact ⟨⟨none, 0, by rw [HV2.out]; rfl, by rw [HV2.out]; exact Rd.nil_⟩, zb⟩
            | some x2 =>
              obtain ⟨b, l2⟩ := x2
              obtain ⟨f1, f2, f3, f4⟩ := num_at h2
              obtain ⟨q2, hq2⟩ : ∃ q2, q2 = s.data.toList.length - l2.length := ⟨_, rfl⟩
              rw [← hq2] at f1 f2 f3 f4
              have HC2 := hid (show Calls Tryd.prog 17 #[.string s, .int .i64 (q1 : Nat), .int .u8 32] wr fun x w' => x = .returned (.tuple #[.int .i64 (b : Int), .int .i64 (q2 : Nat)]) ∧ w' = wr from by
                have h := HNM.out q1 hq1s wr
                rwa [f4] at h)
              have hq2s : q2 ≤ s.size := by rw [HSS.out] at f3; exact f3
              have HS2 := hid (show numberL (s.data.toList.drop q1) 32 = some (b, s.data.toList.drop q2) by rw [h2, ← f1])
              have hq2n : ¬ (q2 : Int) < 0 := by omega
              clear h2 f1 f3 f4 hq2
              obtain ⟨cc, p3, HC3, HP3⟩ : ∃ (cc p3 : Int), Hid (Calls Tryd.prog 17 #[.string s, .int .i64 (q2 : Nat), .int .u8 10] wr fun x w' => x = .returned (.tuple #[.int .i64 cc, .int .i64 p3]) ∧ w' = wr) ∧
                  Hid ((p3 = -1 ∧ Hid (docG s.data.toList = (⟨0, []⟩, 3))) ∨ (∃ q' : Nat, p3 = (q' : Int) ∧ q' ≤ s.size ∧ q2 < q' ∧ done.length + 1 ≤ q' ∧ Hid (docG s.data.toList = match (edgesL (s.data.toList.drop q')).map ((done ++ [⟨(a : Int), (b : Int), cc⟩]) ++ ·) with
                    | none => (⟨0, []⟩, 3)
                    | some es => if graphV ⟨n, es⟩ = 0 then (⟨n, es⟩, 0) else (⟨0, []⟩, 3)))) := by
                cases h3 : numberL (s.data.toList.drop q2) 10 with
                | none =>
                  have h := HNT.out q2 hq2s wr
                  rw [num_no h3] at h
                  refine ⟨0, -1, hid h, hid (.inl ⟨rfl, hid ?_⟩)⟩
                  rw [HV.out, HVS.out, HS1.out]; dsimp only; rw [HS2.out]; dsimp only; rw [h3]; rfl
                | some x3 =>
                  obtain ⟨c3, l3⟩ := x3
                  obtain ⟨g1, g2, g3, g4⟩ := num_at h3
                  have h := HNT.out q2 hq2s wr
                  rw [g4] at h
                  refine ⟨(c3 : Int), _, hid h, hid (.inr ⟨_, rfl, by rw [HSS.out] at g3 ⊢; exact g3, g2, by omega, hid ?_⟩)⟩
                  rw [HV.out, HVS.out, HS1.out]; dsimp only; rw [HS2.out]; dsimp only; rw [h3]; dsimp only; rw [← g1]
                  cases edgesL l3 with
                  | none => rfl
                  | some es => simp
              have g0 := Go.Joins.cell_of_block HG.out 0
              have g1 := Go.Joins.cell_of_block HG.out 1
              have gf1 := Go.Joins.unfrozen_of_block HG.out 1
              have hSZ : (done.length + 1) * 24 ≤ 140737488355328 := by omega
              go_wp2_with fail
              refine HC1.out.mono ?_
              rintro e w2 ⟨rfl, hw2⟩
              rw [hw2]
              clear hw2
              go_wp2_with fail
              refine HC2.out.mono ?_
              rintro e w2 ⟨rfl, hw2⟩
              rw [hw2]
              clear hw2
              go_wp2_with fail
              refine HC3.out.mono ?_
              rintro e w2 ⟨rfl, hw2⟩
              rw [hw2]
              clear hw2
              go_wp2_with (at_builtin; refine wp_app3 _ rfl rfl el_edges rfl (own_below HOW.out (bA (Below.refl _ _) _) (Nat.le_refl _)) rfl (rd_new _ #[.int .i64 (a : Int), .int .i64 (b : Int), .int .i64 cc] 45 3 1 rfl) (one_ed _ _ _) hSZ (by rw [World.size_alloc]; omega) ?_; intro A5 c5 w5 o5 b5 g5 h5; have hG5 := (b5.block _ (show w.heap.size + 1 < w.heap.size + 2 by omega)).trans (((bA (Below.refl wr.heap.size wr) (.cells #[.int .i64 (a : Int), .int .i64 (b : Int), .int .i64 cc] 45)).block _ (by omega)).trans HG.out); have gg := Go.Joins.cell_of_block hG5 1; have ggf := Go.Joins.unfrozen_of_block hG5 1)
              have HO5 := hid (show (w5.setCell ⟨w.heap.size + 1, 1, none⟩ (.slice A5 (done.length + 1) c5)).ownsRow (w.heap.size + 2) 45 3 (.slice A5 (done ++ [(⟨(a : Int), (b : Int), cc⟩ : Edge)]).length c5) (done ++ [(⟨(a : Int), (b : Int), cc⟩ : Edge)]).length ((done ++ [(⟨(a : Int), (b : Int), cc⟩ : Edge)]).flatMap Edge.cells) by
                rw [List.length_append, List.length_singleton, List.flatMap_append, List.flatMap_singleton]
                exact own_otherN o5 (by omega) _)
              have HG6 := hid (show (w5.setCell ⟨w.heap.size + 1, 1, none⟩ (.slice A5 (done.length + 1) c5)).heap[w.heap.size + 1]? = some (.cells #[.int .i64 n, .slice A5 (done ++ [(⟨(a : Int), (b : Int), cc⟩ : Edge)]).length c5] 30 (0, 0)) by
                rw [List.length_append, List.length_singleton, Go.Joins.block_setCell hG5]; rfl)
              have hA1 := bA (Below.refl wr.heap.size wr) (.cells #[.int .i64 (a : Int), .int .i64 (b : Int), .int .i64 cc] 45)
              have HR6 := hid ((heap_setM (o := 1) (.slice A5 (done.length + 1) c5) (show w.heap.size ≠ w.heap.size + 1 by omega)).trans ((b5.block _ (by omega)).trans ((hA1.block _ (by omega)).trans HR.out)))
              have HB6 := hid (bS (HBL.out.trans ((hA1.mono (by omega)).trans (b5.mono (by omega)))) (p := ⟨w.heap.size + 1, 1, none⟩) (by simp) (.slice A5 (done.length + 1) c5))
              have hs5 := b5.size
              rw [World.size_alloc] at hs5
              have hs6 : (w5.setCell ⟨w.heap.size + 1, 1, none⟩ (.slice A5 (done.length + 1) c5)).heap.size = w5.heap.size := by simp
              clear o5 b5 g5 h5 hG5 gg ggf hA1
              refine ⟨⟨p3, done ++ [⟨(a : Int), (b : Int), cc⟩], A5, c5, rfl, HG6, HO5, HR6, HB6, by omega, by rw [List.length_append, List.length_singleton]; omega, ?_⟩, ?_⟩
              · rcases HP3.out with h | ⟨q', h1, h2, h3, h4, h5⟩
                · exact .inl h
                · exact .inr ⟨q', h1, h2, by rw [List.length_append, List.length_singleton]; exact h4, h5⟩
              · have hqe : (if (q : Int) < 0 then 0 else s.size + 1 - ((q : Int)).toNat) = s.size + 1 - q := by rw [if_neg (by omega), Int.toNat_natCast]
                show (if p3 < 0 then 0 else s.size + 1 - p3.toNat) < (if (q : Int) < 0 then 0 else s.size + 1 - ((q : Int)).toNat)
                rw [hqe]
                rcases HP3.out with ⟨rfl, _⟩ | ⟨q', rfl, h2, h3, h4, h5⟩
                · rw [if_pos (show (-1 : Int) < 0 by decide)]; omega
                · rw [if_neg (show ¬ ((q' : Int)) < 0 by omega), Int.toNat_natCast]; omega
        · have hltz : ¬ (q : Int) < (s.size : Int) := by omega
          have HV2 := hid (show docG s.data.toList = if graphV ⟨n, done⟩ = 0 then (⟨n, done⟩, 0) else (⟨0, []⟩, 3) by
            rw [HV.out, show s.data.toList.drop q = [] from List.drop_eq_nil_of_le (by rw [HSS.out]; omega), edgesL_nil]
            simp)
          have HFT := hid (graphFault_walk ⟨n, done⟩ wr A c (rd_own HOW.out) (by dsimp only; omega))
          have g0 := Go.Joins.cell_of_block HG.out 0
          have g1 := Go.Joins.cell_of_block HG.out 1
          clear HV
          dsimp only at HFT
          go_wp2_with fail
          refine HFT.out.mono ?_
          rintro e w2 ⟨rfl, b2⟩
          have HR := hid ((b2.block _ (by omega)).trans HR.out)
          have HBL := hid (bT HBL.out b2)
          have g0 := keepb b2 g0
          have g1 := keepb b2 g1
          have HOW := hid (own_below HOW.out b2 (Nat.le_refl _))
          by_cases hv : graphV ⟨n, done⟩ = 0
          · have hvb : (graphV ⟨n, done⟩ != 0) = false := by simpa using hv
            have HV := hid (show docG s.data.toList = (⟨n, done⟩, 0) by rw [HV2.out, if_pos hv])
            obtain ⟨z0, z1, zb⟩ := res2_end HR.out HBL.out (.int .i64 n) (.slice A done.length c)
            have r0 := Go.Joins.cell_of_block HR.out 0
            have r1 := Go.Joins.cell_of_block HR.out 1
            have rf0 := Go.Joins.unfrozen_of_block HR.out 0
            have rf1 := Go.Joins.unfrozen_of_block HR.out 1
            have HOE := hid (own_otherN (own_otherN HOW.out (show w.heap.size < w.heap.size + 2 by omega) (o := 0) (.int .i64 n)) (show w.heap.size < w.heap.size + 2 by omega) (o := 1) (.slice A done.length c))
            clear b2 hv
            go_wp2_with fail
            refine bodyPost_ret (v := .tuple #[.agg #[.int .i64 n, .slice A done.length c], .int .i64 0]) (by simp [results, Tryd.results9, go_sem, *]) rfl ?_
            exact ⟨⟨A, c, by rw [HV.out], by rw [HV.out]; exact rd_own HOE.out⟩, zb⟩
          · have hvb : (graphV ⟨n, done⟩ != 0) = true := by simpa using hv
            have HV := hid (show docG s.data.toList = (⟨0, []⟩, 3) by rw [HV2.out, if_neg hv])
            obtain ⟨z0, z1, zb⟩ := res2_end HR.out HBL.out (.int .i64 0) (.slice none 0 0)
            have r0 := Go.Joins.cell_of_block HR.out 0
            have r1 := Go.Joins.cell_of_block HR.out 1
            have rf0 := Go.Joins.unfrozen_of_block HR.out 0
            have rf1 := Go.Joins.unfrozen_of_block HR.out 1
            clear b2 hv
            go_wp2_with fail
            refine bodyPost_ret (v := .tuple #[.agg #[.int .i64 0, .slice none 0 0], .int .i64 3]) (by simp [results, Tryd.results9, go_sem, *]) rfl ?_
            exact ⟨⟨none, 0, by rw [HV.out]; rfl, by rw [HV.out]; exact Rd.nil_⟩, zb⟩
end Go.Proofs.YtfdaheenigmkmaaDoor
