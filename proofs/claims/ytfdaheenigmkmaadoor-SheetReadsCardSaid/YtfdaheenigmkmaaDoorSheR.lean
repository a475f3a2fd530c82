/- sheet.Read. -/
import Derived.Test.YtfdaheenigmkmaaDoorPlyR
import Derived.Test.YtfdaheenigmkmaaDoorNumW
import Derived.Test.YtfdaheenigmkmaaDoorShtS
import Derived.Test.YtfdaheenigmkmaaDoorRegI
namespace Go.Proofs.YtfdaheenigmkmaaDoor
open Go.RowKit Go.ChangeShapes Go.WideShapes Go.ChangeAt Go.Shelf
set_option linter.unusedVariables false
set_option linter.unusedSimpArgs false
attribute [local go_sem] Oper.semAt_some
theorem one_ed3 (a b c : Int) : ∀ u ∈ [Value.int .i64 a, .int .i64 b, .int .i64 c], u.oneCell' = true := fun u h => by simp at h; rcases h with rfl | rfl | rfl <;> rfl
/-- What the loop keeps. -/
structure PS (w : World) (eg eb ee : TypeId) (pre : List (List UInt8)) (W : World) : Prop where
  res : W.heap[w.heap.size]? = some (.cells #[.int .i64 0, .slice none 0 0] eg (0, 0))
  gph : ∃ A c, W.heap[w.heap.size + 1]? = some (.cells #[.int .i64 (progG pre).2.n, .slice A (progG pre).2.edges.length c] eg (0, 0)) ∧ W.ownsRow (w.heap.size + 4) ee 3 (.slice A (progG pre).2.edges.length c) (progG pre).2.edges.length ((progG pre).2.edges.flatMap Edge.cells)
  fst : W.heap[w.heap.size + 1 + 1]? = some (.cells #[.bool (progG pre).1] eb (0, 0))
  bel : Below w.heap.size w W
  sz : w.heap.size + 4 ≤ W.heap.size
section
variable {w : World} {eg eb ee : TypeId} {pre : List (List UInt8)} {W V : World}
theorem PS.cell_ (h : PS w eg eb ee pre W) (v : Value) : PS w eg eb ee pre (W.setCell ⟨w.heap.size + 1 + 1 + 1, 0, none⟩ v) := by
  obtain ⟨A, c, h1, h2⟩ := h.gph
  exact ⟨(heap_setO _ (by omega)).trans h.res, ⟨A, c, (heap_setO _ (by omega)).trans h1, own_other h2 (by omega) v⟩, (heap_setO _ (by omega)).trans h.fst, bS h.bel (show w.heap.size ≤ w.heap.size + 1 + 1 + 1 by omega) v, by simpa using h.sz⟩
theorem PS.put_ (h : PS w eg eb ee pre W) {l : Nat} {o : Obj} (o' : Obj) (hl : w.heap.size + 4 ≤ l) (ho : W.heap[l]? = some o) (hc : o.isCells = false) : PS w eg eb ee pre (W.putObj l o') := by
  obtain ⟨A, c, h1, h2⟩ := h.gph
  have hp : ∀ k, k < w.heap.size + 4 → (W.putObj l o').heap[k]? = W.heap[k]? := fun k hk => World.putObj_heap_other (by omega)
  exact ⟨(hp _ (by omega)).trans h.res, ⟨A, c, (hp _ (by omega)).trans h1, ownsRow_putObj h2 o' ho hc⟩, (hp _ (by omega)).trans h.fst, h.bel.trans ⟨rfl, rfl, rfl, by rw [putObj_size]; exact Nat.le_refl _, fun k hk => hp k (by omega)⟩, by rw [putObj_size]; exact h.sz⟩
theorem PS.below (h : PS w eg eb ee pre W) (hb : Below W.heap.size W V) : PS w eg eb ee pre V := by
  obtain ⟨A, c, h1, h2⟩ := h.gph
  have hp : ∀ {k : Nat} {o : Obj}, W.heap[k]? = some o → V.heap[k]? = some o := fun h => (hb.block _ (Array.getElem?_eq_some_iff.1 h).1).trans h
  exact ⟨hp h.res, ⟨A, c, hp h1, own_below h2 hb (Nat.le_refl _)⟩, hp h.fst, bT h.bel hb, Nat.le_trans h.sz hb.size⟩
theorem PS.stb (s : List (List UInt8)) : Stb (w.heap.size + 1 + 1 + 1) (w.heap.size + 4) (PS w eg eb ee s) :=
  { cell := fun W v h => h.cell_ v
    put := fun W l o o' h hl ho hc => h.put_ o' hl ho hc
    new := fun W o h => h.below ((Below.refl _ _).alloc (Nat.le_refl _) o)
    draw := fun W k h => h.below (bN (Below.refl _ _) k) }
theorem no_stb {bx B : Nat} : Stb bx B (fun _ => False) := { cell := fun _ _ h => h, put := fun _ _ _ _ h _ _ _ => h, new := fun _ _ h => h, draw := fun _ _ h => h }
end
theorem numsL_pos (l : List UInt8) : 0 < (numsL l).length := by
  unfold numsL
  rw [List.length_map]
  cases h : splitL (trimL l) with
  | nil => exact absurd h (splitL_ne _)
  | cons a b => simp
theorem progG_len (pre : List (List UInt8)) : (progG pre).2.edges.length ≤ pre.length := by
  have : ∀ (l : List (List UInt8)) (s : Bool × Graph), (l.foldl stepG s).2.edges.length ≤ s.2.edges.length + l.length := by
    intro l
    induction l with
    | nil => intro s; exact Nat.le_refl _
    | cons x l ih =>
      intro s
      rw [List.foldl_cons]
      have h1 := ih (stepG s x)
      have h2 : (stepG s x).2.edges.length ≤ s.2.edges.length + 1 := by
        unfold stepG addE
        split
        · simp
        · dsimp only; split <;> simp
      rw [List.length_cons]; omega
  have h := this pre (true, ⟨0, []⟩)
  simpa [progG] using h
theorem box_set {bx b o : Nat} {W : World} (v : Value) (h : bx ≠ b) : SameBox bx W (W.setCell ⟨b, o, none⟩ v) := by
  have e : (W.setCell ⟨b, o, none⟩ v).heap[bx]? = W.heap[bx]? := heap_setO v h
  exact ⟨by unfold World.cell?; simp only [e], by unfold World.frozen?; simp only [e]⟩
theorem fin2 {w : World} {eg : TypeId} {W : World} {D : Nat} {a0 b0 : Value} (h1 : W.heap[w.heap.size]? = some (.cells #[a0, b0] eg (0, 0))) (hb : Below w.heap.size w W) (hD : w.heap.size + 4 ≤ D)
    (hK : W.heap[D]? = some (.deferred (some []))) (x y : Value) :
    ((W.setCell ⟨w.heap.size, 0, none⟩ x).setCell ⟨w.heap.size, 1, none⟩ y).heap[D]? = some (.deferred (some [])) ∧
    (((W.setCell ⟨w.heap.size, 0, none⟩ x).setCell ⟨w.heap.size, 1, none⟩ y).putObj D (.deferred none)).cell? ⟨w.heap.size, 0, none⟩ = some x ∧
    (((W.setCell ⟨w.heap.size, 0, none⟩ x).setCell ⟨w.heap.size, 1, none⟩ y).putObj D (.deferred none)).cell? ⟨w.heap.size, 1, none⟩ = some y ∧
    Below w.heap.size w (((W.setCell ⟨w.heap.size, 0, none⟩ x).setCell ⟨w.heap.size, 1, none⟩ y).putObj D (.deferred none)) := by
  have e := Go.Joins.block_setCell (Go.Joins.block_setCell h1 x (i := 0)) y (i := 1)
  refine ⟨(heap_setO _ (by omega)).trans ((heap_setO _ (by omega)).trans hK), ?_, ?_, ?_⟩
  · rw [put_cell _ (by omega), Go.Joins.cell_of_block e]; rfl
  · rw [put_cell _ (by omega), Go.Joins.cell_of_block e]; rfl
  · have h4 : Below w.heap.size w ((W.setCell ⟨w.heap.size, 0, none⟩ x).setCell ⟨w.heap.size, 1, none⟩ y) := bS (bS hb (Nat.le_refl _) _) (Nat.le_refl _) _
    exact h4.trans ⟨rfl, rfl, rfl, by rw [putObj_size]; exact Nat.le_refl _, fun k hk => World.putObj_heap_other (by omega)⟩
set_option maxRecDepth 100000 in
set_option maxHeartbeats 8000000 in
theorem sheetRead_walk (s : ByteArray) (w : World) (hp : PowAt w) (he : ErrsAt w) (hg1 : 4 < w.heap.size) :
    Calls Tryd.prog 8 #[.string s] w fun e w' => (∃ A c, e = .returned (.tuple #[.agg #[.int .i64 (readG s.data.toList).1.n, .slice A (readG s.data.toList).1.edges.length c], .int .i64 (readG s.data.toList).2]) ∧ Rd w' w'.heap.size A 3 (readG s.data.toList).1.edges.length ((readG s.data.toList).1.edges.flatMap Edge.cells)) ∧ Below w.heap.size w w' := by
  have hss : s.data.toList.length = s.size := by rw [Array.length_toList]; rfl
  by_cases hbig : 20000 < s.size
  · have hbz : (20000 : Int) < (s.size : Int) := by omega
    have HV := hid (show readG s.data.toList = (⟨0, []⟩, 1) by unfold readG; rw [if_pos (by omega)])
    clear hbig hss
    go_enter Tryd.func8, Tryd.ntmps8
    go_wp2_with fail
    refine bodyPost_ret (v := .tuple #[.agg #[.int .i64 0, .slice none 0 0], .int .i64 1]) (by simp [results, Tryd.results8, go_sem, *]) rfl ?_
    exact ⟨⟨none, 0, by rw [HV.out]; rfl, by rw [HV.out]; exact Rd.nil_⟩, bA (Below.refl _ _) _⟩
  · have hbz : ¬ (20000 : Int) < (s.size : Int) := by omega
    have HLC := hid (fun V => lines_calls s V)
    have hmx : Tryd.prog.follows .mixedOrders = true := by kernel_rfl
    refine (callsIn_wide (n := 6)).1 ?_
    refine callsIn_of_wp_marks Tryd.func8 rfl trivial ?_ rfl
    simp only [Tryd.ntmps8, List.size_toArray, List.length_cons, List.length_nil, Nat.reduceAdd, Nat.reduceSub, Array.replicate_succ, Array.replicate_zero, List.push_toArray, List.append_toArray, List.nil_append, List.cons_append]
    gi_wp2_with (refine ⟨trivial, ?_⟩; gi_at_call 11; refine (callsIn_wide.2 (HLC.out _)).mono ?_; rintro e w' ⟨rfl, hw⟩; rw [hw])
    obtain ⟨W0, hW0⟩ : ∃ W0, W0 = ((((w.alloc (.cells #[.int .i64 0, .slice none 0 0] 30)).alloc (.cells #[.int .i64 0, .slice none 0 0] 30)).alloc (.cells #[.bool true] 4)).alloc (.cells #[.string s] 9)) := ⟨_, rfl⟩
    rw [← hW0]
    have hsz0 : W0.heap.size = w.heap.size + 4 := by rw [hW0]; simp
    have hB0 : Below w.heap.size w W0 := by rw [hW0]; exact bA (bA (bA (bA (Below.refl _ _) _) _) _) _
    have hP0 : PS w 30 4 45 [] W0 := by
      refine ⟨?_, ⟨none, 0, ?_, World.ownsRow_nil _ _ _ _⟩, ?_, hB0, by omega⟩
      · rw [hW0]; exact (Below.heap_alloc _ _ _ (by simp; omega)).trans ((Below.heap_alloc _ _ _ (by simp; omega)).trans ((Below.heap_alloc _ _ _ (by simp)).trans (heap_alloc_new w _)))
      · rw [hW0]; exact (Below.heap_alloc _ _ _ (by simp)).trans ((Below.heap_alloc _ _ _ (by simp)).trans (by have := heap_alloc_new (w.alloc (.cells #[.int .i64 0, .slice none 0 0] 30)) (.cells #[.int .i64 0, .slice none 0 0] 30); show _ = some (Obj.cells #[.int .i64 0, .slice none 0 0] 30 (0, 0)); simpa using this))
      · rw [hW0]; exact (Below.heap_alloc _ _ _ (by simp)).trans (by have := heap_alloc_new ((w.alloc (.cells #[.int .i64 0, .slice none 0 0] 30)).alloc (.cells #[.int .i64 0, .slice none 0 0] 30)) (.cells #[.bool true] 4); show _ = some (Obj.cells #[.bool true] 4 (0, 0)); simpa using this)
    have hbh : W0.heap[w.heap.size + 1 + 1 + 1]? = some (.cells #[.string s] 9 (0, 0)) := by
      rw [hW0]; have := heap_alloc_new (((w.alloc (.cells #[.int .i64 0, .slice none 0 0] 30)).alloc (.cells #[.int .i64 0, .slice none 0 0] 30)).alloc (.cells #[.bool true] 4)) (.cells #[.string s] 9); simpa using this
    have hbc : W0.cell? ⟨w.heap.size + 1 + 1 + 1, 0, none⟩ = some (.string ⟨s.data.toList.toArray⟩) := by rw [Go.Joins.cell_of_block hbh, ← bytesOf s]; rfl
    have hbf : W0.frozen? ⟨w.heap.size + 1 + 1 + 1, 0, none⟩ = false := Go.Joins.unfrozen_of_block hbh 0
    clear hW0 hbh
    refine iter_law (xs := linesL s.data.toList) (enc := fun l : List UInt8 => .string ⟨l.toArray⟩) (by decide) rfl (enters_of Tryd.func19 (by kernel_rfl) rfl) (by omega) hbc hbf (lines_iter 5 (by decide) _ _ (by omega))
      (PS w 30 4 45) (fun _ => False) (by rw [hsz0]; exact PS.stb) no_stb hP0
      (fun x => { tmps := #[.string s, undef, .pointer (some ⟨w.heap.size, 0, none⟩), .int .i64 0, .pointer (some ⟨w.heap.size + 1, 0, none⟩), .pointer (some ⟨w.heap.size + 1 + 1, 0, none⟩), .string ⟨x.toArray⟩, undef, undef, undef, .string s, .int .i64 s.size, .bool false, undef, .string s, .func (.func 19) #[] #[.pointer (some ⟨w.heap.size + 1 + 1 + 1, 0, none⟩)], .string ⟨x.toArray⟩, undef, undef, undef, undef, undef, undef, undef, undef, undef, undef, undef, undef, undef, undef, undef, undef, undef, undef, undef, undef, undef, undef, undef, undef, undef, undef, undef, undef, undef, undef, undef, undef, undef, undef, undef, undef, undef, undef, undef], defers := [] }) ?assign ?body ?done ?stop
    case assign =>
      intro l x W K hK
      gi_wp2
      exact hK
    case stop =>
      rintro D W hD hP hK
      exact hP.elim
    case body =>
      rintro l pre x W hP hpre
      have hxl : x ∈ linesL s.data.toList := hpre.subset (by simp)
      have hxs : x.length ≤ 5000000 := by have := (linesL_size s.data.toList).2 x hxl; omega
      have hpl : pre.length + 1 ≤ 20000 := by
        have h1 := hpre.length_le
        have h2 := (linesL_size s.data.toList).1
        rw [List.length_append, List.length_singleton] at h1; omega
      have HNU := hid (show Calls Tryd.prog 15 #[.string ⟨x.toArray⟩] W fun e w' => (∃ A c, e = .returned (.slice A (numsL x).length c) ∧ Rd w' w'.heap.size A 1 (numsL x).length ((numsL x).flatMap i64c)) ∧ Below W.heap.size W w' from numbers_walk ⟨x.toArray⟩ W (by show x.toArray.size ≤ _; simpa using hxs) (he.below hP.bel))
      have hW4 : w.heap.size + 4 ≤ W.heap.size := hP.sz
      have h1 : 1 ≤ 4 := by decide
      have HP := hid hP
      have HNL := hid (show ¬ LetsOut (endsRound (w.heap.size + 1 + 1 + 1) W0.heap.size (PS w 30 4 45) (fun _ => False) (pre ++ [x]) W) from by rintro ⟨a, w', h⟩; exact h)
      clear hP hxl hxs hpre
      gi_wp2_with fail
      refine ⟨trivial, (CallsIn.inRound l (callsIn_wide.2 HNU.out)).mono ?_⟩
      rintro e w3 ⟨⟨An, cn, rfl, rn⟩, b3⟩
      have HP3 := hid (HP.out.below b3)
      obtain ⟨A, c, hgb, how⟩ := HP3.out.gph
      have HGB := hid hgb
      have HOW := hid how
      have hsz3 := HP3.out.sz
      have HB3 := hid b3
      have hNp := numsL_pos x
      have hNz : (0 : Int) < ((numsL x).length : Int) := by omega
      have hel := progG_len pre
      obtain ⟨nb, no, hAn, hnb, hcl⟩ := rn.2 hNp
      subst hAn
      have HCL := hid hcl
      have HST := hid (progG_snoc pre x)
      obtain ⟨n0, hn0⟩ : ∃ n0, n0 = (numsL x).headD 0 := ⟨_, rfl⟩
      have c0 : w3.cell? ⟨nb, no, none⟩ = some (.int .i64 n0) := by
        have h := hcl 0 (.int .i64 n0) (by rw [hn0]; cases hq : numsL x with
          | nil => rw [hq] at hNp; simp at hNp
          | cons a b => rfl)
        simpa using h
      have HN0 := hid hn0
      have f0 := Go.Joins.cell_of_block HP3.out.fst 0
      have ff0 := Go.Joins.unfrozen_of_block HP3.out.fst 0
      have g0 := Go.Joins.cell_of_block HGB.out 0
      have gf0 := Go.Joins.unfrozen_of_block HGB.out 0
      have hszl := b3.size
      clear rn b3 hgb how hcl hn0
      generalize hS : progG pre = S at *
      obtain ⟨fs, gn, es⟩ := S
      dsimp only at HGB HOW hel f0 g0
      have HS := hid hS
      clear hS
      cases fs with
      | true =>
        have HE := hid (fun (ac : Act) => show endsRound (w.heap.size + 1 + 1 + 1) W0.heap.size (PS w 30 4 45) (fun _ => False) (pre ++ [x]) W .normal ac ((w3.setCell ⟨w.heap.size + 1, 0, none⟩ (.int .i64 n0)).setCell ⟨w.heap.size + 1 + 1, 0, none⟩ (.bool false)) from by
          have e : progG (pre ++ [x]) = (false, ⟨n0, es⟩) := by rw [HST.out, HN0.out]; rfl
          refine ⟨KeepsOthers.from ((keeps_below HB3.out).trans ((KeepsOthers.setCell _ _ _).trans (KeepsOthers.setCell _ _ _))) _, (box_below HB3.out (by omega)).trans ((box_set _ (by omega)).trans (box_set _ (by omega))), by simpa using hszl, ?_⟩
          refine ⟨(heap_setO _ (by omega)).trans ((heap_setO _ (by omega)).trans HP3.out.res), ⟨A, c, ?_, ?_⟩, ?_, bS (bS HP3.out.bel (by simp) _) (by simp; omega) _, by simpa using hsz3⟩
          · rw [e, heap_setO _ (by omega), Go.Joins.block_setCell HGB.out]; rfl
          · rw [e]; exact own_other (own_other HOW.out (by omega) _) (by omega) _
          · have hf := HP3.out.fst
            rw [e, Go.Joins.block_setCell ((heap_setO _ (by omega)).trans hf)]; rfl)
        clear HST
        gi_wp2
        exact HE.out _
      | false =>
        by_cases h3 : (numsL x).length = 3
        · have h3z : (((numsL x).length : Int) == 3) = true := by rw [beq_iff_eq]; omega
          obtain ⟨x0, x1, x2, hx3⟩ : ∃ x0 x1 x2, numsL x = [x0, x1, x2] := by
            match hq : numsL x, h3 with
            | [a, b, d], _ => exact ⟨a, b, d, rfl⟩
          have d0 : w3.cell? ⟨nb, no, none⟩ = some (.int .i64 x0) := by have h := HCL.out 0 (.int .i64 x0) (by rw [hx3]; rfl); simpa using h
          have d1 : w3.cell? ⟨nb, no + 1, none⟩ = some (.int .i64 x1) := HCL.out 1 (.int .i64 x1) (by rw [hx3]; rfl)
          have d2 : w3.cell? ⟨nb, no + 2, none⟩ = some (.int .i64 x2) := HCL.out 2 (.int .i64 x2) (by rw [hx3]; rfl)
          have g1 := Go.Joins.cell_of_block HGB.out 1
          have e : progG (pre ++ [x]) = (false, ⟨gn, es ++ [⟨x0, x1, x2⟩]⟩) := by rw [HST.out]; unfold stepG addE; rw [hx3]; rfl
          have HEQ := hid e
          have hl1 : (1 : Int) < ((numsL x).length : Int) := by omega
          have hl2 : (2 : Int) < ((numsL x).length : Int) := by omega
          have hSZ : (es.length + 1) * 24 ≤ 140737488355328 := by omega
          have hnb3 : nb < w3.heap.size := hnb
          have HK := hid (fun (V : World) (hV : Below w3.heap.size w3 V) => (show Below w3.heap.size w3 V ∧ V.cell? ⟨w.heap.size + 1, 1, none⟩ = some (.slice A es.length c) ∧ V.cell? ⟨nb, no, none⟩ = some (.int .i64 x0) ∧ V.cell? ⟨nb, no + 1, none⟩ = some (.int .i64 x1) ∧ V.cell? ⟨nb, no + 2, none⟩ = some (.int .i64 x2) from ⟨hV, keepb hV g1, keepb hV d0, keepb hV d1, keepb hV d2⟩))
          clear hx3 e HST HCL
          gi_wp2
          refine wpIn_region_F (S := (fun V => Below w3.heap.size w3 V ∧ V.cell? ⟨w.heap.size + 1, 1, none⟩ = some (.slice A es.length c) ∧ V.cell? ⟨nb, no, none⟩ = some (.int .i64 x0) ∧ V.cell? ⟨nb, no + 1, none⟩ = some (.int .i64 x1) ∧ V.cell? ⟨nb, no + 2, none⟩ = some (.int .i64 x2))) [13, 15] (by kernel_rfl) (by kernel_rfl) HNL.out (HK.out _ (bD (Below.refl _ _))) (fun hHeld => ?_)
          refine wpAnyF_pure (i := 0) (v := ?vg1_1_0) rfl (by kernel_rfl) (by kernel_rfl) (by kernel_rfl) (fun _ _ _ h => h) (Or.inl ⟨by rfl, ?hyg1_1_0⟩) ?restg1_1_0
          case hyg1_1_0 => (intro w hSw; clear hSw; go_simp; (all_goals with_reducible rfl))
          try simp only [Act.put, List.setIfInBounds_toArray, List.set_cons_zero, List.set_cons_succ, List.getElem_toArray, List.getElem_cons_succ, List.getElem_cons_zero]
          refine wpAnyF_pure (i := 2) (v := ?vg1_2_2) rfl (by kernel_rfl) (by kernel_rfl) (by kernel_rfl) (fun _ _ _ h => h) (Or.inl ⟨by rfl, ?hyg1_2_2⟩) ?restg1_2_2
          case hyg1_2_2 => (intro w hSw; clear hSw; go_simp; (all_goals with_reducible rfl))
          try simp only [Act.put, List.setIfInBounds_toArray, List.set_cons_zero, List.set_cons_succ, List.getElem_toArray, List.getElem_cons_succ, List.getElem_cons_zero]
          refine wpAnyF_pure (i := 3) (v := ?vg1_3_3) rfl (by kernel_rfl) (by kernel_rfl) (by kernel_rfl) (fun _ _ _ h => h) (Or.inl ⟨by rfl, ?hyg1_3_3⟩) ?restg1_3_3
          case hyg1_3_3 => (intro w hSw; clear hSw; go_simp; (all_goals with_reducible rfl))
          try simp only [Act.put, List.setIfInBounds_toArray, List.set_cons_zero, List.set_cons_succ, List.getElem_toArray, List.getElem_cons_succ, List.getElem_cons_zero]
          refine wpAnyF_pure (i := 5) (v := ?vg1_4_5) rfl (by kernel_rfl) (by kernel_rfl) (by kernel_rfl) (fun _ _ _ h => h) (Or.inl ⟨by rfl, ?hyg1_4_5⟩) ?restg1_4_5
          case hyg1_4_5 => (intro w hSw; clear hSw; go_simp; (all_goals with_reducible rfl))
          try simp only [Act.put, List.setIfInBounds_toArray, List.set_cons_zero, List.set_cons_succ, List.getElem_toArray, List.getElem_cons_succ, List.getElem_cons_zero]
          refine wpAnyF_pure (i := 6) (v := ?vg1_5_6) rfl (by kernel_rfl) (by kernel_rfl) (by kernel_rfl) (fun _ _ _ h => h) (Or.inl ⟨by rfl, ?hyg1_5_6⟩) ?restg1_5_6
          case hyg1_5_6 => (intro w hSw; clear hSw; go_simp; (all_goals with_reducible rfl))
          try simp only [Act.put, List.setIfInBounds_toArray, List.set_cons_zero, List.set_cons_succ, List.getElem_toArray, List.getElem_cons_succ, List.getElem_cons_zero]
          refine wpAnyF_pure (i := 8) (v := ?vg1_6_8) rfl (by kernel_rfl) (by kernel_rfl) (by kernel_rfl) (fun _ _ _ h => h) (Or.inl ⟨by rfl, ?hyg1_6_8⟩) ?restg1_6_8
          case hyg1_6_8 => (intro w hSw; clear hSw; go_simp; (all_goals with_reducible rfl))
          try simp only [Act.put, List.setIfInBounds_toArray, List.set_cons_zero, List.set_cons_succ, List.getElem_toArray, List.getElem_cons_succ, List.getElem_cons_zero]
          refine wpAnyF_pure (i := 9) (v := ?vg1_7_9) rfl (by kernel_rfl) (by kernel_rfl) (by kernel_rfl) (fun _ _ _ h => h) (Or.inl ⟨by rfl, ?hyg1_7_9⟩) ?restg1_7_9
          case hyg1_7_9 => (intro w hSw; clear hSw; go_simp; (all_goals with_reducible rfl))
          try simp only [Act.put, List.setIfInBounds_toArray, List.set_cons_zero, List.set_cons_succ, List.getElem_toArray, List.getElem_cons_succ, List.getElem_cons_zero]
          refine wpAnyF_take [13, 14, 15] (i := 1) (v := ?vg1_8_1) rfl (by kernel_rfl) (by kernel_rfl) (by kernel_rfl) (by kernel_rfl) (fun _ _ _ h => h) (Or.inl ⟨by rfl, ?hyg1_8_1⟩) (by assumption) ?restg1_8_1
          case hyg1_8_1 => (intro w hSw; (try dsimp only at hSw); go_simp; (all_goals with_reducible rfl))
          try simp only [Act.put, List.setIfInBounds_toArray, List.set_cons_zero, List.set_cons_succ, List.getElem_toArray, List.getElem_cons_succ, List.getElem_cons_zero]
          refine wpAnyF_take [11, 12, 13, 14, 15] (i := 4) (v := ?vg1_9_4) rfl (by kernel_rfl) (by kernel_rfl) (by kernel_rfl) (by kernel_rfl) (fun _ _ _ h => h) (Or.inl ⟨by rfl, ?hyg1_9_4⟩) (by assumption) ?restg1_9_4
          case hyg1_9_4 => (intro w hSw; (try dsimp only at hSw); go_simp; (all_goals with_reducible rfl))
          try simp only [Act.put, List.setIfInBounds_toArray, List.set_cons_zero, List.set_cons_succ, List.getElem_toArray, List.getElem_cons_succ, List.getElem_cons_zero]
          refine wpAnyF_take [11, 12, 13, 14, 15] (i := 7) (v := ?vg1_10_7) rfl (by kernel_rfl) (by kernel_rfl) (by kernel_rfl) (by kernel_rfl) (fun _ _ _ h => h) (Or.inl ⟨by rfl, ?hyg1_10_7⟩) (by assumption) ?restg1_10_7
          case hyg1_10_7 => (intro w hSw; (try dsimp only at hSw); go_simp; (all_goals with_reducible rfl))
          try simp only [Act.put, List.setIfInBounds_toArray, List.set_cons_zero, List.set_cons_succ, List.getElem_toArray, List.getElem_cons_succ, List.getElem_cons_zero]
          refine wpAnyF_take [11, 12, 13, 14, 15] (i := 10) (v := ?vg1_11_10) rfl (by kernel_rfl) (by kernel_rfl) (by kernel_rfl) (by kernel_rfl) (fun _ _ _ h => h) (Or.inl ⟨by rfl, ?hyg1_11_10⟩) (by assumption) ?restg1_11_10
          case hyg1_11_10 => (intro w hSw; (try dsimp only at hSw); go_simp; (all_goals with_reducible rfl))
          try simp only [Act.put, List.setIfInBounds_toArray, List.set_cons_zero, List.set_cons_succ, List.getElem_toArray, List.getElem_cons_succ, List.getElem_cons_zero]
          refine wpAnyF_pure (i := 11) (v := ?vg1_12_11) rfl (by kernel_rfl) (by kernel_rfl) (by kernel_rfl) (fun _ _ _ h => h) (Or.inl ⟨by rfl, ?hyg1_12_11⟩) ?restg1_12_11
          case hyg1_12_11 => (intro w hSw; clear hSw; go_simp; (all_goals with_reducible rfl))
          try simp only [Act.put, List.setIfInBounds_toArray, List.set_cons_zero, List.set_cons_succ, List.getElem_toArray, List.getElem_cons_succ, List.getElem_cons_zero]
          refine wpAnyF_one (i := 12) (by kernel_rfl) rfl (fun K hK => ?_)
          go_simp
          refine hK.out _ _ (HK.out _ (bA hHeld.1 _)) (fun hHeld => ?_)
          clear hK K
          try simp only [Act.put, List.setIfInBounds_toArray, List.set_cons_zero, List.set_cons_succ, List.getElem_toArray, List.getElem_cons_succ, List.getElem_cons_zero]
          refine wpAnyF_oneD (i := 13) (by kernel_rfl) (by kernel_rfl) rfl (fun K hK => ?_)
          refine step_app3 (news := [.int .i64 x0, .int .i64 x1, .int .i64 x2]) rfl rfl el_edges rfl (own_below HOW.out (bD (bA (Below.refl _ _) _)) (Nat.le_refl _)) rfl (rd_new _ #[.int .i64 x0, .int .i64 x1, .int .i64 x2] 45 3 1 rfl) (one_ed3 _ _ _) hSZ (by show w.heap.size + 4 ≤ (w3.alloc _).heap.size; rw [World.size_alloc]; omega) ?_
          intro A5 c5 w5 o5 b5 g5 h5
          have hG5 := (b5.block _ (show w.heap.size + 1 < w.heap.size + 4 by omega)).trans (((bD (bA (Below.refl w3.heap.size w3) (.cells #[.int .i64 x0, .int .i64 x1, .int .i64 x2] 45))).block _ (by omega)).trans HGB.out)
          have gg := Go.Joins.cell_of_block hG5 1
          have ggf := Go.Joins.unfrozen_of_block hG5 1
          refine hK.out _ _ ?_
          clear hK K
          try simp only [Act.put, List.setIfInBounds_toArray, List.set_cons_zero, List.set_cons_succ, List.getElem_toArray, List.getElem_cons_succ, List.getElem_cons_zero]
          refine wpAnyF_pure (i := 14) (v := ?vg1_15_14) rfl (by kernel_rfl) (by kernel_rfl) (by kernel_rfl) (fun _ _ _ h => h) (Or.inl ⟨by rfl, ?hyg1_15_14⟩) ?restg1_15_14
          case hyg1_15_14 => (intro w hSw; clear hSw; go_simp; (all_goals with_reducible rfl))
          try simp only [Act.put, List.setIfInBounds_toArray, List.set_cons_zero, List.set_cons_succ, List.getElem_toArray, List.getElem_cons_succ, List.getElem_cons_zero]
          refine wpAnyF_oneD (i := 15) (by kernel_rfl) (by kernel_rfl) rfl (fun K hK => ?_)
          go_simp
          refine hK.out _ _ ?_
          clear hK K
          try simp only [Act.put, List.setIfInBounds_toArray, List.set_cons_zero, List.set_cons_succ, List.getElem_toArray, List.getElem_cons_succ, List.getElem_cons_zero]
          refine wpAnyF_done (by kernel_rfl) ?_ _
          gi_wp2
          have hA1 := bD (bA (Below.refl w3.heap.size w3) (.cells #[.int .i64 x0, .int .i64 x1, .int .i64 x2] 45))
          have hs5 := b5.size
          have hs4 : ((w3.alloc (.cells #[.int .i64 x0, .int .i64 x1, .int .i64 x2] 45)).drew).heap.size = w3.heap.size + 1 := by
            show (w3.alloc _).heap.size = _
            rw [World.size_alloc]
          rw [hs4] at hs5
          have hb05 : Below (w.heap.size + 4) w3 w5 := (hA1.mono (by omega)).trans b5
          have e := HEQ.out
          have hf := HP3.out.fst
          rw [HS.out] at hf
          refine ⟨KeepsOthers.from ((keeps_below HB3.out).trans ((keeps_below hA1).trans ((keeps_grown (own_below HOW.out (bD (bA (Below.refl _ _) _)) (Nat.le_refl _)) g5).trans (KeepsOthers.setCell _ _ _)))) _, ?_, by simp; omega, ?_⟩
          · refine (box_below HB3.out (by omega)).trans (SameBox.trans ?_ (box_set _ (by omega)))
            have e2 : w5.heap[w.heap.size + 1 + 1 + 1]? = w3.heap[w.heap.size + 1 + 1 + 1]? := hb05.block _ (by omega)
            exact ⟨by unfold World.cell?; simp only [e2], by unfold World.frozen?; simp only [e2]⟩
          · refine ⟨(heap_setO _ (by omega)).trans ((hb05.block _ (by omega)).trans HP3.out.res), ⟨A5, c5, ?_, ?_⟩, ?_, bS (HP3.out.bel.trans (hb05.mono (by omega))) (by simp) _, by simp; omega⟩
            · rw [e, Go.Joins.block_setCell hG5]
              show _ = some (Obj.cells #[.int .i64 gn, .slice A5 (es ++ [(⟨x0, x1, x2⟩ : Edge)]).length c5] _ (0, 0))
              rw [List.length_append, List.length_singleton]; rfl
            · rw [e]
              show World.ownsRow _ _ _ 3 (.slice A5 (es ++ [(⟨x0, x1, x2⟩ : Edge)]).length c5) (es ++ [(⟨x0, x1, x2⟩ : Edge)]).length ((es ++ [(⟨x0, x1, x2⟩ : Edge)]).flatMap Edge.cells)
              rw [List.length_append, List.length_singleton, List.flatMap_append, List.flatMap_singleton]
              exact own_other o5 (by omega) _
            · rw [e, heap_setO _ (by omega)]
              exact (hb05.block _ (by omega)).trans hf
        · have h3z : (((numsL x).length : Int) == 3) = false := by rw [beq_eq_false_iff_ne]; omega
          have e : progG (pre ++ [x]) = (false, ⟨gn, es⟩) := by rw [HST.out]; unfold stepG addE; rw [if_neg h3]; rfl
          have HE := hid (fun (ac : Act) => show endsRound (w.heap.size + 1 + 1 + 1) W0.heap.size (PS w 30 4 45) (fun _ => False) (pre ++ [x]) W .normal ac w3 from by
            refine ⟨KeepsOthers.from (keeps_below HB3.out) _, box_below HB3.out (by omega), hszl, ?_⟩
            have hf := HP3.out.fst
            rw [HS.out] at hf
            exact ⟨HP3.out.res, ⟨A, c, by rw [e]; exact HGB.out, by rw [e]; exact HOW.out⟩, by rw [e]; exact hf, HP3.out.bel, hsz3⟩)
          gi_wp2
          exact HE.out _
    case done =>
      rintro D W hD hP hK
      obtain ⟨A, c, hgb, how⟩ := hP.gph
      obtain ⟨g, hg⟩ : ∃ g, g = (progG (linesL s.data.toList)).2 := ⟨_, rfl⟩
      have HV := hid (show readG s.data.toList = if showG g = (⟨s.data.toList.toArray⟩, 0) then (g, 0) else (⟨0, []⟩, 3) by unfold readG; rw [if_neg (by omega), ← hg])
      rw [← hg] at hgb how
      have g0 := Go.Joins.cell_of_block hgb 0
      have g1 := Go.Joins.cell_of_block hgb 1
      have hgl : g.edges.length ≤ 20000 := by
        have h1 := progG_len (linesL s.data.toList)
        have h2 := (linesL_size s.data.toList).1
        rw [← hg] at h1; omega
      obtain ⟨Z, hZ⟩ : ∃ z, z = showG g := ⟨_, rfl⟩
      obtain ⟨S, er⟩ := Z
      rw [← hZ] at HV
      have HSW := hid (show Calls Tryd.prog 16 #[.agg #[.int .i64 g.n, .slice A g.edges.length c]] W fun e w' => e = .returned (.tuple #[.string S, .int .i64 er]) ∧ Below W.heap.size W w' from by
        have h := sheetShow_walk g W A c (rd_own how) (by omega) (hp.below hP.bel) (by have := hP.sz; omega)
        rw [← hZ] at h; exact h)
      have HOW := hid how
      have HP := hid hP
      have HKD := hid hK
      have hD' : w.heap.size + 4 ≤ D := by omega
      have h1 : 1 ≤ 6 := by decide
      clear hgb how hg hZ hP hK
      gi_wp2_with fail
      refine ⟨trivial, (callsIn_wide.2 HSW.out).mono ?_⟩
      rintro e w2 ⟨rfl, b2⟩
      have HRES := hid ((b2.block _ (by have := HP.out.sz; omega)).trans HP.out.res)
      have HBL2 := hid (bT HP.out.bel b2)
      have HK2 := hid ((b2.block _ (Array.getElem?_eq_some_iff.1 HKD.out).1).trans HKD.out)
      have r0 := Go.Joins.cell_of_block HRES.out 0
      have r1 := Go.Joins.cell_of_block HRES.out 1
      have rf0 := Go.Joins.unfrozen_of_block HRES.out 0
      have rf1 := Go.Joins.unfrozen_of_block HRES.out 1
      have g0 := keepb b2 g0
      have g1 := keepb b2 g1
      have HO2 := hid (own_below HOW.out b2 (Nat.le_refl _))
      clear b2 HSW
      by_cases hE : er = 0
      · subst hE
        by_cases hS : S = s
        · subst hS
          have HV2 := hid (show readG S.data.toList = (g, 0) by rw [HV.out, if_pos (by rw [← bytesOf S])])
          obtain ⟨k1, k2, k3, k4⟩ := fin2 HRES.out HBL2.out hD' HK2.out (.int .i64 g.n) (.slice A g.edges.length c)
          have HOE := hid (ownsRow_putObj (own_other (own_other HO2.out (show w.heap.size < w.heap.size + 4 by omega) (o := 0) (.int .i64 g.n)) (show w.heap.size < w.heap.size + 4 by omega) (o := 1) (.slice A g.edges.length c)) (.deferred none) k1 rfl)
          gi_wp2
          all_goals
            refine ⟨by simp, .inl ⟨_, _, rfl, run_takeDeferred k1, ?_⟩⟩
            refine ⟨.tuple #[.agg #[.int .i64 g.n, .slice A g.edges.length c], .int .i64 0], by simp [results, Tryd.results8, go_sem, *], ⟨A, c, by rw [HV2.out], by rw [HV2.out]; exact rd_own HOE.out⟩, k4⟩
        · have hSb : (S.toList == s.toList) = false := by
            rw [beq_eq_false_iff_ne, ByteArray.toList_eq, ByteArray.toList_eq]; exact fun e => hS (ByteArray.ext (Array.toList_inj.1 e))
          have HV2 := hid (show readG s.data.toList = (⟨0, []⟩, 3) by
            rw [HV.out, if_neg]
            intro h
            have h2 : S = ⟨s.data.toList.toArray⟩ := congrArg Prod.fst h
            rw [← bytesOf s] at h2
            exact hS h2)
          clear hS
          obtain ⟨k1, k2, k3, k4⟩ := fin2 HRES.out HBL2.out hD' HK2.out (.int .i64 0) (.slice none 0 0)
          gi_wp2
          all_goals
            refine ⟨by simp, .inl ⟨_, _, rfl, run_takeDeferred k1, ?_⟩⟩
            refine ⟨.tuple #[.agg #[.int .i64 0, .slice none 0 0], .int .i64 3], by simp [results, Tryd.results8, go_sem, *], ⟨none, 0, by rw [HV2.out]; rfl, by rw [HV2.out]; exact Rd.nil_⟩, k4⟩
      · have hEb : (er != 0) = true := by simpa using hE
        have HV2 := hid (show readG s.data.toList = (⟨0, []⟩, 3) by
          rw [HV.out, if_neg]
          intro h
          exact hE (congrArg Prod.snd h))
        clear hE
        obtain ⟨k1, k2, k3, k4⟩ := fin2 HRES.out HBL2.out hD' HK2.out (.int .i64 0) (.slice none 0 0)
        gi_wp2
        all_goals
          refine ⟨by simp, .inl ⟨_, _, rfl, run_takeDeferred k1, ?_⟩⟩
          refine ⟨.tuple #[.agg #[.int .i64 0, .slice none 0 0], .int .i64 3], by simp [results, Tryd.results8, go_sem, *], ⟨none, 0, by rw [HV2.out]; rfl, by rw [HV2.out]; exact Rd.nil_⟩, k4⟩
end Go.Proofs.YtfdaheenigmkmaaDoor
