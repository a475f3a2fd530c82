/- The methods of paths' heap. -/
import Derived.Test.YtifpngjipkmdcaaMhp
import Derived.Test.YtifpngjipkmdcaaRegF
import Derived.Deep.DeepCutAuto
namespace Go.Proofs.Ytifpngjipkmdcaa
open Go.ChangeShapes Go.WideShapes Go.ChangeAt Go.RowKit
set_option linter.unusedVariables false
set_option linter.unusedSimpArgs false
abbrev Sp := Nat × Nat
def spC (x : Sp) : List Value := [.int .i64 (x.1 : Nat), .int .i64 (x.2 : Nat)]
def splt (x y : Sp) : Bool := decide (x.2 < y.2)
theorem splt_irr (x : Sp) : splt x x = false := by simp [splt]
theorem splt_ord : Ord2 splt where
  asym x y h := by simp only [splt, decide_eq_true_eq, decide_eq_false_iff_not] at *; omega
  trans x y z h1 h2 := by simp only [splt, decide_eq_false_iff_not] at *; omega
abbrev spBlk (A : Option Addr) (c : Nat) (H : List Sp) : Option Nat := (Value.slice A H.length c).ownBlock
/-- What a call on a heap at G leaves as it was: all but G, the heap's row, and what is new. -/
def HFL (w w' : World) (L G : Nat) (a a' : Option Nat) : Prop :=
  Below L w w' ∧ (∀ k, k < w.heap.size → k ≠ G → a ≠ some k → w'.heap[k]? = w.heap[k]?) ∧ (∀ k, a' = some k → a = some k ∨ w.heap.size ≤ k)
theorem HFL.trans {w w1 w2 : World} {L G : Nat} {a a1 a2 : Option Nat} (h : HFL w w1 L G a a1) (k : HFL w1 w2 L G a1 a2) : HFL w w2 L G a a2 := by
  refine ⟨h.1.trans k.1, fun i hi hG ha => ?_, fun i hi => ?_⟩
  · refine (k.2.1 i (Nat.lt_of_lt_of_le hi h.1.size) hG fun e => ?_).trans (h.2.1 i hi hG ha)
    rcases h.2.2 i e with e2 | e2
    · exact ha e2
    · omega
  · rcases k.2.2 i hi with e | e
    · exact h.2.2 i e
    · exact .inr (Nat.le_trans h.1.size e)
theorem HFL.below {w w' : World} {L G : Nat} {a : Option Nat} (h : Below w.heap.size w w') (hG : L ≤ w.heap.size) : HFL w w' L G a a :=
  ⟨h.mono hG, fun k hk _ _ => h.block k hk, fun k hk => .inl hk⟩
theorem own_hfl {w w' : World} {base e sz n L G : Nat} {v : Value} {xs : List Value} {a a' : Option Nat} (h : w.ownsRow base e sz v n xs) (hf : HFL w w' L G a a') (hne : ∀ x, v.ownBlock = some x → x ≠ G ∧ a ≠ some x) : w'.ownsRow base e sz v n xs := by
  refine ⟨h.1, ?_⟩
  rcases h.2 with h0 | ⟨g', cap, cur, h1, h2, h3, r⟩
  · exact .inl h0
  · refine .inr ⟨g', cap, cur, h1, h2, ?_, r⟩
    have := hne g' (by rw [h1]; rfl)
    rw [hf.2.1 g' (Array.getElem?_eq_some_iff.1 h3).1 this.1 this.2]
    exact h3
theorem hfl_of_grown {w w' : World} {L G g : Nat} (h : w.grownBy w' (some g)) (hg : L ≤ g) (hG : L ≤ w.heap.size) : HFL w w' L G (some g) (some g) :=
  ⟨⟨h.os, h.tape, h.output, h.size, fun k hk => h.block k (by omega) (fun e => by injection e with e; omega)⟩, fun k hk _ hne => h.block k hk (fun e => hne e.symm), fun k hk => .inl hk⟩
theorem sp_cell {w w' : World} {g : Option Nat} (h : w.grownBy w' g) {b o : Nat} (hb : b < w.heap.size) (hne : g ≠ some b) : w'.cell? ⟨b, o, none⟩ = w.cell? ⟨b, o, none⟩ :=
  World.cell?_of_block (w := w) (h.block b hb (fun e => hne e.symm))
theorem sp_frozen {w w' : World} {g : Option Nat} (h : w.grownBy w' g) {b o : Nat} (hb : b < w.heap.size) (hne : g ≠ some b) : w'.frozen? ⟨b, o, none⟩ = w.frozen? ⟨b, o, none⟩ :=
  World.frozen?_of_block (w := w) (h.block b hb (fun e => hne e.symm))
/-- A heap of spots lies at G, its row at L or behind it. -/
structure SO (w : World) (L G : Nat) (A : Option Addr) (c : Nat) (H : List Sp) : Prop where
  le : L ≤ G
  off : ∀ y, spBlk A c H = some y → y ≠ G
  all : w.cell? ⟨G, 0, none⟩ = some (.slice A H.length c)
  fz : w.frozen? ⟨G, 0, none⟩ = false
  row : Heaped spC (fun _ => []) w L 71 2 A c H
theorem SO.lt {w : World} {L G : Nat} {A : Option Addr} {c : Nat} {H : List Sp} (h : SO w L G A c H) : G < w.heap.size := World.block_lt_of_cell? w _ h.all
theorem SO.below {w w' : World} {L G : Nat} {A : Option Addr} {c : Nat} {H : List Sp} (h : SO w L G A c H) (b : Below w.heap.size w w') : SO w' L G A c H :=
  ⟨h.le, h.off, keepb b h.all, keepf b h.fz h.lt, h.row.below b (Nat.le_refl _)⟩
theorem SO.at_ {w : World} {L G : Nat} {A : Option Addr} {c : Nat} {H : List Sp} (h : SO w L G A c H) {k : Nat} {x : Sp} (hx : H[k]? = some x) :
    ∃ g, A = some ⟨g, 0, none⟩ ∧ (L ≤ g ∧ g ≠ G) ∧ g < w.heap.size ∧ w.cell? ⟨g, k * 2, none⟩ = some (.int .i64 (x.1 : Nat)) ∧ w.cell? ⟨g, k * 2 + 1, none⟩ = some (.int .i64 (x.2 : Nat)) ∧ H.length ≤ c := by
  obtain ⟨g, hg, h1, h2, h3, _⟩ := heap_put (cells := spC) (sz := 2) (fun _ => rfl) h.row hx x (fun p hp => (by cases hp)) (by decide)
  exact ⟨g, hg, ⟨h1, h.off g (by subst hg; rfl)⟩, h2, h3 0 _ rfl, h3 1 _ rfl, own_cap h.row.1⟩
theorem SO.blk_lt {w : World} {L G : Nat} {A : Option Addr} {c : Nat} {H : List Sp} (h : SO w L G A c H) {y : Nat} (hy : spBlk A c H = some y) : L ≤ y ∧ y < w.heap.size := h.row.1.lt y hy
theorem SO.grown {w w' : World} {L G : Nat} {A : Option Addr} {c : Nat} {H : List Sp} {g : Option Nat} (h : SO w L G A c H) (hg : w.grownBy w' g) (hne : ∀ y, g = some y → y ≠ G ∧ spBlk A c H ≠ some y) : SO w' L G A c H := by
  have hG : g ≠ some G := fun e => (hne G e).1 rfl
  refine ⟨h.le, h.off, (World.cell?_of_block (w := w) (hg.block G h.lt (fun e => hG e.symm))).trans h.all, (World.frozen?_of_block (w := w) (hg.block G h.lt (fun e => hG e.symm))).trans h.fz, ⟨own_grown h.row.1 hg fun x hx e => (hne x e).2 hx, fun _ _ _ hp => by cases hp⟩⟩
theorem wrapNilV (t : TypeId) (a : Addr) (x y : String) : Builtin.ssaWrapNilChk_ #[t] t #[.pointer (some a), strVal x, strVal y] = pure (.pointer (some a)) := rfl
/-- A method of the value, called through an interface that holds a pointer. -/
theorem run_methodV {P : Program} {t e : TypeId} {name : String} {f : FuncId} {fuel : Nat} (hm : ((P.info? t).bind fun i => i.methods.find? (·.name == name)).map (fun m => (m.path, m.func)) = some (#[], some (f, false))) (ht : P.underlying t = some (.pointer e)) (a : Addr) {w : World} {v : Value} (hl : (loadVar e a).run P w = .ok v w) :
    (method (fuel + 1) t (.pointer (some a)) name).run P w = .ok (f, v) w := by
  cases hi : P.info? t with
  | none => rw [hi] at hm; cases hm
  | some i =>
    rw [hi] at hm
    simp only [Option.bind_some] at hm
    cases hf : i.methods.find? (·.name == name) with
    | none => rw [hf] at hm; cases hm
    | some m =>
      rw [hf] at hm
      simp only [Option.map_some, Option.some.injEq, Prod.mk.injEq] at hm
      obtain ⟨h2, h3⟩ := hm
      simp [method, typeInfo, hi, hf, h2, h3, follow, receiverAt, Place.get, run_underlying ht, wrapNilV, asAddr, hl]
theorem mLess {G : Nat} {A : Option Addr} {n c : Nat} (w : World) (h : w.cell? ⟨G, 0, none⟩ = some (.slice A n c)) : (method 314 75 (.pointer (some ⟨G, 0, none⟩)) "Less").run Try.prog w = .ok (162, .slice A n c) w :=
  run_methodV (by kernel_rfl) Try.underlying75 _ (by go_simp)
theorem mLen {G : Nat} {A : Option Addr} {n c : Nat} (w : World) (h : w.cell? ⟨G, 0, none⟩ = some (.slice A n c)) : (method 314 75 (.pointer (some ⟨G, 0, none⟩)) "Len").run Try.prog w = .ok (161, .slice A n c) w :=
  run_methodV (by kernel_rfl) Try.underlying75 _ (by go_simp)
theorem mSwap {G : Nat} {A : Option Addr} {n c : Nat} (w : World) (h : w.cell? ⟨G, 0, none⟩ = some (.slice A n c)) : (method 314 75 (.pointer (some ⟨G, 0, none⟩)) "Swap").run Try.prog w = .ok (163, .slice A n c) w :=
  run_methodV (by kernel_rfl) Try.underlying75 _ (by go_simp)
theorem spLen_walk (A : Option Addr) (n c : Nat) (w : World) :
    Calls Try.prog 161 #[.slice A n c] w fun e w' => e = .returned (.int .i64 (n : Nat)) ∧ w = w' := by
  go_enter Try.func161, Try.ntmps161
  go_wp2
  go_ret
  exact ⟨rfl, rfl⟩
theorem spLess_walk {w : World} {L G : Nat} {A : Option Addr} {c n : Nat} {H : List Sp} (h : SO w L G A c H) (hn : H.length = n) {i j : Nat} {zi zj : Int} (hzi : zi = (i : Nat)) (hzj : zj = (j : Nat)) {x y : Sp} (hx : H[i]? = some x) (hy : H[j]? = some y) :
    Calls Try.prog 162 #[.slice A n c, .int .i64 zi, .int .i64 zj] w fun e w' => e = .returned (.bool (splt x y)) ∧ Below w.heap.size w w' := by
  have hi := (List.getElem?_eq_some_iff.1 hx).1
  have hj := (List.getElem?_eq_some_iff.1 hy).1
  obtain ⟨g, hA, hG, hgs, a0, a1, hlc⟩ := h.at_ hx
  obtain ⟨g', hA', _, _, e0, e1, _⟩ := h.at_ hy
  rw [hA] at hA'
  injection hA' with hA'
  injection hA' with hA'
  subst hA' hA hzi hzj
  have HV : Hid (splt x y = decide (x.2 < y.2)) := hid rfl
  have hiz : (i : Int) < (n : Int) := by omega
  have hjz : (j : Int) < (n : Int) := by omega
  have hb := Below.refl w.heap.size w
  clear hx hy h a0 e0 hn
  generalize splt x y = r at *
  go_enter Try.func162, Try.ntmps162
  go_wp2_with fail
  go_quiet (fail)
  go_wp2_with fail
  go_ret
  exact ⟨by rw [HV.out]; rfl, below_drewN hb _⟩
/-- One store behind: a swap under way. -/
def SpX (w : World) (L0 g c : Nat) (L : List Sp) (p : Nat) (x0 x1 : Value) (wx : World) : Prop :=
  Heaped spC (fun _ => []) wx L0 71 2 (some ⟨g, 0, none⟩) c L ∧ wx.cell? ⟨p, 0, none⟩ = some x0 ∧ wx.cell? ⟨p, 1, none⟩ = some x1 ∧ w.grownBy wx (some g)
set_option maxRecDepth 100000 in
set_option maxHeartbeats 1000000 in
theorem spSwap_walk {w : World} {L G : Nat} {A : Option Addr} {c n : Nat} {H : List Sp} (h : SO w L G A c H) (hN : H.length = n) {i j : Nat} {zi zj : Int} (hzi : zi = (i : Nat)) (hzj : zj = (j : Nat)) (hi : i < n) (hj : j < n) :
    Calls Try.prog 163 #[.slice A n c, .int .i64 zi, .int .i64 zj] w fun e w' => e = .returned (.tuple #[]) ∧ SO w' L G A c (swapL H i j) ∧ HFL w w' L G (spBlk A c H) (spBlk A c H) := by
  obtain ⟨x, hx⟩ : ∃ x, H[i]? = some x := ⟨_, List.getElem?_eq_getElem (by omega)⟩
  obtain ⟨y, hy⟩ : ∃ x, H[j]? = some x := ⟨_, List.getElem?_eq_getElem (by omega)⟩
  obtain ⟨g, hA, hG, hgs, a0, a1, hlc⟩ := h.at_ hx
  obtain ⟨g', hA', _, _, e0, e1, _⟩ := h.at_ hy
  rw [hA] at hA'
  injection hA' with hA'
  injection hA' with hA'
  subst hA' hA hzi hzj
  have HSW := hid (swapL_eq hx hy)
  have HH := hid h
  have HX := hid hx
  have HY := hid hy
  have hGs := h.lt
  generalize hxv : ((x.1 : Nat) : Int) = xv at *
  generalize hxf : ((x.2 : Nat) : Int) = xf at *
  generalize hyv : ((y.1 : Nat) : Int) = yv at *
  generalize hyf : ((y.2 : Nat) : Int) = yf at *
  have HXC : Hid (spC x = [.int .i64 xv, .int .i64 xf]) := hid (by rw [← hxv, ← hxf]; rfl)
  have HYC : Hid (spC y = [.int .i64 yv, .int .i64 yf]) := hid (by rw [← hyv, ← hyf]; rfl)
  have HN := hid hN
  have hiz : (i : Int) < (n : Int) := by omega
  have hjz : (j : Int) < (n : Int) := by omega
  have HK : Hid (∀ V, Below w.heap.size w V → ((fun V => Below w.heap.size w V ∧ V.cell? ⟨g, i * 2, none⟩ = some (.int .i64 xv) ∧ V.cell? ⟨g, i * 2 + 1, none⟩ = some (.int .i64 xf) ∧ V.cell? ⟨g, j * 2, none⟩ = some (.int .i64 yv) ∧ V.cell? ⟨g, j * 2 + 1, none⟩ = some (.int .i64 yf)) : World → Prop) V) := hid fun V hV => ⟨hV, keepb hV a0, keepb hV a1, keepb hV e0, keepb hV e1⟩
  clear hx hy h hxv hxf hyv hyf hN a0 a1 e0 e1
  go_enter Try.func163, Try.ntmps163
  go_upto_region 0 with fail
  go_cut [6, 7] (fun s6 s7 wx => SwC (.int .i64 xv) (.int .i64 xf) (.int .i64 yv) (.int .i64 yf) w s6 s7 wx)
  case first =>
    refine wp_region_F (S := (fun V => Below w.heap.size w V ∧ V.cell? ⟨g, i * 2, none⟩ = some (.int .i64 xv) ∧ V.cell? ⟨g, i * 2 + 1, none⟩ = some (.int .i64 xf) ∧ V.cell? ⟨g, j * 2, none⟩ = some (.int .i64 yv) ∧ V.cell? ⟨g, j * 2 + 1, none⟩ = some (.int .i64 yf))) [11] (by kernel_rfl) (HK.out _ (bD (Below.refl _ _))) (fun hHeld => ?_)
    refine wpAnyF_pure (i := 0) (v := ?vg1_1_0) rfl (by kernel_rfl) (by kernel_rfl) (by kernel_rfl) (fun _ _ _ h => h) (Or.inl ⟨by rfl, ?hyg1_1_0⟩) ?restg1_1_0
    case hyg1_1_0 => (intro w hSw; clear hSw; go_simp; (all_goals with_reducible rfl))
    try simp only [Act.put, List.setIfInBounds_toArray, List.set_cons_zero, List.set_cons_succ, List.getElem_toArray, List.getElem_cons_succ, List.getElem_cons_zero]
    refine wpAnyF_pure (i := 1) (v := ?vg1_2_1) rfl (by kernel_rfl) (by kernel_rfl) (by kernel_rfl) (fun _ _ _ h => h) (Or.inl ⟨by rfl, ?hyg1_2_1⟩) ?restg1_2_1
    case hyg1_2_1 => (intro w hSw; clear hSw; go_simp; (all_goals with_reducible rfl))
    try simp only [Act.put, List.setIfInBounds_toArray, List.set_cons_zero, List.set_cons_succ, List.getElem_toArray, List.getElem_cons_succ, List.getElem_cons_zero]
    refine wpAnyF_pure (i := 2) (v := ?vg1_3_2) rfl (by kernel_rfl) (by kernel_rfl) (by kernel_rfl) (fun _ _ _ h => h) (Or.inl ⟨by rfl, ?hyg1_3_2⟩) ?restg1_3_2
    case hyg1_3_2 => (intro w hSw; clear hSw; go_simp; (all_goals with_reducible rfl))
    try simp only [Act.put, List.setIfInBounds_toArray, List.set_cons_zero, List.set_cons_succ, List.getElem_toArray, List.getElem_cons_succ, List.getElem_cons_zero]
    refine wpAnyF_pure (i := 4) (v := ?vg1_4_4) rfl (by kernel_rfl) (by kernel_rfl) (by kernel_rfl) (fun _ _ _ h => h) (Or.inl ⟨by rfl, ?hyg1_4_4⟩) ?restg1_4_4
    case hyg1_4_4 => (intro w hSw; clear hSw; go_simp; (all_goals with_reducible rfl))
    try simp only [Act.put, List.setIfInBounds_toArray, List.set_cons_zero, List.set_cons_succ, List.getElem_toArray, List.getElem_cons_succ, List.getElem_cons_zero]
    refine wpAnyF_pure (i := 5) (v := ?vg1_5_5) rfl (by kernel_rfl) (by kernel_rfl) (by kernel_rfl) (fun _ _ _ h => h) (Or.inl ⟨by rfl, ?hyg1_5_5⟩) ?restg1_5_5
    case hyg1_5_5 => (intro w hSw; clear hSw; go_simp; (all_goals with_reducible rfl))
    try simp only [Act.put, List.setIfInBounds_toArray, List.set_cons_zero, List.set_cons_succ, List.getElem_toArray, List.getElem_cons_succ, List.getElem_cons_zero]
    refine wpAnyF_pure (i := 6) (v := ?vg1_6_6) rfl (by kernel_rfl) (by kernel_rfl) (by kernel_rfl) (fun _ _ _ h => h) (Or.inl ⟨by rfl, ?hyg1_6_6⟩) ?restg1_6_6
    case hyg1_6_6 => (intro w hSw; clear hSw; go_simp; (all_goals with_reducible rfl))
    try simp only [Act.put, List.setIfInBounds_toArray, List.set_cons_zero, List.set_cons_succ, List.getElem_toArray, List.getElem_cons_succ, List.getElem_cons_zero]
    refine wpAnyF_take [10, 11] (i := 3) (v := ?vg1_7_3) rfl (by kernel_rfl) (by kernel_rfl) (by kernel_rfl) (by kernel_rfl) (fun _ _ _ h => h) (Or.inl ⟨by rfl, ?hyg1_7_3⟩) (by assumption) ?restg1_7_3
    case hyg1_7_3 => (intro w hSw; (try dsimp only at hSw); go_simp; (all_goals with_reducible rfl))
    try simp only [Act.put, List.setIfInBounds_toArray, List.set_cons_zero, List.set_cons_succ, List.getElem_toArray, List.getElem_cons_succ, List.getElem_cons_zero]
    refine wpAnyF_take [11] (i := 7) (v := ?vg1_8_7) rfl (by kernel_rfl) (by kernel_rfl) (by kernel_rfl) (by kernel_rfl) (fun _ _ _ h => h) (Or.inl ⟨by rfl, ?hyg1_8_7⟩) (by assumption) ?restg1_8_7
    case hyg1_8_7 => (intro w hSw; (try dsimp only at hSw); go_simp; (all_goals with_reducible rfl))
    try simp only [Act.put, List.setIfInBounds_toArray, List.set_cons_zero, List.set_cons_succ, List.getElem_toArray, List.getElem_cons_succ, List.getElem_cons_zero]
    refine wpAnyF_ready (rs := [8, 9]) (by kernel_rfl) (by simp) ?_
    refine AllReadyF.cons rfl (fun K hK => ?_) ?_
    · go_simp
      refine hK.out _ _ (HK.out _ (bA hHeld.1 _)) (fun hHeld => ?_)
      clear hK K
      try simp only [Act.put, List.setIfInBounds_toArray, List.set_cons_zero, List.set_cons_succ, List.getElem_toArray, List.getElem_cons_succ, List.getElem_cons_zero]
      refine wpAnyF_one (i := 9) (by kernel_rfl) rfl (fun K hK => ?_)
      go_simp
      refine hK.out _ _ (HK.out _ (bA hHeld.1 _)) (fun hHeld => ?_)
      clear hK K
      try simp only [Act.put, List.setIfInBounds_toArray, List.set_cons_zero, List.set_cons_succ, List.getElem_toArray, List.getElem_cons_succ, List.getElem_cons_zero]
      refine wpAnyF_one (i := 10) (by kernel_rfl) rfl (fun K hK => ?_)
      go_simp
      refine hK.out _ _ (HK.out _ (bD (bA (bA (Below.refl _ _) _) _))) (fun hHeld => ?_)
      clear hK K
      try simp only [Act.put, List.setIfInBounds_toArray, List.set_cons_zero, List.set_cons_succ, List.getElem_toArray, List.getElem_cons_succ, List.getElem_cons_zero]
      refine wpAnyF_oneD (i := 11) (by kernel_rfl) (by kernel_rfl) rfl (fun K hK => ?_)
      go_simp
      refine hK.out _ _ ?_
      clear hK K
      try simp only [Act.put, List.setIfInBounds_toArray, List.set_cons_zero, List.set_cons_succ, List.getElem_toArray, List.getElem_cons_succ, List.getElem_cons_zero]
      refine wpAnyF_done (by kernel_rfl) ?_ _
      go_wp2_with fail
      go_meet
      refine ⟨_, _, rfl, rfl, by simp, by simp, by go_simp, by go_simp, by go_simp, by go_simp, ?_⟩
      repeat (with_reducible first | refine bD ?_ | refine bA ?_ _)
      exact Below.refl _ _
    refine AllReadyF.cons rfl (fun K hK => ?_) AllReadyF.nil
    go_simp
    refine hK.out _ _ (HK.out _ (bA hHeld.1 _)) (fun hHeld => ?_)
    clear hK K
    try simp only [Act.put, List.setIfInBounds_toArray, List.set_cons_zero, List.set_cons_succ, List.getElem_toArray, List.getElem_cons_succ, List.getElem_cons_zero]
    refine wpAnyF_one (i := 8) (by kernel_rfl) rfl (fun K hK => ?_)
    go_simp
    refine hK.out _ _ (HK.out _ (bA hHeld.1 _)) (fun hHeld => ?_)
    clear hK K
    try simp only [Act.put, List.setIfInBounds_toArray, List.set_cons_zero, List.set_cons_succ, List.getElem_toArray, List.getElem_cons_succ, List.getElem_cons_zero]
    refine wpAnyF_one (i := 10) (by kernel_rfl) rfl (fun K hK => ?_)
    go_simp
    refine hK.out _ _ (HK.out _ (bD (bA (bA (Below.refl _ _) _) _))) (fun hHeld => ?_)
    clear hK K
    try simp only [Act.put, List.setIfInBounds_toArray, List.set_cons_zero, List.set_cons_succ, List.getElem_toArray, List.getElem_cons_succ, List.getElem_cons_zero]
    refine wpAnyF_oneD (i := 11) (by kernel_rfl) (by kernel_rfl) rfl (fun K hK => ?_)
    go_simp
    refine hK.out _ _ ?_
    clear hK K
    try simp only [Act.put, List.setIfInBounds_toArray, List.set_cons_zero, List.set_cons_succ, List.getElem_toArray, List.getElem_cons_succ, List.getElem_cons_zero]
    refine wpAnyF_done (by kernel_rfl) ?_ _
    go_wp2_with fail
    go_meet
    refine ⟨_, _, rfl, rfl, by simp, by simp, by go_simp, by go_simp, by go_simp, by go_simp, ?_⟩
    repeat (with_reducible first | refine bD ?_ | refine bA ?_ _)
    exact Below.refl _ _

  case rest =>
    obtain ⟨p, q, rfl, rfl, hpz, hqz, p0, p1, q0, q1, bX⟩ := hcut
    have HX2 := hid (HH.out.below bX)
    obtain ⟨g', hg', hgB, hgs2, _, hgf, hput⟩ := heap_put (cells := spC) (sz := 2) (fun _ => rfl) HX2.out.row HX.out y (fun p hp => (by cases hp)) (by decide)
    injection hg' with hg'
    injection hg' with hg'
    subst hg'
    have f0 := hgf (i * 2)
    have f1 := hgf (i * 2 + 1)
    obtain ⟨g', hg', _, _, z0, z1, _⟩ := HX2.out.at_ HX.out
    injection hg' with hg'
    injection hg' with hg'
    subst hg'
    have hpg : p ≠ g := by omega
    have hqg : q ≠ g := by omega
    have HP1 := hid hput
    rw [HYC.out] at HP1
    clear hgf hput
    go_upto_region 1 with fail
    go_cut [16] (fun _ wx => SpX w L g c (H.set i y) p (.int .i64 xv) (.int .i64 xf) wx)
    case first =>
      have HG1 := hid (grown_far (g := g) bX (i * 2) (i * 2 + 1) (.int .i64 yv) (.int .i64 yf))
      have HE2 := hid (cell_far (v := .int .i64 yf) (o := i * 2 + 1) (cell_far (v := .int .i64 yv) (o := i * 2) p0 hpg) hpg)
      have HE3 := hid (cell_far (v := .int .i64 yf) (o := i * 2 + 1) (cell_far (v := .int .i64 yv) (o := i * 2) p1 hpg) hpg)
      clear p0 p1
      go_wp2_with fail
      go_meet
      exact ⟨HP1.out.sameHeap rfl, HE2.out, HE3.out, ⟨HG1.out.os, HG1.out.tape, HG1.out.output, HG1.out.size, HG1.out.block⟩⟩
    case rest =>
      obtain ⟨hrow, d0, d1, hgr⟩ := hcut
      obtain ⟨z, hz⟩ : ∃ z, (H.set i y)[j]? = some z := ⟨_, List.getElem?_eq_getElem (by rw [List.length_set, HN.out]; exact hj)⟩
      obtain ⟨g', hg', hgB3, hgs3, hgc3, hgf3, hput2⟩ := heap_put (cells := spC) (sz := 2) (fun _ => rfl) hrow hz x (fun p hp => (by cases hp)) (by decide)
      injection hg' with hg'
      injection hg' with hg'
      subst hg'
      have z0 : wc.cell? ⟨g, j * 2, none⟩ = some (.int .i64 (z.1 : Nat)) := hgc3 0 _ rfl
      have z1 : wc.cell? ⟨g, j * 2 + 1, none⟩ = some (.int .i64 (z.2 : Nat)) := hgc3 1 _ rfl
      have f2 := hgf3 (j * 2)
      have f3 := hgf3 (j * 2 + 1)
      rw [← HSW.out, HXC.out] at hput2
      have HP := hid hput2
      have HGR := hid hgr
      have HSL : Hid ((swapL H i j).length = n) := hid (by rw [swapL_len, HN.out])
      clear hgc3 hgf3 hput2 hrow hgr hz
      go_wp2_with fail
      go_end0
      have hg2 := HGR.out.trans (grown_far (g := g) (Below.refl wc.heap.size wc) (j * 2) (j * 2 + 1) (.int .i64 xv) (.int .i64 xf))
      have hg3 := hfl_of_grown (G := G) hg2 hG.1 (Nat.le_trans HH.out.le (Nat.le_of_lt hGs))
      have hGg : (some g : Option Nat) ≠ some G := fun e => by injection e with e; exact hG.2 e
      refine ⟨rfl, ⟨HH.out.le, fun y hy => HH.out.off y (by unfold spBlk at *; rw [HSL.out] at hy; rw [HN.out]; exact hy), ?_, ?_, HP.out.sameHeap rfl⟩, ⟨hg3.1.os, hg3.1.tape, hg3.1.output, hg3.1.size, hg3.1.block⟩, hg3.2⟩
      · rw [HSL.out, ← HN.out]; exact (World.cell?_of_block (w := w) (hg2.block G hGs (fun e => hGg e.symm))).trans HH.out.all
      · exact (World.frozen?_of_block (w := w) (hg2.block G hGs (fun e => hGg e.symm))).trans HH.out.fz
theorem el_sp : ElemTy Try.prog 73 71 2 16 := elemTy (z := .agg #[.int .i64 0, .int .i64 0]) Try.underlying73 (by decide) (by decide) (by kernel_rfl) rfl
theorem one_sp (k : Sp) : ∀ u ∈ spC k, u.oneCell' = true := by
  intro u hu; simp [spC] at hu; rcases hu with rfl | rfl <;> rfl
theorem asSp (v : Value) (w : World) : (Instr.typeAssert (.iface 71 v) 20 71 false).run Try.prog w = .ok v w := by kernel_rfl
set_option maxRecDepth 100000 in
set_option maxHeartbeats 1000000 in
theorem spPush_walk {w : World} {L G : Nat} {A : Option Addr} {c : Nat} {H : List Sp} (h : SO w L G A c H) (k : Sp) (hn : H.length ≤ 1000000) :
    Calls Try.prog 165 #[.pointer (some ⟨G, 0, none⟩), .iface 71 (.agg #[.int .i64 (k.1 : Nat), .int .i64 (k.2 : Nat)])] w fun e w' => e = .returned (.tuple #[]) ∧ ∃ A' c', SO w' L G A' c' (H ++ [k]) ∧ HFL w w' L G (spBlk A c H) (spBlk A' c' (H ++ [k])) := by
  have hta := asSp
  have h0 := h.all
  have hf := h.fz
  have hGs := h.lt
  have HROW := hid h.row
  have HH := hid h
  have hSZ : (H.length + 1) * 16 ≤ 140737488355328 := by omega
  have hoG : (Value.slice A H.length c).ownBlock ≠ some G := fun e => h.off G e rfl
  have hle := h.le
  clear h
  go_enter Try.func165, Try.ntmps165
  go_wp2_with fail
  refine wp_region_F (S := (fun V => Below w.heap.size w V ∧ V.cell? ⟨G, 0, none⟩ = some (.slice A H.length c))) [7, 9] (by kernel_rfl) ⟨bD (Below.refl _ _), keepb (bD (Below.refl _ _)) h0⟩ (fun hHeld => ?_)
  refine wpAnyF_pure (i := 0) (v := ?vg2_1_0) rfl (by kernel_rfl) (by kernel_rfl) (by kernel_rfl) (fun _ _ _ h => h) (Or.inl ⟨by rfl, ?hyg2_1_0⟩) ?restg2_1_0
  case hyg2_1_0 => (intro w hSw; clear hSw; go_simp; (all_goals with_reducible rfl))
  try simp only [Act.put, List.setIfInBounds_toArray, List.set_cons_zero, List.set_cons_succ, List.getElem_toArray, List.getElem_cons_succ, List.getElem_cons_zero]
  refine wpAnyF_pure (i := 1) (v := ?vg2_2_1) rfl (by kernel_rfl) (by kernel_rfl) (by kernel_rfl) (fun _ _ _ h => h) (Or.inl ⟨by rfl, ?hyg2_2_1⟩) ?restg2_2_1
  case hyg2_2_1 => (intro w hSw; clear hSw; go_simp; (all_goals with_reducible rfl))
  try simp only [Act.put, List.setIfInBounds_toArray, List.set_cons_zero, List.set_cons_succ, List.getElem_toArray, List.getElem_cons_succ, List.getElem_cons_zero]
  refine wpAnyF_pure (i := 2) (v := ?vg2_3_2) rfl (by kernel_rfl) (by kernel_rfl) (by kernel_rfl) (fun _ _ _ h => h) (Or.inl ⟨by rfl, ?hyg2_3_2⟩) ?restg2_3_2
  case hyg2_3_2 => (intro w hSw; clear hSw; go_simp; (all_goals with_reducible rfl))
  try simp only [Act.put, List.setIfInBounds_toArray, List.set_cons_zero, List.set_cons_succ, List.getElem_toArray, List.getElem_cons_succ, List.getElem_cons_zero]
  refine wpAnyF_pure (i := 4) (v := ?vg2_4_4) rfl (by kernel_rfl) (by kernel_rfl) (by kernel_rfl) (fun _ _ _ h => h) (Or.inl ⟨by rfl, ?hyg2_4_4⟩) ?restg2_4_4
  case hyg2_4_4 => (intro w hSw; clear hSw; go_simp; (all_goals with_reducible rfl))
  try simp only [Act.put, List.setIfInBounds_toArray, List.set_cons_zero, List.set_cons_succ, List.getElem_toArray, List.getElem_cons_succ, List.getElem_cons_zero]
  refine wpAnyF_pure (i := 5) (v := ?vg2_5_5) rfl (by kernel_rfl) (by kernel_rfl) (by kernel_rfl) (fun _ _ _ h => h) (Or.inl ⟨by rfl, ?hyg2_5_5⟩) ?restg2_5_5
  case hyg2_5_5 => (intro w hSw; clear hSw; go_simp; (all_goals with_reducible rfl))
  try simp only [Act.put, List.setIfInBounds_toArray, List.set_cons_zero, List.set_cons_succ, List.getElem_toArray, List.getElem_cons_succ, List.getElem_cons_zero]
  refine wpAnyF_take [7, 8, 9] (i := 3) (v := ?vg2_6_3) rfl (by kernel_rfl) (by kernel_rfl) (by kernel_rfl) (by kernel_rfl) (fun _ _ _ h => h) (Or.inl ⟨by rfl, ?hyg2_6_3⟩) (by assumption) ?restg2_6_3
  case hyg2_6_3 => (intro w hSw; (try dsimp only at hSw); go_simp; (all_goals with_reducible rfl))
  try simp only [Act.put, List.setIfInBounds_toArray, List.set_cons_zero, List.set_cons_succ, List.getElem_toArray, List.getElem_cons_succ, List.getElem_cons_zero]
  refine wpAnyF_one (i := 6) (by kernel_rfl) rfl (fun K hK => ?_)
  go_simp
  refine hK.out _ _ ⟨bA hHeld.1 _, keepb (bA (Below.refl _ _) _) hHeld.2⟩ (fun hHeld => ?_)
  clear hK K
  try simp only [Act.put, List.setIfInBounds_toArray, List.set_cons_zero, List.set_cons_succ, List.getElem_toArray, List.getElem_cons_succ, List.getElem_cons_zero]
  refine wpAnyF_oneD (i := 7) (by kernel_rfl) (by kernel_rfl) rfl (fun K hK => ?_)
  refine step_app3 rfl rfl el_sp rfl (HROW.out.below hHeld.1 (Nat.le_refl _)).1 rfl (rd_newAt _ _ _ 2 1 _ (by simp) rfl) (one_sp k) hSZ (by have := hHeld.1.size; omega) ?_
  intro A3 c3 w3 o3 b3 g3 h3
  have HO3 := hid o3
  have HB3 := hid b3
  have HG3 := hid g3
  have H3 := hid h3
  have HB2 := hid hHeld.1
  have hGV := Nat.lt_of_lt_of_le hGs hHeld.1.size
  have c3x : ∃ u, w3.cell? ⟨G, 0, none⟩ = some u := ⟨_, (sp_cell g3 hGV hoG).trans hHeld.2⟩
  obtain ⟨u3, c3x⟩ := c3x
  have f3x : w3.frozen? ⟨G, 0, none⟩ = false := (sp_frozen g3 hGV hoG).trans (keepf hHeld.1 hf hGs)
  clear o3 b3 g3 h3
  refine hK.out _ _ ?_
  clear hK K
  try simp only [Act.put, List.setIfInBounds_toArray, List.set_cons_zero, List.set_cons_succ, List.getElem_toArray, List.getElem_cons_succ, List.getElem_cons_zero]
  refine wpAnyF_pure (i := 8) (v := ?vg2_9_8) rfl (by kernel_rfl) (by kernel_rfl) (by kernel_rfl) (fun _ _ _ h => h) (Or.inl ⟨by rfl, ?hyg2_9_8⟩) ?restg2_9_8
  case hyg2_9_8 => (intro w hSw; clear hSw; go_simp; (all_goals with_reducible rfl))
  try simp only [Act.put, List.setIfInBounds_toArray, List.set_cons_zero, List.set_cons_succ, List.getElem_toArray, List.getElem_cons_succ, List.getElem_cons_zero]
  refine wpAnyF_oneD (i := 9) (by kernel_rfl) (by kernel_rfl) rfl (fun K hK => ?_)
  go_simp
  refine hK.out _ _ ?_
  clear hK K
  try simp only [Act.put, List.setIfInBounds_toArray, List.set_cons_zero, List.set_cons_succ, List.getElem_toArray, List.getElem_cons_succ, List.getElem_cons_zero]
  refine wpAnyF_done (by kernel_rfl) ?_ _
  go_wp2_with fail
  go_end0
  have HB23 := hid (HB2.out.mono (show L ≤ w.heap.size by omega) |>.trans HB3.out)
  have HP := heap_push (HROW.out.below HB2.out (Nat.le_refl _)) k (fun p hp => (by cases hp)) HO3.out HG3.out H3.out
  have hl : (H ++ [k]).length = H.length + 1 := by simp
  have hblk : spBlk A3 c3 (H ++ [k]) = (Value.slice A3 (H.length + 1) c3).ownBlock := by unfold spBlk; rw [hl]
  have hoff : ∀ y, spBlk A3 c3 (H ++ [k]) = some y → y ≠ G := fun y hy e => by
    subst e
    rw [hblk] at hy
    rcases H3.out with h4 | h4
    · rw [h4] at hy; exact hoG hy
    · rw [h4] at hy; injection hy with hy; have := HB2.out.size; simp at hy this; omega
  have hBf : Below L w (w3.setCell ⟨G, 0, none⟩ (.slice A3 (H.length + 1) c3)) := HB23.out.setCell (by exact hle) _
  have hrow : Heaped spC (fun _ => []) (w3.setCell ⟨G, 0, none⟩ (.slice A3 (H.length + 1) c3)) L 71 2 A3 c3 (H ++ [k]) := ⟨own_grown HP.1 (grown_setCells G [.slice A3 (H.length + 1) c3] 0 w3) (fun y hy e => by injection e with e; exact hoff y hy e.symm), fun _ _ _ hp => by cases hp⟩
  refine ⟨rfl, A3, c3, ⟨hle, hoff, ?_, ?_, hrow⟩, hBf, fun i hi hG ha => ?_, fun i hi => ?_⟩
  · rw [hl]; exact World.cell?_setCell_same _ _ _ c3x
  · simpa using f3x
  · rw [heap_setCell_other w3 ⟨G, 0, none⟩ i _ (by simpa using hG)]
    refine (HG3.out.block i (Nat.lt_of_lt_of_le hi HB2.out.size) (fun e => ha e.symm)).trans (HB2.out.block i hi)
  · rw [hblk] at hi
    rcases H3.out with h4 | h4
    · rw [h4] at hi; exact .inl hi
    · rw [h4] at hi; injection hi with hi
      exact .inr (by rw [← hi]; exact HB2.out.size)
set_option maxRecDepth 100000 in
set_option maxHeartbeats 1000000 in
theorem spPop_walk {w : World} {L G : Nat} {A : Option Addr} {c : Nat} {H : List Sp} {k : Sp} (h : SO w L G A c (H ++ [k])) (hn : H.length ≤ 1000000) :
    Calls Try.prog 164 #[.pointer (some ⟨G, 0, none⟩)] w fun e w' => e = .returned (.iface 71 (.agg #[.int .i64 (k.1 : Nat), .int .i64 (k.2 : Nat)])) ∧ SO w' L G A c H ∧ HFL w w' L G (spBlk A c (H ++ [k])) (spBlk A c H) := by
  obtain ⟨g, hA, hG, hgs, a0, a1, hlc⟩ := h.at_ (k := H.length) (x := k) (by simp)
  subst hA
  have hl : (H ++ [k]).length = H.length + 1 := by simp
  have h0 := h.all
  have hf := h.fz
  have hGs := h.lt
  have HH := hid h
  have HL := hid hl
  rw [hl] at h0 hlc
  have hGw : G ≠ w.heap.size := by omega
  have hgw : g ≠ w.heap.size := by omega
  clear h hl
  generalize hm : H.length = m at *
  have HM := hid hm
  clear hm
  have hwn2 : IntKind.i64.wrap (((m + 1 : Nat) : Int) - 1) = (m : Int) := by rw [IntWalk.i64_in _ (by omega)]; omega
  have hwn : IntKind.i64.wrap ((m : Int) + 1 - 1) = (m : Int) := by rw [IntWalk.i64_in _ (by omega)]; omega
  have hz1 : (m : Int) < ((m + 1 : Nat) : Int) := by omega
  have hz2 : (m : Int) ≤ (c : Int) := by omega
  have hz3 : ((m + 1 : Nat) : Int) = (m : Int) + 1 := by omega
  go_enter Try.func164, Try.ntmps164
  go_wp2_with fail
  go_ret
  have hrow := HH.out.row.shrink (fun _ => rfl) m (by rw [HL.out]; omega)
  rw [show (H ++ [k]).take m = H by rw [← HM.out, List.take_left']; rfl] at hrow
  have hrs : Heaped spC (fun _ => []) (w.setCell ⟨G, 0, none⟩ (.slice (some ⟨g, 0, none⟩) m c)) L 71 2 (some ⟨g, 0, none⟩) c H := ⟨own_grown hrow.1 (grown_setCells G [.slice (some ⟨g, 0, none⟩) m c] 0 w) (fun y hy e => by injection e with e; injection hy with hy; exact hG.2 (hy.trans e.symm)), fun _ _ _ hp => by cases hp⟩
  have hr2 := hrs.alloc (.cells #[.int .i64 (k.1 : Nat), .int .i64 (k.2 : Nat)] 71)
  have hsz : L ≤ (w.setCell ⟨G, 0, none⟩ (.slice (some ⟨g, 0, none⟩) m c)).heap.size := by have := HH.out.le; simp; omega
  have hBf : Below L w ((w.setCell ⟨G, 0, none⟩ (.slice (some ⟨g, 0, none⟩) m c)).alloc (.cells #[.int .i64 (k.1 : Nat), .int .i64 (k.2 : Nat)] 71)) := ((Below.refl L w).setCell (by exact HH.out.le) _).alloc hsz _
  have hBa := bA (Below.refl (w.setCell ⟨G, 0, none⟩ (.slice (some ⟨g, 0, none⟩) m c)).heap.size (w.setCell ⟨G, 0, none⟩ (.slice (some ⟨g, 0, none⟩) m c))) (.cells #[.int .i64 (k.1 : Nat), .int .i64 (k.2 : Nat)] 71)
  refine ⟨rfl, ⟨HH.out.le, fun y hy => by injection hy with hy; rw [← hy]; exact hG.2, ?_, ?_, hr2⟩, hBf, fun i hi hG ha => ?_, fun i hi => .inl hi⟩
  · rw [HM.out]; exact keepb hBa (World.cell?_setCell_same _ _ _ h0)
  · exact keepf hBa (by simpa using hf) (by simpa using hGs)
  · exact (hBa.block i (by simpa using hi)).trans (heap_setCell_other w ⟨G, 0, none⟩ i _ (by simpa using hG))
end Go.Proofs.Ytifpngjipkmdcaa
