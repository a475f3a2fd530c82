/- frame.table, frame.Sum; the document's Summed. -/
import Derived.Test.YtifpngjipkmdcaaFrameBits
import Derived.Deep.MidRow
namespace Go.Proofs.Ytifpngjipkmdcaa
open Go.ChangeShapes Go.WideShapes Go.ChangeAt Go.RowKit
set_option linter.unusedVariables false
set_option linter.unusedSimpArgs false
def natsOf (l : List Int) : List Nat := l.map Int.toNat
def sumV (l : List Int) : Int := (crc (natsOf l) : Int)
def tabC (k : Nat) : List Value := (List.range 256).map fun i => .int .u32 (if i < k then (ctab i : Int) else 0)
def SumRel (l : List Int) (s i : Value) : Prop := ∃ k : Nat, k ≤ l.length ∧ i = .int .i64 k ∧ s = .int .u32 (crcGo 4294967295 (natsOf (l.take k)) : Int)
def PairRel (s0 c0 : Nat) (s c i : Value) : Prop := ∃ k : Nat, k ≤ 8 ∧ i = .int .i64 k ∧ s = .int .u32 ((cpair k s0 c0).1 : Int) ∧ c = .int .u32 ((cpair k s0 c0).2 : Int)
theorem natsOf_lt {l : List Int} (h : ∀ x ∈ l, 0 ≤ x ∧ x ≤ 255) : ∀ c ∈ natsOf l, c < 256 := by
  intro c hc
  obtain ⟨x, hx, rfl⟩ := List.mem_map.1 hc
  have := h x hx
  omega
theorem byte_cell {w : World} {B n k : Nat} {A : Option Addr} {l : List Int} {x : Int} (h : Rd w B A 1 n (l.flatMap u8c)) (hl : l.length = n) (hk : l[k]? = some x) :
    ∃ b off, A = some ⟨b, off, none⟩ ∧ b < B ∧ w.cell? ⟨b, off + k, none⟩ = some (.int .u8 x) := by
  have hkl := (List.getElem?_eq_some_iff.1 hk).1
  obtain ⟨b, off, rfl, hb, hc⟩ := h.at_ (show k < n by omega)
  have c0 := hc _ _ ((flatMap_get (l := l) (cells := u8c) (sz := 1) (fun _ _ => rfl)).2 k x 0 _ hk rfl)
  simp only [Nat.mul_one, Nat.add_zero] at c0
  exact ⟨b, off, rfl, hb, c0⟩
set_option maxHeartbeats 2000000 in
theorem summed_walk (l : List Int) (w : World) (A : Option Addr) (n c : Nat) (hr : Rd w w.heap.size A 1 n (l.flatMap u8c)) (hL : l.length = n) (hb : ∀ x ∈ l, 0 ≤ x ∧ x ≤ 255) (hn : n ≤ 9223372036854775807) :
    Calls Try.prog 102 #[.slice A n c] w fun e w' => e = .returned (.int .u32 (sumV l)) ∧ w = w' := by
  have HL := hid hL
  clear hL
  go_enter Try.func102, Try.ntmps102
  go_wp2
  go_loop [3, 4] (SumRel l) (fun _ i => n - (intOf i).toNat)
  case atStart => exact ⟨0, by omega, rfl, rfl⟩
  case round =>
    obtain ⟨k, hk, rfl, rfl⟩ := hrel
    have hs0 := crcGo_lt (natsOf (l.take k)) 4294967295 (by omega) (natsOf_lt (fun x hx => hb x (List.mem_of_mem_take hx)))
    by_cases hlt : k < n
    · obtain ⟨x, hx⟩ : ∃ x, l[k]? = some x := ⟨_, List.getElem?_eq_getElem (by rw [HL.out]; exact hlt)⟩
      obtain ⟨hx0, hx1⟩ := hb x (List.mem_of_getElem? hx)
      obtain ⟨x, rfl⟩ := Int.eq_ofNat_of_zero_le hx0
      obtain ⟨b, off, rfl, hbb, c0⟩ := byte_cell hr HL.out hx
      have HT : Hid (crcGo 4294967295 (natsOf (l.take (k + 1))) = (cpair 8 (crcGo 4294967295 (natsOf (l.take k))) x).1) := hid (by
        rw [List.take_add_one, hx, cpair_8 _ _ (by omega), ← crcGo_snoc]
        simp [natsOf])
      clear hx
      generalize crcGo 4294967295 (natsOf (l.take k)) = s at *
      go_wp2
      go_loop [3, 5, 6] (PairRel s x) (fun _ _ i => 8 - (intOf i).toNat)
      case atStart => exact ⟨0, by omega, rfl, rfl, rfl⟩
      case round =>
        obtain ⟨j, hj, rfl, rfl, rfl⟩ := hrel
        obtain ⟨hp1, hp2⟩ := cpair_lt j hs0 (show x < 256 by omega)
        have HS := hid (cpair_succ' j s x)
        by_cases hj8 : j < 8
        · generalize (cpair j s x).1 = a at *
          generalize (cpair j s x).2 = d at *
          have hx := xor32 (a / 2) 3988292384 (by omega) (by omega)
          by_cases hodd : (a + d) % 2 = 1
          · have hb1 : (((a : Int) + (d : Int)) % 2 == 1) = true := by simp; omega
            have hb2 : (IntKind.u32.wrap ((a : Int) + (d : Int)) % 2 == 1) = true := by rw [IntKind.wrap_u32]; simp; omega
            have HO := hid hodd
            clear hodd
            go_wp2
            go_round
            case rel => exact ⟨j + 1, by omega, by go_num, by rw [HS.out, if_pos HO.out]; exact congrArg _ hx, by rw [HS.out]; rfl⟩
            case measure => simp [intOf]; omega
          · have hb1 : (((a : Int) + (d : Int)) % 2 == 1) = false := by rw [beq_eq_false_iff_ne]; omega
            have hb2 : (IntKind.u32.wrap ((a : Int) + (d : Int)) % 2 == 1) = false := by rw [IntKind.wrap_u32, beq_eq_false_iff_ne]; omega
            have HO := hid hodd
            clear hodd
            go_wp2
            go_round
            case rel => exact ⟨j + 1, by omega, by go_num, by rw [HS.out, if_neg HO.out]; rfl, by rw [HS.out]; rfl⟩
            case measure => simp [intOf]; omega
        · obtain rfl : j = 8 := by omega
          go_wp2
          go_round
          case rel => exact ⟨k + 1, by rw [HL.out]; omega, by go_num, by rw [HT.out]⟩
          case measure => simp [intOf]; omega
    · obtain rfl : k = n := by have := HL.out; omega
      have HT := hid (List.take_of_length_le (l := l) (i := k) (by rw [HL.out]; exact Nat.le_refl _))
      rw [HT.out] at hs0 ⊢
      have HV : Hid (sumV l = ((4294967295 - crcGo 4294967295 (natsOf l) : Nat) : Int)) := hid rfl
      generalize crcGo 4294967295 (natsOf l) = s at *
      go_wp2
      go_ret
      exact ⟨ret1 (by rw [HV.out]; omega), rfl⟩
theorem below_setCells {B : Nat} {a : World} (b : Nat) (hb : B ≤ b) : ∀ (vs : List Value) (o : Nat) {w : World}, Below B a w → Below B a (w.setCells b o vs)
  | [], _, _, h => h
  | v :: vs, o, w, h => below_setCells b hb vs (o + 1) (h.setCell (p := ⟨b, o, none⟩) hb v)
theorem tabC_len (k : Nat) : (tabC k).length = 256 := by simp [tabC]
theorem tabC_get {k i : Nat} (h : i < 256) : (tabC k)[i]? = some (.int .u32 (if i < k then (ctab i : Int) else 0)) := by simp [tabC, h]
theorem tabC_set {k : Nat} (h : k < 256) : (tabC k).set k (.int .u32 (ctab k : Int)) = tabC (k + 1) := by
  apply List.ext_getElem?
  intro j
  rw [List.getElem?_set, tabC_len]
  by_cases hj : j < 256
  · rw [tabC_get hj, tabC_get hj]
    by_cases e : k = j
    · subst e; simp [h]
    · rw [if_neg e]
      by_cases h2 : j < k
      · rw [if_pos h2, if_pos (by omega)]
      · rw [if_neg h2, if_neg (by omega)]
  · rw [List.getElem?_eq_none (by rw [tabC_len]; omega), List.getElem?_eq_none (by rw [tabC_len]; omega)]
    rw [if_neg (by omega)]
theorem tabC_zero : (tabC 0).toArray = Try.zeroCells158 := by kernel_rfl
theorem tabC_one (k : Nat) : ∀ v ∈ tabC k, v.oneCell' = true := by
  intro v hv
  obtain ⟨i, _, rfl⟩ := List.mem_map.1 hv
  rfl
def Blk (w : World) (b : Nat) (cs : List Value) (t : TypeId) : Prop := w.heap[b]? = some (.cells cs.toArray t (0, 0))
theorem Blk.cell {w : World} {b : Nat} {cs : List Value} {t : TypeId} (h : Blk w b cs t) {j : Nat} {v : Value} (hj : cs[j]? = some v) : w.cell? ⟨b, j, none⟩ = some v := by
  rw [cell_of_row w b j _ t (0, 0) h]; simpa using hj
theorem Blk.free {w : World} {b : Nat} {cs : List Value} {t : TypeId} (h : Blk w b cs t) (j : Nat) : w.frozen? ⟨b, j, none⟩ = false := by
  have h' := h
  unfold Blk at h'
  simp [World.frozen?, h']
theorem Blk.range {w : World} {b : Nat} {cs : List Value} {t : TypeId} (h : Blk w b cs t) : w.rangeAt b 0 cs := fun j v hv => by
  rw [Nat.zero_add]; exact h.cell hv
theorem Blk.there {w : World} {b : Nat} {cs : List Value} {t : TypeId} (h : Blk w b cs t) {n : Nat} (hn : cs.length = n) : w.there b 0 n := fun j hj => by
  rw [Nat.zero_add]
  obtain ⟨v, hv⟩ : ∃ v, cs[j]? = some v := ⟨_, List.getElem?_eq_getElem (by omega)⟩
  rw [h.cell hv]
  exact ⟨rfl, h.free j⟩
theorem Blk.set {w : World} {b : Nat} {cs : List Value} {t : TypeId} (h : Blk w b cs t) (j : Nat) (u : Value) : Blk (w.setCell ⟨b, j, none⟩ u) b (cs.set j u) t := by
  unfold Blk
  rw [heap_setCell_same w b j cs.toArray t u h]
  simp
theorem Blk.other {w : World} {b : Nat} {cs : List Value} {t : TypeId} (h : Blk w b cs t) {a : Addr} (ha : b ≠ a.block) (u : Value) : Blk (w.setCell a u) b cs t := by
  unfold Blk
  rw [heap_setCell_other w a b u ha]; exact h
def TabRel (w : World) (i : Value) (wr : World) : Prop :=
  ∃ k : Nat, k ≤ 256 ∧ i = .int .i64 k ∧ Below w.heap.size w wr ∧ Blk wr w.heap.size (tabC 0) 158 ∧ Blk wr (w.heap.size + 1) (tabC k) 158
def StepRel (x : Nat) (c i : Value) : Prop := ∃ j : Nat, j ≤ 8 ∧ i = .int .i64 j ∧ c = .int .u32 (csteps j x : Int)
theorem results_cell1 {P : Program} {fn : Func} {p : Tmp} {ty : TypeId} (h : fn.results = #[.cell p ty]) (tmps : Array Value) (w : World) (b o : Nat) (hp : tmps.getD p undef = .pointer (some ⟨b, o, none⟩)) {v : Value} (hl : (loadVar ty ⟨b, o, none⟩).run P w = .ok v w) : (results fn tmps).run P w = .ok v w := by
  have hp' : tmps[p]?.getD undef = .pointer (some ⟨b, o, none⟩) := by simpa using hp
  simp only [results, h]
  simp [hp', asAddr, hl]
theorem u_tab : ∃ n e, Try.prog.underlying 158 = some (.array n e) := ⟨_, _, Try.underlying158⟩
theorem i_tab (k : Nat) : (Try.prog.info? 158).map (·.size) = some (tabC k).length := by rw [tabC_len]; kernel_rfl
set_option maxRecDepth 100000 in
set_option maxHeartbeats 2000000 in
theorem table_walk (w : World) :
    Calls Try.prog 105 #[] w fun e w' => e = .returned (.agg (tabC 256).toArray) ∧ Below w.heap.size w w' := by
  go_enter Try.func105, Try.ntmps105
  go_wp2_with fail
  go_loopw [4] (TabRel w) (fun i _ => 256 - (intOf i).toNat)
  case atStart =>
    rw [← tabC_zero]
    exact ⟨0, by omega, rfl, bA (bA (Below.refl _ _) _) _, by unfold Blk; rw [Below.heap_alloc _ _ _ (by simp)]; exact heap_alloc_new w _, by unfold Blk; have := heap_alloc_new (w.alloc (.cells (tabC 0).toArray 158)) (.cells (tabC 0).toArray 158); simpa using this⟩
  case round =>
    obtain ⟨k, hk, rfl, hbel, hB0, hB1⟩ := hrel
    by_cases hlt : k < 256
    · have c1 := hB1.cell (tabC_get (k := k) hlt)
      rw [if_neg (by omega)] at c1
      have f1 := hB1.free k
      go_wp2
      go_loop [3, 9] (StepRel k) (fun _ i => 8 - (intOf i).toNat)
      case atStart => exact ⟨0, by omega, rfl, rfl⟩
      case round =>
        obtain ⟨j, hj, rfl, rfl⟩ := hrel
        have hp := csteps_lt j (x := k) (by omega)
        have HS := hid (csteps_succ' j k)
        by_cases hj8 : j < 8
        · generalize csteps j k = a at *
          have hx := hid (xor32 (a / 2) 3988292384 (by omega) (by omega))
          have ha := and1 a hp
          by_cases hodd : a % 2 = 1
          · have hb1 : (bits BinOp.and IntKind.u32 (a : Int) 1 == 1) = true := by rw [ha]; simp; omega
            have HO := hid hodd
            clear hodd ha
            go_wp2
            go_round
            case rel => exact ⟨j + 1, by omega, by go_num, by rw [HS.out]; unfold cstep; rw [if_pos HO.out]; exact congrArg _ hx.out⟩
            case measure => simp [intOf]; omega
          · have hb1 : (bits BinOp.and IntKind.u32 (a : Int) 1 == 1) = false := by rw [ha, beq_eq_false_iff_ne]; omega
            have HO := hid hodd
            clear hodd ha
            go_wp2
            go_round
            case rel => exact ⟨j + 1, by omega, by go_num, by rw [HS.out]; unfold cstep; rw [if_neg HO.out]; rfl⟩
            case measure => simp [intOf]; omega
        · obtain rfl : j = 8 := by omega
          have HB := hid (hB1.set k (.int .u32 (ctab k : Int)))
          have HS2 := hid (tabC_set hlt)
          have hE : csteps 8 k = ctab k := rfl
          rw [hE]
          clear hE
          go_wp2
          go_roundw
          case rel => exact ⟨k + 1, by omega, by go_num, hbel.setCell (by simp) _, hB0.other (by simp) _, by rw [← HS2.out]; exact HB.out⟩
          case measure => simp [intOf]; omega
    · obtain rfl : k = 256 := by omega
      go_wp2_with (first | (refine wpList_load_mid rfl 158 (.tmp 1) rfl (w.heap.size + 1) 0 rfl (tabC 256) _ hB1.range Try.underlying158 rfl (i_tab 256) ?_) | (refine wpList_store_mid rfl 158 (.tmp 0) (.tmp 24) rfl w.heap.size 0 (tabC 256).toArray rfl rfl (hB0.there (by simp [tabC_len])) (by simpa using i_tab 256) (all_oneCell_toArray (tabC_one 256)) ?_))
      have hl := run_loadVar_mid (P := Try.prog) (wr.setCells w.heap.size 0 (tabC 256)) w.heap.size 0 158 (tabC 256) _ (World.rangeAt_setCells_same _ _ _ _ (hB0.there (by simp [tabC_len]))) Try.underlying158 rfl (i_tab 256)
      exact bodyPost_ret (v := .agg (tabC 256).toArray) (results_cell1 rfl _ _ w.heap.size 0 rfl hl) rfl ⟨rfl, below_setCells _ (Nat.le_refl _) _ 0 hbel⟩
end Go.Proofs.Ytifpngjipkmdcaa
