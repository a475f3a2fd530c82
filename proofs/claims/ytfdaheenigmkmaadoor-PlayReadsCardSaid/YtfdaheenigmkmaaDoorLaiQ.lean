/- What the tied card lays: the table of powers, the forms of moves, the two errors. -/
import Derived.Test.YtfdaheenigmkmaaDoorLPlR
import Derived.Stop.LaidErr
import Derived.LaidLaws
import Derived.Test.YtfdaheenigmkmaaDoorRows
import Derived.LaidMore
import Derived.LaidSub
import Derived.OpenShut
import Derived.Deep.Strs
import Derived.Lib.LaidTab
import Derived.SevenTiedAt
namespace Go.Proofs.YtfdaheenigmkmaaDoor
open Go.RowKit Go.ChangeShapes Go.WideShapes Go.ChangeAt
set_option linter.unusedVariables false
set_option linter.unusedSimpArgs false
def formD (s : List UInt8) (a b : Bool) : DataW Unit := .agg [.lit (.string s), .lit (.bool a), .lit (.bool b)]
theorem form_cells {w : World} {sp : Nat → Bool} {held : Bool} {fuel : Nat} {cs : List Value} {s : List UInt8} {a b : Bool} {p : List MemPlace} (h : DataW.trod (fun _ => ()) Tryd.prog w 0 sp held fuel 55 cs = some (formD s a b, p)) : cs = [.string ⟨s.toArray⟩, .bool a, .bool b] := by
  obtain ⟨y0, y1, y2, n, hx, hl, h0, h1, h2⟩ := Go.Deep.trod_struct3 Tryd.underlying55 h
  have hc : Tryd.prog.cellsOf 55 = 3 := by kernel_rfl
  have hcs : Tryd.prog.cellsOf 9 = 1 := by kernel_rfl
  have hcb : Tryd.prog.cellsOf 4 = 1 := by kernel_rfl
  rw [hc] at hl
  simp only [hcs, hcb] at h0 h1 h2
  match cs, hl with
  | [c0, c1, c2], _ =>
    obtain ⟨s', e0, x0, _⟩ := DataW.trod_string Tryd.underlying9 h0
    obtain ⟨a', e1, x1⟩ := DataW.trod_bool Tryd.underlying4 h1
    obtain ⟨b', e2, x2⟩ := DataW.trod_bool Tryd.underlying4 h2
    have hx1 := congrArg Prod.fst hx
    unfold formD at hx1
    simp only [DataW.agg.injEq, List.cons.injEq] at hx1
    obtain ⟨d0, d1, d2, _⟩ := hx1
    rw [x0] at d0
    rw [x1] at d1
    rw [x2] at d2
    simp at e0 e1 e2 d0 d1 d2
    subst d0 d1 d2
    rw [e0, e1, e2]
theorem forms_of {w : World} {sp : Nat → Bool} {held : Bool} {fuel : Nat} {cs : Array Value} {p : List MemPlace} (hv : w.var? Tryd.prog "paceline/play.forms" = some cs) (h : DataW.trod (fun _ => ()) Tryd.prog w 0 sp held fuel 56 cs.toList = some (Rows.laid_paceline_play_forms, p)) : FormsAt w := by
  obtain ⟨xs, m, _, hx, hl, hxl, hf⟩ := DataW.trod_array Tryd.underlying56 h
  have hc : Tryd.prog.cellsOf 55 = 3 := by kernel_rfl
  simp only [hc] at hf
  have hx1 := congrArg Prod.fst hx
  unfold Rows.laid_paceline_play_forms at hx1
  have hxs : xs.map (·.1) = [formD [119, 111, 114, 107] true false, formD [99, 97, 114, 114, 121] true false, formD [108, 111, 115, 101] true false, formD [100, 111, 117, 98, 108, 101] true false, formD [97, 108, 108] false false, formD [99, 114, 97, 115, 104] true true, formD [115, 116, 97, 114, 116] true false, formD [108, 101, 97, 100] false false] := by
    have h9 : (DataW.agg (xs.map (·.1)) : DataW Unit) = DataW.agg _ := hx1.symm
    injection h9
  have key : ∀ (k : Nat) (s : List UInt8) (a b : Bool), k < 8 → (xs.map (·.1))[k]? = some (formD s a b) → w.cell? ⟨0, k * 3, none⟩ = some (.string ⟨s.toArray⟩) ∧ w.cell? ⟨0, k * 3 + 1, none⟩ = some (.bool a) ∧ w.cell? ⟨0, k * 3 + 2, none⟩ = some (.bool b) := by
    intro k s a b hk hd
    rw [List.getElem?_map] at hd
    obtain ⟨x, hx2, hx3⟩ := Option.map_eq_some_iff.1 hd
    have h2 := hf k hk
    rw [hx2] at h2
    obtain ⟨d, q⟩ := x
    dsimp only at hx3
    subst hx3
    have h3 := form_cells h2
    have hg : Tryd.prog.globalNamed "paceline/play.forms" = some 0 := by kernel_rfl
    have hcell : ∀ j v, [(.string ⟨s.toArray⟩ : Value), .bool a, .bool b][j]? = some v → j < 3 → w.cell? ⟨0, k * 3 + j, none⟩ = some v := by
      intro j v hj hj3
      rw [World.var?_cell hg hv, ← Array.getElem?_toList]
      rw [← h3, List.getElem?_take, if_pos hj3, List.getElem?_drop] at hj
      exact hj
    exact ⟨by have := hcell 0 _ rfl (by decide); simpa using this, hcell 1 _ rfl (by decide), hcell 2 _ rfl (by decide)⟩
  intro k hk
  rw [hxs] at key
  match k, hk with
  | 0, _ => exact key 0 _ _ _ (by decide) rfl
  | 1, _ => exact key 1 _ _ _ (by decide) rfl
  | 2, _ => exact key 2 _ _ _ (by decide) rfl
  | 3, _ => exact key 3 _ _ _ (by decide) rfl
  | 4, _ => exact key 4 _ _ _ (by decide) rfl
  | 5, _ => exact key 5 _ _ _ (by decide) rfl
  | 6, _ => exact key 6 _ _ _ (by decide) rfl
  | 7, _ => exact key 7 _ _ _ (by decide) rfl
theorem pow_of {w : World} {sp : Nat → Bool} {held : Bool} {fuel : Nat} {cs : Array Value} {p : List MemPlace} (hv : w.var? Tryd.prog "internal/strconv.uint64pow10" = some cs) (h : DataW.trod (fun _ => ()) Tryd.prog w 0 sp held fuel 112 cs.toList = some (Rows.laid_internal_strconv_uint64pow10, p)) : PowAt w := by
  have h2 := Lib.cells_of_tab (k := .u64) (zs := Lib.pow10Tab) (n := 20) (e := 93) Tryd.underlying112 Tryd.underlying93 (by kernel_rfl) (by kernel_rfl) (show DataW.trod (fun _ => ()) Tryd.prog w 0 sp held fuel 112 cs.toList = some (Lib.tabData .u64 Lib.pow10Tab, p) from h)
  unfold PowAt Lib.TabIs
  rw [hv, ← h2]
theorem star_err : "*" ++ "errors.errorString" = "*errors.errorString" := by decide
theorem row_err (u : TypeId) (h : Tryd.prog.typeName? 3 u = some "*errors.errorString") : u = 108 :=
  typeName_ptr_named (nm := "errors.errorString") (by rw [star_err]; kernel_rfl) (by kernel_rfl) (by decide) u (by rw [star_err]; exact h)
abbrev laidR1 : List (String × DataW Unit) := [("math/bits.deBruijn32tab", Rows.laid_math_bits_deBruijn32tab), ("math/bits.deBruijn64tab", Rows.laid_math_bits_deBruijn64tab), ("internal/strconv.uint64pow10", Rows.laid_internal_strconv_uint64pow10), ("unicode/utf8.acceptRanges", Rows.laid_unicode_utf8_acceptRanges), ("strconv.ErrRange", Rows.laid_strconv_ErrRange), ("strconv.ErrSyntax", Rows.laid_strconv_ErrSyntax), ("paceline/play.forms", Rows.laid_paceline_play_forms)]
abbrev laidR : List (String × DataW Unit) := laidR1 ++ [("unicode/utf8.first", Rows.laid_unicode_utf8_first)]
theorem errs_of {r : List (String × DataW Unit)} {w : World} (h : laidMet Tryd.prog (("strconv.ErrRange", Rows.laid_strconv_ErrRange) :: ("strconv.ErrSyntax", Rows.laid_strconv_ErrSyntax) :: r) w) : ErrsAt w := by
  obtain ⟨a0, s0, hv0, -, -, -⟩ := laid_sentinel h (show Tryd.prog.globalNamed "strconv.ErrRange" = some 3 by kernel_rfl) (show (Tryd.prog.globals[3]?).map (·.type) = some 58 by kernel_rfl) Tryd.underlying58 row_err Tryd.underlying108 Tryd.underlying110 rfl rfl Tryd.underlying9 (by kernel_rfl) (by kernel_rfl)
  obtain ⟨a1, s1, hv1, -, -, -⟩ := laid_sentinel h.tail (show Tryd.prog.globalNamed "strconv.ErrSyntax" = some 2 by kernel_rfl) (show (Tryd.prog.globals[2]?).map (·.type) = some 58 by kernel_rfl) Tryd.underlying58 row_err Tryd.underlying108 Tryd.underlying110 rfl rfl Tryd.underlying9 (by kernel_rfl) (by kernel_rfl)
  exact ⟨⟨_, _, hv1⟩, _, _, hv0⟩
theorem vars_ofR {w : World} (h : laidMetH Tryd.prog laidR w) : FormsAt w ∧ (PowAt w ∧ ErrsAt w) := by
  have h1 := (laidMetH_iff.1 h).1
  rw [show (laidR.filter fun x => x.2.handleName?.isNone) = laidR by kernel_rfl] at h1
  have he := errs_of h1.tail.tail.tail.tail
  obtain ⟨ps, hv, _⟩ := h1
  obtain ⟨g1, t1, c1, f1, p1, q1, _, _, _, _, hv, _⟩ := hv
  obtain ⟨g2, t2, c2, f2, p2, q2, _, _, _, _, hv, _⟩ := hv
  obtain ⟨g3, t3, c3, f3, p3, q3, hg3, ht3, hv3, hd3, hv, _⟩ := hv
  obtain ⟨g4, t4, c4, f4, p4, q4, _, _, _, _, hv, _⟩ := hv
  obtain ⟨g5, t5, c5, f5, p5, q5, _, _, _, _, hv, _⟩ := hv
  obtain ⟨g6, t6, c6, f6, p6, q6, _, _, _, _, hv, _⟩ := hv
  obtain ⟨g7, t7, c7, f7, p7, q7, hg7, ht7, hv7, hd7, hv, _⟩ := hv
  have e3 : g3 = 4 := Option.some.inj (hg3.symm.trans (show Tryd.prog.globalNamed "internal/strconv.uint64pow10" = some 4 by kernel_rfl))
  have e7 : g7 = 0 := Option.some.inj (hg7.symm.trans (show Tryd.prog.globalNamed "paceline/play.forms" = some 0 by kernel_rfl))
  subst e3 e7
  have u3 : t3 = 112 := Option.some.inj (ht3.symm.trans (show (Tryd.prog.globals[4]?).map (·.type) = some 112 by kernel_rfl))
  have u7 : t7 = 56 := Option.some.inj (ht7.symm.trans (show (Tryd.prog.globals[0]?).map (·.type) = some 56 by kernel_rfl))
  subst u3 u7
  exact ⟨forms_of hv7 hd7, pow_of hv3 hd3, he⟩
end Go.Proofs.YtfdaheenigmkmaaDoor
