/- What the tied card lays: the table of powers, the two errors (SheetReads). -/
import Derived.Test.YtfdaheenigmkmaaDoorLShR
import Derived.Stop.LaidErr
import Derived.LaidLaws
import Derived.Test.YtfdaheenigmkmaaDoorRows
import Derived.LaidMore
import Derived.LaidSub
import Derived.OpenShut
import Derived.Deep.Strs
import Derived.Lib.LaidTab
import Derived.SevenTiedAt
namespace Go.Proofs.YtfdaheenigmkmaaDoor
open Go.RowKit Go.ChangeShapes Go.WideShapes Go.ChangeAt
set_option linter.unusedVariables false
set_option linter.unusedSimpArgs false
theorem pow_of {w : World} {sp : Nat → Bool} {held : Bool} {fuel : Nat} {cs : Array Value} {p : List MemPlace} (hv : w.var? Tryd.prog "internal/strconv.uint64pow10" = some cs) (h : DataW.trod (fun _ => ()) Tryd.prog w 0 sp held fuel 112 cs.toList = some (Rows.laid_internal_strconv_uint64pow10, p)) : PowAt w := by
  have h2 := Lib.cells_of_tab (k := .u64) (zs := Lib.pow10Tab) (n := 20) (e := 93) Tryd.underlying112 Tryd.underlying93 (by kernel_rfl) (by kernel_rfl) (show DataW.trod (fun _ => ()) Tryd.prog w 0 sp held fuel 112 cs.toList = some (Lib.tabData .u64 Lib.pow10Tab, p) from h)
  unfold PowAt Lib.TabIs
  rw [hv, ← h2]
theorem star_err : "*" ++ "errors.errorString" = "*errors.errorString" := by decide
theorem row_err (u : TypeId) (h : Tryd.prog.typeName? 3 u = some "*errors.errorString") : u = 108 :=
  typeName_ptr_named (nm := "errors.errorString") (by rw [star_err]; kernel_rfl) (by kernel_rfl) (by decide) u (by rw [star_err]; exact h)
abbrev laidG : List (String × DataW Unit) := [("math/bits.deBruijn32tab", Rows.laid_math_bits_deBruijn32tab), ("math/bits.deBruijn64tab", Rows.laid_math_bits_deBruijn64tab), ("internal/strconv.uint64pow10", Rows.laid_internal_strconv_uint64pow10), ("unicode/utf8.acceptRanges", Rows.laid_unicode_utf8_acceptRanges), ("strconv.ErrRange", Rows.laid_strconv_ErrRange), ("strconv.ErrSyntax", Rows.laid_strconv_ErrSyntax), ("unicode/utf8.first", Rows.laid_unicode_utf8_first)]
theorem errs_of {r : List (String × DataW Unit)} {w : World} (h : laidMet Tryd.prog (("strconv.ErrRange", Rows.laid_strconv_ErrRange) :: ("strconv.ErrSyntax", Rows.laid_strconv_ErrSyntax) :: r) w) : ErrsAt w := by
  obtain ⟨a0, s0, hv0, -, -, -⟩ := laid_sentinel h (show Tryd.prog.globalNamed "strconv.ErrRange" = some 3 by kernel_rfl) (show (Tryd.prog.globals[3]?).map (·.type) = some 58 by kernel_rfl) Tryd.underlying58 row_err Tryd.underlying108 Tryd.underlying110 rfl rfl Tryd.underlying9 (by kernel_rfl) (by kernel_rfl)
  obtain ⟨a1, s1, hv1, -, -, -⟩ := laid_sentinel h.tail (show Tryd.prog.globalNamed "strconv.ErrSyntax" = some 2 by kernel_rfl) (show (Tryd.prog.globals[2]?).map (·.type) = some 58 by kernel_rfl) Tryd.underlying58 row_err Tryd.underlying108 Tryd.underlying110 rfl rfl Tryd.underlying9 (by kernel_rfl) (by kernel_rfl)
  exact ⟨⟨_, _, hv1⟩, _, _, hv0⟩
theorem vars_ofG {w : World} (h : laidMetH Tryd.prog laidG w) : (PowAt w ∧ 4 < w.heap.size) ∧ ErrsAt w := by
  have h1 := (laidMetH_iff.1 h).1
  rw [show (laidG.filter fun x => x.2.handleName?.isNone) = laidG by kernel_rfl] at h1
  have he := errs_of h1.tail.tail.tail.tail
  obtain ⟨ps, hv, _⟩ := h1
  obtain ⟨g1, t1, c1, f1, p1, q1, _, _, _, _, hv, _⟩ := hv
  obtain ⟨g2, t2, c2, f2, p2, q2, _, _, _, _, hv, _⟩ := hv
  obtain ⟨g3, t3, c3, f3, p3, q3, hg3, ht3, hv3, hd3, hv, _⟩ := hv
  have e3 : g3 = 4 := Option.some.inj (hg3.symm.trans (show Tryd.prog.globalNamed "internal/strconv.uint64pow10" = some 4 by kernel_rfl))
  subst e3
  have u3 : t3 = 112 := Option.some.inj (ht3.symm.trans (show (Tryd.prog.globals[4]?).map (·.type) = some 112 by kernel_rfl))
  subst u3
  have hp : PowAt w := pow_of hv3 hd3
  exact ⟨⟨hp, World.block_lt_of_cell? _ _ (Lib.TabIs.cell hp hg3 0 (by decide))⟩, he⟩
end Go.Proofs.YtfdaheenigmkmaaDoor
