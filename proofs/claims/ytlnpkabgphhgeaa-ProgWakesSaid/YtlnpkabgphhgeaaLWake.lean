/- The statement on prog.Wake. -/
import Derived.Test.YtlnpkabgphhgeaaWakeR
import Derived.Test.YtlnpkabgphhgeaaSame
namespace Go.Proofs.Ytlnpkabgphhgeaa
open Go.ChangeShapes Go.WideShapes Go.ChangeAt Go.RowKit
set_option linter.unusedVariables false
theorem wake_walk (k v src : Int) (x : Val) (p : Int) (fresh : Bool) (l : List Int) (w : World) (A : Option Addr) (c : Nat) (hr : Rd w w.heap.size A 1 l.length (l.flatMap i64c)) (hl : l.length * 8 ≤ 140737488355328) :
    Calls Try.prog 8 #[.int .i64 k, .int .i64 v, .int .i64 src, .agg #[.int .i64 x.a, .int .i64 x.label], .int .i64 p, .bool fresh, .slice A l.length c] w (RetVBE w (wakeV k v src x p fresh l)) := by
  by_cases h1 : k = 1
  · subst h1; exact wake1_walk v src x p fresh l w A c hr hl
  by_cases h2 : k = 2
  · subst h2; exact wake2_walk v src x p fresh l w A c hr hl
  by_cases h3 : k = 3
  · subst h3; exact wake3_walk v src x p fresh l w A c hr hl
  exact wake0_walk k h1 h2 h3 v src x p fresh l w A c
set_option maxHeartbeats 1000000 in
theorem law_ProgWakes (w : World) (k : Int) (hk : (Lit.int .i64 k).wf = true) (v : Int) (hv : (Lit.int .i64 v).wf = true) (src : Int) (hsrc : (Lit.int .i64 src).wf = true) (x : Val) (hx : x.wf) (p : Int) (hp : (Lit.int .i64 p).wf = true) (fresh : Bool) (l : List Int) (A : Option Addr) (c : Nat) (hf : Flat w w.heap.size 8 1 i64c A c l) (hb : ∀ x ∈ l, I64 x) :
    Calls Try.prog 4 #[.int .i64 k, .int .i64 v, .int .i64 src, .agg #[.int .i64 x.a, .int .i64 x.label], .int .i64 p, .bool fresh, .slice A l.length c] w fun e w' => e = .returned (.bool true) ∧ Below w.heap.size w w' := by
  obtain ⟨f1, f2, f3, f4⟩ := hf
  have c1 := hid (fun w A c hr hl => wake_walk k v src x p fresh l w A c hr hl)
  have c2 := hid (fun w A c hr hl => woken_walk k v src x p fresh l w A c hr hl)
  have hl8 : l.length * 8 ≤ 140737488355328 := by omega
  clear hk hv hsrc hp hb
  generalize wakeV k v src x p fresh l = z at c1 c2
  obtain ⟨⟨za, zl⟩, zs, ze⟩ := z
  have b0 := bA (Below.refl w.heap.size w) (.cells #[.int .i64 x.a, .int .i64 x.label] 23)
  go_enter Try.func4, Try.ntmps4
  go_wp2_with fail
  refine (ints_copy l _ A l.length c _ (rdb f4 (by decide) b0) hl8).mono ?_
  rintro e w1 ⟨A1, k1, rfl, o1, b1⟩
  have q0 : w1.cell? ⟨w.heap.size, 0, none⟩ = some (.int .i64 x.a) := keepb b1 (by go_simp)
  have q1 : w1.cell? ⟨w.heap.size, 1, none⟩ = some (.int .i64 x.label) := keepb b1 (by go_simp)
  have bb := bT b0 b1
  have r1 := (rd_own o1).any (sz := 1) (by decide)
  have hs1 : w.heap.size < w1.heap.size := by have := b1.size; simp at this; omega
  clear b1
  go_wp2_with fail
  refine (c1.out w1 A1 k1 r1 hl8).mono ?_
  rintro e w2 ⟨rfl, b2⟩
  have bb2 := bT bb b2
  have r2 := rdb r1 (by decide) b2
  have y0 : w2.cell? ⟨w.heap.size, 0, none⟩ = some (.int .i64 x.a) := keepb b2 q0
  have y1 : w2.cell? ⟨w.heap.size, 1, none⟩ = some (.int .i64 x.label) := keepb b2 q1
  have hs : w.heap.size < w2.heap.size := by have := b2.size; omega
  have x0 : ∀ (cs : Array Value) (t : TypeId), (w2.alloc (.cells cs t)).cell? ⟨w.heap.size, 0, none⟩ = some (.int .i64 x.a) := fun cs t => keepb (bA (Below.refl w2.heap.size w2) (.cells cs t)) y0
  have x1 : ∀ (cs : Array Value) (t : TypeId), (w2.alloc (.cells cs t)).cell? ⟨w.heap.size, 1, none⟩ = some (.int .i64 x.label) := fun cs t => keepb (bA (Below.refl w2.heap.size w2) (.cells cs t)) y1
  have b2a := bA bb2 (.cells #[.int .i64 za, .int .i64 zl] 23)
  have r2a := rdb r2 (by decide) (bA (Below.refl w2.heap.size w2) (.cells #[.int .i64 za, .int .i64 zl] 23))
  clear b2 q0 q1
  go_wp2_with fail
  refine (c2.out _ A c (rdb f4 (by decide) b2a) hl8).mono ?_
  rintro e w3 ⟨rfl, b3⟩
  have m0 : w3.cell? ⟨w2.heap.size, 0, none⟩ = some (.int .i64 za) := keepb b3 (by go_simp)
  have m1 : w3.cell? ⟨w2.heap.size, 1, none⟩ = some (.int .i64 zl) := keepb b3 (by go_simp)
  have bb3 := bT b2a b3
  have r3 := rdb r2a (by decide) b3
  have hs3 : w2.heap.size < w3.heap.size := by have := b3.size; simp at this; omega
  have hne : w2.heap.size ≠ w3.heap.size := by omega
  have n0 : ∀ (cs : Array Value) (t : TypeId), (w3.alloc (.cells cs t)).cell? ⟨w2.heap.size, 0, none⟩ = some (.int .i64 za) := fun cs t => keepb (bA (Below.refl w3.heap.size w3) (.cells cs t)) m0
  have n1 : ∀ (cs : Array Value) (t : TypeId), (w3.alloc (.cells cs t)).cell? ⟨w2.heap.size, 1, none⟩ = some (.int .i64 zl) := fun cs t => keepb (bA (Below.refl w3.heap.size w3) (.cells cs t)) m1
  clear b3 b2a
  have b3a := bA bb3 (.cells #[.int .i64 za, .int .i64 zl] 23)
  have r3a := rdb r3 (by decide) (bA (Below.refl w3.heap.size w3) (.cells #[.int .i64 za, .int .i64 zl] 23))
  cases zs <;> (
    go_wp2_with fail
    refine (sameInts_walk l _ A1 A k1 c r3a (rdb f4 (by decide) b3a) (by omega)).mono ?_
    rintro e w5 ⟨rfl, b5⟩
    go_wp2_with fail
    go_ret
    exact ⟨by simp, bT b3a b5⟩)
end Go.Proofs.Ytlnpkabgphhgeaa
