/- merge.Sort, the document's MailSorted: slices.SortFunc by the kit's contract. -/
import Derived.Test.YtifpngjipkmdcaaMls
import Derived.Test.YtifpngjipkmdcaaSortB
import Derived.Test.YtifpngjipkmdcaaShelfS
namespace Go.Proofs.Ytifpngjipkmdcaa
open Go.ChangeShapes Go.WideShapes Go.ChangeAt Go.RowKit
set_option linter.unusedVariables false
set_option linter.unusedSimpArgs false
instance : Inhabited Mail := ⟨⟨0, 0⟩⟩
theorem ltOf_ordV : Go.Proofs.ltOf ordV = mlt := by
  funext a b; exact ordV_neg a b
theorem swo_ord : Go.Sort.SWO (Go.Proofs.ltOf ordV) := by
  rw [ltOf_ordV]
  exact ⟨mlt_strict.irrefl, mlt_strict.trans, fun x y z h1 h2 => mlt_strict.le_trans h2 h1⟩
set_option maxHeartbeats 2000000 in
theorem order_walkD (a b : Mail) (w : World) : Calls Try.prog 43 #[.agg #[.int .i64 a.to, .int .i64 a.val], .agg #[.int .i64 b.to, .int .i64 b.val]] w fun e w' => e = .returned (.int .i64 (ordV a b)) ∧ Below w.heap.size w w' ∧ w.drawn ≤ w'.drawn := by
  have HOR := hid (or_walk (cmp3 a.to b.to) (cmp3 a.val b.val) ((((w.alloc (.cells #[.int .i64 a.to, .int .i64 a.val] 62)).alloc (.cells #[.int .i64 b.to, .int .i64 b.val] 62)).alloc (.cells #[.int .i64 (cmp3 a.to b.to), .int .i64 (cmp3 a.val b.val)] 3)).drew) (w.heap.size + 1 + 1) 0 2 (by go_simp) (by go_simp))
  go_enter Try.func43, Try.ntmps43
  go_wp2_with fail
  go_region_held3 (fun w' => w'.cell? ⟨w.heap.size, 0, none⟩ = some (.int .i64 a.to) ∧ w'.cell? ⟨w.heap.size, 1, none⟩ = some (.int .i64 a.val) ∧ w'.cell? ⟨w.heap.size + 1, 0, none⟩ = some (.int .i64 b.to) ∧ w'.cell? ⟨w.heap.size + 1, 1, none⟩ = some (.int .i64 b.val)) (go_keep) ((first | (go_at_call 83; refine (compare_walk _ _ _).mono ?_; rintro r w3 ⟨rfl, rfl⟩) | (go_at_call 82; refine HOR.out.mono ?_; rintro r w3 ⟨rfl, rfl⟩)))
  all_goals
    go_wp2_with fail
    go_ret
    refine ⟨rfl, by first | exact bA (bD (bA (bA (Below.refl _ _) _) _)) _ | exact bD (bA (bA (bA (Below.refl _ _) _) _) _), ?_⟩
    exact Nat.le_succ _
theorem cmpLays (blk off size : Nat) (w : World) : Go.Proofs.CmpLays Try.prog 43 #[] Mail.cells 2 ordV blk off size w :=
  fun _ _ _ _ x y => (order_walkD x y _).mono fun _ _ ⟨he, hb, hd⟩ => ⟨he, below_grow hb hd⟩
theorem sortFunc_own (l : List Mail) (w : World) (base c g : Nat) (h : w.ownsRow base 62 2 (.slice (some ⟨g, 0, none⟩) l.length c) l.length (l.flatMap Mail.cells)) (hbase : base ≤ w.heap.size) (hl : l.length < 4611686018427387904) :
    Calls Try.prog 103 #[.slice (some ⟨g, 0, none⟩) l.length c, .func (.func 43) #[] #[]] w fun e w' => e = .returned (.tuple #[]) ∧ w'.ownsRow base 62 2 (.slice (some ⟨g, 0, none⟩) l.length c) l.length ((srtOf mlt l).flatMap Mail.cells) ∧ Below base w w' := by
  have hk : ∀ x : Mail, (Mail.cells x).length = 2 := fun _ => rfl
  have hcon := Go.Proofs.AnyQ.slices_SortFunc Try.sortMail 2 Try.isAgg62 Try.sizeOf62 Mail.cells hk (fun x v hv => by simp [Mail.cells] at hv; rcases hv with rfl | rfl <;> rfl) ordV swo_ord 43 #[] g 0 c l.toArray w Try.call43 (cmpLays g 0 l.toArray.size w) (holds_own hk h) (h.lt g rfl).2 (by simpa using hl)
  simp only [List.size_toArray] at hcon
  refine Calls.mono hcon ?_
  rintro e w' ⟨rfl, d, n, os, hp, hs, rfl⟩
  obtain ⟨h1, h2⟩ := sort_own mlt_strict ltOf_ordV hk h hbase hp hs n os
  exact ⟨rfl, h1, h2⟩
theorem ins_nil (w : World) : Calls Try.prog 116 #[.slice none 0 0, .int .i64 0, .int .i64 0, .func (.func 43) #[] #[]] w fun e w' => e = .returned (.tuple #[]) ∧ w = w' := by
  go_enter Try.func116, Try.ntmps116
  go_wp2_with fail
  go_loopw [8] (fun i wr => i = .int .i64 1 ∧ w = wr) (fun _ _ => 0)
  case atStart => exact ⟨rfl, rfl⟩
  case round =>
    obtain ⟨rfl, rfl⟩ := hrel
    go_wp2_with fail
    go_end0
    exact ⟨rfl, rfl⟩
theorem pdq_nil (n : Int) (w : World) : Calls Try.prog 113 #[.slice none 0 0, .int .i64 0, .int .i64 0, .int .i64 n, .func (.func 43) #[] #[]] w fun e w' => e = .returned (.tuple #[]) ∧ w = w' := by
  go_enter Try.func113, Try.ntmps113
  go_wp2_with fail
  go_loopw [1, 2] (fun a b wr => a = .int .i64 0 ∧ b = .int .i64 0 ∧ w = wr) (fun _ _ _ => 0)
  case atStart => exact ⟨rfl, rfl, rfl⟩
  case round =>
    obtain ⟨rfl, rfl, rfl⟩ := hrel
    go_wp2_with fail
    refine (ins_nil _).mono ?_
    rintro e w1 ⟨rfl, rfl⟩
    go_wp2_with fail
    exact bodyPost_ret (results_none rfl _ _ _) rfl ⟨rfl, rfl⟩
theorem sortFunc_nil (w : World) : Calls Try.prog 103 #[.slice none 0 0, .func (.func 43) #[] #[]] w fun e w' => e = .returned (.tuple #[]) ∧ w = w' := by
  have hl := hid (fun W : World => Go.Proofs.Any.bits_Len (Go.Proofs.SlLaysF0.n15.bits (P := Try.prog) (ρ := Try.sortMail_ren) { Try.sortMail with }) 0 W (by omega) (by omega))
  go_enter Try.func103, Try.ntmps103
  go_wp2_with fail
  refine (hl.out _).mono ?_
  rintro e w1 ⟨rfl, rfl⟩
  go_wp2_with fail
  refine (pdq_nil _ _).mono ?_
  rintro e w1 ⟨rfl, rfl⟩
  go_wp2_with fail
  go_end0
  exact ⟨rfl, rfl⟩
/-- Sorted where it lies. -/
theorem sortFunc_walk (l : List Mail) (w : World) (base c : Nat) (A : Option Addr) (h : w.ownsRow base 62 2 (.slice A l.length c) l.length (l.flatMap Mail.cells)) (hbase : base ≤ w.heap.size) (hl : l.length < 4611686018427387904) :
    Calls Try.prog 103 #[.slice A l.length c, .func (.func 43) #[] #[]] w fun e w' => e = .returned (.tuple #[]) ∧ w'.ownsRow base 62 2 (.slice A l.length c) l.length ((srtOf mlt l).flatMap Mail.cells) ∧ Below base w w' := by
  rcases h.2 with ⟨hv, h0⟩ | ⟨g, cap, cur, hv, r⟩
  · injection hv with e1 e2 e3
    subst e1 e3
    have hl0 : l = [] := List.length_eq_zero_iff.1 h0
    subst hl0
    refine Calls.mono (sortFunc_nil w) ?_
    rintro e w' ⟨rfl, rfl⟩
    have e0 : srtOf mlt ([] : List Mail) = [] := List.length_eq_zero_iff.1 (by rw [srtOf_len]; rfl)
    exact ⟨rfl, by rw [e0]; exact h, Below.refl _ _⟩
  · injection hv with e1 e2 e3
    subst e1
    exact sortFunc_own l w base c g h hbase hl
noncomputable def sortV (l : List Mail) : List Mail × Int := if 5000 < l.length then ([], 1) else (srtOf mlt l, 0)
theorem sortV_big {l : List Mail} (h : 5000 < l.length) : sortV l = ([], 1) := by unfold sortV; rw [if_pos h]
theorem sortV_ok {l : List Mail} (h : ¬ 5000 < l.length) : sortV l = (srtOf mlt l, 0) := by unfold sortV; rw [if_neg h]
theorem sortV_len (l : List Mail) : (sortV l).1.length ≤ 5000 := by
  unfold sortV; split
  · simp
  · simp only [srtOf_len]; omega
set_option maxHeartbeats 2000000 in
theorem sort_walk (l : List Mail) (w : World) (A : Option Addr) (c : Nat) (hr : Rd w w.heap.size A 2 l.length (l.flatMap Mail.cells)) (hl : l.length * 16 ≤ 140737488355328) :
    Calls Try.prog 73 #[.slice A l.length c] w (RetM w (sortV l).1 (sortV l).2) := by
  by_cases h : 5000 < l.length
  · rw [sortV_big h]
    have hz : (5000 : Int) < (l.length : Int) := by omega
    go_enter Try.func73, Try.ntmps73
    go_wp2_with fail
    go_ret2
    exact retL_none _ _ _ _ _ (Below.refl _ _)
  · have hz : ¬ ((5000 : Int) < (l.length : Int)) := by omega
    rw [sortV_ok h]
    have HC := hid (clone_walk l A l.length c w.heap.size w hr hl)
    go_enter Try.func73, Try.ntmps73
    go_wp2_with fail
    refine HC.out.mono ?_
    rintro e w2 ⟨A1, c1, rfl, o2, b2⟩
    have HD := hid (sortFunc_walk l w2 w.heap.size c1 A1 o2 b2.size (by omega))
    go_wp2_with fail
    refine HD.out.mono ?_
    rintro e w3 ⟨rfl, o3, b3⟩
    have HO := hid o3
    clear o3 o2
    go_wp2_with fail
    go_ret2
    exact ⟨A1, c1, by rw [srtOf_len]; rfl, by rw [srtOf_len]; exact HO.out, b2.trans b3⟩
end Go.Proofs.Ytifpngjipkmdcaa
