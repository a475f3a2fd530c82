/- Is some mail none that may be: slices.ContainsFunc with queue.open's closure. -/
import Derived.Test.YtifpngjipkmdcaaRuns
namespace Go.Proofs.Ytifpngjipkmdcaa
open Go.ChangeShapes Go.WideShapes Go.ChangeAt Go.RowKit
set_option linter.unusedVariables false
set_option linter.unusedSimpArgs false
def okMl (l : List Mail) : Bool := l.all mlB
theorem okMl_bad {l : List Mail} {k : Nat} {x : Mail} (h : l[k]? = some x) (hx : mlB x = false) : okMl l = false := by
  unfold okMl
  rw [List.all_eq_false]
  exact ⟨x, List.mem_of_getElem? h, by rw [hx]; decide⟩
theorem okMl_yes {l : List Mail} (h : ∀ (k : Nat) x, k < l.length → l[k]? = some x → mlB x = true) : okMl l = true := by
  unfold okMl
  rw [List.all_eq_true]
  intro x hx
  obtain ⟨k, hk, e⟩ := List.mem_iff_getElem.1 hx
  exact h k x hk (by rw [List.getElem?_eq_getElem hk, e])
theorem notMail_walk (x : Mail) (w : World) : Calls Try.prog 94 #[.agg #[.int .i64 x.to, .int .i64 x.val]] w fun e w' => e = .returned (.bool (!mlB x)) ∧ Below w.heap.size w w' := by
  have HM := hid (mailQ_walk x (w.alloc (.cells #[.int .i64 x.to, .int .i64 x.val] 62)))
  generalize mlB x = F at *
  go_enter Try.func94, Try.ntmps94
  go_wp2_with fail
  refine HM.out.mono ?_
  rintro e w1 ⟨rfl, b1⟩
  go_wp2_with fail
  go_ret
  exact ⟨rfl, bT (bA (Below.refl _ _) _) b1⟩
set_option maxHeartbeats 2000000 in
theorem idxMail_walk (l : List Mail) (w : World) (A : Option Addr) (c : Nat) (hr : Rd w w.heap.size A 2 l.length (l.flatMap Mail.cells)) (hl : l.length ≤ 140737488355328) :
    Calls Try.prog 107 #[.slice A l.length c, .func (.func 94) #[] #[]] w fun e w' => ∃ i : Int, e = .returned (.int .i64 i) ∧ (okMl l = true → i = -1) ∧ (okMl l = false → 0 ≤ i) ∧ Below w.heap.size w w' := by
  go_enter Try.func107, Try.ntmps107
  go_wp2_with fail
  go_loopw [8] (fun i wr => ∃ k : Nat, k ≤ l.length ∧ i = .int .i64 (k : Nat) ∧ Below w.heap.size w wr ∧ Hid (∀ (j : Nat) x, j < k → l[j]? = some x → mlB x = true)) (fun i _ => l.length - (intOf i).toNat)
  case atStart => exact ⟨0, Nat.zero_le _, rfl, Below.refl _ _, hid (fun j x h => by omega)⟩
  case round =>
    obtain ⟨k, hk, rfl, hbel, HN⟩ := hrel
    by_cases hlt : k < l.length
    · obtain ⟨x, hx⟩ : ∃ x, l[k]? = some x := ⟨_, List.getElem?_eq_getElem hlt⟩
      obtain ⟨b, off, rfl, hb, c0, c1⟩ := mail_cells (hr.below hbel) rfl hx
      have hkz : (k : Int) < (l.length : Int) := by omega
      have HX := hid hx
      have HC := hid (notMail_walk x wr)
      clear hx
      cases hn : mlB x with
      | false =>
        rw [hn] at HC
        have HV := hid (okMl_bad HX.out hn)
        obtain ⟨xt, xv⟩ := x
        simp only [Bool.not_false] at HC c0 c1
        clear hn
        go_wp2_with fail
        refine HC.out.mono ?_
        rintro e w2 ⟨rfl, b2⟩
        go_wp2_with fail
        go_ret
        exact ⟨_, rfl, (fun h => by rw [HV.out] at h; cases h), (fun _ => by omega), bT hbel b2⟩
      | true =>
        rw [hn] at HC
        have HN2 := hid hn
        have HNX : Hid (∀ (j : Nat) y, j < k + 1 → l[j]? = some y → mlB y = true) := hid (fun j y hj hy => by
          by_cases e : j = k
          · subst e
            have h2 := HX.out
            rw [hy] at h2
            injection h2 with h2
            rw [h2]
            exact HN2.out
          · exact HN.out j y (by omega) hy)
        obtain ⟨xt, xv⟩ := x
        simp only [Bool.not_true] at HC c0 c1
        clear hn
        go_wp2_with fail
        refine HC.out.mono ?_
        rintro e w2 ⟨rfl, b2⟩
        go_wp2_with fail
        go_roundw
        case rel => exact ⟨k + 1, by omega, by go_num, bT hbel b2, HNX⟩
        case measure => (simp [intOf]) <;> omega
    · obtain rfl : k = l.length := by omega
      have HV : Hid (okMl l = true) := hid (okMl_yes HN.out)
      go_wp2_with fail
      go_ret
      exact ⟨-1, rfl, (fun _ => rfl), (fun h => by rw [HV.out] at h; cases h), hbel⟩
theorem anyBad_walk (l : List Mail) (w : World) (A : Option Addr) (c : Nat) (hr : Rd w w.heap.size A 2 l.length (l.flatMap Mail.cells)) (hl : l.length ≤ 140737488355328) :
    Calls Try.prog 93 #[.slice A l.length c, .func (.func 94) #[] #[]] w fun e w' => e = .returned (.bool (!okMl l)) ∧ Below w.heap.size w w' := by
  have HI := hid (idxMail_walk l w A c hr hl)
  generalize okMl l = F at *
  go_enter Try.func93, Try.ntmps93
  go_wp2_with fail
  refine HI.out.mono ?_
  rintro e w1 ⟨i, rfl, h1, h2, b1⟩
  cases F with
  | true =>
    have hi := h1 rfl
    subst hi
    clear h1 h2
    go_wp2_with fail
    go_ret
    exact ⟨rfl, b1⟩
  | false =>
    have hi := h2 rfl
    clear h1 h2
    go_wp2_with fail
    go_ret
    exact ⟨rfl, b1⟩
end Go.Proofs.Ytifpngjipkmdcaa
