/- graph.Check and the document's answer. -/
import Derived.Test.YtfdaheenigmkmaaDoorBase
namespace Go.Proofs.YtfdaheenigmkmaaDoor
open Go.ChangeShapes Go.WideShapes Go.ChangeAt Go.RowKit
set_option linter.unusedVariables false
set_option linter.unusedSimpArgs false
def edgeOk (n : Int) (e : Edge) : Prop := (0 ≤ e.src ∧ e.src < n) ∧ (0 ≤ e.dst ∧ e.dst < n) ∧ 0 ≤ e.wt ∧ e.wt ≤ 1099511627776
def graphFits (g : Graph) : Prop := 0 ≤ g.n ∧ g.n ≤ 200 ∧ g.edges.length ≤ 600
open Classical in
noncomputable def graphV (g : Graph) : Int := if graphFits g then (if ∀ e ∈ g.edges, edgeOk g.n e then 0 else 2) else 1
theorem graphV_ok {g : Graph} : graphV g = 0 ↔ graphFits g ∧ ∀ e ∈ g.edges, edgeOk g.n e := by
  unfold graphV
  split
  · split <;> simp_all
  · simp_all
/-- The cells of the edge 'k' of a graph that is read. -/
theorem edge_cells {w : World} {B n k : Nat} {A : Option Addr} {l : List Edge} {e : Edge} (h : Rd w B A 3 n (l.flatMap Edge.cells)) (hl : l.length = n) (hk : l[k]? = some e) :
    ∃ b off, A = some ⟨b, off, none⟩ ∧ b < B ∧ w.cell? ⟨b, off + k * 3, none⟩ = some (.int .i64 e.src) ∧ w.cell? ⟨b, off + k * 3 + 1, none⟩ = some (.int .i64 e.dst) ∧ w.cell? ⟨b, off + k * 3 + 2, none⟩ = some (.int .i64 e.wt) := by
  have hkl := (List.getElem?_eq_some_iff.1 hk).1
  obtain ⟨b, off, rfl, hb, hc⟩ := h.at_ (show k < n by omega)
  have hg := (flatMap_get (l := l) (cells := Edge.cells) (sz := 3) (fun _ _ => rfl)).2 k e
  have c0 := hc _ _ (hg 0 _ hk rfl)
  have c1 := hc _ _ (hg 1 _ hk rfl)
  have c2 := hc _ _ (hg 2 _ hk rfl)
  simp only [Nat.add_zero, ← Nat.add_assoc] at c0 c1 c2
  exact ⟨b, off, rfl, hb, c0, c1, c2⟩
def insideB (v n : Int) : Bool := decide (0 ≤ v ∧ v < n)
theorem inside_walk (v n : Int) (w : World) (b : Nat) (hc : w.cell? ⟨b, 0, none⟩ = some (.int .i64 n)) :
    Calls Tryd.prog 39 #[.int .i64 v, .pointer (some ⟨b, 0, none⟩)] w fun e w' => e = .returned (.bool (insideB v n)) ∧ w = w' := by
  by_cases h : 0 ≤ v
  · by_cases h2 : v < n
    · have H : Hid (insideB v n = true) := hid (by simp [insideB, h, h2])
      go_enter Tryd.func39, Tryd.ntmps39
      go_wp2
      go_ret
      exact ⟨retb H.out.symm, rfl⟩
    · have H : Hid (insideB v n = false) := hid (by simp only [insideB, decide_eq_false_iff_not]; omega)
      go_enter Tryd.func39, Tryd.ntmps39
      go_wp2
      go_ret
      exact ⟨retb H.out.symm, rfl⟩
  · have H : Hid (insideB v n = false) := hid (by simp only [insideB, decide_eq_false_iff_not]; omega)
    go_enter Tryd.func39, Tryd.ntmps39
    go_wp2
    go_ret
    exact ⟨retb H.out.symm, rfl⟩
def GraphRel (l : List Edge) (n : Int) (v : Value) (w : World) (i : Value) (wr : World) : Prop :=
  ∃ k : Nat, k ≤ l.length ∧ i = .int .i64 k ∧ Hid (∀ (j : Nat) (e : Edge), j < k → l[j]? = some e → edgeOk n e) ∧ Below w.heap.size w wr ∧ w.heap.size < wr.heap.size ∧ wr.cell? ⟨w.heap.size, 0, none⟩ = some (.int .i64 n) ∧ wr.cell? ⟨w.heap.size, 1, none⟩ = some v
theorem notAll {l : List Edge} {n : Int} {k : Nat} {e : Edge} (he : l[k]? = some e) (h : ¬ edgeOk n e) : ¬ ∀ e ∈ l, edgeOk n e := fun ha => h (ha e (List.mem_of_getElem? he))
theorem okNext {l : List Edge} {n : Int} {k : Nat} {e : Edge} (he : l[k]? = some e) (h : edgeOk n e) (H : ∀ (j : Nat) (e : Edge), j < k → l[j]? = some e → edgeOk n e) : ∀ (j : Nat) (e : Edge), j < k + 1 → l[j]? = some e → edgeOk n e := by
  intro j e' hj he'
  by_cases hjk : j < k
  · exact H j e' hjk he'
  · obtain rfl : j = k := by omega
    rw [he] at he'
    injection he' with he'
    subst he'
    exact h
theorem allOk {l : List Edge} {n : Int} (h : ∀ (j : Nat) (e : Edge), j < l.length → l[j]? = some e → edgeOk n e) : ∀ e ∈ l, edgeOk n e := by
  intro e he
  obtain ⟨i, hi, rfl⟩ := List.getElem_of_mem he
  exact h i _ hi (List.getElem?_eq_getElem hi)
set_option maxHeartbeats 2000000 in
theorem check_walk (g : Graph) (w : World) (A : Option Addr) (c : Nat) (hr : Rd w w.heap.size A 3 g.edges.length (g.edges.flatMap Edge.cells)) (hl : g.edges.length ≤ 9223372036854775807) :
    Calls Tryd.prog 27 #[.agg #[.int .i64 g.n, .slice A g.edges.length c]] w fun e w' => e = .returned (.int .i64 (graphV g)) ∧ Below w.heap.size w w' := by
  obtain ⟨n, l⟩ := g
  simp only at hr hl ⊢
  by_cases hfit : graphFits ⟨n, l⟩
  · have HV : Hid ((∀ e ∈ l, edgeOk n e) → graphV ⟨n, l⟩ = 0) := hid (fun h => graphV_ok.2 ⟨hfit, h⟩)
    have HV2 : Hid (¬ (∀ e ∈ l, edgeOk n e) → graphV ⟨n, l⟩ = 2) := hid (fun h => by unfold graphV; rw [if_pos hfit, if_neg h])
    obtain ⟨h1, h2, h3⟩ := hfit
    simp only at h1 h2 h3
    generalize graphV ⟨n, l⟩ = r at *
    go_enter Tryd.func27, Tryd.ntmps27
    go_wp2
    go_loopw [24] (GraphRel l n (.slice A l.length c) w) (fun i _ => l.length - (intOf i).toNat)
    case atStart => exact ⟨0, by omega, rfl, hid (fun j e h => by omega), bA (Below.refl _ _) _, by simp, by go_simp, by go_simp⟩
    case round =>
      obtain ⟨k, hk, rfl, HO, hbel, hsz, hb0, hb1⟩ := hrel
      by_cases hlt : k < l.length
      · obtain ⟨e, he⟩ : ∃ e, l[k]? = some e := ⟨_, List.getElem?_eq_getElem hlt⟩
        obtain ⟨b, off, rfl, hb, c0, c1, c2⟩ := edge_cells (hr.below hbel) rfl he
        have hbr : b < wr.heap.size := by omega
        have HE := hid he
        clear he
        by_cases hok : edgeOk n e
        · have HK := hid hok
          obtain ⟨hs, hd, hw1, hw2⟩ := hok
          have is1 : insideB e.src n = true := by simp [insideB, hs]
          have is2 : insideB e.dst n = true := by simp [insideB, hd]
          clear hs hd
          go_wp2_with (go_at_call 39; refine (inside_walk _ n _ w.heap.size (by go_simp)).mono ?_; rintro e w' ⟨rfl, rfl⟩)
          go_roundw
          case rel => exact ⟨k + 1, by omega, by go_num, hid (okNext HE.out HK.out HO.out), hbel.alloc hbel.size _, by simp; omega, by go_simp, by go_simp⟩
          case measure => simp [intOf]; omega
        · have HB := hid (HV2.out (notAll HE.out hok))
          have hcase : insideB e.src n = false ∨ (insideB e.src n = true ∧ insideB e.dst n = false) ∨ (insideB e.src n = true ∧ insideB e.dst n = true ∧ e.wt < 0) ∨ (insideB e.src n = true ∧ insideB e.dst n = true ∧ 0 ≤ e.wt ∧ 1099511627776 < e.wt) := by
            unfold edgeOk at hok
            simp only [insideB, decide_eq_false_iff_not, decide_eq_true_eq]
            omega
          clear hok
          rcases hcase with i1 | ⟨i1, i2⟩ | ⟨i1, i2, i3⟩ | ⟨i1, i2, i3, i4⟩
          all_goals
            go_wp2_with (go_at_call 39; refine (inside_walk _ n _ w.heap.size (by go_simp)).mono ?_; rintro e w' ⟨rfl, rfl⟩)
            go_ret
            rw [HB.out]
            exact ⟨rfl, hbel.alloc hbel.size _⟩
      · obtain rfl : k = l.length := by omega
        have HB := hid (HV.out (allOk HO.out))
        go_wp2
        go_ret
        rw [HB.out]
        exact ⟨rfl, hbel⟩
  · have HV : Hid (graphV ⟨n, l⟩ = 1) := hid (by unfold graphV; rw [if_neg hfit])
    have hcase : n < 0 ∨ (0 ≤ n ∧ 200 < n) ∨ (0 ≤ n ∧ n ≤ 200 ∧ 600 < l.length) := by
      unfold graphFits at hfit
      simp only at hfit
      omega
    generalize graphV ⟨n, l⟩ = r at *
    clear hfit
    rcases hcase with h1 | ⟨h1, h2⟩ | ⟨h1, h2, h3⟩
    all_goals
      go_enter Tryd.func27, Tryd.ntmps27
      go_wp2
      go_ret
      rw [HV.out]
      exact ⟨rfl, bA (Below.refl _ _) _⟩
end Go.Proofs.YtfdaheenigmkmaaDoor
