/- paths.Weak, the document's WeakOf. -/
import Derived.Test.YtifpngjipkmdcaaDegrees
import Derived.Test.YtifpngjipkmdcaaWeakP
import Derived.Test.YtifpngjipkmdcaaMem
namespace Go.Proofs.Ytifpngjipkmdcaa
open Go.ChangeShapes Go.WideShapes Go.ChangeAt Go.RowKit
set_option linter.unusedVariables false
set_option linter.unusedSimpArgs false
/-- Edges as pairs. -/
def prs (l : List Edge) : List (Nat × Nat) := l.map fun e => (e.src.toNat, e.dst.toNat)
def flN (n : Nat) (f : Nat → Nat) : List Int := fl n fun v => (f v : Int)
noncomputable def weakV (g : Graph) : List Int × Int := if graphV g = 0 then (flN g.n.toNat (root (links (prs g.edges))), 0) else ([], graphV g)
theorem flN_len (n : Nat) (f : Nat → Nat) : (flN n f).length = n := fl_len _ _
theorem flN_get {n v : Nat} (f : Nat → Nat) (h : v < n) : (flN n f)[v]? = some (f v : Int) := fl_get _ h
theorem flN_set {n a : Nat} (f : Nat → Nat) (x : Nat) (h : a < n) : (flN n f).set a (x : Int) = flN n (upd f a x) := by
  unfold flN
  rw [fl_set _ _ h]
  apply fl_ext
  intro v _
  unfold upd
  split <;> rfl
theorem flN_zero (n : Nat) : flN n (fun _ => 0) = List.replicate n 0 := by
  apply List.ext_getElem?
  intro j
  by_cases hj : j < n
  · rw [flN_get _ hj]; simp [hj]
  · rw [List.getElem?_eq_none (by rw [flN_len]; omega), List.getElem?_eq_none (by simp; omega)]
theorem prs_snoc (l : List Edge) (e : Edge) : prs (l ++ [e]) = prs l ++ [(e.src.toNat, e.dst.toNat)] := by simp [prs]
/-- Numbers up to k, then noughts. -/
def idTo (k : Nat) : Nat → Nat := fun v => if v < k then v else 0
theorem idTo_next (k : Nat) : upd (idTo k) k k = idTo (k + 1) := by
  funext v; unfold upd idTo
  by_cases h : v = k
  · subst h; simp
  · rw [if_neg h]; by_cases h2 : v < k
    · rw [if_pos h2, if_pos (by omega)]
    · rw [if_neg h2, if_neg (by omega)]
theorem idTo_all (n : Nat) : flN n (idTo n) = flN n id := fl_ext fun v hv => by simp [idTo, hv]
/-- The cells of a row that holds f. -/
def Holds1 (w : World) (g n : Nat) (f : Nat → Nat) : Prop := ∀ v, v < n → w.cell? ⟨g, v, none⟩ = some (.int .i64 (f v))
theorem holds1_of {w : World} {base g n c : Nat} {e : TypeId} {f : Nat → Nat} (h : w.ownsRow base e 1 (.slice (some ⟨g, 0, none⟩) n c) n ((flN n f).flatMap i64c)) : Holds1 w g n f :=
  fun v hv => (own_at h (flat_i64_get (flN_get f hv))).1
def RootRel (f : Nat → Nat) (n r : Nat) (i : Value) : Prop := ∃ x : Nat, x < n ∧ i = .int .i64 x ∧ Hid (root f x = r)
theorem edge_nat {n : Nat} {l : List Edge} (h : ∀ e ∈ l, edgeOk n e) {k : Nat} {e : Edge} (he : l[k]? = some e) : ∃ a b : Nat, e.src = (a : Int) ∧ e.dst = (b : Int) ∧ a < n ∧ b < n := by
  obtain ⟨⟨h1, h2⟩, ⟨h3, h4⟩, _⟩ := h e (List.mem_of_getElem? he)
  obtain ⟨a, ha⟩ := Int.eq_ofNat_of_zero_le h1
  obtain ⟨b, hb⟩ := Int.eq_ofNat_of_zero_le h3
  exact ⟨a, b, ha, hb, by omega, by omega⟩
theorem link1_lt {f : Nat → Nat} {a b : Nat} (h : root f a < root f b) : link1 f a b = upd f (root f b) (root f a) := by
  unfold link1; rw [Nat.max_eq_right (Nat.le_of_lt h), Nat.min_eq_left (Nat.le_of_lt h)]
theorem link1_ge {f : Nat → Nat} {a b : Nat} (h : root f b ≤ root f a) : link1 f a b = upd f (root f a) (root f b) := by
  unfold link1; rw [Nat.max_eq_left h, Nat.min_eq_right h]
theorem links_le (l : List (Nat × Nat)) (v : Nat) : root (links l) v ≤ v := root_le (links_down l) v
def Wk (F : Nat → Nat → Nat) (m n G : Nat) (w1 : World) (i : Value) (wr : World) : Prop :=
  ∃ k : Nat, k ≤ m ∧ i = .int .i64 k ∧ wr.ownsRow G 3 1 (.slice (some ⟨G, 0, none⟩) n n) n ((flN n (F k)).flatMap i64c) ∧ Below G w1 wr ∧ wr.cell? ⟨G + 1, 0, none⟩ = some (.slice (some ⟨G, 0, none⟩) n n) ∧ G + 1 < wr.heap.size
def Wk2 (F : Nat → Nat → Nat) (m n G : Nat) (w1 : World) (_ i : Value) (wr : World) : Prop := Wk F m n G w1 i wr
end Go.Proofs.Ytifpngjipkmdcaa
