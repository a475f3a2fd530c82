/- Arguments opened: what a reading of the row says of a value, type by type. No program in sight. -/
import Derived.Test.YtdmakcenfbfpaaaLib
import Derived.SizedLaws
import Derived.Deep.Slices
namespace Go.Proofs.Ytdmakcenfbfpaaa
open Go.RowKit Go.ChangeShapes Go.WideShapes

/-- What is read at type 't' (within the reach) is told by 'R'. -/
def Opn {H : Type} (enc : TypeId × Value → H) (P : Program) (W : World) (t : TypeId) {α : Type} (R : List Value → α → Prop) : Prop :=
  ∀ (fuel : Nat) (cs : List Value) (x : DataW H × List MemPlace), DataW.trod enc P W 0 (fun _ => true) true fuel t cs = some x → (∀ n ∈ x.1.weights P t, n ≤ reachBytes) → ∃ a : α, R cs a

section
variable {H : Type} {enc : TypeId × Value → H} {P : Program} {W : World}

def intR (k : IntKind) (cs : List Value) (n : Int) : Prop := cs = [.int k n] ∧ (Lit.int k n).wf = true
def boolR (cs : List Value) (b : Bool) : Prop := cs = [.bool b]
def strR (cs : List Value) (s : ByteArray) : Prop := cs = [.string s] ∧ s.size ≤ 140737488351232

theorem opn_int {t : TypeId} {k : IntKind} (ht : P.underlying t = some (.int k)) : Opn enc P W t (intR k) := by
  intro fuel cs x h _
  obtain ⟨n, rfl, _, hw⟩ := DataW.trod_int ht h
  exact ⟨n, rfl, hw⟩
theorem opn_bool {t : TypeId} (ht : P.underlying t = some .bool) : Opn enc P W t boolR := by
  intro fuel cs x h _
  obtain ⟨b, rfl, _⟩ := DataW.trod_bool ht h
  exact ⟨b, rfl⟩
theorem opn_string {t : TypeId} (ht : P.underlying t = some .string) : Opn enc P W t strR := by
  intro fuel cs x h hw
  obtain ⟨s, rfl, rfl, _⟩ := DataW.trod_string ht h
  refine ⟨s, rfl, ?_⟩
  have := hw s.data.toList.length (by simp [DataW.weights])
  simpa [reachBytes] using this

/-- A slice: its elements' cells, each told by 'R'; its capacity times 'bs' bytes within the reach. -/
def sliceR (W : World) (sz bs : Nat) {α : Type} (R : List Value → α → Prop) (cs : List Value) (l : List α) : Prop :=
  ∃ A c, cs = [.slice A l.length c] ∧ l.length ≤ c ∧ c * bs ≤ 140737488351232 ∧ c ≤ maxLen ∧ (A = none → c = 0) ∧
    (0 < l.length → ∃ b off, A = some ⟨b, off, none⟩ ∧ b < W.heap.size ∧ ∀ i x, l[i]? = some x → ∃ cs', cs'.length = sz ∧ R cs' x ∧ ∀ j u, cs'[j]? = some u → W.cell? ⟨b, off + (i * sz + j), none⟩ = some u)

theorem choose_list {α : Type} (n : Nat) (p : Nat → α → Prop) (h : ∀ i, i < n → ∃ a, p i a) : ∃ l : List α, l.length = n ∧ ∀ i x, l[i]? = some x → p i x := by
  induction n with
  | zero => exact ⟨[], rfl, fun i x hx => by simp at hx⟩
  | succ n ih =>
    obtain ⟨l, hl, hp⟩ := ih (fun i hi => h i (by omega))
    obtain ⟨a, ha⟩ := h n (by omega)
    refine ⟨l ++ [a], by simp [hl], fun i x hx => ?_⟩
    by_cases hi : i < n
    · rw [List.getElem?_append_left (by omega)] at hx
      exact hp i x hx
    · rw [List.getElem?_append_right (by omega)] at hx
      by_cases e : i = n
      · subst e
        simp [hl] at hx
        subst hx
        exact ha
      · rw [List.getElem?_eq_none (by simp; omega)] at hx
        cases hx

theorem weights_mem_all {t : TypeId} : ∀ {ds : List (DataW H)} {d : DataW H}, d ∈ ds → ∀ n ∈ d.weights P t, n ∈ DataW.weightsAll P t ds
  | [], d, h, _, _ => by cases h
  | d0 :: ds, d, h, n, hn => by
    simp only [DataW.weightsAll, List.mem_append]
    rcases List.mem_cons.1 h with rfl | h
    · exact .inl hn
    · exact .inr (weights_mem_all h n hn)

theorem opn_slice {t e : TypeId} {sz bs : Nat} {α : Type} {R : List Value → α → Prop} (ht : P.underlying t = some (.slice e)) (hc : P.cellsOf e = sz) (hb : P.bytesOf e = bs) (hsz : 0 < sz) (he : Opn enc P W e R) :
    Opn enc P W t (sliceR W sz bs R) := by
  intro fuel cs x h hw
  rcases Go.Deep.open_slice ht h with ⟨rfl, rfl⟩ | ⟨a, len, cap, m, n, D, Pl, rfl, _, hl, hm, hmm, rfl, hi⟩
  · exact ⟨[], none, 0, rfl, by simp, by omega, by simp [maxLen], fun _ => rfl, fun h => absurd h (by simp)⟩
  · have hm' : m = cap := by simpa using hmm
    have hbytes : cap * bs ≤ 140737488351232 := by
      have := hw ((len + (m - len)) * bs) (by simp [DataW.weights, ht, hb])
      rw [hm'] at this
      have e : len + (cap - len) = cap := by omega
      rw [e] at this
      simpa [reachBytes] using this
    have hel : ∀ i, i < len → ∃ v : α, ∃ cs', W.cells? 0 (a.add (i * P.cellsOf e)) (P.cellsOf e) = some cs' ∧ R cs' v := by
      intro i hil
      obtain ⟨cs', h1, h2⟩ := hi i (by omega)
      obtain ⟨v, hv⟩ := he _ _ _ h2 (fun k hk => hw k (by
        simp only [DataW.weights, ht, List.mem_cons, List.mem_append]
        right; left
        exact weights_mem_all (by simp; exact ⟨i, hil, rfl⟩) k hk))
      exact ⟨v, cs', h1, hv⟩
    obtain ⟨l, hll, hp⟩ := choose_list len _ hel
    refine ⟨l, some a, cap, by rw [hll], by omega, hbytes, hm, (by intro h; cases h), fun h0 => ?_⟩
    obtain ⟨x0, hx0⟩ : ∃ x, l[0]? = some x := ⟨_, List.getElem?_eq_getElem (by omega)⟩
    obtain ⟨cs0, hc0, _⟩ := hp 0 x0 hx0
    obtain ⟨_, hcl0, hat0⟩ := World.cells?_some hc0
    have hcell0 := hat0 0 (by omega)
    obtain ⟨b, off, spot⟩ := a
    have hs0 : W.cell? ⟨b, off, spot⟩ ≠ none := by
      have e0 : (⟨b, off, spot⟩ : Addr).add (0 * P.cellsOf e + 0) = ⟨b, off, spot⟩ := by simp [Addr.add]
      have : ((⟨b, off, spot⟩ : Addr).add (0 * P.cellsOf e)).add 0 = ⟨b, off, spot⟩ := by simp [Addr.add]
      rw [this] at hcell0
      rw [hcell0, List.getElem?_eq_getElem (by omega)]
      simp
    obtain ⟨u0, hu0⟩ := Option.ne_none_iff_exists'.1 hs0
    have hspot : spot = none := by simpa using World.cell?_spot hu0
    subst hspot
    refine ⟨b, off, rfl, World.block_lt_of_cell? W _ hu0, fun i x hx => ?_⟩
    obtain ⟨cs', hcc, hR⟩ := hp i x hx
    obtain ⟨_, hcl, hat⟩ := World.cells?_some hcc
    refine ⟨cs', by rw [hcl, hc], hR, fun j u hu => ?_⟩
    have hj : j < P.cellsOf e := by rw [← hcl]; exact (List.getElem?_eq_some_iff.1 hu).1
    have := hat j hj
    rw [addr_add, addr_add, hc] at this
    rw [← Nat.add_assoc, this, hu]

/-- A struct's fields, one behind the other. -/
def OpnF (enc : TypeId × Value → H) (P : Program) (W : World) (fs : List Field) (off : Nat) {α : Type} (R : List Value → α → Prop) : Prop :=
  ∀ (fuel : Nat) (cs : List Value) (xs : List (DataW H × List MemPlace)), xs.length = fs.length →
    (∀ (i : Nat) (f : Field), fs[i]? = some f → DataW.trod enc P W 0 (fun _ => true) true fuel f.type ((cs.drop f.offset).take (P.cellsOf f.type)) = xs[i]?) →
    cs.length = off + (fs.map fun f => P.cellsOf f.type).sum →
    (∀ n ∈ DataW.weightsEach P (fs.map (·.type)) (xs.map (·.1)), n ≤ reachBytes) → ∃ a : α, R (cs.drop off) a

def nilR (cs : List Value) (_ : Unit) : Prop := cs = []
def consR {α β : Type} (n : Nat) (R : List Value → α → Prop) (S : List Value → β → Prop) (cs : List Value) (a : α × β) : Prop := R (cs.take n) a.1 ∧ S (cs.drop n) a.2

theorem opnF_nil {off : Nat} : OpnF enc P W [] off nilR := by
  intro fuel cs xs _ _ hl _
  exact ⟨(), List.drop_eq_nil_of_le (by simp at hl; omega)⟩
theorem opnF_cons {f : Field} {fs : List Field} {off n : Nat} {α β : Type} {R : List Value → α → Prop} {S : List Value → β → Prop} (ho : f.offset = off) (hn : P.cellsOf f.type = n)
    (h0 : Opn enc P W f.type R) (h1 : OpnF enc P W fs (off + n) S) : OpnF enc P W (f :: fs) off (consR n R S) := by
  intro fuel cs xs hx ht hl hw
  match xs, hx with
  | x :: xs, hx =>
    have t0 := ht 0 f rfl
    rw [ho, hn] at t0
    obtain ⟨a, ha⟩ := h0 _ _ _ t0 (fun k hk => hw k (by simp only [List.map_cons, DataW.weightsEach, List.mem_append]; exact .inl hk))
    obtain ⟨b, hb⟩ := h1 fuel cs xs (by simpa using hx) (fun i g hg => by simpa using ht (i + 1) g (by simpa using hg)) (by simp only [List.map_cons, List.sum_cons, hn] at hl; omega)
      (fun k hk => hw k (by simp only [List.map_cons, DataW.weightsEach, List.mem_append]; exact .inr hk))
    exact ⟨(a, b), ha, by rw [List.drop_drop]; exact hb⟩
theorem opn_struct {t : TypeId} {fs : Array Field} {α : Type} {R : List Value → α → Prop} (ht : P.underlying t = some (.struct fs)) (hc : P.cellsOf t = (fs.toList.map fun f => P.cellsOf f.type).sum) (h : OpnF enc P W fs.toList 0 R) : Opn enc P W t R := by
  intro fuel cs x hx hw
  obtain ⟨xs, n, rfl, rfl, hcl, hxl, hat⟩ := DataW.trod_struct ht hx
  obtain ⟨a, ha⟩ := h n cs xs (by simpa using hxl) (fun i f hf => hat i f (by simpa using hf)) (by rw [hcl, hc]; omega) (fun k hk => hw k (by simpa [DataW.weights, ht] using hk))
  exact ⟨a, by simpa using ha⟩
theorem Opn.mono {t : TypeId} {α β : Type} {R : List Value → α → Prop} {S : List Value → β → Prop} (h : Opn enc P W t R) (hs : ∀ cs a, R cs a → ∃ b, S cs b) : Opn enc P W t S := by
  intro fuel cs x hx hw
  obtain ⟨a, ha⟩ := h fuel cs x hx hw
  exact hs cs a ha
/-- From a row's argument to what it says. -/
theorem Opn.arg {t : TypeId} {α : Type} {R : List Value → α → Prop} (h : Opn enc P W t R) {v : Value} {d : DataW H} {p : List MemPlace} (ht : DataW.Trod enc P W 0 (fun _ => true) true t v d p)
    {ts : List TypeId} {ds : List (DataW H)} {j : Nat} (hsz : (DataW.weightsEach P ts ds).all (· ≤ reachBytes) = true) (htj : ts[j]? = some t) (hdj : ds[j]? = some d) : ∃ a : α, R v.cells.toList a := by
  obtain ⟨fuel, hf⟩ := ht
  exact h fuel _ _ hf (fun n hn => by simpa using List.all_eq_true.1 hsz n (DataW.weights_mem_each htj hdj n hn))
end
end Go.Proofs.Ytdmakcenfbfpaaa
