/- The cells of the data, and what a reading of the row says of each of the program's types. -/
import Derived.Test.YtdmakcenfbfpaaaRows
import Derived.Test.YtdmakcenfbfpaaaOpen
import Derived.Test.YtdmakcenfbfpaaaData
namespace Go.Proofs.Ytdmakcenfbfpaaa
open Go.RowKit Go.ChangeShapes Go.WideShapes
set_option linter.unusedVariables false
set_option linter.unusedSimpArgs false
theorem i64_of {n : Int} (h : (Lit.int .i64 n).wf = true) : I64 n := by
  simpa [Lit.wf, IntKind.min, IntKind.max, IntKind.bits, IntKind.signed, I64] using h
theorem u64_of {n : Int} (h : (Lit.int .u64 n).wf = true) : 0 ≤ n ∧ n ≤ 18446744073709551615 := by
  simpa [Lit.wf, IntKind.min, IntKind.max, IntKind.bits, IntKind.signed] using h
theorem u8_of {n : Int} (h : (Lit.int .u8 n).wf = true) : 0 ≤ n ∧ n ≤ 255 := by
  simpa [Lit.wf, IntKind.min, IntKind.max, IntKind.bits, IntKind.signed] using h
/-- A slice of plain elements, as an argument: within the reach; its cells. -/
def Flat (w : World) (B bs sz : Nat) {α : Type} (cells : α → List Value) (A : Option Addr) (c : Nat) (l : List α) : Prop :=
  l.length ≤ c ∧ c * bs ≤ 140737488351232 ∧ (A = none → c = 0) ∧ Rd w B A sz l.length (l.flatMap cells)
theorem flatMap_get {α : Type} {cells : α → List Value} {sz : Nat} : ∀ {l : List α}, (∀ x ∈ l, (cells x).length = sz) → (l.flatMap cells).length = l.length * sz ∧ ∀ i x j u, l[i]? = some x → (cells x)[j]? = some u → (l.flatMap cells)[i * sz + j]? = some u
  | [], _ => ⟨by simp, fun i x j u h => by simp at h⟩
  | a :: l, h => by
    obtain ⟨h1, h2⟩ := flatMap_get (l := l) (fun x hx => h x (List.mem_cons_of_mem _ hx))
    have ha := h a (List.mem_cons_self ..)
    refine ⟨by simp only [List.flatMap_cons, List.length_append, h1, ha, List.length_cons, Nat.add_mul]; omega, fun i x j u hx hu => ?_⟩
    rw [List.flatMap_cons]
    cases i with
    | zero =>
      simp at hx
      subst hx
      have hj := (List.getElem?_eq_some_iff.1 hu).1
      rw [Nat.zero_mul, Nat.zero_add, List.getElem?_append_left hj]
      exact hu
    | succ i =>
      rw [List.getElem?_append_right (by rw [ha, Nat.add_mul]; omega), ha]
      have e : (i + 1) * sz + j - sz = i * sz + j := by rw [Nat.add_mul]; omega
      rw [e]
      exact h2 i x j u (by simpa using hx) hu
theorem flatMap_inv {α : Type} {cells : α → List Value} {sz : Nat} (hsz : 0 < sz) {l : List α} (h : ∀ x ∈ l, (cells x).length = sz) {k : Nat} {u : Value} (hu : (l.flatMap cells)[k]? = some u) : ∃ x, l[k / sz]? = some x ∧ (cells x)[k % sz]? = some u := by
  obtain ⟨h1, h2⟩ := flatMap_get h
  have hk : k < l.length * sz := by rw [← h1]; exact (List.getElem?_eq_some_iff.1 hu).1
  have hd : k / sz < l.length := Nat.div_lt_of_lt_mul (by rw [Nat.mul_comm]; exact hk)
  obtain ⟨x, hx⟩ : ∃ x, l[k / sz]? = some x := ⟨_, List.getElem?_eq_getElem hd⟩
  have hm := Nat.mod_lt k hsz
  have hlen := h x (List.mem_of_getElem? hx)
  obtain ⟨v, hv⟩ : ∃ v, (cells x)[k % sz]? = some v := ⟨_, List.getElem?_eq_getElem (by omega)⟩
  have := h2 _ x _ v hx hv
  have e : k / sz * sz + k % sz = k := by rw [Nat.mul_comm]; exact Nat.div_add_mod k sz
  rw [e, hu] at this
  exact ⟨x, hx, by rw [hv]; exact this.symm⟩
theorem flat_of {W : World} {sz bs : Nat} {α : Type} {R : List Value → α → Prop} {cells : α → List Value} {wf : α → Prop} (hsz : 0 < sz) (hR : ∀ cs x, R cs x → cs = cells x ∧ wf x) (hlen : ∀ x, (cells x).length = sz) {cs : List Value} {l : List α} (h : sliceR W sz bs R cs l) :
    ∃ A c, cs = [.slice A l.length c] ∧ Flat W W.heap.size bs sz cells A c l ∧ ∀ x ∈ l, wf x := by
  obtain ⟨A, c, rfl, h1, h2, h3, h4, h5⟩ := h
  refine ⟨A, c, rfl, ⟨h1, h2, h4, (flatMap_get (fun x _ => hlen x)).1, fun hn => ?_⟩, fun x hx => ?_⟩
  · obtain ⟨b, off, rfl, hb, hc⟩ := h5 hn
    refine ⟨b, off, rfl, hb, fun k u hu => ?_⟩
    obtain ⟨x, hx, hxu⟩ := flatMap_inv hsz (fun x _ => hlen x) hu
    obtain ⟨cs', _, hr, hcell⟩ := hc _ x hx
    obtain ⟨rfl, _⟩ := hR _ _ hr
    have := hcell _ u hxu
    have e : k / sz * sz + k % sz = k := by rw [Nat.mul_comm]; exact Nat.div_add_mod k sz
    rwa [e] at this
  · obtain ⟨i, hi, rfl⟩ := List.getElem_of_mem hx
    obtain ⟨b, off, rfl, hb, hc⟩ := h5 (by omega)
    obtain ⟨cs', _, hr, _⟩ := hc i _ (List.getElem?_eq_getElem hi)
    exact (hR _ _ hr).2
def u8c (n : Int) : List Value := [.int .u8 n]
def i64c (n : Int) : List Value := [.int .i64 n]
def slc (A : Option Addr) (n c : Nat) : List Value := [.slice A n c]
def Mail.cells (x : Mail) : List Value := [.int .i64 x.to, .int .i64 x.val]
def Edge.cells (x : Edge) : List Value := [.int .i64 x.src, .int .i64 x.dst, .int .i64 x.wt]
def Hop.cells (x : Hop) : List Value := [.int .i64 x.to, .int .i64 x.wt]
def Val.cells (x : Val) : List Value := [.int .i64 x.a, .int .i64 x.label]
def Move.cells (x : Move) : List Value := [.int .i64 x.kind, .int .i64 x.at_, .int .i64 x.keep]
def Ack.cells (x : Ack) : List Value := [.int .i64 x.epoch, .int .i64 x.no]
def Rcv.cells (x : Rcv) : List Value := [.int .i64 x.epoch, .int .i64 x.want]
def Packet.cells (x : Packet) : List Value := [.int .i64 x.epoch, .int .i64 x.no, .int .i64 x.load.to, .int .i64 x.load.val]
section
variable {H : Type} {enc : TypeId × Value → H} {W : World}
theorem opn_byte : Opn enc Try.prog W 5 (fun cs n => cs = u8c n ∧ 0 ≤ n ∧ n ≤ 255) := (opn_int Try.underlying5).mono fun _ n h => ⟨n, h.1, u8_of h.2⟩
theorem opn_i64 : Opn enc Try.prog W 3 (fun cs n => cs = i64c n ∧ I64 n) := (opn_int Try.underlying3).mono fun _ n h => ⟨n, h.1, i64_of h.2⟩
theorem opn_Mail : Opn enc Try.prog W 91 (fun cs (x : Mail) => cs = x.cells ∧ x.wf) :=
  (opn_struct Try.underlying91 (by kernel_rfl) (opnF_cons (n := 1) rfl (by kernel_rfl) opn_i64 (opnF_cons (n := 1) rfl (by kernel_rfl) opn_i64 opnF_nil))).mono (fun cs x h => by
    obtain ⟨a, b, _⟩ := x
    simp only [consR, nilR, i64c] at h
    obtain ⟨⟨h0, w0⟩, ⟨h1, w1⟩, hn⟩ := h
    refine ⟨⟨a, b⟩, ?_, w0, w1⟩
    rw [← List.take_append_drop 1 cs, h0, ← List.take_append_drop 1 (List.drop 1 cs), h1, hn]
    rfl)
theorem opn_Edge : Opn enc Try.prog W 87 (fun cs (x : Edge) => cs = x.cells ∧ x.wf) :=
  (opn_struct Try.underlying87 (by kernel_rfl) (opnF_cons (n := 1) rfl (by kernel_rfl) opn_i64 (opnF_cons (n := 1) rfl (by kernel_rfl) opn_i64 (opnF_cons (n := 1) rfl (by kernel_rfl) opn_i64 opnF_nil)))).mono (fun cs x h => by
    obtain ⟨a, b, c, _⟩ := x
    simp only [consR, nilR, i64c] at h
    obtain ⟨⟨h0, w0⟩, ⟨h1, w1⟩, ⟨h2, w2⟩, hn⟩ := h
    refine ⟨⟨a, b, c⟩, ?_, w0, w1, w2⟩
    rw [← List.take_append_drop 1 cs, h0, ← List.take_append_drop 1 (List.drop 1 cs), h1, ← List.take_append_drop 1 (List.drop 1 (List.drop 1 cs)), h2, hn]
    rfl)
theorem opn_Hop : Opn enc Try.prog W 84 (fun cs (x : Hop) => cs = x.cells ∧ x.wf) :=
  (opn_struct Try.underlying84 (by kernel_rfl) (opnF_cons (n := 1) rfl (by kernel_rfl) opn_i64 (opnF_cons (n := 1) rfl (by kernel_rfl) opn_i64 opnF_nil))).mono (fun cs x h => by
    obtain ⟨a, b, _⟩ := x
    simp only [consR, nilR, i64c] at h
    obtain ⟨⟨h0, w0⟩, ⟨h1, w1⟩, hn⟩ := h
    refine ⟨⟨a, b⟩, ?_, w0, w1⟩
    rw [← List.take_append_drop 1 cs, h0, ← List.take_append_drop 1 (List.drop 1 cs), h1, hn]
    rfl)
/-- A slice of plain elements that came in. -/
def FlatArg (W : World) (bs sz : Nat) {α : Type} (cells : α → List Value) (wf : α → Prop) (cs : List Value) (l : List α) : Prop :=
  ∃ A c, cs = [.slice A l.length c] ∧ Flat W W.heap.size bs sz cells A c l ∧ ∀ x ∈ l, wf x
theorem opn_flat {P : Program} {t e : TypeId} {sz bs : Nat} {α : Type} {cells : α → List Value} {wf : α → Prop} (ht : P.underlying t = some (.slice e)) (hc : P.cellsOf e = sz) (hb : P.bytesOf e = bs) (hsz : 0 < sz) (hlen : ∀ x, (cells x).length = sz)
    (he : Opn enc P W e (fun cs x => cs = cells x ∧ wf x)) : Opn enc P W t (FlatArg W bs sz cells wf) :=
  (opn_slice ht hc hb hsz he).mono fun cs l h => ⟨l, flat_of hsz (fun _ _ h => h) hlen h⟩
theorem glue {cs a b : List Value} {n : Nat} (h0 : cs.take n = a) (h1 : cs.drop n = b) : cs = a ++ b := by rw [← h0, ← h1, List.take_append_drop]
abbrev BytesArg (W : World) := FlatArg W 1 1 u8c (fun n => 0 ≤ n ∧ n ≤ 255)
theorem opn_bytes : Opn enc Try.prog W 25 (BytesArg W) := opn_flat Try.underlying25 (by kernel_rfl) (by kernel_rfl) (by decide) (fun _ => rfl) opn_byte
abbrev IntsArg (W : World) := FlatArg W 8 1 i64c I64
theorem opn_ints : Opn enc Try.prog W 43 (IntsArg W) := opn_flat Try.underlying43 (by kernel_rfl) (by kernel_rfl) (by decide) (fun _ => rfl) opn_i64
abbrev MailsArg (W : World) := FlatArg W 16 2 Mail.cells Mail.wf
theorem opn_mails : Opn enc Try.prog W 51 (MailsArg W) := opn_flat Try.underlying51 (by kernel_rfl) (by kernel_rfl) (by decide) (fun _ => rfl) opn_Mail
abbrev EdgesArg (W : World) := FlatArg W 24 3 Edge.cells Edge.wf
theorem opn_edges : Opn enc Try.prog W 39 (EdgesArg W) := opn_flat Try.underlying39 (by kernel_rfl) (by kernel_rfl) (by decide) (fun _ => rfl) opn_Edge
abbrev MovesArg (W : World) := FlatArg W 24 3 Move.cells Move.wf
abbrev ValsArg (W : World) := FlatArg W 16 2 Val.cells Val.wf
def GraphArg (W : World) (cs : List Value) (g : Graph) : Prop :=
  ∃ A c, cs = [.int .i64 g.n, .slice A g.edges.length c] ∧ I64 g.n ∧ Flat W W.heap.size 24 3 Edge.cells A c g.edges ∧ ∀ x ∈ g.edges, x.wf
theorem opn_Graph : Opn enc Try.prog W 41 (GraphArg W) :=
  (opn_struct Try.underlying41 (by kernel_rfl) (opnF_cons (n := 1) rfl (by kernel_rfl) opn_i64 (opnF_cons (n := 1) rfl (by kernel_rfl) opn_edges opnF_nil))).mono (fun cs x h => by
    obtain ⟨a, b, _⟩ := x
    obtain ⟨⟨h0, w0⟩, ⟨A, c, h1, w1, w2⟩, hn⟩ := h
    exact ⟨⟨a, b⟩, A, c, glue h0 (glue h1 hn), w0, w1, w2⟩)
def JobArg (W : World) (cs : List Value) (j : Job) : Prop :=
  ∃ A c, cs = [.int .i64 j.graph.n, .slice A j.graph.edges.length c, .int .i64 j.kind, .int .i64 j.source] ∧ I64 j.graph.n ∧ Flat W W.heap.size 24 3 Edge.cells A c j.graph.edges ∧ (∀ x ∈ j.graph.edges, x.wf) ∧ I64 j.kind ∧ I64 j.source
def TaskArg (W : World) (cs : List Value) (t : Task) : Prop :=
  ∃ A c, cs = [.int .i64 t.job.graph.n, .slice A t.job.graph.edges.length c, .int .i64 t.job.kind, .int .i64 t.job.source, .int .i64 t.workers, .int .i64 t.every, .int .i64 t.budget] ∧ I64 t.job.graph.n ∧ Flat W W.heap.size 24 3 Edge.cells A c t.job.graph.edges ∧ (∀ x ∈ t.job.graph.edges, x.wf) ∧ I64 t.job.kind ∧ I64 t.job.source ∧ I64 t.workers ∧ I64 t.every ∧ I64 t.budget
def SenderArg (W : World) (cs : List Value) (s : Sender) : Prop :=
  ∃ A c, cs = [.int .i64 s.epoch, .int .i64 s.base, .slice A s.loads.length c] ∧ I64 s.epoch ∧ I64 s.base ∧ Flat W W.heap.size 16 2 Mail.cells A c s.loads ∧ ∀ x ∈ s.loads, x.wf
end
end Go.Proofs.Ytdmakcenfbfpaaa
