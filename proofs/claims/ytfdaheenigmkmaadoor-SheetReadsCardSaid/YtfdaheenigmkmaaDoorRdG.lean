/- Plain: graphs of texts. -/
import Derived.Test.YtfdaheenigmkmaaDoorRdM
import Derived.Test.YtfdaheenigmkmaaDoorShtS
namespace Go.Proofs.YtfdaheenigmkmaaDoor
set_option linter.unusedVariables false
set_option linter.unusedSimpArgs false
/-- The numbers of a line; what is none is -1. -/
def numV (w : List UInt8) : Int := match Lib.atoiAll w with | .ok v => v | _ => -1
def numsL (line : List UInt8) : List Int := (splitL (trimL line)).map numV
/-- What the program makes of a line behind the first one. -/
def addE (es : List Edge) (ns : List Int) : List Edge := if ns.length = 3 then es ++ [⟨ns.getD 0 0, ns.getD 1 0, ns.getD 2 0⟩] else es
def stepG (s : Bool × Graph) (line : List UInt8) : Bool × Graph := if s.1 then (false, ⟨(numsL line).headD 0, s.2.edges⟩) else (false, ⟨s.2.n, addE s.2.edges (numsL line)⟩)
def progG (lines : List (List UInt8)) : Bool × Graph := lines.foldl stepG (true, ⟨0, []⟩)
theorem progG_snoc (pre : List (List UInt8)) (x : List UInt8) : progG (pre ++ [x]) = stepG (progG pre) x := by unfold progG; rw [List.foldl_append]; rfl
noncomputable def readG (t : List UInt8) : Graph × Int := if 20000 < t.length then (⟨0, []⟩, 1) else if showG (progG (linesL t)).2 = (⟨t.toArray⟩, 0) then ((progG (linesL t)).2, 0) else (⟨0, []⟩, 3)
/-- A number that ends at a byte: what the document reads; i digits of it have come, the first one is c0. -/
def numF (c0 e : UInt8) : Nat → Nat → List UInt8 → Option (Nat × List UInt8)
  | _, _, [] => none
  | i, acc, c :: r => if c = e ∧ 0 < i ∧ (c0 ≠ 48 ∨ i = 1) then some (acc, r) else if c.toNat < 48 ∨ 57 < c.toNat ∨ 17 < i then none else numF c0 e (i + 1) (10 * acc + (c.toNat - 48)) r
def numberL (l : List UInt8) (e : UInt8) : Option (Nat × List UInt8) := numF (l.headD 0) e 0 0 l
/-- It reads just what is a number in digits. -/
theorem numF_dd {c0 e : UInt8} (he : ¬ (48 ≤ e.toNat ∧ e.toNat ≤ 57)) : ∀ (n : Nat) (r : List UInt8), (dd n).length ≤ 18 → numF c0 e 0 0 (dd n ++ r) = numF c0 e (dd n).length n r := by
  intro n
  induction n using Nat.strongRecOn with
  | _ n ih =>
    intro r hl
    by_cases h : n < 10
    · rw [dd_small h]
      show (if UInt8.ofNat (48 + n) = e ∧ 0 < 0 ∧ (c0 ≠ 48 ∨ 0 = 1) then _ else _) = _
      rw [if_neg (by omega), dig_nat h, if_neg (by omega)]
      show numF c0 e 1 (10 * 0 + (48 + n - 48)) r = numF c0 e 1 n r
      congr 1; omega
    · have h2 := dd_big h
      have hl2 : (dd n).length = (dd (n / 10)).length + 1 := by rw [h2]; simp
      rw [hl2]
      rw [h2, List.append_assoc, ih (n / 10) (by omega) _ (by omega)]
      show (if UInt8.ofNat (48 + n % 10) = e ∧ _ then _ else _) = _
      rw [if_neg (fun hh => he (by rw [← hh.1, dig_nat (by omega)]; omega)), dig_nat (by omega), if_neg (by omega)]
      show numF c0 e ((dd (n / 10)).length + 1) (10 * (n / 10) + (48 + n % 10 - 48)) r = _
      congr 1; omega
theorem dd_len_pos2 {n : Nat} (h : (dd n)[0]? = some 48) : n = 0 := by
  by_cases h0 : n = 0
  · exact h0
  · exact absurd h (dd_head n (by omega))
theorem numberL_dd {e : UInt8} (he : ¬ (48 ≤ e.toNat ∧ e.toNat ≤ 57)) (n : Nat) (r : List UInt8) (hl : (dd n).length ≤ 18) : numberL (dd n ++ e :: r) e = some (n, r) := by
  unfold numberL
  rw [numF_dd he n _ hl]
  show (if e = e ∧ 0 < (dd n).length ∧ ((dd n ++ e :: r).headD 0 ≠ 48 ∨ (dd n).length = 1) then _ else _) = _
  rw [if_pos]
  refine ⟨rfl, dd_pos n, ?_⟩
  by_cases h1 : (dd n).length = 1
  · exact .inr h1
  · refine .inl fun hh => ?_
    have hp := dd_pos n
    have h2 : (dd n)[0]? = some 48 := by
      cases hd : dd n with
      | nil => rw [hd] at hp; simp at hp
      | cons a b => rw [hd] at hh; simpa using hh
    have h3 := dd_len_pos2 h2
    subst h3
    exact h1 (by rw [dd_small (by decide)]; rfl)
theorem numF_inv {c0 e : UInt8} (hc0 : c0 ≠ 48) : ∀ (l : List UInt8) (i acc n : Nat) (r : List UInt8), 1 ≤ acc → 0 < i → numF c0 e i acc l = some (n, r) → ∃ d, l = d ++ e :: r ∧ dd n = dd acc ++ d
  | [], i, acc, n, r, ha, hi, h => by cases h
  | c :: l, i, acc, n, r, ha, hi, h => by
    unfold numF at h
    by_cases h1 : c = e ∧ 0 < i ∧ (c0 ≠ 48 ∨ i = 1)
    · rw [if_pos h1] at h
      simp only [Option.some.injEq, Prod.mk.injEq] at h
      obtain ⟨rfl, rfl⟩ := h
      exact ⟨[], by rw [h1.1]; rfl, by simp⟩
    · rw [if_neg h1] at h
      by_cases h2 : c.toNat < 48 ∨ 57 < c.toNat ∨ 17 < i
      · rw [if_pos h2] at h; cases h
      · rw [if_neg h2] at h
        obtain ⟨d, h3, h4⟩ := numF_inv hc0 l (i + 1) _ n r (by omega) (by omega) h
        refine ⟨c :: d, by rw [h3]; rfl, ?_⟩
        rw [h4, dd_step ha (by omega), ← dig_of (by omega) (by omega)]; simp
theorem numberL_inv {e : UInt8} {l : List UInt8} {n : Nat} {r : List UInt8} (h : numberL l e = some (n, r)) : l = dd n ++ e :: r := by
  unfold numberL at h
  cases l with
  | nil => cases h
  | cons c l =>
    unfold numF at h
    rw [if_neg (by omega)] at h
    by_cases h2 : c.toNat < 48 ∨ 57 < c.toNat ∨ 17 < 0
    · rw [if_pos h2] at h; cases h
    · rw [if_neg h2] at h
      simp only [List.headD_cons] at h
      by_cases h48 : c = 48
      · subst h48
        cases l with
        | nil => cases h
        | cons c2 l =>
          unfold numF at h
          by_cases h3 : c2 = e ∧ 0 < 0 + 1 ∧ ((48 : UInt8) ≠ 48 ∨ 0 + 1 = 1)
          · rw [if_pos h3] at h
            simp only [Option.some.injEq, Prod.mk.injEq] at h
            obtain ⟨rfl, rfl⟩ := h
            rw [h3.1, show 10 * 0 + (UInt8.toNat 48 - 48) = 0 from rfl, dd_small (by decide)]; rfl
          · rw [if_neg h3] at h
            have : ∀ (l : List UInt8) (i acc : Nat), 1 < i → numF 48 e i acc l = none := by
              intro l
              induction l with
              | nil => intro i acc hi; rfl
              | cons a l ih =>
                intro i acc hi
                unfold numF
                rw [if_neg (by rintro ⟨_, _, h | h⟩; exact h rfl; omega)]
                split
                · rfl
                · exact ih _ _ (by omega)
            split at h
            · cases h
            · rw [this l _ _ (by omega)] at h; cases h
      · have ha : 1 ≤ 10 * 0 + (c.toNat - 48) := by
          have : c.toNat ≠ 48 := fun hh => h48 (UInt8.toNat_inj.1 hh)
          omega
        obtain ⟨d, h3, h4⟩ := numF_inv h48 l 1 _ n r ha (by omega) h
        rw [h3, h4, dd_small (by omega), show 48 + (10 * 0 + (c.toNat - 48)) = 48 + (c.toNat - 48) by omega, ← dig_of (by omega) (by omega)]; rfl
theorem numberL_short {e : UInt8} {l : List UInt8} {n : Nat} {r : List UInt8} (h : numberL l e = some (n, r)) : r.length < l.length := by
  rw [numberL_inv h, List.length_append, List.length_cons]; omega
/-- What the document reads behind the first line. -/
def edgesF : Nat → List UInt8 → Option (List Edge)
  | 0, _ => none
  | f + 1, l => if l = [] then some [] else
    match numberL l 32 with
    | none => none
    | some (a, l1) => match numberL l1 32 with
      | none => none
      | some (b, l2) => match numberL l2 10 with
        | none => none
        | some (w, l3) => (edgesF f l3).map fun es => ⟨a, b, w⟩ :: es
noncomputable def docG (t : List UInt8) : Graph × Int := if 20000 < t.length then (⟨0, []⟩, 1) else
  match numberL t 10 with
  | none => (⟨0, []⟩, 3)
  | some (n, r) => match edgesF (r.length + 1) r with
    | none => (⟨0, []⟩, 3)
    | some es => if graphV ⟨n, es⟩ = 0 then (⟨n, es⟩, 0) else (⟨0, []⟩, 3)
/-- The text of a list of edges. -/
def edgesT (es : List Edge) : List UInt8 := es.flatMap fun e => lineG (edgeNs e)
theorem lineG1 (n : Nat) : lineG [n] = dd n ++ [10] := by simp [lineG, partL]
theorem lineG3 (a b c : Nat) : lineG [a, b, c] = dd a ++ 32 :: (dd b ++ 32 :: (dd c ++ [10])) := by simp [lineG, partL]
theorem textG_all (g : Graph) : textG g g.edges.length = dd g.n.toNat ++ 10 :: edgesT g.edges := by
  unfold textG edgesT; rw [List.take_length, lineG1]; simp
def okE (e : Edge) : Prop := 0 ≤ e.src ∧ 0 ≤ e.dst ∧ 0 ≤ e.wt ∧ e.src ≤ 1099511627776 ∧ e.dst ≤ 1099511627776 ∧ e.wt ≤ 1099511627776
theorem dd_18 {n : Nat} (h : n ≤ 1099511627776) : (dd n).length ≤ 18 := by
  have : ∀ (d n : Nat), n < 10 ^ (d + 1) → (dd n).length ≤ d + 1 := by
    intro d
    induction d with
    | zero => intro n h; rw [dd_small (by simpa using h)]; simp
    | succ d ih =>
      intro n h
      by_cases h1 : n < 10
      · rw [dd_small h1]; simp
      · rw [dd_big h1, List.length_append]
        have := ih (n / 10) (by rw [Nat.div_lt_iff_lt_mul (by decide)]; rw [Nat.pow_succ] at h; exact h)
        simp; omega
  exact this 17 n (Nat.lt_of_le_of_lt h (by decide))
theorem not_dig32 : ¬ (48 ≤ (32 : UInt8).toNat ∧ (32 : UInt8).toNat ≤ 57) := by decide
theorem not_dig10 : ¬ (48 ≤ (10 : UInt8).toNat ∧ (10 : UInt8).toNat ≤ 57) := by decide
theorem edgesF_text : ∀ (es : List Edge), (∀ e ∈ es, okE e) → ∀ f, (edgesT es).length < f → edgesF f (edgesT es) = some es
  | [], _, f, hf => by
    cases f with
    | zero => omega
    | succ f => unfold edgesF; rw [if_pos (by rfl)]
  | e :: es, h, f, hf => by
    obtain ⟨h1, h2, h3, h4, h5, h6⟩ := h e (by simp)
    have e0 : edgesT (e :: es) = dd e.src.toNat ++ 32 :: (dd e.dst.toNat ++ 32 :: (dd e.wt.toNat ++ 10 :: edgesT es)) := by
      unfold edgesT; rw [List.flatMap_cons]
      show lineG [e.src.toNat, e.dst.toNat, e.wt.toNat] ++ _ = _
      rw [lineG3]; simp
    cases f with
    | zero => omega
    | succ f =>
      have hlen : (edgesT es).length < f := by
        rw [e0] at hf
        simp only [List.length_append, List.length_cons] at hf
        omega
      have ih := edgesF_text es (fun x hx => h x (by simp [hx])) f hlen
      rw [e0]
      unfold edgesF
      rw [if_neg (by simp), numberL_dd not_dig32 _ _ (dd_18 (by omega))]
      dsimp only
      rw [numberL_dd not_dig32 _ _ (dd_18 (by omega))]
      dsimp only
      rw [numberL_dd not_dig10 _ _ (dd_18 (by omega))]
      dsimp only
      rw [ih]
      show some (_ :: es) = _
      congr 2
      obtain ⟨a, b, c⟩ := e
      simp only [Edge.mk.injEq]
      dsimp only at h1 h2 h3
      exact ⟨by omega, by omega, by omega⟩
theorem edgesF_inv : ∀ (f : Nat) (l : List UInt8) (es : List Edge), edgesF f l = some es → l = edgesT es ∧ ∀ e ∈ es, 0 ≤ e.src ∧ 0 ≤ e.dst ∧ 0 ≤ e.wt
  | 0, l, es, h => by cases h
  | f + 1, l, es, h => by
    unfold edgesF at h
    by_cases h0 : l = []
    · rw [if_pos h0] at h
      simp only [Option.some.injEq] at h
      subst h; subst h0
      exact ⟨rfl, fun e he => by cases he⟩
    · rw [if_neg h0] at h
      cases h1 : numberL l 32 with
      | none => rw [h1] at h; cases h
      | some x =>
        obtain ⟨a, l1⟩ := x
        rw [h1] at h; dsimp only at h
        cases h2 : numberL l1 32 with
        | none => rw [h2] at h; cases h
        | some x =>
          obtain ⟨b, l2⟩ := x
          rw [h2] at h; dsimp only at h
          cases h3 : numberL l2 10 with
          | none => rw [h3] at h; cases h
          | some x =>
            obtain ⟨c, l3⟩ := x
            rw [h3] at h; dsimp only at h
            cases h4 : edgesF f l3 with
            | none => rw [h4] at h; cases h
            | some es' =>
              rw [h4] at h
              simp only [Option.map_some, Option.some.injEq] at h
              obtain ⟨i1, i2⟩ := edgesF_inv f l3 es' h4
              subst h
              refine ⟨?_, fun e he => ?_⟩
              · rw [numberL_inv h1, numberL_inv h2, numberL_inv h3, i1]
                show _ = lineG [((a : Int)).toNat, ((b : Int)).toNat, ((c : Int)).toNat] ++ edgesT es'
                rw [lineG3]; simp
              · rcases List.mem_cons.1 he with rfl | he
                · exact ⟨Int.natCast_nonneg _, Int.natCast_nonneg _, Int.natCast_nonneg _⟩
                · exact i2 e he
theorem graph_okE {g : Graph} (h : graphV g = 0) : (0 ≤ g.n ∧ g.n ≤ 200) ∧ ∀ e ∈ g.edges, okE e := by
  obtain ⟨hfit, hE⟩ := graphV_ok.1 h
  refine ⟨⟨hfit.1, hfit.2.1⟩, fun e he => ?_⟩
  have h9 := hE e he
  have := hfit.2.1
  unfold edgeOk at h9
  exact ⟨by omega, by omega, by omega, by omega, by omega, by omega⟩
theorem showG_ok {g : Graph} (h : graphV g = 0) : showG g = (⟨(dd g.n.toNat ++ 10 :: edgesT g.edges).toArray⟩, 0) := by
  unfold showG; rw [if_neg (by simpa using h), textG_all]
theorem showG_inv {g : Graph} {t : List UInt8} (h : showG g = (⟨t.toArray⟩, 0)) : graphV g = 0 ∧ t = dd g.n.toNat ++ 10 :: edgesT g.edges := by
  by_cases h0 : graphV g = 0
  · rw [showG_ok h0] at h
    have := congrArg (fun x : ByteArray × Int => x.1.data.toList) h
    exact ⟨h0, by simpa using this.symm⟩
  · unfold showG at h
    rw [if_pos h0] at h
    exact absurd (congrArg Prod.snd h) h0
/-- Both texts: where the text is a graph's, that graph. -/
theorem docG_of {g : Graph} {t : List UInt8} (hs : t.length ≤ 20000) (h : showG g = (⟨t.toArray⟩, 0)) : docG t = (g, 0) := by
  obtain ⟨h0, rfl⟩ := showG_inv h
  obtain ⟨⟨n0, n1⟩, hE⟩ := graph_okE h0
  unfold docG
  rw [if_neg (by omega), numberL_dd not_dig10 _ _ (dd_18 (by omega))]
  dsimp only
  rw [edgesF_text g.edges hE _ (by omega)]
  dsimp only
  have e : ((g.n.toNat : Nat) : Int) = g.n := by omega
  rw [e]
  show (if graphV g = 0 then _ else _) = _
  rw [if_pos h0]
theorem docG_cases {t : List UInt8} (hs : t.length ≤ 20000) : (∃ g, showG g = (⟨t.toArray⟩, 0) ∧ docG t = (g, 0)) ∨ ((∀ g, showG g ≠ (⟨t.toArray⟩, 0)) ∧ docG t = (⟨0, []⟩, 3)) := by
  by_cases h : ∃ g, showG g = (⟨t.toArray⟩, 0)
  · obtain ⟨g, h⟩ := h
    exact .inl ⟨g, h, docG_of hs h⟩
  · refine .inr ⟨fun g hg => h ⟨g, hg⟩, ?_⟩
    unfold docG
    rw [if_neg (by omega)]
    cases h1 : numberL t 10 with
    | none => rfl
    | some x =>
      obtain ⟨n, r⟩ := x
      dsimp only
      cases h2 : edgesF (r.length + 1) r with
      | none => rfl
      | some es =>
        dsimp only
        by_cases h3 : graphV ⟨n, es⟩ = 0
        · refine absurd ⟨⟨n, es⟩, ?_⟩ h
          rw [showG_ok h3]
          congr 2
          have := numberL_inv h1
          rw [(edgesF_inv _ _ _ h2).1] at this
          rw [this]; simp
        · rw [if_neg h3]
theorem numV_dd {n : Nat} (h : n ≤ 1152921504606846976) : numV (dd n) = n := by unfold numV; rw [atoi_dd h]
theorem numsL_one {n : Nat} (h : n ≤ 1099511627776) : numsL (dd n ++ [10]) = [(n : Int)] := by
  unfold numsL; rw [trim_nl, splitL_none (dd_no32 n), List.map_singleton, numV_dd (by omega)]
theorem numsL_three {a b c : Nat} (ha : a ≤ 1099511627776) (hb : b ≤ 1099511627776) (hc : c ≤ 1099511627776) : numsL ((dd a ++ 32 :: (dd b ++ 32 :: dd c)) ++ [10]) = [(a : Int), (b : Int), (c : Int)] := by
  unfold numsL; rw [trim_nl, splitL_cut (dd_no32 a), splitL_cut (dd_no32 b), splitL_none (dd_no32 c)]
  simp [numV_dd (show a ≤ 1152921504606846976 by omega), numV_dd (show b ≤ 1152921504606846976 by omega), numV_dd (show c ≤ 1152921504606846976 by omega)]
theorem prog_edges : ∀ (es done : List Edge) (n : Int), (∀ e ∈ es, okE e) → (linesL (edgesT es)).foldl stepG (false, ⟨n, done⟩) = (false, ⟨n, done ++ es⟩)
  | [], done, n, _ => by show (false, (⟨n, done⟩ : Graph)) = _; rw [List.append_nil]
  | e :: es, done, n, h => by
    obtain ⟨h1, h2, h3, h4, h5, h6⟩ := h e (by simp)
    have e0 : edgesT (e :: es) = (dd e.src.toNat ++ 32 :: (dd e.dst.toNat ++ 32 :: dd e.wt.toNat)) ++ 10 :: edgesT es := by
      unfold edgesT; rw [List.flatMap_cons]
      show lineG [e.src.toNat, e.dst.toNat, e.wt.toNat] ++ _ = _
      rw [lineG3]; simp
    have no : (10 : UInt8) ∉ dd e.src.toNat ++ 32 :: (dd e.dst.toNat ++ 32 :: dd e.wt.toNat) := by
      simp only [List.mem_append, List.mem_cons, not_or]
      exact ⟨dd_no10 _, (show ¬ (10 : UInt8) = 32 by decide), dd_no10 _, (show ¬ (10 : UInt8) = 32 by decide), dd_no10 _⟩
    rw [e0, linesL_cut no, List.foldl_cons]
    unfold stepG
    rw [if_neg (fun h => Bool.noConfusion h), numsL_three (by omega) (by omega) (by omega)]
    have e1 : addE done [((e.src.toNat : Nat) : Int), ((e.dst.toNat : Nat) : Int), ((e.wt.toNat : Nat) : Int)] = done ++ [e] := by
      unfold addE; rw [if_pos (by rfl)]
      obtain ⟨a, b, c⟩ := e
      dsimp only at h1 h2 h3 ⊢
      congr 2
      simp only [List.getD_cons_zero, List.getD_cons_succ, Edge.mk.injEq]
      exact ⟨by omega, by omega, by omega⟩
    show (linesL (edgesT es)).foldl stepG (false, ⟨n, addE done _⟩) = _
    rw [e1, prog_edges es _ n (fun x hx => h x (by simp [hx]))]
    simp
theorem progG_of {g : Graph} {t : List UInt8} (h : showG g = (⟨t.toArray⟩, 0)) : (progG (linesL t)).2 = g := by
  obtain ⟨h0, rfl⟩ := showG_inv h
  obtain ⟨⟨n0, n1⟩, hE⟩ := graph_okE h0
  unfold progG
  rw [linesL_cut (dd_no10 _), List.foldl_cons]
  have e : stepG (true, ⟨0, []⟩) (dd g.n.toNat ++ [10]) = (false, ⟨g.n, []⟩) := by
    unfold stepG; rw [if_pos rfl, numsL_one (by omega)]
    show (false, (⟨((g.n.toNat : Nat) : Int), []⟩ : Graph)) = _
    rw [show ((g.n.toNat : Nat) : Int) = g.n by omega]
  rw [e, prog_edges _ _ _ hE]; rfl
theorem read_alike (t : List UInt8) : readG t = docG t := by
  by_cases hs : 20000 < t.length
  · unfold readG docG; rw [if_pos hs, if_pos hs]
  · rcases docG_cases (t := t) (by omega) with ⟨g, h1, h2⟩ | ⟨h1, h2⟩
    · rw [h2]
      unfold readG
      rw [if_neg hs, progG_of h1, if_pos h1]
    · rw [h2]
      unfold readG
      rw [if_neg hs, if_neg (h1 _)]
end Go.Proofs.YtfdaheenigmkmaaDoor
