/- paths.Weak, the document's WeakOf. -/
import Derived.Test.YtafnbackjjaelaaDegrees
import Derived.Test.YtafnbackjjaelaaWeakP
import Derived.Test.YtafnbackjjaelaaLibE
namespace Go.Proofs.Ytafnbackjjaelaa
open Go.ChangeShapes Go.WideShapes Go.ChangeAt Go.RowKit
set_option linter.unusedVariables false
/-- Edges as pairs. -/
def prs (l : List Edge) : List (Nat × Nat) := l.map fun e => (e.src.toNat, e.dst.toNat)
def flN (n : Nat) (f : Nat → Nat) : List Int := fl n fun v => (f v : Int)
noncomputable def weakV (g : Graph) : List Int × Int := if graphV g = 0 then (flN g.n.toNat (root (links (prs g.edges))), 0) else ([], graphV g)
theorem flN_len (n : Nat) (f : Nat → Nat) : (flN n f).length = n := fl_len _ _
theorem flN_get {n v : Nat} (f : Nat → Nat) (h : v < n) : (flN n f)[v]? = some (f v : Int) := fl_get _ h
theorem flN_set {n a : Nat} (f : Nat → Nat) (x : Nat) (h : a < n) : (flN n f).set a (x : Int) = flN n (upd f a x) := by
  unfold flN
  rw [fl_set _ _ h]
  apply fl_ext
  intro v _
  unfold upd
  split <;> rfl
theorem flN_zero (n : Nat) : flN n (fun _ => 0) = List.replicate n 0 := by
  apply List.ext_getElem?
  intro j
  by_cases hj : j < n
  · rw [flN_get _ hj]; simp [hj]
  · rw [List.getElem?_eq_none (by rw [flN_len]; omega), List.getElem?_eq_none (by simp; omega)]
theorem prs_snoc (l : List Edge) (e : Edge) : prs (l ++ [e]) = prs l ++ [(e.src.toNat, e.dst.toNat)] := by simp [prs]
/-- Numbers up to k, then noughts. -/
def idTo (k : Nat) : Nat → Nat := fun v => if v < k then v else 0
theorem idTo_next (k : Nat) : upd (idTo k) k k = idTo (k + 1) := by
  funext v; unfold upd idTo
  by_cases h : v = k
  · subst h; simp
  · rw [if_neg h]; by_cases h2 : v < k
    · rw [if_pos h2, if_pos (by omega)]
    · rw [if_neg h2, if_neg (by omega)]
theorem idTo_all (n : Nat) : flN n (idTo n) = flN n id := fl_ext fun v hv => by simp [idTo, hv]
/-- The cells of a row that holds f. -/
def Holds1 (w : World) (g n : Nat) (f : Nat → Nat) : Prop := ∀ v, v < n → w.cell? ⟨g, v, none⟩ = some (.int .i64 (f v))
theorem holds1_of {w : World} {base g n c : Nat} {e : TypeId} {f : Nat → Nat} (h : w.ownsRow base e 1 (.slice (some ⟨g, 0, none⟩) n c) n ((flN n f).flatMap i64c)) : Holds1 w g n f :=
  fun v hv => (own_at h (flat_i64_get (flN_get f hv))).1
def RootRel (f : Nat → Nat) (n r : Nat) (i : Value) : Prop := ∃ x : Nat, x < n ∧ i = .int .i64 x ∧ Hid (root f x = r)
set_option maxHeartbeats 1000000 in
theorem root_fn (f : Nat → Nat) (hd : Down f) (n c v : Nat) (hv : v < n) (hn : n ≤ 200) (w : World) (B g : Nat) (hB : w.cell? ⟨B, 0, none⟩ = some (.slice (some ⟨g, 0, none⟩) n c)) (hc : Holds1 w g n f) :
    Calls Try.prog 93 #[.int .i64 v, .pointer (some ⟨B, 0, none⟩)] w fun e w' => e = .returned (.int .i64 (root f v)) ∧ w = w' := by
  have HC := hid hc
  have HD := hid hd
  clear hc hd
  generalize hr : root f v = r
  have HR := hid hr
  clear hr
  go_enter Try.func93, Try.ntmps93
  go_wp2_with fail
  go_loop [0] (RootRel f n r) (fun i => (intOf i).toNat)
  case atStart => exact ⟨v, hv, rfl, HR⟩
  case round =>
    obtain ⟨x, hx, rfl, HX⟩ := hrel
    have c0 := HC.out x hx
    by_cases hfx : f x = x
    · have HF := hid (root_fix hfx)
      have hb : ((f x : Int) != (x : Int)) = false := by simp [hfx]
      clear hfx
      generalize f x = y at c0 hb
      go_wp2_with fail
      go_ret
      exact ⟨by rw [← HX.out, HF.out]; rfl, rfl⟩
    · have hle := HD.out x
      have hlt : f x < x := by omega
      have HF := hid (root_step HD.out hfx)
      have hb : ((f x : Int) != (x : Int)) = true := by simp; omega
      clear hfx
      generalize hy : f x = y at *
      clear hy
      go_wp2_with fail
      go_round
      case rel => exact ⟨y, by omega, rfl, hid (by rw [← HX.out, HF.out])⟩
      case measure => simp [intOf]; omega
theorem edge_nat {n : Nat} {l : List Edge} (h : ∀ e ∈ l, edgeOk n e) {k : Nat} {e : Edge} (he : l[k]? = some e) : ∃ a b : Nat, e.src = (a : Int) ∧ e.dst = (b : Int) ∧ a < n ∧ b < n := by
  obtain ⟨⟨h1, h2⟩, ⟨h3, h4⟩, _⟩ := h e (List.mem_of_getElem? he)
  obtain ⟨a, ha⟩ := Int.eq_ofNat_of_zero_le h1
  obtain ⟨b, hb⟩ := Int.eq_ofNat_of_zero_le h3
  exact ⟨a, b, ha, hb, by omega, by omega⟩
theorem link1_lt {f : Nat → Nat} {a b : Nat} (h : root f a < root f b) : link1 f a b = upd f (root f b) (root f a) := by
  unfold link1; rw [Nat.max_eq_right (Nat.le_of_lt h), Nat.min_eq_left (Nat.le_of_lt h)]
theorem link1_ge {f : Nat → Nat} {a b : Nat} (h : root f b ≤ root f a) : link1 f a b = upd f (root f a) (root f b) := by
  unfold link1; rw [Nat.max_eq_left h, Nat.min_eq_right h]
theorem links_le (l : List (Nat × Nat)) (v : Nat) : root (links l) v ≤ v := root_le (links_down l) v
def Wk (F : Nat → Nat → Nat) (m n G : Nat) (w1 : World) (i : Value) (wr : World) : Prop :=
  ∃ k : Nat, k ≤ m ∧ i = .int .i64 k ∧ wr.ownsRow G 3 1 (.slice (some ⟨G, 0, none⟩) n n) n ((flN n (F k)).flatMap i64c) ∧ Below G w1 wr ∧ wr.cell? ⟨G + 1, 0, none⟩ = some (.slice (some ⟨G, 0, none⟩) n n) ∧ G + 1 < wr.heap.size
def Wk2 (F : Nat → Nat → Nat) (m n G : Nat) (w1 : World) (_ i : Value) (wr : World) : Prop := Wk F m n G w1 i wr
set_option maxHeartbeats 4000000 in
theorem weak_walk (g : Graph) (w : World) (A : Option Addr) (c : Nat) (hr : Rd w w.heap.size A 3 g.edges.length (g.edges.flatMap Edge.cells)) (hl : g.edges.length ≤ 9223372036854775807) :
    Calls Try.prog 29 #[.agg #[.int .i64 g.n, .slice A g.edges.length c]] w (RetL 3 1 w (weakV g).1.length ((weakV g).1.flatMap i64c) (weakV g).2) := by
  have r0 := (hr.alloc (Nat.le_refl _) (.cells #[.int .i64 g.n, .slice A g.edges.length c] 24)).any (by decide)
  have hc := hid (check_walk g _ A c r0 hl)
  unfold weakV
  by_cases h0 : graphV g = 0
  · rw [if_pos h0]
    rw [h0] at hc
    obtain ⟨⟨h1, h2, h3⟩, hE⟩ := graphV_ok.1 h0
    clear h0
    obtain ⟨n, l⟩ := g
    simp only at h1 h2 h3 hE hc hr hl ⊢
    obtain ⟨n, rfl⟩ := Int.eq_ofNat_of_zero_le h1
    have HE := hid (fun k e he => edge_nat hE (k := k) (e := e) he)
    clear hE
    simp only [Int.toNat_natCast, flN_len]
    have h2n : n ≤ 200 := by omega
    go_enter Try.func29, Try.ntmps29
    go_wp2_with fail
    refine hc.out.mono ?_
    rintro e w1 ⟨rfl, b1⟩
    have b01 := bT (bA (Below.refl w.heap.size w) (.cells #[.int .i64 n, .slice A l.length c] 24)) b1
    obtain ⟨hc1, hf1⟩ := bcell b1
    have hz1 : w.heap.size < w1.heap.size := by have := b1.size; simp at this; omega
    go_wp2_with (refine wp_make1 rfl rfl Try.underlying34 inf_int rfl n rfl rfl (by omega) (by omega) ?_; intro w2 o2 b2 hz2; obtain ⟨hc2, hf2⟩ := bcell b2)
    have b02 := bT b01 b2
    rw [replicate_i64] at o2
    have oX := (own_more o2 (Nat.le_refl _)).alloc (.cells #[.slice (some ⟨w1.heap.size, 0, none⟩) n n] 34)
    have k0 : (w2.alloc (.cells #[.slice (some ⟨w1.heap.size, 0, none⟩) n n] 34)).cell? ⟨w1.heap.size + 1, 0, none⟩ = some (.slice (some ⟨w1.heap.size, 0, none⟩) n n) := by rw [← hz2]; simp
    have e0 : List.replicate n (0 : Int) = flN n (idTo 0) := by rw [← flN_zero]; exact fl_ext fun v _ => by simp [idTo]
    rw [e0] at oX
    have b03 := bA b02 (.cells #[.slice (some ⟨w1.heap.size, 0, none⟩) n n] 34)
    have hz3 : (w2.alloc (.cells #[.slice (some ⟨w1.heap.size, 0, none⟩) n n] 34)).heap.size = w1.heap.size + 2 := by simp [hz2]
    have HZ3 := hid hz3
    clear e0 o2 hz3
    have q0 : w1.cell? ⟨w.heap.size, 0, none⟩ = some (.int .i64 n) := keepb b1 (by go_simp)
    have q1 : w1.cell? ⟨w.heap.size, 1, none⟩ = some (.slice A l.length c) := keepb b1 (by go_simp)
    have b13 : Below w1.heap.size w1 (w2.alloc (.cells #[.slice (some ⟨w1.heap.size, 0, none⟩) n n] 34)) := bA b2 _
    clear b2 hc1 hf1 hc2 hf2 b02 b03 b1
    generalize hG : w1.heap.size = G at *
    have HG := hid hG
    clear hG
    go_loopw [6, 23] (Wk2 idTo n n G w1) (fun _ i _ => n - (intOf i).toNat)
    case atStart => exact ⟨0, by omega, rfl, oX, b13, k0, by rw [HZ3.out]; omega⟩
    case round =>
      obtain ⟨k, hk, rfl, hown, hbel, hB, hBs⟩ := hrel
      have hGs : G < wr.heap.size := by omega
      by_cases hlt : k < n
      · have hltz : (k : Int) < (n : Int) := by omega
        have HS := hid (flN_set (n := n) (idTo k) k hlt)
        have HN := hid (idTo_next k)
        obtain ⟨d0, d1⟩ := own_at hown (flat_i64_get (flN_get (idTo k) hlt))
        have HO := hid (hown.stored k (.int .i64 (k : Int))).1
        clear hown
        go_wp2
        go_roundw
        case rel => exact ⟨k + 1, by omega, by go_num, by rw [← HN.out, ← HS.out, ← flat_i64_set]; exact HO.out, hbel.setCell (by simp) _, by go_simp, by simpa using hBs⟩
        case measure => simp [intOf]; omega
      · obtain rfl : n = k := by omega
        rw [idTo_all] at hown
        have p0 : wr.cell? ⟨w.heap.size, 1, none⟩ = some (.slice A l.length c) := (hbel.cell (p := ⟨w.heap.size, 1, none⟩) hz1).trans q1
        clear k0 oX b13
        go_wp2
        go_loopw [9, 10, 11, 35] (fun _ _ _ i wr => Wk (fun k => links (prs (l.take k))) l.length n G w1 i wr) (fun _ _ _ i _ => l.length - (intOf i).toNat)
        case atStart => exact ⟨0, by omega, rfl, hown, hbel, hB, hBs⟩
        case round =>
          obtain ⟨k, hk, rfl, hown, hbel, hB, hBs⟩ := hrel
          dsimp only at hown
          have hGs : G < wr.heap.size := by omega
          have b0r := b01.trans (hbel.mono (Nat.le_of_lt hz1))
          by_cases hlt : k < l.length
          · obtain ⟨e, he⟩ : ∃ e, l[k]? = some e := ⟨_, List.getElem?_eq_getElem hlt⟩
            obtain ⟨b, off, rfl, hb, c0, c1, c2⟩ := edge_cells (hr.below b0r) rfl he
            obtain ⟨x, y, hx, hy, hxn, hyn⟩ := HE.out k e he
            obtain ⟨src, dst, wt⟩ := e
            simp only at hx hy c0 c1 c2
            subst hx hy
            have HT := hid (take_next he)
            have HP := hid (prs_snoc (l.take k) ⟨(x : Int), (y : Int), wt⟩)
            simp only [Int.toNat_natCast] at HP
            have HL := hid (links_snoc (prs (l.take k)) (x, y))
            have HR := hid (fun (W : World) (hW : ∀ p : Addr, p.block < wr.heap.size → W.cell? p = wr.cell? p) (v : Nat) (hv : v < n) => root_fn _ (links_down (prs (l.take k))) n n v hv (by omega) W (G + 1) G ((hW _ hBs).trans hB) (fun u hu => (hW _ hGs).trans (holds1_of hown u hu)))
            have hrx := links_le (prs (l.take k)) x
            have hry := links_le (prs (l.take k)) y
            clear he
            have hbr : b < wr.heap.size := by have := b0r.size; omega
            generalize hF : links (prs (l.take k)) = F at *
            have HF := hid hF
            clear hF
            have hown2 := hown.alloc (.cells #[.int .i64 x, .int .i64 y, .int .i64 wt] 122)
            go_wp2_with fail
            go_quiet ((go_at_call 93; exact qsame (HR.out _ (fun p hp => (bN (bA (Below.refl wr.heap.size wr) _) _).cell hp) _ (by omega))))
            have HO := hid hown2
            have HX := hid (fun h => (link1_lt (f := F) (a := x) (b := y) h))
            have HY := hid (fun h => (link1_ge (f := F) (a := x) (b := y) h))
            clear hown hown2 HR
            generalize root F x = rx at *
            generalize root F y = ry at *
            have hrxn : rx < n := by omega
            have hryn : ry < n := by omega
            obtain ⟨d0, d1⟩ := own_at HO.out (flat_i64_get (flN_get F hrxn))
            obtain ⟨d2, d3⟩ := own_at HO.out (flat_i64_get (flN_get F hryn))
            rcases Nat.lt_trichotomy rx ry with hlr | hlr | hlr
            · have HN : Hid (links (prs (l.take (k + 1))) = upd F ry rx) := hid (by rw [HT.out, HP.out, HL.out]; exact HX.out hlr)
              have HS := hid (flN_set (n := n) F rx hryn)
              have HOS := hid (HO.out.stored ry (.int .i64 (rx : Int))).1
              have hz : (rx : Int) < (ry : Int) := by omega
              have hz1 : max (rx : Int) (ry : Int) = (ry : Int) := by omega
              have hz2 : min (rx : Int) (ry : Int) = (rx : Int) := by omega
              go_wp2
              go_roundw
              case rel => exact ⟨k + 1, by omega, by go_num, by dsimp only; rw [HN.out, ← HS.out, ← flat_i64_set]; exact HOS.out, (below_drewN (hbel.alloc (by omega) _) _).setCell (by simp) _, by go_simp, by simp; omega⟩
              case measure => simp [intOf]; omega
            · subst hlr
              have HN : Hid (links (prs (l.take (k + 1))) = upd F rx rx) := hid (by rw [HT.out, HP.out, HL.out]; exact HY.out (Nat.le_refl _))
              have HS := hid (flN_set (n := n) F rx hrxn)
              have HOS := hid (HO.out.stored rx (.int .i64 (rx : Int))).1
              have hz1 : max (rx : Int) (rx : Int) = (rx : Int) := by omega
              have hz2 : min (rx : Int) (rx : Int) = (rx : Int) := by omega
              go_wp2
              go_roundw
              case rel => exact ⟨k + 1, by omega, by go_num, by dsimp only; rw [HN.out, ← HS.out, ← flat_i64_set]; exact HOS.out, (below_drewN (hbel.alloc (by omega) _) _).setCell (by simp) _, by go_simp, by simp; omega⟩
              case measure => simp [intOf]; omega
            · have HN : Hid (links (prs (l.take (k + 1))) = upd F rx ry) := hid (by rw [HT.out, HP.out, HL.out]; exact HY.out (Nat.le_of_lt hlr))
              have HS := hid (flN_set (n := n) F ry hrxn)
              have HOS := hid (HO.out.stored rx (.int .i64 (ry : Int))).1
              have hz : (ry : Int) < (rx : Int) := by omega
              have hz1 : max (rx : Int) (ry : Int) = (rx : Int) := by omega
              have hz2 : min (rx : Int) (ry : Int) = (ry : Int) := by omega
              go_wp2
              go_roundw
              case rel => exact ⟨k + 1, by omega, by go_num, by dsimp only; rw [HN.out, ← HS.out, ← flat_i64_set]; exact HOS.out, (below_drewN (hbel.alloc (by omega) _) _).setCell (by simp) _, by go_simp, by simp; omega⟩
              case measure => simp [intOf]; omega
          · obtain rfl : k = l.length := by omega
            rw [List.take_length] at hown
            have HD := hid (links_down (prs l))
            generalize links (prs l) = F at *
            have e0 : flat F 0 = F := by funext v; simp [flat]
            rw [← e0] at hown
            go_wp2
            go_loopw [12, 58] (Wk2 (flat F) n n G w1) (fun _ i _ => n - (intOf i).toNat)
            case atStart => exact ⟨0, by omega, rfl, hown, hbel, hB, hBs⟩
            case round =>
              obtain ⟨k, hk, rfl, hown, hbel, hB, hBs⟩ := hrel
              have hGs : G < wr.heap.size := by omega
              by_cases hlt : k < n
              · have hr1 := root_fn (flat F k) (flat_down HD.out k) n n k hlt (by omega) wr (G + 1) G hB (holds1_of hown)
                rw [root_flat HD.out] at hr1
                have HR := hid (fun m => root_fn (flat F k) (flat_down HD.out k) n n k hlt (by omega) (wr.drewN m) (G + 1) G hB (holds1_of hown))
                rw [root_flat HD.out] at HR
                have hrk := root_le HD.out k
                have HN := hid (flat_next (f := F) k)
                have HS := hid (flN_set (n := n) (flat F k) (root F k) hlt)
                have HOS := hid (fun m => (World.ownsRow.stored (w := wr.drewN m) hown k (.int .i64 (root F k : Int))).1)
                obtain ⟨d0, d1⟩ := own_at hown (flat_i64_get (flN_get (flat F k) hlt))
                have HO := hid hown
                have hkn : (k : Int) < (n : Int) := by omega
                clear hown hr1
                generalize root F k = rk at *
                go_wp2_with fail
                go_region_with ((go_at_call 93; refine (HR.out _).mono ?_; rintro e w' ⟨rfl, rfl⟩))
                all_goals
                  go_wp2
                  go_roundw
                  case rel => exact ⟨k + 1, by omega, by go_num, by rw [← HN.out, ← HS.out, ← flat_i64_set]; exact HOS.out _, (below_drewN hbel _).setCell (by simp) _, by go_simp, by simpa using hBs⟩
                  case measure => simp [intOf]; omega
              · obtain rfl : n = k := by omega
                have e1 : flN n (flat F n) = flN n (root F) := fl_ext fun v hv => by simp [flat, hv]
                rw [e1] at hown
                go_wp2
                go_ret2
                exact ⟨_, _, rfl, own_more hown (Nat.le_of_lt hz1), b01.trans (hbel.mono (Nat.le_of_lt hz1))⟩
  · rw [if_neg h0]
    have hb : (graphV g == 0) = false := by simpa using h0
    generalize graphV g = r at *
    clear h0
    go_enter Try.func29, Try.ntmps29
    go_wp2_with fail
    refine hc.out.mono ?_
    rintro e w1 ⟨rfl, b1⟩
    go_wp2_with fail
    go_ret2
    exact ⟨none, 0, rfl, World.ownsRow_nil _ _ _ _, bT (bA (Below.refl _ _) _) b1⟩
end Go.Proofs.Ytafnbackjjaelaa
