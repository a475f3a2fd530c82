/- The document's queued: how much a queue holds. -/
import Derived.Test.YtifpngjipkmdcaaQueO
import Derived.Test.YtifpngjipkmdcaaRuns
namespace Go.Proofs.Ytifpngjipkmdcaa
open Go.ChangeShapes Go.WideShapes Go.ChangeAt Go.RowKit
set_option linter.unusedVariables false
set_option linter.unusedSimpArgs false
/-- All the mail of a queue. -/
noncomputable def allM (lo : List Mail) (rs : List (ML Int)) : List Mail := lo ++ rs.flatMap (fun x => runV x.l)
/-- What queued hands back. -/
def RetQ (w : World) (lo : List Mail) (rs : List (ML Int)) (r : Option Nat) (e : Ending) (w' : World) : Prop :=
  (∃ (A : Option Addr) (N c : Nat) (ok : Bool), e = .returned (.tuple #[.slice A N c, .bool ok]) ∧ (r = none → ok = false) ∧ (∀ k, r = some k → ok = true ∧ N = k ∧ w'.ownsRow w.heap.size 62 2 (.slice A N c) N ((allM lo rs).flatMap Mail.cells))) ∧ Below w.heap.size w w'
theorem retQ_none {w w' : World} {lo : List Mail} {rs : List (ML Int)} {r : Option Nat} (h : r = none) (hb : Below w.heap.size w w') : RetQ w lo rs r (.returned (.tuple #[.slice none 0 0, .bool false])) w' :=
  ⟨⟨none, 0, 0, false, rfl, (fun _ => rfl), (fun k hk => by rw [h] at hk; cases hk)⟩, hb⟩
def LoRel (lo : List Mail) (W : World) (s i : Value) (wr : World) : Prop :=
  ∃ (k : Nat) (A : Option Addr) (c : Nat), k ≤ lo.length ∧ i = .int .i64 (k : Nat) ∧ s = .slice A k c ∧ Hid (∀ (j : Nat) x, j < k → lo[j]? = some x → mlB x = true) ∧ Hid (wr.ownsRow W.heap.size 62 2 (.slice A k c) k ((lo.take k).flatMap Mail.cells)) ∧ Below W.heap.size W wr
def RuRel (R : Option Nat) (lo : List Mail) (rs : List (ML Int)) (W : World) (s i : Value) (wr : World) : Prop :=
  ∃ (k n : Nat) (A : Option Addr) (c : Nat), k ≤ rs.length ∧ i = .int .i64 (k : Nat) ∧ s = .slice A n c ∧ n ≤ 5000 ∧ Hid (R = manyGo (rs.drop k) n) ∧ Hid (wr.ownsRow W.heap.size 62 2 (.slice A n c) n ((allM lo (rs.take k)).flatMap Mail.cells)) ∧ Below W.heap.size W wr
def InRel (n : Nat) (pre l : List Mail) (Au : Option Addr) (cu g1 g2 : Nat) (W : World) (s i : Value) (wr : World) : Prop :=
  ∃ (j N : Nat) (A : Option Addr) (c : Nat), j ≤ l.length ∧ N = n + j ∧ i = .int .i64 (j : Nat) ∧ s = .slice A N c ∧ Hid (wr.ownsRow W.heap.size 62 2 (.slice A N c) N ((pre ++ l.take j).flatMap Mail.cells)) ∧ Below W.heap.size W wr ∧ Hid (wr.ownsRow g1 62 2 (.slice Au l.length cu) l.length (l.flatMap Mail.cells)) ∧ Hid (∀ y, (Value.slice Au l.length cu).ownBlock = some y → g1 ≤ y ∧ y < g2) ∧ Hid (∀ y, (Value.slice A N c).ownBlock = some y → y < g1 ∨ g2 ≤ y) ∧ g2 ≤ wr.heap.size
set_option maxRecDepth 100000 in
set_option maxHeartbeats 8000000 in
theorem queued_walk (q : Queue) (w : World) (A B : Option Addr) (c d : Nat) (hl : Rd w w.heap.size A 2 q.loose.length (q.loose.flatMap Mail.cells)) (hg : Grid u8c 1 w w.heap.size B q.runs) (hll : q.loose.length ≤ 140737488355328) (hrl : q.runs.length ≤ 140737488355328) (hx : RunsOk q) :
    Calls Try.prog 59 #[.agg #[.int .i64 q.budget, .slice A q.loose.length c, .slice B q.runs.length d]] w (RetQ w q.loose q.runs (countV q)) := by
  have b0 : Below w.heap.size w (w.alloc (.cells #[.int .i64 q.budget, .slice A q.loose.length c, .slice B q.runs.length d] 53)) := bA (Below.refl _ _) _
  have HCB := hid (countV_bad (q := q))
  have HCM := hid (countV_mail (q := q))
  have HCO := hid (countV_ok (q := q))
  unfold queBad at HCB HCM HCO
  unfold RunsOk at hx
  obtain ⟨bu, lo, rs⟩ := q
  simp only at *
  generalize countV ⟨bu, lo, rs⟩ = R at *
  by_cases h1 : bu < 1 ∨ 1000 < bu
  · have HV := hid (HCB.out (by omega))
    have i1 : inB bu 1 1000 = false := inB_no (by omega)
    clear HCB HCM HCO
    go_enter Try.func59, Try.ntmps59
    go_wp2_with fail
    refine (In_walk _ _ _ _).mono ?_
    rintro e w2 ⟨rfl, rfl⟩
    rw [i1]
    go_wp2_with fail
    go_ret2
    exact retQ_none HV.out b0
  · have i1 : inB bu 1 1000 = true := inB_yes (by omega)
    by_cases h3 : bu ≤ (lo.length : Int)
    · have HV := hid (HCB.out (.inr (.inr (.inl h3))))
      clear HCB HCM HCO
      go_enter Try.func59, Try.ntmps59
      go_wp2_with fail
      refine (In_walk _ _ _ _).mono ?_
      rintro e w2 ⟨rfl, rfl⟩
      rw [i1]
      go_wp2_with fail
      go_ret2
      exact retQ_none HV.out b0
    · by_cases h4 : 5000 < rs.length
      · have HV := hid (HCB.out (.inr (.inr (.inr h4))))
        have h4z : (5000 : Int) < (rs.length : Int) := by omega
        clear HCB HCM HCO
        go_enter Try.func59, Try.ntmps59
        go_wp2_with fail
        refine (In_walk _ _ _ _).mono ?_
        rintro e w2 ⟨rfl, rfl⟩
        rw [i1]
        go_wp2_with fail
        go_ret2
        exact retQ_none HV.out b0
      · have h4z : ¬ (5000 : Int) < (rs.length : Int) := by omega
        have HCM := hid (HCM.out (by omega))
        have HCO := hid (HCO.out (by omega))
        have hlo : lo.length ≤ 1000 := by omega
        clear HCB
        go_enter Try.func59, Try.ntmps59
        go_wp2_with fail
        refine (In_walk _ _ _ _).mono ?_
        rintro e w2 ⟨rfl, rfl⟩
        rw [i1]
        go_wp2_with fail
        obtain ⟨wq, hwq⟩ : ∃ x, x = w.alloc (.cells #[.int .i64 bu, .slice A lo.length c, .slice B rs.length d] 53) := ⟨_, rfl⟩
        have q1 : wq.cell? ⟨w.heap.size, 1, none⟩ = some (.slice A lo.length c) := by rw [hwq]; go_simp
        have q2 : wq.cell? ⟨w.heap.size, 2, none⟩ = some (.slice B rs.length d) := by rw [hwq]; go_simp
        have q2w := hid q2
        have BQ : Hid (Below w.heap.size w wq) := hid (by rw [hwq]; exact b0)
        rw [← hwq]
        clear hwq b0
        go_loopw [4, 5] (fun s i wr => LoRel lo wq s i wr) (fun _ i _ => lo.length - (intOf i).toNat)
        case atStart => exact ⟨0, none, 0, Nat.zero_le _, rfl, rfl, hid (fun j x h => by omega), hid (World.ownsRow_nil _ _ _ _), Below.refl _ _⟩
        case round =>
          obtain ⟨k, A2, c2, hk, rfl, rfl, HN, HOWN, hbel⟩ := hrel
          have q1 := keepb hbel q1
          have q2 := keepb hbel q2
          have hb0 := bT BQ.out hbel
          have hsz := hbel.size
          by_cases hlt : k < lo.length
          · obtain ⟨x, hxk⟩ : ∃ x, lo[k]? = some x := ⟨_, List.getElem?_eq_getElem hlt⟩
            obtain ⟨b', off, rfl, hb', c0, c1⟩ := mail_cells (hl.below hb0) rfl hxk
            have hkz : (k : Int) < (lo.length : Int) := by omega
            have HX := hid hxk
            have HC := hid (mailMay_walk x wr)
            have HXT := hid (show (lo.take (k + 1)).flatMap Mail.cells = (lo.take k).flatMap Mail.cells ++ [.int .i64 x.to, .int .i64 x.val] from by rw [take_nextV hxk, List.flatMap_append]; rfl)
            clear hxk
            cases hn : mlB x with
            | false =>
              rw [hn] at HC
              have HV := hid (HCM.out (okMl_bad HX.out hn))
              obtain ⟨xt, xv⟩ := x
              simp only at HC c0 c1
              clear hn
              go_wp2_with fail
              refine HC.out.mono ?_
              rintro e w2 ⟨rfl, b2⟩
              go_wp2_with fail
              go_ret2
              exact retQ_none HV.out (bT hb0 b2)
            | true =>
              rw [hn] at HC
              have HN2 := hid hn
              have HNX : Hid (∀ (j : Nat) y, j < k + 1 → lo[j]? = some y → mlB y = true) := hid (fun j y hj hy => by
                by_cases e : j = k
                · subst e
                  have h2 := HX.out
                  rw [hy] at h2
                  injection h2 with h2
                  rw [h2]
                  exact HN2.out
                · exact HN.out j y (by omega) hy)
              obtain ⟨xt, xv⟩ := x
              simp only at HC c0 c1 HXT
              have hSZ : (k + 1) * 16 ≤ 140737488355328 := by omega
              clear hn
              go_wp2_with fail
              refine HC.out.mono ?_
              rintro e w2 ⟨rfl, b2⟩
              have q1 := keepb b2 q1
              have c0 := keepb b2 c0
              have c1 := keepb b2 c1
              have HB2 := hid b2
              have hz2 := b2.size
              clear b2
              go_wp2_with (at_builtin; refine wp_app3 _ rfl rfl el_mails rfl (own_below (own_below HOWN.out HB2.out (Nat.le_refl _)) (bA (Below.refl _ _) _) (Nat.le_refl _)) rfl (rd_new _ _ _ 2 1 rfl) (two_ints _ _) hSZ (by simp; omega) ?_; intro A5 c5 w5 o5 b5 g5 h5)
              have HO5 := hid o5
              have HB5 := hid ((bT hbel HB2.out).trans ((bA (Below.refl w2.heap.size w2) _ |>.mono (by omega)).trans b5))
              clear o5 b5 g5 h5
              go_wp2_with fail
              go_roundw
              case rel => exact ⟨k + 1, A5, c5, by omega, by go_num, rfl, HNX, hid (by rw [HXT.out]; exact HO5.out), HB5.out⟩
              case measure => (simp [intOf]) <;> omega
          · obtain rfl : k = lo.length := by omega
            have hkz : ¬ (lo.length : Int) < (lo.length : Int) := by omega
            have HR := hid (HCO.out (okMl_yes HN.out))
            have HOW := hid (show World.ownsRow wr _ _ _ _ _ ((allM lo (rs.take 0)).flatMap Mail.cells) from by have h := HOWN.out; rw [List.take_length] at h; rw [List.take_zero]; unfold allM; simpa using h)
            have HB1 := hid hbel
            clear HCM HCO HN HOWN
            go_wp2_with fail
            go_loopw [4, 6] (fun s i wr => RuRel R lo rs wq s i wr) (fun _ i _ => rs.length - (intOf i).toNat)
            case atStart => exact ⟨0, lo.length, A2, c2, Nat.zero_le _, rfl, rfl, by omega, hid (by rw [List.drop_zero]; exact HR.out), HOW, HB1.out⟩
            case round =>
              clear HR HOW HB1 hbel hb0 hsz q1 q2
              obtain ⟨k, n, A3, c3, hk, rfl, rfl, hn5, HRK, HOWN, hbel⟩ := hrel
              have q2 := keepb hbel q2w.out
              have hb0 := bT BQ.out hbel
              have hsz := hbel.size
              by_cases hlt : k < rs.length
              · obtain ⟨x, hxk⟩ : ∃ x, rs[k]? = some x := ⟨_, List.getElem?_eq_getElem hlt⟩
                have hkz : (k : Int) < (rs.length : Int) := by omega
                have hxm := List.mem_of_getElem? hxk
                obtain ⟨x1, x2, x3⟩ := hx x hxm
                obtain ⟨b', off, rfl, hb', cv⟩ := ml_cell (hg.1.below hb0) rfl hxk
                have HU := hid (runOf_walk x.l wr x.A x.l.length x.c (rdb (Grid.data hg hxm) (by decide) hb0) rfl x1 x3 x2)
                have hdr : rs.drop k = x :: rs.drop (k + 1) := (List.drop_eq_getElem_cons hlt).trans (by rw [List.getElem?_eq_getElem hlt] at hxk; injection hxk with hxk; rw [hxk])
                have HKB := hid (fun h => manyGo_bad (r := x) (rs := rs.drop (k + 1)) (n := n) h)
                have HKO := hid (fun h => manyGo_ok (r := x) (rs := rs.drop (k + 1)) (n := n) h)
                have HRX : Hid (R = manyGo (x :: rs.drop (k + 1)) n) := hid (by rw [← hdr]; exact HRK.out)
                have hl5 := runV_len x.l
                have HAX := hid (show allM lo (rs.take (k + 1)) = allM lo (rs.take k) ++ runV x.l from by rw [take_nextV hxk]; unfold allM; rw [List.flatMap_append, ← List.append_assoc]; simp)
                generalize runV x.l = l at *
                obtain ⟨xA, xc, xl⟩ := x
                simp only at cv HU HKB HKO x1 x2 x3
                unfold RetS at HU
                clear hxk hxm hdr HRK x1 x2
                go_wp2_with fail
                refine HU.out.mono ?_
                rintro e w2 ⟨Au, cu, rfl, ou, bu⟩
                have hwn : IntKind.i64.wrap ((n : Int) + (l.length : Int)) = (n : Int) + (l.length : Int) := IntWalk.i64_in _ (by omega)
                by_cases hl0 : l.length = 0
                · have HV := hid (HRX.out.trans (HKB.out (.inl (List.eq_nil_of_length_eq_zero hl0))))
                  have hlb : ((l.length : Int) == 0) = true := by rw [hl0]; rfl
                  have HB2 := hid (bT hb0 bu)
                  clear HKB HKO ou HRX bu hl0
                  go_wp2_with fail
                  go_ret2
                  exact retQ_none HV.out HB2.out
                · have hlb : ((l.length : Int) == 0) = false := by rw [beq_eq_false_iff_ne]; omega
                  by_cases hmany : 5000 < n + l.length
                  · have HV := hid (HRX.out.trans (HKB.out (.inr hmany)))
                    have hmz : (5000 : Int) < (n : Int) + (l.length : Int) := by omega
                    have HB2 := hid (bT hb0 bu)
                    clear HKB HKO ou HRX bu hl0
                    go_wp2_with fail
                    go_ret2
                    exact retQ_none HV.out HB2.out
                  · have HV : Hid (R = manyGo (rs.drop (k + 1)) (n + l.length)) := hid (by
                      rw [HRX.out, HKO.out (fun h => by
                        rcases h with h | h
                        · exact hl0 (by rw [h]; rfl)
                        · omega)])
                    have hmz : ¬ (5000 : Int) < (n : Int) + (l.length : Int) := by omega
                    obtain ⟨g1, hg1⟩ : ∃ g, g = wr.heap.size := ⟨_, rfl⟩
                    obtain ⟨g2, hg2⟩ : ∃ g, g = w2.heap.size := ⟨_, rfl⟩
                    have HA0 := hid (own_below HOWN.out bu (Nat.le_refl _))
                    have HB2 := hid (bT hbel bu)
                    have HOF1 : Hid (∀ y, (Value.slice Au l.length cu).ownBlock = some y → g1 ≤ y ∧ y < g2) := hid (fun y hy => by rw [hg1, hg2]; exact ou.lt y hy)
                    have HOF2 : Hid (∀ y, (Value.slice A3 n c3).ownBlock = some y → y < g1 ∨ g2 ≤ y) := hid (fun y hy => .inl (by rw [hg1]; exact (HOWN.out.lt y hy).2))
                    have HOU : Hid (w2.ownsRow g1 62 2 (.slice Au l.length cu) l.length (l.flatMap Mail.cells)) := hid (by rw [hg1]; exact ou)
                    have HG2 := hid hg2
                    clear HKB HKO ou HRX bu hl0 hg1 hg2 HOWN
                    go_wp2_with fail
                    go_loopw [4, 8] (fun s i wy => InRel n (allM lo (rs.take k)) l Au cu g1 g2 wq s i wy) (fun _ i _ => l.length - (intOf i).toNat)
                    case atStart => exact ⟨0, n, A3, c3, Nat.zero_le _, rfl, rfl, rfl, hid (by rw [List.take_zero, List.append_nil]; exact HA0.out), HB2.out, HOU, HOF1, HOF2, Nat.le_of_eq HG2.out⟩
                    case round =>
                      clear HA0 HB2 HOU HOF1 HOF2 HG2
                      obtain ⟨j, N, A4, c4, hj, hN, rfl, rfl, HOA, hby, HOL, HF1, HF2, hgz⟩ := hrel
                      have hszy := hby.size
                      have hNb : N ≤ 5000 := by omega
                      have HNN := hid hN
                      clear hN
                      by_cases hlj : j < l.length
                      · obtain ⟨m, hm⟩ : ∃ x, l[j]? = some x := ⟨_, List.getElem?_eq_getElem hlj⟩
                        obtain ⟨b5', off5, rfl, hb5, e0, e1⟩ := mail_cells (rd_own HOL.out) rfl hm
                        have HMT := hid (show (allM lo (rs.take k) ++ l.take (j + 1)).flatMap Mail.cells = (allM lo (rs.take k) ++ l.take j).flatMap Mail.cells ++ [.int .i64 m.to, .int .i64 m.val] from by rw [take_nextV hm, ← List.append_assoc, List.flatMap_append (xs := _ ++ _)]; rfl)
                        obtain ⟨mt, mv⟩ := m
                        simp only at e0 e1 HMT
                        have hjz : (j : Int) < (l.length : Int) := by omega
                        have hSZ : (N + 1) * 16 ≤ 140737488355328 := by omega
                        clear hm
                        go_wp2_with (at_builtin; refine wp_app3 _ rfl rfl el_mails rfl (own_below HOA.out (bA (Below.refl _ _) _) (Nat.le_refl _)) rfl (rd_new _ _ _ 2 1 rfl) (two_ints _ _) hSZ (by simp; omega) ?_; intro A5 c5 w5 o5 b5 g5 h5)
                        have HO5 := hid o5
                        have HB5 := hid ((hby.trans (bA (Below.refl wr.heap.size wr) _ |>.mono hszy)).trans b5)
                        have HL5 := hid (own_grown (own_below HOL.out (bA (Below.refl _ _) _) (Nat.le_refl _)) g5 (fun y hy e => by
                          have k1 := HF1.out y hy
                          have k2 := HF2.out y e
                          omega))
                        have HF5 : Hid (∀ y, (Value.slice A5 (N + 1) c5).ownBlock = some y → y < g1 ∨ g2 ≤ y) := hid (fun y hy => by
                          rcases h5 with h | h
                          · exact HF2.out y (h.symm.trans hy)
                          · rw [hy] at h
                            injection h with h
                            simp at h
                            omega)
                        have hz5 : g2 ≤ w5.heap.size := by have := g5.size; simp at this; omega
                        clear o5 b5 g5 h5
                        go_wp2_with fail
                        go_roundw
                        case rel => exact ⟨j + 1, N + 1, A5, c5, by omega, by have := HNN.out; omega, by go_num, rfl, hid (by rw [HMT.out]; exact HO5.out), HB5.out, HL5, HF1, HF5, hz5⟩
                        case measure => (simp [intOf]) <;> omega
                      · obtain rfl : j = l.length := by omega
                        have hjz : ¬ (l.length : Int) < (l.length : Int) := by omega
                        go_wp2_with fail
                        go_roundw
                        case rel => exact ⟨k + 1, N, A4, c4, by omega, by go_num, rfl, by have := HNN.out; omega, hid (by rw [HNN.out]; exact HV.out), hid (by rw [HAX.out]; have h := HOA.out; rw [List.take_length] at h; exact h), hby⟩
                        case measure => (simp [intOf]) <;> omega
              · obtain rfl : k = rs.length := by omega
                have hkz : ¬ (rs.length : Int) < (rs.length : Int) := by omega
                have HV : Hid (R = some n) := hid (by rw [HRK.out, List.drop_length]; rfl)
                go_wp2_with fail
                go_ret2
                exact ⟨⟨A3, n, c3, true, rfl, (fun h => by rw [HV.out] at h; cases h), (fun k hk => by rw [HV.out] at hk; injection hk with hk; exact ⟨rfl, hk, by have h := HOWN.out; rw [List.take_length] at h; exact own_more h BQ.out.size⟩)⟩, hb0⟩
end Go.Proofs.Ytifpngjipkmdcaa
