/- link.Due and the document's answer. -/
import Derived.Test.YtblabipgehkllaaLink
namespace Go.Proofs.Ytblabipgehkllaa
open Go.ChangeShapes Go.WideShapes Go.ChangeAt Go.RowKit
set_option linter.unusedVariables false
/-- The first 'k' packets. -/
def pkL (e b : Int) (l : List Mail) (k : Nat) : List Packet := (List.range k).map fun i : Nat => ⟨e, b + (i : Int), l.getD i ⟨0, 0⟩⟩
theorem pkL_succ (e b : Int) (l : List Mail) (k : Nat) (x : Mail) (hx : l[k]? = some x) : pkL e b l (k + 1) = pkL e b l k ++ [⟨e, b + k, x⟩] := by
  unfold pkL
  rw [List.range_succ, List.map_append]
  simp [List.getD, hx]
def dueV (s : Sender) : List Packet × Int := if senderB s.epoch s.base s.loads.length = true then (pkL s.epoch s.base s.loads (min s.loads.length 4), 0) else ([], 9)
def sVal (s : Sender) (A : Option Addr) (c : Nat) : Value := .agg #[.int .i64 s.epoch, .int .i64 s.base, .slice A s.loads.length c]
theorem senderB_of {e b : Int} {n : Nat} (h : senderB e b n = true) : 0 ≤ e ∧ e ≤ 1099511627776 ∧ 0 ≤ b ∧ b ≤ 1099511627776 ∧ n ≤ 5000 := by simpa [senderB] using h
/-- The cells of the mail 'k'. -/
theorem mail_cells {w : World} {B n k : Nat} {A : Option Addr} {l : List Mail} {x : Mail} (h : Rd w B A 2 n (l.flatMap Mail.cells)) (hl : l.length = n) (hk : l[k]? = some x) :
    ∃ b off, A = some ⟨b, off, none⟩ ∧ b < B ∧ w.cell? ⟨b, off + k * 2, none⟩ = some (.int .i64 x.to) ∧ w.cell? ⟨b, off + k * 2 + 1, none⟩ = some (.int .i64 x.val) := by
  have hkl := (List.getElem?_eq_some_iff.1 hk).1
  obtain ⟨b, off, rfl, hb, hc⟩ := h.at_ (show k < n by omega)
  have hg := (flatMap_get (l := l) (cells := Mail.cells) (sz := 2) (fun _ _ => rfl)).2 k x
  have c0 := hc _ _ (hg 0 _ hk rfl)
  have c1 := hc _ _ (hg 1 _ hk rfl)
  simp only [Nat.add_zero, ← Nat.add_assoc] at c0 c1
  exact ⟨b, off, rfl, hb, c0, c1⟩
/-- A new block, read, its number told. -/
theorem rd_at (w : World) (cs : Array Value) (e : TypeId) (sz n g : Nat) (hg : w.heap.size = g) (h : cs.size = n * sz) : Rd (w.alloc (.cells cs e)) (w.heap.size + 1) (some ⟨g, 0, none⟩) sz n cs.toList := by
  subst hg; exact rd_new w cs e sz n h
theorem one4 (a b c d : Int) : ∀ u ∈ (#[Value.int .i64 a, .int .i64 b, .int .i64 c, .int .i64 d] : Array Value).toList, u.oneCell' = true := by
  intro u hu; simp at hu; rcases hu with rfl | rfl | rfl | rfl <;> rfl
def DueRel (s : Sender) (h : Nat) (v : Value) (K : Nat) (w : World) (o i : Value) (wr : World) : Prop :=
  ∃ (k m c : Nat) (A : Option Addr), k ≤ K ∧ Hid (m = k) ∧ i = .int .i64 k ∧ o = .slice A m c ∧ wr.ownsRow (h + 1) 67 4 (.slice A m c) m ((pkL s.epoch s.base s.loads k).flatMap Packet.cells) ∧ Below w.heap.size w wr ∧
    h < wr.heap.size ∧ wr.cell? ⟨h, 0, none⟩ = some (.int .i64 s.epoch) ∧ wr.cell? ⟨h, 1, none⟩ = some (.int .i64 s.base) ∧ wr.cell? ⟨h, 2, none⟩ = some v
set_option maxHeartbeats 2000000 in
theorem due_walk (s : Sender) (w : World) (A : Option Addr) (c : Nat) (hr : Rd w w.heap.size A 2 s.loads.length (s.loads.flatMap Mail.cells)) (hlc : s.loads.length ≤ c) :
    Calls Try.prog 43 #[sVal s A c] w (RetL 67 4 w (dueV s).1.length ((dueV s).1.flatMap Packet.cells) (dueV s).2) := by
  obtain ⟨e, b, l⟩ := s
  unfold sVal dueV
  simp only at hr hlc ⊢
  cases hS : senderB e b l.length
  · rw [if_neg (by simp)]
    go_enter Try.func43, Try.ntmps43
    go_wp2_with fail
    refine (sender_walk e b A l.length c _).mono ?_
    rintro r w1 ⟨rfl, b1⟩
    rw [hS]
    go_wp2_with fail
    go_ret2
    exact ⟨none, 0, rfl, World.ownsRow_nil _ _ _ _, bT (bA (Below.refl _ _) _) b1⟩
  · rw [if_pos rfl]
    obtain ⟨h1, h2, h3, h4, h5⟩ := senderB_of hS
    have HS := hid hS
    clear hS
    have hfl := hid (fun w => flying_walk e b A l.length c w)
    have hK1 : min l.length 4 ≤ l.length := Nat.min_le_left _ _
    have hK4 : min l.length 4 ≤ 4 := Nat.min_le_right _ _
    generalize min l.length 4 = K at *
    have hKc : K ≤ c := by omega
    have r0 := (hr.alloc (Nat.le_refl _) (.cells #[.int .i64 e, .int .i64 b, .slice A l.length c] 41))
    go_enter Try.func43, Try.ntmps43
    go_wp2_with fail
    refine (sender_walk e b A l.length c _).mono ?_
    rintro r w1 ⟨rfl, b1⟩
    rw [HS.out]
    obtain ⟨hc1, hf1⟩ := bcell b1
    have k0 : w1.cell? ⟨w.heap.size, 0, none⟩ = some (.int .i64 e) := by rw [hc1 _ _ (by simp)]; go_simp
    have k1 : w1.cell? ⟨w.heap.size, 1, none⟩ = some (.int .i64 b) := by rw [hc1 _ _ (by simp)]; go_simp
    have k2 : w1.cell? ⟨w.heap.size, 2, none⟩ = some (.slice A l.length c) := by rw [hc1 _ _ (by simp)]; go_simp
    have hz1 : w.heap.size < w1.heap.size := by have := b1.size; simp at this; omega
    have r1 := (r0.any (by decide)).below b1
    clear hc1 hf1
    go_wp2_with fail
    go_region_with ((go_at_call 79; refine (hfl.out _).mono ?_; rintro e w2 ⟨rfl, b2⟩; have q0 : w2.cell? ⟨w.heap.size, 0, none⟩ = some (.int .i64 e) := (b2.cell (p := ⟨w.heap.size, 0, none⟩) hz1).trans k0; have q1 : w2.cell? ⟨w.heap.size, 1, none⟩ = some (.int .i64 b) := (b2.cell (p := ⟨w.heap.size, 1, none⟩) hz1).trans k1; have q2 : w2.cell? ⟨w.heap.size, 2, none⟩ = some (.slice A l.length c) := (b2.cell (p := ⟨w.heap.size, 2, none⟩) hz1).trans k2))
    all_goals
      go_wp2
      simp [Act.put]
      go_loopw [4, 16] (DueRel ⟨e, b, l⟩ w.heap.size (.slice A l.length c) K w) (fun _ i _ => K - (intOf i).toNat)
      case atStart => exact ⟨0, 0, 0, none, by omega, hid rfl, rfl, rfl, World.ownsRow_nil _ _ _ _, bT (bD (bT (bA (Below.refl _ _) _) b1)) b2, by have := b2.size; have : w1.heap.size ≤ w2.heap.size := this; omega, q0, q1, q2⟩
      case round =>
        obtain ⟨k, m, c', A', hk, HM, rfl, rfl, hown, hbel, hzr, g0, g1, g2⟩ := hrel
        simp only at g0 g1
        by_cases hlt : k < K
        · obtain ⟨x, hx⟩ : ∃ x, l[k]? = some x := ⟨_, List.getElem?_eq_getElem (by omega)⟩
          obtain ⟨b', off, rfl, hb, c0, c1⟩ := mail_cells (hr.below hbel) rfl hx
          have HT := hid (pkL_succ e b l k x hx)
          have hmn : (m + 1) * 32 ≤ 140737488355328 := by have := HM.out; omega
          have hbr : b' < wr.heap.size := by have := hbel.size; omega
          clear hx hr r0 r1
          go_wp2_with (at_builtin; refine wp_app1 _ rfl rfl el_packets rfl ((hown.alloc _).alloc _) rfl (rd_at _ _ _ 4 1 _ (by simp) rfl) (one4 _ _ _ _) hmn (Nat.le_trans (Nat.succ_le_of_lt hzr) (bA (bA (Below.refl wr.heap.size wr) _) _).size) ?_; intro A2 c2 w3 hown1 hb1 hg1)
          have hb0 := (bA (bA (Below.refl wr.heap.size wr) (.cells #[.int .i64 x.to, .int .i64 x.val] 65)) (.cells #[.int .i64 e, .int .i64 (b + k), .int .i64 x.to, .int .i64 x.val] 67))
          have hb2 := (hb0.mono (Nat.succ_le_of_lt hzr)).trans hb1
          go_roundw
          case rel => exact ⟨k + 1, m + 1, c2, A2, by omega, hid (by rw [HM.out]), by go_num, rfl, by rw [HT.out, List.flatMap_append]; exact hown1, hbel.trans (hb2.mono (Nat.le_succ _)), Nat.lt_of_lt_of_le hzr hb2.size, (hb2.cell (p := ⟨w.heap.size, 0, none⟩) (Nat.lt_succ_self _)).trans g0, (hb2.cell (p := ⟨w.heap.size, 1, none⟩) (Nat.lt_succ_self _)).trans g1, (hb2.cell (p := ⟨w.heap.size, 2, none⟩) (Nat.lt_succ_self _)).trans g2⟩
          case measure => simp [intOf]; omega
        · obtain rfl : k = K := by omega
          have hM : m = k := HM.out
          subst hM
          have hl2 : (pkL e b l m).length = m := by simp [pkL]
          have HL2 := hid hl2
          clear hl2 HM
          go_wp2
          go_ret2
          rw [HL2.out]
          exact ⟨A', c', rfl, own_more hown (Nat.le_succ _), hbel⟩
end Go.Proofs.Ytblabipgehkllaa
