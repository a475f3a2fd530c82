/- The document's LinkDue; the statement on link.Due. -/
import Derived.Test.YtblabipgehkllaaLinkDue
namespace Go.Proofs.Ytblabipgehkllaa
open Go.ChangeShapes Go.WideShapes Go.ChangeAt Go.RowKit
set_option linter.unusedVariables false
set_option maxHeartbeats 2000000 in
theorem linkDue_walk (s : Sender) (w : World) (A : Option Addr) (c : Nat) (hr : Rd w w.heap.size A 2 s.loads.length (s.loads.flatMap Mail.cells)) (hlc : s.loads.length ≤ c) :
    Calls Try.prog 44 #[sVal s A c] w (RetL 67 4 w (dueV s).1.length ((dueV s).1.flatMap Packet.cells) (dueV s).2) := by
  obtain ⟨e, b, l⟩ := s
  unfold sVal dueV
  simp only at hr hlc ⊢
  cases hS : senderB e b l.length
  · rw [if_neg (by simp)]
    go_enter Try.func44, Try.ntmps44
    go_wp2_with fail
    refine (senderMay_walk e b A l.length c _).mono ?_
    rintro r w1 ⟨rfl, b1⟩
    rw [hS]
    go_wp2_with fail
    go_ret2
    exact ⟨none, 0, rfl, World.ownsRow_nil _ _ _ _, bT (bA (Below.refl _ _) _) b1⟩
  · rw [if_pos rfl]
    obtain ⟨h1, h2, h3, h4, h5⟩ := senderB_of hS
    have HS := hid hS
    clear hS
    have hK1 : min l.length 4 ≤ l.length := Nat.min_le_left _ _
    have hK4 : min l.length 4 ≤ 4 := Nat.min_le_right _ _
    have hK5 : min l.length 4 = 4 ∨ min l.length 4 = l.length := by omega
    generalize min l.length 4 = K at *
    go_enter Try.func44, Try.ntmps44
    go_wp2_with fail
    refine (senderMay_walk e b A l.length c _).mono ?_
    rintro r w1 ⟨rfl, b1⟩
    rw [HS.out]
    obtain ⟨hc1, hf1⟩ := bcell b1
    have k0 : w1.cell? ⟨w.heap.size, 0, none⟩ = some (.int .i64 e) := by rw [hc1 _ _ (by simp)]; go_simp
    have k1 : w1.cell? ⟨w.heap.size, 1, none⟩ = some (.int .i64 b) := by rw [hc1 _ _ (by simp)]; go_simp
    have k2 : w1.cell? ⟨w.heap.size, 2, none⟩ = some (.slice A l.length c) := by rw [hc1 _ _ (by simp)]; go_simp
    have hz1 : w.heap.size < w1.heap.size := by have := b1.size; simp at this; omega
    clear hc1 hf1
    go_wp2_with fail
    go_loopw [4, 5] (DueRel ⟨e, b, l⟩ w.heap.size (.slice A l.length c) K w) (fun _ i _ => K - (intOf i).toNat)
    case atStart => exact ⟨0, 0, 0, none, by omega, hid rfl, rfl, rfl, World.ownsRow_nil _ _ _ _, bT (bA (Below.refl _ _) _) b1, hz1, k0, k1, k2⟩
    case round =>
      obtain ⟨k, m, c', A', hk, HM, rfl, rfl, hown, hbel, hzr, g0, g1, g2⟩ := hrel
      simp only at g0 g1
      by_cases hlt : k < K
      · obtain ⟨x, hx⟩ : ∃ x, l[k]? = some x := ⟨_, List.getElem?_eq_getElem (by omega)⟩
        obtain ⟨b', off, rfl, hb, c0, c1⟩ := mail_cells (hr.below hbel) rfl hx
        have HT := hid (pkL_succ e b l k x hx)
        have hmn : (m + 1) * 32 ≤ 140737488355328 := by have := HM.out; omega
        have hbr : b' < wr.heap.size := by have := hbel.size; omega
        have hk1 : k < l.length := by omega
        have hk4 : k < 4 := by omega
        clear hx hr hK5
        have hsz3 : ∀ o : Obj, w.heap.size + 1 ≤ ((wr.alloc o).drew).heap.size := fun o => Nat.le_trans (Nat.succ_le_of_lt hzr) (bD (bA (Below.refl wr.heap.size wr) o)).size
        have hwr : IntKind.i64.wrap (b + (k : Int)) = b + (k : Int) := IntWalk.i64_in _ (by omega)
        go_wp2_with fail
        go_region_law ((refine step_app1 rfl rfl el_packets rfl (World.ownsRow.drew (hown.alloc _)) rfl (rd_at _ _ _ 4 1 _ (by simp) rfl).drew (one4 _ _ _ _) hmn (hsz3 _) ?_; intro A2 c2 w3 hown1 hb1 hg1))
        all_goals
          have hb2 := ((bD (bA (Below.refl wr.heap.size wr) (.cells #[.int .i64 e, .int .i64 (b + k), .int .i64 x.to, .int .i64 x.val] 67))).mono (Nat.succ_le_of_lt hzr)).trans hb1
          go_wp2
          go_roundw
          case rel => exact ⟨k + 1, m + 1, c2, A2, by omega, hid (by rw [HM.out]), by go_num, rfl, by rw [HT.out, List.flatMap_append]; exact hown1, hbel.trans (hb2.mono (Nat.le_succ _)), Nat.lt_of_lt_of_le hzr hb2.size, (hb2.cell (p := ⟨w.heap.size, 0, none⟩) (Nat.lt_succ_self _)).trans g0, (hb2.cell (p := ⟨w.heap.size, 1, none⟩) (Nat.lt_succ_self _)).trans g1, (hb2.cell (p := ⟨w.heap.size, 2, none⟩) (Nat.lt_succ_self _)).trans g2⟩
          case measure => simp [intOf]; omega
      · obtain rfl : k = K := by omega
        have hM : m = k := HM.out
        subst hM
        have hl2 : (pkL e b l m).length = m := by simp [pkL]
        have HL2 := hid hl2
        clear hl2 HM
        by_cases hkl : m < l.length
        · have h4 : 4 ≤ m := by omega
          have h4' : decide ((m : Int) < 4) = false := by simp; omega
          clear hK5
          go_wp2
          go_ret2
          rw [HL2.out]
          exact ⟨A', c', rfl, own_more hown (Nat.le_succ _), hbel⟩
        · have h4 : l.length ≤ m := by omega
          clear hK5
          go_wp2
          go_ret2
          rw [HL2.out]
          exact ⟨A', c', rfl, own_more hown (Nat.le_succ _), hbel⟩
end Go.Proofs.Ytblabipgehkllaa
