/- The statement on disk.Append. -/
import Derived.Test.YtdmakcenfbfpaaaDiskI
import Derived.Test.YtdmakcenfbfpaaaSameD
import Derived.Test.YtdmakcenfbfpaaaBase
import Derived.Deep.DeepCutAuto
namespace Go.Proofs.Ytdmakcenfbfpaaa
open Go.ChangeShapes Go.WideShapes Go.ChangeAt Go.RowKit
set_option linter.unusedVariables false
set_option linter.unusedSimpArgs false
def LdaCut (v : List File) (r : Int) (w1 W : World) (s8 s9 : Value) (wx : World) : Prop :=
  ∃ (P : Nat) (A2 : Option Addr) (k2 : Nat) (l2 : List MFile), s8 = .pointer (some ⟨P, 0, none⟩) ∧ s9 = .int .i64 r ∧ Hid (files l2 = v) ∧ Files wx wx.heap.size A2 l2 ∧ wx.cell? ⟨P, 0, none⟩ = some (.slice A2 v.length k2) ∧ P < wx.heap.size ∧ Below W.heap.size W wx
set_option maxRecDepth 100000 in
set_option maxHeartbeats 2000000 in
theorem law_DiskAppends (w : World) (l : List MFile) (A : Option Addr) (c : Nat) (hf : Flat w w.heap.size 48 3 MFile.cells A c l) (hw : ∀ x ∈ l, x.wf w) (n : ByteArray) (hz : n.size ≤ 140737488351232) (bs : List Int) (Ab : Option Addr) (cb : Nat) (hg : Flat w w.heap.size 1 1 u8c Ab cb bs) (hgb : ∀ x ∈ bs, 0 ≤ x ∧ x ≤ 255) :
    Calls Try.prog 3 #[.agg #[.slice A l.length c], .string n, .slice Ab bs.length cb] w fun e w' => e = .returned (.bool true) ∧ Below w.heap.size w w' := by
  have hF := files_of hf hw
  have hm := okm_wf hw
  obtain ⟨f1, f2, f3, f4⟩ := hf
  obtain ⟨g1, g2, g3, g4⟩ := hg
  have hn : l.length * 48 ≤ 140737488355328 := by omega
  have hbl : bs.length ≤ 140737488355328 := by omega
  have hlen := appF_len (files l) n bs
  have b0 := bA (Below.refl w.heap.size w) (.cells #[.slice A l.length c] 24)
  have HC := hid (disks_walk l _ A c (Files.b hF b0) hn hm.1)
  clear hw f1 f2 f3 f4 hgb
  go_enter Try.func3, Try.ntmps3
  go_wp2_with fail
  refine HC.out.mono ?_
  rintro e w1 ⟨A1, k1, l1, rfl, hf1, hl1, hown, b1⟩
  have b01 := bT b0 b1
  have hF1 : Files w1 w1.heap.size A1 l1 := hown
  have j0 : w1.cell? ⟨w.heap.size, 0, none⟩ = some (.slice A l.length c) := keepb b1 (by go_simp)
  have hm1 := okm_of hf1 hm
  have bX := bA (Below.refl w1.heap.size w1) (.cells #[.slice A1 l.length k1] 24)
  have HR := hid (fun V (hV : Below w1.heap.size w1 V) Ao ko (ho : Rd V V.heap.size Ao 1 bs.length (bs.flatMap u8c)) => append_walk l1 n bs V A1 k1 Ao ko (Files.b hF1 hV) (by rw [hl1]; exact hn) hm1 ho hbl)
  rw [hf1, hl1] at HR
  have HR2 := hid (fun w2 h h2 => appended_walk l n bs w2 A c Ab cb h hn hm h2 hbl)
  generalize appF (files l) n bs = z at HR HR2 hlen
  obtain ⟨v, r⟩ := z
  simp only [files_length] at hlen
  have HF1 := hid hf1
  have HL1 := hid hl1
  clear hf1 hl1 hown hm1
  have g0 : (w1.alloc (.cells #[.slice A1 l.length k1] 24)).cell? ⟨w1.heap.size, 0, none⟩ = some (.slice A1 l.length k1) := by go_simp
  have j0 := keepb bX j0
  have HX1 := hid (fun (V : World) (hV : Below (w1.alloc (.cells #[.slice A1 l.length k1] 24)).heap.size (w1.alloc (.cells #[.slice A1 l.length k1] 24)) V) => bT bX hV)
  have HO := hid (fun (V : World) (hV : Below (w1.alloc (.cells #[.slice A1 l.length k1] 24)).heap.size (w1.alloc (.cells #[.slice A1 l.length k1] 24)) V) => octets_copy bs V Ab bs.length cb _ (rdb g4 (by decide) (bT b01 (bT bX hV))) (by omega))
  have HA := hid (fun (V : World) Ao ko (hV : Below (w1.alloc (.cells #[.slice A1 l.length k1] 24)).heap.size (w1.alloc (.cells #[.slice A1 l.length k1] 24)) V) ho => HR.out V (bT bX hV) Ao ko ho)
  have HK : Hid (∀ V, Below (w1.alloc (.cells #[.slice A1 l.length k1] 24)).heap.size (w1.alloc (.cells #[.slice A1 l.length k1] 24)) V → ((fun V => Below (w1.alloc (.cells #[.slice A1 l.length k1] 24)).heap.size (w1.alloc (.cells #[.slice A1 l.length k1] 24)) V ∧ V.cell? ⟨w1.heap.size, 0, none⟩ = some (.slice A1 l.length k1)) : World → Prop) V) := hid fun V hV => ⟨hV, keepb hV g0⟩
  unfold RetDG at HA HR2
  go_upto_region 2 with fail
  go_cut [8, 9] (fun s8 s9 wx => LdaCut v r w1 (w1.alloc (.cells #[.slice A1 l.length k1] 24)) s8 s9 wx)
  case first =>
    refine wp_region_F (S := (fun V => Below (w1.alloc (.cells #[.slice A1 l.length k1] 24)).heap.size (w1.alloc (.cells #[.slice A1 l.length k1] 24)) V ∧ V.cell? ⟨w1.heap.size, 0, none⟩ = some (.slice A1 l.length k1))) [] (by kernel_rfl) (HK.out _ (bD (Below.refl _ _))) (fun hHeld => ?_)
    refine wpAnyF_pure (i := 1) (v := ?vg1_1_1) rfl (by kernel_rfl) (by kernel_rfl) (by kernel_rfl) (fun _ _ _ h => h) (Or.inl ⟨by rfl, ?hyg1_1_1⟩) ?restg1_1_1
    case hyg1_1_1 => (intro w hSw; clear hSw; go_simp; (all_goals with_reducible rfl))
    try simp only [Act.put, List.setIfInBounds_toArray, List.set_cons_zero, List.set_cons_succ, List.getElem_toArray, List.getElem_cons_succ, List.getElem_cons_zero]
    refine wpAnyF_pure (i := 2) (v := ?vg1_2_2) rfl (by kernel_rfl) (by kernel_rfl) (by kernel_rfl) (fun _ _ _ h => h) (Or.inl ⟨by rfl, ?hyg1_2_2⟩) ?restg1_2_2
    case hyg1_2_2 => (intro w hSw; clear hSw; go_simp; (all_goals with_reducible rfl))
    try simp only [Act.put, List.setIfInBounds_toArray, List.set_cons_zero, List.set_cons_succ, List.getElem_toArray, List.getElem_cons_succ, List.getElem_cons_zero]
    refine wpAnyF_take [4, 5, 6, 7, 9, 10] (i := 0) (v := ?vg1_3_0) rfl (by kernel_rfl) (by kernel_rfl) (by kernel_rfl) (by kernel_rfl) (fun _ _ _ h => h) (Or.inl ⟨by rfl, ?hyg1_3_0⟩) (by assumption) ?restg1_3_0
    case hyg1_3_0 => (intro w hSw; (try dsimp only at hSw); go_simp; (all_goals with_reducible rfl))
    try simp only [Act.put, List.setIfInBounds_toArray, List.set_cons_zero, List.set_cons_succ, List.getElem_toArray, List.getElem_cons_succ, List.getElem_cons_zero]
    refine wpAnyF_ready (rs := [3, 8]) (by kernel_rfl) (by simp) ?_
    refine AllReadyF.cons rfl (fun K hK => ?_) ?_
    · go_simp
      go_at_call 10
      refine (HO.out _ hHeld.1).mono ?_
      rintro e w2 ⟨Ao, ko, rfl, oo, bo⟩
      have oo := rd_own oo
      go_wp2_with fail
      refine hK.out _ _ (HK.out _ (bT hHeld.1 bo)) (fun hHeld => ?_)
      clear hK K
      try simp only [Act.put, List.setIfInBounds_toArray, List.set_cons_zero, List.set_cons_succ, List.getElem_toArray, List.getElem_cons_succ, List.getElem_cons_zero]
      refine wpAnyF_ready (rs := [4, 8]) (by kernel_rfl) (by simp) ?_
      refine AllReadyF.cons rfl (fun K hK => ?_) ?_
      · go_simp
        go_at_call 9
        refine (HA.out _ Ao ko hHeld.1 (Rd.any oo (by decide))).mono ?_
        rintro e w3 ⟨A2, k2, l2, rfl, hf2, r2, b2⟩
        have HF2 := hid hf2
        clear hf2
        go_wp2_with fail
        refine hK.out _ _ (HK.out _ (bT hHeld.1 b2)) (fun hHeld => ?_)
        clear hK K
        try simp only [Act.put, List.setIfInBounds_toArray, List.set_cons_zero, List.set_cons_succ, List.getElem_toArray, List.getElem_cons_succ, List.getElem_cons_zero]
        refine wpAnyF_pure (i := 5) (v := ?vg1_6_5) rfl (by kernel_rfl) (by kernel_rfl) (by kernel_rfl) (fun _ _ _ h => h) (Or.inl ⟨by rfl, ?hyg1_6_5⟩) ?restg1_6_5
        case hyg1_6_5 => (intro w hSw; clear hSw; go_simp; (all_goals with_reducible rfl))
        try simp only [Act.put, List.setIfInBounds_toArray, List.set_cons_zero, List.set_cons_succ, List.getElem_toArray, List.getElem_cons_succ, List.getElem_cons_zero]
        refine wpAnyF_pure (i := 6) (v := ?vg1_7_6) rfl (by kernel_rfl) (by kernel_rfl) (by kernel_rfl) (fun _ _ _ h => h) (Or.inl ⟨by rfl, ?hyg1_7_6⟩) ?restg1_7_6
        case hyg1_7_6 => (intro w hSw; clear hSw; go_simp; (all_goals with_reducible rfl))
        try simp only [Act.put, List.setIfInBounds_toArray, List.set_cons_zero, List.set_cons_succ, List.getElem_toArray, List.getElem_cons_succ, List.getElem_cons_zero]
        refine wpAnyF_pure (i := 7) (v := ?vg1_8_7) rfl (by kernel_rfl) (by kernel_rfl) (by kernel_rfl) (fun _ _ _ h => h) (Or.inl ⟨by rfl, ?hyg1_8_7⟩) ?restg1_8_7
        case hyg1_8_7 => (intro w hSw; clear hSw; go_simp; (all_goals with_reducible rfl))
        try simp only [Act.put, List.setIfInBounds_toArray, List.set_cons_zero, List.set_cons_succ, List.getElem_toArray, List.getElem_cons_succ, List.getElem_cons_zero]
        refine wpAnyF_one (i := 8) (by kernel_rfl) rfl (fun K hK => ?_)
        go_simp
        have B8 : Below (w1.alloc (.cells #[.slice A1 l.length k1] 24)).heap.size (w1.alloc (.cells #[.slice A1 l.length k1] 24)) (w3.alloc (.cells #[.slice none 0 0] 24)) := bA hHeld.1 (.cells #[.slice none 0 0] 24)
        have c8 : (w3.alloc (.cells #[.slice none 0 0] 24)).cell? ⟨w3.heap.size, 0, none⟩ = some (.slice none 0 0) := by go_simp
        have f8 : (w3.alloc (.cells #[.slice none 0 0] 24)).frozen? ⟨w3.heap.size, 0, none⟩ = false := by go_simp
        have h8 : w3.heap.size < (w3.alloc (.cells #[.slice none 0 0] 24)).heap.size := by simp
        have n8 : (w1.alloc (.cells #[.slice A1 l.length k1] 24)).heap.size ≤ w3.heap.size := hHeld.1.size
        have B38 := bA (Below.refl w3.heap.size w3) (.cells #[.slice none 0 0] 24)
        generalize w3.alloc (.cells #[.slice none 0 0] 24) = w8 at *
        refine hK.out _ _ (HK.out _ B8) (fun hHeld => ?_)
        clear hK K
        try simp only [Act.put, List.setIfInBounds_toArray, List.set_cons_zero, List.set_cons_succ, List.getElem_toArray, List.getElem_cons_succ, List.getElem_cons_zero]
        refine wpAnyF_one (i := 9) (by kernel_rfl) rfl (fun K hK => ?_)
        go_simp
        refine hK.out _ _ (HK.out _ (bS hHeld.1 n8 _)) (fun hHeld => ?_)
        clear hK K
        try simp only [Act.put, List.setIfInBounds_toArray, List.set_cons_zero, List.set_cons_succ, List.getElem_toArray, List.getElem_cons_succ, List.getElem_cons_zero]
        refine wpAnyF_pure (i := 10) (v := ?vg1_11_10) rfl (by kernel_rfl) (by kernel_rfl) (by kernel_rfl) (fun _ _ _ h => h) (Or.inl ⟨by rfl, ?hyg1_11_10⟩) ?restg1_11_10
        case hyg1_11_10 => (intro w hSw; clear hSw; go_simp; (all_goals with_reducible rfl))
        try simp only [Act.put, List.setIfInBounds_toArray, List.set_cons_zero, List.set_cons_succ, List.getElem_toArray, List.getElem_cons_succ, List.getElem_cons_zero]
        refine wpAnyF_done (by kernel_rfl) ?_ _
        go_wp2_with fail
        go_meet
        exact ⟨w3.heap.size, A2, k2, l2, rfl, rfl, HF2, Files.b (FGrid.files r2) (bS (p := ⟨w3.heap.size, 0, none⟩) B38 (Nat.le_refl _) _), World.cell?_setCell_same _ _ _ c8, (by simpa using h8), hHeld.1⟩
      refine AllReadyF.cons rfl (fun K hK => ?_) AllReadyF.nil
      go_simp
      have B8 : Below (w1.alloc (.cells #[.slice A1 l.length k1] 24)).heap.size (w1.alloc (.cells #[.slice A1 l.length k1] 24)) (w2.alloc (.cells #[.slice none 0 0] 24)) := bA hHeld.1 (.cells #[.slice none 0 0] 24)
      have c8 : (w2.alloc (.cells #[.slice none 0 0] 24)).cell? ⟨w2.heap.size, 0, none⟩ = some (.slice none 0 0) := by go_simp
      have f8 : (w2.alloc (.cells #[.slice none 0 0] 24)).frozen? ⟨w2.heap.size, 0, none⟩ = false := by go_simp
      have h8 : w2.heap.size < (w2.alloc (.cells #[.slice none 0 0] 24)).heap.size := by simp
      have n8 : (w1.alloc (.cells #[.slice A1 l.length k1] 24)).heap.size ≤ w2.heap.size := hHeld.1.size
      have oo := Rd.below oo (bA (Below.refl w2.heap.size w2) (.cells #[.slice none 0 0] 24))
      generalize w2.alloc (.cells #[.slice none 0 0] 24) = w8 at *
      refine hK.out _ _ (HK.out _ B8) (fun hHeld => ?_)
      clear hK K
      try simp only [Act.put, List.setIfInBounds_toArray, List.set_cons_zero, List.set_cons_succ, List.getElem_toArray, List.getElem_cons_succ, List.getElem_cons_zero]
      refine wpAnyF_one (i := 4) (by kernel_rfl) rfl (fun K hK => ?_)
      have h8b := h8
      go_simp
      go_at_call 9
      refine (HA.out _ Ao ko hHeld.1 (Rd.any oo (by decide))).mono ?_
      rintro e w3 ⟨A2, k2, l2, rfl, hf2, r2, b2⟩
      have HF2 := hid hf2
      clear hf2
      have c8 := keepb b2 c8
      have f8 := keepf b2 f8 h8
      have h8 := Nat.lt_of_lt_of_le h8 b2.size
      go_wp2_with fail
      refine hK.out _ _ (HK.out _ (bT hHeld.1 b2)) (fun hHeld => ?_)
      clear hK K
      try simp only [Act.put, List.setIfInBounds_toArray, List.set_cons_zero, List.set_cons_succ, List.getElem_toArray, List.getElem_cons_succ, List.getElem_cons_zero]
      refine wpAnyF_pure (i := 5) (v := ?vg1_13_5) rfl (by kernel_rfl) (by kernel_rfl) (by kernel_rfl) (fun _ _ _ h => h) (Or.inl ⟨by rfl, ?hyg1_13_5⟩) ?restg1_13_5
      case hyg1_13_5 => (intro w hSw; clear hSw; go_simp; (all_goals with_reducible rfl))
      try simp only [Act.put, List.setIfInBounds_toArray, List.set_cons_zero, List.set_cons_succ, List.getElem_toArray, List.getElem_cons_succ, List.getElem_cons_zero]
      refine wpAnyF_pure (i := 6) (v := ?vg1_14_6) rfl (by kernel_rfl) (by kernel_rfl) (by kernel_rfl) (fun _ _ _ h => h) (Or.inl ⟨by rfl, ?hyg1_14_6⟩) ?restg1_14_6
      case hyg1_14_6 => (intro w hSw; clear hSw; go_simp; (all_goals with_reducible rfl))
      try simp only [Act.put, List.setIfInBounds_toArray, List.set_cons_zero, List.set_cons_succ, List.getElem_toArray, List.getElem_cons_succ, List.getElem_cons_zero]
      refine wpAnyF_pure (i := 7) (v := ?vg1_15_7) rfl (by kernel_rfl) (by kernel_rfl) (by kernel_rfl) (fun _ _ _ h => h) (Or.inl ⟨by rfl, ?hyg1_15_7⟩) ?restg1_15_7
      case hyg1_15_7 => (intro w hSw; clear hSw; go_simp; (all_goals with_reducible rfl))
      try simp only [Act.put, List.setIfInBounds_toArray, List.set_cons_zero, List.set_cons_succ, List.getElem_toArray, List.getElem_cons_succ, List.getElem_cons_zero]
      refine wpAnyF_one (i := 9) (by kernel_rfl) rfl (fun K hK => ?_)
      go_simp
      refine hK.out _ _ (HK.out _ (bS hHeld.1 n8 _)) (fun hHeld => ?_)
      clear hK K
      try simp only [Act.put, List.setIfInBounds_toArray, List.set_cons_zero, List.set_cons_succ, List.getElem_toArray, List.getElem_cons_succ, List.getElem_cons_zero]
      refine wpAnyF_pure (i := 10) (v := ?vg1_17_10) rfl (by kernel_rfl) (by kernel_rfl) (by kernel_rfl) (fun _ _ _ h => h) (Or.inl ⟨by rfl, ?hyg1_17_10⟩) ?restg1_17_10
      case hyg1_17_10 => (intro w hSw; clear hSw; go_simp; (all_goals with_reducible rfl))
      try simp only [Act.put, List.setIfInBounds_toArray, List.set_cons_zero, List.set_cons_succ, List.getElem_toArray, List.getElem_cons_succ, List.getElem_cons_zero]
      refine wpAnyF_done (by kernel_rfl) ?_ _
      go_wp2_with fail
      go_meet
      exact ⟨w2.heap.size, A2, k2, l2, rfl, rfl, HF2, FGrid.files (OwnGrid.store (a := ⟨w2.heap.size, 0, none⟩) r2 h8b _), World.cell?_setCell_same _ _ _ c8, (by simpa using h8), hHeld.1⟩
    refine AllReadyF.cons rfl (fun K hK => ?_) AllReadyF.nil
    go_simp
    have B8 : Below (w1.alloc (.cells #[.slice A1 l.length k1] 24)).heap.size (w1.alloc (.cells #[.slice A1 l.length k1] 24)) (((w1.alloc (.cells #[.slice A1 l.length k1] 24)).alloc (.cells #[.slice none 0 0] 24)).drew) := bD (bA (Below.refl _ _) (.cells #[.slice none 0 0] 24))
    have c8 : (((w1.alloc (.cells #[.slice A1 l.length k1] 24)).alloc (.cells #[.slice none 0 0] 24)).drew).cell? ⟨(w1.heap.size + 1), 0, none⟩ = some (.slice none 0 0) := by go_simp
    have f8 : (((w1.alloc (.cells #[.slice A1 l.length k1] 24)).alloc (.cells #[.slice none 0 0] 24)).drew).frozen? ⟨(w1.heap.size + 1), 0, none⟩ = false := by go_simp
    have h8 : (w1.heap.size + 1) < (((w1.alloc (.cells #[.slice A1 l.length k1] 24)).alloc (.cells #[.slice none 0 0] 24)).drew).heap.size := by simp
    have n8 : (w1.alloc (.cells #[.slice A1 l.length k1] 24)).heap.size ≤ (w1.heap.size + 1) := by simp
    generalize ((w1.alloc (.cells #[.slice A1 l.length k1] 24)).alloc (.cells #[.slice none 0 0] 24)).drew = w8 at *
    refine hK.out _ _ (HK.out _ B8) (fun hHeld => ?_)
    clear hK K
    try simp only [Act.put, List.setIfInBounds_toArray, List.set_cons_zero, List.set_cons_succ, List.getElem_toArray, List.getElem_cons_succ, List.getElem_cons_zero]
    refine wpAnyF_one (i := 3) (by kernel_rfl) rfl (fun K hK => ?_)
    go_simp
    go_at_call 10
    refine (HO.out _ hHeld.1).mono ?_
    rintro e w2 ⟨Ao, ko, rfl, oo, bo⟩
    have oo := rd_own oo
    have c8 := keepb bo c8
    have f8 := keepf bo f8 h8
    have h8 := Nat.lt_of_lt_of_le h8 bo.size
    go_wp2_with fail
    refine hK.out _ _ (HK.out _ (bT hHeld.1 bo)) (fun hHeld => ?_)
    clear hK K
    try simp only [Act.put, List.setIfInBounds_toArray, List.set_cons_zero, List.set_cons_succ, List.getElem_toArray, List.getElem_cons_succ, List.getElem_cons_zero]
    refine wpAnyF_one (i := 4) (by kernel_rfl) rfl (fun K hK => ?_)
    have h8b := h8
    go_simp
    go_at_call 9
    refine (HA.out _ Ao ko hHeld.1 (Rd.any oo (by decide))).mono ?_
    rintro e w3 ⟨A2, k2, l2, rfl, hf2, r2, b2⟩
    have HF2 := hid hf2
    clear hf2
    have c8 := keepb b2 c8
    have f8 := keepf b2 f8 h8
    have h8 := Nat.lt_of_lt_of_le h8 b2.size
    go_wp2_with fail
    refine hK.out _ _ (HK.out _ (bT hHeld.1 b2)) (fun hHeld => ?_)
    clear hK K
    try simp only [Act.put, List.setIfInBounds_toArray, List.set_cons_zero, List.set_cons_succ, List.getElem_toArray, List.getElem_cons_succ, List.getElem_cons_zero]
    refine wpAnyF_pure (i := 5) (v := ?vg1_20_5) rfl (by kernel_rfl) (by kernel_rfl) (by kernel_rfl) (fun _ _ _ h => h) (Or.inl ⟨by rfl, ?hyg1_20_5⟩) ?restg1_20_5
    case hyg1_20_5 => (intro w hSw; clear hSw; go_simp; (all_goals with_reducible rfl))
    try simp only [Act.put, List.setIfInBounds_toArray, List.set_cons_zero, List.set_cons_succ, List.getElem_toArray, List.getElem_cons_succ, List.getElem_cons_zero]
    refine wpAnyF_pure (i := 6) (v := ?vg1_21_6) rfl (by kernel_rfl) (by kernel_rfl) (by kernel_rfl) (fun _ _ _ h => h) (Or.inl ⟨by rfl, ?hyg1_21_6⟩) ?restg1_21_6
    case hyg1_21_6 => (intro w hSw; clear hSw; go_simp; (all_goals with_reducible rfl))
    try simp only [Act.put, List.setIfInBounds_toArray, List.set_cons_zero, List.set_cons_succ, List.getElem_toArray, List.getElem_cons_succ, List.getElem_cons_zero]
    refine wpAnyF_pure (i := 7) (v := ?vg1_22_7) rfl (by kernel_rfl) (by kernel_rfl) (by kernel_rfl) (fun _ _ _ h => h) (Or.inl ⟨by rfl, ?hyg1_22_7⟩) ?restg1_22_7
    case hyg1_22_7 => (intro w hSw; clear hSw; go_simp; (all_goals with_reducible rfl))
    try simp only [Act.put, List.setIfInBounds_toArray, List.set_cons_zero, List.set_cons_succ, List.getElem_toArray, List.getElem_cons_succ, List.getElem_cons_zero]
    refine wpAnyF_one (i := 9) (by kernel_rfl) rfl (fun K hK => ?_)
    go_simp
    refine hK.out _ _ (HK.out _ (bS hHeld.1 n8 _)) (fun hHeld => ?_)
    clear hK K
    try simp only [Act.put, List.setIfInBounds_toArray, List.set_cons_zero, List.set_cons_succ, List.getElem_toArray, List.getElem_cons_succ, List.getElem_cons_zero]
    refine wpAnyF_pure (i := 10) (v := ?vg1_24_10) rfl (by kernel_rfl) (by kernel_rfl) (by kernel_rfl) (fun _ _ _ h => h) (Or.inl ⟨by rfl, ?hyg1_24_10⟩) ?restg1_24_10
    case hyg1_24_10 => (intro w hSw; clear hSw; go_simp; (all_goals with_reducible rfl))
    try simp only [Act.put, List.setIfInBounds_toArray, List.set_cons_zero, List.set_cons_succ, List.getElem_toArray, List.getElem_cons_succ, List.getElem_cons_zero]
    refine wpAnyF_done (by kernel_rfl) ?_ _
    go_wp2_with fail
    go_meet
    exact ⟨(w1.heap.size + 1), A2, k2, l2, rfl, rfl, HF2, FGrid.files (OwnGrid.store (a := ⟨(w1.heap.size + 1), 0, none⟩) r2 h8b _), World.cell?_setCell_same _ _ _ c8, (by simpa using h8), hHeld.1⟩
  case rest =>
    obtain ⟨P, A2, k2, l2, rfl, rfl, HF2, r2, h0, hP, bW⟩ := hcut
    have b12 := bT bX bW
    have b02 := bT b01 b12
    have g0 := keepb bW g0
    have j0 := keepb bW j0
    go_wp2_with fail
    refine (HR2.out _ (Files.b hF b02) (rdb g4 (by decide) b02)).mono ?_
    rintro e w3 ⟨A3, k3, l3, rfl, hf3, r3, b3⟩
    have b13 := bT b12 b3
    have b03 := bT b02 b3
    have g0 := keepb b3 g0
    have j0 := keepb b3 j0
    have h0 := keepb b3 h0
    have HF3 := hid hf3
    clear hf3
    have bZ := bA (Below.refl w3.heap.size w3) (.cells #[.slice A3 v.length k3] 24)
    have g0 := keepb bZ g0
    have j0 := keepb bZ j0
    have h0 := keepb bZ h0
    go_wp2_with fail
    refine (sameDisk_walk l2 l3 _ A2 A3 v.length k2 k3 (HF3.out.trans HF2.out.symm) (by rw [← files_length, HF2.out]) (Files.b r2 (bT b3 bZ)) (Files.b (FGrid.files r3) bZ) (by omega)).mono ?_
    rintro e w4 ⟨rfl, b4⟩
    have b14 := bT bZ b4
    have g0 := keepb b4 g0
    have j0 := keepb b4 j0
    go_wp2_with fail
    refine (sameDisk_walk l1 l _ A1 A l.length k1 c HF1.out.symm HL1.out (Files.b hF1 (bT b13 b14)) (Files.b hF (bT b03 b14)) (by omega)).mono ?_
    rintro e w5 ⟨rfl, b5⟩
    go_wp2_with fail
    go_ret
    exact ⟨by simp, bT (bT b03 b14) b5⟩
end Go.Proofs.Ytdmakcenfbfpaaa
