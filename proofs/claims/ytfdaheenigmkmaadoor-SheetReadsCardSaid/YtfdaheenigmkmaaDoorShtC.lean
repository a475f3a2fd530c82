/- sheet.Show's closure: a line of numbers. -/
import Derived.Test.YtfdaheenigmkmaaDoorShtW
namespace Go.Proofs.YtfdaheenigmkmaaDoor
open Go.RowKit Go.ChangeShapes Go.WideShapes Go.ChangeAt
set_option linter.unusedVariables false
set_option linter.unusedSimpArgs false
/-- The first numbers of a line. -/
def partL (ns : List Nat) : Nat → List UInt8
  | 0 => []
  | i + 1 => partL ns i ++ ((if 0 < i then [32] else []) ++ Lib.decDigits (ns.getD i 0))
theorem decDigits_len {n : Nat} (h : n ≤ 1152921504606846976) : (Lib.decDigits n).length ≤ 19 := by
  have h1 := dec19 h
  have h2 : (decB n).size = (Lib.decDigits n).length := by unfold decB; show (Lib.decDigits n).toArray.size = _; simp
  omega
theorem partL_len {ns : List Nat} (h : ∀ n ∈ ns, n ≤ 1152921504606846976) : ∀ i, i ≤ ns.length → (partL ns i).length ≤ 20 * i
  | 0, _ => by simp [partL]
  | i + 1, hi => by
    have ih := partL_len h i (by omega)
    have hm : ns.getD i 0 ∈ ns := by rw [List.getD_eq_getElem?_getD, List.getElem?_eq_getElem (by omega)]; exact List.getElem_mem _
    have hd := decDigits_len (h _ hm)
    unfold partL
    rw [List.length_append, List.length_append]
    split
    · rw [List.length_singleton]; omega
    · rw [List.length_nil]; omega
theorem pow_keep {b : Nat} {w w' : World} (h : PowAt w) (hb : Below b w w') (hlt : 4 < b) : PowAt w' := by
  have hg : Tryd.prog.globalNamed "internal/strconv.uint64pow10" = some 4 := by kernel_rfl
  unfold PowAt Lib.TabIs World.var? at *
  rw [hg] at *
  simp only [Option.bind_some] at *
  rw [hb.block 4 hlt]
  exact h
def LcR (ns : List Nat) (b q : Nat) (l : List UInt8) (w : World) (v7 : Value) (wr : World) : Prop :=
  ∃ i : Nat, i ≤ ns.length ∧ v7 = .int .i64 (i : Nat) ∧ Hid (Bld wr b (l ++ partL ns i)) ∧ Hid (wr.heap[q]? = some (.cells (ns.map fun n : Nat => Value.int .i64 (n : Int)).toArray 3 (0, 0))) ∧ Hid (Below b w wr)
set_option maxRecDepth 100000 in
set_option maxHeartbeats 4000000 in
theorem lineC_walk (ns : List Nat) (hns : ∀ n ∈ ns, n ≤ 1152921504606846976) (hl : ns.length ≤ 3) (b q : Nat) (l : List UInt8) (w : World) (hb : Bld w b l) (hq : w.heap[q]? = some (.cells (ns.map fun n : Nat => Value.int .i64 (n : Int)).toArray 3 (0, 0))) (hqb : q ≠ b) (hp : PowAt w) (hb1 : 4 < b) (hlen : l.length + 100 ≤ 140737488355328) :
    Calls Tryd.prog 28 #[.slice (some ⟨q, 0, none⟩) ns.length ns.length, .pointer (some ⟨b, 0, none⟩)] w fun e w' => e = .returned (.tuple #[]) ∧ Bld w' b (l ++ (partL ns ns.length ++ [10])) ∧ Below b w w' := by
  have HNS := hid hns
  have HP := hid hp
  have HR0 : Hid (LcR ns b q l w (.int .i64 (0 : Nat)) w) := hid ⟨0, Nat.zero_le _, rfl, hid (by simpa [partL] using hb), hid hq, hid (Below.refl _ _)⟩
  have HIT := hid (fun (n : Nat) (hn : n ≤ 1152921504606846976) (V : World) (hV : Below b w V) => itoa_all n hn V (pow_keep hp hV hb1))
  clear hb hq hp hns
  go_enter Tryd.func28, Tryd.ntmps28
  go_wp2_with fail
  go_loopw [3, 4, 7] (fun v3 v4 v7 wr => LcR ns b q l w v7 wr) (fun _ _ v7 _ => ns.length - (intOf v7).toNat)
  case atStart => exact HR0.out
  case round =>
    clear HR0
    obtain ⟨i, hi, rfl, HBD, HQ, HBL⟩ := hrel
    have hpl := partL_len HNS.out i hi
    by_cases hlt : i < ns.length
    · obtain ⟨n, hn⟩ : ∃ n, ns[i]? = some n := ⟨_, List.getElem?_eq_getElem hlt⟩
      have hnm := HNS.out n (List.mem_of_getElem? hn)
      have hiz : (i : Int) < (ns.length : Int) := by omega
      have c0 : wr.cell? ⟨q, i, none⟩ = some (.int .i64 (n : Int)) := by
        rw [cell_of_row _ _ i _ _ _ HQ.out]
        simp [hn]
      have hql : q < wr.heap.size := (Array.getElem?_eq_some_iff.1 HQ.out).1
      have HGD : Hid (partL ns (i + 1) = partL ns i ++ ((if 0 < i then [32] else []) ++ Lib.decDigits n)) := hid (by
        show partL ns i ++ ((if 0 < i then [32] else []) ++ Lib.decDigits (ns.getD i 0)) = _
        rw [List.getD_eq_getElem?_getD, hn]; rfl)
      have hdl := decDigits_len hnm
      have HDS : Hid ((decB n).data.toList = Lib.decDigits n ∧ (decB n).size = (Lib.decDigits n).length) := hid ⟨by unfold decB; simp, by unfold decB; show (Lib.decDigits n).toArray.size = _; simp⟩
      have hds := HDS.out.2
      by_cases h0 : 0 < i
      · have hz0 : (0 : Int) < (i : Int) := by omega
        have HW1 := hid (writeByteK b (l ++ partL ns i) 32 wr HBD.out (by rw [List.length_append]; omega))
        have HE : Hid (partL ns (i + 1) = partL ns i ++ [32] ++ Lib.decDigits n) := hid (by rw [HGD.out, if_pos h0, List.append_assoc])
        clear hn HGD h0
        go_wp2_with fail
        refine HW1.out.mono ?_
        rintro e w1 ⟨rfl, d1, b1, k1⟩
        have HB1 := hid (HBL.out.trans b1)
        have HQ1 := hid (k1 q _ _ _ (by decide) hqb HQ.out)
        have HD1 := hid d1
        have HI1 := hid (HIT.out n hnm w1 HB1.out)
        clear d1 b1 k1 HW1
        go_wp2_with fail
        refine HI1.out.mono ?_
        rintro e w2 ⟨rfl, b2⟩
        have hw1 := HD1.out.lt
        have HB2 := hid (HB1.out.trans (b2.mono (by omega)))
        have HQ2 := hid (show w2.heap[q]? = some (.cells (ns.map fun n : Nat => Value.int .i64 (n : Int)).toArray 3 (0, 0)) by rw [b2.block q (Array.getElem?_eq_some_iff.1 HQ1.out).1]; exact HQ1.out)
        have HW2 := hid (writeStringK b (l ++ partL ns i ++ [32]) (decB n) w2 (HD1.out.below b2) (by rw [List.length_append, List.length_append, hds]; simp; omega))
        clear b2
        go_wp2_with fail
        refine HW2.out.mono ?_
        rintro e w3 ⟨rfl, d3, b3, k3⟩
        have HB3 := hid (HB2.out.trans b3)
        have HQ3 := hid (k3 q _ _ _ (by decide) hqb HQ2.out)
        have HD3 := hid d3
        clear d3 b3 k3
        go_wp2_with fail
        go_roundw
        case rel => exact ⟨i + 1, by omega, by go_num, hid (by rw [HE.out, ← HDS.out.1, List.append_assoc, ← List.append_assoc (partL ns i)] at *; have h := HD3.out; simpa [List.append_assoc] using h), HQ3, HB3⟩
        case measure => simp [intOf]; omega
      · obtain rfl : i = 0 := by omega
        have HI1 := hid (HIT.out n hnm wr HBL.out)
        have HE : Hid (partL ns (0 + 1) = partL ns 0 ++ Lib.decDigits n) := hid (by rw [HGD.out, if_neg h0]; rfl)
        clear hn HGD h0
        go_wp2_with fail
        refine HI1.out.mono ?_
        rintro e w2 ⟨rfl, b2⟩
        have hw1 := HBD.out.lt
        have HB2 := hid (HBL.out.trans (b2.mono (by omega)))
        have HQ2 := hid (show w2.heap[q]? = some (.cells (ns.map fun n : Nat => Value.int .i64 (n : Int)).toArray 3 (0, 0)) by rw [b2.block q (Array.getElem?_eq_some_iff.1 HQ.out).1]; exact HQ.out)
        have HW2 := hid (writeStringK b (l ++ partL ns 0) (decB n) w2 (HBD.out.below b2) (by rw [List.length_append, hds]; omega))
        clear b2
        go_wp2_with fail
        refine HW2.out.mono ?_
        rintro e w3 ⟨rfl, d3, b3, k3⟩
        have HB3 := hid (HB2.out.trans b3)
        have HQ3 := hid (k3 q _ _ _ (by decide) hqb HQ2.out)
        have HD3 := hid d3
        clear d3 b3 k3
        go_wp2_with fail
        go_roundw
        case rel => exact ⟨0 + 1, by omega, by go_num, hid (by rw [HE.out, ← HDS.out.1, ← List.append_assoc]; exact HD3.out), HQ3, HB3⟩
        case measure => simp [intOf]; omega
    · obtain rfl : i = ns.length := by omega
      have HW1 := hid (writeByteK b (l ++ partL ns ns.length) 10 wr HBD.out (by rw [List.length_append]; omega))
      go_wp2_with fail
      refine HW1.out.mono ?_
      rintro e w1 ⟨rfl, d1, b1, k1⟩
      go_wp2_with fail
      go_end0
      exact ⟨rfl, by rw [← List.append_assoc]; exact d1, HBL.out.trans b1⟩
end Go.Proofs.YtfdaheenigmkmaaDoor
