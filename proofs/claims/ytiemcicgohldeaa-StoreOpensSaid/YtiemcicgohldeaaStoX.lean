/- store's eye: get, as one contract. -/
import Derived.Test.YtiemcicgohldeaaStoE
namespace Go.Proofs.Ytiemcicgohldeaa
open Go.ChangeShapes Go.WideShapes Go.ChangeAt Go.RowKit
set_option linter.unusedVariables false
set_option linter.unusedSimpArgs false
/-- A number of at most most at the head of bytes, and how many bytes it has. -/
def smallE (l : List Int) (most : Int) : Option (Int × Nat) := if (getv l).2.2 = 0 ∧ (getv l).1 ≤ most then some ((getv l).1, (getv l).2.1.toNat) else none
/-- An eye lies at G; what is left lies below L. -/
structure EO (w : World) (M L G : Nat) (B : Option Addr) (c : Nat) (l : List Int) : Prop where
  le : L ≤ G
  all : w.cell? ⟨G, 0, none⟩ = some (.slice B l.length c)
  fz : w.frozen? ⟨G, 0, none⟩ = false
  rd : Rd w L B 1 l.length (l.map (Value.int .u8))
  cap : l.length ≤ c
  lo : 0 < l.length → ∀ b off, B = some ⟨b, off, none⟩ → M ≤ b
  top : c ≤ 9223372036854775807
  byte : ∀ x ∈ l, 0 ≤ x ∧ x ≤ 255
theorem rd_dropA {w : World} {L b off n k : Nat} {l : List Int} (h : Rd w L (some ⟨b, off, none⟩) 1 n (l.map (Value.int .u8))) (hn : l.length = n) (off' : Nat) (ho : k < n → off' = off + k) : Rd w L (some ⟨b, off', none⟩) 1 (n - k) ((l.drop k).map (Value.int .u8)) := by
  refine ⟨by simp [hn], fun hp => ?_⟩
  obtain ⟨b', o', h1, h2, h3⟩ := h.2 (show 0 < n by omega)
  injection h1 with h1
  injection h1 with h1 h4
  subst h1 h4
  refine ⟨b, off', rfl, h2, fun j u hj => ?_⟩
  rw [ho (by omega), Nat.add_assoc]
  exact h3 (k + j) u (by rw [← hj, List.getElem?_map, List.getElem?_map, List.getElem?_drop])
theorem eyeGet_walk {w : World} {M L G : Nat} {B : Option Addr} {c : Nat} {l : List Int} (h : EO w M L G B c l) (hL : L ≤ w.heap.size) (most : Int) (hm : 0 ≤ most ∧ most ≤ 9223372036854775807) (hn : c ≤ 9223372036854775807) :
    Calls Try.prog 22 #[.pointer (some ⟨G, 0, none⟩), .int .i64 most] w fun e w' => match smallE l most with
      | none => e = .panicked badP ∧ w = w'
      | some (x, k) => e = .returned (.int .i64 x) ∧ ∃ B', EO w' M L G B' (c - k) (l.drop k) ∧ w.grownBy w' (some G) := by
  have hcap := h.cap
  have hr : Rd w w.heap.size B 1 l.length (l.map (Value.int .u8)) := ⟨h.rd.1, fun hp => by obtain ⟨b, off, h1, h2, h3⟩ := h.rd.2 hp; exact ⟨b, off, h1, by omega, h3⟩⟩
  have hg := getv_ok l h.byte
  obtain ⟨⟨x, k, r⟩, hgv⟩ : ∃ v, getv l = v := ⟨_, rfl⟩
  rw [hgv] at hg
  unfold GetOk at hg
  simp only at hg
  unfold smallE
  rw [hgv]
  dsimp only
  by_cases h0 : r = 0
  · subst h0
    obtain ⟨k, rfl⟩ := Int.eq_ofNat_of_zero_le (show 0 ≤ k by omega)
    by_cases hb : x ≤ most
    · rw [if_pos ⟨rfl, hb⟩]
      obtain ⟨b, off, rfl, hbl, hcell⟩ := h.rd.2 (show 0 < l.length by omega)
      refine (eyeGet_ok l most hm w b off c G h.all h.fz hr h.byte (by omega) hgv (by omega) h.cap hn hb (by omega)).mono ?_
      rintro e w' ⟨rfl, off', ho, rfl⟩
      refine ⟨rfl, some ⟨b, off', none⟩, ⟨h.le, ?_, by simpa using h.fz, ?_, by simp; omega, fun _ b' o' e => by injection e with e; injection e with e; subst e; exact h.lo (by omega) b off rfl, by omega, fun y hy => h.byte y (List.mem_of_mem_drop hy)⟩, ?_⟩
      · have h5 := World.cell?_setCell_same w ⟨G, 0, none⟩ (.slice (some ⟨b, off', none⟩) (l.length - k) (c - k)) h.all
        rw [List.length_drop]; exact h5
      · rw [List.length_drop]
        exact rd_dropA (h.rd.below ((Below.refl L w).setCell (by exact h.le) _)) rfl off' ho
      · exact grown_setCells G [.slice (some ⟨b, off', none⟩) (l.length - k) (c - k)] 0 w
    · rw [if_neg (fun hh => hb hh.2)]
      exact eyeGet_big l most hm w B c G h.all h.fz hr h.byte (by omega) hgv hb
  · rw [if_neg (fun hh => h0 hh.1)]
    exact eyeGet_bad l most hm w B c G h.all hr h.byte (by omega) (by rw [hgv]; exact h0)
end Go.Proofs.Ytiemcicgohldeaa
