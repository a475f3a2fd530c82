/- Boards: what their calls answer. Plain. -/
import Derived.Test.YtaipjckcckfnaaaBoardD
namespace Go.Proofs.Ytaipjckcckfnaaa
set_option linter.unusedVariables false
def big : Int := 1099511627776
def cntOk (l : List Int) (wk : Int) : Prop := (l.length : Int) = wk ∧ ∀ n ∈ l, 0 ≤ n ∧ n ≤ 1099511627776
def repFits (wk : Int) (r : Report) : Prop := (0 ≤ r.worker ∧ r.worker < wk) ∧ cntOk r.sent wk ∧ cntOk r.got wk ∧ (0 ≤ r.waking ∧ r.waking ≤ 1099511627776) ∧ 0 ≤ r.opn ∧ r.opn ≤ 1099511627776
open Classical in
/-- What is wrong with a report on a board of so many workers, of that epoch and step. -/
noncomputable def repV (wk ep st : Int) (r : Report) : Int := if ¬ repFits wk r then 2 else if r.epoch ≠ ep ∨ r.step ≠ st then 11 else 0
def bdFits (wk ep st : Int) : Prop := (1 ≤ wk ∧ wk ≤ 8) ∧ (0 ≤ ep ∧ ep ≤ 1099511627776) ∧ 0 ≤ st ∧ st ≤ 100000
/-- May a board be? -/
def bdOk (wk ep st : Int) (l : List Report) : Prop := bdFits wk ep st ∧ (∀ r ∈ l, repV wk ep st r = 0) ∧ l.Pairwise fun a b => a.worker ≠ b.worker
/-- The report of a worker. -/
def repBy (l : List Report) (w : Int) : Option Nat := l.findIdx? fun r => r.worker == w
open Classical in
noncomputable def hearV (wk ep st : Int) (l : List Report) (r : Report) : Option (List Report) × Int :=
  if ¬ bdOk wk ep st l then (none, 9) else if repV wk ep st r ≠ 0 then (none, repV wk ep st r) else if ∃ x ∈ l, x.worker = r.worker then (none, 8) else (some (l ++ [r]), 0)
/-- All that was sent has come. -/
def agree (l : List Report) : Prop := ∀ r ∈ l, ∀ s ∈ l, r.sent.getD s.worker.toNat 0 = s.got.getD r.worker.toNat 0
def sumOf (f : Report → Int) (l : List Report) : Int := (l.map f).sum
open Classical in
noncomputable def readyV (wk ep st : Int) (l : List Report) : Int × Int × Int :=
  if ¬ bdOk wk ep st l then (0, 0, 9) else if (l.length : Int) < wk then (0, 0, 12) else if agree l then (sumOf (·.waking) l, sumOf (·.opn) l, 0) else (0, 0, 12)
end Go.Proofs.Ytaipjckcckfnaaa
