/- Contracts of l1Done, asSequence and of the two DifferencesOf. -/
import Derived.Test.YtnihnobnhihoiaaDiff
import Derived.Test.YtnihnobnhihoiaaBase
import Derived.Test.YtnihnobnhihoiaaCopy
namespace Go.Proofs.Ytnihnobnhihoiaa
open Go.RowKit
set_option linter.unusedVariables false
set_option linter.unusedSimpArgs false
def doneOf (xs : List Int) : List Int × Bool := if seqOk xs then (xs, true) else ([], false)
theorem doneOf_yes {xs : List Int} (h : seqOk xs = true) : doneOf xs = (xs, true) := by simp [doneOf, h]
theorem doneOf_no {xs : List Int} (h : seqOk xs = false) : doneOf xs = ([], false) := by simp [doneOf, h]
theorem doneOf_len (xs : List Int) : (doneOf xs).1.length ≤ 1000 := by
  unfold doneOf
  split
  · rename_i h; exact seqOk_len h
  · simp
def RetDone (w : World) (B : Nat) (x : List Int × Bool) (e : Ending) (w' : World) : Prop := ∃ A c, e = .returned (.tuple #[.slice A x.1.length c, .bool x.2]) ∧ Own w B A c x.1 ∧ w = w'
def diffOk (xs : List Int) (k : Int) : Bool := seqOk xs && inB k 0 6
def diffOf (xs : List Int) (k : Int) : List Int × Bool := if diffOk xs k then doneOf (diffN xs k.toNat) else ([], false)
theorem diffOf_yes {xs : List Int} {k : Nat} (h : seqOk xs = true) (hk : k ≤ 6) : diffOf xs k = doneOf (diffN xs k) := by
  have e : diffOk xs k = true := by simp only [diffOk, h, Bool.true_and]; exact inB_true (by omega) (by omega)
  simp [diffOf, e]
theorem diffOf_noSeq {xs : List Int} {k : Int} (h : seqOk xs = false) : diffOf xs k = ([], false) := by simp [diffOf, diffOk, h]
theorem diffOf_noOrder {xs : List Int} {k : Int} (h : inB k 0 6 = false) : diffOf xs k = ([], false) := by simp [diffOf, diffOk, h]
theorem diffOf_len (xs : List Int) (k : Int) : (diffOf xs k).1.length ≤ 1000 := by
  unfold diffOf
  split
  · exact doneOf_len _
  · simp
end Go.Proofs.Ytnihnobnhihoiaa
