/- Contracts of the small tests of numbers, and of the tests of a Comb and of an Accumulator: each returns the same plain test. -/
import Derived.Test.YtfplecbacgcjgaaBase
namespace Go.Proofs.Ytfplecbacgcjgaa
open Go.RowKit
set_option linter.unusedVariables false
set_option linter.unusedSimpArgs false
theorem l1In_any (x a b : Int) (w : World) :
    Calls Try.prog 70 #[.int .i64 x, .int .i64 a, .int .i64 b] w fun e w' => e = .returned (.bool (inB x a b)) ∧ w = w' := by
  go_enter Try.func70, Try.ntmps70
  go_wp2
  all_goals (go_ret; exact ⟨ret_bool (by simp [inB]; try omega), rfl⟩)
theorem isRatio_any (x : Int) (w : World) :
    Calls Try.prog 68 #[.int .i64 x] w fun e w' => e = .returned (.bool (inB x 1 100)) ∧ w = w' := by
  go_enter Try.func68, Try.ntmps68
  go_wp2
  all_goals (go_ret; exact ⟨ret_bool (by simp [inB]; try omega), rfl⟩)
theorem isWidth_any (x : Int) (w : World) :
    Calls Try.prog 53 #[.int .i64 x] w fun e w' => e = .returned (.bool (inB x 2 62)) ∧ w = w' := by
  go_enter Try.func53, Try.ntmps53
  go_wp2
  all_goals (go_ret; exact ⟨ret_bool (by simp [inB]; try omega), rfl⟩)
theorem isOrder_any (x : Int) (w : World) :
    Calls Try.prog 85 #[.int .i64 x] w fun e w' => e = .returned (.bool (inB x 0 6)) ∧ w = w' := by
  go_enter Try.func85, Try.ntmps85
  go_wp2
  all_goals (go_ret; exact ⟨ret_bool (by simp [inB]; try omega), rfl⟩)
theorem isSample_any (x : Int) (w : World) :
    Calls Try.prog 81 #[.int .i64 x] w fun e w' => e = .returned (.bool (inB x (-1099511627776) 1099511627776)) ∧ w = w' := by
  go_enter Try.func81, Try.ntmps81
  go_wp2
  all_goals (go_ret; exact ⟨ret_bool (by simp [inB]; try omega), rfl⟩)
theorem l1Sample_any (x : Int) (w : World) :
    Calls Try.prog 83 #[.int .i64 x] w fun e w' => e = .returned (.bool (inB x (-1099511627776) 1099511627776)) ∧ w = w' := by
  go_enter Try.func83, Try.ntmps83
  go_wp2_with (go_at_call 70; refine (l1In_any _ _ _ _).mono ?_; rintro e w' ⟨rfl, rfl⟩)
  all_goals (go_ret; exact ⟨rfl, rfl⟩)
def accOk (o m : Int) : Bool := inB o 1 6 && inB m 2 1048576
def combOk (o r k : Int) : Bool := inB o 1 6 && inB r 1 100 && inB k 2 62
theorem comb_parts {o r k : Int} (h : combOk o r k = true) : (1 ≤ o ∧ o ≤ 6) ∧ (1 ≤ r ∧ r ≤ 100) ∧ 2 ≤ k ∧ k ≤ 62 := by
  simp [combOk, inB] at h; omega
theorem specIsComb_any (o r k : Int) (w : World) :
    Calls Try.prog 57 #[.agg #[.int .i64 o, .int .i64 r, .int .i64 k]] w fun e w' => e = .returned (.bool (combOk o r k)) ∧ Below w.heap.size w w' := by
  go_enter Try.func57, Try.ntmps57
  go_wp2_with (go_at_call 70; refine (l1In_any _ _ _ _).mono ?_; rintro e w' ⟨rfl, rfl⟩)
  all_goals (go_ret; exact ⟨ret_bool (by simp [combOk, *]), (Below.refl _ _).alloc (Nat.le_refl _) _⟩)
theorem implIsComb_any (o r k : Int) (w : World) :
    Calls Try.prog 52 #[.agg #[.int .i64 o, .int .i64 r, .int .i64 k]] w fun e w' => e = .returned (.bool (combOk o r k)) ∧ Below w.heap.size w w' := by
  go_enter Try.func52, Try.ntmps52
  go_wp2_with (first | (go_at_call 68; refine (isRatio_any _ _).mono ?_; rintro e w' ⟨rfl, rfl⟩) | (go_at_call 53; refine (isWidth_any _ _).mono ?_; rintro e w' ⟨rfl, rfl⟩))
  all_goals (go_ret; exact ⟨ret_bool (by simp [combOk, inB_true, inB_lo, inB_hi, *]), (Below.refl _ _).alloc (Nat.le_refl _) _⟩)
theorem toComb_any (o r k : Int) (w : World) :
    Calls Try.prog 32 #[.agg #[.int .i64 o, .int .i64 r, .int .i64 k]] w fun e w' => e = .returned (.agg #[.int .i64 o, .int .i64 r, .int .i64 k]) ∧ Below w.heap.size w w' := by
  go_enter Try.func32, Try.ntmps32
  go_wp2
  go_returns
  refine ⟨rfl, ?_⟩
  go_grown
end Go.Proofs.Ytfplecbacgcjgaa
