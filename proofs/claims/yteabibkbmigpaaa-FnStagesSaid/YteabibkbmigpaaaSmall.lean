/- Contracts of the small tests of numbers, and of the tests of a Comb and of an Accumulator: each returns the same plain test. -/
import Derived.Test.YteabibkbmigpaaaBase
namespace Go.Proofs.Yteabibkbmigpaaa
open Go.RowKit
set_option linter.unusedVariables false
set_option linter.unusedSimpArgs false
theorem l1In_any (x a b : Int) (w : World) :
    Calls Try.prog 63 #[.int .i64 x, .int .i64 a, .int .i64 b] w fun e w' => e = .returned (.bool (inB x a b)) ∧ w = w' := by
  go_enter Try.func63, Try.ntmps63
  go_wp2
  all_goals (go_ret; exact ⟨ret_bool (by simp [inB]; try omega), rfl⟩)
theorem isModulus_any (x : Int) (w : World) :
    Calls Try.prog 87 #[.int .i64 x] w fun e w' => e = .returned (.bool (inB x 2 1048576)) ∧ w = w' := by
  go_enter Try.func87, Try.ntmps87
  go_wp2
  all_goals (go_ret; exact ⟨ret_bool (by simp [inB]; try omega), rfl⟩)
theorem isOrder_any (x : Int) (w : World) :
    Calls Try.prog 82 #[.int .i64 x] w fun e w' => e = .returned (.bool (inB x 0 6)) ∧ w = w' := by
  go_enter Try.func82, Try.ntmps82
  go_wp2
  all_goals (go_ret; exact ⟨ret_bool (by simp [inB]; try omega), rfl⟩)
theorem isSample_any (x : Int) (w : World) :
    Calls Try.prog 79 #[.int .i64 x] w fun e w' => e = .returned (.bool (inB x (-1099511627776) 1099511627776)) ∧ w = w' := by
  go_enter Try.func79, Try.ntmps79
  go_wp2
  all_goals (go_ret; exact ⟨ret_bool (by simp [inB]; try omega), rfl⟩)
theorem l1Sample_any (x : Int) (w : World) :
    Calls Try.prog 103 #[.int .i64 x] w fun e w' => e = .returned (.bool (inB x (-1099511627776) 1099511627776)) ∧ w = w' := by
  go_enter Try.func103, Try.ntmps103
  go_wp2_with (go_at_call 63; refine (l1In_any _ _ _ _).mono ?_; rintro e w' ⟨rfl, rfl⟩)
  all_goals (go_ret; exact ⟨rfl, rfl⟩)
def accOk (o m : Int) : Bool := inB o 1 6 && inB m 2 1048576
def combOk (o r k : Int) : Bool := inB o 1 6 && inB r 1 100 && inB k 2 62
theorem comb_parts {o r k : Int} (h : combOk o r k = true) : (1 ≤ o ∧ o ≤ 6) ∧ (1 ≤ r ∧ r ≤ 100) ∧ 2 ≤ k ∧ k ≤ 62 := by
  simp [combOk, inB] at h; omega
theorem specIsAccumulator_any (o m : Int) (w : World) :
    Calls Try.prog 64 #[.agg #[.int .i64 o, .int .i64 m]] w fun e w' => e = .returned (.bool (accOk o m)) ∧ Below w.heap.size w w' := by
  go_enter Try.func64, Try.ntmps64
  go_wp2_with (go_at_call 63; refine (l1In_any _ _ _ _).mono ?_; rintro e w' ⟨rfl, rfl⟩)
  all_goals (go_ret; exact ⟨ret_bool (by simp [accOk, *]), (Below.refl _ _).alloc (Nat.le_refl _) _⟩)
theorem implIsAccumulator_any (o m : Int) (w : World) :
    Calls Try.prog 67 #[.agg #[.int .i64 o, .int .i64 m]] w fun e w' => e = .returned (.bool (accOk o m)) ∧ Below w.heap.size w w' := by
  go_enter Try.func67, Try.ntmps67
  go_wp2_with (go_at_call 87; refine (isModulus_any _ _).mono ?_; rintro e w' ⟨rfl, rfl⟩)
  all_goals (go_ret; exact ⟨ret_bool (by simp [accOk, inB_true, inB_lo, inB_hi, *]), (Below.refl _ _).alloc (Nat.le_refl _) _⟩)
theorem toAccumulator_any (o m : Int) (w : World) :
    Calls Try.prog 27 #[.agg #[.int .i64 o, .int .i64 m]] w fun e w' => e = .returned (.agg #[.int .i64 o, .int .i64 m]) ∧ Below w.heap.size w w' := by
  go_enter Try.func27, Try.ntmps27
  go_wp2
  go_returns
  refine ⟨rfl, ?_⟩
  go_grown
end Go.Proofs.Yteabibkbmigpaaa
