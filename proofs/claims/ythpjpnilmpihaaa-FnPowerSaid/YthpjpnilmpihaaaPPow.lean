/- Plain laws of the power of a sequence of small elements. No program. -/
import Derived.Test.YthpjpnilmpihaaaPower
import Derived.Test.YthpjpnilmpihaaaGen3
namespace Go.Proofs.Ythpjpnilmpihaaa
open Go.RowKit
set_option linter.unusedVariables false
set_option linter.unusedSimpArgs false
def powS (xs : List Int) : Int := (xs.map sqr).sum
theorem powS_cons (x : Int) (xs : List Int) : powS (x :: xs) = x * x + powS xs := by simp [powS, sqr]
theorem powS_app (xs ys : List Int) : powS (xs ++ ys) = powS xs + powS ys := by simp [powS, List.sum_append]
theorem powS_neg (xs : List Int) : powS (xs.map (· * (-1))) = powS xs := by
  unfold powS; rw [List.map_map]; congr 1; apply List.map_congr_left; intro x _; simp [sqr, Int.neg_mul_neg]
theorem sqr_nonneg (x : Int) : 0 ≤ x * x := by
  rcases Int.le_total 0 x with h | h
  · exact Int.mul_nonneg h h
  · have e : x * x = (-x) * (-x) := by rw [Int.neg_mul_neg]
    rw [e]; exact Int.mul_nonneg (by omega) (by omega)
theorem powS_nonneg : ∀ xs : List Int, 0 ≤ powS xs
  | [] => by simp [powS]
  | x :: xs => by rw [powS_cons]; have := powS_nonneg xs; have := sqr_nonneg x; omega
theorem powS_zero : ∀ xs : List Int, powS xs = 0 ↔ xs = List.replicate xs.length 0
  | [] => by simp [powS]
  | x :: xs => by
    rw [powS_cons, List.length_cons, List.replicate_succ]
    have h1 := powS_nonneg xs
    have h2 := sqr_nonneg x
    have ih := powS_zero xs
    constructor
    · intro h
      have hx : x * x = 0 := by omega
      have hp : powS xs = 0 := by omega
      have : x = 0 := by rcases Int.mul_eq_zero.1 hx with h | h <;> exact h
      rw [this]; congr 1; exact ih.1 hp
    · intro h
      injection h with a b
      rw [a, ih.2 b]; rfl
theorem powS_le {b : Int} : ∀ xs : List Int, (∀ x ∈ xs, -b ≤ x ∧ x ≤ b) → powS xs ≤ b * b * xs.length
  | [], _ => by simp [powS]
  | x :: xs, h => by
    rw [powS_cons, List.length_cons, Int.natCast_add, Int.mul_add]
    have h1 := powS_le xs (fun y hy => h y (List.mem_cons_of_mem _ hy))
    have h2 := h x List.mem_cons_self
    have := (sq_bd h2.1 h2.2).2
    simp; omega
theorem power_yes {xs : List Int} (hl : xs.length ≤ 1000) (h : ∀ x ∈ xs, -5000 ≤ x ∧ x ≤ 5000) : power xs = (powS xs, true) := by
  have h1 : seqOk xs = true := seqOk_of (fun x hx => by have := h x hx; omega) hl
  have h2 : xs.all smallB = true := List.all_eq_true.2 fun x hx => inB_true (by have := h x hx; omega) (by have := h x hx; omega)
  simp [power, h1, h2, powS]
theorem pow_test (xs : List Int) : (powS xs == 0) = eqB xs (List.replicate xs.length 0) := by
  rw [Bool.eq_iff_iff]
  simp only [beq_iff_eq, eqB, decide_eq_true_eq]
  exact powS_zero xs
theorem implPower_yes (A : Option Addr) (c n : Nat) (xs : List Int) (w : World) (hr : Rd w w.heap.size A xs) (hn : xs.length = n) (hl : xs.length ≤ 1000) (h : ∀ x ∈ xs, -5000 ≤ x ∧ x ≤ 5000) :
    Calls Try.prog 43 #[.slice A n c] w fun e w' => e = .returned (.tuple #[.int .i64 (powS xs), .bool true]) ∧ Below w.heap.size w w' := by
  subst hn
  have h := implPowerOf_any A c xs w hr (by omega)
  rw [power_yes hl (by assumption)] at h
  exact h
end Go.Proofs.Ythpjpnilmpihaaa
