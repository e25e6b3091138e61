/- Plain laws of the growth of a comb: the least width that holds a number. No program. -/
import Derived.Test.YtfplecbacgcjgaaPWrap
namespace Go.Proofs.Ytfplecbacgcjgaa
open Go.RowKit
/-- The least w from k on, in so many tries, with p at most 2 to the power w - 1, less 1. -/
def growFrom : Nat → Nat → Int → Int × Bool
  | 0, _, _ => (0, false)
  | f + 1, k, p => if p ≤ 2 ^ (k - 1) - 1 then ((k : Int), true) else growFrom f (k + 1) p

theorem growFrom_big (p : Int) (h : 2305843009213693951 < p) : ∀ (f k : Nat), f + k = 63 → growFrom f k p = (0, false) := by
  intro f
  induction f with
  | zero => intro k _; rfl
  | succ f ih =>
    intro k hk
    have h1 := two_pow_le (k - 1) 61 (by omega)
    have e : (2 : Int) ^ 61 = 2305843009213693952 := by decide
    unfold growFrom
    rw [if_neg (by omega)]
    exact ih (k + 1) (by omega)

def growth (o r k size : Int) : Int × Bool :=
  if inB o 1 6 && inB r 1 100 && inB k 2 62 && inB size 0 1099511627776 then growFrom 61 2 (size * r ^ o.toNat) else (0, false)

theorem pow_ge_one (r : Int) (h : 1 ≤ r) : ∀ n : Nat, 1 ≤ r ^ n := by
  intro n
  induction n with
  | zero => simp
  | succ n ih =>
    rw [Int.pow_succ]
    have := Int.mul_le_mul ih h (by omega) (by omega)
    simpa using this
theorem pow_le_pow_base (r : Int) (h : 1 ≤ r) (h' : r ≤ 100) : ∀ n : Nat, r ^ n ≤ 100 ^ n := by
  intro n
  induction n with
  | zero => simp
  | succ n ih =>
    rw [Int.pow_succ, Int.pow_succ]
    have h1 := pow_ge_one r h n
    exact Int.mul_le_mul ih h' (by omega) (by have := pow_ge_one 100 (by omega) n; omega)
theorem pow_mono_exp (r : Int) (h : 1 ≤ r) (m : Nat) : ∀ n : Nat, r ^ m ≤ r ^ (m + n) := by
  intro n
  induction n with
  | zero => simp
  | succ n ih =>
    rw [← Nat.add_assoc, Int.pow_succ]
    have h1 := pow_ge_one r h (m + n)
    have := Int.mul_le_mul (Int.le_refl (r ^ (m + n))) h (by omega) (by omega)
    omega
theorem pow_small (r : Int) (h : 1 ≤ r) (h' : r ≤ 100) (n : Nat) (hn : n ≤ 6) : r ^ n ≤ 1000000000000 := by
  have h1 := pow_le_pow_base r h h' n
  have h2 := pow_mono_exp 100 (by omega) n (6 - n)
  rw [show n + (6 - n) = 6 by omega] at h2
  have e : (100 : Int) ^ 6 = 1000000000000 := by decide
  omega
/-- p * gain at most m exactly if p at most m / gain. -/
theorem le_quot (p g m : Int) (hg : 1 ≤ g) : p ≤ m / g ↔ p * g ≤ m := Int.le_ediv_iff_mul_le (by omega)
theorem growFrom_hit {p g : Int} {m : Nat} (hg : 1 ≤ g) (hm : m ≤ 62) (h : p ≤ (2 ^ (m - 1) - 1) / g) : growFrom (63 - m) m (p * g) = ((m : Int), true) := by
  rw [show 63 - m = (62 - m) + 1 by omega, growFrom, if_pos ((le_quot _ _ _ hg).1 h)]
theorem growFrom_miss {p g : Int} {m : Nat} (hg : 1 ≤ g) (hm : m ≤ 62) (h : (2 ^ (m - 1) - 1) / g < p) : growFrom (63 - m) m (p * g) = growFrom (63 - (m + 1)) (m + 1) (p * g) := by
  rw [show 63 - m = (62 - m) + 1 by omega, growFrom, if_neg (fun e => by have := (le_quot _ _ _ hg).2 e; omega), show 63 - (m + 1) = 62 - m by omega]
theorem growFrom_end (q : Int) : growFrom (63 - 63) 63 q = (0, false) := rfl
theorem growFrom_hit' {p : Int} {m : Nat} (hm : m ≤ 62) (h : p ≤ 2 ^ (m - 1) - 1) : growFrom (63 - m) m p = ((m : Int), true) := by
  rw [show 63 - m = (62 - m) + 1 by omega, growFrom, if_pos h]
theorem growFrom_miss' {p : Int} {m : Nat} (hm : m ≤ 62) (h : 2 ^ (m - 1) - 1 < p) : growFrom (63 - m) m p = growFrom (63 - (m + 1)) (m + 1) p := by
  rw [show 63 - m = (62 - m) + 1 by omega, growFrom, if_neg (by omega), show 63 - (m + 1) = 62 - m by omega]
/-- The reference's test before it multiplies. -/
theorem grow_over {s r : Int} {j n : Nat} (s1 : 0 ≤ s) (r1 : 1 ≤ r) (hj : j < n) (h : 2305843009213693951 / r < s * r ^ j) : growFrom 61 2 (s * r ^ n) = (0, false) := by
  refine growFrom_big _ ?_ 61 2 rfl
  have h1 : 2305843009213693951 < s * r ^ j * r := by
    have := (le_quot (s * r ^ j) r 2305843009213693951 r1).2
    omega
  have h2 : s * r ^ j * r = s * r ^ (j + 1) := by rw [Int.pow_succ, Int.mul_assoc]
  have h3 := pow_mono_exp r r1 (j + 1) (n - (j + 1))
  rw [show j + 1 + (n - (j + 1)) = n by omega] at h3
  have h4 := Int.mul_le_mul_of_nonneg_left h3 s1
  omega
theorem grow_under {s r : Int} {j : Nat} (r1 : 1 ≤ r) (h : s * r ^ j ≤ 2305843009213693951 / r) : s * r ^ j * r ≤ 2305843009213693951 := (le_quot _ _ _ r1).1 h
end Go.Proofs.Ytfplecbacgcjgaa
