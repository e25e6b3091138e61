/- Plain laws of mechanical words: they are words, balanced, and cut as the phase goes on. No program. -/
import Derived.Test.YtdmoceooijbajaaDoorPPart
import Derived.Test.YtdmoceooijbajaaDoorPFun
namespace Go.Proofs.YtdmoceooijbajaaDoor
open Go.RowKit
set_option linter.unusedVariables false
set_option linter.unusedSimpArgs false
/-- The numbers of whole q in the multiples of p. -/
def flo (p q f : Int) (k : Nat) : Int := (k * p + f) / q
def mech (p q f : Int) (n : Nat) : List Int := lst n fun i => flo p q f (i + 1) - flo p q f i
theorem mech_length (p q f : Int) (n : Nat) : (mech p q f n).length = n := lst_length _ _
theorem flo_zero {p q f : Int} (h0 : 0 ≤ f) (h1 : f < q) : flo p q f 0 = 0 := by
  unfold flo; simp only [Int.natCast_zero, Int.zero_mul, Int.zero_add]; exact Int.ediv_eq_zero_of_lt h0 h1
/-- Two floors: the floor of a sum is the sum of the floors, or one more. -/
theorem div_add_bd (a b : Int) {q : Int} (hq : 0 < q) : a / q + b / q ≤ (a + b) / q ∧ (a + b) / q ≤ a / q + b / q + 1 := by
  have e1 := Int.mul_ediv_add_emod a q
  have e2 := Int.mul_ediv_add_emod b q
  have h1 := Int.emod_nonneg a (show q ≠ 0 by omega)
  have h2 := Int.emod_nonneg b (show q ≠ 0 by omega)
  have h3 := Int.emod_lt_of_pos a hq
  have h4 := Int.emod_lt_of_pos b hq
  have e : a + b = (a % q + b % q) + q * (a / q + b / q) := by rw [Int.mul_add]; omega
  have hd : (a + b) / q = (a % q + b % q) / q + (a / q + b / q) := by
    rw [e, Int.add_mul_ediv_left _ _ (by omega)]
  rcases Int.lt_or_le (a % q + b % q) q with h | h
  · have := Int.ediv_eq_zero_of_lt (show 0 ≤ a % q + b % q by omega) h
    omega
  · have h5 : (a % q + b % q) / q = 1 := by
      have e5 : a % q + b % q = (a % q + b % q - q) + q * 1 := by omega
      rw [e5, Int.add_mul_ediv_left _ _ (by omega), Int.ediv_eq_zero_of_lt (by omega) (by omega)]; rfl
    omega
theorem flo_add (p q f : Int) (hq : 0 < q) (j n : Nat) : (n * p) / q ≤ flo p q f (j + n) - flo p q f j ∧ flo p q f (j + n) - flo p q f j ≤ (n * p) / q + 1 := by
  have h := div_add_bd (n * p) (j * p + f) hq
  have e : ((j + n : Nat) : Int) * p + f = n * p + (j * p + f) := by rw [Int.natCast_add, Int.add_mul]; omega
  unfold flo
  rw [e]
  omega
theorem mech_bit {p q : Int} (f : Int) (hq : 0 < q) (h0 : 0 ≤ p) (h1 : p ≤ q) (i : Nat) : 0 ≤ flo p q f (i + 1) - flo p q f i ∧ flo p q f (i + 1) - flo p q f i ≤ 1 := by
  have e : ((i + 1 : Nat) : Int) * p + f = (i * p + f) + p := by rw [Int.natCast_add, Int.add_mul]; simp; omega
  have a1 : flo p q f i ≤ flo p q f (i + 1) := by
    unfold flo; rw [e]; exact Int.ediv_le_ediv hq (by omega)
  have a2 : flo p q f (i + 1) ≤ flo p q f i + 1 := by
    have : ((i * p + f) + p) / q ≤ ((i * p + f) + q * 1) / q := Int.ediv_le_ediv hq (by omega)
    rw [Int.add_mul_ediv_left _ _ (by omega)] at this
    unfold flo; rw [e]; omega
  omega
theorem mech_word {p q : Int} (f : Int) (hq : 0 < q) (h0 : 0 ≤ p) (h1 : p ≤ q) {n : Nat} (hn : n ≤ 1000) : wordOk (mech p q f n) = true := by
  refine wordOk_of (fun x hx => ?_) (by rw [mech_length]; exact hn)
  obtain ⟨k, _, rfl⟩ := lst_mem hx
  exact mech_bit f hq h0 h1 k
theorem mech_pre (p q f : Int) (n : Nat) : ∀ k, k ≤ n → pre (mech p q f n) k = flo p q f k - flo p q f 0
  | 0, _ => by rw [pre_zero]; omega
  | k + 1, h => by
    rw [pre_succ _ (by rw [mech_length]; omega), mech_pre p q f n k (by omega)]
    unfold mech
    rw [lst_get]; omega
theorem mech_win (p q f : Int) (hq : 0 < q) (n m j : Nat) (h : j + m ≤ n) : (m * p) / q ≤ win (mech p q f n) m j ∧ win (mech p q f n) m j ≤ (m * p) / q + 1 := by
  have := flo_add p q f hq j m
  unfold win
  rw [mech_pre p q f n _ h, mech_pre p q f n j (by omega)]
  omega
/-- If all sums of parts lie between two neighbours, the least and the greatest do. -/
theorem lowTo_ge {xs : List Int} {n : Nat} {a : Int} : ∀ m, (∀ j, j ≤ m → a ≤ win xs n j) → a ≤ lowTo xs n m
  | 0, h => h 0 (Nat.le_refl _)
  | m + 1, h => by
    have h1 := lowTo_ge m fun j hj => h j (by omega)
    have h2 := h (m + 1) (Nat.le_refl _)
    unfold lowTo; omega
theorem highTo_le {xs : List Int} {n : Nat} {a : Int} : ∀ m, (∀ j, j ≤ m → win xs n j ≤ a) → highTo xs n m ≤ a
  | 0, h => h 0 (Nat.le_refl _)
  | m + 1, h => by
    have h1 := highTo_le m fun j hj => h j (by omega)
    have h2 := h (m + 1) (Nat.le_refl _)
    unfold highTo; omega
theorem bal_of {xs : List Int} (hw : wordOk xs = true) (g : Nat → Int) (h : ∀ n j, j + n ≤ xs.length → g n ≤ win xs n j ∧ win xs n j ≤ g n + 1) : balB xs = true := by
  refine balB_yes hw (Nat.le_refl _) fun n hn h1 => ?_
  have e1 := lowTo_ge (xs := xs) (n := n) (a := g n) (xs.length - n) fun j hj => (h n j (by omega)).1
  have e2 := highTo_le (xs := xs) (n := n) (a := g n + 1) (xs.length - n) fun j hj => (h n j (by omega)).2
  unfold spread partHigh partLow
  omega
theorem mech_bal {p q : Int} (f : Int) (hq : 0 < q) (h0 : 0 ≤ p) (h1 : p ≤ q) {n : Nat} (hn : n ≤ 1000) : balB (mech p q f n) = true :=
  bal_of (mech_word f hq h0 h1 hn) (fun n => (n * p) / q) fun m j hj => mech_win p q f hq n m j (by rw [mech_length] at hj; exact hj)
theorem pre_all (xs : List Int) : pre xs xs.length = xs.sum := by unfold pre; rw [sumTo_all]; simp
theorem mech_sum (p q f : Int) (n : Nat) : (mech p q f n).sum = flo p q f n - flo p q f 0 := by
  rw [← pre_all, mech_length, mech_pre p q f n n (Nat.le_refl _)]
/-- The whole of q elements has the sum p. -/
theorem mech_whole {p : Int} (q : Nat) (f : Int) (hq : 0 < q) : (mech p q f q).sum = p := by
  rw [mech_sum]
  unfold flo
  have e : ((q : Int) * p + f) / q = p + f / q := by
    rw [Int.add_comm, Int.add_mul_ediv_left _ _ (by omega)]; omega
  rw [e]; simp
/-- A word is cut as the phase goes on. -/
theorem flo_cut {p q f : Int} (hq : 0 < q) (c k : Nat) : flo p q f (c + k) = flo p q ((f + c * p) % q) k + (f + c * p) / q := by
  have e1 := Int.mul_ediv_add_emod (f + c * p) q
  unfold flo
  have e : ((c + k : Nat) : Int) * p + f = (k * p + (f + c * p) % q) + q * ((f + c * p) / q) := by
    rw [Int.natCast_add, Int.add_mul]; omega
  rw [e, Int.add_mul_ediv_left _ _ (by omega)]
theorem mech_cut {p q f : Int} (hq : 0 < q) {c n : Nat} (h : c ≤ n) : mech p q f n = mech p q f c ++ mech p q ((f + c * p) % q) (n - c) := by
  apply List.ext_getElem?
  intro t
  by_cases h1 : t < c
  · rw [List.getElem?_append_left (by rw [mech_length]; exact h1)]
    unfold mech
    rw [lst_at _ h1, lst_at _ (by omega)]
  · obtain ⟨j, rfl⟩ : ∃ j, t = c + j := ⟨t - c, by omega⟩
    rw [List.getElem?_append_right (by rw [mech_length]; omega), mech_length, show c + j - c = j by omega]
    by_cases h2 : j < n - c
    · unfold mech
      rw [lst_at _ (by omega), lst_at _ h2, Nat.add_assoc, flo_cut hq c (j + 1), flo_cut hq c j]
      congr 1; omega
    · rw [List.getElem?_eq_none (by rw [mech_length]; omega), List.getElem?_eq_none (by rw [mech_length]; omega)]
end Go.Proofs.YtdmoceooijbajaaDoor
