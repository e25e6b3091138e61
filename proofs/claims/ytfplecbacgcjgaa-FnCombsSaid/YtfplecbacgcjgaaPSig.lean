/- Sequences as functions of their index: running sums, delays, boxes, every r-th value, stuffing, convolution. No program. -/
import Derived.Test.YtfplecbacgcjgaaPFun
namespace Go.Proofs.Ytfplecbacgcjgaa
open Go.RowKit
set_option linter.unusedVariables false
set_option linter.unusedSimpArgs false
def sF (f : Nat → Int) (k : Nat) : Int := sumF f (k + 1)
def shF (r : Nat) (f : Nat → Int) (k : Nat) : Int := if k < r then 0 else f (k - r)
def bF (r : Nat) (f : Nat → Int) (k : Nat) : Int := sumF f (k + 1) - sumF f (k + 1 - r)
def oF (r : Nat) (f : Nat → Int) (k : Nat) : Int := f k - shF r f k
def itF (op : (Nat → Int) → Nat → Int) : Nat → (Nat → Int) → Nat → Int
  | 0, f => f
  | n + 1, f => op (itF op n f)
theorem itF_in (op : (Nat → Int) → Nat → Int) (f : Nat → Int) : ∀ n, itF op n (op f) = itF op (n + 1) f
  | 0 => rfl
  | n + 1 => by rw [itF, itF_in op f n]; rfl
theorem dF_sF (f : Nat → Int) : dF (sF f) = f := by
  funext k
  cases k with
  | zero => simp [dF, bef, sF, sumF]
  | succ k => simp only [dF, bef, sF, sumF]; omega
theorem sumF_bef (f : Nat → Int) : ∀ n, sumF (bef f) (n + 1) = sumF f n
  | 0 => by simp [sumF, bef]
  | n + 1 => by rw [sumF, sumF_bef f n]; rfl
theorem sF_dF (f : Nat → Int) : sF (dF f) = f := by
  funext k
  have : ∀ n, sumF (dF f) (n + 1) = f n := by
    intro n
    induction n with
    | zero => simp [sumF, dF, bef]
    | succ n ih => rw [sumF, ih]; simp only [dF, bef]; omega
  exact this k
theorem sF_inj {f g : Nat → Int} (h : dF f = dF g) : f = g := by rw [← sF_dF f, h, sF_dF]
theorem sumF_sub (f g : Nat → Int) : ∀ n, sumF (fun k => f k - g k) n = sumF f n - sumF g n
  | 0 => rfl
  | n + 1 => by simp only [sumF, sumF_sub f g n]; omega
theorem sF_sub (f g : Nat → Int) : sF (fun k => f k - g k) = fun k => sF f k - sF g k := funext fun k => sumF_sub f g (k + 1)
theorem shF_one (f : Nat → Int) : shF 1 f = bef f := by
  funext k
  cases k <;> simp [shF, bef]
theorem shF_zero (f : Nat → Int) : shF 0 f = f := by funext k; simp [shF]
theorem shF_succ (r : Nat) (f : Nat → Int) : shF (r + 1) f = bef (shF r f) := by
  funext k
  cases k with
  | zero => simp [shF, bef]
  | succ k =>
    simp only [shF, bef]
    by_cases h : k < r
    · rw [if_pos (by omega), if_pos h]
    · rw [if_neg (by omega), if_neg h]; congr 1; omega
theorem sF_bef (f : Nat → Int) : sF (bef f) = bef (sF f) := by
  funext k
  cases k with
  | zero => simp [sF, sumF, bef]
  | succ k => exact sumF_bef f (k + 1)
theorem sF_shF (f : Nat → Int) : ∀ r, sF (shF r f) = shF r (sF f)
  | 0 => by rw [shF_zero, shF_zero]
  | r + 1 => by rw [shF_succ, sF_bef, sF_shF f r, shF_succ]
theorem shF_sub (r : Nat) (f g : Nat → Int) : shF r (fun k => f k - g k) = fun k => shF r f k - shF r g k := by
  funext k
  simp only [shF]
  split <;> omega
theorem sF_oF (r : Nat) (f : Nat → Int) : sF (oF r f) = oF r (sF f) := by
  have : oF r f = fun k => f k - shF r f k := rfl
  rw [this, sF_sub, sF_shF]; rfl
theorem bF_eq (r : Nat) (f : Nat → Int) : bF r f = oF r (sF f) := by
  funext k
  simp only [bF, oF, sF, shF]
  by_cases h : k < r
  · rw [if_pos h]
    by_cases h2 : k + 1 - r = 0
    · rw [h2]; rfl
    · omega
  · rw [if_neg h, show k + 1 - r = k - r + 1 by omega]
theorem oF_itS (r n : Nat) (f : Nat → Int) : itF sF n (oF r f) = oF r (itF sF n f) := by
  induction n with
  | zero => rfl
  | succ n ih => rw [itF, ih, sF_oF]; rfl
theorem itS_itO (r : Nat) : ∀ n m, ∀ f, itF sF m (itF (oF r) n f) = itF (oF r) n (itF sF m f)
  | 0, m, f => rfl
  | n + 1, m, f => by rw [itF, oF_itS, itS_itO r n m f]; rfl
/-- Boxes are running sums, less those r places before. -/
theorem itB (r : Nat) (f : Nat → Int) : ∀ n, itF (bF r) n f = itF (oF r) n (itF sF n f)
  | 0 => rfl
  | n + 1 => by
    rw [itF, itB r f n, bF_eq, ← show itF sF 1 (itF (oF r) n (itF sF n f)) = sF (itF (oF r) n (itF sF n f)) from rfl, itS_itO]
    rfl
/-- Every r-th value, from r - 1 on. -/
def dec (r : Nat) (f : Nat → Int) (j : Nat) : Int := f (j * r + (r - 1))
theorem dF_dec {r : Nat} (hr : 1 ≤ r) (f : Nat → Int) : dF (dec r f) = dec r (oF r f) := by
  funext j
  cases j with
  | zero => simp only [dF, bef, dec, oF, shF]; rw [if_pos (by omega)]
  | succ j =>
    simp only [dF, bef, dec, oF, shF]
    have e : (j + 1) * r = j * r + r := by rw [Nat.add_mul]; omega
    rw [if_neg (by omega), show (j + 1) * r + (r - 1) - r = j * r + (r - 1) by omega]
theorem dFn_dec {r : Nat} (hr : 1 ≤ r) (f : Nat → Int) : ∀ n, dFn (dec r f) n = dec r (itF (oF r) n f)
  | 0 => rfl
  | n + 1 => by rw [dFn, dFn_dec hr f n, dF_dec hr]; rfl
theorem comb_exact {r : Nat} (hr : 1 ≤ r) (f : Nat → Int) (n : Nat) : dFn (dec r (itF sF n f)) n = dec r (itF (bF r) n f) := by rw [dFn_dec hr, itB]
/-- Each value followed by r - 1 zeros. -/
def stF (r : Nat) (f : Nat → Int) (k : Nat) : Int := if k % r = 0 then f (k / r) else 0
theorem oF_stF {r : Nat} (hr : 1 ≤ r) (f : Nat → Int) : oF r (stF r f) = stF r (dF f) := by
  funext k
  simp only [oF, shF, stF]
  by_cases h : k < r
  · rw [if_pos h]
    by_cases h0 : k % r = 0
    · have : k = 0 := by rwa [Nat.mod_eq_of_lt h] at h0
      subst this
      simp [dF, bef]
    · rw [if_neg h0, if_neg h0]; rfl
  · rw [if_neg h]
    have e1 : (k - r) % r = k % r := (Nat.mod_eq_sub_mod (by omega)).symm
    have e2 : k / r = (k - r) / r + 1 := by
      rw [Nat.div_eq k r, if_pos ⟨by omega, by omega⟩]
    rw [e1, e2]
    by_cases h0 : k % r = 0
    · rw [if_pos h0, if_pos h0, if_pos h0]; rfl
    · rw [if_neg h0, if_neg h0, if_neg h0]; rfl
theorem itO_stF {r : Nat} (hr : 1 ≤ r) (f : Nat → Int) : ∀ n, itF (oF r) n (stF r f) = stF r (dFn f n)
  | 0 => rfl
  | n + 1 => by rw [itF, itO_stF hr f n, oF_stF hr]; rfl
theorem spread_exact {r : Nat} (hr : 1 ≤ r) (f : Nat → Int) (n : Nat) : itF sF n (stF r (dFn f n)) = itF (bF r) n (stF r f) := by
  rw [← itO_stF hr, itS_itO, itB]
/-! ### Convolution -/
def cv (g f : Nat → Int) (k : Nat) : Int := sumF (fun i => g i * f (k - i)) (k + 1)
theorem sumF_head (f : Nat → Int) : ∀ n, sumF f (n + 1) = f 0 + sumF (fun i => f (i + 1)) n
  | 0 => by simp [sumF]
  | n + 1 => by rw [sumF, sumF_head f n]; simp only [sumF]; omega
theorem cv_bef (g f : Nat → Int) : cv (bef g) f = bef (cv g f) := by
  funext k
  cases k with
  | zero => simp [cv, sumF, bef]
  | succ k =>
    simp only [cv, bef]
    rw [sumF_head]
    simp only [bef, Int.zero_mul, Int.zero_add]
    exact sumF_congr _ fun i hi => by rw [show k + 1 - (i + 1) = k - i by omega]
theorem cv_sub (g g' f : Nat → Int) : cv (fun k => g k - g' k) f = fun k => cv g f k - cv g' f k := by
  funext k
  simp only [cv]
  rw [← sumF_sub]
  exact sumF_congr _ fun i hi => Int.sub_mul _ _ _
theorem cv_dF (g f : Nat → Int) : cv (dF g) f = dF (cv g f) := by
  have : dF g = fun k => g k - bef g k := rfl
  rw [this, cv_sub, cv_bef]; rfl
theorem cv_sF (g f : Nat → Int) : cv (sF g) f = sF (cv g f) := by
  apply sF_inj
  rw [← cv_dF, dF_sF, dF_sF]
theorem cv_shF (g f : Nat → Int) : ∀ r, cv (shF r g) f = shF r (cv g f)
  | 0 => by rw [shF_zero, shF_zero]
  | r + 1 => by rw [shF_succ, cv_bef, cv_shF g f r, shF_succ]
theorem cv_bF (r : Nat) (g f : Nat → Int) : cv (bF r g) f = bF r (cv g f) := by
  rw [bF_eq, bF_eq]
  have : oF r (sF g) = fun k => sF g k - shF r (sF g) k := rfl
  rw [this, cv_sub, cv_shF, cv_sF]; rfl
theorem cv_itB (r : Nat) (g f : Nat → Int) : ∀ n, cv (itF (bF r) n g) f = itF (bF r) n (cv g f)
  | 0 => rfl
  | n + 1 => by rw [itF, cv_bF, cv_itB r g f n]; rfl
def one0 (k : Nat) : Int := if k = 0 then 1 else 0
theorem cv_one (f : Nat → Int) : cv one0 f = f := by
  funext k
  have : ∀ n, sumF (fun i => one0 i * f (k - i)) (n + 1) = f k := by
    intro n
    induction n with
    | zero => simp [sumF, one0]
    | succ n ih => rw [sumF, ih]; simp [one0]
  exact this k
/-- Only the first values count. -/
theorem sF_congr {f g : Nat → Int} {n : Nat} (h : ∀ k, k < n → f k = g k) : ∀ k, k < n → sF f k = sF g k := fun k hk => sumF_congr _ fun i hi => h i (by omega)
theorem bF_congr {f g : Nat → Int} {n : Nat} (r : Nat) (h : ∀ k, k < n → f k = g k) : ∀ k, k < n → bF r f k = bF r g k := fun k hk => by
  unfold bF
  rw [sumF_congr (k + 1) fun i hi => h i (by omega), sumF_congr (k + 1 - r) fun i hi => h i (by omega)]
theorem itS_congr {f g : Nat → Int} {n : Nat} (h : ∀ k, k < n → f k = g k) : ∀ m, ∀ k, k < n → itF sF m f k = itF sF m g k
  | 0 => h
  | m + 1 => sF_congr (itS_congr h m)
theorem itB_congr {f g : Nat → Int} {n : Nat} (r : Nat) (h : ∀ k, k < n → f k = g k) : ∀ m, ∀ k, k < n → itF (bF r) m f k = itF (bF r) m g k
  | 0 => h
  | m + 1 => bF_congr r (itB_congr r h m)
/-- Bounds of boxes. -/
theorem sumF_bd {f : Nat → Int} {a : Int} (h : ∀ k, -a ≤ f k ∧ f k ≤ a) : ∀ n m : Nat, m ≤ n → -(a * (n - m : Nat)) ≤ sumF f n - sumF f m ∧ sumF f n - sumF f m ≤ a * (n - m : Nat) := by
  intro n
  induction n with
  | zero => intro m hm; obtain rfl : m = 0 := by omega
            simp
  | succ n ih =>
    intro m hm
    by_cases hc : m = n + 1
    · subst hc; simp
    · have h1 := ih m (by omega)
      have h2 := h n
      have e : a * ((n + 1 - m : Nat) : Int) = a * ((n - m : Nat) : Int) + a := by
        rw [show n + 1 - m = (n - m) + 1 by omega, Int.natCast_add, Int.mul_add]; simp
      simp only [sumF]
      omega
theorem bF_bd {f : Nat → Int} {a : Int} {r : Nat} (ha : 0 ≤ a) (h : ∀ k, -a ≤ f k ∧ f k ≤ a) : ∀ k, -(a * r) ≤ bF r f k ∧ bF r f k ≤ a * r := fun k => by
  have h1 := sumF_bd h (k + 1) (k + 1 - r) (by omega)
  have h2 : a * ((k + 1 - (k + 1 - r) : Nat) : Int) ≤ a * (r : Int) := Int.mul_le_mul_of_nonneg_left (by omega) ha
  unfold bF
  omega
theorem itB_bd {f : Nat → Int} {a : Int} {r : Nat} (ha : 0 ≤ a) (h : ∀ k, -a ≤ f k ∧ f k ≤ a) : ∀ n, ∀ k, -(a * (r : Int) ^ n) ≤ itF (bF r) n f k ∧ itF (bF r) n f k ≤ a * (r : Int) ^ n
  | 0 => by simpa [itF] using h
  | n + 1 => by
    have ih := itB_bd (r := r) ha h n
    have hp : 0 ≤ a * (r : Int) ^ n := Int.mul_nonneg ha (Int.pow_nonneg (by omega))
    have := bF_bd (r := r) hp ih
    rw [Int.pow_succ, ← Int.mul_assoc]
    exact this
end Go.Proofs.Ytfplecbacgcjgaa
