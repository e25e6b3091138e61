/- Plain laws of the sums of parts of a word. No program. -/
import Derived.Test.YtdmoceooijbajaaDoorPSum
namespace Go.Proofs.YtdmoceooijbajaaDoor
open Go.RowKit
/-- The sum of the first k elements. -/
def pre (xs : List Int) (k : Nat) : Int := sumTo (fun v => v) xs k
theorem pre_zero (xs : List Int) : pre xs 0 = 0 := sumTo_zero _ _
theorem pre_succ (xs : List Int) {k : Nat} (h : k < xs.length) : pre xs (k + 1) = pre xs k + xs[k] := sumTo_succ _ _ h
theorem pre_bd {xs : List Int} (h : wordOk xs = true) (k : Nat) (hk : k ≤ xs.length) : 0 ≤ pre xs k ∧ pre xs k ≤ k := by
  have := sumTo_bd (fun v => v) xs 0 1 (wordOk_mem h) k hk
  unfold pre; omega
theorem pre_mono {xs : List Int} (h : wordOk xs = true) (j : Nat) : ∀ n, j + n ≤ xs.length → 0 ≤ pre xs (j + n) - pre xs j ∧ pre xs (j + n) - pre xs j ≤ n := by
  intro n
  induction n with
  | zero => intro _; simp
  | succ n ih =>
    intro hn
    have h1 := ih (by omega)
    have h2 := wordOk_at h (k := j + n) (by omega)
    rw [← Nat.add_assoc, pre_succ xs (by omega)]
    omega
/-- The sum of the n elements from j on. -/
def win (xs : List Int) (n j : Nat) : Int := pre xs (j + n) - pre xs j
theorem win_bd {xs : List Int} (h : wordOk xs = true) {n j : Nat} (hj : j + n ≤ xs.length) : 0 ≤ win xs n j ∧ win xs n j ≤ n := pre_mono h j n hj
theorem win_succ (xs : List Int) {n j : Nat} (h : j + n < xs.length) (h' : j < xs.length) : win xs n (j + 1) = win xs n j + xs[j + n] - xs[j] := by
  unfold win
  have e1 : pre xs (j + 1 + n) = pre xs (j + n) + xs[j + n] := by rw [← pre_succ xs h]; congr 1; omega
  rw [e1, pre_succ xs h']; omega
/-- The least and the greatest sum of the parts that begin at 0 to m. -/
def lowTo (xs : List Int) (n : Nat) : Nat → Int
  | 0 => win xs n 0
  | m + 1 => min (lowTo xs n m) (win xs n (m + 1))
def highTo (xs : List Int) (n : Nat) : Nat → Int
  | 0 => win xs n 0
  | m + 1 => max (highTo xs n m) (win xs n (m + 1))
theorem lowTo_bd {xs : List Int} (h : wordOk xs = true) {n : Nat} : ∀ m, m + n ≤ xs.length → 0 ≤ lowTo xs n m ∧ lowTo xs n m ≤ n
  | 0, hm => win_bd h hm
  | m + 1, hm => by
    have h1 := lowTo_bd (n := n) h m (by omega)
    have h2 := win_bd h hm
    unfold lowTo; omega
theorem highTo_bd {xs : List Int} (h : wordOk xs = true) {n : Nat} : ∀ m, m + n ≤ xs.length → 0 ≤ highTo xs n m ∧ highTo xs n m ≤ n
  | 0, hm => win_bd h hm
  | m + 1, hm => by
    have h1 := highTo_bd (n := n) h m (by omega)
    have h2 := win_bd h hm
    unfold highTo; omega
def partLow (xs : List Int) (n : Nat) : Int := lowTo xs n (xs.length - n)
def partHigh (xs : List Int) (n : Nat) : Int := highTo xs n (xs.length - n)
def partOk (xs : List Int) (n : Int) : Bool := wordOk xs && inB n 1 xs.length
def parts (xs : List Int) (n : Int) : Int × Int × Bool := if partOk xs n then (partLow xs n.toNat, partHigh xs n.toNat, true) else (0, 0, false)
theorem parts_yes {xs : List Int} {n : Nat} (h : wordOk xs = true) (h1 : 1 ≤ n) (h2 : n ≤ xs.length) : parts xs n = (partLow xs n, partHigh xs n, true) := by
  have e : partOk xs n = true := by simp only [partOk, h, Bool.true_and]; exact inB_true (by omega) (by omega)
  simp [parts, e]
theorem parts_no {xs : List Int} {n : Int} (h : partOk xs n = false) : parts xs n = (0, 0, false) := by simp [parts, h]
/-- What the program's loop holds behind k elements. -/
def sumAt (xs : List Int) (n k : Nat) : Int := pre xs k - pre xs (k - n)
def lowAt (xs : List Int) (n k : Nat) : Int := if k < n then (n : Int) else lowTo xs n (k - n)
def highAt (xs : List Int) (n k : Nat) : Int := if k < n then 0 else highTo xs n (k - n)
theorem sumAt_bd {xs : List Int} (h : wordOk xs = true) {n k : Nat} (hk : k ≤ xs.length) : 0 ≤ sumAt xs n k ∧ sumAt xs n k ≤ k := by
  have := pre_mono h (k - n) (min k n) (by omega)
  rw [show k - n + min k n = k by omega] at this
  unfold sumAt; omega
theorem lowAt_bd {xs : List Int} (h : wordOk xs = true) {n k : Nat} (hk : k ≤ xs.length) : 0 ≤ lowAt xs n k ∧ lowAt xs n k ≤ n := by
  unfold lowAt
  split
  · omega
  · exact lowTo_bd h _ (by omega)
theorem highAt_bd {xs : List Int} (h : wordOk xs = true) {n k : Nat} (hk : k ≤ xs.length) : 0 ≤ highAt xs n k ∧ highAt xs n k ≤ n := by
  unfold highAt
  split
  · omega
  · exact highTo_bd h _ (by omega)
theorem sumAt_small (xs : List Int) {n k : Nat} (hk : k < xs.length) (h : k < n) : sumAt xs n (k + 1) = sumAt xs n k + xs[k] := by
  unfold sumAt
  rw [pre_succ xs hk, show k + 1 - n = k - n by omega]
  omega
theorem sumAt_big (xs : List Int) {n k : Nat} (hk : k < xs.length) (h : n ≤ k) (h' : k - n < xs.length) : sumAt xs n (k + 1) = sumAt xs n k + xs[k] - xs[k - n] := by
  unfold sumAt
  rw [pre_succ xs hk, show k + 1 - n = k - n + 1 by omega, pre_succ xs h']
  omega
theorem lowAt_small (xs : List Int) {n k : Nat} (h : k + 1 < n) : lowAt xs n (k + 1) = lowAt xs n k := by
  unfold lowAt; rw [if_pos h, if_pos (by omega)]
theorem highAt_small (xs : List Int) {n k : Nat} (h : k + 1 < n) : highAt xs n (k + 1) = highAt xs n k := by
  unfold highAt; rw [if_pos h, if_pos (by omega)]
theorem low_step {xs : List Int} (hw : wordOk xs = true) {n k : Nat} (hk : k < xs.length) (h : n ≤ k + 1) (h0 : 1 ≤ n) : lowAt xs n (k + 1) = min (lowAt xs n k) (sumAt xs n (k + 1)) := by
  unfold lowAt
  rw [if_neg (by omega)]
  by_cases hc : k < n
  · obtain rfl : n = k + 1 := by omega
    rw [if_pos hc, Nat.sub_self]
    have h1 := win_bd hw (n := k + 1) (j := 0) (by omega)
    have e : sumAt xs (k + 1) (k + 1) = win xs (k + 1) 0 := by simp [sumAt, win]
    rw [e]; unfold lowTo; omega
  · rw [if_neg hc, show k + 1 - n = (k - n) + 1 by omega, lowTo]
    congr 1
    unfold win sumAt
    rw [show k - n + 1 + n = k + 1 by omega, show k + 1 - n = k - n + 1 by omega]
theorem high_step {xs : List Int} (hw : wordOk xs = true) {n k : Nat} (hk : k < xs.length) (h : n ≤ k + 1) (h0 : 1 ≤ n) : highAt xs n (k + 1) = max (highAt xs n k) (sumAt xs n (k + 1)) := by
  unfold highAt
  rw [if_neg (by omega)]
  by_cases hc : k < n
  · obtain rfl : n = k + 1 := by omega
    rw [if_pos hc, Nat.sub_self]
    have h1 := win_bd hw (n := k + 1) (j := 0) (by omega)
    have e : sumAt xs (k + 1) (k + 1) = win xs (k + 1) 0 := by simp [sumAt, win]
    rw [e]; unfold highTo; omega
  · rw [if_neg hc, show k + 1 - n = (k - n) + 1 by omega, highTo]
    congr 1
    unfold win sumAt
    rw [show k - n + 1 + n = k + 1 by omega, show k + 1 - n = k - n + 1 by omega]
theorem lowAt_end {xs : List Int} {n : Nat} (h : n ≤ xs.length) : lowAt xs n xs.length = partLow xs n := by unfold lowAt partLow; rw [if_neg (by omega)]
theorem highAt_end {xs : List Int} {n : Nat} (h : n ≤ xs.length) : highAt xs n xs.length = partHigh xs n := by unfold highAt partHigh; rw [if_neg (by omega)]
/-! ### Balanced -/
def spread (xs : List Int) (n : Nat) : Int := partHigh xs n - partLow xs n
def BalTo (xs : List Int) (k : Nat) : Prop := ∀ n, n < k → 1 ≤ n → spread xs n ≤ 1
def balB (xs : List Int) : Bool := wordOk xs && (List.range xs.length).all fun n => n == 0 || decide (spread xs n ≤ 1)
theorem balTo_zero (xs : List Int) : BalTo xs 0 := fun n h => absurd h (by omega)
theorem balTo_one (xs : List Int) : BalTo xs 1 := fun n h h' => absurd h (by omega)
theorem balTo_step {xs : List Int} {k : Nat} (h : BalTo xs k) (e : spread xs k ≤ 1) : BalTo xs (k + 1) := fun n hn h1 => by
  by_cases hc : n = k
  · subst hc; exact e
  · exact h n (by omega) h1
theorem balB_noWord {xs : List Int} (h : wordOk xs = false) : balB xs = false := by simp [balB, h]
theorem balB_iff {xs : List Int} (h : wordOk xs = true) : balB xs = true ↔ BalTo xs xs.length := by
  unfold balB BalTo
  rw [h, Bool.true_and, List.all_eq_true]
  constructor
  · intro ha n hn h1
    have := ha n (List.mem_range.2 hn)
    simp only [Bool.or_eq_true, beq_iff_eq, decide_eq_true_eq] at this
    omega
  · intro ha n hn
    have := ha n (List.mem_range.1 hn)
    simp only [Bool.or_eq_true, beq_iff_eq, decide_eq_true_eq]
    omega
theorem balB_no {xs : List Int} (h : wordOk xs = true) {n : Nat} (hn : n < xs.length) (h1 : 1 ≤ n) (e : 1 < spread xs n) : balB xs = false := by
  rcases Bool.eq_false_or_eq_true (balB xs) with hb | hb
  · have := (balB_iff h).1 hb n hn h1
    omega
  · exact hb
theorem balB_yes {xs : List Int} (h : wordOk xs = true) {k : Nat} (hk : xs.length ≤ k) (e : BalTo xs k) : balB xs = true := (balB_iff h).2 fun n hn h1 => e n (by omega) h1
end Go.Proofs.YtdmoceooijbajaaDoor
