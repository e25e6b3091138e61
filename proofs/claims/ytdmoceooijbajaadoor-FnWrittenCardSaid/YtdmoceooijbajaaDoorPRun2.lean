/- Plain laws of the carries of an accumulator: what they combine to, what they add up to, the first stage as a word. No program. -/
import Derived.Test.YtdmoceooijbajaaDoorPRun
import Derived.Test.YtdmoceooijbajaaDoorPMech
namespace Go.Proofs.YtdmoceooijbajaaDoor
open Go.RowKit
set_option linter.unusedVariables false
set_option linter.unusedSimpArgs false
theorem crow_lst (m : Int) (s xs : List Int) (i n : Nat) : crow m s xs i n = lst n (carr m s xs i) := rfl
def combF (g : Nat → Nat → Int) : Nat → Nat → Int
  | 0 => fun _ => 0
  | i + 1 => fun k => combF g i k + dFn (g i) i k
theorem addL_lst (n : Nat) (f g : Nat → Int) : addL (lst n f) (lst n g) = lst n fun k => f k + g k := by
  apply List.ext_getElem?
  intro k
  have h1 := lst_length n f
  have h2 := lst_length n g
  by_cases hk : k < n
  · rw [lst_at _ hk, addL_at (by omega) (by omega), lst_get, lst_get]
  · rw [List.getElem?_eq_none (by rw [addL_length (by omega)]; omega), List.getElem?_eq_none (by rw [lst_length]; omega)]
theorem combTo_lst {n : Nat} {xss : List (List Int)} {g : Nat → Nat → Int} : ∀ i, (∀ j, j < i → xss.getD j [] = lst n (g j)) → combTo n xss i = lst n (combF g i)
  | 0, _ => by
    refine eq_lst (by simp [combTo]) fun k hk => ?_
    simp [combTo, combF]
  | i + 1, h => by
    rw [combTo, combTo_lst i fun j hj => h j (by omega), h i (by omega), diffN_lst, addL_lst]; rfl
theorem run_y (m : Int) (s xs : List Int) (n : Nat) : combTo n (cRows m s xs s.length n) s.length = lst n (combF (carr m s xs) s.length) :=
  combTo_lst s.length fun j hj => cRows_getD m s xs hj
/-- The sums of the carries of a stage. -/
theorem stage_sum (m : Int) (s xs : List Int) {i : Nat} (h : i < s.length) : ∀ n, m * sumF (carr m s xs i) n = sumF (inp m s xs i) n + rst m s xs i 0 - rst m s xs i n
  | 0 => by simp [sumF]
  | n + 1 => by
    have h1 := stage_sum m s xs h n
    have h2 := stage_step m s xs n h
    simp only [sumF, Int.mul_add]
    omega
theorem rst_zero (m : Int) (s xs : List Int) (i : Nat) : rst m s xs i 0 = s.getD i 0 := rfl
theorem sum_inp_zero (m : Int) (s xs : List Int) : sumF (inp m s xs 0) xs.length = xs.sum := by
  rw [sum_fnOf]; rfl
/-- With rests 0 at first, the carries of a stage times the modulus are what comes in less the differences of what comes into the next one. -/
theorem stage_diff {m : Int} {s xs : List Int} (hz : ∀ i, s.getD i 0 = 0) {i : Nat} (h : i < s.length) : ∀ k, m * carr m s xs i k = inp m s xs i k - dF (inp m s xs (i + 1)) k
  | 0 => by
    have h2 := stage_step m s xs 0 h
    rw [rst_succ m s xs 0 h, rst_zero, hz] at h2
    simp [dF, bef]; omega
  | k + 1 => by
    have h2 := stage_step m s xs (k + 1) h
    rw [rst_succ m s xs (k + 1) h, rst_succ m s xs k h] at h2
    simp [dF, bef]; omega
theorem comb_tele {m : Int} {s xs : List Int} (hz : ∀ i, s.getD i 0 = 0) : ∀ i, i ≤ s.length → ∀ k, m * combF (carr m s xs) i k = inp m s xs 0 k - dFn (inp m s xs i) i k
  | 0, _, k => by simp [combF, dFn]
  | i + 1, h, k => by
    have ih := comb_tele (m := m) (xs := xs) hz i (by omega) k
    have e : (fun k => m * carr m s xs i k) = fun k => inp m s xs i k - dF (inp m s xs (i + 1)) k := funext (stage_diff hz (by omega))
    have h1 : m * dFn (carr m s xs i) i k = dFn (inp m s xs i) i k - dFn (inp m s xs (i + 1)) (i + 1) k := by
      have := congrFun (dFn_mul m (carr m s xs i) i) k
      rw [e, dFn_sub, dFn_dF] at this
      exact this.symm
    simp only [combF, Int.mul_add]
    omega
/-- The last rests behind each step. -/
def restL (m : Int) (s xs : List Int) (n : Nat) : List Int := lst n fun k => rst m s xs (s.length - 1) (k + 1)
theorem restL_inp (m : Int) (s xs : List Int) (n : Nat) (h : 0 < s.length) : restL m s xs n = lst n (inp m s xs s.length) :=
  lst_congr fun k _ => by rw [rst_succ m s xs k (by omega), show s.length - 1 + 1 = s.length by omega]
/-- The first stages alone. -/
theorem sx_pre (m : Int) (s : List Int) (x : Int) (j : Nat) : ∀ i, i ≤ j → sx m (s.take j) x i = sx m s x i
  | 0, _ => rfl
  | i + 1, h => by
    rw [sx, sx, sx_pre m s x j i (by omega)]
    congr 2
    simp [List.getD, List.getElem?_take, show i < j by omega]
theorem stepN_pre (m : Int) (s : List Int) (x : Int) (j : Nat) : stepN m (s.take j) x = (stepN m s x).take j := by
  apply List.ext_getElem?
  intro t
  by_cases h1 : t < s.length
  · by_cases h2 : t < j
    · rw [List.getElem?_take, if_pos h2, List.getElem?_eq_getElem (by rw [stepN_length, List.length_take]; omega), stepN_at, List.getElem?_eq_getElem (by rw [stepN_length]; omega), stepN_at, sx_pre m s x j _ (by omega)]
    · rw [List.getElem?_take, if_neg h2, List.getElem?_eq_none (by rw [stepN_length, List.length_take]; omega)]
  · rw [List.getElem?_take, List.getElem?_eq_none (by rw [stepN_length, List.length_take]; omega)]
    split
    · rw [List.getElem?_eq_none (by rw [stepN_length]; omega)]
    · rfl
theorem stX_pre (m : Int) (s xs : List Int) (j : Nat) : ∀ k, stX m (s.take j) xs k = (stX m s xs k).take j
  | 0 => rfl
  | k + 1 => by rw [stX, stX, stX_pre m s xs j k, stepN_pre]
theorem rst_pre (m : Int) (s xs : List Int) {i j : Nat} (h : i < j) (k : Nat) : rst m (s.take j) xs i k = rst m s xs i k := by
  unfold rst
  rw [stX_pre]
  simp [List.getD, List.getElem?_take, h]
theorem restL_pre (m : Int) (s xs : List Int) {i : Nat} (h0 : 0 < i) (h : i < s.length) (n : Nat) : restL m (s.take i) xs n = lst n (inp m s xs i) :=
  lst_congr fun k _ => by
    rw [List.length_take, Nat.min_eq_left (by omega), rst_pre m s xs (by omega), rst_succ m s xs k (by omega), show i - 1 + 1 = i by omega]
/-- A constant input. -/
theorem const_getD {v : Int} {n k : Nat} (h : k < n) : (List.replicate n v).getD k 0 = v := by simp [h]
theorem carr_const {m : Int} {s : List Int} {v : Int} {n : Nat} (hm : 2 ≤ m) (hs : Rests m s) (h : 0 < s.length) : ∀ k, k ≤ n → rst m s (List.replicate n v) 0 k = (k * v + s.getD 0 0) % m
  | 0, _ => by
    have := rests_getD hm hs 0
    rw [rst_zero]; simp only [Int.natCast_zero, Int.zero_mul, Int.zero_add]
    exact (Int.emod_eq_of_lt this.1 this.2).symm
  | k + 1, hk => by
    rw [rst_succ _ _ _ _ h, inp_succ, inp_zero, const_getD (by omega), carr_const hm hs h k (by omega), Int.add_emod_emod]
    congr 1
    rw [Int.natCast_add, Int.add_mul]; omega
theorem carr_mech {m : Int} {s : List Int} {v : Int} {n : Nat} (hm : 2 ≤ m) (hs : Rests m s) (h : 0 < s.length) : crow m s (List.replicate n v) 0 n = mech v m (s.getD 0 0) n := by
  refine lst_congr fun k hk => ?_
  have h1 := stage_step m s (List.replicate n v) k h
  rw [inp_zero, const_getD hk, carr_const hm hs h k (by omega), carr_const hm hs h (k + 1) (by omega)] at h1
  have e1 := Int.mul_ediv_add_emod (k * v + s.getD 0 0) m
  have e2 := Int.mul_ediv_add_emod ((k + 1 : Nat) * v + s.getD 0 0) m
  unfold flo
  have e3 : ((k + 1 : Nat) : Int) * v = k * v + v := by rw [Int.natCast_add, Int.add_mul]; simp
  have : m * carr m s (List.replicate n v) 0 k = m * (((k + 1 : Nat) * v + s.getD 0 0) / m - (k * v + s.getD 0 0) / m) := by
    rw [Int.mul_sub, h1]; omega
  exact Int.eq_of_mul_eq_mul_left (by omega) this
end Go.Proofs.YtdmoceooijbajaaDoor
