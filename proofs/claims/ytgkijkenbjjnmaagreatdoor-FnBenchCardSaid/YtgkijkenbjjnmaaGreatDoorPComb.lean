import Derived.Test.YtgkijkenbjjnmaaGreatDoorPDiff
import Derived.Test.YtgkijkenbjjnmaaGreatDoorMat
import Derived.Test.YtgkijkenbjjnmaaGreatDoorBase
import Derived.Test.YtgkijkenbjjnmaaGreatDoorPFun
/- Plain laws of the combination of carries. No program. -/
namespace Go.Proofs.YtgkijkenbjjnmaaGreatDoor
open Go.RowKit
set_option linter.unusedVariables false
set_option linter.unusedSimpArgs false
def addL (xs ys : List Int) : List Int := List.zipWith (· + ·) xs ys
theorem addL_length {xs ys : List Int} (h : ys.length = xs.length) : (addL xs ys).length = xs.length := by simp [addL]; omega
theorem addL_at {xs ys : List Int} {k : Nat} (h1 : k < xs.length) (h2 : k < ys.length) : (addL xs ys)[k]? = some (xs[k] + ys[k]) := by
  simp [addL, List.getElem?_zipWith, h1, h2]
theorem addL_bd {xs ys : List Int} {a b : Int} (hx : ∀ x ∈ xs, -a ≤ x ∧ x ≤ a) (hy : ∀ x ∈ ys, -b ≤ x ∧ x ≤ b) : ∀ x ∈ addL xs ys, -(a + b) ≤ x ∧ x ≤ a + b := by
  intro x h
  obtain ⟨i, hi, rfl⟩ := List.getElem_of_mem h
  have hl : i < xs.length ∧ i < ys.length := by simp [addL] at hi; omega
  have e := addL_at hl.1 hl.2
  rw [List.getElem?_eq_getElem hi] at e
  have e := Option.some.inj e
  have h1 := hx _ (List.getElem_mem hl.1)
  have h2 := hy _ (List.getElem_mem hl.2)
  omega
/-- The first k are added. -/
def AddTo (xs ys zs : List Int) (k : Nat) : Prop := zs.length = xs.length ∧ ∀ t, t < xs.length → zs[t]? = if t < k then (addL xs ys)[t]? else xs[t]?
theorem addTo_start (xs ys : List Int) : AddTo xs ys xs 0 := ⟨rfl, fun t ht => by rw [if_neg (by omega)]⟩
theorem addTo_at {xs ys zs : List Int} {k : Nat} (h : AddTo xs ys zs k) (h1 : k < zs.length) (h2 : k < xs.length) : zs[k] = xs[k] := by
  have e := h.2 k h2
  rw [if_neg (by omega), List.getElem?_eq_getElem h1, List.getElem?_eq_getElem h2] at e
  exact Option.some.inj e
theorem addTo_step {xs ys zs : List Int} {k : Nat} (h : AddTo xs ys zs k) (h1 : k < zs.length) (h2 : k < ys.length) : AddTo xs ys (zs.set k (zs[k] + ys[k])) (k + 1) := by
  have hl := h.1
  refine ⟨by simp [hl], fun t ht => ?_⟩
  by_cases hc : t = k
  · subst hc
    rw [List.getElem?_set_self h1, if_pos (by omega), addL_at ht h2, addTo_at h h1 ht]
  · rw [List.getElem?_set_ne (by omega), h.2 t ht]
    by_cases h3 : t < k
    · rw [if_pos h3, if_pos (by omega)]
    · rw [if_neg h3, if_neg (by omega)]
theorem addTo_end {xs ys zs : List Int} (h : AddTo xs ys zs ys.length) (hl : ys.length = xs.length) : zs = addL xs ys := by
  apply List.ext_getElem?
  intro t
  by_cases ht : t < xs.length
  · rw [h.2 t ht, if_pos (by omega)]
  · rw [List.getElem?_eq_none (by rw [h.1]; omega), List.getElem?_eq_none (by rw [addL_length hl]; omega)]
/-- What the first i stages give together. -/
def combTo (n : Nat) (xss : List (List Int)) : Nat → List Int
  | 0 => List.replicate n 0
  | i + 1 => addL (combTo n xss i) (diffN (xss.getD i []) i)
def lenOk (n : Nat) (xs : List Int) : Bool := wordOk xs && decide (xs.length = n)
def combineOk (xss : List (List Int)) : Bool := decide (1 ≤ xss.length) && decide (xss.length ≤ 6) && xss.all (lenOk (xss.getD 0 []).length)
def combine (xss : List (List Int)) : List Int × Bool := if combineOk xss then (combTo (xss.getD 0 []).length xss xss.length, true) else ([], false)
theorem combine_yes {xss : List (List Int)} (h1 : 1 ≤ xss.length) (h2 : xss.length ≤ 6) (h : xss.all (lenOk (xss.getD 0 []).length) = true) : combine xss = (combTo (xss.getD 0 []).length xss xss.length, true) := by
  have e : combineOk xss = true := by simp only [combineOk, decide_eq_true h1, decide_eq_true h2, h]; rfl
  simp [combine, e]
theorem combine_noLen {xss : List (List Int)} (h : ¬ (1 ≤ xss.length ∧ xss.length ≤ 6)) : combine xss = ([], false) := by
  have e : combineOk xss = false := by
    simp only [combineOk, Bool.and_eq_false_iff, decide_eq_false_iff_not]
    omega
  simp [combine, e]
theorem combine_noAll {xss : List (List Int)} (h : xss.all (lenOk (xss.getD 0 []).length) = false) : combine xss = ([], false) := by
  have e : combineOk xss = false := by simp only [combineOk, h, Bool.and_false]
  simp [combine, e]
theorem combTo_length {n : Nat} {xss : List (List Int)} : ∀ i, (∀ j, j < i → (xss.getD j []).length = n) → (combTo n xss i).length = n
  | 0, _ => by simp [combTo]
  | i + 1, h => by
    have ih := combTo_length (n := n) (xss := xss) i (fun j hj => h j (by omega))
    rw [combTo, addL_length (by rw [diffN_length, ih, h i (by omega)]), ih]
theorem combTo_bd {n : Nat} {xss : List (List Int)} : ∀ i, i ≤ 6 → (∀ j, j < i → wordOk (xss.getD j []) = true) → ∀ x ∈ combTo n xss i, -(70368744177664 * (i : Int)) ≤ x ∧ x ≤ 70368744177664 * (i : Int)
  | 0, _, _ => by
    intro x hx
    simp [combTo] at hx
    omega
  | i + 1, hi, h => by
    have ih := combTo_bd (n := n) (xss := xss) i (by omega) (fun j hj => h j (by omega))
    have hd := diffN_small (xs := xss.getD i []) (fun x hx => by have := wordOk_mem (h i (by omega)) x hx; omega) i (by omega)
    intro x hx
    have := addL_bd ih hd x hx
    omega
end Go.Proofs.YtgkijkenbjjnmaaGreatDoor

/- Plain laws of a run of an accumulator. No program. -/
namespace Go.Proofs.YtgkijkenbjjnmaaGreatDoor
open Go.RowKit
set_option linter.unusedVariables false
set_option linter.unusedSimpArgs false
/-- The rests behind k steps with the inputs xs. -/
def stX (m : Int) (s xs : List Int) : Nat → List Int
  | 0 => s
  | k + 1 => stepN m (stX m s xs k) (xs.getD k 0)
theorem stX_length (m : Int) (s xs : List Int) : ∀ k, (stX m s xs k).length = s.length
  | 0 => rfl
  | k + 1 => by rw [stX, stepN_length, stX_length m s xs k]
theorem stX_rests {m : Int} {s xs : List Int} (hm : 2 ≤ m) (h : Rests m s) (hx : Rests m xs) : ∀ k, Rests m (stX m s xs k)
  | 0 => h
  | k + 1 => stepN_rests hm (stX_rests hm h hx k) (rests_getD hm hx k)
/-- The carry of stage i at step k. -/
def carr (m : Int) (s xs : List Int) (i k : Nat) : Int := (stepC m (stX m s xs k) (xs.getD k 0)).getD i 0
def crow (m : Int) (s xs : List Int) (i n : Nat) : List Int := (List.range n).map (carr m s xs i)
def cRows (m : Int) (s xs : List Int) (o n : Nat) : List (List Int) := (List.range o).map fun i => crow m s xs i n
theorem crow_length (m : Int) (s xs : List Int) (i n : Nat) : (crow m s xs i n).length = n := by simp [crow]
theorem cRows_length (m : Int) (s xs : List Int) (o n : Nat) : (cRows m s xs o n).length = o := by simp [cRows]
theorem crow_succ (m : Int) (s xs : List Int) (i n : Nat) : crow m s xs i (n + 1) = crow m s xs i n ++ [carr m s xs i n] := by simp [crow, List.range_succ]
theorem cRows_at (m : Int) (s xs : List Int) {o n i : Nat} (h : i < o) : (cRows m s xs o n)[i]? = some (crow m s xs i n) := by simp [cRows, h]
theorem cRows_getD (m : Int) (s xs : List Int) {o n i : Nat} (h : i < o) : (cRows m s xs o n).getD i [] = crow m s xs i n := by simp [cRows, h]
theorem carr_bit {m : Int} {s xs : List Int} (hm : 2 ≤ m) (h : Rests m s) (hx : Rests m xs) (i k : Nat) : 0 ≤ carr m s xs i k ∧ carr m s xs i k ≤ 1 := by
  have hb := stepC_bits hm (stX_rests hm h hx k) (rests_getD hm hx k)
  unfold carr
  by_cases hi : i < (stepC m (stX m s xs k) (xs.getD k 0)).length
  · rw [getD_at hi]; exact hb _ (List.getElem_mem hi)
  · rw [List.getD, List.getElem?_eq_none (by omega)]; simp
theorem crow_word {m : Int} {s xs : List Int} (hm : 2 ≤ m) (h : Rests m s) (hx : Rests m xs) (i n : Nat) (hn : n ≤ 1000) : wordOk (crow m s xs i n) = true := by
  refine wordOk_of (fun x hx' => ?_) (by rw [crow_length]; exact hn)
  simp only [crow, List.mem_map] at hx'
  obtain ⟨k, _, rfl⟩ := hx'
  exact carr_bit hm h hx i k
theorem crow_ok {m : Int} {s xs : List Int} (hm : 2 ≤ m) (h : Rests m s) (hx : Rests m xs) (i n : Nat) (hn : n ≤ 1000) : lenOk n (crow m s xs i n) = true := by
  simp [lenOk, crow_word hm h hx i n hn, crow_length]
structure Run where
  c : List (List Int)
  y : List Int
  s : List Int
  ok : Bool
def runOk (o m : Int) (s xs : List Int) : Bool := restsOk o m s && xs.all (restB m) && decide ((xs.length : Int) ≤ 1000)
def runYes (m : Int) (s xs : List Int) : Run := ⟨cRows m s xs s.length xs.length, combTo xs.length (cRows m s xs s.length xs.length) s.length, stX m s xs xs.length, true⟩
def runA (o m : Int) (s xs : List Int) : Run := if runOk o m s xs then runYes m s xs else ⟨[], [], [], false⟩
theorem runA_yes {o m : Int} {s xs : List Int} (h : runOk o m s xs = true) : runA o m s xs = runYes m s xs := by simp [runA, h]
theorem runA_no {o m : Int} {s xs : List Int} (h : runOk o m s xs = false) : runA o m s xs = ⟨[], [], [], false⟩ := by simp [runA, h]
theorem all_rests {m : Int} {xs : List Int} (h : xs.all (restB m) = true) : Rests m xs := fun v hv => by
  have := List.all_eq_true.1 h v hv
  simpa [restB] using this
theorem rests_all {m : Int} {xs : List Int} (h : Rests m xs) : xs.all (restB m) = true := by
  rw [List.all_eq_true]
  intro v hv
  have := h v hv
  simp [restB]; omega
theorem runOk_parts {o m : Int} {s xs : List Int} (h : runOk o m s xs = true) : restsOk o m s = true ∧ xs.all (restB m) = true ∧ xs.length ≤ 1000 := by
  simp only [runOk, Bool.and_eq_true, decide_eq_true_eq] at h
  exact ⟨h.1.1, h.1.2, by omega⟩
theorem run_rows_ok {m : Int} {s xs : List Int} (hm : 2 ≤ m) (h : Rests m s) (hx : Rests m xs) {o n : Nat} (hn : n ≤ 1000) : ∀ k, k < o → lenOk n ((cRows m s xs o n).getD k []) = true := fun k hk => by
  rw [cRows_getD m s xs hk]; exact crow_ok hm h hx k n hn
theorem combine_rows {m : Int} {s xs : List Int} (hm : 2 ≤ m) (h : Rests m s) (hx : Rests m xs) (h1 : 1 ≤ s.length) (h6 : s.length ≤ 6) (hn : xs.length ≤ 1000) :
    combine (cRows m s xs s.length xs.length) = (combTo xs.length (cRows m s xs s.length xs.length) s.length, true) := by
  have e0 : ((cRows m s xs s.length xs.length).getD 0 []).length = xs.length := by rw [cRows_getD m s xs (by omega), crow_length]
  rw [combine_yes (by rw [cRows_length]; exact h1) (by rw [cRows_length]; exact h6) ?_, e0, cRows_length]
  rw [e0, List.all_eq_true]
  intro x hx'
  simp only [cRows, List.mem_map] at hx'
  obtain ⟨i, _, rfl⟩ := hx'
  exact crow_ok hm h hx i _ hn
theorem cRows_mem {m : Int} {s xs : List Int} {o n : Nat} {l : List Int} (h : l ∈ cRows m s xs o n) : l.length = n := by
  simp only [cRows, List.mem_map] at h
  obtain ⟨i, _, rfl⟩ := h
  exact crow_length _ _ _ _ _
/-- What the program's inner loop has: the first j rows have one element more. -/
def cPart (m : Int) (s xs : List Int) (o k j : Nat) : List (List Int) := (List.range o).map fun i => crow m s xs i (if i < j then k + 1 else k)
theorem cPart_start (m : Int) (s xs : List Int) (o k : Nat) : cPart m s xs o k 0 = cRows m s xs o k := by simp [cPart, cRows]
theorem cPart_end (m : Int) (s xs : List Int) (o k j : Nat) (h : o ≤ j) : cPart m s xs o k j = cRows m s xs o (k + 1) := by
  unfold cPart cRows
  apply List.map_congr_left
  intro i hi
  rw [if_pos (by have := List.mem_range.1 hi; omega)]
theorem cPart_length (m : Int) (s xs : List Int) (o k j : Nat) : (cPart m s xs o k j).length = o := by simp [cPart]
theorem cPart_at (m : Int) (s xs : List Int) {o k j i : Nat} (h : i < o) : (cPart m s xs o k j)[i]? = some (crow m s xs i (if i < j then k + 1 else k)) := by simp [cPart, h]
theorem cPart_step (m : Int) (s xs : List Int) {o k j : Nat} (h : j < o) : (cPart m s xs o k j).set j (crow m s xs j k ++ [carr m s xs j k]) = cPart m s xs o k (j + 1) := by
  apply List.ext_getElem?
  intro i
  by_cases hi : i < o
  · by_cases hij : j = i
    · subst hij
      rw [List.getElem?_set_self (by rw [cPart_length]; exact hi), cPart_at m s xs hi, if_pos (by omega), crow_succ]
    · rw [List.getElem?_set_ne hij, cPart_at m s xs hi, cPart_at m s xs hi]
      by_cases h2 : i < j
      · rw [if_pos h2, if_pos (by omega)]
      · rw [if_neg h2, if_neg (by omega)]
  · rw [List.getElem?_eq_none (by rw [List.length_set, cPart_length]; omega), List.getElem?_eq_none (by rw [cPart_length]; omega)]
/-! ### What a run says -/
/-- The rest of stage i behind k steps; what comes into it at step k. -/
def rst (m : Int) (s xs : List Int) (i k : Nat) : Int := (stX m s xs k).getD i 0
def inp (m : Int) (s xs : List Int) (i k : Nat) : Int := sx m (stX m s xs k) (xs.getD k 0) i
theorem rst_succ (m : Int) (s xs : List Int) {i : Nat} (k : Nat) (h : i < s.length) : rst m s xs i (k + 1) = inp m s xs (i + 1) k := by
  unfold rst inp
  rw [stX, getD_at (by rw [stepN_length, stX_length]; exact h), stepN_at]
theorem carr_eq (m : Int) (s xs : List Int) {i : Nat} (k : Nat) (h : i < s.length) : carr m s xs i k = (inp m s xs i k + rst m s xs i k) / m := by
  unfold carr inp rst
  rw [getD_at (by rw [stepC_length, stX_length]; exact h), stepC_at]
theorem inp_succ (m : Int) (s xs : List Int) (i k : Nat) : inp m s xs (i + 1) k = (inp m s xs i k + rst m s xs i k) % m := rfl
/-- One step of one stage. -/
theorem stage_step (m : Int) (s xs : List Int) {i : Nat} (k : Nat) (h : i < s.length) : m * carr m s xs i k = inp m s xs i k + rst m s xs i k - rst m s xs i (k + 1) := by
  rw [rst_succ m s xs k h, carr_eq m s xs k h, inp_succ]
  have := Int.mul_ediv_add_emod (inp m s xs i k + rst m s xs i k) m
  omega
theorem inp_zero (m : Int) (s xs : List Int) (k : Nat) : inp m s xs 0 k = xs.getD k 0 := rfl
/-- A run of a list behind a list. -/
theorem getD_app_left {xs ys : List Int} {k : Nat} (h : k < xs.length) : (xs ++ ys).getD k 0 = xs.getD k 0 := by simp [List.getD, List.getElem?_append_left h]
theorem getD_app_right (xs ys : List Int) (j : Nat) : (xs ++ ys).getD (xs.length + j) 0 = ys.getD j 0 := by
  simp [List.getD, List.getElem?_append_right]
theorem stX_app_left (m : Int) (s xs ys : List Int) : ∀ k, k ≤ xs.length → stX m s (xs ++ ys) k = stX m s xs k
  | 0, _ => rfl
  | k + 1, h => by rw [stX, stX, stX_app_left m s xs ys k (by omega), getD_app_left (by omega)]
theorem stX_app_right (m : Int) (s xs ys : List Int) : ∀ j, stX m s (xs ++ ys) (xs.length + j) = stX m (stX m s xs xs.length) ys j
  | 0 => stX_app_left m s xs ys _ (Nat.le_refl _)
  | j + 1 => by rw [← Nat.add_assoc, stX, stX, stX_app_right m s xs ys j, getD_app_right]
theorem carr_app_left (m : Int) (s xs ys : List Int) (i : Nat) {k : Nat} (h : k < xs.length) : carr m s (xs ++ ys) i k = carr m s xs i k := by
  unfold carr; rw [stX_app_left m s xs ys k (by omega), getD_app_left h]
theorem carr_app_right (m : Int) (s xs ys : List Int) (i j : Nat) : carr m s (xs ++ ys) i (xs.length + j) = carr m (stX m s xs xs.length) ys i j := by
  unfold carr; rw [stX_app_right m s xs ys j, getD_app_right]
theorem crow_app (m : Int) (s xs ys : List Int) (i : Nat) : crow m s (xs ++ ys) i (xs ++ ys).length = crow m s xs i xs.length ++ crow m (stX m s xs xs.length) ys i ys.length := by
  apply List.ext_getElem?
  intro t
  by_cases h1 : t < xs.length
  · rw [List.getElem?_append_left (by rw [crow_length]; exact h1)]
    simp [crow, h1, carr_app_left, show t < xs.length + ys.length by omega]
  · obtain ⟨j, rfl⟩ : ∃ j, t = xs.length + j := ⟨t - xs.length, by omega⟩
    rw [List.getElem?_append_right (by rw [crow_length]; omega)]
    by_cases h2 : j < ys.length
    · simp [crow, carr_app_right, h2]
    · simp [crow, h2]
end Go.Proofs.YtgkijkenbjjnmaaGreatDoor

/- Plain laws of sums over a list's first elements. No program. -/
namespace Go.Proofs.YtgkijkenbjjnmaaGreatDoor
open Go.RowKit
/-- The sum of f over the first k elements. -/
def sumTo (f : Int → Int) (xs : List Int) (k : Nat) : Int := ((xs.take k).map f).sum
theorem sumTo_zero (f : Int → Int) (xs : List Int) : sumTo f xs 0 = 0 := by simp [sumTo]
theorem sum_append_one (l : List Int) (x : Int) : (l ++ [x]).sum = l.sum + x := by
  rw [List.sum_append]; simp
theorem sumTo_succ (f : Int → Int) (xs : List Int) {k : Nat} (h : k < xs.length) : sumTo f xs (k + 1) = sumTo f xs k + f xs[k] := by
  unfold sumTo
  rw [List.take_succ_eq_append_getElem h, List.map_append, List.map_cons, List.map_nil, sum_append_one]
theorem sumTo_all (f : Int → Int) (xs : List Int) : sumTo f xs xs.length = (xs.map f).sum := by
  unfold sumTo; rw [List.take_of_length_le (Nat.le_refl _)]
/-- Bounds: each term between lo and hi. -/
theorem sumTo_bd (f : Int → Int) (xs : List Int) (lo hi : Int) (h : ∀ x ∈ xs, lo ≤ f x ∧ f x ≤ hi) : ∀ k : Nat, k ≤ xs.length → lo * k ≤ sumTo f xs k ∧ sumTo f xs k ≤ hi * k := by
  intro k
  induction k with
  | zero => intro _; simp [sumTo_zero]
  | succ k ih =>
    intro hk
    have h1 := ih (by omega)
    have h2 := h xs[k] (List.getElem_mem (by omega))
    rw [sumTo_succ f xs (by omega)]
    have e1 : lo * ((k + 1 : Nat) : Int) = lo * k + lo := by rw [Int.natCast_add, Int.mul_add]; simp
    have e2 : hi * ((k + 1 : Nat) : Int) = hi * k + hi := by rw [Int.natCast_add, Int.mul_add]; simp
    omega
theorem sq_bd {v b : Int} (h1 : -b ≤ v) (h2 : v ≤ b) : 0 ≤ v * v ∧ v * v ≤ b * b := by
  rcases Int.le_total 0 v with h | h
  · exact ⟨Int.mul_nonneg h h, Int.mul_le_mul h2 h2 h (by omega)⟩
  · have e : v * v = (-v) * (-v) := by rw [Int.neg_mul_neg]
    rw [e]
    exact ⟨Int.mul_nonneg (by omega) (by omega), Int.mul_le_mul (by omega) (by omega) (by omega) (by omega)⟩
end Go.Proofs.YtgkijkenbjjnmaaGreatDoor

/- Plain laws of the sums of parts of a word. No program. -/
namespace Go.Proofs.YtgkijkenbjjnmaaGreatDoor
open Go.RowKit
/-- The sum of the first k elements. -/
def pre (xs : List Int) (k : Nat) : Int := sumTo (fun v => v) xs k
theorem pre_zero (xs : List Int) : pre xs 0 = 0 := sumTo_zero _ _
theorem pre_succ (xs : List Int) {k : Nat} (h : k < xs.length) : pre xs (k + 1) = pre xs k + xs[k] := sumTo_succ _ _ h
theorem pre_bd {xs : List Int} (h : wordOk xs = true) (k : Nat) (hk : k ≤ xs.length) : 0 ≤ pre xs k ∧ pre xs k ≤ k := by
  have := sumTo_bd (fun v => v) xs 0 1 (wordOk_mem h) k hk
  unfold pre; omega
theorem pre_mono {xs : List Int} (h : wordOk xs = true) (j : Nat) : ∀ n, j + n ≤ xs.length → 0 ≤ pre xs (j + n) - pre xs j ∧ pre xs (j + n) - pre xs j ≤ n := by
  intro n
  induction n with
  | zero => intro _; simp
  | succ n ih =>
    intro hn
    have h1 := ih (by omega)
    have h2 := wordOk_at h (k := j + n) (by omega)
    rw [← Nat.add_assoc, pre_succ xs (by omega)]
    omega
/-- The sum of the n elements from j on. -/
def win (xs : List Int) (n j : Nat) : Int := pre xs (j + n) - pre xs j
theorem win_bd {xs : List Int} (h : wordOk xs = true) {n j : Nat} (hj : j + n ≤ xs.length) : 0 ≤ win xs n j ∧ win xs n j ≤ n := pre_mono h j n hj
theorem win_succ (xs : List Int) {n j : Nat} (h : j + n < xs.length) (h' : j < xs.length) : win xs n (j + 1) = win xs n j + xs[j + n] - xs[j] := by
  unfold win
  have e1 : pre xs (j + 1 + n) = pre xs (j + n) + xs[j + n] := by rw [← pre_succ xs h]; congr 1; omega
  rw [e1, pre_succ xs h']; omega
/-- The least and the greatest sum of the parts that begin at 0 to m. -/
def lowTo (xs : List Int) (n : Nat) : Nat → Int
  | 0 => win xs n 0
  | m + 1 => min (lowTo xs n m) (win xs n (m + 1))
def highTo (xs : List Int) (n : Nat) : Nat → Int
  | 0 => win xs n 0
  | m + 1 => max (highTo xs n m) (win xs n (m + 1))
theorem lowTo_bd {xs : List Int} (h : wordOk xs = true) {n : Nat} : ∀ m, m + n ≤ xs.length → 0 ≤ lowTo xs n m ∧ lowTo xs n m ≤ n
  | 0, hm => win_bd h hm
  | m + 1, hm => by
    have h1 := lowTo_bd (n := n) h m (by omega)
    have h2 := win_bd h hm
    unfold lowTo; omega
theorem highTo_bd {xs : List Int} (h : wordOk xs = true) {n : Nat} : ∀ m, m + n ≤ xs.length → 0 ≤ highTo xs n m ∧ highTo xs n m ≤ n
  | 0, hm => win_bd h hm
  | m + 1, hm => by
    have h1 := highTo_bd (n := n) h m (by omega)
    have h2 := win_bd h hm
    unfold highTo; omega
def partLow (xs : List Int) (n : Nat) : Int := lowTo xs n (xs.length - n)
def partHigh (xs : List Int) (n : Nat) : Int := highTo xs n (xs.length - n)
def partOk (xs : List Int) (n : Int) : Bool := wordOk xs && inB n 1 xs.length
def parts (xs : List Int) (n : Int) : Int × Int × Bool := if partOk xs n then (partLow xs n.toNat, partHigh xs n.toNat, true) else (0, 0, false)
theorem parts_yes {xs : List Int} {n : Nat} (h : wordOk xs = true) (h1 : 1 ≤ n) (h2 : n ≤ xs.length) : parts xs n = (partLow xs n, partHigh xs n, true) := by
  have e : partOk xs n = true := by simp only [partOk, h, Bool.true_and]; exact inB_true (by omega) (by omega)
  simp [parts, e]
theorem parts_no {xs : List Int} {n : Int} (h : partOk xs n = false) : parts xs n = (0, 0, false) := by simp [parts, h]
/-- What the program's loop holds behind k elements. -/
def sumAt (xs : List Int) (n k : Nat) : Int := pre xs k - pre xs (k - n)
def lowAt (xs : List Int) (n k : Nat) : Int := if k < n then (n : Int) else lowTo xs n (k - n)
def highAt (xs : List Int) (n k : Nat) : Int := if k < n then 0 else highTo xs n (k - n)
theorem sumAt_bd {xs : List Int} (h : wordOk xs = true) {n k : Nat} (hk : k ≤ xs.length) : 0 ≤ sumAt xs n k ∧ sumAt xs n k ≤ k := by
  have := pre_mono h (k - n) (min k n) (by omega)
  rw [show k - n + min k n = k by omega] at this
  unfold sumAt; omega
theorem lowAt_bd {xs : List Int} (h : wordOk xs = true) {n k : Nat} (hk : k ≤ xs.length) : 0 ≤ lowAt xs n k ∧ lowAt xs n k ≤ n := by
  unfold lowAt
  split
  · omega
  · exact lowTo_bd h _ (by omega)
theorem highAt_bd {xs : List Int} (h : wordOk xs = true) {n k : Nat} (hk : k ≤ xs.length) : 0 ≤ highAt xs n k ∧ highAt xs n k ≤ n := by
  unfold highAt
  split
  · omega
  · exact highTo_bd h _ (by omega)
theorem sumAt_small (xs : List Int) {n k : Nat} (hk : k < xs.length) (h : k < n) : sumAt xs n (k + 1) = sumAt xs n k + xs[k] := by
  unfold sumAt
  rw [pre_succ xs hk, show k + 1 - n = k - n by omega]
  omega
theorem sumAt_big (xs : List Int) {n k : Nat} (hk : k < xs.length) (h : n ≤ k) (h' : k - n < xs.length) : sumAt xs n (k + 1) = sumAt xs n k + xs[k] - xs[k - n] := by
  unfold sumAt
  rw [pre_succ xs hk, show k + 1 - n = k - n + 1 by omega, pre_succ xs h']
  omega
theorem lowAt_small (xs : List Int) {n k : Nat} (h : k + 1 < n) : lowAt xs n (k + 1) = lowAt xs n k := by
  unfold lowAt; rw [if_pos h, if_pos (by omega)]
theorem highAt_small (xs : List Int) {n k : Nat} (h : k + 1 < n) : highAt xs n (k + 1) = highAt xs n k := by
  unfold highAt; rw [if_pos h, if_pos (by omega)]
theorem low_step {xs : List Int} (hw : wordOk xs = true) {n k : Nat} (hk : k < xs.length) (h : n ≤ k + 1) (h0 : 1 ≤ n) : lowAt xs n (k + 1) = min (lowAt xs n k) (sumAt xs n (k + 1)) := by
  unfold lowAt
  rw [if_neg (by omega)]
  by_cases hc : k < n
  · obtain rfl : n = k + 1 := by omega
    rw [if_pos hc, Nat.sub_self]
    have h1 := win_bd hw (n := k + 1) (j := 0) (by omega)
    have e : sumAt xs (k + 1) (k + 1) = win xs (k + 1) 0 := by simp [sumAt, win]
    rw [e]; unfold lowTo; omega
  · rw [if_neg hc, show k + 1 - n = (k - n) + 1 by omega, lowTo]
    congr 1
    unfold win sumAt
    rw [show k - n + 1 + n = k + 1 by omega, show k + 1 - n = k - n + 1 by omega]
theorem high_step {xs : List Int} (hw : wordOk xs = true) {n k : Nat} (hk : k < xs.length) (h : n ≤ k + 1) (h0 : 1 ≤ n) : highAt xs n (k + 1) = max (highAt xs n k) (sumAt xs n (k + 1)) := by
  unfold highAt
  rw [if_neg (by omega)]
  by_cases hc : k < n
  · obtain rfl : n = k + 1 := by omega
    rw [if_pos hc, Nat.sub_self]
    have h1 := win_bd hw (n := k + 1) (j := 0) (by omega)
    have e : sumAt xs (k + 1) (k + 1) = win xs (k + 1) 0 := by simp [sumAt, win]
    rw [e]; unfold highTo; omega
  · rw [if_neg hc, show k + 1 - n = (k - n) + 1 by omega, highTo]
    congr 1
    unfold win sumAt
    rw [show k - n + 1 + n = k + 1 by omega, show k + 1 - n = k - n + 1 by omega]
theorem lowAt_end {xs : List Int} {n : Nat} (h : n ≤ xs.length) : lowAt xs n xs.length = partLow xs n := by unfold lowAt partLow; rw [if_neg (by omega)]
theorem highAt_end {xs : List Int} {n : Nat} (h : n ≤ xs.length) : highAt xs n xs.length = partHigh xs n := by unfold highAt partHigh; rw [if_neg (by omega)]
/-! ### Balanced -/
def spread (xs : List Int) (n : Nat) : Int := partHigh xs n - partLow xs n
def BalTo (xs : List Int) (k : Nat) : Prop := ∀ n, n < k → 1 ≤ n → spread xs n ≤ 1
def balB (xs : List Int) : Bool := wordOk xs && (List.range xs.length).all fun n => n == 0 || decide (spread xs n ≤ 1)
theorem balTo_zero (xs : List Int) : BalTo xs 0 := fun n h => absurd h (by omega)
theorem balTo_one (xs : List Int) : BalTo xs 1 := fun n h h' => absurd h (by omega)
theorem balTo_step {xs : List Int} {k : Nat} (h : BalTo xs k) (e : spread xs k ≤ 1) : BalTo xs (k + 1) := fun n hn h1 => by
  by_cases hc : n = k
  · subst hc; exact e
  · exact h n (by omega) h1
theorem balB_noWord {xs : List Int} (h : wordOk xs = false) : balB xs = false := by simp [balB, h]
theorem balB_iff {xs : List Int} (h : wordOk xs = true) : balB xs = true ↔ BalTo xs xs.length := by
  unfold balB BalTo
  rw [h, Bool.true_and, List.all_eq_true]
  constructor
  · intro ha n hn h1
    have := ha n (List.mem_range.2 hn)
    simp only [Bool.or_eq_true, beq_iff_eq, decide_eq_true_eq] at this
    omega
  · intro ha n hn
    have := ha n (List.mem_range.1 hn)
    simp only [Bool.or_eq_true, beq_iff_eq, decide_eq_true_eq]
    omega
theorem balB_no {xs : List Int} (h : wordOk xs = true) {n : Nat} (hn : n < xs.length) (h1 : 1 ≤ n) (e : 1 < spread xs n) : balB xs = false := by
  rcases Bool.eq_false_or_eq_true (balB xs) with hb | hb
  · have := (balB_iff h).1 hb n hn h1
    omega
  · exact hb
theorem balB_yes {xs : List Int} (h : wordOk xs = true) {k : Nat} (hk : xs.length ≤ k) (e : BalTo xs k) : balB xs = true := (balB_iff h).2 fun n hn h1 => e n (by omega) h1
end Go.Proofs.YtgkijkenbjjnmaaGreatDoor

/- Plain laws of mechanical words: they are words, balanced, and cut as the phase goes on. No program. -/
namespace Go.Proofs.YtgkijkenbjjnmaaGreatDoor
open Go.RowKit
set_option linter.unusedVariables false
set_option linter.unusedSimpArgs false
/-- The numbers of whole q in the multiples of p. -/
def flo (p q f : Int) (k : Nat) : Int := (k * p + f) / q
def mech (p q f : Int) (n : Nat) : List Int := lst n fun i => flo p q f (i + 1) - flo p q f i
theorem mech_length (p q f : Int) (n : Nat) : (mech p q f n).length = n := lst_length _ _
theorem flo_zero {p q f : Int} (h0 : 0 ≤ f) (h1 : f < q) : flo p q f 0 = 0 := by
  unfold flo; simp only [Int.natCast_zero, Int.zero_mul, Int.zero_add]; exact Int.ediv_eq_zero_of_lt h0 h1
/-- Two floors: the floor of a sum is the sum of the floors, or one more. -/
theorem div_add_bd (a b : Int) {q : Int} (hq : 0 < q) : a / q + b / q ≤ (a + b) / q ∧ (a + b) / q ≤ a / q + b / q + 1 := by
  have e1 := Int.mul_ediv_add_emod a q
  have e2 := Int.mul_ediv_add_emod b q
  have h1 := Int.emod_nonneg a (show q ≠ 0 by omega)
  have h2 := Int.emod_nonneg b (show q ≠ 0 by omega)
  have h3 := Int.emod_lt_of_pos a hq
  have h4 := Int.emod_lt_of_pos b hq
  have e : a + b = (a % q + b % q) + q * (a / q + b / q) := by rw [Int.mul_add]; omega
  have hd : (a + b) / q = (a % q + b % q) / q + (a / q + b / q) := by
    rw [e, Int.add_mul_ediv_left _ _ (by omega)]
  rcases Int.lt_or_le (a % q + b % q) q with h | h
  · have := Int.ediv_eq_zero_of_lt (show 0 ≤ a % q + b % q by omega) h
    omega
  · have h5 : (a % q + b % q) / q = 1 := by
      have e5 : a % q + b % q = (a % q + b % q - q) + q * 1 := by omega
      rw [e5, Int.add_mul_ediv_left _ _ (by omega), Int.ediv_eq_zero_of_lt (by omega) (by omega)]; rfl
    omega
theorem flo_add (p q f : Int) (hq : 0 < q) (j n : Nat) : (n * p) / q ≤ flo p q f (j + n) - flo p q f j ∧ flo p q f (j + n) - flo p q f j ≤ (n * p) / q + 1 := by
  have h := div_add_bd (n * p) (j * p + f) hq
  have e : ((j + n : Nat) : Int) * p + f = n * p + (j * p + f) := by rw [Int.natCast_add, Int.add_mul]; omega
  unfold flo
  rw [e]
  omega
theorem mech_bit {p q : Int} (f : Int) (hq : 0 < q) (h0 : 0 ≤ p) (h1 : p ≤ q) (i : Nat) : 0 ≤ flo p q f (i + 1) - flo p q f i ∧ flo p q f (i + 1) - flo p q f i ≤ 1 := by
  have e : ((i + 1 : Nat) : Int) * p + f = (i * p + f) + p := by rw [Int.natCast_add, Int.add_mul]; simp; omega
  have a1 : flo p q f i ≤ flo p q f (i + 1) := by
    unfold flo; rw [e]; exact Int.ediv_le_ediv hq (by omega)
  have a2 : flo p q f (i + 1) ≤ flo p q f i + 1 := by
    have : ((i * p + f) + p) / q ≤ ((i * p + f) + q * 1) / q := Int.ediv_le_ediv hq (by omega)
    rw [Int.add_mul_ediv_left _ _ (by omega)] at this
    unfold flo; rw [e]; omega
  omega
theorem mech_word {p q : Int} (f : Int) (hq : 0 < q) (h0 : 0 ≤ p) (h1 : p ≤ q) {n : Nat} (hn : n ≤ 1000) : wordOk (mech p q f n) = true := by
  refine wordOk_of (fun x hx => ?_) (by rw [mech_length]; exact hn)
  obtain ⟨k, _, rfl⟩ := lst_mem hx
  exact mech_bit f hq h0 h1 k
theorem mech_pre (p q f : Int) (n : Nat) : ∀ k, k ≤ n → pre (mech p q f n) k = flo p q f k - flo p q f 0
  | 0, _ => by rw [pre_zero]; omega
  | k + 1, h => by
    rw [pre_succ _ (by rw [mech_length]; omega), mech_pre p q f n k (by omega)]
    unfold mech
    rw [lst_get]; omega
theorem mech_win (p q f : Int) (hq : 0 < q) (n m j : Nat) (h : j + m ≤ n) : (m * p) / q ≤ win (mech p q f n) m j ∧ win (mech p q f n) m j ≤ (m * p) / q + 1 := by
  have := flo_add p q f hq j m
  unfold win
  rw [mech_pre p q f n _ h, mech_pre p q f n j (by omega)]
  omega
/-- If all sums of parts lie between two neighbours, the least and the greatest do. -/
theorem lowTo_ge {xs : List Int} {n : Nat} {a : Int} : ∀ m, (∀ j, j ≤ m → a ≤ win xs n j) → a ≤ lowTo xs n m
  | 0, h => h 0 (Nat.le_refl _)
  | m + 1, h => by
    have h1 := lowTo_ge m fun j hj => h j (by omega)
    have h2 := h (m + 1) (Nat.le_refl _)
    unfold lowTo; omega
theorem highTo_le {xs : List Int} {n : Nat} {a : Int} : ∀ m, (∀ j, j ≤ m → win xs n j ≤ a) → highTo xs n m ≤ a
  | 0, h => h 0 (Nat.le_refl _)
  | m + 1, h => by
    have h1 := highTo_le m fun j hj => h j (by omega)
    have h2 := h (m + 1) (Nat.le_refl _)
    unfold highTo; omega
theorem bal_of {xs : List Int} (hw : wordOk xs = true) (g : Nat → Int) (h : ∀ n j, j + n ≤ xs.length → g n ≤ win xs n j ∧ win xs n j ≤ g n + 1) : balB xs = true := by
  refine balB_yes hw (Nat.le_refl _) fun n hn h1 => ?_
  have e1 := lowTo_ge (xs := xs) (n := n) (a := g n) (xs.length - n) fun j hj => (h n j (by omega)).1
  have e2 := highTo_le (xs := xs) (n := n) (a := g n + 1) (xs.length - n) fun j hj => (h n j (by omega)).2
  unfold spread partHigh partLow
  omega
theorem mech_bal {p q : Int} (f : Int) (hq : 0 < q) (h0 : 0 ≤ p) (h1 : p ≤ q) {n : Nat} (hn : n ≤ 1000) : balB (mech p q f n) = true :=
  bal_of (mech_word f hq h0 h1 hn) (fun n => (n * p) / q) fun m j hj => mech_win p q f hq n m j (by rw [mech_length] at hj; exact hj)
theorem pre_all (xs : List Int) : pre xs xs.length = xs.sum := by unfold pre; rw [sumTo_all]; simp
theorem mech_sum (p q f : Int) (n : Nat) : (mech p q f n).sum = flo p q f n - flo p q f 0 := by
  rw [← pre_all, mech_length, mech_pre p q f n n (Nat.le_refl _)]
/-- The whole of q elements has the sum p. -/
theorem mech_whole {p : Int} (q : Nat) (f : Int) (hq : 0 < q) : (mech p q f q).sum = p := by
  rw [mech_sum]
  unfold flo
  have e : ((q : Int) * p + f) / q = p + f / q := by
    rw [Int.add_comm, Int.add_mul_ediv_left _ _ (by omega)]; omega
  rw [e]; simp
/-- A word is cut as the phase goes on. -/
theorem flo_cut {p q f : Int} (hq : 0 < q) (c k : Nat) : flo p q f (c + k) = flo p q ((f + c * p) % q) k + (f + c * p) / q := by
  have e1 := Int.mul_ediv_add_emod (f + c * p) q
  unfold flo
  have e : ((c + k : Nat) : Int) * p + f = (k * p + (f + c * p) % q) + q * ((f + c * p) / q) := by
    rw [Int.natCast_add, Int.add_mul]; omega
  rw [e, Int.add_mul_ediv_left _ _ (by omega)]
theorem mech_cut {p q f : Int} (hq : 0 < q) {c n : Nat} (h : c ≤ n) : mech p q f n = mech p q f c ++ mech p q ((f + c * p) % q) (n - c) := by
  apply List.ext_getElem?
  intro t
  by_cases h1 : t < c
  · rw [List.getElem?_append_left (by rw [mech_length]; exact h1)]
    unfold mech
    rw [lst_at _ h1, lst_at _ (by omega)]
  · obtain ⟨j, rfl⟩ : ∃ j, t = c + j := ⟨t - c, by omega⟩
    rw [List.getElem?_append_right (by rw [mech_length]; omega), mech_length, show c + j - c = j by omega]
    by_cases h2 : j < n - c
    · unfold mech
      rw [lst_at _ (by omega), lst_at _ h2, Nat.add_assoc, flo_cut hq c (j + 1), flo_cut hq c j]
      congr 1; omega
    · rw [List.getElem?_eq_none (by rw [mech_length]; omega), List.getElem?_eq_none (by rw [mech_length]; omega)]
end Go.Proofs.YtgkijkenbjjnmaaGreatDoor

/- Plain laws of the carries of an accumulator: what they combine to, what they add up to, the first stage as a word. No program. -/
namespace Go.Proofs.YtgkijkenbjjnmaaGreatDoor
open Go.RowKit
set_option linter.unusedVariables false
set_option linter.unusedSimpArgs false
theorem crow_lst (m : Int) (s xs : List Int) (i n : Nat) : crow m s xs i n = lst n (carr m s xs i) := rfl
def combF (g : Nat → Nat → Int) : Nat → Nat → Int
  | 0 => fun _ => 0
  | i + 1 => fun k => combF g i k + dFn (g i) i k
theorem addL_lst (n : Nat) (f g : Nat → Int) : addL (lst n f) (lst n g) = lst n fun k => f k + g k := by
  apply List.ext_getElem?
  intro k
  have h1 := lst_length n f
  have h2 := lst_length n g
  by_cases hk : k < n
  · rw [lst_at _ hk, addL_at (by omega) (by omega), lst_get, lst_get]
  · rw [List.getElem?_eq_none (by rw [addL_length (by omega)]; omega), List.getElem?_eq_none (by rw [lst_length]; omega)]
theorem combTo_lst {n : Nat} {xss : List (List Int)} {g : Nat → Nat → Int} : ∀ i, (∀ j, j < i → xss.getD j [] = lst n (g j)) → combTo n xss i = lst n (combF g i)
  | 0, _ => by
    refine eq_lst (by simp [combTo]) fun k hk => ?_
    simp [combTo, combF]
  | i + 1, h => by
    rw [combTo, combTo_lst i fun j hj => h j (by omega), h i (by omega), diffN_lst, addL_lst]; rfl
theorem run_y (m : Int) (s xs : List Int) (n : Nat) : combTo n (cRows m s xs s.length n) s.length = lst n (combF (carr m s xs) s.length) :=
  combTo_lst s.length fun j hj => cRows_getD m s xs hj
/-- The sums of the carries of a stage. -/
theorem stage_sum (m : Int) (s xs : List Int) {i : Nat} (h : i < s.length) : ∀ n, m * sumF (carr m s xs i) n = sumF (inp m s xs i) n + rst m s xs i 0 - rst m s xs i n
  | 0 => by simp [sumF]
  | n + 1 => by
    have h1 := stage_sum m s xs h n
    have h2 := stage_step m s xs n h
    simp only [sumF, Int.mul_add]
    omega
theorem rst_zero (m : Int) (s xs : List Int) (i : Nat) : rst m s xs i 0 = s.getD i 0 := rfl
theorem sum_inp_zero (m : Int) (s xs : List Int) : sumF (inp m s xs 0) xs.length = xs.sum := by
  rw [sum_fnOf]; rfl
/-- With rests 0 at first, the carries of a stage times the modulus are what comes in less the differences of what comes into the next one. -/
theorem stage_diff {m : Int} {s xs : List Int} (hz : ∀ i, s.getD i 0 = 0) {i : Nat} (h : i < s.length) : ∀ k, m * carr m s xs i k = inp m s xs i k - dF (inp m s xs (i + 1)) k
  | 0 => by
    have h2 := stage_step m s xs 0 h
    rw [rst_succ m s xs 0 h, rst_zero, hz] at h2
    simp [dF, bef]; omega
  | k + 1 => by
    have h2 := stage_step m s xs (k + 1) h
    rw [rst_succ m s xs (k + 1) h, rst_succ m s xs k h] at h2
    simp [dF, bef]; omega
theorem comb_tele {m : Int} {s xs : List Int} (hz : ∀ i, s.getD i 0 = 0) : ∀ i, i ≤ s.length → ∀ k, m * combF (carr m s xs) i k = inp m s xs 0 k - dFn (inp m s xs i) i k
  | 0, _, k => by simp [combF, dFn]
  | i + 1, h, k => by
    have ih := comb_tele (m := m) (xs := xs) hz i (by omega) k
    have e : (fun k => m * carr m s xs i k) = fun k => inp m s xs i k - dF (inp m s xs (i + 1)) k := funext (stage_diff hz (by omega))
    have h1 : m * dFn (carr m s xs i) i k = dFn (inp m s xs i) i k - dFn (inp m s xs (i + 1)) (i + 1) k := by
      have := congrFun (dFn_mul m (carr m s xs i) i) k
      rw [e, dFn_sub, dFn_dF] at this
      exact this.symm
    simp only [combF, Int.mul_add]
    omega
/-- The last rests behind each step. -/
def restL (m : Int) (s xs : List Int) (n : Nat) : List Int := lst n fun k => rst m s xs (s.length - 1) (k + 1)
theorem restL_inp (m : Int) (s xs : List Int) (n : Nat) (h : 0 < s.length) : restL m s xs n = lst n (inp m s xs s.length) :=
  lst_congr fun k _ => by rw [rst_succ m s xs k (by omega), show s.length - 1 + 1 = s.length by omega]
/-- The first stages alone. -/
theorem sx_pre (m : Int) (s : List Int) (x : Int) (j : Nat) : ∀ i, i ≤ j → sx m (s.take j) x i = sx m s x i
  | 0, _ => rfl
  | i + 1, h => by
    rw [sx, sx, sx_pre m s x j i (by omega)]
    congr 2
    simp [List.getD, List.getElem?_take, show i < j by omega]
theorem stepN_pre (m : Int) (s : List Int) (x : Int) (j : Nat) : stepN m (s.take j) x = (stepN m s x).take j := by
  apply List.ext_getElem?
  intro t
  by_cases h1 : t < s.length
  · by_cases h2 : t < j
    · rw [List.getElem?_take, if_pos h2, List.getElem?_eq_getElem (by rw [stepN_length, List.length_take]; omega), stepN_at, List.getElem?_eq_getElem (by rw [stepN_length]; omega), stepN_at, sx_pre m s x j _ (by omega)]
    · rw [List.getElem?_take, if_neg h2, List.getElem?_eq_none (by rw [stepN_length, List.length_take]; omega)]
  · rw [List.getElem?_take, List.getElem?_eq_none (by rw [stepN_length, List.length_take]; omega)]
    split
    · rw [List.getElem?_eq_none (by rw [stepN_length]; omega)]
    · rfl
theorem stX_pre (m : Int) (s xs : List Int) (j : Nat) : ∀ k, stX m (s.take j) xs k = (stX m s xs k).take j
  | 0 => rfl
  | k + 1 => by rw [stX, stX, stX_pre m s xs j k, stepN_pre]
theorem rst_pre (m : Int) (s xs : List Int) {i j : Nat} (h : i < j) (k : Nat) : rst m (s.take j) xs i k = rst m s xs i k := by
  unfold rst
  rw [stX_pre]
  simp [List.getD, List.getElem?_take, h]
theorem restL_pre (m : Int) (s xs : List Int) {i : Nat} (h0 : 0 < i) (h : i < s.length) (n : Nat) : restL m (s.take i) xs n = lst n (inp m s xs i) :=
  lst_congr fun k _ => by
    rw [List.length_take, Nat.min_eq_left (by omega), rst_pre m s xs (by omega), rst_succ m s xs k (by omega), show i - 1 + 1 = i by omega]
/-- A constant input. -/
theorem const_getD {v : Int} {n k : Nat} (h : k < n) : (List.replicate n v).getD k 0 = v := by simp [h]
theorem carr_const {m : Int} {s : List Int} {v : Int} {n : Nat} (hm : 2 ≤ m) (hs : Rests m s) (h : 0 < s.length) : ∀ k, k ≤ n → rst m s (List.replicate n v) 0 k = (k * v + s.getD 0 0) % m
  | 0, _ => by
    have := rests_getD hm hs 0
    rw [rst_zero]; simp only [Int.natCast_zero, Int.zero_mul, Int.zero_add]
    exact (Int.emod_eq_of_lt this.1 this.2).symm
  | k + 1, hk => by
    rw [rst_succ _ _ _ _ h, inp_succ, inp_zero, const_getD (by omega), carr_const hm hs h k (by omega), Int.add_emod_emod]
    congr 1
    rw [Int.natCast_add, Int.add_mul]; omega
theorem carr_mech {m : Int} {s : List Int} {v : Int} {n : Nat} (hm : 2 ≤ m) (hs : Rests m s) (h : 0 < s.length) : crow m s (List.replicate n v) 0 n = mech v m (s.getD 0 0) n := by
  refine lst_congr fun k hk => ?_
  have h1 := stage_step m s (List.replicate n v) k h
  rw [inp_zero, const_getD hk, carr_const hm hs h k (by omega), carr_const hm hs h (k + 1) (by omega)] at h1
  have e1 := Int.mul_ediv_add_emod (k * v + s.getD 0 0) m
  have e2 := Int.mul_ediv_add_emod ((k + 1 : Nat) * v + s.getD 0 0) m
  unfold flo
  have e3 : ((k + 1 : Nat) : Int) * v = k * v + v := by rw [Int.natCast_add, Int.add_mul]; simp
  have : m * carr m s (List.replicate n v) 0 k = m * (((k + 1 : Nat) * v + s.getD 0 0) / m - (k * v + s.getD 0 0) / m) := by
    rw [Int.mul_sub, h1]; omega
  exact Int.eq_of_mul_eq_mul_left (by omega) this
end Go.Proofs.YtgkijkenbjjnmaaGreatDoor
