/- Plain laws of a run of an accumulator. No program. -/
import Derived.Test.YtdmoceooijbajaaDoorPStep
import Derived.Test.YtdmoceooijbajaaDoorPComb
namespace Go.Proofs.YtdmoceooijbajaaDoor
open Go.RowKit
set_option linter.unusedVariables false
set_option linter.unusedSimpArgs false
/-- The rests behind k steps with the inputs xs. -/
def stX (m : Int) (s xs : List Int) : Nat → List Int
  | 0 => s
  | k + 1 => stepN m (stX m s xs k) (xs.getD k 0)
theorem stX_length (m : Int) (s xs : List Int) : ∀ k, (stX m s xs k).length = s.length
  | 0 => rfl
  | k + 1 => by rw [stX, stepN_length, stX_length m s xs k]
theorem stX_rests {m : Int} {s xs : List Int} (hm : 2 ≤ m) (h : Rests m s) (hx : Rests m xs) : ∀ k, Rests m (stX m s xs k)
  | 0 => h
  | k + 1 => stepN_rests hm (stX_rests hm h hx k) (rests_getD hm hx k)
/-- The carry of stage i at step k. -/
def carr (m : Int) (s xs : List Int) (i k : Nat) : Int := (stepC m (stX m s xs k) (xs.getD k 0)).getD i 0
def crow (m : Int) (s xs : List Int) (i n : Nat) : List Int := (List.range n).map (carr m s xs i)
def cRows (m : Int) (s xs : List Int) (o n : Nat) : List (List Int) := (List.range o).map fun i => crow m s xs i n
theorem crow_length (m : Int) (s xs : List Int) (i n : Nat) : (crow m s xs i n).length = n := by simp [crow]
theorem cRows_length (m : Int) (s xs : List Int) (o n : Nat) : (cRows m s xs o n).length = o := by simp [cRows]
theorem crow_succ (m : Int) (s xs : List Int) (i n : Nat) : crow m s xs i (n + 1) = crow m s xs i n ++ [carr m s xs i n] := by simp [crow, List.range_succ]
theorem cRows_at (m : Int) (s xs : List Int) {o n i : Nat} (h : i < o) : (cRows m s xs o n)[i]? = some (crow m s xs i n) := by simp [cRows, h]
theorem cRows_getD (m : Int) (s xs : List Int) {o n i : Nat} (h : i < o) : (cRows m s xs o n).getD i [] = crow m s xs i n := by simp [cRows, h]
theorem carr_bit {m : Int} {s xs : List Int} (hm : 2 ≤ m) (h : Rests m s) (hx : Rests m xs) (i k : Nat) : 0 ≤ carr m s xs i k ∧ carr m s xs i k ≤ 1 := by
  have hb := stepC_bits hm (stX_rests hm h hx k) (rests_getD hm hx k)
  unfold carr
  by_cases hi : i < (stepC m (stX m s xs k) (xs.getD k 0)).length
  · rw [getD_at hi]; exact hb _ (List.getElem_mem hi)
  · rw [List.getD, List.getElem?_eq_none (by omega)]; simp
theorem crow_word {m : Int} {s xs : List Int} (hm : 2 ≤ m) (h : Rests m s) (hx : Rests m xs) (i n : Nat) (hn : n ≤ 1000) : wordOk (crow m s xs i n) = true := by
  refine wordOk_of (fun x hx' => ?_) (by rw [crow_length]; exact hn)
  simp only [crow, List.mem_map] at hx'
  obtain ⟨k, _, rfl⟩ := hx'
  exact carr_bit hm h hx i k
theorem crow_ok {m : Int} {s xs : List Int} (hm : 2 ≤ m) (h : Rests m s) (hx : Rests m xs) (i n : Nat) (hn : n ≤ 1000) : lenOk n (crow m s xs i n) = true := by
  simp [lenOk, crow_word hm h hx i n hn, crow_length]
structure Run where
  c : List (List Int)
  y : List Int
  s : List Int
  ok : Bool
def runOk (o m : Int) (s xs : List Int) : Bool := restsOk o m s && xs.all (restB m) && decide ((xs.length : Int) ≤ 1000)
def runYes (m : Int) (s xs : List Int) : Run := ⟨cRows m s xs s.length xs.length, combTo xs.length (cRows m s xs s.length xs.length) s.length, stX m s xs xs.length, true⟩
def runA (o m : Int) (s xs : List Int) : Run := if runOk o m s xs then runYes m s xs else ⟨[], [], [], false⟩
theorem runA_yes {o m : Int} {s xs : List Int} (h : runOk o m s xs = true) : runA o m s xs = runYes m s xs := by simp [runA, h]
theorem runA_no {o m : Int} {s xs : List Int} (h : runOk o m s xs = false) : runA o m s xs = ⟨[], [], [], false⟩ := by simp [runA, h]
theorem all_rests {m : Int} {xs : List Int} (h : xs.all (restB m) = true) : Rests m xs := fun v hv => by
  have := List.all_eq_true.1 h v hv
  simpa [restB] using this
theorem rests_all {m : Int} {xs : List Int} (h : Rests m xs) : xs.all (restB m) = true := by
  rw [List.all_eq_true]
  intro v hv
  have := h v hv
  simp [restB]; omega
theorem runOk_parts {o m : Int} {s xs : List Int} (h : runOk o m s xs = true) : restsOk o m s = true ∧ xs.all (restB m) = true ∧ xs.length ≤ 1000 := by
  simp only [runOk, Bool.and_eq_true, decide_eq_true_eq] at h
  exact ⟨h.1.1, h.1.2, by omega⟩
theorem run_rows_ok {m : Int} {s xs : List Int} (hm : 2 ≤ m) (h : Rests m s) (hx : Rests m xs) {o n : Nat} (hn : n ≤ 1000) : ∀ k, k < o → lenOk n ((cRows m s xs o n).getD k []) = true := fun k hk => by
  rw [cRows_getD m s xs hk]; exact crow_ok hm h hx k n hn
theorem combine_rows {m : Int} {s xs : List Int} (hm : 2 ≤ m) (h : Rests m s) (hx : Rests m xs) (h1 : 1 ≤ s.length) (h6 : s.length ≤ 6) (hn : xs.length ≤ 1000) :
    combine (cRows m s xs s.length xs.length) = (combTo xs.length (cRows m s xs s.length xs.length) s.length, true) := by
  have e0 : ((cRows m s xs s.length xs.length).getD 0 []).length = xs.length := by rw [cRows_getD m s xs (by omega), crow_length]
  rw [combine_yes (by rw [cRows_length]; exact h1) (by rw [cRows_length]; exact h6) ?_, e0, cRows_length]
  rw [e0, List.all_eq_true]
  intro x hx'
  simp only [cRows, List.mem_map] at hx'
  obtain ⟨i, _, rfl⟩ := hx'
  exact crow_ok hm h hx i _ hn
theorem cRows_mem {m : Int} {s xs : List Int} {o n : Nat} {l : List Int} (h : l ∈ cRows m s xs o n) : l.length = n := by
  simp only [cRows, List.mem_map] at h
  obtain ⟨i, _, rfl⟩ := h
  exact crow_length _ _ _ _ _
/-- What the program's inner loop has: the first j rows have one element more. -/
def cPart (m : Int) (s xs : List Int) (o k j : Nat) : List (List Int) := (List.range o).map fun i => crow m s xs i (if i < j then k + 1 else k)
theorem cPart_start (m : Int) (s xs : List Int) (o k : Nat) : cPart m s xs o k 0 = cRows m s xs o k := by simp [cPart, cRows]
theorem cPart_end (m : Int) (s xs : List Int) (o k j : Nat) (h : o ≤ j) : cPart m s xs o k j = cRows m s xs o (k + 1) := by
  unfold cPart cRows
  apply List.map_congr_left
  intro i hi
  rw [if_pos (by have := List.mem_range.1 hi; omega)]
theorem cPart_length (m : Int) (s xs : List Int) (o k j : Nat) : (cPart m s xs o k j).length = o := by simp [cPart]
theorem cPart_at (m : Int) (s xs : List Int) {o k j i : Nat} (h : i < o) : (cPart m s xs o k j)[i]? = some (crow m s xs i (if i < j then k + 1 else k)) := by simp [cPart, h]
theorem cPart_step (m : Int) (s xs : List Int) {o k j : Nat} (h : j < o) : (cPart m s xs o k j).set j (crow m s xs j k ++ [carr m s xs j k]) = cPart m s xs o k (j + 1) := by
  apply List.ext_getElem?
  intro i
  by_cases hi : i < o
  · by_cases hij : j = i
    · subst hij
      rw [List.getElem?_set_self (by rw [cPart_length]; exact hi), cPart_at m s xs hi, if_pos (by omega), crow_succ]
    · rw [List.getElem?_set_ne hij, cPart_at m s xs hi, cPart_at m s xs hi]
      by_cases h2 : i < j
      · rw [if_pos h2, if_pos (by omega)]
      · rw [if_neg h2, if_neg (by omega)]
  · rw [List.getElem?_eq_none (by rw [List.length_set, cPart_length]; omega), List.getElem?_eq_none (by rw [cPart_length]; omega)]
/-! ### What a run says -/
/-- The rest of stage i behind k steps; what comes into it at step k. -/
def rst (m : Int) (s xs : List Int) (i k : Nat) : Int := (stX m s xs k).getD i 0
def inp (m : Int) (s xs : List Int) (i k : Nat) : Int := sx m (stX m s xs k) (xs.getD k 0) i
theorem rst_succ (m : Int) (s xs : List Int) {i : Nat} (k : Nat) (h : i < s.length) : rst m s xs i (k + 1) = inp m s xs (i + 1) k := by
  unfold rst inp
  rw [stX, getD_at (by rw [stepN_length, stX_length]; exact h), stepN_at]
theorem carr_eq (m : Int) (s xs : List Int) {i : Nat} (k : Nat) (h : i < s.length) : carr m s xs i k = (inp m s xs i k + rst m s xs i k) / m := by
  unfold carr inp rst
  rw [getD_at (by rw [stepC_length, stX_length]; exact h), stepC_at]
theorem inp_succ (m : Int) (s xs : List Int) (i k : Nat) : inp m s xs (i + 1) k = (inp m s xs i k + rst m s xs i k) % m := rfl
/-- One step of one stage. -/
theorem stage_step (m : Int) (s xs : List Int) {i : Nat} (k : Nat) (h : i < s.length) : m * carr m s xs i k = inp m s xs i k + rst m s xs i k - rst m s xs i (k + 1) := by
  rw [rst_succ m s xs k h, carr_eq m s xs k h, inp_succ]
  have := Int.mul_ediv_add_emod (inp m s xs i k + rst m s xs i k) m
  omega
theorem inp_zero (m : Int) (s xs : List Int) (k : Nat) : inp m s xs 0 k = xs.getD k 0 := rfl
/-- A run of a list behind a list. -/
theorem getD_app_left {xs ys : List Int} {k : Nat} (h : k < xs.length) : (xs ++ ys).getD k 0 = xs.getD k 0 := by simp [List.getD, List.getElem?_append_left h]
theorem getD_app_right (xs ys : List Int) (j : Nat) : (xs ++ ys).getD (xs.length + j) 0 = ys.getD j 0 := by
  simp [List.getD, List.getElem?_append_right]
theorem stX_app_left (m : Int) (s xs ys : List Int) : ∀ k, k ≤ xs.length → stX m s (xs ++ ys) k = stX m s xs k
  | 0, _ => rfl
  | k + 1, h => by rw [stX, stX, stX_app_left m s xs ys k (by omega), getD_app_left (by omega)]
theorem stX_app_right (m : Int) (s xs ys : List Int) : ∀ j, stX m s (xs ++ ys) (xs.length + j) = stX m (stX m s xs xs.length) ys j
  | 0 => stX_app_left m s xs ys _ (Nat.le_refl _)
  | j + 1 => by rw [← Nat.add_assoc, stX, stX, stX_app_right m s xs ys j, getD_app_right]
theorem carr_app_left (m : Int) (s xs ys : List Int) (i : Nat) {k : Nat} (h : k < xs.length) : carr m s (xs ++ ys) i k = carr m s xs i k := by
  unfold carr; rw [stX_app_left m s xs ys k (by omega), getD_app_left h]
theorem carr_app_right (m : Int) (s xs ys : List Int) (i j : Nat) : carr m s (xs ++ ys) i (xs.length + j) = carr m (stX m s xs xs.length) ys i j := by
  unfold carr; rw [stX_app_right m s xs ys j, getD_app_right]
theorem crow_app (m : Int) (s xs ys : List Int) (i : Nat) : crow m s (xs ++ ys) i (xs ++ ys).length = crow m s xs i xs.length ++ crow m (stX m s xs xs.length) ys i ys.length := by
  apply List.ext_getElem?
  intro t
  by_cases h1 : t < xs.length
  · rw [List.getElem?_append_left (by rw [crow_length]; exact h1)]
    simp [crow, h1, carr_app_left, show t < xs.length + ys.length by omega]
  · obtain ⟨j, rfl⟩ : ∃ j, t = xs.length + j := ⟨t - xs.length, by omega⟩
    rw [List.getElem?_append_right (by rw [crow_length]; omega)]
    by_cases h2 : j < ys.length
    · simp [crow, carr_app_right, h2]
    · simp [crow, h2]
end Go.Proofs.YtdmoceooijbajaaDoor
