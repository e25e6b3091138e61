/- Plain laws for words: what the sums of parts are in the words of the opposite elements and backwards; runs. No program. -/
import Derived.Test.YthpjpnilmpihaaaPMech
import Derived.Test.YthpjpnilmpihaaaWords
import Derived.Test.YthpjpnilmpihaaaRev
namespace Go.Proofs.Ythpjpnilmpihaaa
open Go.RowKit
set_option linter.unusedVariables false
set_option linter.unusedSimpArgs false
theorem lowTo_le {xs : List Int} {n : Nat} : ∀ m j, j ≤ m → lowTo xs n m ≤ win xs n j
  | 0, j, h => by obtain rfl : j = 0 := by omega
                  exact Int.le_refl _
  | m + 1, j, h => by
    unfold lowTo
    by_cases hc : j = m + 1
    · subst hc; omega
    · have := lowTo_le (xs := xs) (n := n) m j (by omega); omega
theorem highTo_ge {xs : List Int} {n : Nat} : ∀ m j, j ≤ m → win xs n j ≤ highTo xs n m
  | 0, j, h => by obtain rfl : j = 0 := by omega
                  exact Int.le_refl _
  | m + 1, j, h => by
    unfold highTo
    by_cases hc : j = m + 1
    · subst hc; omega
    · have := highTo_ge (xs := xs) (n := n) m j (by omega); omega
theorem lowTo_at {xs : List Int} {n : Nat} : ∀ m, ∃ j, j ≤ m ∧ lowTo xs n m = win xs n j
  | 0 => ⟨0, Nat.le_refl _, rfl⟩
  | m + 1 => by
    obtain ⟨j, h1, h2⟩ := lowTo_at (xs := xs) (n := n) m
    unfold lowTo
    rcases Int.le_total (lowTo xs n m) (win xs n (m + 1)) with h | h
    · exact ⟨j, by omega, by omega⟩
    · exact ⟨m + 1, by omega, by omega⟩
theorem highTo_at {xs : List Int} {n : Nat} : ∀ m, ∃ j, j ≤ m ∧ highTo xs n m = win xs n j
  | 0 => ⟨0, Nat.le_refl _, rfl⟩
  | m + 1 => by
    obtain ⟨j, h1, h2⟩ := highTo_at (xs := xs) (n := n) m
    unfold highTo
    rcases Int.le_total (highTo xs n m) (win xs n (m + 1)) with h | h
    · exact ⟨m + 1, by omega, by omega⟩
    · exact ⟨j, by omega, by omega⟩
theorem part_le (xs : List Int) (n : Nat) : partLow xs n ≤ partHigh xs n := by
  have h1 := lowTo_le (xs := xs) (n := n) (xs.length - n) 0 (by omega)
  have h2 := highTo_ge (xs := xs) (n := n) (xs.length - n) 0 (by omega)
  unfold partLow partHigh; omega
/-- A word's spread is at most 1 exactly if all sums of parts differ by at most 1. -/
def Near (xs : List Int) (n : Nat) : Prop := ∀ i j, i + n ≤ xs.length → j + n ≤ xs.length → win xs n i - win xs n j ≤ 1
theorem near_iff {xs : List Int} {n : Nat} (h : n ≤ xs.length) : spread xs n ≤ 1 ↔ Near xs n := by
  unfold spread partHigh partLow Near
  constructor
  · intro hs i j hi hj
    have h1 := highTo_ge (xs := xs) (n := n) (xs.length - n) i (by omega)
    have h2 := lowTo_le (xs := xs) (n := n) (xs.length - n) j (by omega)
    omega
  · intro hn
    obtain ⟨i, h1, e1⟩ := highTo_at (xs := xs) (n := n) (xs.length - n)
    obtain ⟨j, h2, e2⟩ := lowTo_at (xs := xs) (n := n) (xs.length - n)
    have := hn i j (by omega) (by omega)
    omega
theorem bal_near {xs : List Int} (h : wordOk xs = true) : balB xs = true ↔ ∀ n, 1 ≤ n → n ≤ xs.length → Near xs n := by
  rw [balB_iff h]
  constructor
  · intro hb n h1 h2
    by_cases hc : n < xs.length
    · exact (near_iff h2).1 (hb n hc h1)
    · intro i j hi hj
      obtain rfl : i = 0 := by omega
      obtain rfl : j = 0 := by omega
      omega
  · intro hn n h1 h2
    exact (near_iff (by omega)).2 (hn n h2 (by omega))
theorem pre_comp {xs : List Int} : ∀ k, k ≤ xs.length → pre (compL xs) k = k - pre xs k
  | 0, _ => by rw [pre_zero, pre_zero]; rfl
  | k + 1, h => by
    rw [pre_succ _ (show k < (compL xs).length by rw [compL_length]; omega), pre_succ xs (by omega), pre_comp k (by omega), compL_at _ (by omega)]
    omega
theorem win_comp {xs : List Int} {n j : Nat} (h : j + n ≤ xs.length) : win (compL xs) n j = n - win xs n j := by
  unfold win; rw [pre_comp _ h, pre_comp _ (by omega)]; omega
theorem bal_comp {xs : List Int} (h : wordOk xs = true) : balB (compL xs) = balB xs := by
  rw [Bool.eq_iff_iff, bal_near h, bal_near (compL_word h), compL_length]
  unfold Near
  rw [compL_length]
  constructor
  · intro hn n h1 h2 i j hi hj
    have := hn n h1 h2 j i hj hi
    rw [win_comp hi, win_comp hj] at this; omega
  · intro hn n h1 h2 i j hi hj
    have := hn n h1 h2 j i hj hi
    rw [win_comp hi, win_comp hj]; omega
theorem pre_take (xs : List Int) (k : Nat) (h : k ≤ xs.length) : pre xs k = (xs.take k).sum := by
  induction k with
  | zero => simp [pre_zero]
  | succ k ih => rw [pre_succ xs (by omega), ih (by omega), List.take_succ_eq_append_getElem (by omega), List.sum_append]; simp
theorem pre_rev (xs : List Int) : ∀ k, k ≤ xs.length → pre xs.reverse k = xs.sum - pre xs (xs.length - k)
  | 0, _ => by rw [pre_zero, Nat.sub_zero, pre_all]; omega
  | k + 1, h => by
    rw [pre_succ _ (show k < xs.reverse.length by rw [List.length_reverse]; omega), pre_rev xs k (by omega), List.getElem_reverse]
    have e := pre_succ xs (k := xs.length - 1 - k) (by omega)
    rw [show xs.length - 1 - k + 1 = xs.length - k by omega] at e
    rw [show xs.length - (k + 1) = xs.length - 1 - k by omega]
    omega
theorem win_rev {xs : List Int} {n j : Nat} (h : j + n ≤ xs.length) : win xs.reverse n j = win xs n (xs.length - n - j) := by
  unfold win
  rw [pre_rev xs _ h, pre_rev xs _ (by omega), show xs.length - n - j + n = xs.length - j by omega, show xs.length - (j + n) = xs.length - n - j by omega]
  omega
theorem rev_word {xs : List Int} (h : wordOk xs = true) : wordOk xs.reverse = true :=
  wordOk_of (fun x hx => wordOk_mem h x (List.mem_reverse.1 hx)) (by rw [List.length_reverse]; exact wordOk_len h)
theorem near_rev {xs : List Int} {n : Nat} (h : Near xs n) : Near xs.reverse n := by
  unfold Near at *
  rw [List.length_reverse]
  intro i j hi hj
  rw [win_rev hi, win_rev hj]
  exact h _ _ (by omega) (by omega)
theorem bal_rev {xs : List Int} (h : wordOk xs = true) : balB xs.reverse = balB xs := by
  rw [Bool.eq_iff_iff, bal_near h, bal_near (rev_word h), List.length_reverse]
  constructor
  · intro hn n h1 h2
    have := near_rev (hn n h1 h2)
    rwa [List.reverse_reverse] at this
  · intro hn n h1 h2
    exact near_rev (hn n h1 h2)
/-- The law's own least and greatest sums of i parts. -/
def lowI (xs : List Int) (n : Nat) : Nat → Int
  | 0 => n
  | i + 1 => min (lowI xs n i) (win xs n i)
def highI (xs : List Int) (n : Nat) : Nat → Int
  | 0 => 0
  | i + 1 => max (highI xs n i) (win xs n i)
theorem lowI_eq {xs : List Int} (h : wordOk xs = true) {n : Nat} : ∀ m, m + n ≤ xs.length → lowI xs n (m + 1) = lowTo xs n m
  | 0, hm => by have := win_bd h hm; simp only [lowI, lowTo]; omega
  | m + 1, hm => by rw [lowI, lowI_eq h m (by omega), lowTo]
theorem highI_eq {xs : List Int} (h : wordOk xs = true) {n : Nat} : ∀ m, m + n ≤ xs.length → highI xs n (m + 1) = highTo xs n m
  | 0, hm => by have := win_bd h hm; simp only [highI, highTo]; omega
  | m + 1, hm => by rw [highI, highI_eq h m (by omega), highTo]
theorem lowI_bd {xs : List Int} (h : wordOk xs = true) {n : Nat} : ∀ i, i + n ≤ xs.length + 1 → 0 ≤ lowI xs n i ∧ lowI xs n i ≤ n
  | 0, _ => by simp only [lowI]; omega
  | i + 1, hi => by have := lowI_bd (n := n) h i (by omega); have := win_bd h (n := n) (j := i) (by omega); simp only [lowI]; omega
theorem highI_bd {xs : List Int} (h : wordOk xs = true) {n : Nat} : ∀ i, i + n ≤ xs.length + 1 → 0 ≤ highI xs n i ∧ highI xs n i ≤ n
  | 0, _ => by simp only [highI]; omega
  | i + 1, hi => by have := highI_bd (n := n) h i (by omega); have := win_bd h (n := n) (j := i) (by omega); simp only [highI]; omega
theorem part_low {xs : List Int} (h : wordOk xs = true) {n i : Nat} (hi : i + n = xs.length + 1) (h1 : n ≤ xs.length) : lowI xs n i = partLow xs n := by
  obtain ⟨m, rfl⟩ : ∃ m, i = m + 1 := ⟨i - 1, by omega⟩
  rw [lowI_eq h m (by omega)]; unfold partLow; congr 1; omega
theorem part_high {xs : List Int} (h : wordOk xs = true) {n i : Nat} (hi : i + n = xs.length + 1) (h1 : n ≤ xs.length) : highI xs n i = partHigh xs n := by
  obtain ⟨m, rfl⟩ : ∃ m, i = m + 1 := ⟨i - 1, by omega⟩
  rw [highI_eq h m (by omega)]; unfold partHigh; congr 1; omega
theorem part_bd {xs : List Int} (h : wordOk xs = true) {n : Nat} (hn : n ≤ xs.length) : 0 ≤ partLow xs n ∧ partLow xs n ≤ partHigh xs n ∧ partHigh xs n ≤ n := by
  have h1 := lowTo_bd (n := n) h (xs.length - n) (by omega)
  have h2 := highTo_bd (n := n) h (xs.length - n) (by omega)
  have h3 := part_le xs n
  unfold partLow partHigh at *; omega
/-- What the law's flag says behind the parts below n. -/
def flag (xs : List Int) : Nat → Bool
  | 0 => true
  | n + 1 => flag xs n && (decide (n = 0) || decide (spread xs n ≤ 1))
theorem flag_iff (xs : List Int) : ∀ n, flag xs n = true ↔ BalTo xs n
  | 0 => by simp [flag, BalTo]
  | n + 1 => by
    rw [flag, Bool.and_eq_true, flag_iff xs n, Bool.or_eq_true, decide_eq_true_eq, decide_eq_true_eq]
    unfold BalTo
    constructor
    · rintro ⟨h1, h2⟩ j hj hj1
      by_cases hc : j = n
      · subst hc; omega
      · exact h1 j (by omega) hj1
    · intro h
      refine ⟨fun j hj hj1 => h j (by omega) hj1, ?_⟩
      by_cases hc : n = 0
      · exact .inl hc
      · exact .inr (h n (by omega) (by omega))
theorem flag_end {xs : List Int} (h : wordOk xs = true) : flag xs (xs.length + 1) = balB xs := by
  rw [Bool.eq_iff_iff, flag_iff, balB_iff h]
  constructor
  · intro hb n hn h1; exact hb n (by omega) h1
  · intro hb n hn h1
    by_cases hc : n < xs.length
    · exact hb n hc h1
    · obtain rfl : n = xs.length := by omega
      unfold spread partHigh partLow
      rw [Nat.sub_self]; simp only [lowTo, highTo]; omega
theorem flag_one (xs : List Int) : flag xs 1 = true := by simp [flag]
theorem flag_step (xs : List Int) {n : Nat} (h : 1 ≤ n) : flag xs (n + 1) = (flag xs n && decide (partHigh xs n - partLow xs n ≤ 1)) := by
  have e : decide (n = 0) = false := by simp; omega
  rw [flag, e, Bool.false_or]; rfl
/-! ### Runs -/
def bump : List Int → List Int
  | [] => []
  | [x] => [x + 1]
  | x :: y :: l => x :: bump (y :: l)
theorem bump_length : ∀ l : List Int, (bump l).length = l.length
  | [] => rfl
  | [x] => rfl
  | x :: y :: l => by simp [bump, bump_length (y :: l)]
theorem bump_snoc (x : Int) : ∀ l : List Int, bump (l ++ [x]) = l ++ [x + 1]
  | [] => rfl
  | [y] => rfl
  | y :: z :: l => by
    have := bump_snoc x (z :: l)
    simp only [List.cons_append] at this ⊢
    rw [bump, this]
theorem snoc_of {l : List Int} (h : 0 < l.length) : l = l.take (l.length - 1) ++ [l[l.length - 1]] := by
  have := List.take_succ_eq_append_getElem (l := l) (i := l.length - 1) (by omega)
  rw [← this, show l.length - 1 + 1 = l.length by omega, List.take_length]
theorem bump_set {l : List Int} (h : 0 < l.length) : bump l = l.set (l.length - 1) (l[l.length - 1] + 1) := by
  obtain ⟨a, x, rfl⟩ : ∃ a x, l = a ++ [x] := ⟨_, _, snoc_of h⟩
  rw [bump_snoc]
  simp
theorem bump_sum {l : List Int} (h : 0 < l.length) : (bump l).sum = l.sum + 1 := by
  obtain ⟨a, x, rfl⟩ : ∃ a x, l = a ++ [x] := ⟨_, _, snoc_of h⟩
  rw [bump_snoc, List.sum_append, List.sum_append]; simp; omega
theorem bump_mem {l : List Int} {b : Int} (h : ∀ x ∈ l, 0 ≤ x ∧ x ≤ b) : ∀ x ∈ bump l, 0 ≤ x ∧ x ≤ b + 1 := by
  rcases Nat.eq_zero_or_pos l.length with h0 | h0
  · have : l = [] := List.eq_nil_of_length_eq_zero h0
    subst this; intro x hx; cases hx
  · obtain ⟨a, y, rfl⟩ : ∃ a x, l = a ++ [x] := ⟨_, _, snoc_of h0⟩
    rw [bump_snoc]
    intro x hx
    rw [List.mem_append] at hx
    rcases hx with hx | hx
    · have := h x (List.mem_append_left _ hx); omega
    · have := h y (List.mem_append_right _ (List.mem_singleton.2 rfl))
      rw [List.mem_singleton] at hx; omega
/-- Whether a run begins at place k. -/
def newRun (xs : List Int) (k : Nat) : Bool := k == 0 || xs.getD (k - 1) 0 != xs.getD k 0
def runsTo (xs : List Int) : Nat → List Int
  | 0 => []
  | k + 1 => bump (if newRun xs k then runsTo xs k ++ [0] else runsTo xs k)
def runs (xs : List Int) : List Int := runsTo xs xs.length
theorem runsTo_len (xs : List Int) : ∀ k, (runsTo xs k).length ≤ k ∧ (0 < k → 0 < (runsTo xs k).length)
  | 0 => by simp [runsTo]
  | k + 1 => by
    have ih := runsTo_len xs k
    rw [runsTo, bump_length]
    split
    · rw [List.length_append]; simp; omega
    · rename_i hc
      have : 0 < k := by
        rcases Nat.eq_zero_or_pos k with h0 | h0
        · subst h0; simp [newRun] at hc
        · exact h0
      have := ih.2 this
      omega
theorem runsTo_sum (xs : List Int) : ∀ k, (runsTo xs k).sum = k
  | 0 => rfl
  | k + 1 => by
    have ih := runsTo_sum xs k
    have il := runsTo_len xs k
    rw [runsTo]
    split
    · rw [bump_sum (by rw [List.length_append]; simp), List.sum_append, ih]; simp
    · rename_i hc
      have h0 : 0 < k := by
        rcases Nat.eq_zero_or_pos k with h0 | h0
        · subst h0; simp [newRun] at hc
        · exact h0
      rw [bump_sum (il.2 h0), ih]; omega
theorem runsTo_mem (xs : List Int) : ∀ k, ∀ x ∈ runsTo xs k, 0 ≤ x ∧ x ≤ k
  | 0 => by intro x hx; cases hx
  | k + 1 => by
    have ih := runsTo_mem xs k
    rw [runsTo]
    intro x hx
    have := bump_mem (b := k) (l := if newRun xs k then runsTo xs k ++ [0] else runsTo xs k) (by
      intro y hy
      split at hy
      · rw [List.mem_append] at hy
        rcases hy with hy | hy
        · exact ih y hy
        · rw [List.mem_singleton] at hy; omega
      · exact ih y hy) x hx
    omega
theorem runs_seq {xs : List Int} (h : xs.length ≤ 1000) : seqOk (runs xs) = true :=
  seqOk_of (fun x hx => by have := runsTo_mem xs xs.length x hx; omega) (by have := (runsTo_len xs xs.length).1; unfold runs; omega)
theorem runs_sum (xs : List Int) : (runs xs).sum = xs.length := runsTo_sum xs xs.length
theorem runs_len (xs : List Int) : (runs xs).length ≤ xs.length := (runsTo_len xs xs.length).1
theorem newRun_comp {xs : List Int} {k : Nat} (h : k < xs.length) : newRun (compL xs) k = newRun xs k := by
  unfold newRun
  by_cases h0 : k = 0
  · simp [h0]
  · rw [getD_at (show k < (compL xs).length by rw [compL_length]; exact h), getD_at h, getD_at (show k - 1 < (compL xs).length by rw [compL_length]; omega), getD_at (show k - 1 < xs.length by omega), compL_at _ h, compL_at _ (by omega)]
    congr 1
    rw [Bool.eq_iff_iff]; simp only [bne_iff_ne, ne_eq]; omega
theorem runsTo_comp {xs : List Int} : ∀ k, k ≤ xs.length → runsTo (compL xs) k = runsTo xs k
  | 0, _ => rfl
  | k + 1, h => by rw [runsTo, runsTo, runsTo_comp k (by omega), newRun_comp (by omega)]
theorem runs_comp (xs : List Int) : runs (compL xs) = runs xs := by unfold runs; rw [compL_length]; exact runsTo_comp _ (Nat.le_refl _)
end Go.Proofs.Ythpjpnilmpihaaa
