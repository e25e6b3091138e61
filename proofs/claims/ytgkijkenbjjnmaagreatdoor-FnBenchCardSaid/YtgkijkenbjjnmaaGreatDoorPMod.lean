/- Plain laws of quantisers and of modulators: levels, numbers of levels, what a run computes. No program. -/
import Derived.Test.YtgkijkenbjjnmaaGreatDoorPFun
import Derived.Test.YtgkijkenbjjnmaaGreatDoorBase
namespace Go.Proofs.YtgkijkenbjjnmaaGreatDoor
open Go.RowKit
set_option linter.unusedVariables false
set_option linter.unusedSimpArgs false
def quantOk (l s : Int) : Bool := inB l 2 16 && inB s 1 1073741824
theorem quant_parts {l s : Int} (h : quantOk l s = true) : 2 ≤ l ∧ l ≤ 16 ∧ 1 ≤ s ∧ s ≤ 1073741824 := by
  simp [quantOk, inB] at h; omega
theorem quantOk_of {l s : Int} (h1 : 2 ≤ l) (h2 : l ≤ 16) (h3 : 1 ≤ s) (h4 : s ≤ 1073741824) : quantOk l s = true := by
  simp only [quantOk, inB_true h1 h2, inB_true h3 h4, Bool.and_self]
def levW (l s i : Int) : Int := s * (2 * i - (l - 1))
/-- Between the levels i - 1 and i. -/
def midW (l s i : Int) : Int := s * (2 * i - l)
theorem levW_mid (l s i : Int) : levW l s i = midW l s i + s := by
  unfold levW midW; rw [show 2 * i - (l - 1) = (2 * i - l) + 1 by omega, Int.mul_add]; omega
theorem midW_succ (l s i : Int) : midW l s (i + 1) = midW l s i + 2 * s := by
  unfold midW; rw [show 2 * (i + 1) - l = (2 * i - l) + 2 by omega, Int.mul_add]; omega
theorem midW_mono {l s : Int} (hs : 0 ≤ s) (i : Int) : ∀ n : Nat, midW l s i + 2 * s * n ≤ midW l s (i + n)
  | 0 => by simp
  | n + 1 => by
    have := midW_mono (l := l) hs i n
    rw [show i + ((n + 1 : Nat) : Int) = (i + n) + 1 by omega, midW_succ]
    have e : 2 * s * ((n + 1 : Nat) : Int) = 2 * s * n + 2 * s := by rw [Int.natCast_add, Int.mul_add]; simp
    omega
theorem midW_le {l s : Int} (hs : 0 ≤ s) {i j : Int} (h : i ≤ j) : midW l s i ≤ midW l s j := by
  obtain ⟨n, rfl⟩ : ∃ n : Nat, j = i + n := ⟨(j - i).toNat, by omega⟩
  have := midW_mono (l := l) hs i n
  have h2 : 0 ≤ 2 * s * (n : Int) := Int.mul_nonneg (by omega) (by omega)
  omega
theorem midW_lt {l s : Int} (hs : 0 ≤ s) {i j : Int} (h : i < j) : midW l s i + 2 * s ≤ midW l s j := by
  have := midW_le (l := l) hs (show i + 1 ≤ j by omega)
  rw [midW_succ] at this; omega
theorem midW_bd {l s i : Int} (h : quantOk l s = true) (h0 : 0 ≤ i) (h1 : i ≤ 20) : -17179869184 ≤ midW l s i ∧ midW l s i ≤ 42949672960 := by
  obtain ⟨l1, l2, s1, s2⟩ := quant_parts h
  have h2 : -16 ≤ 2 * i - l := by omega
  have h3 : 2 * i - l ≤ 38 := by omega
  have e1 : s * -16 ≤ s * (2 * i - l) := Int.mul_le_mul_of_nonneg_left h2 (by omega)
  have e2 : s * (2 * i - l) ≤ s * 38 := Int.mul_le_mul_of_nonneg_left h3 (by omega)
  unfold midW; omega
theorem levW_bd {l s i : Int} (h : quantOk l s = true) (h0 : 0 ≤ i) (h1 : i < l) : -(l * s) + s ≤ levW l s i ∧ levW l s i ≤ l * s - s := by
  obtain ⟨l1, l2, s1, s2⟩ := quant_parts h
  have e1 : s * (1 - l) ≤ s * (2 * i - (l - 1)) := Int.mul_le_mul_of_nonneg_left (by omega) (by omega)
  have e2 : s * (2 * i - (l - 1)) ≤ s * (l - 1) := Int.mul_le_mul_of_nonneg_left (by omega) (by omega)
  have e3 : s * (1 - l) = s - l * s := by rw [Int.mul_sub, Int.mul_comm s l]; simp
  have e4 : s * (l - 1) = l * s - s := by rw [Int.mul_sub, Int.mul_comm s l]; simp
  unfold levW; omega
theorem ls_bd {l s : Int} (h : quantOk l s = true) : 2 ≤ l * s ∧ l * s ≤ 17179869184 ∧ s ≤ l * s := by
  obtain ⟨l1, l2, s1, s2⟩ := quant_parts h
  have e1 : 2 * s ≤ l * s := Int.mul_le_mul_of_nonneg_right l1 (by omega)
  have e2 : l * s ≤ 16 * s := Int.mul_le_mul_of_nonneg_right l2 (by omega)
  omega
/-- The number of the nearest level among the first n + 1. -/
def idxTo (l s v : Int) : Nat → Nat
  | 0 => 0
  | n + 1 => if midW l s ((n + 1 : Nat) : Int) ≤ v then n + 1 else idxTo l s v n
def idxN (l s v : Int) : Nat := idxTo l s v (l.toNat - 1)
theorem idxTo_le (l s v : Int) : ∀ n, idxTo l s v n ≤ n
  | 0 => Nat.le_refl _
  | n + 1 => by unfold idxTo; split; exact Nat.le_refl _; have := idxTo_le l s v n; omega
theorem idxTo_up {l s v : Int} : ∀ n, 0 < idxTo l s v n → midW l s (idxTo l s v n) ≤ v
  | 0, h => by simp [idxTo] at h
  | n + 1, h => by
    unfold idxTo at h ⊢
    split
    · rename_i hc; exact hc
    · rename_i hc; rw [if_neg hc] at h; exact idxTo_up n h
theorem idxTo_dn {l s v : Int} (hs : 0 ≤ s) : ∀ n, idxTo l s v n < n → v < midW l s ((idxTo l s v n : Nat) + 1)
  | 0, h => by simp [idxTo] at h
  | n + 1, h => by
    unfold idxTo at h ⊢
    split
    · rename_i hc; rw [if_pos hc] at h; omega
    · rename_i hc
      by_cases h2 : idxTo l s v n < n
      · exact idxTo_dn hs n h2
      · have := idxTo_le l s v n
        have e : idxTo l s v n = n := by omega
        rw [e]
        have := Int.not_le.1 hc
        exact this
theorem idxN_lt {l s : Int} (h : quantOk l s = true) (v : Int) : ((idxN l s v : Nat) : Int) < l := by
  have := idxTo_le l s v (l.toNat - 1)
  have := quant_parts h
  unfold idxN; omega
/-- Where the program's loop stops. -/
theorem idx_stop {l s v : Int} (h : quantOk l s = true) {k : Nat} (hk : (k : Int) < l) (h1 : k = 0 ∨ midW l s k ≤ v) (h2 : (k : Int) + 1 = l ∨ v < midW l s ((k : Int) + 1)) : idxN l s v = k := by
  obtain ⟨l1, l2, s1, s2⟩ := quant_parts h
  have a1 := idxTo_le l s v (l.toNat - 1)
  have a2 := idxTo_up (l := l) (s := s) (v := v) (l.toNat - 1)
  have a3 := idxTo_dn (l := l) (s := s) (v := v) (by omega) (l.toNat - 1)
  unfold idxN
  obtain ⟨m, hm⟩ : ∃ m, m = idxTo l s v (l.toNat - 1) := ⟨_, rfl⟩
  rw [← hm] at a1 a2 a3 ⊢
  rcases Nat.lt_trichotomy m k with hc | hc | hc
  · have b := a3 (by omega)
    have c := midW_le (l := l) (s := s) (by omega) (show ((m : Int) + 1) ≤ k by omega)
    omega
  · exact hc
  · have b := a2 (by omega)
    have c := midW_le (l := l) (s := s) (by omega) (show ((k : Int) + 1) ≤ m by omega)
    omega
/-- The reference's step: level n + 1 is not farther than the best so far exactly if the number is not below the middle. -/
theorem idx_near {l s v : Int} (hs : 1 ≤ s) (n : Nat) : (max (levW l s ((n : Int) + 1) - v) (-(levW l s ((n : Int) + 1) - v)) ≤ max (levW l s (idxTo l s v n) - v) (-(levW l s (idxTo l s v n) - v))) ↔ midW l s ((n + 1 : Nat) : Int) ≤ v := by
  have a1 := idxTo_le l s v n
  have a3 := idxTo_dn (l := l) (s := s) (v := v) (by omega) n
  obtain ⟨m, hm⟩ : ∃ m, m = idxTo l s v n := ⟨_, rfl⟩
  rw [← hm] at a1 a3 ⊢
  rw [levW_mid, levW_mid, show ((n + 1 : Nat) : Int) = (n : Int) + 1 by omega]
  have e := midW_succ l s n
  by_cases hc : m = n
  · subst hc
    omega
  · have b := a3 (by omega)
    have c := midW_le (l := l) (s := s) (by omega) (show ((m : Int) + 1) ≤ n by omega)
    have d := midW_succ l s m
    omega
theorem idxTo_next {l s v : Int} (n : Nat) : idxTo l s v (n + 1) = if midW l s ((n + 1 : Nat) : Int) ≤ v then n + 1 else idxTo l s v n := rfl
/-- The number of a level is its own. -/
theorem idx_lev {l s : Int} (h : quantOk l s = true) {i : Nat} (hi : (i : Int) < l) : idxN l s (levW l s i) = i := by
  obtain ⟨l1, l2, s1, s2⟩ := quant_parts h
  refine idx_stop h hi (.inr ?_) ?_
  · rw [levW_mid]; omega
  · by_cases hc : (i : Int) + 1 = l
    · exact .inl hc
    · refine .inr ?_
      rw [levW_mid, midW_succ]; omega
/-- The level of a number. -/
def quant (l s v : Int) : Int := levW l s (idxN l s v)
theorem quant_bd {l s : Int} (h : quantOk l s = true) (v : Int) : -17179869184 ≤ quant l s v ∧ quant l s v ≤ 17179869184 := by
  have h1 := levW_bd h (i := (idxN l s v : Nat)) (by omega) (idxN_lt h v)
  have h2 := ls_bd h
  have := quant_parts h
  unfold quant; omega
/-! ### Modulators -/
def coefB (c : Int) : Bool := inB c (-100) 100
def modOk (l s : Int) (cs : List Int) : Bool := cs.all coefB && quantOk l s && inB cs.length 1 6
def memOk (l s : Int) (cs mem : List Int) : Bool := modOk l s cs && decide (mem.length = cs.length) && seqOk mem
theorem mod_parts {l s : Int} {cs : List Int} (h : modOk l s cs = true) : (∀ c ∈ cs, -100 ≤ c ∧ c ≤ 100) ∧ quantOk l s = true ∧ 1 ≤ cs.length ∧ cs.length ≤ 6 := by
  simp only [modOk, Bool.and_eq_true, List.all_eq_true] at h
  obtain ⟨⟨h1, h2⟩, h3⟩ := h
  have := inB_of h3
  exact ⟨fun c hc => inB_of (h1 c hc), h2, by omega, by omega⟩
theorem mem_parts {l s : Int} {cs mem : List Int} (h : memOk l s cs mem = true) : modOk l s cs = true ∧ mem.length = cs.length ∧ seqOk mem = true := by
  simp only [memOk, Bool.and_eq_true, decide_eq_true_eq] at h
  exact ⟨h.1.1, h.1.2, h.2⟩
theorem memOk_of {l s : Int} {cs mem : List Int} (h1 : modOk l s cs = true) (h2 : mem.length = cs.length) (h3 : seqOk mem = true) : memOk l s cs mem = true := by simp [memOk, h1, h2, h3]
def fedTo (cs mem : List Int) (k : Nat) : Int := sumF (fun i => cs.getD i 0 * mem.getD i 0) k
def fed (cs mem : List Int) : Int := fedTo cs mem cs.length
theorem fedTo_succ (cs mem : List Int) (k : Nat) : fedTo cs mem (k + 1) = fedTo cs mem k + cs.getD k 0 * mem.getD k 0 := rfl
theorem prod_bd {a b : Int} (h1 : -100 ≤ a) (h2 : a ≤ 100) (h3 : -1099511627776 ≤ b) (h4 : b ≤ 1099511627776) : -109951162777600 ≤ a * b ∧ a * b ≤ 109951162777600 := by
  rcases Int.le_total 0 a with h | h
  · have e1 := Int.mul_le_mul_of_nonneg_left h3 h
    have e2 := Int.mul_le_mul_of_nonneg_left h4 h
    omega
  · have e1 := Int.mul_le_mul_of_nonpos_left h h3
    have e2 := Int.mul_le_mul_of_nonpos_left h h4
    omega
theorem coef_getD {cs : List Int} (h : ∀ c ∈ cs, -100 ≤ c ∧ c ≤ 100) (k : Nat) : -100 ≤ cs.getD k 0 ∧ cs.getD k 0 ≤ 100 := by
  by_cases hk : k < cs.length
  · rw [getD_at hk]; exact h _ (List.getElem_mem hk)
  · rw [List.getD, List.getElem?_eq_none (by omega)]; simp
theorem seq_getD {xs : List Int} (h : seqOk xs = true) (k : Nat) : -1099511627776 ≤ xs.getD k 0 ∧ xs.getD k 0 ≤ 1099511627776 := by
  by_cases hk : k < xs.length
  · rw [getD_at hk]; exact seqOk_at h hk
  · rw [List.getD, List.getElem?_eq_none (by omega)]; simp
theorem fedTo_bd {cs mem : List Int} (h : ∀ c ∈ cs, -100 ≤ c ∧ c ≤ 100) (hm : seqOk mem = true) : ∀ k : Nat, -(109951162777600 * k) ≤ fedTo cs mem k ∧ fedTo cs mem k ≤ 109951162777600 * k
  | 0 => by simp [fedTo, sumF]
  | k + 1 => by
    have ih := fedTo_bd h hm k
    have b := prod_bd (coef_getD h k).1 (coef_getD h k).2 (seq_getD hm k).1 (seq_getD hm k).2
    rw [fedTo_succ]; omega
theorem fed_bd {cs mem : List Int} (h : ∀ c ∈ cs, -100 ≤ c ∧ c ≤ 100) (hl : cs.length ≤ 6) (hm : seqOk mem = true) : -659706976665600 ≤ fed cs mem ∧ fed cs mem ≤ 659706976665600 := by
  have := fedTo_bd h hm cs.length
  unfold fed; omega
def modV (cs mem : List Int) (x : Int) : Int := x + fed cs mem
def modY (l s : Int) (cs mem : List Int) (x : Int) : Int := quant l s (modV cs mem x)
def modE (l s : Int) (cs mem : List Int) (x : Int) : Int := modY l s cs mem x - modV cs mem x
theorem modV_bd {l s : Int} {cs mem : List Int} (h : memOk l s cs mem = true) {x : Int} (h1 : -1099511627776 ≤ x) (h2 : x ≤ 1099511627776) : -660806488293376 ≤ modV cs mem x ∧ modV cs mem x ≤ 660806488293376 := by
  obtain ⟨a, b, c⟩ := mem_parts h
  obtain ⟨d, e, f, g⟩ := mod_parts a
  have := fed_bd d g c
  unfold modV; omega
def push (mem : List Int) (e : Int) : List Int := e :: mem.take (mem.length - 1)
theorem push_length {mem : List Int} (h : 1 ≤ mem.length) (e : Int) : (push mem e).length = mem.length := by simp [push]; omega
theorem push_seq {mem : List Int} {e : Int} (h : seqOk mem = true) (h1 : 1 ≤ mem.length) (he : sampleB e = true) : seqOk (push mem e) = true := by
  refine seqOk_of (fun x hx => ?_) (by rw [push_length h1]; exact seqOk_len h)
  rcases List.mem_cons.1 hx with rfl | hx
  · exact inB_of he
  · exact seqOk_mem h x (List.mem_of_mem_take hx)
theorem push_ok {l s : Int} {cs mem : List Int} {e : Int} (h : memOk l s cs mem = true) (he : sampleB e = true) : memOk l s cs (push mem e) = true := by
  obtain ⟨a, b, c⟩ := mem_parts h
  obtain ⟨_, _, f, _⟩ := mod_parts a
  exact memOk_of a ((push_length (by omega) e).trans b) (push_seq c (by omega) he)
/-- The memory behind k inputs. -/
def memTo (l s : Int) (cs mem xs : List Int) : Nat → List Int
  | 0 => mem
  | k + 1 => push (memTo l s cs mem xs k) (modE l s cs (memTo l s cs mem xs k) (xs.getD k 0))
def outY (l s : Int) (cs mem xs : List Int) (k : Nat) : Int := modY l s cs (memTo l s cs mem xs k) (xs.getD k 0)
def outE (l s : Int) (cs mem xs : List Int) (k : Nat) : Int := modE l s cs (memTo l s cs mem xs k) (xs.getD k 0)
theorem memTo_succ (l s : Int) (cs mem xs : List Int) (k : Nat) : memTo l s cs mem xs (k + 1) = push (memTo l s cs mem xs k) (outE l s cs mem xs k) := rfl
def runY (l s : Int) (cs mem xs : List Int) : List Int := lst xs.length (outY l s cs mem xs)
def runE (l s : Int) (cs mem xs : List Int) : List Int := lst xs.length (outE l s cs mem xs)
theorem runY_length (l s : Int) (cs mem xs : List Int) : (runY l s cs mem xs).length = xs.length := lst_length _ _
theorem runE_length (l s : Int) (cs mem xs : List Int) : (runE l s cs mem xs).length = xs.length := lst_length _ _
structure RMd where
  y : List Int
  e : List Int
  m : List Int
  ok : Bool
def runsOk (l s : Int) (cs mem xs : List Int) : Bool := memOk l s cs mem && seqOk xs && (runE l s cs mem xs).all sampleB
def runM (l s : Int) (cs mem xs : List Int) : RMd := if runsOk l s cs mem xs then ⟨runY l s cs mem xs, runE l s cs mem xs, memTo l s cs mem xs xs.length, true⟩ else ⟨[], [], [], false⟩
theorem runM_yes {l s : Int} {cs mem xs : List Int} (h : runsOk l s cs mem xs = true) : runM l s cs mem xs = ⟨runY l s cs mem xs, runE l s cs mem xs, memTo l s cs mem xs xs.length, true⟩ := by simp [runM, h]
theorem runM_no {l s : Int} {cs mem xs : List Int} (h : runsOk l s cs mem xs = false) : runM l s cs mem xs = ⟨[], [], [], false⟩ := by simp [runM, h]
theorem runE_all {l s : Int} {cs mem xs : List Int} (h : (runE l s cs mem xs).all sampleB = true) {k : Nat} (hk : k < xs.length) : sampleB (outE l s cs mem xs k) = true :=
  List.all_eq_true.1 h _ (by unfold runE lst; exact List.mem_map.2 ⟨k, List.mem_range.2 hk, rfl⟩)
theorem runE_no {l s : Int} {cs mem xs : List Int} {k : Nat} (hk : k < xs.length) (h : sampleB (outE l s cs mem xs k) = false) : (runE l s cs mem xs).all sampleB = false := by
  rw [List.all_eq_false]
  exact ⟨_, by unfold runE lst; exact List.mem_map.2 ⟨k, List.mem_range.2 hk, rfl⟩, by simp [h]⟩
/-- All errors before place k are samples. -/
def ErrTo (l s : Int) (cs mem xs : List Int) (k : Nat) : Prop := ∀ j, j < k → sampleB (outE l s cs mem xs j) = true
theorem errTo_zero (l s : Int) (cs mem xs : List Int) : ErrTo l s cs mem xs 0 := fun j h => absurd h (by omega)
theorem errTo_step {l s : Int} {cs mem xs : List Int} {k : Nat} (h : ErrTo l s cs mem xs k) (e : sampleB (outE l s cs mem xs k) = true) : ErrTo l s cs mem xs (k + 1) := fun j hj => by
  by_cases hc : j = k
  · subst hc; exact e
  · exact h j (by omega)
theorem memTo_ok {l s : Int} {cs mem xs : List Int} (h : memOk l s cs mem = true) : ∀ k, ErrTo l s cs mem xs k → memOk l s cs (memTo l s cs mem xs k) = true
  | 0, _ => h
  | k + 1, he => push_ok (memTo_ok h k fun j hj => he j (by omega)) (he k (by omega))
theorem memTo_length {l s : Int} {cs mem xs : List Int} (h1 : 1 ≤ mem.length) : ∀ k, (memTo l s cs mem xs k).length = mem.length
  | 0 => rfl
  | k + 1 => by have ih := memTo_length (l := l) (s := s) (cs := cs) (xs := xs) h1 k; rw [memTo_succ, push_length (by omega), ih]
theorem runE_of {l s : Int} {cs mem xs : List Int} (h : ErrTo l s cs mem xs xs.length) : (runE l s cs mem xs).all sampleB = true := by
  rw [List.all_eq_true]
  intro x hx
  obtain ⟨k, hk, rfl⟩ := lst_mem hx
  exact h k hk
theorem runsOk_of {l s : Int} {cs mem xs : List Int} (h1 : memOk l s cs mem = true) (h2 : seqOk xs = true) (h : ErrTo l s cs mem xs xs.length) : runsOk l s cs mem xs = true := by
  simp [runsOk, h1, h2, runE_of h]
theorem runsOk_parts {l s : Int} {cs mem xs : List Int} (h : runsOk l s cs mem xs = true) : memOk l s cs mem = true ∧ seqOk xs = true ∧ ErrTo l s cs mem xs xs.length := by
  simp only [runsOk, Bool.and_eq_true] at h
  exact ⟨h.1.1, h.1.2, fun j hj => runE_all h.2 hj⟩
theorem runY_take {l s : Int} {cs mem xs : List Int} {k : Nat} (h : k < xs.length) : (runY l s cs mem xs).take (k + 1) = (runY l s cs mem xs).take k ++ [outY l s cs mem xs k] := by
  rw [List.take_succ_eq_append_getElem (by rw [runY_length]; exact h)]
  unfold runY; rw [lst_get]
theorem runE_take {l s : Int} {cs mem xs : List Int} {k : Nat} (h : k < xs.length) : (runE l s cs mem xs).take (k + 1) = (runE l s cs mem xs).take k ++ [outE l s cs mem xs k] := by
  rw [List.take_succ_eq_append_getElem (by rw [runE_length]; exact h)]
  unfold runE; rw [lst_get]
end Go.Proofs.YtgkijkenbjjnmaaGreatDoor
