/- Plain laws of the modulator of the first order with two levels at a constant input: its bits are balanced, and mechanical. No program. -/
import Derived.Test.YthpjpnilmpihaaaPMod
import Derived.Test.YthpjpnilmpihaaaPMech
namespace Go.Proofs.Ythpjpnilmpihaaa
open Go.RowKit
set_option linter.unusedVariables false
set_option linter.unusedSimpArgs false
section
variable {s v a : Int} {n : Nat}
def cst (v : Int) (n : Nat) : List Int := List.replicate n v
theorem cst_getD {k : Nat} (h : k < n) : (cst v n).getD k 0 = v := by simp [cst, h]
theorem quant2 (hs : 1 ≤ s) (h2 : s ≤ 1073741824) : quantOk 2 s = true := quantOk_of (by omega) (by omega) hs h2
theorem mid1 (s : Int) : midW 2 s 1 = 0 := by unfold midW; simp
theorem idx2 (s u : Int) : idxN 2 s u = if 0 ≤ u then 1 else 0 := by
  unfold idxN
  have e : (2 : Int).toNat - 1 = 1 := by decide
  rw [e]
  unfold idxTo
  rw [show (((0 + 1 : Nat) : Int)) = 1 by rfl, mid1]
  rfl
theorem quantv (s u : Int) : quant 2 s u = if 0 ≤ u then s else -s := by
  unfold quant
  rw [idx2]
  split
  · unfold levW; simp
  · unfold levW; simp [Int.mul_neg]
/-- The error behind k inputs. -/
def er (s v a : Int) : Nat → Int
  | 0 => a
  | k + 1 => (if 0 ≤ v - er s v a k then s else -s) - (v - er s v a k)
def bt (s v a : Int) (k : Nat) : Int := if 0 ≤ v - er s v a k then 1 else 0
theorem er_succ (s v a : Int) (k : Nat) : er s v a (k + 1) = s * (2 * bt s v a k - 1) - v + er s v a k := by
  unfold bt
  rw [er]
  split
  · simp; omega
  · simp; omega
theorem fed1 (a : Int) : fed [-1] [a] = -a := by unfold fed fedTo; simp [sumF]
theorem memTo1 : ∀ k, k ≤ n → memTo 2 s [-1] [a] (cst v n) k = [er s v a k]
  | 0, _ => rfl
  | k + 1, h => by
    rw [memTo_succ]
    unfold outE
    rw [memTo1 k (by omega), cst_getD (by omega)]
    unfold push modE modY modV
    rw [fed1, quantv]
    simp only [er, List.length_singleton, Nat.sub_self, List.take_zero]
    rw [show v + -er s v a k = v - er s v a k by omega]
theorem outE1 {k : Nat} (h : k < n) : outE 2 s [-1] [a] (cst v n) k = er s v a (k + 1) := by
  unfold outE
  rw [memTo1 k (by omega), cst_getD h]
  unfold modE modY modV
  rw [fed1, quantv, show v + -er s v a k = v - er s v a k by omega]
  rfl
theorem outY1 {k : Nat} (h : k < n) : outY 2 s [-1] [a] (cst v n) k = levW 2 s (bt s v a k) := by
  unfold outY
  rw [memTo1 k (by omega), cst_getD h]
  unfold modY modV quant
  rw [fed1, idx2, show v + -er s v a k = v - er s v a k by omega]
  unfold bt
  split <;> rfl
theorem bt_bit (s v a : Int) (k : Nat) : 0 ≤ bt s v a k ∧ bt s v a k ≤ 1 := by unfold bt; split <;> omega
theorem er_bd (hv1 : -s ≤ v) (hv2 : v ≤ s) (a1 : -s ≤ a) (a2 : a ≤ s) : ∀ k, -s ≤ er s v a k ∧ er s v a k ≤ s
  | 0 => ⟨a1, a2⟩
  | k + 1 => by
    have ih := er_bd hv1 hv2 a1 a2 k
    rw [er]
    split <;> omega
theorem er_top (hv1 : -s ≤ v) (hv2 : v < s) (a1 : -s ≤ a) (a2 : a ≤ s) (k : Nat) : -s < er s v a (k + 1) := by
  have ih := er_bd hv1 (by omega) a1 a2 k
  rw [er]
  split <;> omega
theorem er_same (a2 : a ≤ s) : ∀ k, er s s a k = a
  | 0 => rfl
  | k + 1 => by rw [er, er_same a2 k, if_pos (by omega)]; omega
def bits1 (s v a : Int) (n : Nat) : List Int := lst n (bt s v a)
theorem bits1_length : (bits1 s v a n).length = n := lst_length _ _
theorem bits1_word (hn : n ≤ 1000) : wordOk (bits1 s v a n) = true := by
  refine wordOk_of (fun x hx => ?_) (by rw [bits1_length]; exact hn)
  obtain ⟨k, _, rfl⟩ := lst_mem hx
  exact bt_bit s v a k
theorem bits1_pre : ∀ k : Nat, k ≤ n → 2 * s * pre (bits1 s v a n) k = k * (v + s) + er s v a k - a
  | 0, _ => by rw [pre_zero]; simp [er]
  | k + 1, h => by
    rw [pre_succ _ (by rw [bits1_length]; omega), Int.mul_add, bits1_pre k (by omega), er_succ]
    unfold bits1
    rw [lst_get]
    have e1 : ((k + 1 : Nat) : Int) * (v + s) = k * (v + s) + (v + s) := by rw [Int.natCast_add, Int.add_mul]; simp
    have e2 : 2 * s * bt s v a k = s * (2 * bt s v a k) := by rw [Int.mul_comm 2 s, Int.mul_assoc]
    have e3 : s * (2 * bt s v a k - 1) = s * (2 * bt s v a k) - s := by rw [Int.mul_sub]; simp
    omega
theorem bits1_win {j m : Nat} (h : j + m ≤ n) : 2 * s * win (bits1 s v a n) m j = m * (v + s) + er s v a (j + m) - er s v a j := by
  unfold win
  rw [Int.mul_sub, bits1_pre _ h, bits1_pre _ (by omega)]
  have e1 : ((j + m : Nat) : Int) * (v + s) = j * (v + s) + m * (v + s) := by rw [Int.natCast_add, Int.add_mul]
  omega
theorem div_lo {x q r : Int} (hq : 0 < q) (h : q * r < x) (h2 : x - q * (r + 1) < q) : x / q = r ∨ x / q = r + 1 := by
  have e1 := Int.mul_ediv_add_emod x q
  have h1 := Int.emod_nonneg x (show q ≠ 0 by omega)
  have h3 := Int.emod_lt_of_pos x hq
  have a1 : r ≤ x / q := (Int.le_ediv_iff_mul_le hq).2 (by rw [Int.mul_comm]; omega)
  have a2 : x / q < r + 2 := (Int.ediv_lt_iff_lt_mul hq).2 (by
    have : (r + 2) * q = q * (r + 1) + q := by rw [Int.mul_comm (r + 2) q, show r + 2 = (r + 1) + 1 by omega, Int.mul_add]; simp
    omega)
  omega
theorem bits1_bal (hs : 1 ≤ s) (hv1 : -s ≤ v) (hv2 : v ≤ s) (a1 : -s ≤ a) (a2 : a ≤ s) (hn : n ≤ 1000) : balB (bits1 s v a n) = true := by
  refine bal_of (bits1_word hn) (fun m => (m * (v + s)) / (2 * s)) fun m j hj => ?_
  rw [bits1_length] at hj
  have hw := bits1_win (s := s) (v := v) (a := a) hj
  have b1 := er_bd hv1 hv2 a1 a2 j
  have b2 := er_bd hv1 hv2 a1 a2 (j + m)
  obtain ⟨N, hN⟩ : ∃ N, N = (m : Int) * (v + s) := ⟨_, rfl⟩
  obtain ⟨W, hW⟩ : ∃ W, W = win (bits1 s v a n) m j := ⟨_, rfl⟩
  rw [← hN, ← hW] at hw
  show (m * (v + s)) / (2 * s) ≤ _ ∧ _ ≤ (m * (v + s)) / (2 * s) + 1
  rw [← hN, ← hW]
  have e1 := Int.mul_ediv_add_emod N (2 * s)
  have h1 := Int.emod_nonneg N (show 2 * s ≠ 0 by omega)
  have h3 := Int.emod_lt_of_pos N (show 0 < 2 * s by omega)
  have hd : -(2 * s) < er s v a (j + m) - er s v a j := by
    by_cases hm : m = 0
    · subst hm; rw [Nat.add_zero]; omega
    · by_cases hc : v < s
      · have := er_top hv1 hc a1 a2 (j + m - 1)
        rw [show j + m - 1 + 1 = j + m by omega] at this
        omega
      · obtain rfl : v = s := by omega
        rw [er_same a2, er_same a2]; omega
  obtain ⟨g, hg⟩ : ∃ g, g = N / (2 * s) := ⟨_, rfl⟩
  rw [← hg] at e1 ⊢
  have lo : 2 * s * (g - 1) < 2 * s * W := by rw [Int.mul_sub]; simp; omega
  have hi : 2 * s * W < 2 * s * (g + 2) := by rw [Int.mul_add]; omega
  have lo' := Int.lt_of_mul_lt_mul_left lo (by omega)
  have hi' := Int.lt_of_mul_lt_mul_left hi (by omega)
  omega
theorem bits1_sum (hv1 : -s ≤ v) (hv2 : v ≤ s) (a1 : -s ≤ a) (a2 : a ≤ s) : -(2 * s) ≤ 2 * s * (bits1 s v a n).sum - n * (v + s) ∧ 2 * s * (bits1 s v a n).sum - n * (v + s) ≤ 2 * s := by
  have h := bits1_pre (s := s) (v := v) (a := a) (n := n) n (Nat.le_refl _)
  have e := pre_all (bits1 s v a n)
  rw [bits1_length] at e
  rw [e] at h
  have := er_bd hv1 hv2 a1 a2 n
  omega
end
/-! ### Mechanical -/
section
variable {p a : Int} {q : Nat}
theorem er_hi (hq : 1 ≤ q) (p0 : 0 ≤ p) (p1 : p ≤ q) (a1 : -(q : Int) < a) (a2 : a ≤ q) (k : Nat) : -(q : Int) < er q (2 * p - q) a k ∧ er q (2 * p - q) a k ≤ q := by
  have h := er_bd (s := q) (v := 2 * p - q) (by omega) (by omega) (by omega) a2 k
  refine ⟨?_, h.2⟩
  cases k with
  | zero => exact a1
  | succ k =>
    by_cases hc : 2 * p - q < (q : Int)
    · exact er_top (by omega) hc (by omega) a2 k
    · have e : 2 * p - q = (q : Int) := by omega
      rw [e, er_same a2]; exact a1
def phase (q : Nat) (a : Int) : Int := ((q : Int) - a) / 2
theorem phase_bd (hq : 1 ≤ q) (a1 : -(q : Int) < a) (a2 : a ≤ q) : 0 ≤ phase q a ∧ phase q a < q := by unfold phase; omega
theorem rot_pre (hq : 1 ≤ q) (p0 : 0 ≤ p) (p1 : p ≤ q) (a1 : -(q : Int) < a) (a2 : a ≤ q) {n k : Nat} (hk : k ≤ n) : pre (bits1 q (2 * p - q) a n) k = flo p q (phase q a) k := by
  have h := bits1_pre (s := q) (v := 2 * p - q) (a := a) (n := n) k hk
  have b := er_hi hq p0 p1 a1 a2 k
  rw [show 2 * p - (q : Int) + q = 2 * p by omega] at h
  obtain ⟨P, hP⟩ : ∃ P, P = (k : Int) * p := ⟨_, rfl⟩
  have eP : (k : Int) * (2 * p) = 2 * P := by rw [hP, ← Int.mul_assoc, Int.mul_comm (k : Int) 2, Int.mul_assoc]
  rw [eP] at h
  unfold flo phase
  rw [← hP]
  obtain ⟨B, hB⟩ : ∃ B, B = pre (bits1 q (2 * p - q) a n) k := ⟨_, rfl⟩
  rw [← hB] at h ⊢
  have e2 : 2 * (q : Int) * B = 2 * (q * B) := by rw [Int.mul_assoc]
  have e3 : P + ((q : Int) - a) / 2 = (P + ((q : Int) - a) / 2 - q * B) + q * B := by omega
  rw [e3, Int.add_mul_ediv_left _ _ (by omega), Int.ediv_eq_zero_of_lt (by omega) (by omega)]
  omega
theorem rot_mech (hq : 1 ≤ q) (p0 : 0 ≤ p) (p1 : p ≤ q) (a1 : -(q : Int) < a) (a2 : a ≤ q) (n : Nat) : bits1 q (2 * p - q) a n = mech p q (phase q a) n := by
  unfold bits1 mech
  refine lst_congr fun k hk => ?_
  rw [← rot_pre hq p0 p1 a1 a2 (n := n) (k := k + 1) (by omega), ← rot_pre hq p0 p1 a1 a2 (n := n) (k := k) (by omega), pre_succ _ (by rw [bits1_length]; exact hk)]
  unfold bits1
  rw [lst_get]; omega
theorem rot_sum (hq : 1 ≤ q) (p0 : 0 ≤ p) (p1 : p ≤ q) (a1 : -(q : Int) < a) (a2 : a ≤ q) : (bits1 q (2 * p - q) a q).sum = p := by
  rw [rot_mech hq p0 p1 a1 a2, mech_whole q (phase q a) (by omega)]
end
theorem errs_in {s v a : Int} {n : Nat} (hs : s ≤ 1099511627776) (hv1 : -s ≤ v) (hv2 : v ≤ s) (a1 : -s ≤ a) (a2 : a ≤ s) : ErrTo 2 s [-1] [a] (cst v n) (cst v n).length := fun j hj => by
  have hj' : j < n := by simpa [cst] using hj
  rw [outE1 hj']
  have := er_bd hv1 hv2 a1 a2 (j + 1)
  exact inB_true (by omega) (by omega)
end Go.Proofs.Ythpjpnilmpihaaa
