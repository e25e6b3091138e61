/- Lists for sums of boxes, running sums, every r-th element, stuffing, convolution: what the functions give, as plain functions. No program. -/
import Derived.Test.YtfplecbacgcjgaaPSig
import Derived.Test.YtfplecbacgcjgaaDiffOf
namespace Go.Proofs.Ytfplecbacgcjgaa
open Go.RowKit
set_option linter.unusedVariables false
set_option linter.unusedSimpArgs false
theorem fnOf_at {xs : List Int} {k : Nat} (h : k < xs.length) : fnOf xs k = xs[k] := getD_at h
theorem fnOf_out {xs : List Int} {k : Nat} (h : xs.length ≤ k) : fnOf xs k = 0 := by unfold fnOf; rw [List.getD, List.getElem?_eq_none h]; rfl
theorem fnOf_lst {n : Nat} {f : Nat → Int} {k : Nat} (h : k < n) : fnOf (lst n f) k = f k := lst_getD f h
theorem fnOf_bd {xs : List Int} {a : Int} (ha : 0 ≤ a) (h : ∀ x ∈ xs, -a ≤ x ∧ x ≤ a) (k : Nat) : -a ≤ fnOf xs k ∧ fnOf xs k ≤ a := by
  by_cases hk : k < xs.length
  · rw [fnOf_at hk]; exact h _ (List.getElem_mem hk)
  · rw [fnOf_out (by omega)]; omega
theorem seq_fnOf {xs : List Int} (h : seqOk xs = true) (k : Nat) : -1099511627776 ≤ fnOf xs k ∧ fnOf xs k ≤ 1099511627776 := fnOf_bd (by omega) (seqOk_mem h) k
theorem seq_lst {n : Nat} {f : Nat → Int} {a : Int} (ha : a ≤ 1099511627776) (hn : n ≤ 1000) (h : ∀ k, -a ≤ f k ∧ f k ≤ a) : seqOk (lst n f) = true :=
  seqOk_of (fun x hx => by obtain ⟨k, _, rfl⟩ := lst_mem hx; have := h k; omega) (by rw [lst_length]; exact hn)
/-! ### Boxes -/
def boxS (xs : List Int) (r : Nat) : List Int := lst xs.length (bF r (fnOf xs))
theorem boxS_length (xs : List Int) (r : Nat) : (boxS xs r).length = xs.length := lst_length _ _
/-- What the loop's sum is ahead of place k. -/
def boxB (xs : List Int) (r k : Nat) : Int := sumF (fnOf xs) k - sumF (fnOf xs) (k - r)
theorem boxB_zero (xs : List Int) (r : Nat) : boxB xs r 0 = 0 := by simp [boxB, sumF]
theorem boxB_is (xs : List Int) (r k : Nat) : boxB xs r (k + 1) = bF r (fnOf xs) k := rfl
theorem boxB_small {xs : List Int} {r k : Nat} (h : k < r) (hk : k < xs.length) : boxB xs r (k + 1) = boxB xs r k + xs[k] := by
  unfold boxB
  have e : sumF (fnOf xs) (k + 1) = sumF (fnOf xs) k + fnOf xs k := rfl
  rw [show k + 1 - r = 0 by omega, show k - r = 0 by omega, e, fnOf_at hk]; omega
theorem boxB_big {xs : List Int} {r k : Nat} (h : r ≤ k) (hk : k < xs.length) (h' : k - r < xs.length) : boxB xs r (k + 1) = boxB xs r k + xs[k] - xs[k - r] := by
  unfold boxB
  rw [show k + 1 - r = k - r + 1 by omega, sumF, sumF, fnOf_at hk, fnOf_at h']; omega
theorem boxB_bd {xs : List Int} (h : seqOk xs = true) (r k : Nat) : -(1099511627776 * (k : Int)) ≤ boxB xs r k ∧ boxB xs r k ≤ 1099511627776 * (k : Int) := by
  have := sumF_bd (f := fnOf xs) (a := 1099511627776) (seq_fnOf h) k (k - r) (by omega)
  unfold boxB
  have e : 1099511627776 * ((k - (k - r) : Nat) : Int) ≤ 1099511627776 * (k : Int) := Int.mul_le_mul_of_nonneg_left (by omega) (by omega)
  omega
def boxSums (xs : List Int) (r : Int) : List Int × Bool := if seqOk xs && inB r 1 100 then doneOf (boxS xs r.toNat) else ([], false)
theorem boxSums_yes {xs : List Int} {r : Nat} (h : seqOk xs = true) (h1 : 1 ≤ r) (h2 : r ≤ 100) : boxSums xs r = doneOf (boxS xs r) := by
  simp [boxSums, h, inB_true (show (1 : Int) ≤ r by omega) (show (r : Int) ≤ 100 by omega)]
theorem boxSums_noSeq {xs : List Int} {r : Int} (h : seqOk xs = false) : boxSums xs r = ([], false) := by simp [boxSums, h]
theorem boxSums_noR {xs : List Int} {r : Int} (h : inB r 1 100 = false) : boxSums xs r = ([], false) := by simp [boxSums, h]
theorem boxSums_len (xs : List Int) (r : Int) : (boxSums xs r).1.length ≤ 1000 := by
  unfold boxSums
  split
  · exact doneOf_len _
  · simp
/-! ### Running sums -/
def intS (xs : List Int) : List Int := lst xs.length (sF (fnOf xs))
theorem intS_length (xs : List Int) : (intS xs).length = xs.length := lst_length _ _
theorem intS_step {xs : List Int} {k : Nat} (h : k + 1 < xs.length) : sF (fnOf xs) (k + 1) = xs[k + 1] + sF (fnOf xs) k := by
  unfold sF
  rw [sumF, fnOf_at h]; omega
theorem sF_bd {xs : List Int} (h : seqOk xs = true) (k : Nat) : -(1099511627776 * ((k : Int) + 1)) ≤ sF (fnOf xs) k ∧ sF (fnOf xs) k ≤ 1099511627776 * ((k : Int) + 1) := by
  have := sumF_bd (f := fnOf xs) (a := 1099511627776) (seq_fnOf h) (k + 1) 0 (by omega)
  have h0 : sumF (fnOf xs) 0 = 0 := rfl
  rw [h0, Nat.sub_zero] at this
  unfold sF; omega
/-- The first k sums are laid. -/
def IntTo (xs ys : List Int) (k : Nat) : Prop := ys.length = xs.length ∧ ∀ t, t < xs.length → ys[t]? = some (if t < k then sF (fnOf xs) t else xs.getD t 0)
theorem intTo_one (xs : List Int) : IntTo xs xs 1 := ⟨rfl, fun t ht => by
  rw [List.getElem?_eq_getElem ht, getD_at ht]
  split
  · obtain rfl : t = 0 := by omega
    simp [sF, sumF, fnOf, ht]
  · rfl⟩
theorem intTo_at {xs ys : List Int} {k : Nat} (h : IntTo xs ys k) {t : Nat} (ht : t < ys.length) : ys[t] = if t < k then sF (fnOf xs) t else xs.getD t 0 := by
  have := h.2 t (by rw [← h.1]; exact ht)
  rw [List.getElem?_eq_getElem ht] at this
  exact Option.some.inj this
theorem intTo_step {xs ys : List Int} {k : Nat} (h : IntTo xs ys (k + 1)) (hk : k + 1 < xs.length) (h1 : k + 1 < ys.length) (h2 : k < ys.length) : IntTo xs (ys.set (k + 1) (ys[k + 1] + ys[k])) (k + 2) := by
  refine ⟨by simp [h.1], fun t ht => ?_⟩
  by_cases hc : t = k + 1
  · subst hc
    rw [List.getElem?_set_self h1, if_pos (by omega), intTo_at h h1, intTo_at h h2, if_neg (by omega), if_pos (by omega), getD_at hk, intS_step hk]
  · rw [List.getElem?_set_ne (by omega), h.2 t ht]
    by_cases h3 : t < k + 1
    · rw [if_pos h3, if_pos (by omega)]
    · rw [if_neg h3, if_neg (by omega)]
theorem intTo_end {xs ys : List Int} {k : Nat} (h : IntTo xs ys k) (hk : xs.length ≤ k) : ys = intS xs := by
  refine eq_lst h.1 fun t ht => ?_
  rw [intTo_at h ht, if_pos (by have := h.1; omega)]
/-- k times, each of which must be a sequence. -/
def intN (xs : List Int) : Nat → List Int
  | 0 => xs
  | k + 1 => intS (intN xs k)
def intOkTo (xs : List Int) (k : Nat) : Prop := ∀ j, j ≤ k → seqOk (intN xs j) = true
theorem intN_length (xs : List Int) : ∀ k, (intN xs k).length = xs.length
  | 0 => rfl
  | k + 1 => by rw [intN, intS_length, intN_length xs k]
def intAll (xs : List Int) (k : Nat) : Bool := (List.range (k + 1)).all fun j => seqOk (intN xs j)
theorem intAll_of {xs : List Int} {k : Nat} (h : intOkTo xs k) : intAll xs k = true := by
  unfold intAll; rw [List.all_eq_true]; intro j hj; exact h j (by have := List.mem_range.1 hj; omega)
theorem intAll_no {xs : List Int} {k j : Nat} (hj : j ≤ k) (h : seqOk (intN xs j) = false) : intAll xs k = false := by
  unfold intAll; rw [List.all_eq_false]; exact ⟨j, List.mem_range.2 (by omega), by simp [h]⟩
theorem intOkTo_step {xs : List Int} {k : Nat} (h : intOkTo xs k) (e : seqOk (intN xs (k + 1)) = true) : intOkTo xs (k + 1) := fun j hj => by
  by_cases hc : j = k + 1
  · subst hc; exact e
  · exact h j (by omega)
def integrals (xs : List Int) (k : Int) : List Int × Bool := if inB k 0 6 && intAll xs k.toNat then (intN xs k.toNat, true) else ([], false)
theorem integrals_yes {xs : List Int} {k : Nat} (hk : k ≤ 6) (h : intOkTo xs k) : integrals xs k = (intN xs k, true) := by
  have e : inB (k : Int) 0 6 = true := inB_true (by omega) (by omega)
  have e2 : ((k : Int)).toNat = k := by omega
  simp [integrals, e, e2, intAll_of h]
theorem integrals_no {xs : List Int} {k j : Nat} (hj : j ≤ k) (h : seqOk (intN xs j) = false) : integrals xs k = ([], false) := by
  have e2 : ((k : Int)).toNat = k := by omega
  simp [integrals, e2, intAll_no hj h]
theorem integrals_noOrder {xs : List Int} {k : Int} (h : inB k 0 6 = false) : integrals xs k = ([], false) := by simp [integrals, h]
theorem integrals_noSeq {xs : List Int} {k : Int} (h : seqOk xs = false) : integrals xs k = ([], false) := by
  have : intAll xs k.toNat = false := intAll_no (j := 0) (by omega) h
  simp [integrals, this]
theorem integrals_len (xs : List Int) (k : Int) : (integrals xs k).1.length ≤ 1000 := by
  unfold integrals
  split
  · rename_i h
    simp only [Bool.and_eq_true] at h
    have h2 := h.2
    unfold intAll at h2
    rw [List.all_eq_true] at h2
    exact seqOk_len (h2 k.toNat (List.mem_range.2 (by omega)))
  · simp
/-- As functions of the index. -/
theorem intN_eq (xs : List Int) : ∀ k, intN xs k = lst xs.length (itF sF k (fnOf xs))
  | 0 => (lst_fnOf xs).symm
  | k + 1 => by
    rw [intN, intS, intN_length]
    refine lst_congr fun j hj => ?_
    rw [itF]
    refine sF_congr (n := xs.length) (fun i hi => ?_) j hj
    rw [intN_eq xs k, fnOf_lst hi]
/-! ### Every r-th element -/
def decN (n r p : Nat) : Nat := (n - p + r - 1) / r
def decL (xs : List Int) (r p : Nat) : List Int := lst (decN xs.length r p) fun j => fnOf xs (p + j * r)
theorem decL_length (xs : List Int) (r p : Nat) : (decL xs r p).length = decN xs.length r p := lst_length _ _
theorem decN_iff {n r p : Nat} (hr : 1 ≤ r) (j : Nat) : j < decN n r p ↔ p + j * r < n := by
  unfold decN
  rw [Nat.lt_div_iff_mul_lt (by omega)]
  have e : r * j = j * r := Nat.mul_comm _ _
  constructor
  · intro h; omega
  · intro h; omega
theorem decN_le {n r p : Nat} (hr : 1 ≤ r) : decN n r p ≤ n := by
  rcases Nat.eq_zero_or_pos (decN n r p) with h | h
  · omega
  · have := (decN_iff (n := n) (p := p) hr (decN n r p - 1)).1 (by omega)
    have : decN n r p - 1 ≤ (decN n r p - 1) * r := Nat.le_mul_of_pos_right _ hr
    omega
def decOk (xs : List Int) (r p : Int) : Bool := seqOk xs && inB r 1 100 && inB p 0 (r - 1)
def decimate (xs : List Int) (r p : Int) : List Int × Bool := if decOk xs r p then (decL xs r.toNat p.toNat, true) else ([], false)
theorem decimate_yes {xs : List Int} {r p : Nat} (h : seqOk xs = true) (h1 : 1 ≤ r) (h2 : r ≤ 100) (h3 : p < r) : decimate xs r p = (decL xs r p, true) := by
  have e : decOk xs r p = true := by simp only [decOk, h, inB_true (show (1 : Int) ≤ r by omega) (show (r : Int) ≤ 100 by omega), inB_true (show (0 : Int) ≤ p by omega) (show (p : Int) ≤ (r : Int) - 1 by omega), Bool.and_self]
  simp [decimate, e]
theorem decimate_no {xs : List Int} {r p : Int} (h : decOk xs r p = false) : decimate xs r p = ([], false) := by simp [decimate, h]
theorem decimate_len (xs : List Int) (r p : Int) : (decimate xs r p).1.length ≤ 1000 := by
  unfold decimate
  split
  · rename_i h
    simp only [decOk, Bool.and_eq_true] at h
    have h1 := seqOk_len h.1.1
    have h2 := inB_of h.1.2
    have := decN_le (n := xs.length) (p := p.toNat) (r := r.toNat) (by omega)
    show (decL xs r.toNat p.toNat).length ≤ 1000
    rw [decL_length]; omega
  · simp
theorem decL_mem {xs : List Int} {r p : Nat} (hr : 1 ≤ r) {x : Int} (h : x ∈ decL xs r p) : x ∈ xs := by
  obtain ⟨j, hj, rfl⟩ := lst_mem h
  have := (decN_iff hr j).1 hj
  rw [fnOf_at this]; exact List.getElem_mem _
/-! ### Stuffing -/
def stL (xs : List Int) (r : Nat) : List Int := lst (r * xs.length) (stF r (fnOf xs))
theorem stL_length (xs : List Int) (r : Nat) : (stL xs r).length = r * xs.length := lst_length _ _
def stuff (xs : List Int) (r : Int) : List Int × Bool := if seqOk xs && inB r 1 100 then doneOf (stL xs r.toNat) else ([], false)
theorem stuff_yes {xs : List Int} {r : Nat} (h : seqOk xs = true) (h1 : 1 ≤ r) (h2 : r ≤ 100) : stuff xs r = doneOf (stL xs r) := by
  simp [stuff, h, inB_true (show (1 : Int) ≤ r by omega) (show (r : Int) ≤ 100 by omega)]
theorem stuff_noSeq {xs : List Int} {r : Int} (h : seqOk xs = false) : stuff xs r = ([], false) := by simp [stuff, h]
theorem stuff_noR {xs : List Int} {r : Int} (h : inB r 1 100 = false) : stuff xs r = ([], false) := by simp [stuff, h]
theorem stuff_len (xs : List Int) (r : Int) : (stuff xs r).1.length ≤ 1000 := by
  unfold stuff
  split
  · exact doneOf_len _
  · simp
/-- The first k elements are laid. -/
def StTo (xs ys : List Int) (r k : Nat) : Prop := ys.length = r * xs.length ∧ ∀ t, t < r * xs.length → ys[t]? = some (if t < r * k then stF r (fnOf xs) t else 0)
theorem stTo_zero (xs : List Int) (r : Nat) : StTo xs (List.replicate (r * xs.length) 0) r 0 := ⟨by simp, fun t ht => by
  rw [List.getElem?_replicate, if_pos ht, if_neg (by omega)]⟩
theorem stTo_step {xs ys : List Int} {r k : Nat} (hr : 1 ≤ r) (h : StTo xs ys r k) (hk : k < xs.length) : StTo xs (ys.set (k * r) xs[k]) r (k + 1) := by
  have e1 : r * (k + 1) = r * k + r := by rw [Nat.mul_add]; simp
  have e2 : k * r = r * k := Nat.mul_comm _ _
  have e3 : r * (k + 1) ≤ r * xs.length := Nat.mul_le_mul_left _ (by omega)
  refine ⟨by simp [h.1], fun t ht => ?_⟩
  by_cases hc : t = k * r
  · subst hc
    rw [List.getElem?_set_self (by rw [h.1]; omega), if_pos (by omega)]
    unfold stF
    rw [if_pos (Nat.mul_mod_left _ _), Nat.mul_div_cancel _ (by omega), fnOf_at hk]
  · rw [List.getElem?_set_ne (by omega), h.2 t ht]
    by_cases h1 : t < r * k
    · rw [if_pos h1, if_pos (by omega)]
    · rw [if_neg h1]
      by_cases h2 : t < r * (k + 1)
      · rw [if_pos h2]
        unfold stF
        rw [if_neg]
        intro h0
        obtain ⟨q, hq⟩ := Nat.dvd_of_mod_eq_zero h0
        have a1 : k < q := by
          rcases Nat.lt_or_ge k q with h | h
          · exact h
          · have := Nat.mul_le_mul_left r h
            by_cases hqk : q = k
            · subst hqk; omega
            · have : r * (q + 1) ≤ r * k := Nat.mul_le_mul_left r (by omega)
              rw [Nat.mul_add] at this; omega
        have : r * (k + 1) ≤ r * q := Nat.mul_le_mul_left r (by omega)
        omega
      · rw [if_neg h2]
theorem stTo_end {xs ys : List Int} {r : Nat} (h : StTo xs ys r xs.length) : ys = stL xs r := by
  refine eq_lst h.1 fun t ht => ?_
  have := h.2 t (by rw [← h.1]; exact ht)
  rw [List.getElem?_eq_getElem ht, if_pos (by rw [← h.1]; exact ht)] at this
  exact Option.some.inj this
/-- The reference's way: each element and r - 1 zeros behind it. -/
theorem stF_block {f : Nat → Int} {r k : Nat} (hr : 1 ≤ r) : lst (r * (k + 1)) (stF r f) = (lst (r * k) (stF r f) ++ [f k]) ++ List.replicate (r - 1) 0 := by
  have e1 : r * (k + 1) = r * k + r := by rw [Nat.mul_add]; simp
  apply List.ext_getElem?
  intro t
  by_cases h1 : t < r * k
  · rw [lst_at _ (by omega), List.append_assoc, List.getElem?_append_left (by rw [lst_length]; exact h1), lst_at _ h1]
  · by_cases h2 : t < r * (k + 1)
    · rw [lst_at _ h2]
      by_cases h3 : t = r * k
      · subst h3
        rw [List.append_assoc, List.getElem?_append_right (by rw [lst_length]; omega), lst_length, Nat.sub_self]
        unfold stF
        rw [if_pos (Nat.mul_mod_right _ _), Nat.mul_div_cancel_left _ (by omega)]; rfl
      · rw [List.getElem?_append_right (by simp [lst_length]; omega), List.length_append, lst_length, List.getElem?_replicate, if_pos (by simp; omega)]
        unfold stF
        rw [if_neg]
        intro h0
        obtain ⟨q, hq⟩ := Nat.dvd_of_mod_eq_zero h0
        have a1 : k < q := by
          rcases Nat.lt_or_ge k q with h | h
          · exact h
          · by_cases hqk : q = k
            · subst hqk; omega
            · have : r * (q + 1) ≤ r * k := Nat.mul_le_mul_left r (by omega)
              rw [Nat.mul_add] at this; omega
        have : r * (k + 1) ≤ r * q := Nat.mul_le_mul_left r (by omega)
        omega
    · rw [List.getElem?_eq_none (by rw [lst_length]; omega), List.getElem?_eq_none (by simp [lst_length]; omega)]
/-! ### The exact comb -/
def exTo (xs : List Int) (r : Nat) : Nat → List Int × Bool
  | 0 => (xs, true)
  | k + 1 => if (exTo xs r k).2 then boxSums (exTo xs r k).1 r else ([], false)
def exN (xs : List Int) (r : Nat) : Nat → List Int
  | 0 => xs
  | k + 1 => boxS (exN xs r k) r
theorem exN_length (xs : List Int) (r : Nat) : ∀ k, (exN xs r k).length = xs.length
  | 0 => rfl
  | k + 1 => by rw [exN, boxS_length, exN_length xs r k]
theorem exN_eq (xs : List Int) (r : Nat) : ∀ k, exN xs r k = lst xs.length (itF (bF r) k (fnOf xs))
  | 0 => (lst_fnOf xs).symm
  | k + 1 => by
    rw [exN, boxS, exN_length]
    refine lst_congr fun j hj => ?_
    rw [itF]
    refine bF_congr (n := xs.length) r (fun i hi => ?_) j hj
    rw [exN_eq xs r k, fnOf_lst hi]
def exOk (xs : List Int) (r k : Nat) : Bool := (List.range (k + 1)).all fun j => seqOk (exN xs r j)
theorem exOk_succ (xs : List Int) (r k : Nat) : exOk xs r (k + 1) = (exOk xs r k && seqOk (exN xs r (k + 1))) := by
  unfold exOk; rw [List.range_succ, List.all_append]; simp
theorem exOk_zero (xs : List Int) (r : Nat) : exOk xs r 0 = seqOk xs := by simp [exOk, exN]
theorem exOk_mono {xs : List Int} {r k : Nat} (h : exOk xs r k = false) : ∀ j, k ≤ j → exOk xs r j = false := by
  intro j hj
  induction j with
  | zero => obtain rfl : k = 0 := by omega
            exact h
  | succ j ih =>
    by_cases hc : k = j + 1
    · subst hc; exact h
    · rw [exOk_succ, ih (by omega)]; rfl
theorem exOk_seq {xs : List Int} {r k : Nat} (h : exOk xs r k = true) : seqOk (exN xs r k) = true := by
  unfold exOk at h; rw [List.all_eq_true] at h; exact h k (List.mem_range.2 (by omega))
theorem exTo_succ (xs : List Int) (r k : Nat) (h : (exTo xs r k).2 = true) : exTo xs r (k + 1) = boxSums (exTo xs r k).1 r := by rw [exTo, if_pos h]
theorem exTo_stay {xs : List Int} {r k : Nat} (h : (exTo xs r k).2 = false) : ∀ j, k ≤ j → (exTo xs r j).2 = false := by
  intro j hj
  induction j with
  | zero => obtain rfl : k = 0 := by omega
            exact h
  | succ j ih =>
    by_cases hc : k = j + 1
    · subst hc; exact h
    · rw [exTo, if_neg (by rw [ih (by omega)]; simp)]
theorem exTo_len {xs : List Int} {r : Nat} {n : Nat} (h : xs.length ≤ n) (h2 : 1000 ≤ n) : ∀ k, (exTo xs r k).1.length ≤ n
  | 0 => h
  | k + 1 => by
    rw [exTo]
    split
    · have := boxSums_len (exTo xs r k).1 r; omega
    · simp
theorem exTo_noSeq {xs : List Int} {r : Nat} (h : seqOk xs = false) {k : Nat} (hk : 1 ≤ k) : (exTo xs r k).2 = false := by
  refine exTo_stay (k := 1) ?_ k hk
  rw [exTo_succ xs r 0 rfl, show (exTo xs r 0).1 = xs from rfl, boxSums_noSeq h]
theorem exTo_yes {xs : List Int} {r : Nat} (h1 : 1 ≤ r) (h2 : r ≤ 100) {n : Nat} (h : ∀ j, j ≤ n → seqOk (exN xs r j) = true) : ∀ k, k ≤ n → exTo xs r k = (exN xs r k, true)
  | 0, _ => rfl
  | k + 1, hk => by
    have ih := exTo_yes h1 h2 h k (by omega)
    rw [exTo_succ _ _ _ (by rw [ih]), ih]
    have e := boxSums_yes (h k (by omega)) h1 h2
    rw [e]
    exact doneOf_yes (h (k + 1) hk)
def exactC (o r k : Int) (xs : List Int) : List Int × Bool :=
  if inB o 1 6 && inB r 1 100 && inB k 2 62 && (exTo xs r.toNat o.toNat).2 then decimate (exTo xs r.toNat o.toNat).1 r (r - 1) else ([], false)
theorem exactC_len (o r k : Int) (xs : List Int) : (exactC o r k xs).1.length ≤ 1000 := by
  unfold exactC
  split
  · exact decimate_len _ _ _
  · simp
theorem exactC_no {o r k : Int} {xs : List Int} (h : (inB o 1 6 && inB r 1 100 && inB k 2 62) = false) : exactC o r k xs = ([], false) := by simp [exactC, h]
theorem exactC_stop {n r : Nat} {k : Int} {xs : List Int} {j : Nat} (hj : j ≤ n) (h : (exTo xs r j).2 = false) : exactC n r k xs = ([], false) := by
  unfold exactC
  rw [if_neg]
  simp only [Int.toNat_natCast, Bool.and_eq_true, not_and]
  intro _ h2
  rw [exTo_stay h n hj] at h2; cases h2
theorem exactC_yes {n r : Nat} {k : Int} {xs : List Int} (hc : (inB n 1 6 && inB r 1 100 && inB k 2 62) = true) (h : (exTo xs r n).2 = true) : exactC n r k xs = decimate (exTo xs r n).1 r ((r : Int) - 1) := by
  unfold exactC
  rw [if_pos]
  · simp only [Int.toNat_natCast]
  · simp only [Int.toNat_natCast]; rw [hc, h]; rfl
end Go.Proofs.Ytfplecbacgcjgaa
