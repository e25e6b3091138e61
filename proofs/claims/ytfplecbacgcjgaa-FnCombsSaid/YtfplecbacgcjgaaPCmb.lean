/- Plain laws of a run of a comb: it is the exact sums, wrapped; it may be cut. No program. -/
import Derived.Test.YtfplecbacgcjgaaPWrap
import Derived.Test.YtfplecbacgcjgaaPSig
import Derived.Test.YtfplecbacgcjgaaNewComb
namespace Go.Proofs.Ytfplecbacgcjgaa
open Go.RowKit
set_option linter.unusedVariables false
set_option linter.unusedSimpArgs false
theorem wrapW_mod (v : Int) (k : Int) : (wrapW v k) % 2 ^ k.toNat = v % 2 ^ k.toNat := by
  unfold wrapW
  have hq := two_pow_pos k.toNat
  split
  · rw [Int.sub_emod_right, Int.emod_emod_of_dvd _ (Int.dvd_refl _)]
  · rw [Int.emod_emod_of_dvd _ (Int.dvd_refl _)]
theorem wrapW_congr {a b k : Int} (h : a % 2 ^ k.toNat = b % 2 ^ k.toNat) : wrapW a k = wrapW b k := by unfold wrapW; rw [h]
theorem wrapW_add (a b k : Int) : wrapW (wrapW a k + wrapW b k) k = wrapW (a + b) k :=
  wrapW_congr (by rw [Int.add_emod, wrapW_mod, wrapW_mod, ← Int.add_emod])
theorem wrapW_add_r (a b k : Int) : wrapW (wrapW a k + b) k = wrapW (a + b) k :=
  wrapW_congr (by rw [Int.add_emod, wrapW_mod, ← Int.add_emod])
theorem wrapW_sub (a b k : Int) : wrapW (wrapW a k - wrapW b k) k = wrapW (a - b) k :=
  wrapW_congr (by rw [Int.sub_emod, wrapW_mod, wrapW_mod, ← Int.sub_emod])
theorem wrapW_wrapW (a k : Int) : wrapW (wrapW a k) k = wrapW a k := wrapW_congr (wrapW_mod a k)
theorem wrapW_zero (k : Int) (hk : 2 ≤ k) : wrapW 0 k = 0 := by
  unfold wrapW
  have := two_pow_pos (k.toNat - 1)
  rw [Int.zero_emod, if_neg (by omega)]
theorem wrapW_in {a k : Int} (hk : 2 ≤ k) (h1 : -(2 ^ (k.toNat - 1)) ≤ a) (h2 : a < 2 ^ (k.toNat - 1)) : wrapW a k = a := by
  have hh := two_pow_half k.toNat (by omega)
  have hp := two_pow_pos (k.toNat - 1)
  unfold wrapW
  rcases Int.lt_or_le a 0 with h | h
  · have e : a % 2 ^ k.toNat = a + 2 ^ k.toNat := by
      rw [← Int.add_emod_right, Int.emod_eq_of_lt (by omega) (by omega)]
    rw [e, if_pos (by omega)]; omega
  · rw [Int.emod_eq_of_lt h (by omega), if_neg (by omega)]
theorem wrapW_out {a k : Int} (hk : 2 ≤ k) (h : wrapW a k = a) : -(2 ^ (k.toNat - 1)) ≤ a ∧ a < 2 ^ (k.toNat - 1) := by
  rw [← h]; exact wrapW_lo a k hk
theorem wrapW_big {a k : Int} (hk : 2 ≤ k) (hk2 : k ≤ 62) : -4611686018427387904 ≤ wrapW a k ∧ wrapW a k ≤ 4611686018427387904 := by
  have h := wrapW_lo a k hk
  have := two_pow_62 (k.toNat - 1) (by omega)
  omega
/-! ### One input -/
def chS (k : Int) (S : List Int) (v : Int) : Nat → Int
  | 0 => v
  | i + 1 => wrapW (S.getD i 0 + chS k S v i) k
def sumsN (k : Int) (S : List Int) (v : Int) : List Int := lst S.length fun i => chS k S v (i + 1)
def chD (k : Int) (D : List Int) (v : Int) : Nat → Int
  | 0 => v
  | i + 1 => wrapW (chD k D v i - D.getD i 0) k
def delsN (k : Int) (D : List Int) (v : Int) : List Int := lst D.length (chD k D v)
def cOne (r k : Int) (t : CS) (v : Int) : CS :=
  if t.phase + 1 < r then ⟨sumsN k t.sums v, t.delays, t.phase + 1⟩ else ⟨sumsN k t.sums v, delsN k t.delays (chS k t.sums v t.sums.length), 0⟩
def cOut (r k : Int) (t : CS) (v : Int) : List Int :=
  if t.phase + 1 < r then [] else [chD k t.delays (chS k t.sums v t.sums.length) t.delays.length]
def cSt (r k : Int) (s : CS) (xs : List Int) : Nat → CS
  | 0 => s
  | j + 1 => cOne r k (cSt r k s xs j) (xs.getD j 0)
def cYs (r k : Int) (s : CS) (xs : List Int) : Nat → List Int
  | 0 => []
  | j + 1 => cYs r k s xs j ++ cOut r k (cSt r k s xs j) (xs.getD j 0)
theorem sumsN_length (k : Int) (S : List Int) (v : Int) : (sumsN k S v).length = S.length := lst_length _ _
theorem delsN_length (k : Int) (D : List Int) (v : Int) : (delsN k D v).length = D.length := lst_length _ _
theorem cOne_lens (r k : Int) (t : CS) (v : Int) : (cOne r k t v).sums.length = t.sums.length ∧ (cOne r k t v).delays.length = t.delays.length := by
  unfold cOne
  split
  · exact ⟨sumsN_length _ _ _, rfl⟩
  · exact ⟨sumsN_length _ _ _, delsN_length _ _ _⟩
theorem cSt_lens (r k : Int) (s : CS) (xs : List Int) : ∀ j, (cSt r k s xs j).sums.length = s.sums.length ∧ (cSt r k s xs j).delays.length = s.delays.length
  | 0 => ⟨rfl, rfl⟩
  | j + 1 => by
    have h1 := cSt_lens r k s xs j
    have h2 := cOne_lens r k (cSt r k s xs j) (xs.getD j 0)
    rw [cSt]; omega
theorem cOut_len (r k : Int) (t : CS) (v : Int) : (cOut r k t v).length ≤ 1 := by
  unfold cOut; split <;> simp
theorem cYs_len (r k : Int) (s : CS) (xs : List Int) : ∀ j, (cYs r k s xs j).length ≤ j
  | 0 => by simp [cYs]
  | j + 1 => by
    have h1 := cYs_len r k s xs j
    have h2 := cOut_len r k (cSt r k s xs j) (xs.getD j 0)
    rw [cYs, List.length_append]; omega
/-- All words of the width. -/
def Words (k : Int) (l : List Int) : Prop := ∀ v ∈ l, wrapW v k = v
theorem words_getD {k : Int} (hk : 2 ≤ k) {l : List Int} (h : Words k l) (i : Nat) : wrapW (l.getD i 0) k = l.getD i 0 := by
  by_cases hi : i < l.length
  · rw [getD_at hi]; exact h _ (List.getElem_mem hi)
  · rw [List.getD, List.getElem?_eq_none (by omega)]; exact wrapW_zero k hk
theorem sumsN_words (k : Int) (S : List Int) (v : Int) : Words k (sumsN k S v) := fun x hx => by
  obtain ⟨i, _, rfl⟩ := lst_mem hx
  exact wrapW_wrapW _ _
theorem chS_word (k : Int) (S : List Int) (v : Int) (n : Nat) (h : 1 ≤ n) : wrapW (chS k S v n) k = chS k S v n := by
  obtain ⟨j, rfl⟩ : ∃ j, n = j + 1 := ⟨n - 1, by omega⟩
  exact wrapW_wrapW _ _
theorem delsN_words {k : Int} {D : List Int} {v : Int} (hv : wrapW v k = v) : Words k (delsN k D v) := fun x hx => by
  obtain ⟨i, _, rfl⟩ := lst_mem hx
  cases i with
  | zero => exact hv
  | succ i => exact wrapW_wrapW _ _
/-- A valid state stays one. -/
structure StOk (o r k : Int) (s : CS) : Prop where
  ls : (s.sums.length : Int) = o
  ld : (s.delays.length : Int) = o
  p0 : 0 ≤ s.phase
  p1 : s.phase < r
  ws : Words k s.sums
  wd : Words k s.delays
theorem cOne_ok {o r k : Int} {t : CS} (v : Int) (ho : 1 ≤ o) (hr : 1 ≤ r) (h : StOk o r k t) : StOk o r k (cOne r k t v) := by
  have hl := cOne_lens r k t v
  have a1 := h.ls
  have a2 := h.ld
  have a3 := h.p0
  have a4 := h.p1
  refine ⟨by omega, by omega, ?_, ?_, ?_, ?_⟩
  · unfold cOne; split <;> simp <;> omega
  · unfold cOne; split <;> simp <;> omega
  · unfold cOne; split <;> exact sumsN_words _ _ _
  · unfold cOne
    split
    · exact h.wd
    · exact delsN_words (chS_word _ _ _ _ (by omega))
theorem cSt_ok {o r k : Int} {s : CS} (xs : List Int) (ho : 1 ≤ o) (hr : 1 ≤ r) (h : StOk o r k s) : ∀ j, StOk o r k (cSt r k s xs j)
  | 0 => h
  | j + 1 => cOne_ok _ ho hr (cSt_ok xs ho hr h j)
/-! ### A run behind a run -/
theorem cSt_app_left (r k : Int) (s : CS) (xs ys : List Int) : ∀ j, j ≤ xs.length → cSt r k s (xs ++ ys) j = cSt r k s xs j ∧ cYs r k s (xs ++ ys) j = cYs r k s xs j
  | 0, _ => ⟨rfl, rfl⟩
  | j + 1, h => by
    have ih := cSt_app_left r k s xs ys j (by omega)
    have e : (xs ++ ys).getD j 0 = xs.getD j 0 := by simp [List.getD, List.getElem?_append_left (show j < xs.length by omega)]
    exact ⟨by rw [cSt, cSt, ih.1, e], by rw [cYs, cYs, ih.1, ih.2, e]⟩
theorem cSt_app_right (r k : Int) (s : CS) (xs ys : List Int) : ∀ j, cSt r k s (xs ++ ys) (xs.length + j) = cSt r k (cSt r k s xs xs.length) ys j ∧ cYs r k s (xs ++ ys) (xs.length + j) = cYs r k s xs xs.length ++ cYs r k (cSt r k s xs xs.length) ys j
  | 0 => by have := cSt_app_left r k s xs ys _ (Nat.le_refl _); exact ⟨this.1, by rw [Nat.add_zero, this.2]; simp [cYs]⟩
  | j + 1 => by
    have ih := cSt_app_right r k s xs ys j
    have e : (xs ++ ys).getD (xs.length + j) 0 = ys.getD j 0 := by simp [List.getD, List.getElem?_append_right]
    refine ⟨by rw [← Nat.add_assoc, cSt, cSt, ih.1, e], by rw [← Nat.add_assoc, cYs, cYs, ih.1, ih.2, e, List.append_assoc]⟩
/-! ### From the state at first: the exact sums, wrapped -/
/-- What stands in sum i behind j inputs. -/
theorem chS_exact {k : Int} {S : List Int} {x : Nat → Int} {j : Nat} (hS : ∀ i, i < S.length → S.getD i 0 = wrapW (bef (itF sF (i + 1) x) j) k) : ∀ i, i ≤ S.length → wrapW (chS k S (x j) i) k = wrapW (itF sF i x j) k
  | 0, _ => rfl
  | i + 1, h => by
    have ih := chS_exact hS i (by omega)
    rw [chS, wrapW_wrapW, hS i (by omega)]
    have e : itF sF (i + 1) x j = bef (itF sF (i + 1) x) j + itF sF i x j := by
      have h1 := congrFun (dF_sF (itF sF i x)) j
      have h2 : itF sF (i + 1) x = sF (itF sF i x) := rfl
      rw [← h2] at h1
      simp only [dF] at h1
      omega
    rw [wrapW_add_r, e]
    exact wrapW_congr (by rw [Int.add_emod, ← wrapW_mod (chS k S (x j) i), ih, wrapW_mod, ← Int.add_emod])
structure Exact (n r k : Nat) (x : Nat → Int) (t : CS) (ys : List Int) (j : Nat) : Prop where
  ls : t.sums.length = n
  ld : t.delays.length = n
  ph : t.phase = ((j % r : Nat) : Int)
  ly : ys.length = j / r
  S : ∀ i, i < n → t.sums.getD i 0 = wrapW (bef (itF sF (i + 1) x) j) k
  D : ∀ i, i < n → t.delays.getD i 0 = wrapW (bef (dFn (dec r (itF sF n x)) i) (j / r)) k
  Y : ∀ m, m < j / r → ys.getD m 0 = wrapW (dFn (dec r (itF sF n x)) n m) k
theorem exact_start {n r k : Nat} (hk : 2 ≤ k) (hr : 1 ≤ r) (x : Nat → Int) : Exact n r k x ⟨zeros n, zeros n, 0⟩ [] 0 := by
  have hz : ∀ i, (zeros n).getD i 0 = 0 := fun i => by
    unfold zeros
    by_cases h : i < n <;> simp [h]
  refine ⟨by simp [zeros], by simp [zeros], by simp, by simp, fun i h => ?_, fun i h => ?_, fun m h => ?_⟩
  · show (zeros n).getD i 0 = _
    rw [hz]; simp only [bef]; exact (wrapW_zero _ (by omega)).symm
  · show (zeros n).getD i 0 = _
    rw [hz, Nat.zero_div]; simp only [bef]; exact (wrapW_zero _ (by omega)).symm
  · simp at h
theorem chD_exact {k : Int} {D : List Int} {u : Nat → Int} {m : Nat} {v : Int} (hv : v = wrapW (u m) k) (hD : ∀ i, i < D.length → D.getD i 0 = wrapW (bef (dFn u i) m) k) : ∀ i, i ≤ D.length → chD k D v i = wrapW (dFn u i m) k
  | 0, _ => hv
  | i + 1, h => by
    rw [chD, chD_exact hv hD i (by omega), hD i (by omega), wrapW_sub]; rfl
theorem exact_step {n r k : Nat} (hn : 1 ≤ n) (hk : 2 ≤ k) (hr : 1 ≤ r) {x : Nat → Int} {t : CS} {ys : List Int} {j : Nat} (h : Exact n r k x t ys j) : Exact n r k x (cOne r k t (x j)) (ys ++ cOut r k t (x j)) (j + 1) := by
  have hl := cOne_lens r k t (x j)
  have a1 := h.ls
  have a2 := h.ld
  have hS : ∀ i, i < t.sums.length → t.sums.getD i 0 = wrapW (bef (itF sF (i + 1) x) j) k := fun i hi => h.S i (by omega)
  have cS : ∀ i, i < n → chS k t.sums (x j) (i + 1) = wrapW (itF sF (i + 1) x j) k := fun i hi => by
    rw [← chS_word _ _ _ _ (by omega)]; exact chS_exact hS (i + 1) (by omega)
  have newS : ∀ i, i < n → (sumsN k t.sums (x j)).getD i 0 = wrapW (bef (itF sF (i + 1) x) (j + 1)) k := fun i hi => by
    unfold sumsN
    rw [lst_getD _ (by omega), cS i hi]; rfl
  have hph := h.ph
  by_cases hc : j % r + 1 < r
  · have hb : t.phase + 1 < (r : Int) := by rw [hph]; omega
    have hdiv : (j + 1) / r = j / r := by
      have := Nat.div_add_mod j r
      rw [Nat.div_eq_iff (by omega)]
      rw [Nat.mul_comm] at this
      omega
    have hmod : (j + 1) % r = j % r + 1 := by
      have := Nat.div_add_mod (j + 1) r
      rw [hdiv] at this
      have := Nat.div_add_mod j r
      omega
    have e1 : cOne r k t (x j) = ⟨sumsN k t.sums (x j), t.delays, t.phase + 1⟩ := by unfold cOne; rw [if_pos hb]
    have e2 : cOut r k t (x j) = [] := by unfold cOut; rw [if_pos hb]
    rw [e1, e2, List.append_nil]
    refine ⟨?_, a2, ?_, ?_, newS, ?_, ?_⟩
    · exact (sumsN_length _ _ _).trans a1
    · rw [hmod, hph]; simp
    · rw [hdiv]; exact h.ly
    · rw [hdiv]; exact h.D
    · rw [hdiv]; exact h.Y
  · have hrr : j % r + 1 = r := by have := Nat.mod_lt j (show r > 0 by omega); omega
    have hb : ¬ t.phase + 1 < (r : Int) := by rw [hph]; omega
    have hj := Nat.div_add_mod j r
    have hdiv : (j + 1) / r = j / r + 1 := by
      have : j + 1 = r * (j / r + 1) := by rw [Nat.mul_add]; omega
      rw [this, Nat.mul_div_cancel_left _ (by omega)]
    have hmod : (j + 1) % r = 0 := by
      have : j + 1 = r * (j / r + 1) := by rw [Nat.mul_add]; omega
      rw [this, Nat.mul_mod_right]
    have e1 : cOne r k t (x j) = ⟨sumsN k t.sums (x j), delsN k t.delays (chS k t.sums (x j) t.sums.length), 0⟩ := by unfold cOne; rw [if_neg hb]
    have e2 : cOut r k t (x j) = [chD k t.delays (chS k t.sums (x j) t.sums.length) t.delays.length] := by unfold cOut; rw [if_neg hb]
    have hv : chS k t.sums (x j) t.sums.length = wrapW (dec r (itF sF n x) (j / r)) k := by
      have := cS (n - 1) (by omega)
      rw [show n - 1 + 1 = n by omega] at this
      rw [a1, this]
      unfold dec
      have : j / r * r + (r - 1) = j := by rw [Nat.mul_comm]; omega
      rw [this]
    have hD := chD_exact (u := dec r (itF sF n x)) (m := j / r) hv (D := t.delays) fun i hi => h.D i (by omega)
    rw [e1, e2]
    refine ⟨(sumsN_length _ _ _).trans a1, (delsN_length _ _ _).trans a2, ?_, ?_, newS, ?_, ?_⟩
    · rw [hmod]; rfl
    · rw [hdiv, List.length_append, h.ly]; rfl
    · intro i hi
      rw [hdiv]
      show (delsN k t.delays _).getD i 0 = _
      unfold delsN
      rw [lst_getD _ (by omega), hD i (by omega)]; rfl
    · intro m hm
      rw [hdiv] at hm
      by_cases hc2 : m < j / r
      · rw [← h.Y m hc2]
        simp [List.getD, List.getElem?_append_left (show m < ys.length by rw [h.ly]; exact hc2)]
      · obtain rfl : m = j / r := by omega
        have e3 : (ys ++ [chD k t.delays (chS k t.sums (x j) t.sums.length) t.delays.length]).getD (j / r) 0 = chD k t.delays (chS k t.sums (x j) t.sums.length) t.delays.length := by
          simp [List.getD, ← h.ly]
        rw [e3, hD _ (Nat.le_refl _), a2]
theorem exact_run {n r k : Nat} (hn : 1 ≤ n) (hk : 2 ≤ k) (hr : 1 ≤ r) (xs : List Int) : ∀ j, Exact n r k (fnOf xs) (cSt r k ⟨zeros n, zeros n, 0⟩ xs j) (cYs r k ⟨zeros n, zeros n, 0⟩ xs j) j
  | 0 => exact_start hk hr _
  | j + 1 => exact_step hn hk hr (exact_run hn hk hr xs j)
/-- The outputs of a comb that begins with its state at first. -/
theorem comb_ys {n r k : Nat} (hn : 1 ≤ n) (hk : 2 ≤ k) (hr : 1 ≤ r) (xs : List Int) : cYs r k ⟨zeros n, zeros n, 0⟩ xs xs.length = lst (xs.length / r) fun m => wrapW (dec r (itF (bF r) n (fnOf xs)) m) k := by
  have h := exact_run (n := n) (k := k) hn hk hr xs xs.length
  refine eq_lst h.ly fun m hm => ?_
  have := h.Y m (by rw [← h.ly]; exact hm)
  rw [getD_at hm] at this
  rw [this, comb_exact hr]
end Go.Proofs.Ytfplecbacgcjgaa
