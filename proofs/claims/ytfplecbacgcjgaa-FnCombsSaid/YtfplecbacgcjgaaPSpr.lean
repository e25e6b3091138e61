import Derived.Test.YtfplecbacgcjgaaPGrow
import Derived.Test.YtfplecbacgcjgaaPCut
import Derived.Test.YtfplecbacgcjgaaCombLaw
import Derived.Test.YtfplecbacgcjgaaPPart
import Derived.Test.YtfplecbacgcjgaaBase
import Derived.Test.YtfplecbacgcjgaaPSig
import Derived.Test.YtfplecbacgcjgaaPLst
import Derived.Test.YtfplecbacgcjgaaSeq2
import Derived.Test.YtfplecbacgcjgaaDiffOf
import Derived.Test.YtfplecbacgcjgaaSpread
/- Plain law: the growth of a comb is the least width. No program. -/
namespace Go.Proofs.Ytfplecbacgcjgaa
open Go.RowKit
set_option linter.unusedVariables false
set_option linter.unusedSimpArgs false
theorem growFrom_least (v : Int) : ∀ (f k : Nat), v ≤ 2 ^ (k + f - 2) - 1 → 1 ≤ f → 2 ≤ k → ∃ w : Nat, growFrom f k v = ((w : Int), true) ∧ k ≤ w ∧ w < k + f ∧ v ≤ 2 ^ (w - 1) - 1 ∧ (k < w → 2 ^ (w - 2) ≤ v)
  | 0, _, _, h, _ => absurd h (by omega)
  | f + 1, k, hv, _, hk => by
    unfold growFrom
    by_cases hc : v ≤ 2 ^ (k - 1) - 1
    · rw [if_pos hc]
      exact ⟨k, rfl, Nat.le_refl _, by omega, hc, fun h => absurd h (Nat.lt_irrefl _)⟩
    · rw [if_neg hc]
      have hf : 1 ≤ f := by
        rcases Nat.eq_zero_or_pos f with h0 | h0
        · subst h0; exact absurd hv (by rw [show k + (0 + 1) - 2 = k - 1 by omega]; exact hc)
        · exact h0
      obtain ⟨w, h1, h2, h3, h4, h5⟩ := growFrom_least v f (k + 1) (by rw [show k + 1 + f - 2 = k + (f + 1) - 2 by omega]; exact hv) hf (by omega)
      refine ⟨w, h1, by omega, by omega, h4, fun _ => ?_⟩
      by_cases he : w = k + 1
      · subst he
        rw [show k + 1 - 2 = k - 1 by omega]; omega
      · exact h5 (by omega)
/-- The greatest sums of a comb want its growth, and no bit less. -/
theorem width_of {v : Int} (h1 : 1 ≤ v) (h2 : v ≤ 1000000000000) : ∃ w : Nat, growFrom 61 2 v = ((w : Int), true) ∧ 2 ≤ w ∧ w ≤ 62 ∧ wrapW v w = v ∧ wrapW (-v) w = -v ∧ (2 < w → wrapW v ((w : Int) - 1) ≠ v) := by
  obtain ⟨w, e, a1, a2, a3, a4⟩ := growFrom_least v 61 2 (by rw [show 2 + 61 - 2 = 61 by omega, show (2 : Int) ^ 61 = 2305843009213693952 by decide]; omega) (by omega) (by omega)
  have hn : ((w : Int)).toNat = w := by simp
  refine ⟨w, e, a1, by omega, ?_, ?_, fun hw hc => ?_⟩
  · exact wrapW_in (by omega) (by rw [hn]; have := two_pow_pos (w - 1); omega) (by rw [hn]; omega)
  · exact wrapW_in (by omega) (by rw [hn]; omega) (by rw [hn]; have := two_pow_pos (w - 1); omega)
  · have h := (wrapW_out (by omega) hc).2
    have h5 := a4 hw
    rw [show ((w : Int) - 1).toNat - 1 = w - 2 by omega] at h
    omega
theorem gain_bd {S : Int} {r j : Nat} (s1 : 1 ≤ S) (s2 : S ≤ 65026) (r1 : 1 ≤ r) (r2 : r ≤ 6) (hj : j ≤ 4) : 1 ≤ S * (r : Int) ^ j ∧ S * (r : Int) ^ j ≤ 84273696 := by
  have h1 := pow_ge_one (r : Int) (by omega) j
  have h2 := pow6 r2 hj
  have e : (r : Int) ^ j = ((r ^ j : Nat) : Int) := by simp
  rw [e] at h1 ⊢
  have h3 : S * ((r ^ j : Nat) : Int) ≤ 65026 * 1296 := Int.mul_le_mul s2 (by omega) (by omega) (by omega)
  have h4 : 1 * 1 ≤ S * ((r ^ j : Nat) : Int) := Int.mul_le_mul s1 h1 (by omega) (by omega)
  omega
theorem mul255 {a b A B : Int} (a0 : 0 ≤ a) (a1 : a ≤ A) (b0 : 0 ≤ b) (b1 : b ≤ B) : 0 ≤ a * b ∧ a * b ≤ A * B :=
  ⟨Int.mul_nonneg a0 b0, Int.mul_le_mul a1 b1 b0 (by omega)⟩
theorem wrap_62 {a : Int} (h1 : -1000000000 ≤ a) (h2 : a ≤ 1000000000) : wrapW a 62 = a := wrapW_in (by omega) (by simp; omega) (by simp; omega)
/-- Two numbers, wrapped; their sum. -/
theorem words_of {a b V : Int} (a1 : -5000000 ≤ a) (a2 : a ≤ 11581375) (V1 : 2 ≤ V) (V2 : V ≤ 31) :
    ∃ x y z : Int, wrapW a V = x ∧ wrapW b V = y ∧ wrapW x V = x ∧ wrapW (x + y) V = z ∧ wrapW (a + b) V = z ∧ wrapW a 62 = a ∧ -1073741824 ≤ x ∧ x ≤ 1073741824 ∧ -1073741824 ≤ y ∧ y ≤ 1073741824 := by
  have hb : ∀ t : Int, -1073741824 ≤ wrapW t V ∧ wrapW t V ≤ 1073741824 := fun t => by
    have h := wrapW_lo t V V1
    have h2 := two_pow_le (V.toNat - 1) 30 (by omega)
    have e : (2 : Int) ^ 30 = 1073741824 := by decide
    omega
  exact ⟨wrapW a V, wrapW b V, wrapW (a + b) V, rfl, rfl, wrapW_wrapW a V, wrapW_add a b V, rfl, wrap_62 (by omega) (by omega), (hb a).1, (hb a).2, (hb b).1, (hb b).2⟩
end Go.Proofs.Ytfplecbacgcjgaa

/- Plain law: a comb that is stopped goes on as if it had not been. No program. -/
namespace Go.Proofs.Ytfplecbacgcjgaa
open Go.RowKit
set_option linter.unusedVariables false
set_option linter.unusedSimpArgs false
theorem cut_runs {M : Int} (hM : 0 ≤ M) {xs zs : List Int} (h : ∀ x ∈ xs, -M ≤ x ∧ x ≤ M) (h' : ∀ x ∈ zs, -M ≤ x ∧ x ≤ M) (hl : xs.length + zs.length ≤ 1000) {r n k : Nat} (hr1 : 1 ≤ r) (hr : r ≤ 6) (hn1 : 1 ≤ n) (hn : n ≤ 4) (hb : 1296 * M ≤ 1099511627776) (k1 : 2 ≤ k) (k2 : k ≤ 62) :
    ∃ Y1 Y2 T1 T2, runC n r k ⟨zeros n, zeros n, 0⟩ xs = (Y1, T1, true) ∧ runC n r k T1 zs = (Y2, T2, true) ∧ runC n r k ⟨zeros n, zeros n, 0⟩ (xs ++ zs) = (Y1 ++ Y2, T2, true) ∧ stOk n r k T1 = true ∧ stOk n r k T2 = true ∧ T1.sums.length = n ∧ T1.delays.length = n ∧ T2.sums.length = n ∧ T2.delays.length = n ∧ Y1.length ≤ xs.length ∧ Y2.length ≤ zs.length := by
  have hx : ∀ x ∈ xs ++ zs, -M ≤ x ∧ x ≤ M := fun x hx => by
    rw [List.mem_append] at hx
    exact hx.elim (h x) (h' x)
  have hc := comb_ok hn1 hn hr1 hr k1 k2
  have s0 := st0_ok hn1 hn hr1 hr k1 k2
  have hok := (stOk_parts s0).2
  have hall := run0_yes (k := k) hM hx (by rw [List.length_append]; exact hl) hr1 hr hn1 hn hb k1 k2
  have h1 := run0_yes (k := k) hM h (by omega) hr1 hr hn1 hn hb k1 k2
  have sq := run_all (k := k) hM hx (by rw [List.length_append]; exact hl) hr1 hr hn1 hn hb k1
  have ra := cSt_app_right r k ⟨zeros n, zeros n, 0⟩ xs zs zs.length
  rw [← List.length_append] at ra
  rw [← comb_ys hn1 k1 hr1] at hall h1
  have o1 := cSt_ok xs (by omega) (by omega) hok xs.length
  obtain ⟨T1, hT1⟩ : ∃ T, T = cSt r k ⟨zeros n, zeros n, 0⟩ xs xs.length := ⟨_, rfl⟩
  obtain ⟨Y1, hY1⟩ : ∃ T, T = cYs r k ⟨zeros n, zeros n, 0⟩ xs xs.length := ⟨_, rfl⟩
  rw [← hT1] at ra o1 h1
  rw [← hY1] at ra h1
  have l1 : Y1.length ≤ xs.length := by rw [hY1]; exact cYs_len _ _ _ _ _
  rw [ra.2] at sq hall
  rw [ra.1] at hall
  have o2 := cSt_ok zs (by omega) (by omega) o1 zs.length
  have sq2 : seqOk (cYs r k T1 zs zs.length) = true := by
    refine seqOk_of (fun x hx => seqOk_mem sq x (List.mem_append.2 (Or.inr hx))) ?_
    have := seqOk_len sq
    rw [List.length_append] at this
    omega
  have h2 := runC_yes (stOk_of hc o1) (seqOk_of (fun x hx => by have := h' x hx; omega) (by omega)) sq2
  have a1 := o1.ls
  have a2 := o1.ld
  have a3 := o2.ls
  have a4 := o2.ld
  exact ⟨Y1, _, T1, _, h1, h2, hall, stOk_of hc o1, stOk_of hc o2, by omega, by omega, by omega, by omega, l1, cYs_len _ _ _ _ _⟩
end Go.Proofs.Ytfplecbacgcjgaa

/- Plain laws of the coefficients of boxes. No program. -/
namespace Go.Proofs.Ytfplecbacgcjgaa
open Go.RowKit
/-- What the first i elements of D give to place t of their convolution with r ones. -/
def boxA (D : List Int) (r i t : Nat) : Int := pre D (min i (t + 1)) - pre D (min i (t + 1 - r))
/-- The convolution with r ones. -/
def box1 (D : List Int) (r : Nat) : List Int := (List.range (D.length + r - 1)).map fun t => boxA D r D.length t
def boxN (r : Nat) : Nat → List Int
  | 0 => [1]
  | k + 1 => box1 (boxN r k) r
theorem box1_length (D : List Int) (r : Nat) : (box1 D r).length = D.length + r - 1 := by simp [box1]
theorem boxN_length {r : Nat} (hr : 1 ≤ r) : ∀ k, (boxN r k).length = 1 + k * (r - 1)
  | 0 => by simp [boxN]
  | k + 1 => by rw [boxN, box1_length, boxN_length hr k, Nat.add_mul]; omega
theorem pre_range {D : List Int} {M : Int} (h : ∀ x ∈ D, 0 ≤ x ∧ x ≤ M) (a : Nat) : ∀ n : Nat, a + n ≤ D.length → 0 ≤ pre D (a + n) - pre D a ∧ pre D (a + n) - pre D a ≤ M * n := by
  intro n
  induction n with
  | zero => intro _; simp
  | succ n ih =>
    intro hn
    have h1 := ih (by omega)
    have h2 := h D[a + n] (List.getElem_mem (by omega))
    rw [← Nat.add_assoc, pre_succ D (by omega)]
    have e : M * ((n + 1 : Nat) : Int) = M * n + M := by rw [Int.natCast_add, Int.mul_add]; simp
    omega
theorem boxA_bd {D : List Int} {M : Int} (h : ∀ x ∈ D, 0 ≤ x ∧ x ≤ M) (hM : 0 ≤ M) {r i t : Nat} (hi : i ≤ D.length) : 0 ≤ boxA D r i t ∧ boxA D r i t ≤ M * r := by
  unfold boxA
  have h1 := pre_range h (min i (t + 1 - r)) (min i (t + 1) - min i (t + 1 - r)) (by omega)
  rw [show min i (t + 1 - r) + (min i (t + 1) - min i (t + 1 - r)) = min i (t + 1) by omega] at h1
  have h2 : M * ((min i (t + 1) - min i (t + 1 - r) : Nat) : Int) ≤ M * r := Int.mul_le_mul_of_nonneg_left (by omega) hM
  omega
theorem boxN_bd {r : Nat} (hr : 1 ≤ r) : ∀ k, ∀ x ∈ boxN r k, 0 ≤ x ∧ x ≤ (r : Int) ^ k
  | 0 => by simp [boxN]
  | k + 1 => by
    intro x hx
    simp only [boxN, box1, List.mem_map, List.mem_range] at hx
    obtain ⟨t, _, rfl⟩ := hx
    have hp := pow_ge_one (r : Int) (by omega) k
    have := boxA_bd (boxN_bd hr k) (by omega) (r := r) (t := t) (Nat.le_refl (boxN r k).length)
    rw [Int.pow_succ]
    exact this
theorem boxA_succ {D : List Int} {r i : Nat} (hi : i < D.length) (t : Nat) : boxA D r (i + 1) t = boxA D r i t + if i ≤ t ∧ t < i + r then D[i] else 0 := by
  have hs := pre_succ D hi
  unfold boxA
  by_cases h1 : i ≤ t
  · rw [show min (i + 1) (t + 1) = i + 1 by omega, show min i (t + 1) = i by omega]
    by_cases h2 : t < i + r
    · rw [if_pos ⟨h1, h2⟩, show min (i + 1) (t + 1 - r) = t + 1 - r by omega, show min i (t + 1 - r) = t + 1 - r by omega]
      omega
    · rw [if_neg (by omega), show min (i + 1) (t + 1 - r) = i + 1 by omega, show min i (t + 1 - r) = i by omega]
      omega
  · rw [if_neg (by omega), show min (i + 1) (t + 1) = t + 1 by omega, show min i (t + 1) = t + 1 by omega, show min (i + 1) (t + 1 - r) = t + 1 - r by omega, show min i (t + 1 - r) = t + 1 - r by omega]
    omega
theorem boxA_zero (D : List Int) (r t : Nat) : boxA D r 0 t = 0 := by simp [boxA]
/-- The first i elements are laid, and j places of the next one. -/
def BoxTo (D : List Int) (r i j : Nat) (ys : List Int) : Prop := ys.length = D.length + r - 1 ∧ ∀ t, t < D.length + r - 1 → ys[t]? = some (boxA D r i t + if i ≤ t ∧ t < i + j then D.getD i 0 else 0)
theorem boxTo_start (D : List Int) (r : Nat) : BoxTo D r 0 0 (List.replicate (D.length + r - 1) 0) := by
  refine ⟨by simp, fun t ht => ?_⟩
  rw [List.getElem?_replicate, if_pos ht, boxA_zero, if_neg (by omega)]
  rfl
theorem boxTo_at {D ys : List Int} {r i j : Nat} (h : BoxTo D r i j ys) (hij : i + j < ys.length) : ys[i + j] = boxA D r i (i + j) := by
  have hl := h.1
  have e := h.2 (i + j) (by omega)
  rw [if_neg (by omega), List.getElem?_eq_getElem hij] at e
  have := Option.some.inj e
  omega
theorem boxTo_step {D ys : List Int} {r i j : Nat} (h : BoxTo D r i j ys) (hi : i < D.length) (hij : i + j < ys.length) : BoxTo D r i (j + 1) (ys.set (i + j) (ys[i + j] + D[i])) := by
  have hl := h.1
  refine ⟨by simp [hl], fun t ht => ?_⟩
  by_cases hc : t = i + j
  · subst hc
    rw [List.getElem?_set_self hij, if_pos (by omega), boxTo_at h hij]
    simp [hi]
  · rw [List.getElem?_set_ne (by omega), h.2 t ht]
    by_cases h2 : i ≤ t ∧ t < i + j
    · rw [if_pos h2, if_pos (by omega)]
    · rw [if_neg h2, if_neg (by omega)]
theorem boxTo_row {D ys : List Int} {r i : Nat} (h : BoxTo D r i r ys) (hi : i < D.length) : BoxTo D r (i + 1) 0 ys := by
  refine ⟨h.1, fun t ht => ?_⟩
  rw [h.2 t ht, boxA_succ hi, if_neg (show ¬ (i + 1 ≤ t ∧ t < i + 1 + 0) by omega)]
  have : D.getD i 0 = D[i] := by simp [hi]
  rw [this]; simp
theorem boxTo_end {D ys : List Int} {r : Nat} (h : BoxTo D r D.length 0 ys) : ys = box1 D r := by
  apply List.ext_getElem?
  intro t
  by_cases ht : t < D.length + r - 1
  · rw [h.2 t ht, if_neg (by omega)]
    simp [box1, ht]
  · rw [List.getElem?_eq_none (by rw [h.1]; omega), List.getElem?_eq_none (by rw [box1_length]; omega)]
/-! ### The greatest element -/
/-- m is above b exactly if one of the first k elements is. -/
def MaxTo (xs : List Int) (k : Nat) (m : Int) : Prop := ∀ b, b < m ↔ ∃ x ∈ xs.take k, b < x
theorem maxTo_one {xs : List Int} (h : 0 < xs.length) : MaxTo xs 1 xs[0] := by
  intro b
  have e : xs.take 1 = [xs[0]] := by rw [List.take_succ_eq_append_getElem h]; simp
  rw [e]; simp
theorem maxTo_step {xs : List Int} {k : Nat} {m : Int} (h : MaxTo xs k m) (hk : k < xs.length) : MaxTo xs (k + 1) (max m xs[k]) := by
  intro b
  rw [List.take_succ_eq_append_getElem hk]
  have := h b
  constructor
  · intro hb
    by_cases hc : b < m
    · obtain ⟨x, hx, hb'⟩ := this.1 hc
      exact ⟨x, List.mem_append_left _ hx, hb'⟩
    · exact ⟨xs[k], List.mem_append_right _ (List.mem_singleton.2 rfl), by omega⟩
  · rintro ⟨x, hx, hb⟩
    rw [List.mem_append] at hx
    rcases hx with hx | hx
    · have := this.2 ⟨x, hx, hb⟩; omega
    · simp at hx; subst hx; omega
theorem maxTo_end {xs : List Int} {m : Int} (h : MaxTo xs xs.length m) (b : Int) : decide (b < m) = xs.any fun x => decide (b < x) := by
  have := h b
  rw [List.take_of_length_le (Nat.le_refl _)] at this
  rw [Bool.eq_iff_iff, decide_eq_true_eq, List.any_eq_true, this]
  simp
def bigB (x : Int) : Bool := decide (1000000 < x)
def boxOk (o r k : Int) : Bool := inB o 1 6 && inB r 1 100 && inB k 2 62 && decide (o * (r - 1) + 1 ≤ 100) && !(boxN r.toNat o.toNat).any bigB
def boxes (o r k : Int) : List Int × Bool := if boxOk o r k then (boxN r.toNat o.toNat, true) else ([], false)
end Go.Proofs.Ytfplecbacgcjgaa

/- Contracts of slices.Max and of the two BoxCoefs. -/
namespace Go.Proofs.Ytfplecbacgcjgaa
open Go.RowKit
set_option linter.unusedVariables false
set_option linter.unusedSimpArgs false
def RetMax (w : World) (xs : List Int) (e : Ending) (w' : World) : Prop := ∃ m, e = .returned (.int .i64 m) ∧ MaxTo xs xs.length m ∧ w = w'
theorem max_any (A : Option Addr) (c : Nat) (xs : List Int) (w : World) (hr : Rd w w.heap.size A xs) (hn : xs.length ≤ 1048576) (h0 : 0 < xs.length) :
    Calls Try.prog 65 #[.slice A xs.length c] w (RetMax w xs) := by
  obtain ⟨ad, rfl, hbl, hcell⟩ := hr.at_ h0
  have hc0 := hcell 0 h0
  have H := Lib.hid hcell
  clear hr hcell
  have hc0' : w.cell? ad = some (.int .i64 (xs.getD 0 0)) := hc0
  go_enter Try.func65, Try.ntmps65
  go_wp2
  clear hc0 hc0'
  go_loop [3, 4] (fun q i => ∃ (k : Nat) (m : Int), 1 ≤ k ∧ k ≤ xs.length ∧ i = .int .i64 k ∧ q = .int .i64 m ∧ MaxTo xs k m) (fun _ i => xs.length - (intOf i).toNat)
  case atStart => exact ⟨1, xs[0], by omega, by omega, rfl, rfl, maxTo_one h0⟩
  case round =>
    obtain ⟨k, m, h1, hk, rfl, rfl, hM⟩ := hrel
    by_cases hlt : k < xs.length
    · have hc1 := H.out k hlt
      go_wp2
      go_round
      case rel => exact ⟨k + 1, max m xs[k], by omega, by omega, by go_num, by go_num, maxTo_step hM hlt⟩
      case measure => simp [intOf]; omega
    · obtain rfl : k = xs.length := by omega
      go_wp2
      go_ret
      exact ⟨m, rfl, hM, rfl⟩
theorem boxes_yes {n r : Nat} {k : Int} (hc : combOk n r k = true) (hs : (n : Int) * (r - 1) + 1 ≤ 100) (hb : (boxN r n).any bigB = false) : boxes n r k = (boxN r n, true) := by
  unfold combOk at hc
  have e : boxOk n r k = true := by simp only [boxOk, hc, decide_eq_true hs, Int.toNat_natCast, hb]; rfl
  simp [boxes, e]
theorem boxes_big {n r : Nat} {k : Int} (hb : (boxN r n).any bigB = true) : boxes n r k = ([], false) := by
  have e : boxOk n r k = false := by simp only [boxOk, Int.toNat_natCast, hb]; simp
  simp [boxes, e]
theorem boxes_wide {o r k : Int} (hs : 100 < o * (r - 1) + 1) : boxes o r k = ([], false) := by
  have e : boxOk o r k = false := by simp only [boxOk, decide_eq_false (show ¬ o * (r - 1) + 1 ≤ 100 by omega)]; simp
  simp [boxes, e]
theorem boxes_noComb {o r k : Int} (hc : combOk o r k = false) : boxes o r k = ([], false) := by
  unfold combOk at hc
  have e : boxOk o r k = false := by simp only [boxOk, hc]; simp
  simp [boxes, e]
theorem boxes_len (o r k : Int) : (boxes o r k).1.length ≤ 1000 := by
  unfold boxes
  split
  · rename_i h
    simp only [boxOk, Bool.and_eq_true, decide_eq_true_eq] at h
    obtain ⟨⟨⟨⟨h1, h2⟩, _⟩, h3⟩, _⟩ := h
    obtain ⟨o1, o2⟩ := inB_of h1
    obtain ⟨r1, r2⟩ := inB_of h2
    obtain ⟨n, rfl⟩ : ∃ n : Nat, o = n := ⟨o.toNat, by omega⟩
    obtain ⟨q, rfl⟩ : ∃ q : Nat, r = q := ⟨r.toNat, by omega⟩
    simp only [Int.toNat_natCast]
    rw [boxN_length (by omega)]
    have e : ((n * (q - 1) : Nat) : Int) = (n : Int) * ((q : Int) - 1) := by rw [Int.natCast_mul, Int.natCast_sub (by omega)]; rfl
    omega
  · simp
set_option maxHeartbeats 2000000 in
theorem implBoxes_core (n r : Nat) (k : Int) (w : World) (hc : combOk n r k = true) (hs : (n : Int) * (r - 1) + 1 ≤ 100) :
    Calls Try.prog 26 #[.agg #[.int .i64 n, .int .i64 r, .int .i64 k]] w (RetLB w (boxes n r k)) := by
  obtain ⟨⟨n1, n2⟩, ⟨r1, r2⟩, _⟩ := comb_parts hc
  have m0 : 0 ≤ (n : Int) * (r - 1) := Int.mul_nonneg (by omega) (by omega)
  have m1 : (n : Int) * (r - 1) ≤ 99 := by omega
  go_enter Try.func26, Try.ntmps26
  go_wp2_with fail
  have B0 := Blk.new w 24 #[.int .i64 n, .int .i64 r, .int .i64 k]
  refine (implIsComb_any _ _ _ _).mono ?_; rintro e w1 ⟨rfl, h1⟩
  have B1 := B0.past h1
  have Hb := Lib.hid (thenB ((Below.refl _ _).alloc (Nat.le_refl _) _) h1)
  have c0 := B1.cell 0
  have c1 := B1.cell 1
  simp at c0 c1
  have hz : w.heap.size < w1.heap.size := B1.lt
  clear B0 h1
  go_wp2_with fail
  have O0 : Own (w1.alloc (.cells #[.int .i64 1] 3)) w.heap.size (some ⟨w1.heap.size, 0, none⟩) 1 [1] := own_cells (xs := [1]) w1 #[.int .i64 1] (by omega) rfl (by simp [maxLen])
  have B2 := B1.alloc (.cells #[.int .i64 1] 3)
  have Hb2 := Lib.hid (Hb.out.alloc (by omega) (.cells #[.int .i64 1] 3))
  clear B1 c0 c1 Hb hz
  go_loopw [4, 25] (fun q i wr => ∃ (j : Nat) (A : Option Addr) (c : Nat), j ≤ n ∧ i = .int .i64 j ∧ q = .slice A (boxN r j).length c ∧ Hid (Own wr w.heap.size A c (boxN r j)) ∧ Below w.heap.size w wr ∧ Hid (Blk wr w.heap.size 24 #[.int .i64 n, .int .i64 r, .int .i64 k])) (fun _ i _ => n - (intOf i).toNat)
  case atStart => exact ⟨0, _, 1, by omega, rfl, rfl, O0, Hb2.out, B2⟩
  case round =>
    clear O0 B2 Hb2
    obtain ⟨j, A, c, hj, rfl, rfl, OD, hB, BB⟩ := hrel
    have hl1 := boxN_length (show 1 ≤ r by omega) j
    have hp := pow_small (r : Int) (by omega) (by omega) n (by omega)
    by_cases hlt : j < n
    · have hM := Lib.hid (boxN_bd (show 1 ≤ r by omega) j)
      have hp1 := pow_mono_exp (r : Int) (by omega) (j + 1) (n - (j + 1))
      rw [show j + 1 + (n - (j + 1)) = n by omega, Int.pow_succ] at hp1
      have hp2 := pow_ge_one (r : Int) (by omega) j
      have hD : (boxN r j).length ≤ 600 := by
        rw [hl1]
        have : j * (r - 1) ≤ 6 * 99 := Nat.mul_le_mul (by omega) (by omega)
        omega
      have hD1 : 1 ≤ (boxN r j).length := by omega
      have e9 := Lib.hid (show boxN r (j + 1) = box1 (boxN r j) r from rfl)
      have e8 : (r : Int) ^ j ≤ (r : Int) ^ j * r := by
        have := Int.mul_le_mul_of_nonneg_left (show (1 : Int) ≤ r by omega) (show 0 ≤ (r : Int) ^ j by omega)
        omega
      obtain ⟨M, hMe⟩ : ∃ M : Int, M = (r : Int) ^ j := ⟨_, rfl⟩
      rw [← hMe] at hM hp1 hp2 e8
      have hMr : M * r ≤ 1000000000000 := by omega
      clear hl1 hp hp1 hMe
      obtain ⟨D, hDe⟩ : ∃ D, D = boxN r j := ⟨_, rfl⟩
      rw [← hDe] at hM hD hD1 e9 OD ⊢
      clear hDe
      have hmk := make_ints (D.length + r - 1) (by omega)
      rw [show ((D.length + r - 1 : Nat) : Int) = (D.length : Int) + r - 1 by omega] at hmk
      have c0 := BB.out.cell 0
      have c1 := BB.out.cell 1
      simp at c0 c1
      obtain ⟨wo, hwo⟩ : ∃ wo : World, wo = wr := ⟨_, rfl⟩
      subst hwo
      go_wp2_with fail
      clear c0 c1
      have RD := Lib.hid (own_rd OD.out)
      have hG : w.heap.size < wo.heap.size := BB.out.lt
      go_loopw [36] (fun i wr => ∃ (p : Nat) (ys : List Int), p ≤ D.length ∧ i = .int .i64 p ∧ Hid (BoxTo D r p 0 ys) ∧ Hid (Own wr w.heap.size (some ⟨wo.heap.size, 0, none⟩) (D.length + r - 1) ys) ∧ Below wo.heap.size wo wr) (fun i _ => D.length - (intOf i).toNat)
      case atStart => exact ⟨0, List.replicate (D.length + r - 1) 0, by omega, rfl, boxTo_start D r, own_made wo _ (by omega) (by simp only [maxLen]; omega), (Below.refl _ _).alloc (Nat.le_refl _) _⟩
      case round =>
        obtain ⟨p, ys, hp, rfl, hX, hO, hW⟩ := hrel
        have BB1 := BB.out.past hW
        have c0 := BB1.cell 0
        have c1 := BB1.cell 1
        simp at c0 c1
        by_cases hlt2 : p < D.length
        · obtain ⟨ad, rfl, hbl, hcell⟩ := RD.out.at_ hlt2
          have d1 := (hW.cell (by rw [block_add]; exact hbl)).trans (hcell p hlt2)
          have bD := hM.out _ (List.getElem_mem hlt2)
          clear hcell BB1
          obtain ⟨wq, hwq⟩ : ∃ wq : World, wq = wr := ⟨_, rfl⟩
          subst hwq
          go_wp2_with fail
          clear c0 c1 d1
          go_loopw [43] (fun i wr => ∃ (t : Nat) (ys : List Int), t ≤ r ∧ i = .int .i64 t ∧ Hid (BoxTo D r p t ys) ∧ Hid (Own wr w.heap.size (some ⟨wo.heap.size, 0, none⟩) (D.length + r - 1) ys) ∧ Below wo.heap.size wo wr) (fun i _ => r - (intOf i).toNat)
          case atStart => exact ⟨0, ys, by omega, rfl, hX, hO, hW⟩
          case round =>
            clear hX hO hW
            obtain ⟨t, zs, ht, rfl, hX, hO, hW⟩ := hrel
            by_cases hlt3 : t < r
            · have hpt : p + t < zs.length := by have := hX.out.1; omega
              have hc1 := own_cell hO.out hpt
              have hf1 := own_frozen hO.out (p + t)
              have bA := boxA_bd hM.out (by omega) (r := r) (i := p) (t := p + t) (by omega)
              rw [← boxTo_at hX.out hpt] at bA
              go_wp2
              go_roundw
              case rel => exact ⟨t + 1, zs.set (p + t) (zs[p + t] + D[p]), by omega, by go_num, boxTo_step hX.out hlt2 hpt, own_set hO.out _ _, hW.setCell (by simp) _⟩
              case measure => simp [intOf]; omega
            · obtain rfl : t = r := by omega
              go_wp2
              go_roundw
              case rel => exact ⟨p + 1, zs, by omega, by go_num, boxTo_row hX.out hlt2, hO, hW⟩
              case measure => simp [intOf]; omega
        · obtain rfl : p = D.length := by omega
          have e7 := boxTo_end hX.out
          subst e7
          clear c0 c1
          go_wp2
          go_roundw
          case rel => exact ⟨j + 1, some ⟨wo.heap.size, 0, none⟩, D.length + r - 1, by omega, by go_num, by rw [e9.out, box1_length], by rw [e9.out]; exact hO, hB.trans (hW.mono (by omega)), BB1⟩
          case measure => simp [intOf]; omega
    · obtain rfl : j = n := by omega
      have hD : (boxN r j).length ≤ 600 := by
        rw [hl1]
        have : j * (r - 1) ≤ 6 * 99 := Nat.mul_le_mul (by omega) (by omega)
        omega
      have hl0 : 0 < (boxN r j).length := by omega
      clear hl1
      go_wp2_with fail
      refine (max_any A c (boxN r j) _ (own_rd OD.out) (by omega) hl0).mono ?_; rintro e w2 ⟨m, rfl, hMx, rfl⟩
      have hb := maxTo_end hMx 1000000
      rcases Bool.eq_false_or_eq_true ((boxN r j).any bigB) with hbig | hbig
      · have t0 : 1000000 < m := by
          have : decide (1000000 < m) = true := hb.trans hbig
          simpa using this
        have E := Lib.hid (boxes_big (k := k) hbig)
        clear hb hMx hbig
        go_wp2_with fail
        go_ret2
        rw [E.out]
        exact ⟨none, 0, rfl, own_nil _ _, hB⟩
      · have t0 : m ≤ 1000000 := by
          have : decide (1000000 < m) = false := hb.trans hbig
          simpa using this
        have E := Lib.hid (boxes_yes hc hs hbig)
        clear hb hMx hbig
        go_wp2_with fail
        go_ret2
        rw [E.out]
        exact ⟨A, c, rfl, OD.out, hB⟩
theorem implBoxCoefs_any (o r k : Int) (w : World) :
    Calls Try.prog 26 #[.agg #[.int .i64 o, .int .i64 r, .int .i64 k]] w (RetLB w (boxes o r k)) := by
  rcases Bool.eq_false_or_eq_true (combOk o r k) with hc | hc
  · obtain ⟨⟨n1, n2⟩, ⟨r1, r2⟩, _⟩ := comb_parts hc
    by_cases hs : o * (r - 1) + 1 ≤ 100
    · obtain ⟨n, rfl⟩ : ∃ n : Nat, o = n := ⟨o.toNat, by omega⟩
      obtain ⟨q, rfl⟩ : ∃ q : Nat, r = q := ⟨r.toNat, by omega⟩
      exact implBoxes_core n q k w hc hs
    · have E := Lib.hid (boxes_wide (k := k) (show 100 < o * (r - 1) + 1 by omega))
      have m2 : o * (r - 1) ≤ 6 * 99 := Int.mul_le_mul (by omega) (by omega) (by omega) (by omega)
      have m1 : 100 ≤ o * (r - 1) := by omega
      clear hs
      go_enter Try.func26, Try.ntmps26
      go_wp2_with fail
      have B0 := Blk.new w 24 #[.int .i64 o, .int .i64 r, .int .i64 k]
      refine (implIsComb_any _ _ _ _).mono ?_; rintro e w1 ⟨rfl, h1⟩
      have B1 := B0.past h1
      have Hb := Lib.hid (thenB ((Below.refl _ _).alloc (Nat.le_refl _) _) h1)
      have c0 := B1.cell 0
      have c1 := B1.cell 1
      simp at c0 c1
      clear B0 h1 B1
      go_wp2_with fail
      go_ret2
      rw [E.out]
      exact ⟨none, 0, rfl, own_nil _ _, Hb.out⟩
  · have E := Lib.hid (boxes_noComb hc)
    go_enter Try.func26, Try.ntmps26
    go_wp2_with fail
    refine (implIsComb_any _ _ _ _).mono ?_; rintro e w1 ⟨rfl, h1⟩
    go_wp2_with fail
    go_ret2
    rw [E.out]
    exact ⟨none, 0, rfl, own_nil _ _, thenB ((Below.refl _ _).alloc (Nat.le_refl _) _) h1⟩
end Go.Proofs.Ytfplecbacgcjgaa

/- Plain laws of a convolution that is summed in two parts, high and low; of the coefficients of a box. No program. -/
namespace Go.Proofs.Ytfplecbacgcjgaa
open Go.RowKit
set_option linter.unusedVariables false
set_option linter.unusedSimpArgs false
theorem part_bd (x : Int) : -1048576 < x.tmod 1048576 ∧ x.tmod 1048576 < 1048576 ∧ x.tdiv 1048576 * 1048576 + x.tmod 1048576 = x := by
  have h := Int.tmod_add_mul_tdiv x 1048576
  rcases Int.le_total 0 x with hx | hx
  · have e := Int.tmod_eq_emod_of_nonneg (b := 1048576) hx
    omega
  · obtain ⟨y, rfl⟩ : ∃ y, x = -y := ⟨-x, by omega⟩
    have e := Int.tmod_eq_emod_of_nonneg (a := y) (b := 1048576) (by omega)
    have e2 : (-y).tmod 1048576 = -(y.tmod 1048576) := Int.neg_tmod ..
    omega
theorem mul_abs {a b A B : Int} (a1 : -A ≤ a) (a2 : a ≤ A) (b1 : -B ≤ b) (b2 : b ≤ B) : -(A * B) ≤ a * b ∧ a * b ≤ A * B := by
  rcases Int.le_total 0 a with ha | ha <;> rcases Int.le_total 0 b with hb | hb
  · have h1 := Int.mul_nonneg ha hb
    have h2 : a * b ≤ A * B := Int.mul_le_mul a2 b2 hb (by omega)
    omega
  · have h1 := Int.mul_nonneg ha (show 0 ≤ -b by omega)
    have h2 : a * (-b) ≤ A * B := Int.mul_le_mul a2 (by omega) (by omega) (by omega)
    rw [Int.mul_neg] at h1 h2; omega
  · have h1 := Int.mul_nonneg (show 0 ≤ -a by omega) hb
    have h2 : (-a) * b ≤ A * B := Int.mul_le_mul (by omega) b2 hb (by omega)
    rw [Int.neg_mul] at h1 h2; omega
  · have h1 := Int.mul_nonneg (show 0 ≤ -a by omega) (show 0 ≤ -b by omega)
    have h2 : (-a) * (-b) ≤ A * B := Int.mul_le_mul (by omega) (by omega) (by omega) (by omega)
    rw [Int.neg_mul_neg] at h1 h2; omega
def cvL (g f : Nat → Int) (n i : Nat) : Int := sumF (fun t => g t * (f (n - t)).tmod 1048576) i
def cvH (g f : Nat → Int) (n i : Nat) : Int := sumF (fun t => g t * (f (n - t)).tdiv 1048576) i
theorem cv_parts (g f : Nat → Int) (n : Nat) : ∀ i, cvH g f n i * 1048576 + cvL g f n i = sumF (fun t => g t * f (n - t)) i
  | 0 => by simp [cvH, cvL, sumF]
  | i + 1 => by
    have ih := cv_parts g f n i
    have h := (part_bd (f (n - i))).2.2
    simp only [cvH, cvL, sumF] at ih ⊢
    rw [← ih]
    have e : g i * f (n - i) = g i * (f (n - i)).tdiv 1048576 * 1048576 + g i * (f (n - i)).tmod 1048576 := by
      rw [Int.mul_assoc, ← Int.mul_add, h]
    rw [e, Int.add_mul]
    omega
theorem sumF_pad {f : Nat → Int} {i : Nat} (h : ∀ k, i ≤ k → f k = 0) : ∀ d, sumF f (i + d) = sumF f i
  | 0 => rfl
  | d + 1 => by rw [← Nat.add_assoc, sumF, sumF_pad h d, h _ (by omega)]; omega
theorem cv_stop {hs : List Int} {f : Nat → Int} {n i : Nat} (hi : i ≤ n + 1) (h : i = n + 1 ∨ hs.length ≤ i) : sumF (fun t => fnOf hs t * f (n - t)) i = cv (fnOf hs) f n := by
  unfold cv
  rcases h with rfl | h
  · rfl
  · have := sumF_pad (f := fun t => fnOf hs t * f (n - t)) (i := i) (fun k hk => by show fnOf hs k * _ = 0; rw [fnOf_out (by omega), Int.zero_mul]) (n + 1 - i)
    rw [← this, show i + (n + 1 - i) = n + 1 by omega]
theorem sumF_abs {f : Nat → Int} {a : Int} (h : ∀ k, -a ≤ f k ∧ f k ≤ a) (n : Nat) : -(a * n) ≤ sumF f n ∧ sumF f n ≤ a * n := by
  have := sumF_bd h n 0 (by omega)
  simp only [sumF, Nat.sub_zero] at this
  omega
theorem cvL_bd {hs : List Int} {f : Nat → Int} (h : ∀ c ∈ hs, -1000000 ≤ c ∧ c ≤ 1000000) (n : Nat) {i : Nat} (hi : i ≤ 100) : -104857600000000 ≤ cvL (fnOf hs) f n i ∧ cvL (fnOf hs) f n i ≤ 104857600000000 := by
  have hb : ∀ k, -1048576000000 ≤ fnOf hs k * (f (n - k)).tmod 1048576 ∧ fnOf hs k * (f (n - k)).tmod 1048576 ≤ 1048576000000 := fun k => by
    have h1 := fnOf_bd (a := 1000000) (by omega) h k
    have h2 := part_bd (f (n - k))
    exact mul_abs (A := 1000000) (B := 1048576) h1.1 h1.2 (by omega) (by omega)
  have := sumF_abs hb i
  unfold cvL
  omega
theorem cvH_bd {hs : List Int} {f : Nat → Int} (h : ∀ c ∈ hs, -1000000 ≤ c ∧ c ≤ 1000000) (hf : ∀ k, -1099511627776 ≤ f k ∧ f k ≤ 1099511627776) (n : Nat) {i : Nat} (hi : i ≤ 100) : -104857600000000 ≤ cvH (fnOf hs) f n i ∧ cvH (fnOf hs) f n i ≤ 104857600000000 := by
  have hb : ∀ k, -1048576000000 ≤ fnOf hs k * (f (n - k)).tdiv 1048576 ∧ fnOf hs k * (f (n - k)).tdiv 1048576 ≤ 1048576000000 := fun k => by
    have h1 := fnOf_bd (a := 1000000) (by omega) h k
    have h2 := part_bd (f (n - k))
    have h3 := hf (n - k)
    exact mul_abs (A := 1000000) (B := 1048576) h1.1 h1.2 (by omega) (by omega)
  have := sumF_abs hb i
  unfold cvH
  omega
/-- The coefficients of a box are what its sums make of a single 1. -/
theorem box1_fn {D : List Int} {r : Nat} (hr : 1 ≤ r) : fnOf (box1 D r) = bF r (fnOf D) := by
  have hp : ∀ n, pre D (min D.length n) = sumF (fnOf D) n := fun n => by
    induction n with
    | zero => simp [pre, sumF, sumTo]
    | succ n ih =>
      rw [sumF, ← ih]
      by_cases h : n < D.length
      · rw [show min D.length (n + 1) = n + 1 by omega, show min D.length n = n by omega, pre_succ D h, fnOf_at h]
      · rw [show min D.length (n + 1) = D.length by omega, show min D.length n = D.length by omega, fnOf_out (by omega)]; omega
  funext t
  by_cases h : t < D.length + r - 1
  · rw [fnOf_at (by rw [box1_length]; exact h)]
    simp only [box1, List.getElem_map, List.getElem_range]
    rw [boxA, hp, hp]; rfl
  · rw [fnOf_out (by rw [box1_length]; omega), bF, ← hp, ← hp, show min D.length (t + 1) = D.length by omega, show min D.length (t + 1 - r) = D.length by omega]; omega
theorem boxN_fn {r : Nat} (hr : 1 ≤ r) : ∀ n, fnOf (boxN r n) = itF (bF r) n one0
  | 0 => by
    funext t
    cases t with
    | zero => rfl
    | succ t => rw [fnOf_out (by simp [boxN])]; rfl
  | n + 1 => by rw [boxN, box1_fn hr, boxN_fn hr n]; rfl
theorem cv_box {r : Nat} (hr : 1 ≤ r) (n : Nat) (f : Nat → Int) : cv (fnOf (boxN r n)) f = itF (bF r) n f := by
  rw [boxN_fn hr, cv_itB, cv_one]
end Go.Proofs.Ytfplecbacgcjgaa

/- Contract of the program's Convolve, where its result is a sequence. -/
namespace Go.Proofs.Ytfplecbacgcjgaa
open Go.RowKit
set_option linter.unusedVariables false
set_option linter.unusedSimpArgs false
set_option maxRecDepth 100000 in
set_option maxHeartbeats 2000000 in
theorem implConvolve_yes (A : Option Addr) (c : Nat) (xs : List Int) (A' : Option Addr) (c' : Nat) (hs : List Int) (w : World) (hr : Rd w w.heap.size A xs) (hr' : Rd w w.heap.size A' hs) (h0 : seqOk xs = true) (hl : hs.length ≤ 100) (hb : ∀ c ∈ hs, -1000000 ≤ c ∧ c ≤ 1000000) (R : List Int) (hR : R = lst xs.length (cv (fnOf hs) (fnOf xs))) (hRs : seqOk R = true) :
    Calls Try.prog 27 #[.slice A xs.length c, .slice A' hs.length c'] w (RetY R w) := by
  have hlx := seqOk_len h0
  have hRl : R.length = xs.length := by rw [hR, lst_length]
  have HRv : Hid (∀ n (h : n < R.length), R[n] = cv (fnOf hs) (fnOf xs) n) := fun n h => by subst hR; exact lst_get _ _
  have HRs := Lib.hid hRs
  have HR := Lib.hid hRl
  have Hx : Hid (∀ k, -1099511627776 ≤ fnOf xs k ∧ fnOf xs k ≤ 1099511627776) := seq_fnOf h0
  have Hh := Lib.hid hb
  have hX := Lib.hid hr
  have hH := Lib.hid hr'
  clear hRl hR hb hRs
  go_enter Try.func27, Try.ntmps27
  go_wp2_with (go_at_call 55; refine (implIsSequence_any _ _ _ _ hr (by omega)).mono ?_; rintro e w' ⟨rfl, rfl⟩)
  clear hr hr'
  go_loop [23] (fun i => ∃ j : Nat, j ≤ hs.length ∧ i = .int .i64 j) (fun i => hs.length - (intOf i).toNat)
  case atStart => exact ⟨0, by omega, rfl⟩
  case round =>
    obtain ⟨j, hj, rfl⟩ := hrel
    by_cases hlt : j < hs.length
    · obtain ⟨ad, rfl, hbl, hcell⟩ := hH.out.at_ hlt
      have hc1 := hcell j hlt
      rw [getD_at hlt] at hc1
      have b1 := Hh.out _ (List.getElem_mem hlt)
      obtain ⟨v, hve⟩ : ∃ v, v = hs[j] := ⟨_, rfl⟩
      rw [← hve] at hc1 b1
      have t1 : decide (v < -1000000) = false := by simp; omega
      have t2 : decide (1000000 < v) = false := by simp; omega
      clear hve hcell
      go_wp2
      go_round
      case rel => exact ⟨j + 1, by omega, by go_num⟩
      case measure => simp [intOf]; omega
    · go_wp2_with fail
      go_loopw [8, 37] (fun q i wr => ∃ (n : Nat) (Aq : Option Addr) (cq : Nat), n ≤ xs.length ∧ i = .int .i64 n ∧ q = .slice Aq n cq ∧ Hid (Own wr w.heap.size Aq cq (R.take n)) ∧ Hid (Below w.heap.size w wr)) (fun _ i _ => xs.length - (intOf i).toNat)
      case atStart => exact ⟨0, _, 0, by omega, rfl, rfl, own_empty w _ (Nat.le_refl _), (Below.refl _ _).alloc (Nat.le_refl _) _⟩
      case round =>
        clear hlt
        obtain ⟨n, Aq, cq, hk, rfl, rfl, hown, hb⟩ := hrel
        obtain ⟨wa, hwa⟩ : ∃ wa : World, wa = wr := ⟨_, rfl⟩
        subst hwa
        by_cases hlt : n < xs.length
        · have n1 : (n : Int) < (xs.length : Int) := by omega
          go_wp2_with fail
          go_loopw [10, 11, 12] (fun hi lo i wx => ∃ j : Nat, j ≤ n + 1 ∧ j ≤ hs.length ∧ i = .int .i64 j ∧ hi = .int .i64 (cvH (fnOf hs) (fnOf xs) n j) ∧ lo = .int .i64 (cvL (fnOf hs) (fnOf xs) n j) ∧ Hid (∃ m, wx = wa.drewN m)) (fun _ _ i _ => hs.length - (intOf i).toNat)
          case atStart => exact ⟨0, by omega, by omega, rfl, rfl, rfl, 0, rfl⟩
          case round =>
            clear hj
            obtain ⟨j, j1, j2, rfl, rfl, rfl, HD⟩ := hrel
            have b1 := cvH_bd Hh.out Hx.out n (i := j) (by omega)
            have b2 := cvL_bd (f := fnOf xs) Hh.out n (i := j) (by omega)
            by_cases hgo : j < hs.length ∧ j ≤ n
            · obtain ⟨g1, g2⟩ := hgo
              have hjx : n - j < xs.length := by omega
              obtain ⟨a1, rfl, z1, q1⟩ := hH.out.at_ g1
              obtain ⟨a2, rfl, z2, q2⟩ := hX.out.at_ hjx
              have hd : ∀ p : Addr, p.block < w.heap.size → wr.cell? p = w.cell? p := fun p hp => by obtain ⟨m, hm⟩ := HD.out; subst hm; exact hb.out.cell hp
              have k1 := (hd _ (by rw [block_add]; exact z1)).trans (q1 j g1)
              have k2 := (hd _ (by rw [block_add]; exact z2)).trans (q2 (n - j) hjx)
              have e1 : hs.getD j 0 = fnOf hs j := rfl
              have e2 : xs.getD (n - j) 0 = fnOf xs (n - j) := rfl
              rw [e1] at k1
              rw [e2] at k2
              have h1 := fnOf_bd (a := 1000000) (by omega) Hh.out j
              have h2 := Hx.out (n - j)
              have hL : Hid (cvL (fnOf hs) (fnOf xs) n (j + 1) = cvL (fnOf hs) (fnOf xs) n j + fnOf hs j * (fnOf xs (n - j)).tmod 1048576) := rfl
              have hHi : Hid (cvH (fnOf hs) (fnOf xs) n (j + 1) = cvH (fnOf hs) (fnOf xs) n j + fnOf hs j * (fnOf xs (n - j)).tdiv 1048576) := rfl
              obtain ⟨L, hLe⟩ : ∃ L, L = cvL (fnOf hs) (fnOf xs) n j := ⟨_, rfl⟩
              obtain ⟨H, hHe⟩ : ∃ L, L = cvH (fnOf hs) (fnOf xs) n j := ⟨_, rfl⟩
              obtain ⟨a, ha⟩ : ∃ L, L = fnOf hs j := ⟨_, rfl⟩
              obtain ⟨x, hxe⟩ : ∃ L, L = fnOf xs (n - j) := ⟨_, rfl⟩
              rw [← hLe] at hL b2 ⊢
              rw [← hHe] at hHi b1 ⊢
              rw [← ha] at k1 hL hHi h1
              rw [← hxe] at k2 hL hHi h2
              have hp := part_bd x
              obtain ⟨t, ht⟩ : ∃ t, t = x.tmod 1048576 := ⟨_, rfl⟩
              obtain ⟨d, hde⟩ : ∃ t, t = x.tdiv 1048576 := ⟨_, rfl⟩
              have et : x.tmod 1048576 = t := ht.symm
              have ed : x.tdiv 1048576 = d := hde.symm
              rw [et, ed] at hp
              rw [et] at hL
              rw [ed] at hHi
              obtain ⟨p, hpe⟩ : ∃ p, p = a * t := ⟨_, rfl⟩
              obtain ⟨r, hre⟩ : ∃ p, p = a * d := ⟨_, rfl⟩
              have ep : a * t = p := hpe.symm
              have er : a * d = r := hre.symm
              have bp := mul_abs (A := 1000000) (B := 1048576) h1.1 h1.2 (show -1048576 ≤ t by omega) (show t ≤ 1048576 by omega)
              have br := mul_abs (A := 1000000) (B := 1048576) h1.1 h1.2 (show -1048576 ≤ d by omega) (show d ≤ 1048576 by omega)
              rw [ep] at bp hL
              rw [er] at br hHi
              have sp : IntKind.i64.wrap p = p := Go.IntWalk.i64_in _ (by omega)
              have sr : IntKind.i64.wrap r = r := Go.IntWalk.i64_in _ (by omega)
              have en : ((n : Int) - (j : Int)).toNat = n - j := by omega
              have en1 : (0 : Int) ≤ (n : Int) - (j : Int) := by omega
              have en2 : (n : Int) - (j : Int) < (xs.length : Int) := by omega
              clear hLe hHe ha hxe ht hde hpe hre q1 q2 hd e1 e2
              go_wp2
              go_quiet (fail)
              go_wp2
              go_quiet (fail)
              go_wp2
              go_roundw
              case rel => exact ⟨j + 1, by omega, by omega, by go_num, by rw [hHi.out], by rw [hL.out], by obtain ⟨m, rfl⟩ := HD.out; exact ⟨_, World.drewN_drewN ..⟩⟩
              case measure => simp [intOf]; omega
            · have hstop : j = n + 1 ∨ hs.length ≤ j := by omega
              have hnR : n < R.length := by rw [HR.out]; exact hlt
              have hv := HRv.out n hnR
              rw [← cv_stop j1 hstop, ← cv_parts] at hv
              have hvb := seqOk_at HRs.out hnR
              obtain ⟨L, hLe⟩ : ∃ L, L = cvL (fnOf hs) (fnOf xs) n j := ⟨_, rfl⟩
              obtain ⟨H, hHe⟩ : ∃ L, L = cvH (fnOf hs) (fnOf xs) n j := ⟨_, rfl⟩
              rw [← hLe] at hv b2 ⊢
              rw [← hHe] at hv b1 ⊢
              have hp := part_bd L
              obtain ⟨t, ht⟩ : ∃ t, t = L.tmod 1048576 := ⟨_, rfl⟩
              obtain ⟨d, hde⟩ : ∃ t, t = L.tdiv 1048576 := ⟨_, rfl⟩
              have et : L.tmod 1048576 = t := ht.symm
              have ed : L.tdiv 1048576 = d := hde.symm
              rw [et, ed] at hp
              have hu : -2097152 ≤ H + d ∧ H + d ≤ 2097152 := by omega
              have ta : decide (2097152 < absI (H + d)) = false := by unfold absI; simp; omega
              have hRv : Hid (R[n] = (H + d) * 1048576 + t) := by show _ = _; omega
              have hO : Own wr w.heap.size Aq cq (R.take n) := by obtain ⟨m, rfl⟩ := HD.out; exact own_past hown.out (below_drewN' (Below.refl _ _) _)
              have hB : Below w.heap.size w wr := by obtain ⟨m, rfl⟩ := HD.out; exact below_drewN' hb.out _
              have Hs := Lib.hid hstop
              clear hLe hHe ht hde hv hstop hvb hown hb HD
              rcases Nat.lt_or_ge j hs.length with hq | hq
              all_goals
                (go_wp2_with (first | (go_at_call 66; refine (size_any _ _ (by omega) (by omega)).mono ?_; rintro e w' ⟨rfl, rfl⟩) | (at_builtin; refine app_take rfl (.tmp 88) (.tmp 93) rfl w.heap.size Aq cq n R _ hnR ?_ rfl hO rfl (by omega) hB.size ?_)))
                · exact hRv.out
                intro A1 c1 w1 hown1 hw1 hm1
                go_wp2
                go_roundw
                case rel => exact ⟨n + 1, A1, c1, by omega, by go_num, rfl, hown1, below_app hB hw1 hO hB.size⟩
                case measure => simp [intOf]; omega
        · obtain rfl : n = xs.length := by omega
          have hO := hown.out
          rw [List.take_of_length_le (by rw [HR.out]; omega)] at hO
          have hcall := asSequence_own Aq w.heap.size cq R wa hO (by rw [HR.out]; omega)
          rw [doneOf_yes HRs.out, HR.out] at hcall
          have Hc := Lib.hid hcall
          clear hcall hO hown
          go_wp2_with fail
          refine Hc.out.mono ?_
          rintro e w2 ⟨A2, c2, rfl, O2, rfl⟩
          go_wp2_with fail
          go_ret2
          exact ⟨A2, c2, by rw [HR.out]; rfl, O2, hb.out⟩
end Go.Proofs.Ytfplecbacgcjgaa

/- Plain laws: a comb that is wide enough, by boxes and by convolution; a comb that spreads. No program. -/
namespace Go.Proofs.Ytfplecbacgcjgaa
open Go.RowKit
set_option linter.unusedVariables false
set_option linter.unusedSimpArgs false
theorem boxes_small {n r : Nat} {k : Int} (n1 : 1 ≤ n) (n2 : n ≤ 4) (r1 : 1 ≤ r) (r2 : r ≤ 6) (k1 : 2 ≤ k) (k2 : k ≤ 62) : boxes n r k = (boxN r n, true) ∧ (boxN r n).length ≤ 21 ∧ ∀ c ∈ boxN r n, -1000000 ≤ c ∧ c ≤ 1000000 := by
  have hp := pow6 r2 n2
  have e : (r : Int) ^ n = ((r ^ n : Nat) : Int) := by simp
  have hb : ∀ c ∈ boxN r n, 0 ≤ c ∧ c ≤ 1296 := fun c hc => by
    have := boxN_bd r1 n c hc
    rw [e] at this
    omega
  have hm : n * (r - 1) ≤ 4 * 5 := Nat.mul_le_mul n2 (by omega)
  refine ⟨boxes_yes ?_ ?_ ?_, ?_, fun c hc => by have := hb c hc; omega⟩
  · simp [combOk, inB_true (show (1 : Int) ≤ n by omega) (show (n : Int) ≤ 6 by omega), inB_true (show (1 : Int) ≤ r by omega) (show (r : Int) ≤ 100 by omega), inB_true k1 k2]
  · have h1 : ((n * (r - 1) : Nat) : Int) = (n : Int) * (r - 1) := by rw [Int.natCast_mul, Int.natCast_sub r1]; rfl
    omega
  · rw [List.any_eq_false]
    intro c hc
    have := hb c hc
    simp [bigB]; omega
  · rw [boxN_length r1]; omega
theorem dec_exN {xs : List Int} {r n : Nat} (hr1 : 1 ≤ r) (hr : r ≤ 6) (hs : seqOk (exN xs r n) = true) : decimate (exN xs r n) r ((r : Int) - 1) = (lst (xs.length / r) (fun m => dec r (itF (bF r) n (fnOf xs)) m), true) := by
  have e2 : ((r : Int) - 1) = ((r - 1 : Nat) : Int) := by omega
  rw [e2, decimate_yes hs hr1 (by omega) (by omega)]
  have e3 : decN xs.length r (r - 1) = xs.length / r := by
    unfold decN
    by_cases hx : r - 1 ≤ xs.length
    · rw [show xs.length - (r - 1) + r - 1 = xs.length by omega]
    · rw [show xs.length - (r - 1) + r - 1 = r - 1 by omega, Nat.div_eq_of_lt (by omega), Nat.div_eq_of_lt (by omega)]
  congr 1
  unfold decL
  rw [exN_length, e3]
  refine lst_congr fun j hj => ?_
  have hlt : r - 1 + j * r < xs.length := (decN_iff hr1 j).1 (by rw [e3]; exact hj)
  rw [exN_eq, fnOf_lst hlt]
  unfold dec
  rw [Nat.add_comm]
/-- A comb that is wide enough gives the exact sums. -/
theorem combs_all {M : Int} (hM : 0 ≤ M) (hM2 : M ≤ 256) {xs : List Int} (h : ∀ x ∈ xs, -M ≤ x ∧ x ≤ M) (hl : xs.length ≤ 1000) {r n k : Nat} (hr1 : 1 ≤ r) (hr : r ≤ 6) (hn1 : 1 ≤ n) (hn : n ≤ 4) (k1 : 2 ≤ k) (k2 : k ≤ 62) (hk : M * (r : Int) ^ n ≤ 2 ^ (k - 1) - 1) :
    ∃ Z T R H, runC n r k ⟨zeros n, zeros n, 0⟩ xs = (Z, T, true) ∧ exactC n r k xs = (Z, true) ∧ boxes n r k = (H, true) ∧ H.length ≤ 21 ∧ (∀ c ∈ H, -1000000 ≤ c ∧ c ≤ 1000000) ∧ R = lst xs.length (cv (fnOf H) (fnOf xs)) ∧ seqOk R = true ∧ R.length = xs.length ∧ decimate R r ((r : Int) - 1) = (Z, true) ∧ Z.length = xs.length / r ∧ T.sums.length = n ∧ T.delays.length = n := by
  obtain ⟨b1, b2, b3⟩ := boxes_small (k := (k : Int)) hn1 hn hr1 hr (by omega) (by omega)
  have hs := exN_ok hM h hl hr hn (by omega)
  have hb := itB_bd (r := r) hM (fnOf_bd hM h) n
  have hrun := run0_yes (k := k) hM h hl hr1 hr hn1 hn (by omega) k1 k2
  have hex := exact_all hM h hl hr1 hr hn1 hn (by omega) (show (2 : Int) ≤ k by omega) (show (k : Int) ≤ 62 by omega)
  have e : lst (xs.length / r) (fun m => wrapW (dec r (itF (bF r) n (fnOf xs)) m) k) = lst (xs.length / r) (fun m => dec r (itF (bF r) n (fnOf xs)) m) := lst_congr fun m hm => by
    have := hb (m * r + (r - 1))
    exact wrapW_in (by omega) (by unfold dec; rw [Int.toNat_natCast]; omega) (by unfold dec; rw [Int.toNat_natCast]; omega)
  rw [e] at hrun
  have hls := cSt_lens r k ⟨zeros n, zeros n, 0⟩ xs xs.length
  simp only [zeros_length] at hls
  exact ⟨_, _, exN xs r n, boxN r n, hrun, hex, b1, b2, b3, by rw [exN_eq]; exact lst_congr fun k _ => by rw [cv_box hr1], hs, exN_length _ _ _, dec_exN hr1 hr hs, lst_length _ _, hls.1, hls.2⟩
/-! ### A comb that spreads -/
theorem itF_add (op : (Nat → Int) → Nat → Int) (f : Nat → Int) (b : Nat) : ∀ a, itF op (a + b) f = itF op a (itF op b f)
  | 0 => by rw [Nat.zero_add]; rfl
  | a + 1 => by rw [show a + 1 + b = (a + b) + 1 by omega, itF, itF_add op f b a]; rfl
theorem oF_bd {f : Nat → Int} {a : Int} (ha : 0 ≤ a) (h : ∀ k, -a ≤ f k ∧ f k ≤ a) (r : Nat) : ∀ k, -(a * 2) ≤ oF r f k ∧ oF r f k ≤ a * 2 := fun k => by
  have h1 := h k
  have h2 := h (k - r)
  unfold oF shF
  split <;> omega
theorem itO_bd {f : Nat → Int} {a : Int} (ha : 0 ≤ a) (h : ∀ k, -a ≤ f k ∧ f k ≤ a) (r : Nat) : ∀ n : Nat, ∀ k, -(a * 2 ^ n) ≤ itF (oF r) n f k ∧ itF (oF r) n f k ≤ a * 2 ^ n
  | 0 => fun k => by have := h k; simp only [itF, Int.pow_zero]; omega
  | n + 1 => fun k => by
    have h1 := itO_bd ha h r n
    have h2 := oF_bd (Int.mul_nonneg ha (by have := two_pow_pos n; omega)) h1 r k
    rw [Int.pow_succ, ← Int.mul_assoc]
    exact h2
theorem sums_part {r n j : Nat} (hj : j ≤ n) (g : Nat → Int) : itF sF j (itF (oF r) n g) = itF (oF r) (n - j) (itF (bF r) j g) := by
  rw [itS_itO, itB, ← itF_add, show n - j + j = n by omega]
theorem stF_bd {f : Nat → Int} {a : Int} (ha : 0 ≤ a) (h : ∀ k, -a ≤ f k ∧ f k ≤ a) (r : Nat) : ∀ k, -a ≤ stF r f k ∧ stF r f k ≤ a := fun k => by
  have := h (k / r)
  unfold stF
  split <;> omega
theorem dFn_bd {f : Nat → Int} {a : Int} (ha : 0 ≤ a) (h : ∀ k, -a ≤ f k ∧ f k ≤ a) : ∀ n : Nat, ∀ k, -(a * 2 ^ n) ≤ dFn f n k ∧ dFn f n k ≤ a * 2 ^ n
  | 0 => fun k => by have := h k; simp only [dFn, Int.pow_zero]; omega
  | n + 1 => fun k => by
    have h1 := dFn_bd ha h n
    have hp : 0 ≤ a * 2 ^ n := Int.mul_nonneg ha (by have := two_pow_pos n; omega)
    have h2 := dF_bd h1 (by omega) hp k
    rw [Int.pow_succ, ← Int.mul_assoc, dFn]
    omega
theorem sum_stF {r : Nat} (hr : 1 ≤ r) (f : Nat → Int) : ∀ m, sumF (stF r f) m = sumF f ((m + r - 1) / r)
  | 0 => by rw [Nat.zero_add, Nat.div_eq_of_lt (by omega)]; rfl
  | m + 1 => by
    have hm := Nat.div_add_mod m r
    have e1 : (m + 1 + r - 1) / r = m / r + 1 := by rw [show m + 1 + r - 1 = m + r by omega, Nat.add_div_right _ (by omega)]
    rw [sumF, sum_stF hr f m, e1]
    by_cases h0 : m % r = 0
    · have e2 : (m + r - 1) / r = m / r := by
        have : m + r - 1 = r * (m / r) + (r - 1) := by omega
        rw [this, Nat.mul_add_div (by omega), Nat.div_eq_of_lt (by omega : r - 1 < r)]; rfl
      rw [e2, sumF]; unfold stF; rw [if_pos h0]
    · have e2 : (m + r - 1) / r = m / r + 1 := by
        have hlt := Nat.mod_lt m (show r > 0 by omega)
        have h3 : r * (m / r + 1) = r * (m / r) + r := by rw [Nat.mul_add, Nat.mul_one]
        have : m + r - 1 = r * (m / r + 1) + (m % r - 1) := by omega
        rw [this, Nat.mul_add_div (by omega), Nat.div_eq_of_lt (by omega : m % r - 1 < r)]
      rw [e2]; unfold stF; rw [if_neg h0]; omega
theorem box_stF {r : Nat} (hr : 1 ≤ r) (f : Nat → Int) (k : Nat) : bF r (stF r f) k = f (k / r) := by
  unfold bF
  rw [sum_stF hr, sum_stF hr, show k + 1 + r - 1 = k + r by omega, Nat.add_div_right _ (show 0 < r by omega)]
  by_cases h : r ≤ k + 1
  · rw [show k + 1 - r + r - 1 = k by omega, sumF]; omega
  · rw [show k + 1 - r + r - 1 = r - 1 by omega, Nat.div_eq_of_lt (show r - 1 < r by omega), Nat.div_eq_of_lt (show k < r by omega)]; first | done | simp [sumF]
/-- The exact value of a comb that spreads. -/
def sprL (xs : List Int) (r n : Nat) : List Int := lst (r * xs.length) (itF (bF r) n (stF r (fnOf xs)))
theorem stL_diff {xs : List Int} {r : Nat} (hr : 1 ≤ r) (n : Nat) : stL (diffN xs n) r = lst (r * xs.length) (stF r (dFn (fnOf xs) n)) := by
  unfold stL
  rw [diffN_length]
  refine lst_congr fun k hk => ?_
  unfold stF
  have : k / r < xs.length := Nat.div_lt_of_lt_mul hk
  rw [diffN_eq, fnOf_lst this]
theorem spread_all {xs : List Int} (h : ∀ x ∈ xs, -200 ≤ x ∧ x ≤ 200) (hl : xs.length ≤ 25) {r n k : Nat} (hr1 : 1 ≤ r) (hr : r ≤ 6) (hn1 : 1 ≤ n) (hn : n ≤ 4) (k1 : 2 ≤ k) (k2 : k ≤ 62) :
    spreadC n r k xs = (sprL xs r n, true) := by
  have hf := fnOf_bd (a := 200) (by omega) h
  have hrl : r * xs.length ≤ 150 := Nat.le_trans (Nat.mul_le_mul hr hl) (by omega)
  have hD : seqOk (diffN xs n) = true := by
    rw [diffN_eq]
    refine seq_lst (a := 200 * 16) (by omega) (by omega) fun k => ?_
    have b := dFn_bd (a := 200) (by omega) hf n k
    have h2 := two_pow_le n 4 hn
    have e4 : (2 : Int) ^ 4 = 16 := by decide
    omega
  have hd : diffOf xs n = (diffN xs n, true) := by
    rw [diffOf_yes (seqOk_of (fun x hx => by have := h x hx; omega) (by omega)) (by omega), doneOf_yes hD]
  have hst : stuff (diffN xs n) r = (stL (diffN xs n) r, true) := by
    rw [stuff_yes hD hr1 (by omega), doneOf_yes]
    exact seq_lst (a := 1099511627776) (by omega) (by rw [diffN_length]; omega) (stF_bd (by omega) (seq_fnOf hD) r)
  rw [spreadC_yes (comb_ok hn1 hn hr1 hr k1 k2) (by rw [hd]) (by rw [hd]; show (stuff (diffN xs n) r).2 = true; rw [hst]), hd]
  show integrals (stuff (diffN xs n) r).1 n = _
  rw [hst]
  show integrals (stL (diffN xs n) r) n = _
  have hlen : (stL (diffN xs n) r).length = r * xs.length := by rw [stL_length, diffN_length]
  have hval : ∀ j, intN (stL (diffN xs n) r) j = lst (r * xs.length) (itF sF j (stF r (dFn (fnOf xs) n))) := fun j => by
    rw [intN_eq, hlen]
    refine lst_congr fun k hk => itS_congr (n := r * xs.length) (fun i hi => ?_) j k hk
    rw [stL_diff hr1, fnOf_lst hi]
  have ok : intOkTo (stL (diffN xs n) r) n := fun j hj => by
    rw [hval]
    refine seq_lst (a := 200 * 1296 * 16) (by omega) (by omega) fun k => ?_
    rw [← itO_stF hr1, sums_part hj]
    have b1 := itB_bd (r := r) (show (0 : Int) ≤ 200 by omega) (stF_bd (by omega) hf r) j
    have hp := pow6 hr (show j ≤ 4 by omega)
    have e : (r : Int) ^ j = ((r ^ j : Nat) : Int) := by simp
    rw [e] at b1
    have b2 := itO_bd (f := itF (bF r) j (stF r (fnOf xs))) (a := 200 * 1296) (by omega) (fun k => by have := b1 k; omega) r (n - j) k
    have h2 := two_pow_le (n - j) 4 (by omega)
    have e4 : (2 : Int) ^ 4 = 16 := by decide
    have hp2 := two_pow_pos (n - j)
    omega
  rw [integrals_yes (by omega) ok, hval, spread_exact hr1]; rfl
theorem stuff_all {xs : List Int} (h : seqOk xs = true) {r : Nat} (hr1 : 1 ≤ r) (hr : r ≤ 100) (hl : r * xs.length ≤ 1000) : stuff xs r = (stL xs r, true) ∧ seqOk (stL xs r) = true := by
  have hs : seqOk (stL xs r) = true := seq_lst (a := 1099511627776) (by omega) hl (stF_bd (by omega) (seq_fnOf h) r)
  exact ⟨by rw [stuff_yes h hr1 hr, doneOf_yes hs], hs⟩
/-- .. is the convolution of what is stuffed with the coefficients of the box. -/
theorem spread_cv (xs : List Int) {r n : Nat} (hr1 : 1 ≤ r) : lst (stL xs r).length (cv (fnOf (boxN r n)) (fnOf (stL xs r))) = sprL xs r n := by
  rw [stL_length]
  unfold sprL
  refine lst_congr fun k hk => ?_
  rw [cv_box hr1]
  exact itB_congr (n := r * xs.length) r (fun i hi => by unfold stL; rw [fnOf_lst hi]) n k hk
structure Spr (xs : List Int) (n r k : Nat) (Y H S R Y1 : List Int) : Prop where
  y : spreadC n r k xs = (Y, true)
  s : stuff xs r = (S, true)
  h : boxes n r k = (H, true)
  lh : H.length ≤ 21
  bh : ∀ c ∈ H, -1000000 ≤ c ∧ c ≤ 1000000
  sS : seqOk S = true
  cv : Y = lst S.length (Proofs.Ytfplecbacgcjgaa.cv (fnOf H) (fnOf S))
  sY : seqOk Y = true
  y1 : spreadC 1 r k xs = (Y1, true)
  lY : Y.length = r * xs.length
  lS : S.length = r * xs.length
  l1 : Y1.length = r * xs.length
  one : ∀ i, i < r * xs.length → Y1.getD i 0 = xs.getD (i / r) 0
theorem sprL_length (xs : List Int) (r n : Nat) : (sprL xs r n).length = r * xs.length := lst_length _ _
/-- .. of the order 1 it repeats each element. -/
theorem spread_one (xs : List Int) {r : Nat} (hr1 : 1 ≤ r) {k : Nat} (hk : k < r * xs.length) : (sprL xs r 1).getD k 0 = xs.getD (k / r) 0 := by
  unfold sprL
  rw [lst_getD _ hk]
  exact box_stF hr1 _ _
theorem spr_all {xs : List Int} (h : ∀ x ∈ xs, -200 ≤ x ∧ x ≤ 200) (hl : xs.length ≤ 25) {r n k : Nat} (hr1 : 1 ≤ r) (hr : r ≤ 6) (hn1 : 1 ≤ n) (hn : n ≤ 4) (k1 : 2 ≤ k) (k2 : k ≤ 62) : ∃ Y H S R Y1, Spr xs n r k Y H S R Y1 := by
  have hrl : r * xs.length ≤ 150 := Nat.le_trans (Nat.mul_le_mul hr hl) (by omega)
  have hs : seqOk xs = true := seqOk_of (fun x hx => by have := h x hx; omega) (by omega)
  obtain ⟨b1, b2, b3⟩ := boxes_small (k := (k : Int)) hn1 hn hr1 hr (by omega) (by omega)
  obtain ⟨s1, s2⟩ := stuff_all hs hr1 (by omega) (by omega)
  have hY : seqOk (sprL xs r n) = true := by
    have hf := fnOf_bd (a := 200) (by omega) h
    refine seq_lst (a := 200 * 1296) (by omega) (by omega) fun i => ?_
    have b := itB_bd (r := r) (show (0 : Int) ≤ 200 by omega) (stF_bd (by omega) hf r) n i
    have hp := pow6 hr hn
    have e : (r : Int) ^ n = ((r ^ n : Nat) : Int) := by simp
    rw [e] at b
    omega
  exact ⟨_, _, _, [], _, spread_all h hl hr1 hr hn1 hn k1 k2, s1, b1, b2, b3, s2, (spread_cv xs hr1).symm, hY, by have := spread_all (n := 1) h hl hr1 hr (by omega) (by omega) k1 k2; simpa using this, sprL_length _ _ _, stL_length _ _, sprL_length _ _ _, fun i hi => spread_one xs hr1 hi⟩
end Go.Proofs.Ytfplecbacgcjgaa
