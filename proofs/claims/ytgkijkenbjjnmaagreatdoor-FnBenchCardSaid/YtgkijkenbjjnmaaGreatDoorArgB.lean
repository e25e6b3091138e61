import Derived.Test.YtgkijkenbjjnmaaGreatDoorGen
import Derived.Test.YtgkijkenbjjnmaaGreatDoorMat
import Derived.Test.YtgkijkenbjjnmaaGreatDoorBase
import Derived.Test.YtgkijkenbjjnmaaGreatDoorCopy
import Derived.Test.YtgkijkenbjjnmaaGreatDoorPComb
import Derived.Deep.RegionHeld3
/- How an argument that is a slice of bytes is opened. -/
namespace Go.Proofs.YtgkijkenbjjnmaaGreatDoor
open Go.RowKit
set_option linter.unusedVariables false
set_option linter.unusedSimpArgs false
section
open Go.ChangeShapes Go.WideShapes Go.Joins Go.Deep
variable {H : Type} {enc : TypeId × Value → H} {P : Program} {w : World} {base : Nat} {spare : Nat → Bool} {held : Bool}
theorem wf_u8 {n : Int} (h : (Lit.int .u8 n).wf = true) : 0 ≤ n ∧ n ≤ 255 := by
  have e1 : IntKind.u8.min = 0 := by decide
  have e2 : IntKind.u8.max = 255 := by decide
  simp [Lit.wf, e1, e2] at h
  omega
theorem arg_bytes {r : Reach} {b0 : Nat} {t e : TypeId} {v : Value} {d : DataW H} {ps : List MemPlace} (ht : P.underlying t = some (.slice e)) (he : P.underlying e = some (.int .u8)) (hc : P.cellsOf e = 1)
    (hval : Value.okWide P w r b0 t v) (hd : DataW.Trod enc P w base spare held t v d ps) :
    ∃ A n c, v = .slice A n c ∧ n ≤ c ∧ c ≤ maxLen ∧ RdB w w.heap.size A n := by
  obtain ⟨a, l, c, rfl⟩ := okWide_slice ht hval
  obtain ⟨n, hn⟩ := trod_of_Trod hd rfl
  rcases open_ints ht he hc hn with ⟨hcs, _⟩ | ⟨x, l, c, zs, hcs, _, hl, hm, hz, _, hcell, hwz⟩
  · simp at hcs
    obtain ⟨rfl, rfl, rfl⟩ := hcs
    exact ⟨none, 0, 0, rfl, by simp, by simp [maxLen], fun h => absurd h (by simp)⟩
  · simp at hcs
    obtain ⟨rfl, rfl, rfl⟩ := hcs
    have hlz : l ≤ zs.length := by rw [hz]; split <;> omega
    refine ⟨some x, l, c, rfl, hl, hm, fun h0 => ?_⟩
    have hb : ∀ j, j < l → ∃ v : Int, 0 ≤ v ∧ v ≤ 255 ∧ w.cell? (x.add j) = some (.int .u8 v) := fun j hj => by
      have hj' : j < zs.length := by omega
      have := wf_u8 (hwz zs[j] (List.getElem_mem hj'))
      exact ⟨zs[j], this.1, this.2, by rw [hcell j hj']; simp [List.getD, hj']⟩
    refine ⟨x, rfl, ?_, hb⟩
    obtain ⟨v, _, _, hv⟩ := hb 0 h0
    have := World.block_lt_of_cell? w _ hv
    rwa [block_add] at this
end
end Go.Proofs.YtgkijkenbjjnmaaGreatDoor

/- Plain laws of the states of an accumulator with a constant input, and of its cycle. No program. -/
namespace Go.Proofs.YtgkijkenbjjnmaaGreatDoor
open Go.RowKit
set_option linter.unusedVariables false
set_option linter.unusedSimpArgs false
/-- The rests behind k steps with the input x. -/
def stN (m : Int) (s : List Int) (x : Int) : Nat → List Int
  | 0 => s
  | k + 1 => stepN m (stN m s x k) x
theorem stN_length (m : Int) (s : List Int) (x : Int) : ∀ k, (stN m s x k).length = s.length
  | 0 => rfl
  | k + 1 => by rw [stN, stepN_length, stN_length m s x k]
theorem stN_pred {m : Int} {s : List Int} {x : Int} {k : Nat} (h : 1 ≤ k) : stepN m (stN m s x (k - 1)) x = stN m s x k := by
  obtain ⟨j, rfl⟩ : ∃ j, k = j + 1 := ⟨k - 1, by omega⟩
  rfl
theorem stN_rests {m : Int} {s : List Int} {x : Int} (hm : 2 ≤ m) (h : Rests m s) (hx : 0 ≤ x ∧ x < m) : ∀ k, Rests m (stN m s x k)
  | 0 => h
  | k + 1 => stepN_rests hm (stN_rests hm h hx k) hx
/-- The first of f tries from n on at which the rests are s again. -/
def cycFrom (m : Int) (s : List Int) (x : Int) : Nat → Nat → Int × Bool
  | 0, _ => (0, false)
  | f + 1, n => if eqB (stN m s x n) s then ((n : Int), true) else cycFrom m s x f (n + 1)
def cycOk (o m : Int) (s : List Int) (x most : Int) : Bool := stepOk o m s x && inB most 0 20000
def cycle (o m : Int) (s : List Int) (x most : Int) : Int × Bool := if cycOk o m s x most then cycFrom m s x most.toNat 1 else (0, false)
theorem cycle_yes {o m : Int} {s : List Int} {x : Int} {n : Nat} (h : stepOk o m s x = true) (hn : n ≤ 20000) : cycle o m s x n = cycFrom m s x n 1 := by
  have e : cycOk o m s x n = true := by simp only [cycOk, h, Bool.true_and]; exact inB_true (by omega) (by omega)
  simp [cycle, e]
theorem cycle_no {o m : Int} {s : List Int} {x most : Int} (h : cycOk o m s x most = false) : cycle o m s x most = (0, false) := by simp [cycle, h]
theorem cyc_hit {m : Int} {s : List Int} {x : Int} {n k : Nat} (hk : k ≤ n) (h1 : 1 ≤ k) (h : eqB (stN m s x k) s = true) : cycFrom m s x (n + 1 - k) k = ((k : Int), true) := by
  rw [show n + 1 - k = (n - k) + 1 by omega, cycFrom, if_pos h]
theorem cyc_miss {m : Int} {s : List Int} {x : Int} {n k : Nat} (hk : k ≤ n) (h1 : 1 ≤ k) (h : eqB (stN m s x k) s = false) : cycFrom m s x (n + 1 - k) k = cycFrom m s x (n + 1 - (k + 1)) (k + 1) := by
  rw [show n + 1 - k = (n - k) + 1 by omega, cycFrom, if_neg (by simp [h])]
  congr 1
  omega
theorem cyc_end (m : Int) (s : List Int) (x : Int) (n : Nat) : cycFrom m s x (n + 1 - (n + 1)) (n + 1) = (0, false) := by rw [Nat.sub_self]; rfl
end Go.Proofs.YtgkijkenbjjnmaaGreatDoor

/- Contracts of the two LevelsOf. -/
namespace Go.Proofs.YtgkijkenbjjnmaaGreatDoor
open Go.RowKit
set_option linter.unusedVariables false
set_option linter.unusedSimpArgs false
def neg0 (c : Int) : Int := min c 0
def pos0 (c : Int) : Int := max c 0
def levs : Nat → Int × Int
  | 0 => (0, 0)
  | n + 1 => ((levs n).1 + ((coefs n).map neg0).sum, (levs n).2 + ((coefs n).map pos0).sum)
def levels (o m : Int) : Int × Int := if accOk o m then levs o.toNat else (0, 0)
theorem coefs_small (j : Nat) (h : j ≤ 6) : ∀ c ∈ coefs j, -64 ≤ c ∧ c ≤ 64 := by
  have : j = 0 ∨ j = 1 ∨ j = 2 ∨ j = 3 ∨ j = 4 ∨ j = 5 ∨ j = 6 := by omega
  rcases this with rfl | rfl | rfl | rfl | rfl | rfl | rfl <;> decide
theorem levs_small (j : Nat) (h : j ≤ 6) : -64 ≤ (levs j).1 ∧ (levs j).1 ≤ 64 ∧ -64 ≤ (levs j).2 ∧ (levs j).2 ≤ 64 := by
  have : j = 0 ∨ j = 1 ∨ j = 2 ∨ j = 3 ∨ j = 4 ∨ j = 5 ∨ j = 6 := by omega
  rcases this with rfl | rfl | rfl | rfl | rfl | rfl | rfl <;> decide
theorem negTo_bd (j : Nat) (h : j ≤ 6) (k : Nat) (hk : k ≤ (coefs j).length) : -448 ≤ sumTo neg0 (coefs j) k ∧ sumTo neg0 (coefs j) k ≤ 0 := by
  have h1 := sumTo_bd neg0 (coefs j) (-64) 0 (fun x hx => by have := coefs_small j h x hx; unfold neg0; omega) k hk
  rw [coefs_length] at hk
  omega
theorem posTo_bd (j : Nat) (h : j ≤ 6) (k : Nat) (hk : k ≤ (coefs j).length) : 0 ≤ sumTo pos0 (coefs j) k ∧ sumTo pos0 (coefs j) k ≤ 448 := by
  have h1 := sumTo_bd pos0 (coefs j) 0 64 (fun x hx => by have := coefs_small j h x hx; unfold pos0; omega) k hk
  rw [coefs_length] at hk
  omega
theorem levs_step (j : Nat) : levs (j + 1) = ((levs j).1 + sumTo neg0 (coefs j) (coefs j).length, (levs j).2 + sumTo pos0 (coefs j) (coefs j).length) := by
  rw [sumTo_all, sumTo_all]; rfl
def RetII (w : World) (x : Int × Int) (e : Ending) (w' : World) : Prop := e = .returned (.tuple #[.int .i64 x.1, .int .i64 x.2]) ∧ Below w.heap.size w w'
end Go.Proofs.YtgkijkenbjjnmaaGreatDoor

/- Plain laws: runs with a constant input, the least and the greatest output. No program is walked. -/
namespace Go.Proofs.YtgkijkenbjjnmaaGreatDoor
open Go.RowKit
set_option linter.unusedVariables false
set_option linter.unusedSimpArgs false
theorem stX_const (m : Int) (s : List Int) (v : Int) (n : Nat) : ∀ k, k ≤ n → stX m s (List.replicate n v) k = stN m s v k
  | 0, _ => rfl
  | k + 1, h => by rw [stX, stN, stX_const m s v n k (by omega), const_getD (by omega)]
/-- What a cycle that is found says. -/
theorem cyc_some {m : Int} {s : List Int} {x : Int} {n : Int} : ∀ f a, cycFrom m s x f a = (n, true) → ∃ k : Nat, n = k ∧ a ≤ k ∧ k < a + f ∧ eqB (stN m s x k) s = true ∧ ∀ j, a ≤ j → j < k → eqB (stN m s x j) s = false
  | 0, a, h => by simp [cycFrom] at h
  | f + 1, a, h => by
    rw [cycFrom] at h
    rcases Bool.eq_false_or_eq_true (eqB (stN m s x a) s) with e | e
    · rw [if_pos e] at h
      injection h with h
      exact ⟨a, h.symm, Nat.le_refl _, by omega, e, fun j h1 h2 => by omega⟩
    · rw [if_neg (by simp [e])] at h
      obtain ⟨k, h1, h2, h3, h4, h5⟩ := cyc_some f (a + 1) h
      refine ⟨k, h1, by omega, by omega, h4, fun j h6 h7 => ?_⟩
      by_cases hj : j = a
      · subst hj; exact e
      · exact h5 j (by omega) h7
theorem dFn_bit {f : Nat → Int} (h : ∀ k, 0 ≤ f k ∧ f k ≤ 1) : (∀ k, -1 ≤ dFn f 1 k ∧ dFn f 1 k ≤ 1) ∧ (∀ k, -2 ≤ dFn f 2 k ∧ dFn f 2 k ≤ 2) ∧ ∀ k, -4 ≤ dFn f 3 k ∧ dFn f 3 k ≤ 4 := by
  have h1 := dF_bd (f := f) (a := 0) (b := 1) h (by omega) (by omega)
  have h2 := dF_bd (f := dF f) (a := -1) (b := 1) (fun k => by have := h1 k; omega) (by omega) (by omega)
  have h3 := dF_bd (f := dF (dF f)) (a := -2) (b := 2) (fun k => by have := h2 k; omega) (by omega) (by omega)
  exact ⟨fun k => by have := h1 k; simp only [dFn]; omega, fun k => by have := h2 k; simp only [dFn]; omega, fun k => by have := h3 k; simp only [dFn]; omega⟩
theorem combF_bd {g : Nat → Nat → Int} (h : ∀ i k, 0 ≤ g i k ∧ g i k ≤ 1) {o : Nat} (h1 : 1 ≤ o) (h2 : o ≤ 4) (k : Nat) : (levs o).1 ≤ combF g o k ∧ combF g o k ≤ (levs o).2 := by
  have b0 := h 0 k
  have b1 := (dFn_bit (h 1)).1 k
  have b2 := (dFn_bit (h 2)).2.1 k
  have b3 := (dFn_bit (h 3)).2.2 k
  have e1 : levs 1 = (0, 1) := by decide
  have e2 : levs 2 = (-1, 2) := by decide
  have e3 : levs 3 = (-3, 4) := by decide
  have e4 : levs 4 = (-7, 8) := by decide
  have : o = 1 ∨ o = 2 ∨ o = 3 ∨ o = 4 := by omega
  rcases this with rfl | rfl | rfl | rfl
  · rw [e1]; simp only [combF, dFn]; omega
  · rw [e2]; simp only [combF]; rw [show dFn (g 0) 0 k = g 0 k from rfl]; omega
  · rw [e3]; simp only [combF]; rw [show dFn (g 0) 0 k = g 0 k from rfl]; omega
  · rw [e4]; simp only [combF]; rw [show dFn (g 0) 0 k = g 0 k from rfl]; omega
end Go.Proofs.YtgkijkenbjjnmaaGreatDoor

/- Contracts of the two PowerOf and of SumOf. -/
namespace Go.Proofs.YtgkijkenbjjnmaaGreatDoor
open Go.RowKit
set_option linter.unusedVariables false
set_option linter.unusedSimpArgs false
def sqr (v : Int) : Int := v * v
def smallB (v : Int) : Bool := inB v (-10000000) 10000000
def power (xs : List Int) : Int × Bool := if seqOk xs && xs.all smallB then ((xs.map sqr).sum, true) else (0, false)
def RetIB (w : World) (x : Int × Bool) (e : Ending) (w' : World) : Prop := e = .returned (.tuple #[.int .i64 x.1, .bool x.2]) ∧ Below w.heap.size w w'
theorem power_noSeq {xs : List Int} (h : seqOk xs = false) : power xs = (0, false) := by simp [power, h]
theorem power_no {xs : List Int} {k : Nat} (hk : k < xs.length) (h : smallB xs[k] = false) : power xs = (0, false) := by simp [power, all_no hk h]
theorem power_end {xs : List Int} (h : seqOk xs = true) (ha : AllTo smallB xs xs.length) : power xs = (sumTo sqr xs xs.length, true) := by
  simp [power, h, allTo_end ha, sumTo_all]
theorem small_of {v : Int} (h : smallB v = true) : 0 ≤ v * v ∧ v * v ≤ 100000000000000 := by
  obtain ⟨h1, h2⟩ := inB_of h
  have := sq_bd (b := 10000000) h1 h2
  omega
theorem sqTo_bd {xs : List Int} {k : Nat} (ha : AllTo smallB xs k) (hk : k ≤ xs.length) : 0 ≤ sumTo sqr xs k ∧ sumTo sqr xs k ≤ 100000000000000 * k := by
  have e : sumTo sqr xs k = sumTo sqr (xs.take k) k := by simp [sumTo, List.take_take]
  have := sumTo_bd sqr (xs.take k) 0 100000000000000 (fun x hx => small_of (List.all_eq_true.1 ha x hx)) k (by rw [List.length_take]; omega)
  rw [e]; omega
set_option maxHeartbeats 400000 in
theorem implPowerOf_any (A : Option Addr) (c : Nat) (xs : List Int) (w : World) (hr : Rd w w.heap.size A xs) (hn : xs.length ≤ 9223372036854775807) :
    Calls Tryz.prog 99 #[.slice A xs.length c] w (RetIB w (power xs)) := by
  rcases Bool.eq_false_or_eq_true (seqOk xs) with hs | hs
  · have hlen := seqOk_len hs
    go_enter Tryz.func99, Tryz.ntmps99
    go_wp2_with (go_at_call 49; refine (implIsSequence_any _ _ _ _ hr hn).mono ?_; rintro e w' ⟨rfl, rfl⟩)
    go_loop [4, 12] (fun q i => ∃ k : Nat, k ≤ xs.length ∧ i = .int .i64 k ∧ AllTo smallB xs k ∧ q = .int .i64 (sumTo sqr xs k)) (fun _ i => xs.length - (intOf i).toNat)
    case atStart => exact ⟨0, by omega, rfl, allTo_zero _ _, by simp [sumTo_zero]⟩
    case round =>
      obtain ⟨k, hk, rfl, ha, rfl⟩ := hrel
      by_cases hlt : k < xs.length
      · obtain ⟨ad, rfl, hbl, hcell⟩ := hr.at_ hlt
        have hc1 := hcell k hlt
        have b1 := sqTo_bd ha (by omega)
        clear hr hcell
        have hsn := Lib.hid (sumTo_succ sqr xs hlt)
        rcases Bool.eq_false_or_eq_true (smallB xs[k]) with hv | hv
        · have b2 := small_of hv
          obtain ⟨b3, b4⟩ := inB_of hv
          go_wp2
          go_round
          case rel => exact ⟨k + 1, by omega, by go_num, allTo_step ha hlt hv, by rw [hsn.out]; rfl⟩
          case measure => simp [intOf]; omega
        · have b3 : xs[k] < -10000000 ∨ 10000000 < xs[k] := by
            simp [smallB, inB] at hv; omega
          go_wp2
          all_goals first
            | (exfalso; omega)
            | (go_ret2; exact ⟨by rw [power_no hlt hv]; rfl, Below.refl _ _⟩)
      · obtain rfl : k = xs.length := by omega
        have E := Lib.hid (power_end hs ha)
        go_wp2
        go_ret2
        exact ⟨by rw [E.out]; rfl, Below.refl _ _⟩
  · go_enter Tryz.func99, Tryz.ntmps99
    go_wp2_with (go_at_call 49; refine (implIsSequence_any _ _ _ _ hr hn).mono ?_; rintro e w' ⟨rfl, rfl⟩)
    go_ret2
    exact ⟨by rw [power_noSeq hs]; rfl, Below.refl _ _⟩
set_option maxHeartbeats 400000 in
theorem specPowerOf_any (A : Option Addr) (c : Nat) (xs : List Int) (w : World) (hr : Rd w w.heap.size A xs) (hn : xs.length ≤ 9223372036854775807) :
    Calls Tryz.prog 118 #[.slice A xs.length c] w (RetIB w (power xs)) := by
  rcases Bool.eq_false_or_eq_true (seqOk xs) with hs | hs
  · have hlen := seqOk_len hs
    go_enter Tryz.func118, Tryz.ntmps118
    go_wp2_with (go_at_call 58; refine (specIsSequence_any _ _ _ _ hr hn).mono ?_; rintro e w' ⟨rfl, rfl⟩)
    go_loop [4, 12] (fun q i => ∃ k : Nat, k ≤ xs.length ∧ i = .int .i64 k ∧ AllTo smallB xs k ∧ q = .int .i64 (sumTo sqr xs k)) (fun _ i => xs.length - (intOf i).toNat)
    case atStart => exact ⟨0, by omega, rfl, allTo_zero _ _, by simp [sumTo_zero]⟩
    case round =>
      obtain ⟨k, hk, rfl, ha, rfl⟩ := hrel
      by_cases hlt : k < xs.length
      · obtain ⟨ad, rfl, hbl, hcell⟩ := hr.at_ hlt
        have hc1 := hcell k hlt
        have b1 := sqTo_bd ha (by omega)
        clear hr hcell
        have hsn := Lib.hid (sumTo_succ sqr xs hlt)
        rcases Bool.eq_false_or_eq_true (inB xs[k] (-10000000) 10000000) with hv | hv
        · have b2 := small_of hv
          go_wp2_with (go_at_call 108; refine (l1In_any _ _ _ _).mono ?_; rintro e w' ⟨rfl, rfl⟩)
          go_round
          case rel => exact ⟨k + 1, by omega, by go_num, allTo_step ha hlt hv, by rw [hsn.out]; rfl⟩
          case measure => simp [intOf]; omega
        · go_wp2_with (go_at_call 108; refine (l1In_any _ _ _ _).mono ?_; rintro e w' ⟨rfl, rfl⟩)
          go_ret2
          exact ⟨by rw [power_no hlt hv]; rfl, Below.refl _ _⟩
      · obtain rfl : k = xs.length := by omega
        have E := Lib.hid (power_end hs ha)
        go_wp2
        go_ret2
        exact ⟨by rw [E.out]; rfl, Below.refl _ _⟩
  · go_enter Tryz.func118, Tryz.ntmps118
    go_wp2_with (go_at_call 58; refine (specIsSequence_any _ _ _ _ hr hn).mono ?_; rintro e w' ⟨rfl, rfl⟩)
    go_ret2
    exact ⟨by rw [power_noSeq hs]; rfl, Below.refl _ _⟩
def seqSum (xs : List Int) : Int := if seqOk xs then xs.sum else 0
theorem sum_id (xs : List Int) : sumTo (fun v => v) xs xs.length = xs.sum := by rw [sumTo_all]; simp
set_option maxHeartbeats 400000 in
theorem implSumOf_any (A : Option Addr) (c : Nat) (xs : List Int) (w : World) (hr : Rd w w.heap.size A xs) (hn : xs.length ≤ 9223372036854775807) :
    Calls Tryz.prog 98 #[.slice A xs.length c] w fun e w' => e = .returned (.int .i64 (seqSum xs)) ∧ w = w' := by
  rcases Bool.eq_false_or_eq_true (seqOk xs) with hs | hs
  · have hlen := seqOk_len hs
    go_enter Tryz.func98, Tryz.ntmps98
    go_wp2_with (go_at_call 49; refine (implIsSequence_any _ _ _ _ hr hn).mono ?_; rintro e w' ⟨rfl, rfl⟩)
    go_loop [3, 11] (fun q i => ∃ k : Nat, k ≤ xs.length ∧ i = .int .i64 k ∧ q = .int .i64 (sumTo (fun v => v) xs k)) (fun _ i => xs.length - (intOf i).toNat)
    case atStart => exact ⟨0, by omega, rfl, by simp [sumTo_zero]⟩
    case round =>
      obtain ⟨k, hk, rfl, rfl⟩ := hrel
      by_cases hlt : k < xs.length
      · obtain ⟨ad, rfl, hbl, hcell⟩ := hr.at_ hlt
        have hc1 := hcell k hlt
        have b1 := sumTo_bd (fun v => v) xs (-1099511627776) 1099511627776 (seqOk_mem hs) k hk
        have b2 := seqOk_at hs hlt
        clear hr hcell
        have hsn := Lib.hid (sumTo_succ (fun v => v) xs hlt)
        go_wp2
        go_round
        case rel => exact ⟨k + 1, by omega, by go_num, by rw [hsn.out]⟩
        case measure => simp [intOf]; omega
      · obtain rfl : k = xs.length := by omega
        have E := Lib.hid (show seqSum xs = sumTo (fun v => v) xs xs.length by rw [sum_id]; simp [seqSum, hs])
        go_wp2
        go_ret
        exact ⟨by rw [E.out]; rfl, rfl⟩
  · go_enter Tryz.func98, Tryz.ntmps98
    go_wp2_with (go_at_call 49; refine (implIsSequence_any _ _ _ _ hr hn).mono ?_; rintro e w' ⟨rfl, rfl⟩)
    go_ret
    exact ⟨ret_int (by simp [seqSum, hs]), rfl⟩
end Go.Proofs.YtgkijkenbjjnmaaGreatDoor

/- Contracts for the laws on accumulators, in their words: a run, a step and the rests of a state that is valid. -/
namespace Go.Proofs.YtgkijkenbjjnmaaGreatDoor
open Go.RowKit
set_option linter.unusedVariables false
set_option linter.unusedSimpArgs false
theorem restsOk_of {m : Int} {s : List Int} {n : Nat} (hn : s.length = n) (h : Rests m s) (h1 : 1 ≤ n) (h2 : n ≤ 6) (m1 : 2 ≤ m) (m2 : m ≤ 1048576) : restsOk n m s = true := by
  have e : accOk n m = true := by simp only [accOk, inB_true (show (1 : Int) ≤ n by omega) (show (n : Int) ≤ 6 by omega), inB_true m1 m2, Bool.and_self]
  simp only [restsOk, e, rests_all h, Bool.true_and, Bool.and_true, decide_eq_true_eq]
  omega
theorem runOk_of {m : Int} {s xs : List Int} {n : Nat} (hn : s.length = n) (h : Rests m s) (h1 : 1 ≤ n) (h2 : n ≤ 6) (m1 : 2 ≤ m) (m2 : m ≤ 1048576) (hx : Rests m xs) (hl : xs.length ≤ 1000) : runOk n m s xs = true := by
  simp only [runOk, restsOk_of hn h h1 h2 m1 m2, rests_all hx, Bool.true_and, decide_eq_true_eq]
  omega
def RetRunY (n k : Nat) (m : Int) (s xs : List Int) (w : World) (e : Ending) (w' : World) : Prop :=
  ∃ A c rs A1 c1 A2 c2, e = .returned (.tuple #[.slice A n c, .slice A1 k c1, .slice A2 n c2, .bool true]) ∧ (rs : List Rw).length = n ∧ lists rs = cRows m s xs n k ∧ OwnM w' w.heap.size A c rs ∧ Own w' w.heap.size A1 c1 (combTo k (cRows m s xs n k) n) ∧ Own w' w.heap.size A2 c2 (stX m s xs k) ∧ Below w.heap.size w w'
def RetStepY (n : Nat) (m : Int) (s : List Int) (x : Int) (w : World) (e : Ending) (w' : World) : Prop :=
  ∃ A1 c1 A2 c2, e = .returned (.tuple #[.slice A1 n c1, .slice A2 n c2, .bool true]) ∧ Own w' w.heap.size A1 c1 (stepC m s x) ∧ Own w' w.heap.size A2 c2 (stepN m s x) ∧ Below w.heap.size w w'
def RetRestY (k : Nat) (m : Int) (s xs : List Int) (w : World) (e : Ending) (w' : World) : Prop :=
  ∃ A c, e = .returned (.tuple #[.slice A k c, .bool true]) ∧ Own w' w.heap.size A c (restL m s xs k) ∧ Below w.heap.size w w'
theorem ints_same (A A' : Option Addr) (c c' : Nat) (xs : List Int) (n : Nat) (w : World) (hx : Rd w w.heap.size A xs) (hy : Rd w w.heap.size A' xs) (hl : xs.length = n) (hn : n ≤ 1048576) :
    Calls Tryz.prog 16 #[.slice A n c, .slice A' n c'] w fun e w' => e = .returned (.bool true) ∧ Below w.heap.size w w' := by
  subst hl
  have h := ints_any A A' c c' xs xs w hx hy (by omega)
  rwa [eqB_self] at h
theorem addlt {w : World} {a : Addr} {j : Nat} {v : Value} (h : w.cell? (a.add j) = some v) : a.block < w.heap.size := by
  have := World.block_lt_of_cell? w _ h
  rwa [block_add] at this
theorem seq_in {m : Int} {xs : List Int} (h : Rests m xs) (hm : m ≤ 1048576) (hl : xs.length ≤ 1000) : seqOk xs = true :=
  seqOk_of (fun x hx => by have := h x hx; omega) hl
set_option maxHeartbeats 400000 in
theorem ints_draws (A A' : Option Addr) (c c' n : Nat) (xs : List Int) (w : World) (hx : Rd w w.heap.size A xs) (hy : Rd w w.heap.size A' xs) (hl : xs.length = n) (hn : xs.length ≤ 9223372036854775807) :
    Calls Tryz.prog 16 #[.slice A n c, .slice A' n c'] w fun e w' => e = .returned (.bool true) ∧ ∃ m, w' = w.drewN m := by
  subst hl
  have hd : (((xs.length : Nat) : Int) != ((xs.length : Nat) : Int)) = false := by simp
  go_enter Tryz.func16, Tryz.ntmps16
  go_wp2
  go_loopw [13] (fun i wr => ∃ k : Nat, k ≤ xs.length ∧ i = .int .i64 k ∧ Hid (∃ m, wr = w.drewN m)) (fun i _ => xs.length - (intOf i).toNat)
  case atStart => exact ⟨0, by omega, rfl, 0, rfl⟩
  case round =>
    obtain ⟨k, hk, rfl, HD⟩ := hrel
    have hd' : ∀ p, wr.cell? p = w.cell? p := by obtain ⟨m, hm⟩ := HD.out; subst hm; exact fun _ => rfl
    by_cases hlt : k < xs.length
    · obtain ⟨ad, rfl, hbl, hcell⟩ := hx.at_ hlt
      obtain ⟨ad', rfl, hbl', hcell'⟩ := hy.at_ (k := k) (by omega)
      have hc1 : wr.cell? (ad.add k) = some (.int .i64 (xs.getD k 0)) := (hd' _).trans (hcell k hlt)
      have hc2 : wr.cell? (ad'.add k) = some (.int .i64 (xs.getD k 0)) := (hd' _).trans (hcell' k (by omega))
      have hne : (xs[k] != xs[k]) = false := by simp
      clear hx hy hcell hcell' hd'
      go_wp2
      go_quiet (fail)
      go_wp2
      go_roundw
      case rel => exact ⟨k + 1, by omega, by go_num, by obtain ⟨m, rfl⟩ := HD.out; exact ⟨_, World.drewN_drewN ..⟩⟩
      case measure => simp [intOf]; omega
    · go_wp2
      go_ret
      exact ⟨rfl, HD.out⟩
theorem sumOf_yes (A : Option Addr) (c n : Nat) (xs : List Int) (w : World) (hr : Rd w w.heap.size A xs) (hl : xs.length = n) (hs : seqOk xs = true) :
    Calls Tryz.prog 98 #[.slice A n c] w fun e w' => e = .returned (.int .i64 xs.sum) ∧ w = w' := by
  subst hl
  have h := implSumOf_any A c xs w hr (by have := seqOk_len hs; omega)
  rwa [show seqSum xs = xs.sum by simp [seqSum, hs]] at h
theorem sumOf_quiet (A : Option Addr) (c n : Nat) (xs : List Int) (w : World) (hr : Rd w w.heap.size A xs) (hl : xs.length = n) (hs : seqOk xs = true) (k : Nat) :
    Calls Tryz.prog 98 #[.slice A n c] (w.drewN k) fun e w' => e = .returned (.int .i64 xs.sum) ∧ ∃ m, w' = w.drewN m :=
  (sumOf_yes A c n xs (w.drewN k) (rd_drew hr k) hl hs).mono fun e w' ⟨he, hw⟩ => ⟨he, k, hw.symm⟩
theorem ints_quiet (A A' : Option Addr) (c c' n : Nat) (xs : List Int) (w : World) (hx : Rd w w.heap.size A xs) (hy : Rd w w.heap.size A' xs) (hl : xs.length = n) (hn : xs.length ≤ 9223372036854775807) (k : Nat) :
    Calls Tryz.prog 16 #[.slice A n c, .slice A' n c'] (w.drewN k) fun e w' => e = .returned (.bool true) ∧ ∃ m, w' = w.drewN m :=
  (ints_draws A A' c c' n xs (w.drewN k) (rd_drew hx k) (rd_drew hy k) hl hn).mono fun e w' ⟨he, m, hw⟩ => ⟨he, k + m, hw.trans (World.drewN_drewN ..)⟩
theorem rd_take {w : World} {B : Nat} {A : Option Addr} {xs : List Int} (h : Rd w B A xs) (i : Nat) : Rd w B A (xs.take i) := fun h0 => by
  have hl : (xs.take i).length ≤ xs.length := by rw [List.length_take]; omega
  obtain ⟨ad, e, hb, hc⟩ := h (by omega)
  refine ⟨ad, e, hb, fun j hj => ?_⟩
  rw [hc j (by omega)]
  have : j < i := by rw [List.length_take] at hj; omega
  simp [List.getD, List.getElem?_take, this]
theorem stages_sum {m : Int} {s x : List Int} {i : Nat} (h0 : 0 < i) (h : i < s.length) : m * (crow m s x i x.length).sum = (restL m (s.take i) x x.length).sum + s.getD i 0 - (stX m s x x.length).getD i 0 := by
  have h1 := stage_sum m s x h x.length
  rw [crow_lst, lst_sum, restL_pre m s x h0 h, lst_sum, h1]; rfl
theorem stage0_sum {m : Int} {s x : List Int} (h : 0 < s.length) : m * (crow m s x 0 x.length).sum = x.sum + s.getD 0 0 - (stX m s x x.length).getD 0 0 := by
  have h1 := stage_sum m s x h x.length
  rw [crow_lst, lst_sum, h1, sum_inp_zero]; rfl
theorem rests_sum {m : Int} {xs : List Int} (h : Rests m xs) (hm : 0 ≤ m) : 0 ≤ xs.sum ∧ xs.sum ≤ m * xs.length := by
  induction xs with
  | nil => simp
  | cons x xs ih =>
    have h1 := h x (List.mem_cons_self ..)
    have h2 := ih fun y hy => h y (List.mem_cons_of_mem _ hy)
    rw [List.sum_cons, List.length_cons, Int.natCast_add, Int.mul_add]
    simp
    omega
theorem addz (g i : Nat) : (⟨g, 0, none⟩ : Addr).add i = ⟨g, i, none⟩ := by
  unfold Addr.add
  split
  · rename_i h; subst h; rfl
  · simp
/-- Row i of a run. -/
theorem run_row {rs : List Rw} {m : Int} {s xs : List Int} {n k i : Nat} (e : lists rs = cRows m s xs n k) (hi : i < n) (hl : i < rs.length) : rs[i].xs = crow m s xs i k := at_row e (cRows_at m s xs hi) hl
theorem run_rowLen {rs : List Rw} {m : Int} {s xs : List Int} {n k i : Nat} (e : lists rs = cRows m s xs n k) (hi : i < n) (hl : i < rs.length) : rs[i].xs.length = k := by rw [run_row e hi hl, crow_length]
theorem rests_app {m : Int} {xs ys : List Int} (h : Rests m xs) (h' : Rests m ys) : Rests m (xs ++ ys) := fun v hv => by
  rw [List.mem_append] at hv
  exact hv.elim (h v) (h' v)
theorem rests_take {m : Int} {xs : List Int} (h : Rests m xs) (i : Nat) : Rests m (xs.take i) := fun v hv => h v (List.mem_of_mem_take hv)
end Go.Proofs.YtgkijkenbjjnmaaGreatDoor
