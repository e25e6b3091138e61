/- Contracts of the two PowerOf and of SumOf. -/
import Derived.Test.YtkdlmddofnnngaaPSum
namespace Go.Proofs.Ytkdlmddofnnngaa
open Go.RowKit
set_option linter.unusedVariables false
set_option linter.unusedSimpArgs false
def sqr (v : Int) : Int := v * v
def smallB (v : Int) : Bool := inB v (-10000000) 10000000
def power (xs : List Int) : Int × Bool := if seqOk xs && xs.all smallB then ((xs.map sqr).sum, true) else (0, false)
def RetIB (w : World) (x : Int × Bool) (e : Ending) (w' : World) : Prop := e = .returned (.tuple #[.int .i64 x.1, .bool x.2]) ∧ Below w.heap.size w w'
theorem power_noSeq {xs : List Int} (h : seqOk xs = false) : power xs = (0, false) := by simp [power, h]
theorem power_no {xs : List Int} {k : Nat} (hk : k < xs.length) (h : smallB xs[k] = false) : power xs = (0, false) := by simp [power, all_no hk h]
theorem power_end {xs : List Int} (h : seqOk xs = true) (ha : AllTo smallB xs xs.length) : power xs = (sumTo sqr xs xs.length, true) := by
  simp [power, h, allTo_end ha, sumTo_all]
theorem small_of {v : Int} (h : smallB v = true) : 0 ≤ v * v ∧ v * v ≤ 100000000000000 := by
  obtain ⟨h1, h2⟩ := inB_of h
  have := sq_bd (b := 10000000) h1 h2
  omega
theorem sqTo_bd {xs : List Int} {k : Nat} (ha : AllTo smallB xs k) (hk : k ≤ xs.length) : 0 ≤ sumTo sqr xs k ∧ sumTo sqr xs k ≤ 100000000000000 * k := by
  have e : sumTo sqr xs k = sumTo sqr (xs.take k) k := by simp [sumTo, List.take_take]
  have := sumTo_bd sqr (xs.take k) 0 100000000000000 (fun x hx => small_of (List.all_eq_true.1 ha x hx)) k (by rw [List.length_take]; omega)
  rw [e]; omega
set_option maxHeartbeats 400000 in
theorem implPowerOf_any (A : Option Addr) (c : Nat) (xs : List Int) (w : World) (hr : Rd w w.heap.size A xs) (hn : xs.length ≤ 9223372036854775807) :
    Calls Try.prog 30 #[.slice A xs.length c] w (RetIB w (power xs)) := by
  rcases Bool.eq_false_or_eq_true (seqOk xs) with hs | hs
  · have hlen := seqOk_len hs
    go_enter Try.func30, Try.ntmps30
    go_wp2_with (go_at_call 55; refine (implIsSequence_any _ _ _ _ hr hn).mono ?_; rintro e w' ⟨rfl, rfl⟩)
    go_loop [4, 12] (fun q i => ∃ k : Nat, k ≤ xs.length ∧ i = .int .i64 k ∧ AllTo smallB xs k ∧ q = .int .i64 (sumTo sqr xs k)) (fun _ i => xs.length - (intOf i).toNat)
    case atStart => exact ⟨0, by omega, rfl, allTo_zero _ _, by simp [sumTo_zero]⟩
    case round =>
      obtain ⟨k, hk, rfl, ha, rfl⟩ := hrel
      by_cases hlt : k < xs.length
      · obtain ⟨ad, rfl, hbl, hcell⟩ := hr.at_ hlt
        have hc1 := hcell k hlt
        have b1 := sqTo_bd ha (by omega)
        clear hr hcell
        have hsn := Lib.hid (sumTo_succ sqr xs hlt)
        rcases Bool.eq_false_or_eq_true (smallB xs[k]) with hv | hv
        · have b2 := small_of hv
          obtain ⟨b3, b4⟩ := inB_of hv
          go_wp2
          go_round
          case rel => exact ⟨k + 1, by omega, by go_num, allTo_step ha hlt hv, by rw [hsn.out]; rfl⟩
          case measure => simp [intOf]; omega
        · have b3 : xs[k] < -10000000 ∨ 10000000 < xs[k] := by
            simp [smallB, inB] at hv; omega
          go_wp2
          all_goals first
            | (exfalso; omega)
            | (go_ret2; exact ⟨by rw [power_no hlt hv]; rfl, Below.refl _ _⟩)
      · obtain rfl : k = xs.length := by omega
        have E := Lib.hid (power_end hs ha)
        go_wp2
        go_ret2
        exact ⟨by rw [E.out]; rfl, Below.refl _ _⟩
  · go_enter Try.func30, Try.ntmps30
    go_wp2_with (go_at_call 55; refine (implIsSequence_any _ _ _ _ hr hn).mono ?_; rintro e w' ⟨rfl, rfl⟩)
    go_ret2
    exact ⟨by rw [power_noSeq hs]; rfl, Below.refl _ _⟩
set_option maxHeartbeats 400000 in
theorem specPowerOf_any (A : Option Addr) (c : Nat) (xs : List Int) (w : World) (hr : Rd w w.heap.size A xs) (hn : xs.length ≤ 9223372036854775807) :
    Calls Try.prog 29 #[.slice A xs.length c] w (RetIB w (power xs)) := by
  rcases Bool.eq_false_or_eq_true (seqOk xs) with hs | hs
  · have hlen := seqOk_len hs
    go_enter Try.func29, Try.ntmps29
    go_wp2_with (go_at_call 54; refine (specIsSequence_any _ _ _ _ hr hn).mono ?_; rintro e w' ⟨rfl, rfl⟩)
    go_loop [4, 12] (fun q i => ∃ k : Nat, k ≤ xs.length ∧ i = .int .i64 k ∧ AllTo smallB xs k ∧ q = .int .i64 (sumTo sqr xs k)) (fun _ i => xs.length - (intOf i).toNat)
    case atStart => exact ⟨0, by omega, rfl, allTo_zero _ _, by simp [sumTo_zero]⟩
    case round =>
      obtain ⟨k, hk, rfl, ha, rfl⟩ := hrel
      by_cases hlt : k < xs.length
      · obtain ⟨ad, rfl, hbl, hcell⟩ := hr.at_ hlt
        have hc1 := hcell k hlt
        have b1 := sqTo_bd ha (by omega)
        clear hr hcell
        have hsn := Lib.hid (sumTo_succ sqr xs hlt)
        rcases Bool.eq_false_or_eq_true (inB xs[k] (-10000000) 10000000) with hv | hv
        · have b2 := small_of hv
          go_wp2_with (go_at_call 48; refine (l1In_any _ _ _ _).mono ?_; rintro e w' ⟨rfl, rfl⟩)
          go_round
          case rel => exact ⟨k + 1, by omega, by go_num, allTo_step ha hlt hv, by rw [hsn.out]; rfl⟩
          case measure => simp [intOf]; omega
        · go_wp2_with (go_at_call 48; refine (l1In_any _ _ _ _).mono ?_; rintro e w' ⟨rfl, rfl⟩)
          go_ret2
          exact ⟨by rw [power_no hlt hv]; rfl, Below.refl _ _⟩
      · obtain rfl : k = xs.length := by omega
        have E := Lib.hid (power_end hs ha)
        go_wp2
        go_ret2
        exact ⟨by rw [E.out]; rfl, Below.refl _ _⟩
  · go_enter Try.func29, Try.ntmps29
    go_wp2_with (go_at_call 54; refine (specIsSequence_any _ _ _ _ hr hn).mono ?_; rintro e w' ⟨rfl, rfl⟩)
    go_ret2
    exact ⟨by rw [power_noSeq hs]; rfl, Below.refl _ _⟩
def seqSum (xs : List Int) : Int := if seqOk xs then xs.sum else 0
theorem sum_id (xs : List Int) : sumTo (fun v => v) xs xs.length = xs.sum := by rw [sumTo_all]; simp
end Go.Proofs.Ytkdlmddofnnngaa
