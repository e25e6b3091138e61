/- Contracts of the two PowerOf and of SumOf. -/
import Derived.Test.YthpjpnilmpihaaaPSum
namespace Go.Proofs.Ythpjpnilmpihaaa
open Go.RowKit
set_option linter.unusedVariables false
set_option linter.unusedSimpArgs false
def sqr (v : Int) : Int := v * v
def smallB (v : Int) : Bool := inB v (-10000000) 10000000
def power (xs : List Int) : Int × Bool := if seqOk xs && xs.all smallB then ((xs.map sqr).sum, true) else (0, false)
def RetIB (w : World) (x : Int × Bool) (e : Ending) (w' : World) : Prop := e = .returned (.tuple #[.int .i64 x.1, .bool x.2]) ∧ Below w.heap.size w w'
theorem power_noSeq {xs : List Int} (h : seqOk xs = false) : power xs = (0, false) := by simp [power, h]
theorem power_no {xs : List Int} {k : Nat} (hk : k < xs.length) (h : smallB xs[k] = false) : power xs = (0, false) := by simp [power, all_no hk h]
theorem power_end {xs : List Int} (h : seqOk xs = true) (ha : AllTo smallB xs xs.length) : power xs = (sumTo sqr xs xs.length, true) := by
  simp [power, h, allTo_end ha, sumTo_all]
theorem small_of {v : Int} (h : smallB v = true) : 0 ≤ v * v ∧ v * v ≤ 100000000000000 := by
  obtain ⟨h1, h2⟩ := inB_of h
  have := sq_bd (b := 10000000) h1 h2
  omega
theorem sqTo_bd {xs : List Int} {k : Nat} (ha : AllTo smallB xs k) (hk : k ≤ xs.length) : 0 ≤ sumTo sqr xs k ∧ sumTo sqr xs k ≤ 100000000000000 * k := by
  have e : sumTo sqr xs k = sumTo sqr (xs.take k) k := by simp [sumTo, List.take_take]
  have := sumTo_bd sqr (xs.take k) 0 100000000000000 (fun x hx => small_of (List.all_eq_true.1 ha x hx)) k (by rw [List.length_take]; omega)
  rw [e]; omega
set_option maxHeartbeats 400000 in
theorem implPowerOf_any (A : Option Addr) (c : Nat) (xs : List Int) (w : World) (hr : Rd w w.heap.size A xs) (hn : xs.length ≤ 9223372036854775807) :
    Calls Try.prog 43 #[.slice A xs.length c] w (RetIB w (power xs)) := by
  rcases Bool.eq_false_or_eq_true (seqOk xs) with hs | hs
  · have hlen := seqOk_len hs
    go_enter Try.func43, Try.ntmps43
    go_wp2_with (go_at_call 45; refine (implIsSequence_any _ _ _ _ hr hn).mono ?_; rintro e w' ⟨rfl, rfl⟩)
    go_loop [4, 12] (fun q i => ∃ k : Nat, k ≤ xs.length ∧ i = .int .i64 k ∧ AllTo smallB xs k ∧ q = .int .i64 (sumTo sqr xs k)) (fun _ i => xs.length - (intOf i).toNat)
    case atStart => exact ⟨0, by omega, rfl, allTo_zero _ _, by simp [sumTo_zero]⟩
    case round =>
      obtain ⟨k, hk, rfl, ha, rfl⟩ := hrel
      by_cases hlt : k < xs.length
      · obtain ⟨ad, rfl, hbl, hcell⟩ := hr.at_ hlt
        have hc1 := hcell k hlt
        have b1 := sqTo_bd ha (by omega)
        clear hr hcell
        have hsn := Lib.hid (sumTo_succ sqr xs hlt)
        rcases Bool.eq_false_or_eq_true (smallB xs[k]) with hv | hv
        · have b2 := small_of hv
          obtain ⟨b3, b4⟩ := inB_of hv
          go_wp2
          go_round
          case rel => exact ⟨k + 1, by omega, by go_num, allTo_step ha hlt hv, by rw [hsn.out]; rfl⟩
          case measure => simp [intOf]; omega
        · have b3 : xs[k] < -10000000 ∨ 10000000 < xs[k] := by
            simp [smallB, inB] at hv; omega
          go_wp2
          all_goals first
            | (exfalso; omega)
            | (go_ret2; exact ⟨by rw [power_no hlt hv]; rfl, Below.refl _ _⟩)
      · obtain rfl : k = xs.length := by omega
        have E := Lib.hid (power_end hs ha)
        go_wp2
        go_ret2
        exact ⟨by rw [E.out]; rfl, Below.refl _ _⟩
  · go_enter Try.func43, Try.ntmps43
    go_wp2_with (go_at_call 45; refine (implIsSequence_any _ _ _ _ hr hn).mono ?_; rintro e w' ⟨rfl, rfl⟩)
    go_ret2
    exact ⟨by rw [power_noSeq hs]; rfl, Below.refl _ _⟩
def seqSum (xs : List Int) : Int := if seqOk xs then xs.sum else 0
theorem sum_id (xs : List Int) : sumTo (fun v => v) xs xs.length = xs.sum := by rw [sumTo_all]; simp
set_option maxHeartbeats 400000 in
theorem implSumOf_any (A : Option Addr) (c : Nat) (xs : List Int) (w : World) (hr : Rd w w.heap.size A xs) (hn : xs.length ≤ 9223372036854775807) :
    Calls Try.prog 17 #[.slice A xs.length c] w fun e w' => e = .returned (.int .i64 (seqSum xs)) ∧ w = w' := by
  rcases Bool.eq_false_or_eq_true (seqOk xs) with hs | hs
  · have hlen := seqOk_len hs
    go_enter Try.func17, Try.ntmps17
    go_wp2_with (go_at_call 45; refine (implIsSequence_any _ _ _ _ hr hn).mono ?_; rintro e w' ⟨rfl, rfl⟩)
    go_loop [3, 11] (fun q i => ∃ k : Nat, k ≤ xs.length ∧ i = .int .i64 k ∧ q = .int .i64 (sumTo (fun v => v) xs k)) (fun _ i => xs.length - (intOf i).toNat)
    case atStart => exact ⟨0, by omega, rfl, by simp [sumTo_zero]⟩
    case round =>
      obtain ⟨k, hk, rfl, rfl⟩ := hrel
      by_cases hlt : k < xs.length
      · obtain ⟨ad, rfl, hbl, hcell⟩ := hr.at_ hlt
        have hc1 := hcell k hlt
        have b1 := sumTo_bd (fun v => v) xs (-1099511627776) 1099511627776 (seqOk_mem hs) k hk
        have b2 := seqOk_at hs hlt
        clear hr hcell
        have hsn := Lib.hid (sumTo_succ (fun v => v) xs hlt)
        go_wp2
        go_round
        case rel => exact ⟨k + 1, by omega, by go_num, by rw [hsn.out]⟩
        case measure => simp [intOf]; omega
      · obtain rfl : k = xs.length := by omega
        have E := Lib.hid (show seqSum xs = sumTo (fun v => v) xs xs.length by rw [sum_id]; simp [seqSum, hs])
        go_wp2
        go_ret
        exact ⟨by rw [E.out]; rfl, rfl⟩
  · go_enter Try.func17, Try.ntmps17
    go_wp2_with (go_at_call 45; refine (implIsSequence_any _ _ _ _ hr hn).mono ?_; rintro e w' ⟨rfl, rfl⟩)
    go_ret
    exact ⟨ret_int (by simp [seqSum, hs]), rfl⟩
end Go.Proofs.Ythpjpnilmpihaaa
