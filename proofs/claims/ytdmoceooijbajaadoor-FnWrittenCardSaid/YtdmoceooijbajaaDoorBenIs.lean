/- Contracts of the reference's IsModulator, IsMemory; of the two IsBench. (Printed by mkbenis.py.) -/
import Derived.Test.YtdmoceooijbajaaDoorBenArg
import Derived.Test.YtdmoceooijbajaaDoorMod
namespace Go.Proofs.YtdmoceooijbajaaDoor
open Go.RowKit
set_option linter.unusedVariables false
set_option linter.unusedSimpArgs false
set_option maxHeartbeats 1000000 in
theorem specIsModulator_any (l s : Int) (A : Option Addr) (c : Nat) (cs : List Int) (w : World) (hr : Rd w w.heap.size A cs) (hn : cs.length ≤ 9223372036854775807) :
    Calls Tryd.prog 29 #[.agg #[.int .i64 l, .int .i64 s, .slice A cs.length c]] w fun e w' => e = .returned (.bool (modOk l s cs)) ∧ Below w.heap.size w w' := by
  have hb0 : Below w.heap.size w (w.alloc (.cells #[.int .i64 l, .int .i64 s, .slice A cs.length c] 31)) := (Below.refl _ _).alloc (Nat.le_refl _) _
  have B0 := Blk.new w 31 #[.int .i64 l, .int .i64 s, .slice A cs.length c]
  have Hb0 := Lib.hid hb0
  have HB0 := Lib.hid B0
  have R0 := hr.past hb0
  have q0 := B0.cell 0
  have q1 := B0.cell 1
  have q2 := B0.cell 2
  simp at q0 q1 q2
  clear hb0 B0 hr
  go_enter Tryd.func29, Tryd.ntmps29
  go_wp2_with fail
  go_loop [8] (fun i => ∃ k : Nat, k ≤ cs.length ∧ i = .int .i64 k ∧ Hid (AllTo coefB cs k)) (fun i => cs.length - (intOf i).toNat)
  case atStart => exact ⟨0, by omega, rfl, allTo_zero _ _⟩
  case round =>
    obtain ⟨k, hk, rfl, hA⟩ := hrel
    by_cases hlt : k < cs.length
    · obtain ⟨ad, rfl, hbl, hcell⟩ := R0.at_ hlt
      have hc1 := hcell k hlt
      rw [getD_at hlt] at hc1
      clear R0 hcell
      by_cases hc : coefB cs[k] = true
      · have HC := Lib.hid hc
        have hc2 : inB cs[k] (-100) 100 = true := hc
        clear hc
        go_wp2_with (go_at_call 45; refine (l1In_any _ _ _ _).mono ?_; rintro e w' ⟨rfl, rfl⟩)
        go_round
        case rel => exact ⟨k + 1, by omega, by go_num, allTo_step hA.out hlt HC.out⟩
        case measure => simp [intOf]; omega
      · have hc' : coefB cs[k] = false := by simpa using hc
        have HY : Hid (modOk l s cs = false) := by show _ = _; simp [modOk, all_no hlt hc']
        have hc2 : inB cs[k] (-100) 100 = false := hc'
        clear hc hc'
        go_wp2_with (go_at_call 45; refine (l1In_any _ _ _ _).mono ?_; rintro e w' ⟨rfl, rfl⟩)
        go_ret
        exact ⟨ret_bool HY.out.symm, Hb0.out⟩
    · obtain rfl : k = cs.length := by omega
      have HA : Hid (cs.all coefB = true) := allTo_end hA.out
      clear R0 hlt hk
      go_wp2_with fail
      refine (specIsQuantiser_any _ _ _).mono ?_; rintro e w1 ⟨rfl, h3⟩
      have B1 := HB0.out.past h3
      have Hb1 := Lib.hid (thenB Hb0.out h3)
      clear q0 q1 q2 h3
      have q2 := B1.cell 2
      simp at q2
      clear B1
      rcases Bool.eq_false_or_eq_true (quantOk l s) with hq | hq
      · rw [hq]
        have HQ := Lib.hid hq
        clear hq
        go_wp2_with (go_at_call 45; refine (l1In_any _ _ _ _).mono ?_; rintro e w' ⟨rfl, rfl⟩)
        go_ret
        exact ⟨ret_bool (by simp [modOk, HA.out, HQ.out]), Hb1.out⟩
      · rw [hq]
        have HQ := Lib.hid hq
        clear hq
        go_wp2
        go_ret
        exact ⟨ret_bool (by simp [modOk, HQ.out]), Hb1.out⟩
def benchOk (l s : Int) (x1 x2 x3 x4 x5 : List Int) : Bool := memOk l s x1 x2 && seqOk x3 && seqOk x4 && seqOk x5
end Go.Proofs.YtdmoceooijbajaaDoor
