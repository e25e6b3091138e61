/- Contracts of the program's modulators: the tests, the feedback, a step. -/
import Derived.Test.YtdmoceooijbajaaDoorQuant
import Derived.Test.YtdmoceooijbajaaDoorClone
import Derived.Test.YtdmoceooijbajaaDoorLawAcc
namespace Go.Proofs.YtdmoceooijbajaaDoor
open Go.RowKit
set_option linter.unusedVariables false
set_option linter.unusedSimpArgs false
set_option maxHeartbeats 1000000 in
theorem implIsModulator_any (l s : Int) (A : Option Addr) (c : Nat) (cs : List Int) (w : World) (hr : Rd w w.heap.size A cs) (hn : cs.length ≤ 9223372036854775807) :
    Calls Tryd.prog 31 #[.agg #[.int .i64 l, .int .i64 s, .slice A cs.length c]] w fun e w' => e = .returned (.bool (modOk l s cs)) ∧ Below w.heap.size w w' := by
  have hb0 : Below w.heap.size w (w.alloc (.cells #[.int .i64 l, .int .i64 s, .slice A cs.length c] 31)) := (Below.refl _ _).alloc (Nat.le_refl _) _
  have B0 := Blk.new w 31 #[.int .i64 l, .int .i64 s, .slice A cs.length c]
  have Hb0 := Lib.hid hb0
  have HB0 := Lib.hid B0
  have R0 := hr.past hb0
  have q0 := B0.cell 0
  have q1 := B0.cell 1
  have q2 := B0.cell 2
  simp at q0 q1 q2
  clear hb0 B0 hr
  go_enter Tryd.func31, Tryd.ntmps31
  go_wp2_with fail
  go_loop [8] (fun i => ∃ k : Nat, k ≤ cs.length ∧ i = .int .i64 k ∧ Hid (AllTo coefB cs k)) (fun i => cs.length - (intOf i).toNat)
  case atStart => exact ⟨0, by omega, rfl, allTo_zero _ _⟩
  case round =>
    obtain ⟨k, hk, rfl, hA⟩ := hrel
    by_cases hlt : k < cs.length
    · obtain ⟨ad, rfl, hbl, hcell⟩ := R0.at_ hlt
      have hc1 := hcell k hlt
      rw [getD_at hlt] at hc1
      clear R0 hcell
      by_cases hc : coefB cs[k] = true
      · have hb := inB_of hc
        have HC := Lib.hid hc
        clear hc
        go_wp2
        go_round
        case rel => exact ⟨k + 1, by omega, by go_num, allTo_step hA.out hlt HC.out⟩
        case measure => simp [intOf]; omega
      · have HY : Hid (modOk l s cs = false) := by show _ = _; simp [modOk, all_no hlt (show coefB cs[k] = false by simpa using hc)]
        have hb : cs[k] < -100 ∨ 100 < cs[k] := by
          rcases Int.lt_or_le cs[k] (-100) with h | h
          · exact .inl h
          · rcases Int.lt_or_le 100 cs[k] with h2 | h2
            · exact .inr h2
            · exact absurd (inB_true h h2) hc
        clear hc
        rcases hb with hb | hb
        · go_wp2
          go_ret
          exact ⟨ret_bool HY.out.symm, Hb0.out⟩
        · go_wp2
          go_ret
          exact ⟨ret_bool HY.out.symm, Hb0.out⟩
    · obtain rfl : k = cs.length := by omega
      have HA : Hid (cs.all coefB = true) := allTo_end hA.out
      clear R0 hlt hk
      go_wp2_with fail
      refine (implIsQuantiser_any _ _ _).mono ?_; rintro e w1 ⟨rfl, h3⟩
      have B1 := HB0.out.past h3
      have Hb1 := Lib.hid (thenB Hb0.out h3)
      clear q0 q1 q2 h3
      have q0 := B1.cell 0
      have q1 := B1.cell 1
      have q2 := B1.cell 2
      simp at q0 q1 q2
      clear B1
      go_wp2
      all_goals (go_ret; exact ⟨ret_bool (by simp [modOk, HA.out, inB, *]; try omega), Hb1.out⟩)
theorem wrap_in {x : Int} (h1 : -9223372036854775808 ≤ x) (h2 : x ≤ 9223372036854775807) : IntKind.i64.wrap x = x := Go.IntWalk.i64_in _ (by omega)
def RetStepM (n : Nat) (y : Int) (mem : List Int) (w : World) (e : Ending) (w' : World) : Prop :=
  ∃ A1 c1, e = .returned (.tuple #[.int .i64 y, .slice A1 n c1, .bool true]) ∧ Own w' w.heap.size A1 c1 mem ∧ Below w.heap.size w w'
def RetStepNo (w : World) (e : Ending) (w' : World) : Prop := e = .returned (.tuple #[.int .i64 0, .slice none 0 0, .bool false]) ∧ Below w.heap.size w w'
end Go.Proofs.YtdmoceooijbajaaDoor
