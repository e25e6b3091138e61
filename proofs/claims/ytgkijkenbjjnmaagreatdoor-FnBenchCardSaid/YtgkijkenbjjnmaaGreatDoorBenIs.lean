/- Contracts of the reference's IsModulator, IsMemory; of the two IsBench. (Printed by mkbenis.py.) -/
import Derived.Test.YtgkijkenbjjnmaaGreatDoorBenArg
import Derived.Test.YtgkijkenbjjnmaaGreatDoorMod
namespace Go.Proofs.YtgkijkenbjjnmaaGreatDoor
open Go.RowKit
set_option linter.unusedVariables false
set_option linter.unusedSimpArgs false
set_option maxHeartbeats 1000000 in
theorem specIsModulator_any (l s : Int) (A : Option Addr) (c : Nat) (cs : List Int) (w : World) (hr : Rd w w.heap.size A cs) (hn : cs.length ≤ 9223372036854775807) :
    Calls Tryz.prog 61 #[.agg #[.int .i64 l, .int .i64 s, .slice A cs.length c]] w fun e w' => e = .returned (.bool (modOk l s cs)) ∧ Below w.heap.size w w' := by
  have hb0 : Below w.heap.size w (w.alloc (.cells #[.int .i64 l, .int .i64 s, .slice A cs.length c] 27)) := (Below.refl _ _).alloc (Nat.le_refl _) _
  have B0 := Blk.new w 27 #[.int .i64 l, .int .i64 s, .slice A cs.length c]
  have Hb0 := Lib.hid hb0
  have HB0 := Lib.hid B0
  have R0 := hr.past hb0
  have q0 := B0.cell 0
  have q1 := B0.cell 1
  have q2 := B0.cell 2
  simp at q0 q1 q2
  clear hb0 B0 hr
  go_enter Tryz.func61, Tryz.ntmps61
  go_wp2_with fail
  go_loop [8] (fun i => ∃ k : Nat, k ≤ cs.length ∧ i = .int .i64 k ∧ Hid (AllTo coefB cs k)) (fun i => cs.length - (intOf i).toNat)
  case atStart => exact ⟨0, by omega, rfl, allTo_zero _ _⟩
  case round =>
    obtain ⟨k, hk, rfl, hA⟩ := hrel
    by_cases hlt : k < cs.length
    · obtain ⟨ad, rfl, hbl, hcell⟩ := R0.at_ hlt
      have hc1 := hcell k hlt
      rw [getD_at hlt] at hc1
      clear R0 hcell
      by_cases hc : coefB cs[k] = true
      · have HC := Lib.hid hc
        have hc2 : inB cs[k] (-100) 100 = true := hc
        clear hc
        go_wp2_with (go_at_call 108; refine (l1In_any _ _ _ _).mono ?_; rintro e w' ⟨rfl, rfl⟩)
        go_round
        case rel => exact ⟨k + 1, by omega, by go_num, allTo_step hA.out hlt HC.out⟩
        case measure => simp [intOf]; omega
      · have hc' : coefB cs[k] = false := by simpa using hc
        have HY : Hid (modOk l s cs = false) := by show _ = _; simp [modOk, all_no hlt hc']
        have hc2 : inB cs[k] (-100) 100 = false := hc'
        clear hc hc'
        go_wp2_with (go_at_call 108; refine (l1In_any _ _ _ _).mono ?_; rintro e w' ⟨rfl, rfl⟩)
        go_ret
        exact ⟨ret_bool HY.out.symm, Hb0.out⟩
    · obtain rfl : k = cs.length := by omega
      have HA : Hid (cs.all coefB = true) := allTo_end hA.out
      clear R0 hlt hk
      go_wp2_with fail
      refine (specIsQuantiser_any _ _ _).mono ?_; rintro e w1 ⟨rfl, h3⟩
      have B1 := HB0.out.past h3
      have Hb1 := Lib.hid (thenB Hb0.out h3)
      clear q0 q1 q2 h3
      have q2 := B1.cell 2
      simp at q2
      clear B1
      rcases Bool.eq_false_or_eq_true (quantOk l s) with hq | hq
      · rw [hq]
        have HQ := Lib.hid hq
        clear hq
        go_wp2_with (go_at_call 108; refine (l1In_any _ _ _ _).mono ?_; rintro e w' ⟨rfl, rfl⟩)
        go_ret
        exact ⟨ret_bool (by simp [modOk, HA.out, HQ.out]), Hb1.out⟩
      · rw [hq]
        have HQ := Lib.hid hq
        clear hq
        go_wp2
        go_ret
        exact ⟨ret_bool (by simp [modOk, HQ.out]), Hb1.out⟩
set_option maxHeartbeats 1000000 in
theorem specIsMemory_any (l s : Int) (A : Option Addr) (c : Nat) (cs : List Int) (A' : Option Addr) (c' : Nat) (mem : List Int) (w : World) (hr : Rd w w.heap.size A cs) (hr' : Rd w w.heap.size A' mem) (hn : cs.length ≤ 9223372036854775807) (hn' : mem.length ≤ 9223372036854775807) :
    Calls Tryz.prog 57 #[.agg #[.int .i64 l, .int .i64 s, .slice A cs.length c], .slice A' mem.length c'] w fun e w' => e = .returned (.bool (memOk l s cs mem)) ∧ Below w.heap.size w w' := by
  have hb0 : Below w.heap.size w (w.alloc (.cells #[.int .i64 l, .int .i64 s, .slice A cs.length c] 27)) := (Below.refl _ _).alloc (Nat.le_refl _) _
  have B0 := Blk.new w 27 #[.int .i64 l, .int .i64 s, .slice A cs.length c]
  have Hb0 := Lib.hid hb0
  have R0 := hr.past hb0
  have R0' := hr'.past hb0
  have q0 := B0.cell 0
  have q1 := B0.cell 1
  have q2 := B0.cell 2
  simp at q0 q1 q2
  clear hb0 hr hr'
  go_enter Tryz.func57, Tryz.ntmps57
  go_wp2_with fail
  refine (specIsModulator_any l s A c cs _ R0 hn).mono ?_; rintro e w1 ⟨rfl, h3⟩
  have B1 := B0.past h3
  have R1 := R0'.past h3
  have Hb1 := Lib.hid (thenB Hb0.out h3)
  clear q0 q1 q2 h3 B0 R0 R0'
  have q2 := B1.cell 2
  simp at q2
  clear B1
  rcases Bool.eq_false_or_eq_true (modOk l s cs) with hm | hm
  · by_cases hl : mem.length = cs.length
    · have HY : Hid (memOk l s cs mem = seqOk mem) := by show _ = _; simp [memOk, hm, hl]
      have t0 : ((mem.length : Int) == (cs.length : Int)) = true := by simp [hl]
      clear hl
      rw [hm]
      go_wp2_with fail
      refine (specIsSequence_any _ _ _ _ R1 hn').mono ?_; rintro e w2 ⟨rfl, rfl⟩
      go_wp2
      go_ret
      exact ⟨ret_bool HY.out.symm, Hb1.out⟩
    · have HY : Hid (memOk l s cs mem = false) := by show _ = _; simp [memOk, hl]
      have t0 : ((mem.length : Int) == (cs.length : Int)) = false := by simp; omega
      clear hl
      rw [hm]
      go_wp2
      go_ret
      exact ⟨ret_bool HY.out.symm, Hb1.out⟩
  · have HY : Hid (memOk l s cs mem = false) := by show _ = _; simp [memOk, hm]
    rw [hm]
    go_wp2
    go_ret
    exact ⟨ret_bool HY.out.symm, Hb1.out⟩
def benchOk (l s : Int) (x1 x2 x3 x4 x5 : List Int) : Bool := memOk l s x1 x2 && seqOk x3 && seqOk x4 && seqOk x5
set_option maxHeartbeats 1000000 in
theorem implIsBench_any (l s : Int) (A1 A2 A3 A4 A5 : Option Addr) (c1 c2 c3 c4 c5 : Nat) (x1 x2 x3 x4 x5 : List Int) (w : World) (hr1 : Rd w w.heap.size A1 x1) (hr2 : Rd w w.heap.size A2 x2) (hr3 : Rd w w.heap.size A3 x3) (hr4 : Rd w w.heap.size A4 x4) (hr5 : Rd w w.heap.size A5 x5) (hn1 : x1.length ≤ 1048576) (hn2 : x2.length ≤ 1048576) (hn3 : x3.length ≤ 1048576) (hn4 : x4.length ≤ 1048576) (hn5 : x5.length ≤ 1048576) :
    Calls Tryz.prog 43 #[.agg #[.int .i64 l, .int .i64 s, .slice A1 x1.length c1, .slice A2 x2.length c2, .slice A3 x3.length c3, .slice A4 x4.length c4, .slice A5 x5.length c5]] w fun e w' => e = .returned (.bool (benchOk l s x1 x2 x3 x4 x5)) ∧ Below w.heap.size w w' := by
  have hb0 : Below w.heap.size w (w.alloc (.cells #[.int .i64 l, .int .i64 s, .slice A1 x1.length c1, .slice A2 x2.length c2, .slice A3 x3.length c3, .slice A4 x4.length c4, .slice A5 x5.length c5] 33)) := (Below.refl _ _).alloc (Nat.le_refl _) _
  have B0 := Blk.new w 33 #[.int .i64 l, .int .i64 s, .slice A1 x1.length c1, .slice A2 x2.length c2, .slice A3 x3.length c3, .slice A4 x4.length c4, .slice A5 x5.length c5]
  have Hb0 := Lib.hid hb0
  have R1 := hr1.past hb0
  have R2 := hr2.past hb0
  have R3 := hr3.past hb0
  have R4 := hr4.past hb0
  have R5 := hr5.past hb0
  clear hb0 hr1 hr2 hr3 hr4 hr5
  go_enter Tryz.func43, Tryz.ntmps43
  go_wp2_with fail
  refine (implIsMemory_any l s A1 c1 x1 A2 c2 x2 _ R1 R2 (by omega) (by omega)).mono ?_; rintro e w1 ⟨rfl, h⟩
  have B1 := B0.past h
  have Hb1 := Lib.hid (thenB Hb0.out h)
  replace R3 := R3.past h
  replace R4 := R4.past h
  replace R5 := R5.past h
  have q4 := B1.cell 4
  have q5 := B1.cell 5
  have q6 := B1.cell 6
  simp at q4 q5 q6
  clear B0 B1 Hb0 R1 R2 h
  rcases Bool.eq_false_or_eq_true (memOk l s x1 x2) with hm | hm
  · rw [hm]
    have HM := Lib.hid hm
    clear hm
    go_wp2_with fail
    refine (implIsSequence_any A3 c3 x3 _ R3 (by omega)).mono ?_; rintro e w' ⟨rfl, rfl⟩
    rcases Bool.eq_false_or_eq_true (seqOk x3) with h3 | h3
    · rw [h3]
      have H3 := Lib.hid h3
      clear h3
      go_wp2_with fail
      refine (implIsSequence_any A4 c4 x4 _ R4 (by omega)).mono ?_; rintro e w' ⟨rfl, rfl⟩
      rcases Bool.eq_false_or_eq_true (seqOk x4) with h4 | h4
      · rw [h4]
        have H4 := Lib.hid h4
        clear h4
        go_wp2_with fail
        refine (implIsSequence_any A5 c5 x5 _ R5 (by omega)).mono ?_; rintro e w' ⟨rfl, rfl⟩
        go_wp2
        go_ret
        exact ⟨ret_bool (by simp [benchOk, HM.out, H3.out, H4.out]), Hb1.out⟩
      · rw [h4]
        have H4 := Lib.hid h4
        clear h4
        go_wp2
        go_ret
        exact ⟨ret_bool (by simp [benchOk, H4.out]), Hb1.out⟩
    · rw [h3]
      have H3 := Lib.hid h3
      clear h3
      go_wp2
      go_ret
      exact ⟨ret_bool (by simp [benchOk, H3.out]), Hb1.out⟩
  · rw [hm]
    have HM := Lib.hid hm
    clear hm
    go_wp2
    go_ret
    exact ⟨ret_bool (by simp [benchOk, HM.out]), Hb1.out⟩
set_option maxHeartbeats 1000000 in
theorem specIsBench_any (l s : Int) (A1 A2 A3 A4 A5 : Option Addr) (c1 c2 c3 c4 c5 : Nat) (x1 x2 x3 x4 x5 : List Int) (w : World) (hr1 : Rd w w.heap.size A1 x1) (hr2 : Rd w w.heap.size A2 x2) (hr3 : Rd w w.heap.size A3 x3) (hr4 : Rd w w.heap.size A4 x4) (hr5 : Rd w w.heap.size A5 x5) (hn1 : x1.length ≤ 1048576) (hn2 : x2.length ≤ 1048576) (hn3 : x3.length ≤ 1048576) (hn4 : x4.length ≤ 1048576) (hn5 : x5.length ≤ 1048576) :
    Calls Tryz.prog 15 #[.agg #[.int .i64 l, .int .i64 s, .slice A1 x1.length c1, .slice A2 x2.length c2, .slice A3 x3.length c3, .slice A4 x4.length c4, .slice A5 x5.length c5]] w fun e w' => e = .returned (.bool (benchOk l s x1 x2 x3 x4 x5)) ∧ Below w.heap.size w w' := by
  have hb0 : Below w.heap.size w (w.alloc (.cells #[.int .i64 l, .int .i64 s, .slice A1 x1.length c1, .slice A2 x2.length c2, .slice A3 x3.length c3, .slice A4 x4.length c4, .slice A5 x5.length c5] 33)) := (Below.refl _ _).alloc (Nat.le_refl _) _
  have B0 := Blk.new w 33 #[.int .i64 l, .int .i64 s, .slice A1 x1.length c1, .slice A2 x2.length c2, .slice A3 x3.length c3, .slice A4 x4.length c4, .slice A5 x5.length c5]
  have Hb0 := Lib.hid hb0
  have R1 := hr1.past hb0
  have R2 := hr2.past hb0
  have R3 := hr3.past hb0
  have R4 := hr4.past hb0
  have R5 := hr5.past hb0
  clear hb0 hr1 hr2 hr3 hr4 hr5
  go_enter Tryz.func15, Tryz.ntmps15
  go_wp2_with fail
  refine (specIsMemory_any l s A1 c1 x1 A2 c2 x2 _ R1 R2 (by omega) (by omega)).mono ?_; rintro e w1 ⟨rfl, h⟩
  have B1 := B0.past h
  have Hb1 := Lib.hid (thenB Hb0.out h)
  replace R3 := R3.past h
  replace R4 := R4.past h
  replace R5 := R5.past h
  have q4 := B1.cell 4
  have q5 := B1.cell 5
  have q6 := B1.cell 6
  simp at q4 q5 q6
  clear B0 B1 Hb0 R1 R2 h
  rcases Bool.eq_false_or_eq_true (memOk l s x1 x2) with hm | hm
  · rw [hm]
    have HM := Lib.hid hm
    clear hm
    go_wp2_with fail
    refine (specIsSequence_any A3 c3 x3 _ R3 (by omega)).mono ?_; rintro e w' ⟨rfl, rfl⟩
    rcases Bool.eq_false_or_eq_true (seqOk x3) with h3 | h3
    · rw [h3]
      have H3 := Lib.hid h3
      clear h3
      go_wp2_with fail
      refine (specIsSequence_any A4 c4 x4 _ R4 (by omega)).mono ?_; rintro e w' ⟨rfl, rfl⟩
      rcases Bool.eq_false_or_eq_true (seqOk x4) with h4 | h4
      · rw [h4]
        have H4 := Lib.hid h4
        clear h4
        go_wp2_with fail
        refine (specIsSequence_any A5 c5 x5 _ R5 (by omega)).mono ?_; rintro e w' ⟨rfl, rfl⟩
        go_wp2
        go_ret
        exact ⟨ret_bool (by simp [benchOk, HM.out, H3.out, H4.out]), Hb1.out⟩
      · rw [h4]
        have H4 := Lib.hid h4
        clear h4
        go_wp2
        go_ret
        exact ⟨ret_bool (by simp [benchOk, H4.out]), Hb1.out⟩
    · rw [h3]
      have H3 := Lib.hid h3
      clear h3
      go_wp2
      go_ret
      exact ⟨ret_bool (by simp [benchOk, H3.out]), Hb1.out⟩
  · rw [hm]
    have HM := Lib.hid hm
    clear hm
    go_wp2
    go_ret
    exact ⟨ret_bool (by simp [benchOk, HM.out]), Hb1.out⟩
end Go.Proofs.YtgkijkenbjjnmaaGreatDoor
