/- Contracts of the two ExactComb. -/
import Derived.Test.YtfplecbacgcjgaaLists
import Derived.Test.YtfplecbacgcjgaaBase
namespace Go.Proofs.Ytfplecbacgcjgaa
open Go.RowKit
set_option linter.unusedVariables false
set_option linter.unusedSimpArgs false
set_option maxHeartbeats 2000000 in
theorem implExact_yes (n r : Nat) (k : Int) (A : Option Addr) (c : Nat) (xs : List Int) (w : World) (hr : Rd w w.heap.size A xs) (hn : xs.length ≤ 1048576) (hc : combOk n r k = true) (hs : seqOk xs = true) :
    Calls Try.prog 25 #[.agg #[.int .i64 n, .int .i64 r, .int .i64 k], .slice A xs.length c] w (RetLB w (exactC n r k xs)) := by
  obtain ⟨⟨o1, o2⟩, ⟨r1, r2⟩, _⟩ := comb_parts hc
  have hb0 : Below w.heap.size w (w.alloc (.cells #[.int .i64 n, .int .i64 r, .int .i64 k] 24)) := (Below.refl _ _).alloc (Nat.le_refl _) _
  have B0 := Blk.new w 24 #[.int .i64 n, .int .i64 r, .int .i64 k]
  have R0 := hr.past hb0
  have Hb0 := Lib.hid hb0
  have q0 := B0.cell 0
  have q1 := B0.cell 1
  have q2 := B0.cell 2
  simp at q0 q1 q2
  clear hb0 hr
  go_enter Try.func25, Try.ntmps25
  go_wp2_with fail
  refine (implIsComb_any _ _ _ _).mono ?_; rintro e w1 ⟨rfl, h1⟩
  have B1 := B0.past h1
  have R1 := R0.past h1
  have Hb1 := Lib.hid (thenB Hb0.out h1)
  clear q0 q1 q2 B0 R0 h1 Hb0
  have q0 := B1.cell 0
  have q1 := B1.cell 1
  simp at q0 q1
  have r1' := R1
  go_wp2_with fail
  refine (implIsSequence_any _ _ _ _ R1 (by omega)).mono ?_; rintro e w' ⟨rfl, rfl⟩
  have HB1 := Lib.hid B1
  have HL : Hid (∀ j, (exTo xs r j).1.length ≤ 1048576) := exTo_len hn (by omega)
  have HC : Hid ((inB (n : Int) 1 6 && inB (r : Int) 1 100 && inB k 2 62) = true) := hc
  clear B1 hc
  go_wp2_with fail
  clear q0 q1
  go_loopw [1, 18] (fun q i wr => ∃ (j : Nat) (Aq : Option Addr) (cq : Nat) (L : List Int × Bool), j ≤ n ∧ i = .int .i64 j ∧ q = .slice Aq L.1.length cq ∧ Hid (L = exTo xs r j) ∧ L.2 = true ∧ Rd wr wr.heap.size Aq L.1 ∧ Hid (Below w1.heap.size w1 wr)) (fun _ i _ => n - (intOf i).toNat)
  case atStart => exact ⟨0, A, c, (xs, true), by omega, rfl, rfl, rfl, rfl, R1, Below.refl _ _⟩
  case round =>
    clear R1 r1'
    obtain ⟨j, Aq, cq, L, hj, rfl, rfl, hL, hb, R2, HW⟩ := hrel
    have BB := HB1.out.past HW.out
    have q0 := BB.cell 0
    have q1 := BB.cell 1
    simp at q0 q1
    have HBB := Lib.hid BB
    have hl := HL.out j
    rw [← hL.out] at hl
    by_cases hlt : j < n
    · have HB := hb
      have HS : Hid (exTo xs r (j + 1) = boxSums L.1 r) := by show _ = _; rw [exTo_succ _ _ _ (by rw [← hL.out]; exact HB), hL.out]
      obtain ⟨M, hM⟩ : ∃ M, M = boxSums L.1 r := ⟨_, rfl⟩
      have hcall := implBoxSums_any Aq cq L.1 r wr R2 hl
      rw [← hM] at hcall HS
      have Hc := Lib.hid hcall
      clear hcall hM BB
      go_wp2_with fail
      refine Hc.out.mono ?_
      rintro e w2 ⟨A2, c2, rfl, O2, h2⟩
      have HW2 := Lib.hid (HW.out.trans (h2.mono HW.out.size))
      have R3 := Lib.hid (own_rd O2)
      have BB2 := HBB.out.past h2
      clear q0 q1
      have q0 := BB2.cell 0
      have q1 := BB2.cell 1
      simp at q0 q1
      clear BB2 O2 h2 R2
      rcases Bool.eq_false_or_eq_true M.2 with hm | hm
      · rw [hm]
        go_wp2
        go_roundw
        case rel => exact ⟨j + 1, A2, c2, M, by omega, by go_num, rfl, HS.out.symm, hm, R3.out, HW2.out⟩
        case measure => simp [intOf]; omega
      · have Hno : Hid (exactC n r k xs = ([], false)) := exactC_stop (j := j + 1) (by omega) (by rw [HS.out]; exact hm)
        rw [hm]
        go_wp2
        go_ret2
        rw [Hno.out]
        exact ⟨none, 0, rfl, own_nil _ _, Hb1.out.trans (HW2.out.mono Hb1.out.size)⟩
    · obtain rfl : j = n := by omega
      have HB := hb
      have HY : Hid (exactC j r k xs = decimate L.1 r ((r : Int) - 1)) := by show _ = _; rw [exactC_yes HC.out (by rw [← hL.out]; exact HB), hL.out]
      have wr1 : IntKind.i64.wrap ((r : Int) - 1) = (r : Int) - 1 := Go.IntWalk.i64_in _ (by omega)
      obtain ⟨M, hM⟩ : ∃ M, M = decimate L.1 r ((r : Int) - 1) := ⟨_, rfl⟩
      have hcall := implDecimate_any Aq cq L.1 r ((r : Int) - 1) wr R2 hl
      rw [← hM] at hcall HY
      have Hc := Lib.hid hcall
      clear hcall hM BB
      go_wp2_with fail
      refine Hc.out.mono ?_
      rintro e w2 ⟨A2, c2, rfl, O2, h2⟩
      go_wp2_with fail
      go_ret2
      rw [HY.out]
      exact ⟨A2, c2, rfl, own_mono O2 (by have h1 := Hb1.out.size; have h2 := HW.out.size; omega), Hb1.out.trans ((HW.out.trans (h2.mono HW.out.size)).mono Hb1.out.size)⟩
theorem implExactComb_any (o r k : Int) (A : Option Addr) (c : Nat) (xs : List Int) (w : World) (hr : Rd w w.heap.size A xs) (hn : xs.length ≤ 1048576) :
    Calls Try.prog 25 #[.agg #[.int .i64 o, .int .i64 r, .int .i64 k], .slice A xs.length c] w (RetLB w (exactC o r k xs)) := by
  rcases Bool.eq_false_or_eq_true (combOk o r k) with hc | hc
  · obtain ⟨⟨o1, o2⟩, ⟨r1, r2⟩, _⟩ := comb_parts hc
    obtain ⟨n, rfl⟩ : ∃ n : Nat, o = n := ⟨o.toNat, by omega⟩
    obtain ⟨q, rfl⟩ : ∃ n : Nat, r = n := ⟨r.toNat, by omega⟩
    rcases Bool.eq_false_or_eq_true (seqOk xs) with hs | hs
    · exact implExact_yes n q k A c xs w hr hn hc hs
    · rw [exactC_stop (j := 1) (by omega) (exTo_noSeq hs (Nat.le_refl _))]
      have hb0 : Below w.heap.size w (w.alloc (.cells #[.int .i64 n, .int .i64 q, .int .i64 k] 24)) := (Below.refl _ _).alloc (Nat.le_refl _) _
      have B0 := Blk.new w 24 #[.int .i64 n, .int .i64 q, .int .i64 k]
      have R0 := hr.past hb0
      have Hb0 := Lib.hid hb0
      have q0 := B0.cell 0
      have q1 := B0.cell 1
      have q2 := B0.cell 2
      simp at q0 q1 q2
      clear hb0 hr
      go_enter Try.func25, Try.ntmps25
      go_wp2_with fail
      refine (implIsComb_any _ _ _ _).mono ?_; rintro e w1 ⟨rfl, h1⟩
      have B1 := B0.past h1
      have R1 := R0.past h1
      have Hb1 := Lib.hid (thenB Hb0.out h1)
      clear q0 q1 q2 B0 R0 h1 Hb0
      have q0 := B1.cell 0
      have q1 := B1.cell 1
      simp at q0 q1
      go_wp2_with fail
      refine (implIsSequence_any _ _ _ _ R1 (by omega)).mono ?_; rintro e w' ⟨rfl, rfl⟩
      go_wp2_with fail
      go_ret2
      exact ⟨none, 0, rfl, own_nil _ _, Hb1.out⟩
  · rw [exactC_no hc]
    have hb0 : Below w.heap.size w (w.alloc (.cells #[.int .i64 o, .int .i64 r, .int .i64 k] 24)) := (Below.refl _ _).alloc (Nat.le_refl _) _
    have B0 := Blk.new w 24 #[.int .i64 o, .int .i64 r, .int .i64 k]
    have R0 := hr.past hb0
    have Hb0 := Lib.hid hb0
    have q0 := B0.cell 0
    have q1 := B0.cell 1
    have q2 := B0.cell 2
    simp at q0 q1 q2
    clear hb0 hr
    go_enter Try.func25, Try.ntmps25
    go_wp2_with fail
    refine (implIsComb_any _ _ _ _).mono ?_; rintro e w1 ⟨rfl, h1⟩
    have B1 := B0.past h1
    have R1 := R0.past h1
    have Hb1 := Lib.hid (thenB Hb0.out h1)
    clear q0 q1 q2 B0 R0 h1 Hb0
    have q0 := B1.cell 0
    have q1 := B1.cell 1
    simp at q0 q1
    go_wp2_with fail
    go_ret2
    exact ⟨none, 0, rfl, own_nil _ _, Hb1.out⟩
set_option maxHeartbeats 2000000 in
theorem specExact_yes (n r : Nat) (k : Int) (A : Option Addr) (c : Nat) (xs : List Int) (w : World) (hr : Rd w w.heap.size A xs) (hn : xs.length ≤ 1048576) (hc : combOk n r k = true) :
    Calls Try.prog 21 #[.agg #[.int .i64 n, .int .i64 r, .int .i64 k], .slice A xs.length c] w (RetLB w (exactC n r k xs)) := by
  obtain ⟨⟨o1, o2⟩, ⟨r1, r2⟩, _⟩ := comb_parts hc
  have hb0 : Below w.heap.size w (w.alloc (.cells #[.int .i64 n, .int .i64 r, .int .i64 k] 24)) := (Below.refl _ _).alloc (Nat.le_refl _) _
  have B0 := Blk.new w 24 #[.int .i64 n, .int .i64 r, .int .i64 k]
  have R0 := hr.past hb0
  have Hb0 := Lib.hid hb0
  have q0 := B0.cell 0
  have q1 := B0.cell 1
  have q2 := B0.cell 2
  simp at q0 q1 q2
  clear hb0 hr
  go_enter Try.func21, Try.ntmps21
  go_wp2_with fail
  refine (specIsComb_any _ _ _ _).mono ?_; rintro e w1 ⟨rfl, h1⟩
  have B1 := B0.past h1
  have R1 := R0.past h1
  have Hb1 := Lib.hid (thenB Hb0.out h1)
  clear q0 q1 q2 B0 R0 h1 Hb0
  have q0 := B1.cell 0
  have q1 := B1.cell 1
  simp at q0 q1
  have HB1 := Lib.hid B1
  have HL : Hid (∀ j, (exTo xs r j).1.length ≤ 1048576) := exTo_len hn (by omega)
  have HC : Hid ((inB (n : Int) 1 6 && inB (r : Int) 1 100 && inB k 2 62) = true) := hc
  clear B1 hc
  go_wp2_with fail
  clear q0 q1
  go_loopw [1, 6, 7] (fun q b i wr => ∃ (j : Nat) (Aq : Option Addr) (cq : Nat) (L : List Int × Bool), j ≤ n ∧ i = .int .i64 j ∧ q = .slice Aq L.1.length cq ∧ Hid (L = exTo xs r j) ∧ b = .bool L.2 ∧ Rd wr wr.heap.size Aq L.1 ∧ Hid (Below w1.heap.size w1 wr)) (fun _ _ i _ => n - (intOf i).toNat)
  case atStart => exact ⟨0, A, c, (xs, true), by omega, rfl, rfl, rfl, congrArg Value.bool HC.out, R1, Below.refl _ _⟩
  case round =>
    clear R1
    obtain ⟨j, Aq, cq, L, hj, rfl, rfl, hL, hb, R2, HW⟩ := hrel
    have BB := HB1.out.past HW.out
    have q0 := BB.cell 0
    have q1 := BB.cell 1
    simp at q0 q1
    have HBB := Lib.hid BB
    have hl := HL.out j
    rw [← hL.out] at hl
    by_cases hlt : j < n
    · rcases Bool.eq_false_or_eq_true L.2 with hL2 | hL2
      · have HB := hL2
        rw [hL2] at hb
        subst hb
        have HS : Hid (exTo xs r (j + 1) = boxSums L.1 r) := by show _ = _; rw [exTo_succ _ _ _ (by rw [← hL.out]; exact HB), hL.out]
        obtain ⟨M, hM⟩ : ∃ M, M = boxSums L.1 r := ⟨_, rfl⟩
        have hcall := specBoxSums_any Aq cq L.1 r wr R2 hl
        rw [← hM] at hcall HS
        have Hc := Lib.hid hcall
        clear hcall hM BB
        go_wp2_with fail
        refine Hc.out.mono ?_
        rintro e w2 ⟨A2, c2, rfl, O2, h2⟩
        have HW2 := Lib.hid (HW.out.trans (h2.mono HW.out.size))
        have R3 := Lib.hid (own_rd O2)
        have BB2 := HBB.out.past h2
        clear q0 q1
        have q0 := BB2.cell 0
        have q1 := BB2.cell 1
        simp at q0 q1
        clear BB2 O2 h2 R2
        go_wp2
        go_roundw
        case rel => exact ⟨j + 1, A2, c2, M, by omega, by go_num, rfl, HS.out.symm, rfl, R3.out, HW2.out⟩
        case measure => simp [intOf]; omega
      · have Hno : Hid (exactC n r k xs = ([], false)) := exactC_stop (j := j) (by omega) (by rw [← hL.out]; exact hL2)
        rw [hL2] at hb
        subst hb
        go_wp2
        go_ret2
        rw [Hno.out]
        exact ⟨none, 0, rfl, own_nil _ _, Hb1.out.trans (HW.out.mono Hb1.out.size)⟩
    · obtain rfl : j = n := by omega
      rcases Bool.eq_false_or_eq_true L.2 with hL2 | hL2
      · have HB := hL2
        rw [hL2] at hb
        subst hb
        have HY : Hid (exactC j r k xs = decimate L.1 r ((r : Int) - 1)) := by show _ = _; rw [exactC_yes HC.out (by rw [← hL.out]; exact HB), hL.out]
        have wr1 : IntKind.i64.wrap ((r : Int) - 1) = (r : Int) - 1 := Go.IntWalk.i64_in _ (by omega)
        obtain ⟨M, hM⟩ : ∃ M, M = decimate L.1 r ((r : Int) - 1) := ⟨_, rfl⟩
        have hcall := specDecimate_any Aq cq L.1 r ((r : Int) - 1) wr R2 hl
        rw [← hM] at hcall HY
        have Hc := Lib.hid hcall
        clear hcall hM BB
        go_wp2_with fail
        refine Hc.out.mono ?_
        rintro e w2 ⟨A2, c2, rfl, O2, h2⟩
        go_wp2_with fail
        go_ret2
        rw [HY.out]
        exact ⟨A2, c2, rfl, own_mono O2 (by have h1 := Hb1.out.size; have h2 := HW.out.size; omega), Hb1.out.trans ((HW.out.trans (h2.mono HW.out.size)).mono Hb1.out.size)⟩
      · have Hno : Hid (exactC j r k xs = ([], false)) := exactC_stop (j := j) (by omega) (by rw [← hL.out]; exact hL2)
        rw [hL2] at hb
        subst hb
        go_wp2
        go_ret2
        rw [Hno.out]
        exact ⟨none, 0, rfl, own_nil _ _, Hb1.out.trans (HW.out.mono Hb1.out.size)⟩
theorem specExactComb_any (o r k : Int) (A : Option Addr) (c : Nat) (xs : List Int) (w : World) (hr : Rd w w.heap.size A xs) (hn : xs.length ≤ 1048576) :
    Calls Try.prog 21 #[.agg #[.int .i64 o, .int .i64 r, .int .i64 k], .slice A xs.length c] w (RetLB w (exactC o r k xs)) := by
  rcases Bool.eq_false_or_eq_true (combOk o r k) with hc | hc
  · obtain ⟨⟨o1, o2⟩, ⟨r1, r2⟩, _⟩ := comb_parts hc
    obtain ⟨n, rfl⟩ : ∃ n : Nat, o = n := ⟨o.toNat, by omega⟩
    obtain ⟨q, rfl⟩ : ∃ n : Nat, r = n := ⟨r.toNat, by omega⟩
    exact specExact_yes n q k A c xs w hr hn hc
  · rw [exactC_no hc]
    have hb0 : Below w.heap.size w (w.alloc (.cells #[.int .i64 o, .int .i64 r, .int .i64 k] 24)) := (Below.refl _ _).alloc (Nat.le_refl _) _
    have B0 := Blk.new w 24 #[.int .i64 o, .int .i64 r, .int .i64 k]
    have R0 := hr.past hb0
    have Hb0 := Lib.hid hb0
    have q0 := B0.cell 0
    have q1 := B0.cell 1
    have q2 := B0.cell 2
    simp at q0 q1 q2
    clear hb0 hr
    go_enter Try.func21, Try.ntmps21
    go_wp2_with fail
    refine (specIsComb_any _ _ _ _).mono ?_; rintro e w1 ⟨rfl, h1⟩
    have B1 := B0.past h1
    have R1 := R0.past h1
    have Hb1 := Lib.hid (thenB Hb0.out h1)
    clear q0 q1 q2 B0 R0 h1 Hb0
    have q0 := B1.cell 0
    have q1 := B1.cell 1
    simp at q0 q1
    go_wp2_with fail
    go_loop [1, 6, 7] (fun q b i => i = .int .i64 0 ∧ b = .bool false) (fun _ _ _ => 0)
    case atStart => exact ⟨rfl, rfl⟩
    case round =>
      obtain ⟨rfl, rfl⟩ := hrel
      go_wp2
      all_goals (go_ret2; exact ⟨none, 0, rfl, own_nil _ _, Hb1.out⟩)
end Go.Proofs.Ytfplecbacgcjgaa
