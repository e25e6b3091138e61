/- Contracts of slices.Equal, l3Equal, l1Copy and of the two CycleOf. -/
import Derived.Test.YteabibkbmigpaaaPCycle
import Derived.Test.YteabibkbmigpaaaStep
import Derived.Test.YteabibkbmigpaaaCopy
import Derived.Test.YteabibkbmigpaaaPower
namespace Go.Proofs.Yteabibkbmigpaaa
open Go.RowKit
set_option linter.unusedVariables false
set_option linter.unusedSimpArgs false
theorem cycOk_step {o m : Int} {s : List Int} {x most : Int} (h : stepOk o m s x = false) : cycOk o m s x most = false := by simp [cycOk, h]
theorem cycOk_most {o m : Int} {s : List Int} {x most : Int} (h : inB most 0 20000 = false) : cycOk o m s x most = false := by simp [cycOk, h]
set_option maxHeartbeats 1000000 in
theorem implCycle_yes (o m : Int) (A : Option Addr) (c : Nat) (s : List Int) (x : Int) (n : Nat) (w : World) (hr : Rd w w.heap.size A s) (hrs : restsOk o m s = true) (hx1 : 0 ≤ x) (hx2 : x < m) (hn : n ≤ 20000) :
    Calls Try.prog 34 #[.agg #[.int .i64 o, .int .i64 m], .slice A s.length c, .int .i64 x, .int .i64 n] w (RetIB w (cycFrom m s x n 1)) := by
  obtain ⟨⟨⟨_, ho⟩, hm1, hm2⟩, hlo, hv⟩ := restsOk_parts hrs
  have hs : Hid (Rests m s) := hv
  have hrb : restB m x = true := by simp [restB]; omega
  have hl6 : s.length ≤ 6 := by omega
  have Ho := Lib.hid hlo
  have B0 := Blk.new w 24 #[.int .i64 o, .int .i64 m]
  have hb0 : Below w.heap.size w (w.alloc (.cells #[.int .i64 o, .int .i64 m] 24)) := (Below.refl _ _).alloc (Nat.le_refl _) _
  have R0 := hr.past hb0
  have Hb := Lib.hid hb0
  clear hb0 hv hlo ho
  go_enter Try.func34, Try.ntmps34
  go_wp2_with fail
  refine (implIsRests_any _ _ _ _ _ _ R0 (by omega)).mono ?_; rintro e w1 ⟨rfl, h1⟩
  have B1 := B0.past h1
  replace Hb := Lib.hid (thenB Hb.out h1)
  have c0 := B1.cell 0
  have c1 := B1.cell 1
  simp at c0 c1
  clear h1 B0 R0
  go_wp2_with fail
  refine (isRest_any _ _ _ _).mono ?_; rintro e W ⟨rfl, h2⟩
  have BB := Lib.hid (B1.past h2)
  replace Hb := Lib.hid (thenB Hb.out h2)
  have R2 := Lib.hid (hr.past Hb.out)
  clear h2 B1 c0 c1
  go_wp2_with fail
  go_loopw [10, 11] (fun q i wr => ∃ (k : Nat) (A1 : Option Addr) (c1 : Nat), 1 ≤ k ∧ k ≤ n + 1 ∧ i = .int .i64 k ∧ q = .slice A1 s.length c1 ∧ Hid (Rd wr wr.heap.size A1 (stN m s x (k - 1))) ∧ Hid (Blk wr w.heap.size 24 #[.int .i64 o, .int .i64 m]) ∧ Hid (Below w.heap.size w wr) ∧ Hid (cycFrom m s x n 1 = cycFrom m s x (n + 1 - k) k)) (fun _ i _ => n + 1 - (intOf i).toNat)
  case atStart => exact ⟨1, A, c, by omega, by omega, rfl, rfl, R2.out, BB.out, Hb.out, rfl⟩
  case round =>
    clear BB Hb R2
    obtain ⟨k, A1, c1, h1, hk, rfl, rfl, R1, BB, hB, E⟩ := hrel
    by_cases hlt : k ≤ n
    · have e0 := BB.out.cell 0
      have e1 := BB.out.cell 1
      simp at e0 e1
      have hlen := stN_length m s x (k - 1)
      have hst := stN_rests hm1 hs.out ⟨hx1, hx2⟩ (k - 1)
      have hrs' : restsOk o m (stN m s x (k - 1)) = true := by
        simp only [restsOk, Bool.and_eq_true] at hrs ⊢
        refine ⟨⟨hrs.1.1, by rw [hlen]; exact hrs.1.2⟩, ?_⟩
        rw [List.all_eq_true]
        intro v hv
        have := hst v hv
        simp [restB]; omega
      have hcall := implStep_yes A1 o m c1 (stN m s x (k - 1)) x wr R1.out (by omega) hrs' hx1 hx2
      rw [hlen] at hcall
      have Hc : Hid (Calls Try.prog 29 #[.agg #[.int .i64 o, .int .i64 m], .slice A1 s.length c1, .int .i64 x] wr (RetLLB wr ⟨stepC m (stN m s x (k - 1)) x, stepN m (stN m s x (k - 1)) x, true⟩)) := hcall
      have hl' := Lib.hid hlen
      clear hcall hrs' hst hlen
      go_wp2_with fail
      refine (show Calls Try.prog 29 #[.agg #[.int .i64 o, .int .i64 m], .slice A1 s.length c1, .int .i64 x] wr (RetLLB wr ⟨stepC m (stN m s x (k - 1)) x, stepN m (stN m s x (k - 1)) x, true⟩) from Hc).mono ?_
      rintro e w3 ⟨A2, c2, A3, c3, rfl, O2, O3, ap, h3⟩
      have R3 := own_rd O3
      rw [stN_pred h1] at R3 ⊢
      have B3 := BB.out.past h3
      have hB3 := Lib.hid (hB.out.trans (h3.mono hB.out.size))
      have Rs := hr.past hB3.out
      have hlk := stN_length m s x k
      have e0' := B3.cell 0
      have e1' := B3.cell 1
      simp at e0' e1'
      have hcall := slicesEqual_any A3 A c3 c (stN m s x k) s w3 R3 Rs (by omega)
      rw [hlk] at hcall
      have Hc2 : Hid (Calls Try.prog 74 #[.slice A3 s.length c3, .slice A s.length c] w3 fun e w' => e = .returned (.bool (eqB (stN m s x k) s)) ∧ Below w3.heap.size w3 w') := hcall
      have hlC := Lib.hid (stepC_length m (stN m s x (k - 1)) x)
      have hlk' := Lib.hid hlk
      have RR3 := Lib.hid R3
      have BB3 := Lib.hid B3
      rw [hlk]
      clear hcall O2 O3 ap h3 e0 e1 e0' e1' hlk R3 Rs B3
      go_wp2_with fail
      refine (show Calls Try.prog 74 #[.slice A3 s.length c3, .slice A s.length c] w3 fun e w' => e = .returned (.bool (eqB (stN m s x k) s)) ∧ Below w3.heap.size w3 w' from Hc2).mono ?_
      rintro e w4 ⟨rfl, h4⟩
      have R4 := RR3.out.past h4
      have B4 := BB3.out.past h4
      have hB4 := Lib.hid (hB3.out.trans (h4.mono hB3.out.size))
      clear h4
      rcases Bool.eq_false_or_eq_true (eqB (stN m s x k) s) with hq | hq
      · have E2 := Lib.hid (E.out.trans (cyc_hit hlt h1 hq))
        clear R4 B4
        go_wp2
        go_ret2
        rw [E2.out]
        exact ⟨rfl, hB4.out⟩
      · have E2 := Lib.hid (E.out.trans (cyc_miss hlt h1 hq))
        have R5 := Lib.hid R4
        have B5 := Lib.hid B4
        clear R4 B4
        go_wp2
        go_roundw
        case rel => exact ⟨k + 1, A3, c3, by omega, by omega, by go_num, rfl, R5.out, B5.out, hB4.out, E2.out⟩
        case measure => simp [intOf]; omega
    · obtain rfl : k = n + 1 := by omega
      have E2 := Lib.hid (E.out.trans (cyc_end m s x n))
      go_wp2
      go_ret2
      rw [E2.out]
      exact ⟨rfl, hB.out⟩
theorem implCycleOf_any (o m : Int) (A : Option Addr) (c : Nat) (s : List Int) (x most : Int) (w : World) (hr : Rd w w.heap.size A s) (hn : s.length ≤ 1048576) :
    Calls Try.prog 34 #[.agg #[.int .i64 o, .int .i64 m], .slice A s.length c, .int .i64 x, .int .i64 most] w (RetIB w (cycle o m s x most)) := by
  have B0 := Blk.new w 24 #[.int .i64 o, .int .i64 m]
  have hb0 : Below w.heap.size w (w.alloc (.cells #[.int .i64 o, .int .i64 m] 24)) := (Below.refl _ _).alloc (Nat.le_refl _) _
  have R0 := hr.past hb0
  have Hb := Lib.hid hb0
  clear hb0
  rcases Bool.eq_false_or_eq_true (restsOk o m s) with hrs | hrs
  · rcases Bool.eq_false_or_eq_true (restB m x) with hx | hx
    · have hok : stepOk o m s x = true := by simp [stepOk, hrs, hx]
      obtain ⟨_, x1, x2⟩ := stepOk_parts hok
      by_cases hmost : 0 ≤ most ∧ most ≤ 20000
      · obtain ⟨n, rfl⟩ : ∃ n : Nat, most = n := ⟨most.toNat, by omega⟩
        rw [cycle_yes hok (by omega)]
        exact implCycle_yes o m A c s x n w hr hrs x1 x2 (by omega)
      · have e : inB most 0 20000 = false := by
          rcases Int.lt_or_le most 0 with h | h
          · exact inB_lo h
          · exact inB_hi (by omega)
        rw [cycle_no (cycOk_most e)]
        have hm : most < 0 ∨ 20000 < most := by omega
        clear hmost e x1 x2 hok
        go_enter Try.func34, Try.ntmps34
        go_wp2_with fail
        refine (implIsRests_any _ _ _ _ _ _ R0 (by omega)).mono ?_; rintro e w1 ⟨rfl, h1⟩
        have B1 := B0.past h1
        replace Hb := Lib.hid (thenB Hb.out h1)
        have c0 := B1.cell 0
        have c1 := B1.cell 1
        simp at c0 c1
        clear h1 B0 R0 hr
        go_wp2_with fail
        refine (isRest_any _ _ _ _).mono ?_; rintro e W ⟨rfl, h2⟩
        replace Hb := Lib.hid (thenB Hb.out h2)
        clear h2 B1 c0 c1
        go_wp2_with fail
        all_goals first
          | (exfalso; omega)
          | (go_ret2; exact ⟨rfl, Hb.out⟩)
    · have hok : stepOk o m s x = false := by simp [stepOk, hx]
      rw [cycle_no (cycOk_step hok)]
      go_enter Try.func34, Try.ntmps34
      go_wp2_with fail
      refine (implIsRests_any _ _ _ _ _ _ R0 (by omega)).mono ?_; rintro e w1 ⟨rfl, h1⟩
      have B1 := B0.past h1
      replace Hb := Lib.hid (thenB Hb.out h1)
      have c0 := B1.cell 0
      have c1 := B1.cell 1
      simp at c0 c1
      clear h1 B0 R0 hr
      go_wp2_with fail
      refine (isRest_any _ _ _ _).mono ?_; rintro e W ⟨rfl, h2⟩
      replace Hb := Lib.hid (thenB Hb.out h2)
      clear h2 B1 c0 c1
      go_wp2_with fail
      go_ret2
      exact ⟨rfl, Hb.out⟩
  · have hok : stepOk o m s x = false := by simp [stepOk, hrs]
    rw [cycle_no (cycOk_step hok)]
    go_enter Try.func34, Try.ntmps34
    go_wp2_with fail
    refine (implIsRests_any _ _ _ _ _ _ R0 (by omega)).mono ?_; rintro e w1 ⟨rfl, h1⟩
    replace Hb := Lib.hid (thenB Hb.out h1)
    clear h1 B0 R0 hr
    go_wp2_with fail
    go_ret2
    exact ⟨rfl, Hb.out⟩
set_option maxHeartbeats 1000000 in
theorem specCycle_yes (o m : Int) (A : Option Addr) (c : Nat) (s : List Int) (x : Int) (n : Nat) (w : World) (hr : Rd w w.heap.size A s) (hrs : restsOk o m s = true) (hx1 : 0 ≤ x) (hx2 : x < m) (hn : n ≤ 20000) :
    Calls Try.prog 33 #[.agg #[.int .i64 o, .int .i64 m], .slice A s.length c, .int .i64 x, .int .i64 n] w (RetIB w (cycFrom m s x n 1)) := by
  obtain ⟨⟨⟨_, ho⟩, hm1, hm2⟩, hlo, hv⟩ := restsOk_parts hrs
  have hs : Hid (Rests m s) := hv
  have hrb : inB x 0 (m - 1) = true := inB_true hx1 (by omega)
  have hmost : inB (n : Int) 0 20000 = true := inB_true (by omega) (by omega)
  have hl6 : s.length ≤ 6 := by omega
  have Ho := Lib.hid hlo
  have B0 := Blk.new w 24 #[.int .i64 o, .int .i64 m]
  have hb0 : Below w.heap.size w (w.alloc (.cells #[.int .i64 o, .int .i64 m] 24)) := (Below.refl _ _).alloc (Nat.le_refl _) _
  have R0 := hr.past hb0
  have Hb := Lib.hid hb0
  clear hb0 hv hlo ho
  go_enter Try.func33, Try.ntmps33
  go_wp2_with fail
  refine (specIsRests_any _ _ _ _ _ _ R0 (by omega)).mono ?_; rintro e w1 ⟨rfl, h1⟩
  have B1 := B0.past h1
  replace Hb := Lib.hid (thenB Hb.out h1)
  have c0 := B1.cell 0
  have c1 := B1.cell 1
  simp at c0 c1
  have R1 := hr.past Hb.out
  clear h1 B0 R0
  go_wp2_with (go_at_call 63; refine (l1In_any _ _ _ _).mono ?_; rintro e w' ⟨rfl, rfl⟩)
  refine (l1Copy_any _ _ _ _ R1 (by omega)).mono ?_; rintro e W ⟨AA, cc, rfl, OO, h2⟩
  have BB := Lib.hid (B1.past h2)
  replace Hb := Lib.hid (thenB Hb.out h2)
  have R2 := Lib.hid (own_rd OO)
  clear h2 B1 c0 c1 OO R1
  go_wp2_with fail
  go_loopw [10, 11] (fun q i wr => ∃ (k : Nat) (A1 : Option Addr) (c1 : Nat), 1 ≤ k ∧ k ≤ n + 1 ∧ i = .int .i64 k ∧ q = .slice A1 s.length c1 ∧ Hid (Rd wr wr.heap.size A1 (stN m s x (k - 1))) ∧ Hid (Blk wr w.heap.size 24 #[.int .i64 o, .int .i64 m]) ∧ Hid (Below w.heap.size w wr) ∧ Hid (cycFrom m s x n 1 = cycFrom m s x (n + 1 - k) k)) (fun _ i _ => n + 1 - (intOf i).toNat)
  case atStart => exact ⟨1, AA, cc, by omega, by omega, rfl, rfl, R2.out, BB.out, Hb.out, rfl⟩
  case round =>
    clear BB Hb R2
    obtain ⟨k, A1, c1, h1, hk, rfl, rfl, R1, BB, hB, E⟩ := hrel
    by_cases hlt : k ≤ n
    · have e0 := BB.out.cell 0
      have e1 := BB.out.cell 1
      simp at e0 e1
      have hlen := stN_length m s x (k - 1)
      have hst := stN_rests hm1 hs.out ⟨hx1, hx2⟩ (k - 1)
      have hcall := l6Step_any A1 c1 o m (stN m s x (k - 1)) x wr R1.out (by omega) hm1 hm2 hst hx1 hx2
      rw [hlen] at hcall
      have Hc : Hid (Calls Try.prog 70 #[.agg #[.int .i64 o, .int .i64 m], .slice A1 s.length c1, .int .i64 x] wr (RetLL wr (stepC m (stN m s x (k - 1)) x) (stepN m (stN m s x (k - 1)) x))) := hcall
      have hl' := Lib.hid hlen
      clear hcall hst hlen
      go_wp2_with fail
      refine (show Calls Try.prog 70 #[.agg #[.int .i64 o, .int .i64 m], .slice A1 s.length c1, .int .i64 x] wr (RetLL wr (stepC m (stN m s x (k - 1)) x) (stepN m (stN m s x (k - 1)) x)) from Hc).mono ?_
      rintro e w3 ⟨A2, c2, A3, c3, rfl, O2, O3, ap, h3⟩
      have R3 := own_rd O3
      rw [stN_pred h1] at R3 ⊢
      have B3 := BB.out.past h3
      have hB3 := Lib.hid (hB.out.trans (h3.mono hB.out.size))
      have Rs := hr.past hB3.out
      have hlk := stN_length m s x k
      have e0' := B3.cell 0
      have e1' := B3.cell 1
      simp at e0' e1'
      have hcall := l3Equal_any A3 A c3 c (stN m s x k) s w3 R3 Rs (by omega)
      rw [hlk] at hcall
      have Hc2 : Hid (Calls Try.prog 73 #[.slice A3 s.length c3, .slice A s.length c] w3 fun e w' => e = .returned (.bool (eqB (stN m s x k) s)) ∧ Below w3.heap.size w3 w') := hcall
      have hlC := Lib.hid (stepC_length m (stN m s x (k - 1)) x)
      have hlk' := Lib.hid hlk
      have RR3 := Lib.hid R3
      have BB3 := Lib.hid B3
      rw [hlk]
      clear hcall O2 O3 ap h3 e0 e1 e0' e1' hlk R3 Rs B3
      go_wp2_with fail
      refine (show Calls Try.prog 73 #[.slice A3 s.length c3, .slice A s.length c] w3 fun e w' => e = .returned (.bool (eqB (stN m s x k) s)) ∧ Below w3.heap.size w3 w' from Hc2).mono ?_
      rintro e w4 ⟨rfl, h4⟩
      have R4 := RR3.out.past h4
      have B4 := BB3.out.past h4
      have hB4 := Lib.hid (hB3.out.trans (h4.mono hB3.out.size))
      clear h4
      rcases Bool.eq_false_or_eq_true (eqB (stN m s x k) s) with hq | hq
      · have E2 := Lib.hid (E.out.trans (cyc_hit hlt h1 hq))
        clear R4 B4
        go_wp2
        go_ret2
        rw [E2.out]
        exact ⟨rfl, hB4.out⟩
      · have E2 := Lib.hid (E.out.trans (cyc_miss hlt h1 hq))
        have R5 := Lib.hid R4
        have B5 := Lib.hid B4
        clear R4 B4
        go_wp2
        go_roundw
        case rel => exact ⟨k + 1, A3, c3, by omega, by omega, by go_num, rfl, R5.out, B5.out, hB4.out, E2.out⟩
        case measure => simp [intOf]; omega
    · obtain rfl : k = n + 1 := by omega
      have E2 := Lib.hid (E.out.trans (cyc_end m s x n))
      go_wp2
      go_ret2
      rw [E2.out]
      exact ⟨rfl, hB.out⟩
theorem specCycleOf_any (o m : Int) (A : Option Addr) (c : Nat) (s : List Int) (x most : Int) (w : World) (hr : Rd w w.heap.size A s) (hn : s.length ≤ 1048576) :
    Calls Try.prog 33 #[.agg #[.int .i64 o, .int .i64 m], .slice A s.length c, .int .i64 x, .int .i64 most] w (RetIB w (cycle o m s x most)) := by
  have B0 := Blk.new w 24 #[.int .i64 o, .int .i64 m]
  have hb0 : Below w.heap.size w (w.alloc (.cells #[.int .i64 o, .int .i64 m] 24)) := (Below.refl _ _).alloc (Nat.le_refl _) _
  have R0 := hr.past hb0
  have Hb := Lib.hid hb0
  clear hb0
  rcases Bool.eq_false_or_eq_true (restsOk o m s) with hrs | hrs
  · obtain ⟨⟨_, m1, m2⟩, _⟩ := restsOk_parts hrs
    rcases Bool.eq_false_or_eq_true (inB x 0 (m - 1)) with hx | hx
    · have hok : stepOk o m s x = true := by simp [stepOk, hrs, ← restB_in, hx]
      obtain ⟨_, x1, x2⟩ := stepOk_parts hok
      rcases Bool.eq_false_or_eq_true (inB most 0 20000) with e | e
      · obtain ⟨e1, e2⟩ := inB_of e
        obtain ⟨n, rfl⟩ : ∃ n : Nat, most = n := ⟨most.toNat, by omega⟩
        rw [cycle_yes hok (by omega)]
        exact specCycle_yes o m A c s x n w hr hrs x1 x2 (by omega)
      · rw [cycle_no (cycOk_most e)]
        go_enter Try.func33, Try.ntmps33
        go_wp2_with fail
        refine (specIsRests_any _ _ _ _ _ _ R0 (by omega)).mono ?_; rintro e w1 ⟨rfl, h1⟩
        have B1 := B0.past h1
        replace Hb := Lib.hid (thenB Hb.out h1)
        have c0 := B1.cell 0
        have c1 := B1.cell 1
        simp at c0 c1
        clear h1 B0 R0 hr
        go_wp2_with (go_at_call 63; refine (l1In_any _ _ _ _).mono ?_; rintro e w' ⟨rfl, rfl⟩)
        go_ret2
        exact ⟨rfl, Hb.out⟩
    · have hok : stepOk o m s x = false := by simp [stepOk, ← restB_in, hx]
      rw [cycle_no (cycOk_step hok)]
      go_enter Try.func33, Try.ntmps33
      go_wp2_with fail
      refine (specIsRests_any _ _ _ _ _ _ R0 (by omega)).mono ?_; rintro e w1 ⟨rfl, h1⟩
      have B1 := B0.past h1
      replace Hb := Lib.hid (thenB Hb.out h1)
      have c0 := B1.cell 0
      have c1 := B1.cell 1
      simp at c0 c1
      clear h1 B0 R0 hr
      go_wp2_with (go_at_call 63; refine (l1In_any _ _ _ _).mono ?_; rintro e w' ⟨rfl, rfl⟩)
      go_ret2
      exact ⟨rfl, Hb.out⟩
  · have hok : stepOk o m s x = false := by simp [stepOk, hrs]
    rw [cycle_no (cycOk_step hok)]
    go_enter Try.func33, Try.ntmps33
    go_wp2_with fail
    refine (specIsRests_any _ _ _ _ _ _ R0 (by omega)).mono ?_; rintro e w1 ⟨rfl, h1⟩
    replace Hb := Lib.hid (thenB Hb.out h1)
    clear h1 B0 R0 hr
    go_wp2_with fail
    go_ret2
    exact ⟨rfl, Hb.out⟩
end Go.Proofs.Yteabibkbmigpaaa
