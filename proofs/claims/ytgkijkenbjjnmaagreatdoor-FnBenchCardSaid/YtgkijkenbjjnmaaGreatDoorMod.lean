/- Contracts of the program's modulators: the tests, the feedback, a step. -/
import Derived.Test.YtgkijkenbjjnmaaGreatDoorQuant
import Derived.Test.YtgkijkenbjjnmaaGreatDoorClone
import Derived.Test.YtgkijkenbjjnmaaGreatDoorArgB
namespace Go.Proofs.YtgkijkenbjjnmaaGreatDoor
open Go.RowKit
set_option linter.unusedVariables false
set_option linter.unusedSimpArgs false
set_option maxHeartbeats 1000000 in
theorem implIsModulator_any (l s : Int) (A : Option Addr) (c : Nat) (cs : List Int) (w : World) (hr : Rd w w.heap.size A cs) (hn : cs.length ≤ 9223372036854775807) :
    Calls Tryz.prog 54 #[.agg #[.int .i64 l, .int .i64 s, .slice A cs.length c]] w fun e w' => e = .returned (.bool (modOk l s cs)) ∧ Below w.heap.size w w' := by
  have hb0 : Below w.heap.size w (w.alloc (.cells #[.int .i64 l, .int .i64 s, .slice A cs.length c] 27)) := (Below.refl _ _).alloc (Nat.le_refl _) _
  have B0 := Blk.new w 27 #[.int .i64 l, .int .i64 s, .slice A cs.length c]
  have Hb0 := Lib.hid hb0
  have HB0 := Lib.hid B0
  have R0 := hr.past hb0
  have q0 := B0.cell 0
  have q1 := B0.cell 1
  have q2 := B0.cell 2
  simp at q0 q1 q2
  clear hb0 B0 hr
  go_enter Tryz.func54, Tryz.ntmps54
  go_wp2_with fail
  go_loop [8] (fun i => ∃ k : Nat, k ≤ cs.length ∧ i = .int .i64 k ∧ Hid (AllTo coefB cs k)) (fun i => cs.length - (intOf i).toNat)
  case atStart => exact ⟨0, by omega, rfl, allTo_zero _ _⟩
  case round =>
    obtain ⟨k, hk, rfl, hA⟩ := hrel
    by_cases hlt : k < cs.length
    · obtain ⟨ad, rfl, hbl, hcell⟩ := R0.at_ hlt
      have hc1 := hcell k hlt
      rw [getD_at hlt] at hc1
      clear R0 hcell
      by_cases hc : coefB cs[k] = true
      · have hb := inB_of hc
        have HC := Lib.hid hc
        clear hc
        go_wp2
        go_round
        case rel => exact ⟨k + 1, by omega, by go_num, allTo_step hA.out hlt HC.out⟩
        case measure => simp [intOf]; omega
      · have HY : Hid (modOk l s cs = false) := by show _ = _; simp [modOk, all_no hlt (show coefB cs[k] = false by simpa using hc)]
        have hb : cs[k] < -100 ∨ 100 < cs[k] := by
          rcases Int.lt_or_le cs[k] (-100) with h | h
          · exact .inl h
          · rcases Int.lt_or_le 100 cs[k] with h2 | h2
            · exact .inr h2
            · exact absurd (inB_true h h2) hc
        clear hc
        rcases hb with hb | hb
        · go_wp2
          go_ret
          exact ⟨ret_bool HY.out.symm, Hb0.out⟩
        · go_wp2
          go_ret
          exact ⟨ret_bool HY.out.symm, Hb0.out⟩
    · obtain rfl : k = cs.length := by omega
      have HA : Hid (cs.all coefB = true) := allTo_end hA.out
      clear R0 hlt hk
      go_wp2_with fail
      refine (implIsQuantiser_any _ _ _).mono ?_; rintro e w1 ⟨rfl, h3⟩
      have B1 := HB0.out.past h3
      have Hb1 := Lib.hid (thenB Hb0.out h3)
      clear q0 q1 q2 h3
      have q0 := B1.cell 0
      have q1 := B1.cell 1
      have q2 := B1.cell 2
      simp at q0 q1 q2
      clear B1
      go_wp2
      all_goals (go_ret; exact ⟨ret_bool (by simp [modOk, HA.out, inB, *]; try omega), Hb1.out⟩)
set_option maxHeartbeats 1000000 in
theorem implIsMemory_any (l s : Int) (A : Option Addr) (c : Nat) (cs : List Int) (A' : Option Addr) (c' : Nat) (mem : List Int) (w : World) (hr : Rd w w.heap.size A cs) (hr' : Rd w w.heap.size A' mem) (hn : cs.length ≤ 9223372036854775807) (hn' : mem.length ≤ 9223372036854775807) :
    Calls Tryz.prog 89 #[.agg #[.int .i64 l, .int .i64 s, .slice A cs.length c], .slice A' mem.length c'] w fun e w' => e = .returned (.bool (memOk l s cs mem)) ∧ Below w.heap.size w w' := by
  have hb0 : Below w.heap.size w (w.alloc (.cells #[.int .i64 l, .int .i64 s, .slice A cs.length c] 27)) := (Below.refl _ _).alloc (Nat.le_refl _) _
  have B0 := Blk.new w 27 #[.int .i64 l, .int .i64 s, .slice A cs.length c]
  have Hb0 := Lib.hid hb0
  have R0 := hr.past hb0
  have R0' := hr'.past hb0
  have q0 := B0.cell 0
  have q1 := B0.cell 1
  have q2 := B0.cell 2
  simp at q0 q1 q2
  clear hb0 hr hr'
  go_enter Tryz.func89, Tryz.ntmps89
  go_wp2_with fail
  refine (implIsModulator_any l s A c cs _ R0 hn).mono ?_; rintro e w1 ⟨rfl, h3⟩
  have B1 := B0.past h3
  have R1 := R0'.past h3
  have Hb1 := Lib.hid (thenB Hb0.out h3)
  clear q0 q1 q2 h3 B0 R0 R0'
  have q2 := B1.cell 2
  simp at q2
  clear B1
  rcases Bool.eq_false_or_eq_true (modOk l s cs) with hm | hm
  · by_cases hl : mem.length = cs.length
    · have HY : Hid (memOk l s cs mem = seqOk mem) := by show _ = _; simp [memOk, hm, hl]
      have t0 : ((mem.length : Int) == (cs.length : Int)) = true := by simp [hl]
      clear hl
      rw [hm]
      go_wp2_with fail
      refine (implIsSequence_any _ _ _ _ R1 hn').mono ?_; rintro e w2 ⟨rfl, rfl⟩
      go_wp2
      go_ret
      exact ⟨ret_bool HY.out.symm, Hb1.out⟩
    · have HY : Hid (memOk l s cs mem = false) := by show _ = _; simp [memOk, hl]
      have t0 : ((mem.length : Int) == (cs.length : Int)) = false := by simp; omega
      clear hl
      rw [hm]
      go_wp2
      go_ret
      exact ⟨ret_bool HY.out.symm, Hb1.out⟩
  · have HY : Hid (memOk l s cs mem = false) := by show _ = _; simp [memOk, hm]
    rw [hm]
    go_wp2
    go_ret
    exact ⟨ret_bool HY.out.symm, Hb1.out⟩
theorem wrap_in {x : Int} (h1 : -9223372036854775808 ≤ x) (h2 : x ≤ 9223372036854775807) : IntKind.i64.wrap x = x := Go.IntWalk.i64_in _ (by omega)
set_option maxHeartbeats 1000000 in
theorem fed_yes (l s : Int) (A : Option Addr) (c : Nat) (cs : List Int) (A' : Option Addr) (c' : Nat) (mem : List Int) (w : World) (hr : Rd w w.heap.size A cs) (hr' : Rd w w.heap.size A' mem) (h : memOk l s cs mem = true) :
    Calls Tryz.prog 126 #[.agg #[.int .i64 l, .int .i64 s, .slice A cs.length c], .slice A' cs.length c'] w fun e w' => e = .returned (.int .i64 (fed cs mem)) ∧ Below w.heap.size w w' := by
  obtain ⟨m1, m2, m3⟩ := mem_parts h
  obtain ⟨m4, m5, m6, m7⟩ := mod_parts m1
  have hb0 : Below w.heap.size w (w.alloc (.cells #[.int .i64 l, .int .i64 s, .slice A cs.length c] 27)) := (Below.refl _ _).alloc (Nat.le_refl _) _
  have B0 := Blk.new w 27 #[.int .i64 l, .int .i64 s, .slice A cs.length c]
  have Hb0 := Lib.hid hb0
  have R0 := Lib.hid (hr.past hb0)
  have R0' := Lib.hid (hr'.past hb0)
  have q2 := B0.cell 2
  simp at q2
  have M4 := Lib.hid m4
  have Hl := Lib.hid m2
  clear hb0 hr hr' B0 m4 m2
  go_enter Tryz.func126, Tryz.ntmps126
  go_wp2_with fail
  go_loop [5, 11] (fun q i => ∃ k : Nat, k ≤ cs.length ∧ i = .int .i64 k ∧ q = .int .i64 (fedTo cs mem k)) (fun _ i => cs.length - (intOf i).toNat)
  case atStart => exact ⟨0, by omega, rfl, rfl⟩
  case round =>
    obtain ⟨k, hk, rfl, rfl⟩ := hrel
    by_cases hlt : k < cs.length
    · have hlm : k < mem.length := by rw [Hl.out]; exact hlt
      obtain ⟨ad, rfl, hbl, hcell⟩ := R0.out.at_ hlt
      obtain ⟨ad', rfl, hbl', hcell'⟩ := R0'.out.at_ hlm
      have hc1 := hcell k hlt
      have hc2 := hcell' k hlm
      rw [getD_at hlt] at hc1
      rw [getD_at hlm] at hc2
      have b0 := fedTo_bd M4.out m3 k
      have b1 := prod_bd (M4.out _ (List.getElem_mem hlt)).1 (M4.out _ (List.getElem_mem hlt)).2 (seqOk_at m3 hlm).1 (seqOk_at m3 hlm).2
      have HS : Hid (fedTo cs mem (k + 1) = fedTo cs mem k + cs[k] * mem[k]) := by show _ = _; rw [fedTo_succ, getD_at hlt, getD_at hlm]
      obtain ⟨a, ha⟩ : ∃ a, a = cs[k] := ⟨_, rfl⟩
      obtain ⟨b, hb⟩ : ∃ b, b = mem[k] := ⟨_, rfl⟩
      obtain ⟨t, ht⟩ : ∃ t, t = fedTo cs mem k := ⟨_, rfl⟩
      rw [← ha] at hc1 b1 HS
      rw [← hb] at hc2 b1 HS
      rw [← ht] at b0 HS ⊢
      have s0 : IntKind.i64.wrap (a * b) = a * b := wrap_in (by omega) (by omega)
      have s1 : IntKind.i64.wrap (t + a * b) = t + a * b := wrap_in (by omega) (by omega)
      clear ha hb ht hcell hcell'
      go_wp2
      go_round
      case rel => exact ⟨k + 1, by omega, by go_num, by rw [HS.out]⟩
      case measure => simp [intOf]; omega
    · obtain rfl : k = cs.length := by omega
      go_wp2
      go_ret
      exact ⟨rfl, Hb0.out⟩
set_option maxHeartbeats 1000000 in
theorem pushed_yes (A : Option Addr) (c n : Nat) (mem : List Int) (v : Int) (w : World) (hr : Rd w w.heap.size A mem) (hn : mem.length = n) (h1 : 1 ≤ n) (h2 : n ≤ 1000) (hc : n ≤ c) :
    Calls Tryz.prog 128 #[.slice A n c, .int .i64 v] w fun e w' => ∃ A1 c1, e = .returned (.slice A1 n c1) ∧ Own w' w.heap.size A1 c1 (push mem v) ∧ Below w.heap.size w w' := by
  obtain ⟨ad, rfl, _⟩ := hr.at_ (k := 0) (by omega)
  have hb0 : Below w.heap.size w (w.alloc (.cells #[.int .i64 v] 3)) := (Below.refl _ _).alloc (Nat.le_refl _) _
  have O0 := own_cells (B := w.heap.size) (xs := [v]) w #[.int .i64 v] (Nat.le_refl _) rfl (by simp [maxLen])
  have R1 := rd_take (hr.past hb0) (n - 1)
  have hl : Hid ((mem.take (n - 1)).length = n - 1) := by show _ = _; rw [List.length_take]; omega
  have en : ((n : Int) - 1) = ((n - 1 : Nat) : Int) := by omega
  have Hb0 := Lib.hid hb0
  have HO := Lib.hid O0
  have HR := Lib.hid R1
  have HP : Hid (v :: mem.take (n - 1) = push mem v) := by show _ = _; unfold push; rw [hn]
  have hmin : Hid (min (n - 1) mem.length = n - 1) := by show _ = _; omega
  obtain ⟨m, hm⟩ : ∃ m, m = n - 1 := ⟨_, rfl⟩
  rw [← hm] at en hl HR HP hmin
  have hmn : m + 1 = n := by omega
  have em : (((m + 1 : Nat) : Int) - 1) = (m : Int) := by omega
  clear hb0 O0 R1 hr hn hm en
  subst hmn
  go_enter Tryz.func128, Tryz.ntmps128
  go_wp2_with (at_builtin; refine app_list rfl (.tmp 6) (.tmp 11) rfl w.heap.size (some ⟨w.heap.size, 0, none⟩) 1 1 [v] rfl rfl HO.out w.heap.size.succ (some ad) c (mem.take m) (by rw [hl.out]; rfl) (by simpa using HR.out) (by rw [hl.out]; omega) (by simp) ?_)
  intro A1 c1 w1 O1 hw1 hm1
  rw [HP.out] at O1
  rw [hmin.out]
  go_wp2
  go_ret
  exact ⟨A1, c1, by show Ending.returned (.slice A1 (1 + m) c1) = _; rw [Nat.add_comm], O1, below_app Hb0.out hw1 HO.out (by simp)⟩
def RetStepM (n : Nat) (y : Int) (mem : List Int) (w : World) (e : Ending) (w' : World) : Prop :=
  ∃ A1 c1, e = .returned (.tuple #[.int .i64 y, .slice A1 n c1, .bool true]) ∧ Own w' w.heap.size A1 c1 mem ∧ Below w.heap.size w w'
def RetStepNo (w : World) (e : Ending) (w' : World) : Prop := e = .returned (.tuple #[.int .i64 0, .slice none 0 0, .bool false]) ∧ Below w.heap.size w w'
set_option maxHeartbeats 2000000 in
theorem stepM_both (l s : Int) (A : Option Addr) (c : Nat) (cs : List Int) (A' : Option Addr) (c' : Nat) (mem : List Int) (x : Int) (w : World) (hr : Rd w w.heap.size A cs) (hr' : Rd w w.heap.size A' mem) (h : memOk l s cs mem = true) (hc' : mem.length ≤ c') (x1 : -1099511627776 ≤ x) (x2 : x ≤ 1099511627776) (b : Bool) (hb : sampleB (modE l s cs mem x) = b) :
    Calls Tryz.prog 94 #[.agg #[.int .i64 l, .int .i64 s, .slice A cs.length c], .slice A' cs.length c', .int .i64 x] w (fun e w' => if b then RetStepM cs.length (modY l s cs mem x) (push mem (modE l s cs mem x)) w e w' else RetStepNo w e w') := by
  obtain ⟨m1, m2, m3⟩ := mem_parts h
  obtain ⟨m4, m5, m6, m7⟩ := mod_parts m1
  have bv := modV_bd h x1 x2
  have by_ := quant_bd m5 (modV cs mem x)
  have hb0 : Below w.heap.size w (w.alloc (.cells #[.int .i64 l, .int .i64 s, .slice A cs.length c] 27)) := (Below.refl _ _).alloc (Nat.le_refl _) _
  have HB0 := Lib.hid (Blk.new w 27 #[.int .i64 l, .int .i64 s, .slice A cs.length c])
  have Hb0 := Lib.hid hb0
  have R0 := Lib.hid (hr.past hb0)
  have R0' := Lib.hid (hr'.past hb0)
  have q0 := HB0.out.cell 0
  have q1 := HB0.out.cell 1
  have q2 := HB0.out.cell 2
  simp at q0 q1 q2
  have hcall := fun W a b => implIsMemory_any l s A c cs A' c' mem W a b (by omega) (by omega)
  rw [m2, h] at hcall
  have Hc := Lib.hid hcall
  have Hl := Lib.hid m2
  have hxs : inB x (-1099511627776) 1099511627776 = true := inB_true x1 x2
  have HM4 := Lib.hid m4
  have HV : Hid (x + fed cs mem = modV cs mem x) := rfl
  have bf := fed_bd m4 m7 m3
  clear hb0 hr hr' hcall m2 m4
  go_enter Tryz.func94, Tryz.ntmps94
  go_wp2_with fail
  refine (Hc.out _ R0.out R0'.out).mono ?_; rintro e w1 ⟨rfl, h3⟩
  have HB1 := Lib.hid (HB0.out.past h3)
  have Hb1 := Lib.hid (thenB Hb0.out h3)
  have R1 := Lib.hid (R0.out.past h3)
  have R1' := Lib.hid (R0'.out.past h3)
  clear q0 q1 q2 h3 HB0 R0 R0' Hb0 Hc
  have q0 := HB1.out.cell 0
  have q1 := HB1.out.cell 1
  have q2 := HB1.out.cell 2
  simp at q0 q1 q2
  go_wp2_with fail
  refine (isSample_any _ _).mono ?_; rintro e w2 ⟨rfl, rfl⟩
  go_wp2_with fail
  refine (fed_yes l s A c cs A' c' mem _ R1.out R1'.out h).mono ?_; rintro e w2 ⟨rfl, h3⟩
  have HB2 := Lib.hid (HB1.out.past h3)
  have Hb2 := Lib.hid (thenB Hb1.out h3)
  have R2' := Lib.hid (R1'.out.past h3)
  clear q0 q1 q2 h3 HB1 R1 R1' Hb1
  have q0 := HB2.out.cell 0
  have q1 := HB2.out.cell 1
  simp at q0 q1
  go_wp2_with fail
  rw [HV.out]
  refine (implQuantise_yes l s _ _ m5 (by omega) (by omega)).mono ?_; rintro e w3 ⟨rfl, h3⟩
  have Hb3 := Lib.hid (thenB Hb2.out h3)
  have R3' := Lib.hid (R2'.out.past h3)
  clear q0 q1 h3 HB2 R2' Hb2
  have HE : Hid (quant l s (modV cs mem x) - modV cs mem x = modE l s cs mem x) := rfl
  have HYy : Hid (quant l s (modV cs mem x) = modY l s cs mem x) := rfl
  obtain ⟨V, hV⟩ : ∃ V, V = modV cs mem x := ⟨_, rfl⟩
  rw [← hV] at bv by_ HE HYy ⊢
  obtain ⟨Y, hY⟩ : ∃ Y, Y = quant l s V := ⟨_, rfl⟩
  rw [← hY] at by_ HE HYy ⊢
  clear hV hY HV
  go_wp2_with fail
  refine (isSample_any _ _).mono ?_; rintro e w2 ⟨rfl, rfl⟩
  have hs : inB (Y - V) (-1099511627776) 1099511627776 = b := by rw [HE.out]; exact hb
  rw [hs]
  have Hl2 : Hid (mem.length = cs.length) := Hl.out
  cases b with
  | true =>
    have hpc : cs.length ≤ c' := by have := Hl.out; omega
    go_wp2_with fail
    refine (pushed_yes A' c' cs.length mem (Y - V) _ R3'.out Hl2.out (by omega) (by omega) hpc).mono ?_; rintro e w4 ⟨A1, c1, rfl, O1, h4⟩
    go_wp2
    go_ret3
    rw [← HYy.out, ← HE.out]
    exact ⟨A1, c1, rfl, own_mono O1 Hb3.out.size, thenB Hb3.out h4⟩
  | false =>
    go_wp2
    go_ret3
    exact ⟨rfl, Hb3.out⟩
end Go.Proofs.YtgkijkenbjjnmaaGreatDoor
