/- Contracts of the reference's step and run of a modulator, and of both BitsOf. (Printed by mkspecm2.py.) -/
import Derived.Test.YtgkijkenbjjnmaaGreatDoorSpecM
namespace Go.Proofs.YtgkijkenbjjnmaaGreatDoor
open Go.RowKit
set_option linter.unusedVariables false
set_option linter.unusedSimpArgs false
set_option maxRecDepth 100000 in
set_option maxHeartbeats 2000000 in
theorem l3Step_both (l s : Int) (A : Option Addr) (c : Nat) (cs : List Int) (A' : Option Addr) (c' : Nat) (mem : List Int) (x : Int) (w : World) (hr : Rd w w.heap.size A cs) (hr' : Rd w w.heap.size A' mem) (h : memOk l s cs mem = true) (hc' : mem.length ≤ c') (x1 : -1099511627776 ≤ x) (x2 : x ≤ 1099511627776) (b : Bool) (hb : sampleB (modE l s cs mem x) = b) :
    Calls Tryz.prog 60 #[.agg #[.int .i64 l, .int .i64 s, .slice A cs.length c], .slice A' cs.length c', .int .i64 x] w (fun e w' => if b then RetStepM cs.length (modY l s cs mem x) (push mem (modE l s cs mem x)) w e w' else RetStepNo w e w') := by
  obtain ⟨m1, m2, m3⟩ := mem_parts h
  obtain ⟨m4, m5, m6, m7⟩ := mod_parts m1
  have bv := modV_bd h x1 x2
  have by_ := quant_bd m5 (modV cs mem x)
  have hil := idxN_lt m5 (modV cs mem x)
  have hb0 : Below w.heap.size w (w.alloc (.cells #[.int .i64 l, .int .i64 s, .slice A cs.length c] 27)) := (Below.refl _ _).alloc (Nat.le_refl _) _
  have HB0 := Lib.hid (Blk.new w 27 #[.int .i64 l, .int .i64 s, .slice A cs.length c])
  have Hb0 := Lib.hid hb0
  have R0 := Lib.hid (hr.past hb0)
  have R0' := Lib.hid (hr'.past hb0)
  have q0 := HB0.out.cell 0
  have q1 := HB0.out.cell 1
  have q2 := HB0.out.cell 2
  simp at q0 q1 q2
  have Hl := Lib.hid m2
  have bf := fed_bd m4 m7 m3
  have Hq := Lib.hid m5
  have HE : Hid (quant l s (modV cs mem x) - modV cs mem x = modE l s cs mem x) := rfl
  have HYy : Hid (quant l s (modV cs mem x) = modY l s cs mem x) := rfl
  have HF := Lib.hid (fun W a b => specFed_yes l s A c cs A' c' mem W a b h)
  have HQ : Hid (levW l s (idxN l s (modV cs mem x) : Nat) = quant l s (modV cs mem x)) := rfl
  have hV : x + fed cs mem = modV cs mem x := rfl
  obtain ⟨V, hVV⟩ : ∃ V, V = modV cs mem x := ⟨_, rfl⟩
  rw [← hVV] at bv by_ hil HE HYy HQ hV
  obtain ⟨Y, hYY⟩ : ∃ Y, Y = quant l s V := ⟨_, rfl⟩
  rw [← hYY] at by_ HE HYy HQ
  obtain ⟨I, hII⟩ : ∃ I : Nat, I = idxN l s V := ⟨_, rfl⟩
  have HI := Lib.hid hII
  rw [← hII] at hil HQ
  obtain ⟨f, hf⟩ : ∃ f, f = fed cs mem := ⟨_, rfl⟩
  rw [← hf] at bf HF hV
  have hix := Lib.hid (fun W => l2Index_yes l s V W m5 (by omega) (by omega))
  rw [← HI.out] at hix
  have hlv := Lib.hid (fun W => l2Level_any l s (I : Int) W m5 (by omega) hil)
  rw [HQ.out] at hlv
  have sV : IntKind.i64.wrap V = V := Go.IntWalk.i64_in _ (by omega)
  clear hVV hYY hII hf hb0 hr hr' m2 m4 h m5
  go_enter Tryz.func60, Tryz.ntmps60
  go_wp2_with fail
  refine (HF.out _ R0.out R0'.out).mono ?_; rintro e w1 ⟨rfl, h3⟩
  have bx := (Below.refl w1.heap.size w1).drew
  have HB1 := Lib.hid ((HB0.out.past h3).past bx)
  have Hb1 := Lib.hid (thenB (thenB Hb0.out h3) bx)
  have R1' := Lib.hid ((R0'.out.past h3).past bx)
  clear q0 q1 q2 h3 HB0 R0 R0' Hb0 HF bx
  have q0 := HB1.out.cell 0
  have q1 := HB1.out.cell 1
  simp at q0 q1
  go_wp2_with fail
  go_region_held3 (fun w' => w'.cell? ⟨w.heap.size, 0, none⟩ = some (.int .i64 l) ∧ w'.cell? ⟨w.heap.size, 1, none⟩ = some (.int .i64 s)) (first | go_keep)
    (first
      | (go_at_call 106; refine (hix.out _).mono ?_; rintro e w2 ⟨rfl, h2⟩; have HB2 := Lib.hid (HB1.out.past h2); have Hb2 := Lib.hid (thenB Hb1.out h2); have R2' := Lib.hid (R1'.out.past h2); clear q0 q1 h2; have q0 := HB2.out.cell 0; have q1 := HB2.out.cell 1; simp at q0 q1)
      | (go_at_call 105; refine (hlv.out _).mono ?_; rintro e w3 ⟨rfl, h2⟩; have HB3 := Lib.hid (HB2.out.past h2); have Hb3 := Lib.hid (thenB Hb2.out h2); have R3' := Lib.hid (R2'.out.past h2); clear q0 q1 h2; have q0 := HB3.out.cell 0; have q1 := HB3.out.cell 1; simp at q0 q1))
  go_wp2_with fail
  refine (l1Sample_any _ _).mono ?_; rintro e w4 ⟨rfl, rfl⟩
  have hs : inB (Y - V) (-1099511627776) 1099511627776 = b := by rw [HE.out]; exact hb
  rw [hs]
  have Hl2 : Hid (mem.length = cs.length) := Hl.out
  cases b with
  | true =>
    have hpc : cs.length ≤ c' := by have := Hl.out; omega
    go_wp2_with fail
    refine (specPush_yes A' c' cs.length mem (Y - V) _ R3'.out Hl2.out (by omega) (by omega) hpc).mono ?_; rintro e w4 ⟨A1, c1, rfl, O1, h4⟩
    go_wp2
    go_ret3
    rw [← HYy.out, ← HE.out]
    exact ⟨A1, c1, rfl, own_mono O1 Hb3.out.size, thenB Hb3.out h4⟩
  | false =>
    go_wp2
    go_ret3
    exact ⟨rfl, Hb3.out⟩
set_option maxHeartbeats 1000000 in
theorem specRunM_yes (l s : Int) (A : Option Addr) (c : Nat) (cs : List Int) (A' : Option Addr) (c' : Nat) (mem : List Int) (X : Option Addr) (cx : Nat) (xs : List Int) (w : World) (hr : Rd w w.heap.size A cs) (hr' : Rd w w.heap.size A' mem) (hx : Rd w w.heap.size X xs) (h : memOk l s cs mem = true) (hs : seqOk xs = true) :
    Calls Tryz.prog 17 #[.agg #[.int .i64 l, .int .i64 s, .slice A cs.length c], .slice A' mem.length c', .slice X xs.length cx] w (RetRM w (runM l s cs mem xs)) := by
  obtain ⟨m1, m2, m3⟩ := mem_parts h
  obtain ⟨m4, m5, m6, m7⟩ := mod_parts m1
  have hlx := seqOk_len hs
  have hb0 : Below w.heap.size w (w.alloc (.cells #[.int .i64 l, .int .i64 s, .slice A cs.length c] 27)) := (Below.refl _ _).alloc (Nat.le_refl _) _
  have HB0 := Lib.hid (Blk.new w 27 #[.int .i64 l, .int .i64 s, .slice A cs.length c])
  have Hb0 := Lib.hid hb0
  have R0 := Lib.hid (hr.past hb0)
  have R0' := Lib.hid (hr'.past hb0)
  have X0 := Lib.hid (hx.past hb0)
  have q0 := HB0.out.cell 0
  have q1 := HB0.out.cell 1
  have q2 := HB0.out.cell 2
  simp at q0 q1 q2
  have HH := Lib.hid h
  have RW := Lib.hid hr
  have XW := Lib.hid hx
  have HL := Lib.hid m2
  have hmb : mem.length ≤ 6 := by omega
  clear hb0 hr hr' hx m4 m2
  go_enter Tryz.func17, Tryz.ntmps17
  go_wp2_with fail
  refine (specIsMemory_any l s A c cs A' c' mem _ R0.out R0'.out (by omega) (by omega)).mono ?_; rintro e w1 ⟨rfl, h3⟩
  rw [HH.out]
  have HB1 := Lib.hid (HB0.out.past h3)
  have Hb1 := Lib.hid (thenB Hb0.out h3)
  have R1 := Lib.hid (R0.out.past h3)
  have R1' := Lib.hid (R0'.out.past h3)
  have X1 := Lib.hid (X0.out.past h3)
  clear q0 q1 q2 h3 HB0 R0 R0' Hb0 X0
  go_wp2_with fail
  refine (specIsSequence_any _ _ _ _ X1.out (by omega)).mono ?_; rintro e w2 ⟨rfl, rfl⟩
  have z1 : w.heap.size < w1.heap.size := HB1.out.lt
  go_wp2_with fail
  refine (l1Copy_any A' c' mem _ R1'.out (by omega)).mono ?_; rintro e w2 ⟨An, cn, rfl, On, h3⟩
  obtain ⟨p1, p2, p3⟩ := two_empty w2
  have HB3 := Lib.hid ((HB1.out.past h3).past p3)
  have Hb3 := Lib.hid (thenB (thenB Hb1.out h3) p3)
  have zw : w1.heap.size ≤ w2.heap.size := h3.size
  have P1' := Lib.hid (own_mono p1 zw)
  have P2' := Lib.hid (own_mono p2 zw)
  have On' := Lib.hid (own_past On p3)
  have z2 := Nat.le_trans zw p3.size
  have ap1 : Hid (Apart (some ⟨w2.heap.size, 0, none⟩) An) := apart_symm (apart_lt (own_hi On) (own_lo p1) (Nat.le_refl _))
  have ap2 : Hid (Apart (some ⟨w2.heap.size + 1, 0, none⟩) An) := apart_symm (apart_lt (own_hi On) (own_lo p2) (Nat.le_refl _))
  have hml : mem.length = cs.length := HL.out
  rw [hml]
  clear On h3 HB1 R1 R1' X1 p1 p2 p3 Hb1 hml
  go_wp2_with fail
  go_loopw [10, 11, 12, 33] (fun nw y e i wr => ∃ (k : Nat) (A0 : Option Addr) (c0 : Nat) (A1 : Option Addr) (c1 : Nat) (A2 : Option Addr) (c2 : Nat), k ≤ xs.length ∧ w1.heap.size ≤ wr.heap.size ∧ i = .int .i64 k ∧ y = .slice A0 k c0 ∧ e = .slice A1 k c1 ∧ nw = .slice A2 cs.length c2 ∧ Hid (ErrTo l s cs mem xs k) ∧ Hid (Own wr w1.heap.size A0 c0 ((runY l s cs mem xs).take k)) ∧ Hid (Own wr w1.heap.size A1 c1 ((runE l s cs mem xs).take k)) ∧ Hid (Own wr w1.heap.size A2 c2 (memTo l s cs mem xs k)) ∧ Hid (Apart A0 A1) ∧ Hid (Apart A0 A2) ∧ Hid (Apart A1 A2) ∧ Hid (Blk wr w.heap.size 27 #[.int .i64 l, .int .i64 s, .slice A cs.length c]) ∧ Hid (Below w.heap.size w wr)) (fun _ _ _ i _ => xs.length - (intOf i).toNat)
  case atStart => exact ⟨0, _, 0, _, 0, An, cn, by omega, z2, rfl, rfl, rfl, rfl, errTo_zero _ _ _ _ _, P1'.out, P2'.out, On'.out, apart_two _ _ (by omega), ap1.out, ap2.out, HB3.out, Hb3.out⟩
  case round =>
    clear P1' P2' On' ap1 ap2
    obtain ⟨k, A0, c0, A1, c1, A2, c2, hk, zr, rfl, rfl, rfl, rfl, hE, O0, O1, O2, a01, a02, a12, HB, Hb⟩ := hrel
    have q0 := HB.out.cell 0
    have q1 := HB.out.cell 1
    have q2 := HB.out.cell 2
    simp at q0 q1 q2
    have Rc := Lib.hid (RW.out.past Hb.out)
    by_cases hlt : k < xs.length
    · obtain ⟨ad, rfl, hbl, hcell⟩ := (XW.out.past Hb.out).at_ hlt
      have hc1 := hcell k hlt
      rw [getD_at hlt] at hc1
      have hok := memTo_ok HH.out k hE.out
      have hcap := (own_cap O2.out).1
      have bx := seqOk_at hs hlt
      have HE1 : Hid (modE l s cs (memTo l s cs mem xs k) xs[k] = outE l s cs mem xs k) := by show _ = _; unfold outE; rw [getD_at hlt]
      have HY1 : Hid (modY l s cs (memTo l s cs mem xs k) xs[k] = outY l s cs mem xs k) := by show _ = _; unfold outY; rw [getD_at hlt]
      have HP : Hid (memTo l s cs mem xs (k + 1) = push (memTo l s cs mem xs k) (outE l s cs mem xs k)) := rfl
      have TY := Lib.hid (runY_take (l := l) (s := s) (cs := cs) (mem := mem) hlt)
      have TE := Lib.hid (runE_take (l := l) (s := s) (cs := cs) (mem := mem) hlt)
      have lY : Hid (((runY l s cs mem xs).take k).length = k) := by show _ = _; rw [List.length_take, runY_length]; omega
      have lE : Hid (((runE l s cs mem xs).take k).length = k) := by show _ = _; rw [List.length_take, runE_length]; omega
      have HN2 : Hid ((memTo l s cs mem xs (k + 1)).length = cs.length) := by show _ = _; rw [memTo_length (by rw [HL.out]; exact m6)]; exact HL.out
      have HNO : Hid (sampleB (outE l s cs mem xs k) = false → runM l s cs mem xs = ⟨[], [], [], false⟩) := fun hq => runM_no (by simp [runsOk, runE_no hlt hq])
      have HYES : Hid (sampleB (outE l s cs mem xs k) = true → ErrTo l s cs mem xs (k + 1)) := fun hq => errTo_step hE.out hq
      obtain ⟨x, hxe⟩ : ∃ x, x = xs[k] := ⟨_, rfl⟩
      rw [← hxe] at hc1 bx HE1 HY1
      have hcall := fun bb hb => l3Step_both l s A c cs A2 c2 (memTo l s cs mem xs k) x wr Rc.out (own_rd O2.out) hok hcap bx.1 bx.2 bb hb
      rw [HE1.out, HY1.out, ← HP.out] at hcall
      have Hc := Lib.hid hcall
      obtain ⟨M, hM⟩ : ∃ M, M = memTo l s cs mem xs k := ⟨_, rfl⟩
      obtain ⟨M3, hM3⟩ : ∃ M3, M3 = memTo l s cs mem xs (k + 1) := ⟨_, rfl⟩
      obtain ⟨y, hy⟩ : ∃ y, y = outY l s cs mem xs k := ⟨_, rfl⟩
      obtain ⟨e, he⟩ : ∃ e, e = outE l s cs mem xs k := ⟨_, rfl⟩
      have HM3 := Lib.hid hM3
      rw [← hM3] at Hc HP HN2
      rw [← hy] at Hc TY
      rw [← he] at Hc TE HP HNO HYES
      clear hcall hxe hM3 hy he HE1 HY1 hcell hok
      rcases Bool.eq_false_or_eq_true (sampleB e) with hq | hq
      · have HQ := HYES.out hq
        have Hc2 : Hid (Calls Tryz.prog 60 #[.agg #[.int .i64 l, .int .i64 s, .slice A cs.length c], .slice A2 cs.length c2, .int .i64 x] wr (RetStepM cs.length y M3 wr)) := (Hc.out true hq).mono fun _ _ h => h
        have HQ2 := Lib.hid HQ
        clear Hc HYES HNO HQ hE
        go_wp2_with fail
        refine Hc2.out.mono ?_
        rintro _ w4 ⟨A3, c3, rfl, O3, h4⟩
        have HB4 := Lib.hid (HB.out.past h4)
        have Hb4 := Lib.hid (thenB Hb.out h4)
        have h4s := h4.size
        have a03 := Lib.hid (apart_lt (own_hi O0.out) (own_lo O3) (Nat.le_refl _))
        have a13 := Lib.hid (apart_lt (own_hi O1.out) (own_lo O3) (Nat.le_refl _))
        have O0' := Lib.hid (own_past O0.out h4)
        have O1' := Lib.hid (own_past O1.out h4)
        have O3' := Lib.hid (own_mono O3 zr)
        clear q0 q1 q2 O0 O1 O2 a02 a12 HB O3 Hc2 Hb hc1 h4 Rc
        go_wp2_with (at_builtin; refine app_new rfl (.tmp 47) (.tmp 49) rfl w1.heap.size A0 c0 k _ y lY.out rfl O0'.out rfl (by omega) (Nat.le_trans zr h4s) ?_)
        intro A0' c0' w5 O05 hw5 mv5
        have O15 := Lib.hid (own_wrote O1'.out hw5 (apart_symm a01.out))
        have O35 := own_wrote O3'.out hw5 (apart_symm a03.out)
        have HB5 := Lib.hid (blk_wrote HB4.out hw5 (own_lo O0'.out) z1)
        have Hb5 := Lib.hid (below_app Hb4.out hw5 (own_mono O0'.out (Nat.le_of_lt z1)) Hb4.out.size)
        have a01' := Lib.hid (apart_moved a01.out mv5 (own_hi O1'.out))
        have a03' := Lib.hid (apart_moved a03.out mv5 (own_hi O3'.out))
        have z5 : w1.heap.size ≤ w5.heap.size := Nat.le_trans zr (Nat.le_trans h4s hw5.size)
        have HO5 := Lib.hid O05
        have hj : 0 < M3.length := by rw [HN2.out]; exact m6
        obtain ⟨g, rfl, _, _⟩ := own_head O35 hj
        have qv := own_cell O35 hj
        have ev : M3.getD 0 0 = e := by rw [HP.out]; rfl
        rw [ev] at qv
        have HO35 := Lib.hid O35
        clear hw5 mv5 O05 O35 HB4 Hb4 O0' O1' O3' ev hj a03 a01
        go_wp2_with (at_builtin; refine app_new rfl (.tmp 51) (.tmp 55) rfl w1.heap.size A1 c1 k _ e lE.out rfl O15.out rfl (by omega) z5 ?_)
        intro A1' c1' w6 O16 hw6 mv6
        have O06 := Lib.hid (own_wrote HO5.out hw6 a01'.out)
        have O36 := Lib.hid (own_wrote HO35.out hw6 (apart_symm a13.out))
        have HB6 := Lib.hid (blk_wrote HB5.out hw6 (own_lo O15.out) z1)
        have Hb6 := Lib.hid (below_app Hb5.out hw6 (own_mono O15.out (Nat.le_of_lt z1)) Hb5.out.size)
        have n01 := Lib.hid (apart_symm (apart_moved (apart_symm a01'.out) mv6 (own_hi HO5.out)))
        have n13 := Lib.hid (apart_moved a13.out mv6 (own_hi HO35.out))
        have z6 : w1.heap.size ≤ w6.heap.size := Nat.le_trans z5 hw6.size
        have HO16 := Lib.hid O16
        clear hw6 mv6 O16 HB5 Hb5 HO5 HO35 O15 qv
        go_wp2
        go_roundw
        case rel => exact ⟨k + 1, A0', c0', A1', c1', _, c3, by omega, z6, by go_num, rfl, rfl, rfl, HQ2.out, by rw [TY.out]; exact O06.out, by rw [TE.out]; exact HO16.out, by rw [← HM3.out]; exact O36.out, n01.out, a03'.out, n13.out, HB6.out, Hb6.out⟩
        case measure => simp [intOf]; omega
      · have HY := Lib.hid (HNO.out hq)
        have Hc2 : Hid (Calls Tryz.prog 60 #[.agg #[.int .i64 l, .int .i64 s, .slice A cs.length c], .slice A2 cs.length c2, .int .i64 x] wr (RetStepNo wr)) := (Hc.out false hq).mono fun _ _ h => h
        clear Hc HYES HNO hE
        go_wp2_with fail
        refine Hc2.out.mono ?_
        rintro _ w4 ⟨rfl, h4⟩
        go_wp2
        refine bodyPost_ret (results_four rfl _ _ _) rfl ?_
        rw [HY.out]
        exact retRM_no (thenB Hb.out h4)
    · obtain rfl : k = xs.length := by omega
      have HY : Hid (runM l s cs mem xs = ⟨runY l s cs mem xs, runE l s cs mem xs, memTo l s cs mem xs xs.length, true⟩) := runM_yes (runsOk_of HH.out hs hE.out)
      have O0' := O0.out
      have O1' := O1.out
      rw [List.take_of_length_le (by rw [runY_length]; exact Nat.le_refl _)] at O0'
      rw [List.take_of_length_le (by rw [runE_length]; exact Nat.le_refl _)] at O1'
      have HN2 : Hid ((memTo l s cs mem xs xs.length).length = cs.length) := by show _ = _; rw [memTo_length (by rw [HL.out]; exact m6)]; exact HL.out
      have P0 := Lib.hid O0'
      have P1 := Lib.hid O1'
      clear O0' O1' O0 O1 Rc
      go_wp2_with fail
      refine bodyPost_ret (results_four rfl _ _ _) rfl ?_
      rw [HY.out]
      exact ⟨A0, c0, A1, c1, A2, c2, by rw [runY_length, runE_length, HN2.out]; rfl, own_mono P0.out (Nat.le_of_lt z1), own_mono P1.out (Nat.le_of_lt z1), own_mono O2.out (Nat.le_of_lt z1), a01.out, a02.out, a12.out, Hb.out⟩
set_option maxRecDepth 100000 in
set_option maxHeartbeats 2000000 in
theorem implBits_any (l s : Int) (A : Option Addr) (c : Nat) (ys : List Int) (w : World) (hr : Rd w w.heap.size A ys) (hq : quantOk l s = true) (hs : seqOk ys = true) :
    Calls Tryz.prog 100 #[.agg #[.int .i64 l, .int .i64 s], .slice A ys.length c] w (RetLB w (bitsW l s ys)) := by
  have hn := seqOk_len hs
  obtain ⟨l1, l2, s1, s2⟩ := quant_parts hq
  have hb0 : Below w.heap.size w (w.alloc (.cells #[.int .i64 l, .int .i64 s] 24)) := (Below.refl _ _).alloc (Nat.le_refl _) _
  have HB0 := Lib.hid (Blk.new w 24 #[.int .i64 l, .int .i64 s])
  have Hb0 := Lib.hid hb0
  have RW := Lib.hid hr
  have HS := Lib.hid hs
  have q0 := HB0.out.cell 0
  have q1 := HB0.out.cell 1
  simp at q0 q1
  have Hq := Lib.hid hq
  have HN := Lib.hid (fun k hk h => bitsW_no (l := l) (s := s) (ys := ys) (k := k) hk h)
  have HYs := Lib.hid (fun h => bitsW_yes (l := l) (s := s) (ys := ys) h)
  obtain ⟨R, hR⟩ : ∃ R, R = bitsW l s ys := ⟨_, rfl⟩
  rw [← hR] at HN HYs ⊢
  clear hR hb0 hr hq hs
  go_enter Tryz.func100, Tryz.ntmps100
  go_wp2_with fail
  refine (implIsQuantiser_any _ _ _).mono ?_; rintro e w1 ⟨rfl, h3⟩
  rw [Hq.out]
  have HB1 := Lib.hid (HB0.out.past h3)
  have Hb1 := Lib.hid (thenB Hb0.out h3)
  clear q0 q1 h3 HB0 Hb0
  have q0 := HB1.out.cell 0
  have q1 := HB1.out.cell 1
  simp at q0 q1
  have O1 := Lib.hid (own_empty w1 w1.heap.size (Nat.le_refl _))
  have bx : Below w1.heap.size w1 (w1.alloc (.cells #[] 3)) := (Below.refl _ _).alloc (Nat.le_refl _) _
  have HB2 := Lib.hid (HB1.out.past bx)
  have Hb2 := Lib.hid (thenB Hb1.out bx)
  have z1 : w.heap.size < w1.heap.size := HB1.out.lt
  have z2 : w1.heap.size ≤ (w1.alloc (.cells #[] 3)).heap.size := bx.size
  clear bx HB1 Hb1
  go_wp2_with fail
  clear q0 q1
  go_loopw [6, 23] (fun q i wr => ∃ (k : Nat) (Aq : Option Addr) (cq : Nat), k ≤ ys.length ∧ w1.heap.size ≤ wr.heap.size ∧ i = .int .i64 k ∧ q = .slice Aq k cq ∧ Hid (∀ j (hj : j < ys.length), j < k → levW l s (idxN l s ys[j] : Nat) = ys[j]) ∧ Hid (Own wr w1.heap.size Aq cq ((ys.map fun v => ((idxN l s v : Nat) : Int)).take k)) ∧ Hid (Blk wr w.heap.size 24 #[.int .i64 l, .int .i64 s]) ∧ Hid (Below w.heap.size w wr)) (fun _ i _ => ys.length - (intOf i).toNat)
  case atStart => exact ⟨0, _, 0, by omega, z2, rfl, rfl, (fun j hj h => absurd h (by omega)), O1.out, HB2.out, Hb2.out⟩
  case round =>
    clear O1 HB2 Hb2 z2
    obtain ⟨k, Aq, cq, hk, zr, rfl, rfl, hA, hO, HB, Hb⟩ := hrel
    have q0 := HB.out.cell 0
    have q1 := HB.out.cell 1
    simp at q0 q1
    by_cases hlt : k < ys.length
    · obtain ⟨ad, rfl, hbl, hcell⟩ := (RW.out.past Hb.out).at_ hlt
      have hc1 := hcell k hlt
      rw [getD_at hlt] at hc1
      have bx := seqOk_at HS.out hlt
      have bq := ls_bd Hq.out
      have hil := idxN_lt Hq.out ys[k]
      have bl := levW_bd Hq.out (i := ((idxN l s ys[k] : Nat) : Int)) (by omega) hil
      have HNk := Lib.hid (fun h => HN.out k hlt h)
      have TK : Hid ((ys.map fun v => ((idxN l s v : Nat) : Int)).take (k + 1) = (ys.map fun v => ((idxN l s v : Nat) : Int)).take k ++ [((idxN l s ys[k] : Nat) : Int)]) := by show _ = _; rw [List.take_succ_eq_append_getElem (by rw [List.length_map]; exact hlt)]; simp
      have lk : Hid (((ys.map fun v => ((idxN l s v : Nat) : Int)).take k).length = k) := by show _ = _; rw [List.length_take, List.length_map]; omega
      have HA2 : Hid (levW l s (idxN l s ys[k] : Nat) = ys[k] → ∀ j (hj : j < ys.length), j < k + 1 → levW l s (idxN l s ys[j] : Nat) = ys[j]) := fun h j hj hjk => by
        rcases Nat.lt_or_eq_of_le (Nat.le_of_lt_succ hjk) with q | q
        · exact hA.out j hj q
        · subst q; exact h
      obtain ⟨v, hv⟩ : ∃ v, v = ys[k] := ⟨_, rfl⟩
      rw [← hv] at hc1 bx hil bl HNk TK HA2
      have hix := Lib.hid (fun W => implIndexOf_yes l s v W Hq.out (by omega) (by omega))
      obtain ⟨i, hi⟩ : ∃ i : Nat, i = idxN l s v := ⟨_, rfl⟩
      rw [← hi] at hil bl HNk TK HA2 hix
      have hlv := Lib.hid (fun W => implLevelOf_yes l s (i : Int) W Hq.out (by omega) hil)
      obtain ⟨x, hx⟩ : ∃ x, x = levW l s (i : Int) := ⟨_, rfl⟩
      rw [← hx] at hlv bl HNk HA2
      clear hcell hv hi hx
      go_wp2_with fail
      refine (hix.out _).mono ?_; rintro e w2 ⟨rfl, h2⟩
      have HB2 := Lib.hid (HB.out.past h2)
      have Hb2 := Lib.hid (thenB Hb.out h2)
      have O2 := Lib.hid (own_past hO.out h2)
      have z2 : w1.heap.size ≤ w2.heap.size := Nat.le_trans zr h2.size
      clear q0 q1 h2 HB Hb hO hix
      have q0 := HB2.out.cell 0
      have q1 := HB2.out.cell 1
      simp at q0 q1
      go_wp2_with fail
      refine (hlv.out _).mono ?_; rintro e w3 ⟨rfl, h3⟩
      have HB3 := Lib.hid (HB2.out.past h3)
      have Hb3 := Lib.hid (thenB Hb2.out h3)
      have O3 := Lib.hid (own_past O2.out h3)
      have z3 : w1.heap.size ≤ w3.heap.size := Nat.le_trans z2 h3.size
      clear q0 q1 h3 HB2 Hb2 O2 hc1 hlv
      by_cases hxv : x = v
      · subst hxv
        have t0 : (x != x) = false := by simp
        have HA3 := Lib.hid (HA2.out rfl)
        clear HNk HA2
        go_wp2_with (at_builtin; refine app_new rfl (.tmp 39) (.tmp 41) rfl w1.heap.size Aq cq k _ _ lk.out rfl O3.out rfl (by omega) z3 ?_)
        intro A4 c4 w4 O4 hw4 mv4
        have HB4 := Lib.hid (blk_wrote HB3.out hw4 (own_lo O3.out) z1)
        have Hb4 := Lib.hid (below_app Hb3.out hw4 (own_mono O3.out (Nat.le_of_lt z1)) Hb3.out.size)
        have z4 : w1.heap.size ≤ w4.heap.size := Nat.le_trans z3 hw4.size
        have HO4 := Lib.hid O4
        clear hw4 mv4 O4 HB3 Hb3 O3
        go_wp2
        go_roundw
        case rel => exact ⟨k + 1, A4, c4, by omega, z4, by go_num, rfl, HA3.out, by rw [TK.out]; exact HO4.out, HB4.out, Hb4.out⟩
        case measure => simp [intOf]; omega
      · have HE := Lib.hid (HNk.out hxv)
        have t0 : (x != v) = true := by simpa using hxv
        clear HNk HA2 hxv
        go_wp2
        go_ret2
        rw [HE.out]
        exact ⟨none, 0, rfl, own_nil _ _, Hb3.out⟩
    · obtain rfl : k = ys.length := by omega
      have hO' := hO.out
      rw [List.take_of_length_le (by rw [List.length_map]; exact Nat.le_refl _)] at hO'
      have HO' := Lib.hid hO'
      have HE := Lib.hid (HYs.out (fun j hj => hA.out j hj hj))
      clear hO' hO hA
      go_wp2
      go_ret2
      rw [HE.out]
      exact ⟨Aq, cq, by rw [List.length_map]; rfl, own_mono HO'.out (Nat.le_of_lt z1), Hb.out⟩
set_option maxRecDepth 100000 in
set_option maxHeartbeats 2000000 in
theorem specBits_any (l s : Int) (A : Option Addr) (c : Nat) (ys : List Int) (w : World) (hr : Rd w w.heap.size A ys) (hq : quantOk l s = true) (hs : seqOk ys = true) :
    Calls Tryz.prog 117 #[.agg #[.int .i64 l, .int .i64 s], .slice A ys.length c] w (RetLB w (bitsW l s ys)) := by
  have hn := seqOk_len hs
  obtain ⟨l1, l2, s1, s2⟩ := quant_parts hq
  have hb0 : Below w.heap.size w (w.alloc (.cells #[.int .i64 l, .int .i64 s] 24)) := (Below.refl _ _).alloc (Nat.le_refl _) _
  have HB0 := Lib.hid (Blk.new w 24 #[.int .i64 l, .int .i64 s])
  have Hb0 := Lib.hid hb0
  have RW := Lib.hid hr
  have HS := Lib.hid hs
  have q0 := HB0.out.cell 0
  have q1 := HB0.out.cell 1
  simp at q0 q1
  have Hq := Lib.hid hq
  have HN := Lib.hid (fun k hk h => bitsW_no (l := l) (s := s) (ys := ys) (k := k) hk h)
  have HYs := Lib.hid (fun h => bitsW_yes (l := l) (s := s) (ys := ys) h)
  obtain ⟨R, hR⟩ : ∃ R, R = bitsW l s ys := ⟨_, rfl⟩
  rw [← hR] at HN HYs ⊢
  clear hR hb0 hr hq hs
  go_enter Tryz.func117, Tryz.ntmps117
  go_wp2_with fail
  refine (specIsQuantiser_any _ _ _).mono ?_; rintro e w1 ⟨rfl, h3⟩
  rw [Hq.out]
  have HB1 := Lib.hid (HB0.out.past h3)
  have Hb1 := Lib.hid (thenB Hb0.out h3)
  clear q0 q1 h3 HB0 Hb0
  have q0 := HB1.out.cell 0
  have q1 := HB1.out.cell 1
  simp at q0 q1
  have O1 := Lib.hid (own_empty w1 w1.heap.size (Nat.le_refl _))
  have bx : Below w1.heap.size w1 (w1.alloc (.cells #[] 3)) := (Below.refl _ _).alloc (Nat.le_refl _) _
  have HB2 := Lib.hid (HB1.out.past bx)
  have Hb2 := Lib.hid (thenB Hb1.out bx)
  have z1 : w.heap.size < w1.heap.size := HB1.out.lt
  have z2 : w1.heap.size ≤ (w1.alloc (.cells #[] 3)).heap.size := bx.size
  clear bx HB1 Hb1
  go_wp2_with fail
  clear q0 q1
  go_loopw [6, 21] (fun q i wr => ∃ (k : Nat) (Aq : Option Addr) (cq : Nat), k ≤ ys.length ∧ w1.heap.size ≤ wr.heap.size ∧ i = .int .i64 k ∧ q = .slice Aq k cq ∧ Hid (∀ j (hj : j < ys.length), j < k → levW l s (idxN l s ys[j] : Nat) = ys[j]) ∧ Hid (Own wr w1.heap.size Aq cq ((ys.map fun v => ((idxN l s v : Nat) : Int)).take k)) ∧ Hid (Blk wr w.heap.size 24 #[.int .i64 l, .int .i64 s]) ∧ Hid (Below w.heap.size w wr)) (fun _ i _ => ys.length - (intOf i).toNat)
  case atStart => exact ⟨0, _, 0, by omega, z2, rfl, rfl, (fun j hj h => absurd h (by omega)), O1.out, HB2.out, Hb2.out⟩
  case round =>
    clear O1 HB2 Hb2 z2
    obtain ⟨k, Aq, cq, hk, zr, rfl, rfl, hA, hO, HB, Hb⟩ := hrel
    have q0 := HB.out.cell 0
    have q1 := HB.out.cell 1
    simp at q0 q1
    by_cases hlt : k < ys.length
    · obtain ⟨ad, rfl, hbl, hcell⟩ := (RW.out.past Hb.out).at_ hlt
      have hc1 := hcell k hlt
      rw [getD_at hlt] at hc1
      have bx := seqOk_at HS.out hlt
      have bq := ls_bd Hq.out
      have hil := idxN_lt Hq.out ys[k]
      have bl := levW_bd Hq.out (i := ((idxN l s ys[k] : Nat) : Int)) (by omega) hil
      have HNk := Lib.hid (fun h => HN.out k hlt h)
      have TK : Hid ((ys.map fun v => ((idxN l s v : Nat) : Int)).take (k + 1) = (ys.map fun v => ((idxN l s v : Nat) : Int)).take k ++ [((idxN l s ys[k] : Nat) : Int)]) := by show _ = _; rw [List.take_succ_eq_append_getElem (by rw [List.length_map]; exact hlt)]; simp
      have lk : Hid (((ys.map fun v => ((idxN l s v : Nat) : Int)).take k).length = k) := by show _ = _; rw [List.length_take, List.length_map]; omega
      have HA2 : Hid (levW l s (idxN l s ys[k] : Nat) = ys[k] → ∀ j (hj : j < ys.length), j < k + 1 → levW l s (idxN l s ys[j] : Nat) = ys[j]) := fun h j hj hjk => by
        rcases Nat.lt_or_eq_of_le (Nat.le_of_lt_succ hjk) with q | q
        · exact hA.out j hj q
        · subst q; exact h
      obtain ⟨v, hv⟩ : ∃ v, v = ys[k] := ⟨_, rfl⟩
      rw [← hv] at hc1 bx hil bl HNk TK HA2
      have hix := Lib.hid (fun W => l2Index_yes l s v W Hq.out (by omega) (by omega))
      obtain ⟨i, hi⟩ : ∃ i : Nat, i = idxN l s v := ⟨_, rfl⟩
      rw [← hi] at hil bl HNk TK HA2 hix
      have hlv := Lib.hid (fun W => l2Level_any l s (i : Int) W Hq.out (by omega) hil)
      obtain ⟨x, hx⟩ : ∃ x, x = levW l s (i : Int) := ⟨_, rfl⟩
      rw [← hx] at hlv bl HNk HA2
      clear hcell hv hi hx
      have e1 : -l * s = -(l * s) := Int.neg_mul l s
      obtain ⟨P, hP⟩ : ∃ P, P = l * s := ⟨_, rfl⟩
      have eP : l * s = P := hP.symm
      rw [eP] at e1 bl bq
      have sP : IntKind.i64.wrap P = P := Go.IntWalk.i64_in _ (by omega)
      have sN : IntKind.i64.wrap (-P) = -P := Go.IntWalk.i64_in _ (by omega)
      clear hP
      rcases Bool.eq_false_or_eq_true (inB v (-P) P) with hin | hin
      rotate_left
      · have HE := Lib.hid (HNk.out (fun e => by rw [e] at bl; have : inB v (-P) P = true := inB_true (by omega) (by omega); rw [hin] at this; cases this))
        clear HNk HA2
        go_wp2_with fail
        refine (l1In_any _ _ _ _).mono ?_; rintro e w2 ⟨rfl, rfl⟩
        rw [hin]
        go_wp2
        go_ret2
        rw [HE.out]
        exact ⟨none, 0, rfl, own_nil _ _, Hb.out⟩
      go_wp2_with fail
      refine (l1In_any _ _ _ _).mono ?_; rintro e w2 ⟨rfl, rfl⟩
      rw [hin]
      go_wp2_with fail
      refine (hix.out _).mono ?_; rintro e w2 ⟨rfl, h2⟩
      have HB2 := Lib.hid (HB.out.past h2)
      have Hb2 := Lib.hid (thenB Hb.out h2)
      have O2 := Lib.hid (own_past hO.out h2)
      have z2 : w1.heap.size ≤ w2.heap.size := Nat.le_trans zr h2.size
      clear q0 q1 h2 HB Hb hO hix
      have q0 := HB2.out.cell 0
      have q1 := HB2.out.cell 1
      simp at q0 q1
      go_wp2_with fail
      refine (hlv.out _).mono ?_; rintro e w3 ⟨rfl, h3⟩
      have HB3 := Lib.hid (HB2.out.past h3)
      have Hb3 := Lib.hid (thenB Hb2.out h3)
      have O3 := Lib.hid (own_past O2.out h3)
      have z3 : w1.heap.size ≤ w3.heap.size := Nat.le_trans z2 h3.size
      clear q0 q1 h3 HB2 Hb2 O2 hc1 hlv
      by_cases hxv : x = v
      · subst hxv
        have t0 : (x != x) = false := by simp
        have HA3 := Lib.hid (HA2.out rfl)
        clear HNk HA2
        go_wp2_with (at_builtin; refine app_new rfl (.tmp 47) (.tmp 49) rfl w1.heap.size Aq cq k _ _ lk.out rfl O3.out rfl (by omega) z3 ?_)
        intro A4 c4 w4 O4 hw4 mv4
        have HB4 := Lib.hid (blk_wrote HB3.out hw4 (own_lo O3.out) z1)
        have Hb4 := Lib.hid (below_app Hb3.out hw4 (own_mono O3.out (Nat.le_of_lt z1)) Hb3.out.size)
        have z4 : w1.heap.size ≤ w4.heap.size := Nat.le_trans z3 hw4.size
        have HO4 := Lib.hid O4
        clear hw4 mv4 O4 HB3 Hb3 O3
        go_wp2
        go_roundw
        case rel => exact ⟨k + 1, A4, c4, by omega, z4, by go_num, rfl, HA3.out, by rw [TK.out]; exact HO4.out, HB4.out, Hb4.out⟩
        case measure => simp [intOf]; omega
      · have HE := Lib.hid (HNk.out hxv)
        have t0 : (x != v) = true := by simpa using hxv
        clear HNk HA2 hxv
        go_wp2
        go_ret2
        rw [HE.out]
        exact ⟨none, 0, rfl, own_nil _ _, Hb3.out⟩
    · obtain rfl : k = ys.length := by omega
      have hO' := hO.out
      rw [List.take_of_length_le (by rw [List.length_map]; exact Nat.le_refl _)] at hO'
      have HO' := Lib.hid hO'
      have HE := Lib.hid (HYs.out (fun j hj => hA.out j hj hj))
      clear hO' hO hA
      go_wp2
      go_ret2
      rw [HE.out]
      exact ⟨Aq, cq, by rw [List.length_map]; rfl, own_mono HO'.out (Nat.le_of_lt z1), Hb.out⟩
end Go.Proofs.YtgkijkenbjjnmaaGreatDoor
