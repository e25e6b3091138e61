/- Contract of the program's RunModulator: for all arguments. -/
import Derived.Test.YtgkijkenbjjnmaaGreatDoorMod
import Derived.Test.YtgkijkenbjjnmaaGreatDoorMat
namespace Go.Proofs.YtgkijkenbjjnmaaGreatDoor
open Go.RowKit
set_option linter.unusedVariables false
set_option linter.unusedSimpArgs false
def RetRM (w : World) (x : RMd) (e : Ending) (w' : World) : Prop :=
  ∃ A0 c0 A1 c1 A2 c2, e = .returned (.tuple #[.slice A0 x.y.length c0, .slice A1 x.e.length c1, .slice A2 x.m.length c2, .bool x.ok]) ∧ Own w' w.heap.size A0 c0 x.y ∧ Own w' w.heap.size A1 c1 x.e ∧ Own w' w.heap.size A2 c2 x.m ∧ Apart A0 A1 ∧ Apart A0 A2 ∧ Apart A1 A2 ∧ Below w.heap.size w w'
theorem retRM_no {w w' : World} (h : Below w.heap.size w w') : RetRM w ⟨[], [], [], false⟩ (.returned (.tuple #[.slice none 0 0, .slice none 0 0, .slice none 0 0, .bool false])) w' :=
  ⟨none, 0, none, 0, none, 0, rfl, own_nil _ _, own_nil _ _, own_nil _ _, (fun a a' e => by cases e), (fun a a' e => by cases e), (fun a a' e => by cases e), h⟩
theorem results_four {fn : Func} {t u v x : Tmp} (h : fn.results = #[.tmp t, .tmp u, .tmp v, .tmp x]) (tmps : Array Value) (P : Program) (w : World) :
    (results fn tmps).run P w = .ok (.tuple #[tmps.getD t undef, tmps.getD u undef, tmps.getD v undef, tmps.getD x undef]) w := by
  simp [results, h, go_sem]
set_option maxHeartbeats 1000000 in
theorem implRunM_yes (l s : Int) (A : Option Addr) (c : Nat) (cs : List Int) (A' : Option Addr) (c' : Nat) (mem : List Int) (X : Option Addr) (cx : Nat) (xs : List Int) (w : World) (hr : Rd w w.heap.size A cs) (hr' : Rd w w.heap.size A' mem) (hx : Rd w w.heap.size X xs) (h : memOk l s cs mem = true) (hs : seqOk xs = true) :
    Calls Tryz.prog 50 #[.agg #[.int .i64 l, .int .i64 s, .slice A cs.length c], .slice A' mem.length c', .slice X xs.length cx] w (RetRM w (runM l s cs mem xs)) := by
  obtain ⟨m1, m2, m3⟩ := mem_parts h
  obtain ⟨m4, m5, m6, m7⟩ := mod_parts m1
  have hlx := seqOk_len hs
  have hb0 : Below w.heap.size w (w.alloc (.cells #[.int .i64 l, .int .i64 s, .slice A cs.length c] 27)) := (Below.refl _ _).alloc (Nat.le_refl _) _
  have HB0 := Lib.hid (Blk.new w 27 #[.int .i64 l, .int .i64 s, .slice A cs.length c])
  have Hb0 := Lib.hid hb0
  have R0 := Lib.hid (hr.past hb0)
  have R0' := Lib.hid (hr'.past hb0)
  have X0 := Lib.hid (hx.past hb0)
  have q0 := HB0.out.cell 0
  have q1 := HB0.out.cell 1
  have q2 := HB0.out.cell 2
  simp at q0 q1 q2
  have HH := Lib.hid h
  have RW := Lib.hid hr
  have XW := Lib.hid hx
  have HL := Lib.hid m2
  have hmb : mem.length ≤ 6 := by omega
  clear hb0 hr hr' hx m4 m2
  go_enter Tryz.func50, Tryz.ntmps50
  go_wp2_with fail
  refine (implIsMemory_any l s A c cs A' c' mem _ R0.out R0'.out (by omega) (by omega)).mono ?_; rintro e w1 ⟨rfl, h3⟩
  rw [HH.out]
  have HB1 := Lib.hid (HB0.out.past h3)
  have Hb1 := Lib.hid (thenB Hb0.out h3)
  have R1 := Lib.hid (R0.out.past h3)
  have R1' := Lib.hid (R0'.out.past h3)
  have X1 := Lib.hid (X0.out.past h3)
  clear q0 q1 q2 h3 HB0 R0 R0' Hb0 X0
  go_wp2_with fail
  refine (implIsSequence_any _ _ _ _ X1.out (by omega)).mono ?_; rintro e w2 ⟨rfl, rfl⟩
  obtain ⟨p1, p2, p3⟩ := two_empty w1
  have P1 := Lib.hid p1
  have P2 := Lib.hid p2
  have HB2 := Lib.hid (HB1.out.past p3)
  have Hb2 := Lib.hid (thenB Hb1.out p3)
  have R2 := Lib.hid (R1.out.past p3)
  have R2' := Lib.hid (R1'.out.past p3)
  have X2 := Lib.hid (X1.out.past p3)
  have z1 : w.heap.size < w1.heap.size := HB1.out.lt
  clear p1 p2 p3 HB1 R1 R1' X1
  go_wp2_with fail
  refine (clone_any A' c' mem _ R2'.out (by omega)).mono ?_; rintro e w3 ⟨An, cn, rfl, On, h3⟩
  have HB3 := Lib.hid (HB2.out.past h3)
  have Hb3 := Lib.hid (thenB Hb2.out h3)
  have P1' := Lib.hid (own_past P1.out h3)
  have P2' := Lib.hid (own_past P2.out h3)
  have On' := Lib.hid (own_mono On (show w1.heap.size ≤ _ by simp; omega))
  have z2 : w1.heap.size ≤ w3.heap.size := Nat.le_trans (by simp; omega) h3.size
  have ap1 : Hid (Apart (some ⟨w1.heap.size, 0, none⟩) An) := apart_lt (own_hi P1.out) (own_lo On) (Nat.le_refl _)
  have ap2 : Hid (Apart (some ⟨w1.heap.size + 1, 0, none⟩) An) := apart_lt (own_hi P2.out) (own_lo On) (Nat.le_refl _)
  have hml : mem.length = cs.length := HL.out
  rw [hml]
  clear On h3 HB2 R2 R2' X2 P1 P2 Hb1 Hb2 hml
  go_wp2_with fail
  go_loopw [10, 11, 12, 33] (fun y e nw i wr => ∃ (k : Nat) (A0 : Option Addr) (c0 : Nat) (A1 : Option Addr) (c1 : Nat) (A2 : Option Addr) (c2 : Nat), k ≤ xs.length ∧ w1.heap.size ≤ wr.heap.size ∧ i = .int .i64 k ∧ y = .slice A0 k c0 ∧ e = .slice A1 k c1 ∧ nw = .slice A2 cs.length c2 ∧ Hid (ErrTo l s cs mem xs k) ∧ Hid (Own wr w1.heap.size A0 c0 ((runY l s cs mem xs).take k)) ∧ Hid (Own wr w1.heap.size A1 c1 ((runE l s cs mem xs).take k)) ∧ Hid (Own wr w1.heap.size A2 c2 (memTo l s cs mem xs k)) ∧ Hid (Apart A0 A1) ∧ Hid (Apart A0 A2) ∧ Hid (Apart A1 A2) ∧ Hid (Blk wr w.heap.size 27 #[.int .i64 l, .int .i64 s, .slice A cs.length c]) ∧ Hid (Below w.heap.size w wr)) (fun _ _ _ i _ => xs.length - (intOf i).toNat)
  case atStart => exact ⟨0, _, 0, _, 0, An, cn, by omega, z2, rfl, rfl, rfl, rfl, errTo_zero _ _ _ _ _, P1'.out, P2'.out, On'.out, apart_two _ _ (by omega), ap1.out, ap2.out, HB3.out, Hb3.out⟩
  case round =>
    clear P1' P2' On' ap1 ap2
    obtain ⟨k, A0, c0, A1, c1, A2, c2, hk, zr, rfl, rfl, rfl, rfl, hE, O0, O1, O2, a01, a02, a12, HB, Hb⟩ := hrel
    have q0 := HB.out.cell 0
    have q1 := HB.out.cell 1
    have q2 := HB.out.cell 2
    simp at q0 q1 q2
    have Rc := Lib.hid (RW.out.past Hb.out)
    by_cases hlt : k < xs.length
    · obtain ⟨ad, rfl, hbl, hcell⟩ := (XW.out.past Hb.out).at_ hlt
      have hc1 := hcell k hlt
      rw [getD_at hlt] at hc1
      have hok := memTo_ok HH.out k hE.out
      have hcap := (own_cap O2.out).1
      have bx := seqOk_at hs hlt
      have HE1 : Hid (modE l s cs (memTo l s cs mem xs k) xs[k] = outE l s cs mem xs k) := by show _ = _; unfold outE; rw [getD_at hlt]
      have HY1 : Hid (modY l s cs (memTo l s cs mem xs k) xs[k] = outY l s cs mem xs k) := by show _ = _; unfold outY; rw [getD_at hlt]
      have HP : Hid (memTo l s cs mem xs (k + 1) = push (memTo l s cs mem xs k) (outE l s cs mem xs k)) := rfl
      have TY := Lib.hid (runY_take (l := l) (s := s) (cs := cs) (mem := mem) hlt)
      have TE := Lib.hid (runE_take (l := l) (s := s) (cs := cs) (mem := mem) hlt)
      have lY : Hid (((runY l s cs mem xs).take k).length = k) := by show _ = _; rw [List.length_take, runY_length]; omega
      have lE : Hid (((runE l s cs mem xs).take k).length = k) := by show _ = _; rw [List.length_take, runE_length]; omega
      have HN2 : Hid ((memTo l s cs mem xs (k + 1)).length = cs.length) := by show _ = _; rw [memTo_length (by rw [HL.out]; exact m6)]; exact HL.out
      have HNO : Hid (sampleB (outE l s cs mem xs k) = false → runM l s cs mem xs = ⟨[], [], [], false⟩) := fun hq => runM_no (by simp [runsOk, runE_no hlt hq])
      have HYES : Hid (sampleB (outE l s cs mem xs k) = true → ErrTo l s cs mem xs (k + 1)) := fun hq => errTo_step hE.out hq
      obtain ⟨x, hxe⟩ : ∃ x, x = xs[k] := ⟨_, rfl⟩
      rw [← hxe] at hc1 bx HE1 HY1
      have hcall := fun bb hb => stepM_both l s A c cs A2 c2 (memTo l s cs mem xs k) x wr Rc.out (own_rd O2.out) hok hcap bx.1 bx.2 bb hb
      rw [HE1.out, HY1.out, ← HP.out] at hcall
      have Hc := Lib.hid hcall
      obtain ⟨M, hM⟩ : ∃ M, M = memTo l s cs mem xs k := ⟨_, rfl⟩
      obtain ⟨M3, hM3⟩ : ∃ M3, M3 = memTo l s cs mem xs (k + 1) := ⟨_, rfl⟩
      obtain ⟨y, hy⟩ : ∃ y, y = outY l s cs mem xs k := ⟨_, rfl⟩
      obtain ⟨e, he⟩ : ∃ e, e = outE l s cs mem xs k := ⟨_, rfl⟩
      have HM3 := Lib.hid hM3
      rw [← hM3] at Hc HP HN2
      rw [← hy] at Hc TY
      rw [← he] at Hc TE HP HNO HYES
      clear hcall hxe hM3 hy he HE1 HY1 hcell hok
      rcases Bool.eq_false_or_eq_true (sampleB e) with hq | hq
      · have HQ := HYES.out hq
        have Hc2 : Hid (Calls Tryz.prog 94 #[.agg #[.int .i64 l, .int .i64 s, .slice A cs.length c], .slice A2 cs.length c2, .int .i64 x] wr (RetStepM cs.length y M3 wr)) := (Hc.out true hq).mono fun _ _ h => h
        have HQ2 := Lib.hid HQ
        clear Hc HYES HNO HQ hE
        go_wp2_with fail
        refine Hc2.out.mono ?_
        rintro _ w4 ⟨A3, c3, rfl, O3, h4⟩
        have HB4 := Lib.hid (HB.out.past h4)
        have Hb4 := Lib.hid (thenB Hb.out h4)
        have h4s := h4.size
        have a03 := Lib.hid (apart_lt (own_hi O0.out) (own_lo O3) (Nat.le_refl _))
        have a13 := Lib.hid (apart_lt (own_hi O1.out) (own_lo O3) (Nat.le_refl _))
        have O0' := Lib.hid (own_past O0.out h4)
        have O1' := Lib.hid (own_past O1.out h4)
        have O3' := Lib.hid (own_mono O3 zr)
        clear q0 q1 q2 O0 O1 O2 a02 a12 HB O3 Hc2 Hb hc1 h4 Rc
        go_wp2_with (at_builtin; refine app_new rfl (.tmp 48) (.tmp 50) rfl w1.heap.size A0 c0 k _ y lY.out rfl O0'.out rfl (by omega) (Nat.le_trans zr h4s) ?_)
        intro A0' c0' w5 O05 hw5 mv5
        have O15 := Lib.hid (own_wrote O1'.out hw5 (apart_symm a01.out))
        have O35 := own_wrote O3'.out hw5 (apart_symm a03.out)
        have HB5 := Lib.hid (blk_wrote HB4.out hw5 (own_lo O0'.out) z1)
        have Hb5 := Lib.hid (below_app Hb4.out hw5 (own_mono O0'.out (Nat.le_of_lt z1)) Hb4.out.size)
        have a01' := Lib.hid (apart_moved a01.out mv5 (own_hi O1'.out))
        have a03' := Lib.hid (apart_moved a03.out mv5 (own_hi O3'.out))
        have z5 : w1.heap.size ≤ w5.heap.size := Nat.le_trans zr (Nat.le_trans h4s hw5.size)
        have HO5 := Lib.hid O05
        have hj : 0 < M3.length := by rw [HN2.out]; exact m6
        obtain ⟨g, rfl, _, _⟩ := own_head O35 hj
        have qv := own_cell O35 hj
        have ev : M3.getD 0 0 = e := by rw [HP.out]; rfl
        rw [ev] at qv
        have HO35 := Lib.hid O35
        clear hw5 mv5 O05 O35 HB4 Hb4 O0' O1' O3' ev hj a03 a01
        go_wp2_with (at_builtin; refine app_new rfl (.tmp 52) (.tmp 56) rfl w1.heap.size A1 c1 k _ e lE.out rfl O15.out rfl (by omega) z5 ?_)
        intro A1' c1' w6 O16 hw6 mv6
        have O06 := Lib.hid (own_wrote HO5.out hw6 a01'.out)
        have O36 := Lib.hid (own_wrote HO35.out hw6 (apart_symm a13.out))
        have HB6 := Lib.hid (blk_wrote HB5.out hw6 (own_lo O15.out) z1)
        have Hb6 := Lib.hid (below_app Hb5.out hw6 (own_mono O15.out (Nat.le_of_lt z1)) Hb5.out.size)
        have n01 := Lib.hid (apart_symm (apart_moved (apart_symm a01'.out) mv6 (own_hi HO5.out)))
        have n13 := Lib.hid (apart_moved a13.out mv6 (own_hi HO35.out))
        have z6 : w1.heap.size ≤ w6.heap.size := Nat.le_trans z5 hw6.size
        have HO16 := Lib.hid O16
        clear hw6 mv6 O16 HB5 Hb5 HO5 HO35 O15 qv
        go_wp2
        go_roundw
        case rel => exact ⟨k + 1, A0', c0', A1', c1', _, c3, by omega, z6, by go_num, rfl, rfl, rfl, HQ2.out, by rw [TY.out]; exact O06.out, by rw [TE.out]; exact HO16.out, by rw [← HM3.out]; exact O36.out, n01.out, a03'.out, n13.out, HB6.out, Hb6.out⟩
        case measure => simp [intOf]; omega
      · have HY := Lib.hid (HNO.out hq)
        have Hc2 : Hid (Calls Tryz.prog 94 #[.agg #[.int .i64 l, .int .i64 s, .slice A cs.length c], .slice A2 cs.length c2, .int .i64 x] wr (RetStepNo wr)) := (Hc.out false hq).mono fun _ _ h => h
        clear Hc HYES HNO hE
        go_wp2_with fail
        refine Hc2.out.mono ?_
        rintro _ w4 ⟨rfl, h4⟩
        go_wp2
        refine bodyPost_ret (results_four rfl _ _ _) rfl ?_
        rw [HY.out]
        exact retRM_no (thenB Hb.out h4)
    · obtain rfl : k = xs.length := by omega
      have HY : Hid (runM l s cs mem xs = ⟨runY l s cs mem xs, runE l s cs mem xs, memTo l s cs mem xs xs.length, true⟩) := runM_yes (runsOk_of HH.out hs hE.out)
      have O0' := O0.out
      have O1' := O1.out
      rw [List.take_of_length_le (by rw [runY_length]; exact Nat.le_refl _)] at O0'
      rw [List.take_of_length_le (by rw [runE_length]; exact Nat.le_refl _)] at O1'
      have HN2 : Hid ((memTo l s cs mem xs xs.length).length = cs.length) := by show _ = _; rw [memTo_length (by rw [HL.out]; exact m6)]; exact HL.out
      have P0 := Lib.hid O0'
      have P1 := Lib.hid O1'
      clear O0' O1' O0 O1 Rc
      go_wp2_with fail
      refine bodyPost_ret (results_four rfl _ _ _) rfl ?_
      rw [HY.out]
      exact ⟨A0, c0, A1, c1, A2, c2, by rw [runY_length, runE_length, HN2.out]; rfl, own_mono P0.out (Nat.le_of_lt z1), own_mono P1.out (Nat.le_of_lt z1), own_mono O2.out (Nat.le_of_lt z1), a01.out, a02.out, a12.out, Hb.out⟩
end Go.Proofs.YtgkijkenbjjnmaaGreatDoor
