/- The program's StepAccumulator returns what the reference's returns, for all arguments. No condition. -/
import Derived.Test.YteabibkbmigpaaaStep
namespace Go.Proofs.Yteabibkbmigpaaa.stepAccumulator
open Go.ChangeShapes Go.WideShapes Go.ChangeAt Go.RowKit
set_option linter.unusedVariables false
set_option linter.unusedSimpArgs false
theorem specS_any (o m : Int) (A : Option Addr) (c : Nat) (s : List Int) (x : Int) (w : World) (hr : Rd w w.heap.size A s) (hn : s.length ≤ 1048576) :
    Calls Try.prog 26 #[.agg #[.int .i64 o, .int .i64 m], .slice A s.length c, .int .i64 x] w (RetLLB w (stepA o m s x)) := specStepAccumulator_any A o m c s x w hr hn
theorem implS_any (o m : Int) (A : Option Addr) (c : Nat) (s : List Int) (x : Int) (w : World) (hr : Rd w w.heap.size A s) (hn : s.length ≤ 1048576) :
    Calls Try.prog 29 #[.agg #[.int .i64 o, .int .i64 m], .slice A s.length c, .int .i64 x] w (RetLLB w (stepA o m s x)) := implStepAccumulator_any A o m c s x w hr hn
theorem len1 (o m : Int) (s : List Int) (x : Int) : (stepA o m s x).c.length ≤ 6 := (stepA_len o m s x).1
theorem len2 (o m : Int) (s : List Int) (x : Int) : (stepA o m s x).n.length ≤ 6 := (stepA_len o m s x).2
set_option maxRecDepth 100000 in
set_option maxHeartbeats 2000000 in
theorem walkw (w : World) (a0 b0 : Int) (x0 : -9223372036854775808 ≤ a0 ∧ a0 ≤ 9223372036854775807 ∧ -9223372036854775808 ≤ b0 ∧ b0 ≤ 9223372036854775807) (A1 : Option Addr) (z1 : List Int) (c1 : Nat) (l1 : z1.length ≤ c1) (m1 : c1 ≤ maxLen) (r1 : Rd w w.heap.size A1 z1) (i1 : I64 z1) (a2 : Int) (x2 : -9223372036854775808 ≤ a2) (y2 : a2 ≤ 9223372036854775807) :
    Calls Try.prog 4 #[.agg #[.int .i64 a0, .int .i64 b0], .slice A1 z1.length c1, .int .i64 a2] w fun e w' => e = .returned (.bool true) ∧ Below w.heap.size w w' := by
  clear x0
  unfold maxLen at m1
  have I1 := Lib.hid i1
  clear i1
  clear x2 y2
  by_cases n1 : z1.length ≤ 1048576
  case neg =>
    have n1x : 1048576 < z1.length := by omega
    clear n1
    go_enter Try.func4, Try.ntmps4
    go_wp2
    go_ret
    exact ⟨rfl, (Below.refl _ _).alloc (by simp) _⟩
  have Hb : Hid (Below w.heap.size w w) := Below.refl _ _
  have bx : Below w.heap.size w (w.alloc (.cells #[.int .i64 a0, .int .i64 b0] 42)) := (Below.refl _ _).alloc (Nat.le_refl _) _
  have B0 := Blk.new w 42 #[.int .i64 a0, .int .i64 b0]
  have VB0 : w.heap.size < (w.alloc (.cells #[.int .i64 a0, .int .i64 b0] 42)).heap.size := by simp
  replace Hb := Lib.hid (thenB Hb.out bx)
  clear bx
  go_enter Try.func4, Try.ntmps4
  have B0c0 := B0.cell 0
  have B0c1 := B0.cell 1
  simp at B0c0 B0c1
  go_wp2_with fail
  refine (toAccumulator_any a0 b0 _).mono ?_
  rintro e w1 ⟨rfl, h1⟩
  replace B0 := B0.past h1
  replace Hb := Lib.hid (thenB Hb.out h1)
  have t2 : (w.alloc (.cells #[.int .i64 a0, .int .i64 b0] 42)).heap.size ≤ w1.heap.size := h1.size
  clear h1
  clear B0c0 B0c1
  have B0c0 := B0.cell 0
  have B0c1 := B0.cell 1
  simp at B0c0 B0c1
  go_wp2_with fail
  refine (toIntS_any A1 c1 z1 _ (r1.past Hb.out) (by omega)).mono ?_
  rintro e w2 ⟨Ak1a, ck1a, rfl, Ok1a, h2⟩
  replace B0 := B0.past h2
  replace Hb := Lib.hid (thenB Hb.out h2)
  have t4 : w1.heap.size ≤ w2.heap.size := h2.size
  have Lk1a := own_lo Ok1a
  have Uk1a := own_hi Ok1a
  clear h2
  clear B0c0 B0c1
  have B0c0 := B0.cell 0
  have B0c1 := B0.cell 1
  simp at B0c0 B0c1
  go_wp2_with fail
  refine (specS_any a0 b0 Ak1a ck1a z1 a2 _ (own_rd Ok1a) (by omega)).mono ?_
  rintro e w3 ⟨Aw0a, cw0a, Aw1a, cw1a, rfl, Ow0a, Ow1a, Pw0aw1a, h3⟩
  replace Ok1a := own_past Ok1a h3
  replace B0 := B0.past h3
  replace Hb := Lib.hid (thenB Hb.out h3)
  have t6 : w2.heap.size ≤ w3.heap.size := h3.size
  have Lw0a := own_lo Ow0a
  have Uw0a := own_hi Ow0a
  have Lw1a := own_lo Ow1a
  have Uw1a := own_hi Ow1a
  clear h3
  clear B0c0 B0c1
  have B0c0 := B0.cell 0
  have B0c1 := B0.cell 1
  simp at B0c0 B0c1
  go_wp2_with fail
  refine (toIntS_any A1 c1 z1 _ (r1.past Hb.out) (by omega)).mono ?_
  rintro e w4 ⟨Ak2a, ck2a, rfl, Ok2a, h4⟩
  replace Ok1a := own_past Ok1a h4
  replace Ow0a := own_past Ow0a h4
  replace Ow1a := own_past Ow1a h4
  replace B0 := B0.past h4
  replace Hb := Lib.hid (thenB Hb.out h4)
  have t8 : w3.heap.size ≤ w4.heap.size := h4.size
  have Lk2a := own_lo Ok2a
  have Uk2a := own_hi Ok2a
  clear h4
  clear B0c0 B0c1
  have B0c0 := B0.cell 0
  have B0c1 := B0.cell 1
  simp at B0c0 B0c1
  go_wp2_with fail
  refine (toAccumulator_any a0 b0 _).mono ?_
  rintro e w5 ⟨rfl, h5⟩
  replace Ok1a := own_past Ok1a h5
  replace Ow0a := own_past Ow0a h5
  replace Ow1a := own_past Ow1a h5
  replace Ok2a := own_past Ok2a h5
  replace B0 := B0.past h5
  replace Hb := Lib.hid (thenB Hb.out h5)
  have t10 : w4.heap.size ≤ w5.heap.size := h5.size
  clear h5
  clear B0c0 B0c1
  have B0c0 := B0.cell 0
  have B0c1 := B0.cell 1
  simp at B0c0 B0c1
  go_wp2_with fail
  refine (implS_any a0 b0 Ak2a ck2a z1 a2 _ (own_rd Ok2a) (by omega)).mono ?_
  rintro e w6 ⟨Ag0a, cg0a, Ag1a, cg1a, rfl, Og0a, Og1a, Pg0ag1a, h6⟩
  replace Ok1a := own_past Ok1a h6
  replace Ow0a := own_past Ow0a h6
  replace Ow1a := own_past Ow1a h6
  replace Ok2a := own_past Ok2a h6
  replace B0 := B0.past h6
  replace Hb := Lib.hid (thenB Hb.out h6)
  have t12 : w5.heap.size ≤ w6.heap.size := h6.size
  have Lg0a := own_lo Og0a
  have Ug0a := own_hi Og0a
  have Lg1a := own_lo Og1a
  have Ug1a := own_hi Og1a
  clear h6
  clear B0c0 B0c1
  have B0c0 := B0.cell 0
  have B0c1 := B0.cell 1
  simp at B0c0 B0c1
  go_wp2_with fail
  refine (eqIntS_same Ag0a Aw0a cg0a cw0a ((stepA a0 b0 z1 a2).c)  _ (own_rd Og0a) (own_rd Ow0a) (by have := len1 a0 b0 z1 a2; omega)).mono ?_
  rintro e w7 ⟨rfl, h7⟩
  replace Ok1a := own_past Ok1a h7
  replace Ow0a := own_past Ow0a h7
  replace Ow1a := own_past Ow1a h7
  replace Ok2a := own_past Ok2a h7
  replace Og0a := own_past Og0a h7
  replace Og1a := own_past Og1a h7
  replace B0 := B0.past h7
  replace Hb := Lib.hid (thenB Hb.out h7)
  have t14 : w6.heap.size ≤ w7.heap.size := h7.size
  clear h7
  clear B0c0 B0c1
  have B0c0 := B0.cell 0
  have B0c1 := B0.cell 1
  simp at B0c0 B0c1
  go_wp2_with fail
  refine (eqIntS_same Ag1a Aw1a cg1a cw1a ((stepA a0 b0 z1 a2).n)  _ (own_rd Og1a) (own_rd Ow1a) (by have := len2 a0 b0 z1 a2; omega)).mono ?_
  rintro e w8 ⟨rfl, h8⟩
  replace Ok1a := own_past Ok1a h8
  replace Ow0a := own_past Ow0a h8
  replace Ow1a := own_past Ow1a h8
  replace Ok2a := own_past Ok2a h8
  replace Og0a := own_past Og0a h8
  replace Og1a := own_past Og1a h8
  replace B0 := B0.past h8
  replace Hb := Lib.hid (thenB Hb.out h8)
  have t16 : w7.heap.size ≤ w8.heap.size := h8.size
  clear h8
  clear B0c0 B0c1
  have B0c0 := B0.cell 0
  have B0c1 := B0.cell 1
  simp at B0c0 B0c1
  go_wp2_with fail
  refine (toIntS_any A1 c1 z1 _ (r1.past Hb.out) (by omega)).mono ?_
  rintro e w9 ⟨Ak3a, ck3a, rfl, Ok3a, h9⟩
  replace Ok1a := own_past Ok1a h9
  replace Ow0a := own_past Ow0a h9
  replace Ow1a := own_past Ow1a h9
  replace Ok2a := own_past Ok2a h9
  replace Og0a := own_past Og0a h9
  replace Og1a := own_past Og1a h9
  replace B0 := B0.past h9
  replace Hb := Lib.hid (thenB Hb.out h9)
  have t18 : w8.heap.size ≤ w9.heap.size := h9.size
  have Lk3a := own_lo Ok3a
  have Uk3a := own_hi Ok3a
  clear h9
  clear B0c0 B0c1
  have B0c0 := B0.cell 0
  have B0c1 := B0.cell 1
  simp at B0c0 B0c1
  go_wp2_with fail
  refine (eqIntS_same Ak2a Ak3a ck2a ck3a _ _ (own_rd Ok2a) (own_rd Ok3a) (by omega)).mono ?_
  rintro e w10 ⟨rfl, h10⟩
  replace Ok1a := own_past Ok1a h10
  replace Ow0a := own_past Ow0a h10
  replace Ow1a := own_past Ow1a h10
  replace Ok2a := own_past Ok2a h10
  replace Og0a := own_past Og0a h10
  replace Og1a := own_past Og1a h10
  replace Ok3a := own_past Ok3a h10
  replace B0 := B0.past h10
  replace Hb := Lib.hid (thenB Hb.out h10)
  have t20 : w9.heap.size ≤ w10.heap.size := h10.size
  clear h10
  have q00 := len1 a0 b0 z1 a2
  have q10 := len2 a0 b0 z1 a2
  clear B0c0 B0c1
  have B0c0 := B0.cell 0
  have B0c1 := B0.cell 1
  simp at B0c0 B0c1
  go_wp2_with fail
  refine (markIntS_any Ak2a _ ck2a (z1)  (1) _ Ok2a  (by omega) (by omega) (by omega)).mono ?_
  rintro e w11 ⟨rfl, Ok2a, h11a⟩
  replace Ok1a := own_wrote Ok1a h11a (apart_lt Uk1a Lk2a (by omega))
  replace Ow0a := own_wrote Ow0a h11a (apart_lt Uw0a Lk2a (by omega))
  replace Ow1a := own_wrote Ow1a h11a (apart_lt Uw1a Lk2a (by omega))
  replace Og0a := own_wrote Og0a h11a (apart_gt Lg0a Uk2a (by omega))
  replace Og1a := own_wrote Og1a h11a (apart_gt Lg1a Uk2a (by omega))
  replace Ok3a := own_wrote Ok3a h11a (apart_gt Lk3a Uk2a (by omega))
  replace B0 := blk_wrote B0 h11a Lk2a (by omega)
  replace Hb := Lib.hid (Hb.out.trans (below_wrote h11a Hb.out.size (lo_le Lk2a (by omega))))
  have t22 : w10.heap.size ≤ w11.heap.size := h11a.size
  clear h11a
  clear B0c0 B0c1
  have B0c0 := B0.cell 0
  have B0c1 := B0.cell 1
  simp at B0c0 B0c1
  go_wp2_with fail
  refine (eqIntS_same Ag0a Aw0a cg0a cw0a ((stepA a0 b0 z1 a2).c)  _ (own_rd Og0a) (own_rd Ow0a) (by have := len1 a0 b0 z1 a2; omega)).mono ?_
  rintro e w12 ⟨rfl, h12⟩
  replace Ok1a := own_past Ok1a h12
  replace Ow0a := own_past Ow0a h12
  replace Ow1a := own_past Ow1a h12
  replace Ok2a := own_past Ok2a h12
  replace Og0a := own_past Og0a h12
  replace Og1a := own_past Og1a h12
  replace Ok3a := own_past Ok3a h12
  replace B0 := B0.past h12
  replace Hb := Lib.hid (thenB Hb.out h12)
  have t23 : w11.heap.size ≤ w12.heap.size := h12.size
  clear h12
  clear B0c0 B0c1
  have B0c0 := B0.cell 0
  have B0c1 := B0.cell 1
  simp at B0c0 B0c1
  go_wp2_with fail
  refine (eqIntS_same Ag1a Aw1a cg1a cw1a ((stepA a0 b0 z1 a2).n)  _ (own_rd Og1a) (own_rd Ow1a) (by have := len2 a0 b0 z1 a2; omega)).mono ?_
  rintro e w13 ⟨rfl, h13⟩
  replace Ok1a := own_past Ok1a h13
  replace Ow0a := own_past Ow0a h13
  replace Ow1a := own_past Ow1a h13
  replace Ok2a := own_past Ok2a h13
  replace Og0a := own_past Og0a h13
  replace Og1a := own_past Og1a h13
  replace Ok3a := own_past Ok3a h13
  replace B0 := B0.past h13
  replace Hb := Lib.hid (thenB Hb.out h13)
  have t25 : w12.heap.size ≤ w13.heap.size := h13.size
  clear h13
  clear B0c0 B0c1
  have B0c0 := B0.cell 0
  have B0c1 := B0.cell 1
  simp at B0c0 B0c1
  go_wp2_with fail
  refine (markIntS_any Ag0a _ cg0a ((stepA a0 b0 z1 a2).c)  (1) _ Og0a  (by omega) (by omega) (by omega)).mono ?_
  rintro e w14 ⟨rfl, Og0a, h14a⟩
  replace Ok1a := own_wrote Ok1a h14a (apart_lt Uk1a Lg0a (by omega))
  replace Ow0a := own_wrote Ow0a h14a (apart_lt Uw0a Lg0a (by omega))
  replace Ow1a := own_wrote Ow1a h14a (apart_lt Uw1a Lg0a (by omega))
  replace Ok2a := own_wrote Ok2a h14a (apart_lt Uk2a Lg0a (by omega))
  replace Og1a := own_wrote Og1a h14a (apart_symm Pg0ag1a)
  replace Ok3a := own_wrote Ok3a h14a (apart_gt Lk3a Ug0a (by omega))
  replace B0 := blk_wrote B0 h14a Lg0a (by omega)
  replace Hb := Lib.hid (Hb.out.trans (below_wrote h14a Hb.out.size (lo_le Lg0a (by omega))))
  have t27 : w13.heap.size ≤ w14.heap.size := h14a.size
  clear h14a
  clear B0c0 B0c1
  have B0c0 := B0.cell 0
  have B0c1 := B0.cell 1
  simp at B0c0 B0c1
  go_wp2_with fail
  refine (markIntS_any Ag1a _ cg1a ((stepA a0 b0 z1 a2).n)  (1 + ((stepA a0 b0 z1 a2).c).length) _ Og1a  (by omega) (by omega) (by omega)).mono ?_
  rintro e w15 ⟨rfl, Og1a, h15a⟩
  replace Ok1a := own_wrote Ok1a h15a (apart_lt Uk1a Lg1a (by omega))
  replace Ow0a := own_wrote Ow0a h15a (apart_lt Uw0a Lg1a (by omega))
  replace Ow1a := own_wrote Ow1a h15a (apart_lt Uw1a Lg1a (by omega))
  replace Ok2a := own_wrote Ok2a h15a (apart_lt Uk2a Lg1a (by omega))
  replace Og0a := own_wrote Og0a h15a (Pg0ag1a)
  replace Ok3a := own_wrote Ok3a h15a (apart_gt Lk3a Ug1a (by omega))
  replace B0 := blk_wrote B0 h15a Lg1a (by omega)
  replace Hb := Lib.hid (Hb.out.trans (below_wrote h15a Hb.out.size (lo_le Lg1a (by omega))))
  have t28 : w14.heap.size ≤ w15.heap.size := h15a.size
  clear h15a
  clear B0c0 B0c1
  have B0c0 := B0.cell 0
  have B0c1 := B0.cell 1
  simp at B0c0 B0c1
  go_wp2_with fail
  refine (heldIntS_any Ag0a cg0a _  (1) _ (own_rd Og0a) (by omega) (by omega) (by omega)).mono ?_
  rintro e w16 ⟨rfl, rfl⟩
  clear B0c0 B0c1
  have B0c0 := B0.cell 0
  have B0c1 := B0.cell 1
  simp at B0c0 B0c1
  go_wp2_with fail
  refine (heldIntS_any Ag1a cg1a _  (1 + ((stepA a0 b0 z1 a2).c).length) _ (own_rd Og1a) (by omega) (by omega) (by omega)).mono ?_
  rintro e w16 ⟨rfl, rfl⟩
  clear B0c0 B0c1
  have B0c0 := B0.cell 0
  have B0c1 := B0.cell 1
  simp at B0c0 B0c1
  go_wp2_with fail
  refine (toAccumulator_any a0 b0 _).mono ?_
  rintro e w16 ⟨rfl, h16⟩
  replace Ok1a := own_past Ok1a h16
  replace Ow0a := own_past Ow0a h16
  replace Ow1a := own_past Ow1a h16
  replace Ok2a := own_past Ok2a h16
  replace Og0a := own_past Og0a h16
  replace Og1a := own_past Og1a h16
  replace Ok3a := own_past Ok3a h16
  replace B0 := B0.past h16
  replace Hb := Lib.hid (thenB Hb.out h16)
  have t29 : w15.heap.size ≤ w16.heap.size := h16.size
  clear h16
  clear B0c0 B0c1
  have B0c0 := B0.cell 0
  have B0c1 := B0.cell 1
  simp at B0c0 B0c1
  go_wp2_with fail
  refine (toIntS_any A1 c1 z1 _ (r1.past Hb.out) (by omega)).mono ?_
  rintro e w17 ⟨Ak4a, ck4a, rfl, Ok4a, h17⟩
  replace Ok1a := own_past Ok1a h17
  replace Ow0a := own_past Ow0a h17
  replace Ow1a := own_past Ow1a h17
  replace Ok2a := own_past Ok2a h17
  replace Og0a := own_past Og0a h17
  replace Og1a := own_past Og1a h17
  replace Ok3a := own_past Ok3a h17
  replace B0 := B0.past h17
  replace Hb := Lib.hid (thenB Hb.out h17)
  have t31 : w16.heap.size ≤ w17.heap.size := h17.size
  have Lk4a := own_lo Ok4a
  have Uk4a := own_hi Ok4a
  clear h17
  clear B0c0 B0c1
  have B0c0 := B0.cell 0
  have B0c1 := B0.cell 1
  simp at B0c0 B0c1
  go_wp2_with fail
  refine (implS_any a0 b0 Ak4a ck4a z1 a2 _ (own_rd Ok4a) (by omega)).mono ?_
  rintro e w18 ⟨Ah0a, ch0a, Ah1a, ch1a, rfl, Oh0a, Oh1a, Ph0ah1a, h18⟩
  replace Ok1a := own_past Ok1a h18
  replace Ow0a := own_past Ow0a h18
  replace Ow1a := own_past Ow1a h18
  replace Ok2a := own_past Ok2a h18
  replace Og0a := own_past Og0a h18
  replace Og1a := own_past Og1a h18
  replace Ok3a := own_past Ok3a h18
  replace Ok4a := own_past Ok4a h18
  replace B0 := B0.past h18
  replace Hb := Lib.hid (thenB Hb.out h18)
  have t33 : w17.heap.size ≤ w18.heap.size := h18.size
  have Lh0a := own_lo Oh0a
  have Uh0a := own_hi Oh0a
  have Lh1a := own_lo Oh1a
  have Uh1a := own_hi Oh1a
  clear h18
  clear B0c0 B0c1
  have B0c0 := B0.cell 0
  have B0c1 := B0.cell 1
  simp at B0c0 B0c1
  go_wp2_with fail
  refine (eqIntS_same Ah0a Aw0a ch0a cw0a ((stepA a0 b0 z1 a2).c)  _ (own_rd Oh0a) (own_rd Ow0a) (by have := len1 a0 b0 z1 a2; omega)).mono ?_
  rintro e w19 ⟨rfl, h19⟩
  replace Ok1a := own_past Ok1a h19
  replace Ow0a := own_past Ow0a h19
  replace Ow1a := own_past Ow1a h19
  replace Ok2a := own_past Ok2a h19
  replace Og0a := own_past Og0a h19
  replace Og1a := own_past Og1a h19
  replace Ok3a := own_past Ok3a h19
  replace Ok4a := own_past Ok4a h19
  replace Oh0a := own_past Oh0a h19
  replace Oh1a := own_past Oh1a h19
  replace B0 := B0.past h19
  replace Hb := Lib.hid (thenB Hb.out h19)
  have t35 : w18.heap.size ≤ w19.heap.size := h19.size
  clear h19
  clear B0c0 B0c1
  have B0c0 := B0.cell 0
  have B0c1 := B0.cell 1
  simp at B0c0 B0c1
  go_wp2_with fail
  refine (eqIntS_same Ah1a Aw1a ch1a cw1a ((stepA a0 b0 z1 a2).n)  _ (own_rd Oh1a) (own_rd Ow1a) (by have := len2 a0 b0 z1 a2; omega)).mono ?_
  rintro e w20 ⟨rfl, h20⟩
  replace Ok1a := own_past Ok1a h20
  replace Ow0a := own_past Ow0a h20
  replace Ow1a := own_past Ow1a h20
  replace Ok2a := own_past Ok2a h20
  replace Og0a := own_past Og0a h20
  replace Og1a := own_past Og1a h20
  replace Ok3a := own_past Ok3a h20
  replace Ok4a := own_past Ok4a h20
  replace Oh0a := own_past Oh0a h20
  replace Oh1a := own_past Oh1a h20
  replace B0 := B0.past h20
  replace Hb := Lib.hid (thenB Hb.out h20)
  have t37 : w19.heap.size ≤ w20.heap.size := h20.size
  clear h20
  clear B0c0 B0c1
  have B0c0 := B0.cell 0
  have B0c1 := B0.cell 1
  simp at B0c0 B0c1
  go_wp2_with fail
  refine (heldIntS_any Ag0a cg0a _  (1) _ (own_rd Og0a) (by omega) (by omega) (by omega)).mono ?_
  rintro e w21 ⟨rfl, rfl⟩
  clear B0c0 B0c1
  have B0c0 := B0.cell 0
  have B0c1 := B0.cell 1
  simp at B0c0 B0c1
  go_wp2_with fail
  refine (heldIntS_any Ag1a cg1a _  (1 + ((stepA a0 b0 z1 a2).c).length) _ (own_rd Og1a) (by omega) (by omega) (by omega)).mono ?_
  rintro e w21 ⟨rfl, rfl⟩
  go_wp2_with fail
  go_ret
  exact ⟨rfl, Hb.out⟩

set_option maxRecDepth 100000 in
theorem lifted (os : Os) (started : os.Started) (H : Type) (enc : TypeId × Value → H) :
    ReturnsInHanded {} Try.checked os 4 .any (Rows.fnExactStepAccumulatorSpec.pre6 enc Try.prog Try.f4 Rows.fnExactStepAccumulatorRow.domain false) (Rows.fnExactStepAccumulatorSpec.post enc Try.prog Try.f4 false true false false) := by
  refine returnsInHanded_of_change (C := Try.checked) own started (by kernel_rfl) Try.func4
    (ChangeSpec.witness6 (enc := enc) (C := Try.checked) false ⟨#[], #[.agg #[.int .i64 0, .int .i64 0], .slice none 0 0, .int .i64 0], []⟩ 8 (by kernel_rfl) (by kernel_rfl) (by kernel_rfl) (by kernel_rfl)) ?_
  intro W base args ds gs before hval0 hW hcnd _
  have hval : ∀ (j : Nat) t v, Try.f4.params[j]? = some t → args[j]? = some v → Value.okWide Try.prog W .any base t v := hval0
  have hW' := hW
  obtain ⟨p, q, hA0, hV, rfl, hfz, hnd⟩ := hW
  have hA : DataW.TrodAll enc Try.prog W 0 (fun _ => true) true Try.f4.params.toList args.toList ds p := hA0
  rw [Try.params4] at hA hval
  obtain ⟨v0, vs0, d0, ds0, p0, q0, hargs, rfl, rfl, h0, g0⟩ := trodAll_cons hA
  obtain ⟨v1, vs1, d1, ds1, p1, q1, rfl, rfl, rfl, h1, g1⟩ := trodAll_cons g0
  obtain ⟨v2, vs2, d2, ds2, p2, q2, rfl, rfl, rfl, h2, g2⟩ := trodAll_cons g1
  obtain ⟨rfl, rfl, rfl⟩ := trodAll_nil g2
  obtain rfl : args = #[v0, v1, v2] := by cases args; simp_all
  obtain ⟨rfl, rfl⟩ := trodVars_none hV
  have k0 := h0
  have lt0 : ∀ x ∈ p0, x.block < W.heap.size := by obtain ⟨m, hm⟩ := k0; exact DataW.trod_lt m _ _ _ hm
  have k1 := h1
  have lt1 : ∀ x ∈ p1, x.block < W.heap.size := by obtain ⟨m, hm⟩ := k1; exact DataW.trod_lt m _ _ _ hm
  have k2 := h2
  have lt2 : ∀ x ∈ p2, x.block < W.heap.size := by obtain ⟨m, hm⟩ := k2; exact DataW.trod_lt m _ _ _ hm
  obtain ⟨a0, b0, rfl, x0⟩ := arg_s2 Try.underlying42 (by kernel_rfl) (by kernel_rfl) Try.underlying3 Try.underlying3 (hval 0 42 v0 rfl rfl) h0
  obtain ⟨A1, z1, c1, rfl, l1, m1, r1, i1⟩ := arg_ints Try.underlying26 Try.underlying3 (by kernel_rfl) (hval 1 26 v1 rfl rfl) h1
  obtain ⟨a2, rfl, ha2, hb2⟩ := arg_int Try.underlying3 (hval 2 3 v2 rfl rfl) h2
  clear hA0 hval0
  refine (walkw W a0 b0 x0 A1 z1 c1 l1 m1 r1 i1 a2 ha2 hb2).mono fun e W' ⟨he, bel⟩ => ?_
  subst he
  exact ⟨_, rfl, _, _, _, [], _, [], hW', trodAll_mk1 (shut_bool Try.underlying4 _), (trodAll_cons_mk (Below.trod laidOut (by kernel_rfl) (of_decide_eq_true (by kernel_rfl)) k0 bel lt0) (trodAll_cons_mk (Below.trod laidOut (by kernel_rfl) (of_decide_eq_true (by kernel_rfl)) k1 bel lt1) (trodAll_cons_mk (Below.trod laidOut (by kernel_rfl) (of_decide_eq_true (by kernel_rfl)) k2 bel lt2) trodAll_mk0))), rfl, bel.frame _, fun h => by cases h⟩
theorem over : Rows.fnExactStepAccumulatorRow.holds Try.pinned (OpenSpec.ofChange Rows.fnExactStepAccumulatorSpec) :=
  OpenClaim.holds_of_wide 4 Try.f4 rfl rfl rfl rfl rfl rfl rfl ⟨rfl, rfl, rfl, rfl, rfl⟩ rfl rfl rfl rfl rfl (by kernel_rfl) Try.func4 (by kernel_rfl)
    (of_decide_eq_true (by kernel_rfl)) (by unfold Func.isWrapper; first | (rw [if_pos (by decide +kernel)]; kernel_rfl) | (rw [if_neg (by decide +kernel)]; exact ⟨rfl, rfl⟩))
    (fun os started H enc _ => lifted os started H enc)
theorem proved : Rows.FnExactStepAccumulatorSaid := over

end Go.Proofs.Yteabibkbmigpaaa.stepAccumulator
