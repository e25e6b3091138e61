/- The program's RestsOf returns what the reference's returns, for all arguments. No condition. -/
import Derived.Test.YteabibkbmigpaaaRestsOf
namespace Go.Proofs.Yteabibkbmigpaaa.restsOf
open Go.ChangeShapes Go.WideShapes Go.ChangeAt Go.RowKit
set_option linter.unusedVariables false
set_option linter.unusedSimpArgs false
theorem specR_any (o m : Int) (A : Option Addr) (c : Nat) (s : List Int) (A' : Option Addr) (c' : Nat) (xs : List Int) (w : World) (hr : Rd w w.heap.size A s) (hn : s.length ≤ 1048576) (hr' : Rd w w.heap.size A' xs) (hn' : xs.length ≤ 1048576) :
    Calls Try.prog 40 #[.agg #[.int .i64 o, .int .i64 m], .slice A s.length c, .slice A' xs.length c'] w (RetLB w (rests o m s xs)) := specRestsOf_any A o m c s A' c' xs w hr hn hr' hn'
theorem implR_any (o m : Int) (A : Option Addr) (c : Nat) (s : List Int) (A' : Option Addr) (c' : Nat) (xs : List Int) (w : World) (hr : Rd w w.heap.size A s) (hn : s.length ≤ 1048576) (hr' : Rd w w.heap.size A' xs) (hn' : xs.length ≤ 1048576) :
    Calls Try.prog 25 #[.agg #[.int .i64 o, .int .i64 m], .slice A s.length c, .slice A' xs.length c'] w (RetLB w (rests o m s xs)) := implRestsOf_any A o m c s A' c' xs w hr hn hr' hn'
set_option maxRecDepth 100000 in
set_option maxHeartbeats 2000000 in
theorem walkw (w : World) (a0 b0 : Int) (x0 : -9223372036854775808 ≤ a0 ∧ a0 ≤ 9223372036854775807 ∧ -9223372036854775808 ≤ b0 ∧ b0 ≤ 9223372036854775807) (A1 : Option Addr) (z1 : List Int) (c1 : Nat) (l1 : z1.length ≤ c1) (m1 : c1 ≤ maxLen) (r1 : Rd w w.heap.size A1 z1) (i1 : I64 z1) (A2 : Option Addr) (z2 : List Int) (c2 : Nat) (l2 : z2.length ≤ c2) (m2 : c2 ≤ maxLen) (r2 : Rd w w.heap.size A2 z2) (i2 : I64 z2) :
    Calls Try.prog 7 #[.agg #[.int .i64 a0, .int .i64 b0], .slice A1 z1.length c1, .slice A2 z2.length c2] w fun e w' => e = .returned (.bool true) ∧ Below w.heap.size w w' := by
  clear x0
  unfold maxLen at m1
  have I1 := Lib.hid i1
  clear i1
  unfold maxLen at m2
  have I2 := Lib.hid i2
  clear i2
  by_cases n1 : z1.length ≤ 1048576
  case neg =>
    have n1x : 1048576 < z1.length := by omega
    clear n1
    go_enter Try.func7, Try.ntmps7
    go_wp2
    go_ret
    exact ⟨rfl, (Below.refl _ _).alloc (by simp) _⟩
  by_cases n2 : z2.length ≤ 1048576
  case neg =>
    have n2x : 1048576 < z2.length := by omega
    clear n2
    go_enter Try.func7, Try.ntmps7
    go_wp2
    go_ret
    exact ⟨rfl, (Below.refl _ _).alloc (by simp) _⟩
  have Hb : Hid (Below w.heap.size w w) := Below.refl _ _
  have bx : Below w.heap.size w (w.alloc (.cells #[.int .i64 a0, .int .i64 b0] 42)) := (Below.refl _ _).alloc (Nat.le_refl _) _
  have B0 := Blk.new w 42 #[.int .i64 a0, .int .i64 b0]
  have VB0 : w.heap.size < (w.alloc (.cells #[.int .i64 a0, .int .i64 b0] 42)).heap.size := by simp
  replace Hb := Lib.hid (thenB Hb.out bx)
  clear bx
  go_enter Try.func7, Try.ntmps7
  have B0c0 := B0.cell 0
  have B0c1 := B0.cell 1
  simp at B0c0 B0c1
  go_wp2_with fail
  refine (toAccumulator_any a0 b0 _).mono ?_
  rintro e w1 ⟨rfl, h1⟩
  replace B0 := B0.past h1
  replace Hb := Lib.hid (thenB Hb.out h1)
  have t2 : (w.alloc (.cells #[.int .i64 a0, .int .i64 b0] 42)).heap.size ≤ w1.heap.size := h1.size
  clear h1
  clear B0c0 B0c1
  have B0c0 := B0.cell 0
  have B0c1 := B0.cell 1
  simp at B0c0 B0c1
  go_wp2_with fail
  refine (toIntS_any A1 c1 z1 _ (r1.past Hb.out) (by omega)).mono ?_
  rintro e w2 ⟨Ak1a, ck1a, rfl, Ok1a, h2⟩
  replace B0 := B0.past h2
  replace Hb := Lib.hid (thenB Hb.out h2)
  have t4 : w1.heap.size ≤ w2.heap.size := h2.size
  have Lk1a := own_lo Ok1a
  have Uk1a := own_hi Ok1a
  clear h2
  clear B0c0 B0c1
  have B0c0 := B0.cell 0
  have B0c1 := B0.cell 1
  simp at B0c0 B0c1
  go_wp2_with fail
  refine (toIntS_any A2 c2 z2 _ (r2.past Hb.out) (by omega)).mono ?_
  rintro e w3 ⟨Ak2a, ck2a, rfl, Ok2a, h3⟩
  replace Ok1a := own_past Ok1a h3
  replace B0 := B0.past h3
  replace Hb := Lib.hid (thenB Hb.out h3)
  have t6 : w2.heap.size ≤ w3.heap.size := h3.size
  have Lk2a := own_lo Ok2a
  have Uk2a := own_hi Ok2a
  clear h3
  clear B0c0 B0c1
  have B0c0 := B0.cell 0
  have B0c1 := B0.cell 1
  simp at B0c0 B0c1
  go_wp2_with fail
  refine (specR_any a0 b0 Ak1a ck1a z1 Ak2a ck2a z2 _ (own_rd Ok1a) (by omega) (own_rd Ok2a) (by omega)).mono ?_
  rintro e w4 ⟨Aw0a, cw0a, rfl, Ow0a, h4⟩
  replace Ok1a := own_past Ok1a h4
  replace Ok2a := own_past Ok2a h4
  replace B0 := B0.past h4
  replace Hb := Lib.hid (thenB Hb.out h4)
  have t8 : w3.heap.size ≤ w4.heap.size := h4.size
  have Lw0a := own_lo Ow0a
  have Uw0a := own_hi Ow0a
  clear h4
  clear B0c0 B0c1
  have B0c0 := B0.cell 0
  have B0c1 := B0.cell 1
  simp at B0c0 B0c1
  go_wp2_with fail
  refine (toIntS_any A1 c1 z1 _ (r1.past Hb.out) (by omega)).mono ?_
  rintro e w5 ⟨Ak3a, ck3a, rfl, Ok3a, h5⟩
  replace Ok1a := own_past Ok1a h5
  replace Ok2a := own_past Ok2a h5
  replace Ow0a := own_past Ow0a h5
  replace B0 := B0.past h5
  replace Hb := Lib.hid (thenB Hb.out h5)
  have t10 : w4.heap.size ≤ w5.heap.size := h5.size
  have Lk3a := own_lo Ok3a
  have Uk3a := own_hi Ok3a
  clear h5
  clear B0c0 B0c1
  have B0c0 := B0.cell 0
  have B0c1 := B0.cell 1
  simp at B0c0 B0c1
  go_wp2_with fail
  refine (toIntS_any A2 c2 z2 _ (r2.past Hb.out) (by omega)).mono ?_
  rintro e w6 ⟨Ak4a, ck4a, rfl, Ok4a, h6⟩
  replace Ok1a := own_past Ok1a h6
  replace Ok2a := own_past Ok2a h6
  replace Ow0a := own_past Ow0a h6
  replace Ok3a := own_past Ok3a h6
  replace B0 := B0.past h6
  replace Hb := Lib.hid (thenB Hb.out h6)
  have t12 : w5.heap.size ≤ w6.heap.size := h6.size
  have Lk4a := own_lo Ok4a
  have Uk4a := own_hi Ok4a
  clear h6
  clear B0c0 B0c1
  have B0c0 := B0.cell 0
  have B0c1 := B0.cell 1
  simp at B0c0 B0c1
  go_wp2_with fail
  refine (toAccumulator_any a0 b0 _).mono ?_
  rintro e w7 ⟨rfl, h7⟩
  replace Ok1a := own_past Ok1a h7
  replace Ok2a := own_past Ok2a h7
  replace Ow0a := own_past Ow0a h7
  replace Ok3a := own_past Ok3a h7
  replace Ok4a := own_past Ok4a h7
  replace B0 := B0.past h7
  replace Hb := Lib.hid (thenB Hb.out h7)
  have t14 : w6.heap.size ≤ w7.heap.size := h7.size
  clear h7
  clear B0c0 B0c1
  have B0c0 := B0.cell 0
  have B0c1 := B0.cell 1
  simp at B0c0 B0c1
  go_wp2_with fail
  refine (implR_any a0 b0 Ak3a ck3a z1 Ak4a ck4a z2 _ (own_rd Ok3a) (by omega) (own_rd Ok4a) (by omega)).mono ?_
  rintro e w8 ⟨Ag0a, cg0a, rfl, Og0a, h8⟩
  replace Ok1a := own_past Ok1a h8
  replace Ok2a := own_past Ok2a h8
  replace Ow0a := own_past Ow0a h8
  replace Ok3a := own_past Ok3a h8
  replace Ok4a := own_past Ok4a h8
  replace B0 := B0.past h8
  replace Hb := Lib.hid (thenB Hb.out h8)
  have t16 : w7.heap.size ≤ w8.heap.size := h8.size
  have Lg0a := own_lo Og0a
  have Ug0a := own_hi Og0a
  clear h8
  clear B0c0 B0c1
  have B0c0 := B0.cell 0
  have B0c1 := B0.cell 1
  simp at B0c0 B0c1
  go_wp2_with fail
  refine (eqIntS_same Ag0a Aw0a cg0a cw0a ((rests a0 b0 z1 z2).1)  _ (own_rd Og0a) (own_rd Ow0a) (by have := rests_len a0 b0 z1 z2; omega)).mono ?_
  rintro e w9 ⟨rfl, h9⟩
  replace Ok1a := own_past Ok1a h9
  replace Ok2a := own_past Ok2a h9
  replace Ow0a := own_past Ow0a h9
  replace Ok3a := own_past Ok3a h9
  replace Ok4a := own_past Ok4a h9
  replace Og0a := own_past Og0a h9
  replace B0 := B0.past h9
  replace Hb := Lib.hid (thenB Hb.out h9)
  have t18 : w8.heap.size ≤ w9.heap.size := h9.size
  clear h9
  clear B0c0 B0c1
  have B0c0 := B0.cell 0
  have B0c1 := B0.cell 1
  simp at B0c0 B0c1
  go_wp2_with fail
  refine (toIntS_any A1 c1 z1 _ (r1.past Hb.out) (by omega)).mono ?_
  rintro e w10 ⟨Ak5a, ck5a, rfl, Ok5a, h10⟩
  replace Ok1a := own_past Ok1a h10
  replace Ok2a := own_past Ok2a h10
  replace Ow0a := own_past Ow0a h10
  replace Ok3a := own_past Ok3a h10
  replace Ok4a := own_past Ok4a h10
  replace Og0a := own_past Og0a h10
  replace B0 := B0.past h10
  replace Hb := Lib.hid (thenB Hb.out h10)
  have t20 : w9.heap.size ≤ w10.heap.size := h10.size
  have Lk5a := own_lo Ok5a
  have Uk5a := own_hi Ok5a
  clear h10
  clear B0c0 B0c1
  have B0c0 := B0.cell 0
  have B0c1 := B0.cell 1
  simp at B0c0 B0c1
  go_wp2_with fail
  refine (eqIntS_same Ak3a Ak5a ck3a ck5a _ _ (own_rd Ok3a) (own_rd Ok5a) (by omega)).mono ?_
  rintro e w11 ⟨rfl, h11⟩
  replace Ok1a := own_past Ok1a h11
  replace Ok2a := own_past Ok2a h11
  replace Ow0a := own_past Ow0a h11
  replace Ok3a := own_past Ok3a h11
  replace Ok4a := own_past Ok4a h11
  replace Og0a := own_past Og0a h11
  replace Ok5a := own_past Ok5a h11
  replace B0 := B0.past h11
  replace Hb := Lib.hid (thenB Hb.out h11)
  have t22 : w10.heap.size ≤ w11.heap.size := h11.size
  clear h11
  clear B0c0 B0c1
  have B0c0 := B0.cell 0
  have B0c1 := B0.cell 1
  simp at B0c0 B0c1
  go_wp2_with fail
  refine (toIntS_any A2 c2 z2 _ (r2.past Hb.out) (by omega)).mono ?_
  rintro e w12 ⟨Ak6a, ck6a, rfl, Ok6a, h12⟩
  replace Ok1a := own_past Ok1a h12
  replace Ok2a := own_past Ok2a h12
  replace Ow0a := own_past Ow0a h12
  replace Ok3a := own_past Ok3a h12
  replace Ok4a := own_past Ok4a h12
  replace Og0a := own_past Og0a h12
  replace Ok5a := own_past Ok5a h12
  replace B0 := B0.past h12
  replace Hb := Lib.hid (thenB Hb.out h12)
  have t24 : w11.heap.size ≤ w12.heap.size := h12.size
  have Lk6a := own_lo Ok6a
  have Uk6a := own_hi Ok6a
  clear h12
  clear B0c0 B0c1
  have B0c0 := B0.cell 0
  have B0c1 := B0.cell 1
  simp at B0c0 B0c1
  go_wp2_with fail
  refine (eqIntS_same Ak4a Ak6a ck4a ck6a _ _ (own_rd Ok4a) (own_rd Ok6a) (by omega)).mono ?_
  rintro e w13 ⟨rfl, h13⟩
  replace Ok1a := own_past Ok1a h13
  replace Ok2a := own_past Ok2a h13
  replace Ow0a := own_past Ow0a h13
  replace Ok3a := own_past Ok3a h13
  replace Ok4a := own_past Ok4a h13
  replace Og0a := own_past Og0a h13
  replace Ok5a := own_past Ok5a h13
  replace Ok6a := own_past Ok6a h13
  replace B0 := B0.past h13
  replace Hb := Lib.hid (thenB Hb.out h13)
  have t26 : w12.heap.size ≤ w13.heap.size := h13.size
  clear h13
  have q00 := rests_len a0 b0 z1 z2
  clear B0c0 B0c1
  have B0c0 := B0.cell 0
  have B0c1 := B0.cell 1
  simp at B0c0 B0c1
  go_wp2_with fail
  refine (markIntS_any Ak3a _ ck3a (z1)  (1) _ Ok3a  (by omega) (by omega) (by omega)).mono ?_
  rintro e w14 ⟨rfl, Ok3a, h14a⟩
  replace Ok1a := own_wrote Ok1a h14a (apart_lt Uk1a Lk3a (by omega))
  replace Ok2a := own_wrote Ok2a h14a (apart_lt Uk2a Lk3a (by omega))
  replace Ow0a := own_wrote Ow0a h14a (apart_lt Uw0a Lk3a (by omega))
  replace Ok4a := own_wrote Ok4a h14a (apart_gt Lk4a Uk3a (by omega))
  replace Og0a := own_wrote Og0a h14a (apart_gt Lg0a Uk3a (by omega))
  replace Ok5a := own_wrote Ok5a h14a (apart_gt Lk5a Uk3a (by omega))
  replace Ok6a := own_wrote Ok6a h14a (apart_gt Lk6a Uk3a (by omega))
  replace B0 := blk_wrote B0 h14a Lk3a (by omega)
  replace Hb := Lib.hid (Hb.out.trans (below_wrote h14a Hb.out.size (lo_le Lk3a (by omega))))
  have t28 : w13.heap.size ≤ w14.heap.size := h14a.size
  clear h14a
  clear B0c0 B0c1
  have B0c0 := B0.cell 0
  have B0c1 := B0.cell 1
  simp at B0c0 B0c1
  go_wp2_with fail
  refine (markIntS_any Ak4a _ ck4a (z2)  (1 + (z1).length) _ Ok4a  (by omega) (by omega) (by omega)).mono ?_
  rintro e w15 ⟨rfl, Ok4a, h15a⟩
  replace Ok1a := own_wrote Ok1a h15a (apart_lt Uk1a Lk4a (by omega))
  replace Ok2a := own_wrote Ok2a h15a (apart_lt Uk2a Lk4a (by omega))
  replace Ow0a := own_wrote Ow0a h15a (apart_lt Uw0a Lk4a (by omega))
  replace Ok3a := own_wrote Ok3a h15a (apart_lt Uk3a Lk4a (by omega))
  replace Og0a := own_wrote Og0a h15a (apart_gt Lg0a Uk4a (by omega))
  replace Ok5a := own_wrote Ok5a h15a (apart_gt Lk5a Uk4a (by omega))
  replace Ok6a := own_wrote Ok6a h15a (apart_gt Lk6a Uk4a (by omega))
  replace B0 := blk_wrote B0 h15a Lk4a (by omega)
  replace Hb := Lib.hid (Hb.out.trans (below_wrote h15a Hb.out.size (lo_le Lk4a (by omega))))
  have t29 : w14.heap.size ≤ w15.heap.size := h15a.size
  clear h15a
  clear B0c0 B0c1
  have B0c0 := B0.cell 0
  have B0c1 := B0.cell 1
  simp at B0c0 B0c1
  go_wp2_with fail
  refine (eqIntS_same Ag0a Aw0a cg0a cw0a ((rests a0 b0 z1 z2).1)  _ (own_rd Og0a) (own_rd Ow0a) (by have := rests_len a0 b0 z1 z2; omega)).mono ?_
  rintro e w16 ⟨rfl, h16⟩
  replace Ok1a := own_past Ok1a h16
  replace Ok2a := own_past Ok2a h16
  replace Ow0a := own_past Ow0a h16
  replace Ok3a := own_past Ok3a h16
  replace Ok4a := own_past Ok4a h16
  replace Og0a := own_past Og0a h16
  replace Ok5a := own_past Ok5a h16
  replace Ok6a := own_past Ok6a h16
  replace B0 := B0.past h16
  replace Hb := Lib.hid (thenB Hb.out h16)
  have t30 : w15.heap.size ≤ w16.heap.size := h16.size
  clear h16
  clear B0c0 B0c1
  have B0c0 := B0.cell 0
  have B0c1 := B0.cell 1
  simp at B0c0 B0c1
  go_wp2_with fail
  refine (markIntS_any Ag0a _ cg0a ((rests a0 b0 z1 z2).1)  (1) _ Og0a  (by omega) (by omega) (by omega)).mono ?_
  rintro e w17 ⟨rfl, Og0a, h17a⟩
  replace Ok1a := own_wrote Ok1a h17a (apart_lt Uk1a Lg0a (by omega))
  replace Ok2a := own_wrote Ok2a h17a (apart_lt Uk2a Lg0a (by omega))
  replace Ow0a := own_wrote Ow0a h17a (apart_lt Uw0a Lg0a (by omega))
  replace Ok3a := own_wrote Ok3a h17a (apart_lt Uk3a Lg0a (by omega))
  replace Ok4a := own_wrote Ok4a h17a (apart_lt Uk4a Lg0a (by omega))
  replace Ok5a := own_wrote Ok5a h17a (apart_gt Lk5a Ug0a (by omega))
  replace Ok6a := own_wrote Ok6a h17a (apart_gt Lk6a Ug0a (by omega))
  replace B0 := blk_wrote B0 h17a Lg0a (by omega)
  replace Hb := Lib.hid (Hb.out.trans (below_wrote h17a Hb.out.size (lo_le Lg0a (by omega))))
  have t32 : w16.heap.size ≤ w17.heap.size := h17a.size
  clear h17a
  clear B0c0 B0c1
  have B0c0 := B0.cell 0
  have B0c1 := B0.cell 1
  simp at B0c0 B0c1
  go_wp2_with fail
  refine (heldIntS_any Ag0a cg0a _  (1) _ (own_rd Og0a) (by omega) (by omega) (by omega)).mono ?_
  rintro e w18 ⟨rfl, rfl⟩
  clear B0c0 B0c1
  have B0c0 := B0.cell 0
  have B0c1 := B0.cell 1
  simp at B0c0 B0c1
  go_wp2_with fail
  refine (toAccumulator_any a0 b0 _).mono ?_
  rintro e w18 ⟨rfl, h18⟩
  replace Ok1a := own_past Ok1a h18
  replace Ok2a := own_past Ok2a h18
  replace Ow0a := own_past Ow0a h18
  replace Ok3a := own_past Ok3a h18
  replace Ok4a := own_past Ok4a h18
  replace Og0a := own_past Og0a h18
  replace Ok5a := own_past Ok5a h18
  replace Ok6a := own_past Ok6a h18
  replace B0 := B0.past h18
  replace Hb := Lib.hid (thenB Hb.out h18)
  have t33 : w17.heap.size ≤ w18.heap.size := h18.size
  clear h18
  clear B0c0 B0c1
  have B0c0 := B0.cell 0
  have B0c1 := B0.cell 1
  simp at B0c0 B0c1
  go_wp2_with fail
  refine (toIntS_any A1 c1 z1 _ (r1.past Hb.out) (by omega)).mono ?_
  rintro e w19 ⟨Ak7a, ck7a, rfl, Ok7a, h19⟩
  replace Ok1a := own_past Ok1a h19
  replace Ok2a := own_past Ok2a h19
  replace Ow0a := own_past Ow0a h19
  replace Ok3a := own_past Ok3a h19
  replace Ok4a := own_past Ok4a h19
  replace Og0a := own_past Og0a h19
  replace Ok5a := own_past Ok5a h19
  replace Ok6a := own_past Ok6a h19
  replace B0 := B0.past h19
  replace Hb := Lib.hid (thenB Hb.out h19)
  have t35 : w18.heap.size ≤ w19.heap.size := h19.size
  have Lk7a := own_lo Ok7a
  have Uk7a := own_hi Ok7a
  clear h19
  clear B0c0 B0c1
  have B0c0 := B0.cell 0
  have B0c1 := B0.cell 1
  simp at B0c0 B0c1
  go_wp2_with fail
  refine (toIntS_any A2 c2 z2 _ (r2.past Hb.out) (by omega)).mono ?_
  rintro e w20 ⟨Ak8a, ck8a, rfl, Ok8a, h20⟩
  replace Ok1a := own_past Ok1a h20
  replace Ok2a := own_past Ok2a h20
  replace Ow0a := own_past Ow0a h20
  replace Ok3a := own_past Ok3a h20
  replace Ok4a := own_past Ok4a h20
  replace Og0a := own_past Og0a h20
  replace Ok5a := own_past Ok5a h20
  replace Ok6a := own_past Ok6a h20
  replace Ok7a := own_past Ok7a h20
  replace B0 := B0.past h20
  replace Hb := Lib.hid (thenB Hb.out h20)
  have t37 : w19.heap.size ≤ w20.heap.size := h20.size
  have Lk8a := own_lo Ok8a
  have Uk8a := own_hi Ok8a
  clear h20
  clear B0c0 B0c1
  have B0c0 := B0.cell 0
  have B0c1 := B0.cell 1
  simp at B0c0 B0c1
  go_wp2_with fail
  refine (implR_any a0 b0 Ak7a ck7a z1 Ak8a ck8a z2 _ (own_rd Ok7a) (by omega) (own_rd Ok8a) (by omega)).mono ?_
  rintro e w21 ⟨Ah0a, ch0a, rfl, Oh0a, h21⟩
  replace Ok1a := own_past Ok1a h21
  replace Ok2a := own_past Ok2a h21
  replace Ow0a := own_past Ow0a h21
  replace Ok3a := own_past Ok3a h21
  replace Ok4a := own_past Ok4a h21
  replace Og0a := own_past Og0a h21
  replace Ok5a := own_past Ok5a h21
  replace Ok6a := own_past Ok6a h21
  replace Ok7a := own_past Ok7a h21
  replace Ok8a := own_past Ok8a h21
  replace B0 := B0.past h21
  replace Hb := Lib.hid (thenB Hb.out h21)
  have t39 : w20.heap.size ≤ w21.heap.size := h21.size
  have Lh0a := own_lo Oh0a
  have Uh0a := own_hi Oh0a
  clear h21
  clear B0c0 B0c1
  have B0c0 := B0.cell 0
  have B0c1 := B0.cell 1
  simp at B0c0 B0c1
  go_wp2_with fail
  refine (eqIntS_same Ah0a Aw0a ch0a cw0a ((rests a0 b0 z1 z2).1)  _ (own_rd Oh0a) (own_rd Ow0a) (by have := rests_len a0 b0 z1 z2; omega)).mono ?_
  rintro e w22 ⟨rfl, h22⟩
  replace Ok1a := own_past Ok1a h22
  replace Ok2a := own_past Ok2a h22
  replace Ow0a := own_past Ow0a h22
  replace Ok3a := own_past Ok3a h22
  replace Ok4a := own_past Ok4a h22
  replace Og0a := own_past Og0a h22
  replace Ok5a := own_past Ok5a h22
  replace Ok6a := own_past Ok6a h22
  replace Ok7a := own_past Ok7a h22
  replace Ok8a := own_past Ok8a h22
  replace Oh0a := own_past Oh0a h22
  replace B0 := B0.past h22
  replace Hb := Lib.hid (thenB Hb.out h22)
  have t41 : w21.heap.size ≤ w22.heap.size := h22.size
  clear h22
  clear B0c0 B0c1
  have B0c0 := B0.cell 0
  have B0c1 := B0.cell 1
  simp at B0c0 B0c1
  go_wp2_with fail
  refine (heldIntS_any Ag0a cg0a _  (1) _ (own_rd Og0a) (by omega) (by omega) (by omega)).mono ?_
  rintro e w23 ⟨rfl, rfl⟩
  go_wp2_with fail
  go_ret
  exact ⟨rfl, Hb.out⟩

set_option maxRecDepth 100000 in
theorem lifted (os : Os) (started : os.Started) (H : Type) (enc : TypeId × Value → H) :
    ReturnsInHanded {} Try.checked os 7 .any (Rows.fnExactRestsOfSpec.pre6 enc Try.prog Try.f7 Rows.fnExactRestsOfRow.domain false) (Rows.fnExactRestsOfSpec.post enc Try.prog Try.f7 false true false false) := by
  refine returnsInHanded_of_change (C := Try.checked) own started (by kernel_rfl) Try.func7
    (ChangeSpec.witness6 (enc := enc) (C := Try.checked) false ⟨#[], #[.agg #[.int .i64 0, .int .i64 0], .slice none 0 0, .slice none 0 0], []⟩ 8 (by kernel_rfl) (by kernel_rfl) (by kernel_rfl) (by kernel_rfl)) ?_
  intro W base args ds gs before hval0 hW hcnd _
  have hval : ∀ (j : Nat) t v, Try.f7.params[j]? = some t → args[j]? = some v → Value.okWide Try.prog W .any base t v := hval0
  have hW' := hW
  obtain ⟨p, q, hA0, hV, rfl, hfz, hnd⟩ := hW
  have hA : DataW.TrodAll enc Try.prog W 0 (fun _ => true) true Try.f7.params.toList args.toList ds p := hA0
  rw [Try.params7] at hA hval
  obtain ⟨v0, vs0, d0, ds0, p0, q0, hargs, rfl, rfl, h0, g0⟩ := trodAll_cons hA
  obtain ⟨v1, vs1, d1, ds1, p1, q1, rfl, rfl, rfl, h1, g1⟩ := trodAll_cons g0
  obtain ⟨v2, vs2, d2, ds2, p2, q2, rfl, rfl, rfl, h2, g2⟩ := trodAll_cons g1
  obtain ⟨rfl, rfl, rfl⟩ := trodAll_nil g2
  obtain rfl : args = #[v0, v1, v2] := by cases args; simp_all
  obtain ⟨rfl, rfl⟩ := trodVars_none hV
  have k0 := h0
  have lt0 : ∀ x ∈ p0, x.block < W.heap.size := by obtain ⟨m, hm⟩ := k0; exact DataW.trod_lt m _ _ _ hm
  have k1 := h1
  have lt1 : ∀ x ∈ p1, x.block < W.heap.size := by obtain ⟨m, hm⟩ := k1; exact DataW.trod_lt m _ _ _ hm
  have k2 := h2
  have lt2 : ∀ x ∈ p2, x.block < W.heap.size := by obtain ⟨m, hm⟩ := k2; exact DataW.trod_lt m _ _ _ hm
  obtain ⟨a0, b0, rfl, x0⟩ := arg_s2 Try.underlying42 (by kernel_rfl) (by kernel_rfl) Try.underlying3 Try.underlying3 (hval 0 42 v0 rfl rfl) h0
  obtain ⟨A1, z1, c1, rfl, l1, m1, r1, i1⟩ := arg_ints Try.underlying26 Try.underlying3 (by kernel_rfl) (hval 1 26 v1 rfl rfl) h1
  obtain ⟨A2, z2, c2, rfl, l2, m2, r2, i2⟩ := arg_ints Try.underlying26 Try.underlying3 (by kernel_rfl) (hval 2 26 v2 rfl rfl) h2
  clear hA0 hval0
  refine (walkw W a0 b0 x0 A1 z1 c1 l1 m1 r1 i1 A2 z2 c2 l2 m2 r2 i2).mono fun e W' ⟨he, bel⟩ => ?_
  subst he
  exact ⟨_, rfl, _, _, _, [], _, [], hW', trodAll_mk1 (shut_bool Try.underlying4 _), (trodAll_cons_mk (Below.trod laidOut (by kernel_rfl) (of_decide_eq_true (by kernel_rfl)) k0 bel lt0) (trodAll_cons_mk (Below.trod laidOut (by kernel_rfl) (of_decide_eq_true (by kernel_rfl)) k1 bel lt1) (trodAll_cons_mk (Below.trod laidOut (by kernel_rfl) (of_decide_eq_true (by kernel_rfl)) k2 bel lt2) trodAll_mk0))), rfl, bel.frame _, fun h => by cases h⟩
theorem over : Rows.fnExactRestsOfRow.holds Try.pinned (OpenSpec.ofChange Rows.fnExactRestsOfSpec) :=
  OpenClaim.holds_of_wide 7 Try.f7 rfl rfl rfl rfl rfl rfl rfl ⟨rfl, rfl, rfl, rfl, rfl⟩ rfl rfl rfl rfl rfl (by kernel_rfl) Try.func7 (by kernel_rfl)
    (of_decide_eq_true (by kernel_rfl)) (by unfold Func.isWrapper; first | (rw [if_pos (by decide +kernel)]; kernel_rfl) | (rw [if_neg (by decide +kernel)]; exact ⟨rfl, rfl⟩))
    (fun os started H enc _ => lifted os started H enc)
theorem proved : Rows.FnExactRestsOfSaid := over

end Go.Proofs.Yteabibkbmigpaaa.restsOf
