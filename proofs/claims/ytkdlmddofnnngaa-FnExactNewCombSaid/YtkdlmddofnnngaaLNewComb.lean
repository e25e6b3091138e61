/- The program's NewComb returns what the reference's returns, for all arguments. No condition. -/
import Derived.Test.YtkdlmddofnnngaaCombSt
namespace Go.Proofs.Ytkdlmddofnnngaa.newCombLaw
open Go.ChangeShapes Go.WideShapes Go.ChangeAt Go.RowKit
set_option linter.unusedVariables false
set_option linter.unusedSimpArgs false
theorem small1 (o r k : Int) : (newCS o r k).sums.length ≤ 1000 := by
  unfold newCS
  split
  · rename_i h
    have := comb_parts h
    simp only [zeros_length]; omega
  · simp
theorem small2 (o r k : Int) : (newCS o r k).delays.length ≤ 1000 := by
  unfold newCS
  split
  · rename_i h
    have := comb_parts h
    simp only [zeros_length]; omega
  · simp
set_option maxRecDepth 100000 in
set_option maxHeartbeats 2000000 in
theorem walkw (w : World) (a0 b0 c0 : Int) (x0 : -9223372036854775808 ≤ a0 ∧ a0 ≤ 9223372036854775807 ∧ -9223372036854775808 ≤ b0 ∧ b0 ≤ 9223372036854775807 ∧ -9223372036854775808 ≤ c0 ∧ c0 ≤ 9223372036854775807) :
    Calls Try.prog 12 #[.agg #[.int .i64 a0, .int .i64 b0, .int .i64 c0]] w fun e w' => e = .returned (.bool true) ∧ Below w.heap.size w w' := by
  clear x0
  have Hb : Hid (Below w.heap.size w w) := Below.refl _ _
  have bx : Below w.heap.size w (w.alloc (.cells #[.int .i64 a0, .int .i64 b0, .int .i64 c0] 29)) := (Below.refl _ _).alloc (Nat.le_refl _) _
  have B0 := Blk.new w 29 #[.int .i64 a0, .int .i64 b0, .int .i64 c0]
  have VB0 : w.heap.size < (w.alloc (.cells #[.int .i64 a0, .int .i64 b0, .int .i64 c0] 29)).heap.size := by simp
  replace Hb := Lib.hid (thenB Hb.out bx)
  clear bx
  go_enter Try.func12, Try.ntmps12
  have B0c0 := B0.cell 0
  have B0c1 := B0.cell 1
  have B0c2 := B0.cell 2
  simp at B0c0 B0c1 B0c2
  go_wp2_with fail
  refine (toComb_any a0 b0 c0 _).mono ?_
  rintro e w1 ⟨rfl, h1⟩
  replace B0 := B0.past h1
  replace Hb := Lib.hid (thenB Hb.out h1)
  have t2 : (w.alloc (.cells #[.int .i64 a0, .int .i64 b0, .int .i64 c0] 29)).heap.size ≤ w1.heap.size := h1.size
  clear h1
  clear B0c0 B0c1 B0c2
  have B0c0 := B0.cell 0
  have B0c1 := B0.cell 1
  have B0c2 := B0.cell 2
  simp at B0c0 B0c1 B0c2
  go_wp2_with fail
  refine (specNewComb_any a0 b0 c0 _ ).mono ?_
  rintro e w2 ⟨Aw0a, cw0a, Aw0b, cw0b, rfl, Ow0a, Ow0b, Pw0aw0b, h2⟩
  replace B0 := B0.past h2
  replace Hb := Lib.hid (thenB Hb.out h2)
  have t4 : w1.heap.size ≤ w2.heap.size := h2.size
  have Lw0a := own_lo Ow0a
  have Uw0a := own_hi Ow0a
  have Lw0b := own_lo Ow0b
  have Uw0b := own_hi Ow0b
  clear h2
  have bx : Below w2.heap.size w2 (w2.alloc (.cells #[.slice Aw0a ((newCS a0 b0 c0).sums).length cw0a, .slice Aw0b ((newCS a0 b0 c0).delays).length cw0b, .int .i64 ((newCS a0 b0 c0).phase)] 54)) := (Below.refl _ _).alloc (Nat.le_refl _) _
  have Sw0 := Blk.new w2 54 #[.slice Aw0a ((newCS a0 b0 c0).sums).length cw0a, .slice Aw0b ((newCS a0 b0 c0).delays).length cw0b, .int .i64 ((newCS a0 b0 c0).phase)]
  have VSw0 : w2.heap.size < (w2.alloc (.cells #[.slice Aw0a ((newCS a0 b0 c0).sums).length cw0a, .slice Aw0b ((newCS a0 b0 c0).delays).length cw0b, .int .i64 ((newCS a0 b0 c0).phase)] 54)).heap.size := by simp
  replace Ow0a := own_past Ow0a bx
  replace Ow0b := own_past Ow0b bx
  replace B0 := B0.past bx
  replace Hb := Lib.hid (thenB Hb.out bx)
  clear bx
  clear B0c0 B0c1 B0c2
  have B0c0 := B0.cell 0
  have B0c1 := B0.cell 1
  have B0c2 := B0.cell 2
  have Sw0c0 := Sw0.cell 0
  have Sw0c1 := Sw0.cell 1
  have Sw0c2 := Sw0.cell 2
  simp at B0c0 B0c1 B0c2 Sw0c0 Sw0c1 Sw0c2
  go_wp2_with fail
  refine (toComb_any a0 b0 c0 _).mono ?_
  rintro e w3 ⟨rfl, h3⟩
  replace Ow0a := own_past Ow0a h3
  replace Ow0b := own_past Ow0b h3
  replace B0 := B0.past h3
  replace Sw0 := Sw0.past h3
  replace Hb := Lib.hid (thenB Hb.out h3)
  have t7 : (w2.alloc (.cells #[.slice Aw0a ((newCS a0 b0 c0).sums).length cw0a, .slice Aw0b ((newCS a0 b0 c0).delays).length cw0b, .int .i64 ((newCS a0 b0 c0).phase)] 54)).heap.size ≤ w3.heap.size := h3.size
  clear h3
  clear B0c0 B0c1 B0c2 Sw0c0 Sw0c1 Sw0c2
  have B0c0 := B0.cell 0
  have B0c1 := B0.cell 1
  have B0c2 := B0.cell 2
  have Sw0c0 := Sw0.cell 0
  have Sw0c1 := Sw0.cell 1
  have Sw0c2 := Sw0.cell 2
  simp at B0c0 B0c1 B0c2 Sw0c0 Sw0c1 Sw0c2
  go_wp2_with fail
  refine (implNewComb_any a0 b0 c0 _ ).mono ?_
  rintro e w4 ⟨Ag0a, cg0a, Ag0b, cg0b, rfl, Og0a, Og0b, Pg0ag0b, h4⟩
  replace Ow0a := own_past Ow0a h4
  replace Ow0b := own_past Ow0b h4
  replace B0 := B0.past h4
  replace Sw0 := Sw0.past h4
  replace Hb := Lib.hid (thenB Hb.out h4)
  have t9 : w3.heap.size ≤ w4.heap.size := h4.size
  have Lg0a := own_lo Og0a
  have Ug0a := own_hi Og0a
  have Lg0b := own_lo Og0b
  have Ug0b := own_hi Og0b
  clear h4
  have bx : Below w4.heap.size w4 (w4.alloc (.cells #[.slice Ag0a ((newCS a0 b0 c0).sums).length cg0a, .slice Ag0b ((newCS a0 b0 c0).delays).length cg0b, .int .i64 ((newCS a0 b0 c0).phase)] 54)) := (Below.refl _ _).alloc (Nat.le_refl _) _
  have Sg0 := Blk.new w4 54 #[.slice Ag0a ((newCS a0 b0 c0).sums).length cg0a, .slice Ag0b ((newCS a0 b0 c0).delays).length cg0b, .int .i64 ((newCS a0 b0 c0).phase)]
  have VSg0 : w4.heap.size < (w4.alloc (.cells #[.slice Ag0a ((newCS a0 b0 c0).sums).length cg0a, .slice Ag0b ((newCS a0 b0 c0).delays).length cg0b, .int .i64 ((newCS a0 b0 c0).phase)] 54)).heap.size := by simp
  replace Ow0a := own_past Ow0a bx
  replace Ow0b := own_past Ow0b bx
  replace Og0a := own_past Og0a bx
  replace Og0b := own_past Og0b bx
  replace B0 := B0.past bx
  replace Sw0 := Sw0.past bx
  replace Hb := Lib.hid (thenB Hb.out bx)
  clear bx
  clear B0c0 B0c1 B0c2 Sw0c0 Sw0c1 Sw0c2
  have B0c0 := B0.cell 0
  have B0c1 := B0.cell 1
  have B0c2 := B0.cell 2
  have Sw0c0 := Sw0.cell 0
  have Sw0c1 := Sw0.cell 1
  have Sw0c2 := Sw0.cell 2
  have Sg0c0 := Sg0.cell 0
  have Sg0c1 := Sg0.cell 1
  have Sg0c2 := Sg0.cell 2
  simp at B0c0 B0c1 B0c2 Sw0c0 Sw0c1 Sw0c2 Sg0c0 Sg0c1 Sg0c2
  go_wp2_with fail
  refine (eqCombState_same Ag0a Ag0b Aw0a Aw0b cg0a cg0b cw0a cw0b ((newCS a0 b0 c0).sums) ((newCS a0 b0 c0).delays) ((newCS a0 b0 c0).phase) _ (own_rd Og0a) (own_rd Og0b) (own_rd Ow0a) (own_rd Ow0b) (by have := small1 a0 b0 c0; omega) (by have := small2 a0 b0 c0; omega)).mono ?_
  rintro e w5 ⟨rfl, h5⟩
  replace Ow0a := own_past Ow0a h5
  replace Ow0b := own_past Ow0b h5
  replace Og0a := own_past Og0a h5
  replace Og0b := own_past Og0b h5
  replace B0 := B0.past h5
  replace Sw0 := Sw0.past h5
  replace Sg0 := Sg0.past h5
  replace Hb := Lib.hid (thenB Hb.out h5)
  have t12 : (w4.alloc (.cells #[.slice Ag0a ((newCS a0 b0 c0).sums).length cg0a, .slice Ag0b ((newCS a0 b0 c0).delays).length cg0b, .int .i64 ((newCS a0 b0 c0).phase)] 54)).heap.size ≤ w5.heap.size := h5.size
  clear h5
  have q00 := small1 a0 b0 c0
  have q01 := small2 a0 b0 c0
  clear B0c0 B0c1 B0c2 Sw0c0 Sw0c1 Sw0c2 Sg0c0 Sg0c1 Sg0c2
  have B0c0 := B0.cell 0
  have B0c1 := B0.cell 1
  have B0c2 := B0.cell 2
  have Sw0c0 := Sw0.cell 0
  have Sw0c1 := Sw0.cell 1
  have Sw0c2 := Sw0.cell 2
  have Sg0c0 := Sg0.cell 0
  have Sg0c1 := Sg0.cell 1
  have Sg0c2 := Sg0.cell 2
  simp at B0c0 B0c1 B0c2 Sw0c0 Sw0c1 Sw0c2 Sg0c0 Sg0c1 Sg0c2
  go_wp2_with fail
  refine (markCombState_any Ag0a Ag0b _ _ cg0a cg0b ((newCS a0 b0 c0).sums) ((newCS a0 b0 c0).delays) ((newCS a0 b0 c0).phase) (1) _ Og0a Og0b (Pg0ag0b) (by omega) (by omega) (by omega) (by omega)).mono ?_
  rintro e w6 ⟨wm6a, rfl, Og0a, Og0b, h6a, h6b⟩
  replace Ow0a := own_wrote Ow0a h6a (apart_lt Uw0a Lg0a (by omega))
  replace Ow0b := own_wrote Ow0b h6a (apart_lt Uw0b Lg0a (by omega))
  replace B0 := blk_wrote B0 h6a Lg0a (by omega)
  replace Sw0 := blk_wrote Sw0 h6a Lg0a (by omega)
  replace Sg0 := blk_wrote_hi Sg0 h6a Ug0a (by omega)
  replace Hb := Lib.hid (Hb.out.trans (below_wrote h6a Hb.out.size (lo_le Lg0a (by omega))))
  have t14 : w5.heap.size ≤ wm6a.heap.size := h6a.size
  replace Ow0a := own_wrote Ow0a h6b (apart_lt Uw0a Lg0b (by omega))
  replace Ow0b := own_wrote Ow0b h6b (apart_lt Uw0b Lg0b (by omega))
  replace B0 := blk_wrote B0 h6b Lg0b (by omega)
  replace Sw0 := blk_wrote Sw0 h6b Lg0b (by omega)
  replace Sg0 := blk_wrote_hi Sg0 h6b Ug0b (by omega)
  replace Hb := Lib.hid (Hb.out.trans (below_wrote h6b Hb.out.size (lo_le Lg0b (by omega))))
  have t15 : wm6a.heap.size ≤ w6.heap.size := h6b.size
  clear h6a h6b
  clear B0c0 B0c1 B0c2 Sw0c0 Sw0c1 Sw0c2 Sg0c0 Sg0c1 Sg0c2
  have B0c0 := B0.cell 0
  have B0c1 := B0.cell 1
  have B0c2 := B0.cell 2
  have Sw0c0 := Sw0.cell 0
  have Sw0c1 := Sw0.cell 1
  have Sw0c2 := Sw0.cell 2
  have Sg0c0 := Sg0.cell 0
  have Sg0c1 := Sg0.cell 1
  have Sg0c2 := Sg0.cell 2
  simp at B0c0 B0c1 B0c2 Sw0c0 Sw0c1 Sw0c2 Sg0c0 Sg0c1 Sg0c2
  go_wp2_with fail
  refine (heldCombState_any Ag0a Ag0b cg0a cg0b _ _ ((newCS a0 b0 c0).phase) (1) _ (own_rd Og0a) (own_rd Og0b) (by omega) (by omega) (by omega) (by omega)).mono ?_
  rintro e w7 ⟨rfl, h7⟩
  replace Ow0a := own_past Ow0a h7
  replace Ow0b := own_past Ow0b h7
  replace Og0a := own_past Og0a h7
  replace Og0b := own_past Og0b h7
  replace B0 := B0.past h7
  replace Sw0 := Sw0.past h7
  replace Sg0 := Sg0.past h7
  replace Hb := Lib.hid (thenB Hb.out h7)
  have t16 : w6.heap.size ≤ w7.heap.size := h7.size
  clear h7
  clear B0c0 B0c1 B0c2 Sw0c0 Sw0c1 Sw0c2 Sg0c0 Sg0c1 Sg0c2
  have B0c0 := B0.cell 0
  have B0c1 := B0.cell 1
  have B0c2 := B0.cell 2
  have Sw0c0 := Sw0.cell 0
  have Sw0c1 := Sw0.cell 1
  have Sw0c2 := Sw0.cell 2
  have Sg0c0 := Sg0.cell 0
  have Sg0c1 := Sg0.cell 1
  have Sg0c2 := Sg0.cell 2
  simp at B0c0 B0c1 B0c2 Sw0c0 Sw0c1 Sw0c2 Sg0c0 Sg0c1 Sg0c2
  go_wp2_with fail
  refine (toComb_any a0 b0 c0 _).mono ?_
  rintro e w8 ⟨rfl, h8⟩
  replace Ow0a := own_past Ow0a h8
  replace Ow0b := own_past Ow0b h8
  replace Og0a := own_past Og0a h8
  replace Og0b := own_past Og0b h8
  replace B0 := B0.past h8
  replace Sw0 := Sw0.past h8
  replace Sg0 := Sg0.past h8
  replace Hb := Lib.hid (thenB Hb.out h8)
  have t18 : w7.heap.size ≤ w8.heap.size := h8.size
  clear h8
  clear B0c0 B0c1 B0c2 Sw0c0 Sw0c1 Sw0c2 Sg0c0 Sg0c1 Sg0c2
  have B0c0 := B0.cell 0
  have B0c1 := B0.cell 1
  have B0c2 := B0.cell 2
  have Sw0c0 := Sw0.cell 0
  have Sw0c1 := Sw0.cell 1
  have Sw0c2 := Sw0.cell 2
  have Sg0c0 := Sg0.cell 0
  have Sg0c1 := Sg0.cell 1
  have Sg0c2 := Sg0.cell 2
  simp at B0c0 B0c1 B0c2 Sw0c0 Sw0c1 Sw0c2 Sg0c0 Sg0c1 Sg0c2
  go_wp2_with fail
  refine (implNewComb_any a0 b0 c0 _ ).mono ?_
  rintro e w9 ⟨Ah0a, ch0a, Ah0b, ch0b, rfl, Oh0a, Oh0b, Ph0ah0b, h9⟩
  replace Ow0a := own_past Ow0a h9
  replace Ow0b := own_past Ow0b h9
  replace Og0a := own_past Og0a h9
  replace Og0b := own_past Og0b h9
  replace B0 := B0.past h9
  replace Sw0 := Sw0.past h9
  replace Sg0 := Sg0.past h9
  replace Hb := Lib.hid (thenB Hb.out h9)
  have t20 : w8.heap.size ≤ w9.heap.size := h9.size
  have Lh0a := own_lo Oh0a
  have Uh0a := own_hi Oh0a
  have Lh0b := own_lo Oh0b
  have Uh0b := own_hi Oh0b
  clear h9
  have bx : Below w9.heap.size w9 (w9.alloc (.cells #[.slice Ah0a ((newCS a0 b0 c0).sums).length ch0a, .slice Ah0b ((newCS a0 b0 c0).delays).length ch0b, .int .i64 ((newCS a0 b0 c0).phase)] 54)) := (Below.refl _ _).alloc (Nat.le_refl _) _
  have Sh0 := Blk.new w9 54 #[.slice Ah0a ((newCS a0 b0 c0).sums).length ch0a, .slice Ah0b ((newCS a0 b0 c0).delays).length ch0b, .int .i64 ((newCS a0 b0 c0).phase)]
  have VSh0 : w9.heap.size < (w9.alloc (.cells #[.slice Ah0a ((newCS a0 b0 c0).sums).length ch0a, .slice Ah0b ((newCS a0 b0 c0).delays).length ch0b, .int .i64 ((newCS a0 b0 c0).phase)] 54)).heap.size := by simp
  replace Ow0a := own_past Ow0a bx
  replace Ow0b := own_past Ow0b bx
  replace Og0a := own_past Og0a bx
  replace Og0b := own_past Og0b bx
  replace Oh0a := own_past Oh0a bx
  replace Oh0b := own_past Oh0b bx
  replace B0 := B0.past bx
  replace Sw0 := Sw0.past bx
  replace Sg0 := Sg0.past bx
  replace Hb := Lib.hid (thenB Hb.out bx)
  clear bx
  clear B0c0 B0c1 B0c2 Sw0c0 Sw0c1 Sw0c2 Sg0c0 Sg0c1 Sg0c2
  have B0c0 := B0.cell 0
  have B0c1 := B0.cell 1
  have B0c2 := B0.cell 2
  have Sw0c0 := Sw0.cell 0
  have Sw0c1 := Sw0.cell 1
  have Sw0c2 := Sw0.cell 2
  have Sg0c0 := Sg0.cell 0
  have Sg0c1 := Sg0.cell 1
  have Sg0c2 := Sg0.cell 2
  have Sh0c0 := Sh0.cell 0
  have Sh0c1 := Sh0.cell 1
  have Sh0c2 := Sh0.cell 2
  simp at B0c0 B0c1 B0c2 Sw0c0 Sw0c1 Sw0c2 Sg0c0 Sg0c1 Sg0c2 Sh0c0 Sh0c1 Sh0c2
  go_wp2_with fail
  refine (eqCombState_same Ah0a Ah0b Aw0a Aw0b ch0a ch0b cw0a cw0b ((newCS a0 b0 c0).sums) ((newCS a0 b0 c0).delays) ((newCS a0 b0 c0).phase) _ (own_rd Oh0a) (own_rd Oh0b) (own_rd Ow0a) (own_rd Ow0b) (by have := small1 a0 b0 c0; omega) (by have := small2 a0 b0 c0; omega)).mono ?_
  rintro e w10 ⟨rfl, h10⟩
  replace Ow0a := own_past Ow0a h10
  replace Ow0b := own_past Ow0b h10
  replace Og0a := own_past Og0a h10
  replace Og0b := own_past Og0b h10
  replace Oh0a := own_past Oh0a h10
  replace Oh0b := own_past Oh0b h10
  replace B0 := B0.past h10
  replace Sw0 := Sw0.past h10
  replace Sg0 := Sg0.past h10
  replace Sh0 := Sh0.past h10
  replace Hb := Lib.hid (thenB Hb.out h10)
  have t23 : (w9.alloc (.cells #[.slice Ah0a ((newCS a0 b0 c0).sums).length ch0a, .slice Ah0b ((newCS a0 b0 c0).delays).length ch0b, .int .i64 ((newCS a0 b0 c0).phase)] 54)).heap.size ≤ w10.heap.size := h10.size
  clear h10
  clear B0c0 B0c1 B0c2 Sw0c0 Sw0c1 Sw0c2 Sg0c0 Sg0c1 Sg0c2 Sh0c0 Sh0c1 Sh0c2
  have B0c0 := B0.cell 0
  have B0c1 := B0.cell 1
  have B0c2 := B0.cell 2
  have Sw0c0 := Sw0.cell 0
  have Sw0c1 := Sw0.cell 1
  have Sw0c2 := Sw0.cell 2
  have Sg0c0 := Sg0.cell 0
  have Sg0c1 := Sg0.cell 1
  have Sg0c2 := Sg0.cell 2
  have Sh0c0 := Sh0.cell 0
  have Sh0c1 := Sh0.cell 1
  have Sh0c2 := Sh0.cell 2
  simp at B0c0 B0c1 B0c2 Sw0c0 Sw0c1 Sw0c2 Sg0c0 Sg0c1 Sg0c2 Sh0c0 Sh0c1 Sh0c2
  go_wp2_with fail
  refine (heldCombState_any Ag0a Ag0b cg0a cg0b _ _ ((newCS a0 b0 c0).phase) (1) _ (own_rd Og0a) (own_rd Og0b) (by omega) (by omega) (by omega) (by omega)).mono ?_
  rintro e w11 ⟨rfl, h11⟩
  replace Ow0a := own_past Ow0a h11
  replace Ow0b := own_past Ow0b h11
  replace Og0a := own_past Og0a h11
  replace Og0b := own_past Og0b h11
  replace Oh0a := own_past Oh0a h11
  replace Oh0b := own_past Oh0b h11
  replace B0 := B0.past h11
  replace Sw0 := Sw0.past h11
  replace Sg0 := Sg0.past h11
  replace Sh0 := Sh0.past h11
  replace Hb := Lib.hid (thenB Hb.out h11)
  have t25 : w10.heap.size ≤ w11.heap.size := h11.size
  clear h11
  go_wp2_with fail
  go_ret
  exact ⟨rfl, Hb.out⟩

set_option maxRecDepth 100000 in
theorem lifted (os : Os) (started : os.Started) (H : Type) (enc : TypeId × Value → H) :
    ReturnsInHanded {} Try.checked os 12 .any (Rows.fnExactNewCombSpec.pre6 enc Try.prog Try.f12 Rows.fnExactNewCombRow.domain false) (Rows.fnExactNewCombSpec.post enc Try.prog Try.f12 false true false false) := by
  refine returnsInHanded_of_change (C := Try.checked) own started (by kernel_rfl) Try.func12
    (ChangeSpec.witness6 (enc := enc) (C := Try.checked) false ⟨#[], #[.agg #[.int .i64 0, .int .i64 0, .int .i64 0]], []⟩ 8 (by kernel_rfl) (by kernel_rfl) (by kernel_rfl) (by kernel_rfl)) ?_
  intro W base args ds gs before hval0 hW hcnd _
  have hval : ∀ (j : Nat) t v, Try.f12.params[j]? = some t → args[j]? = some v → Value.okWide Try.prog W .any base t v := hval0
  have hW' := hW
  obtain ⟨p, q, hA0, hV, rfl, hfz, hnd⟩ := hW
  have hA : DataW.TrodAll enc Try.prog W 0 (fun _ => true) true Try.f12.params.toList args.toList ds p := hA0
  rw [Try.params12] at hA hval
  obtain ⟨v0, vs0, d0, ds0, p0, q0, hargs, rfl, rfl, h0, g0⟩ := trodAll_cons hA
  obtain ⟨rfl, rfl, rfl⟩ := trodAll_nil g0
  obtain rfl : args = #[v0] := by cases args; simp_all
  obtain ⟨rfl, rfl⟩ := trodVars_none hV
  have k0 := h0
  have lt0 : ∀ x ∈ p0, x.block < W.heap.size := by obtain ⟨m, hm⟩ := k0; exact DataW.trod_lt m _ _ _ hm
  obtain ⟨a0, b0, c0, rfl, x0⟩ := arg_s3 Try.underlying29 (by kernel_rfl) (by kernel_rfl) Try.underlying3 Try.underlying3 Try.underlying3 (hval 0 29 v0 rfl rfl) h0
  clear hA0 hval0
  refine (walkw W a0 b0 c0 x0).mono fun e W' ⟨he, bel⟩ => ?_
  subst he
  exact ⟨_, rfl, _, _, _, [], _, [], hW', trodAll_mk1 (shut_bool Try.underlying4 _), (trodAll_cons_mk (Below.trod laidOut (by kernel_rfl) (of_decide_eq_true (by kernel_rfl)) k0 bel lt0) trodAll_mk0), rfl, bel.frame _, fun h => by cases h⟩
theorem over : Rows.fnExactNewCombRow.holds Try.pinned (OpenSpec.ofChange Rows.fnExactNewCombSpec) :=
  OpenClaim.holds_of_wide 12 Try.f12 rfl rfl rfl rfl rfl rfl rfl ⟨rfl, rfl, rfl, rfl, rfl⟩ rfl rfl rfl rfl rfl (by kernel_rfl) Try.func12 (by kernel_rfl)
    (of_decide_eq_true (by kernel_rfl)) (by unfold Func.isWrapper; first | (rw [if_pos (by decide +kernel)]; kernel_rfl) | (rw [if_neg (by decide +kernel)]; exact ⟨rfl, rfl⟩))
    (fun os started H enc _ => lifted os started H enc)
theorem proved : Rows.FnExactNewCombSaid := over

end Go.Proofs.Ytkdlmddofnnngaa.newCombLaw
