/- The program's NewBench returns what the reference's returns. No condition. -/
import Derived.Test.YtinecppmnnkoeaaBench2
namespace Go.Proofs.Ytinecppmnnkoeaa.newBenchLaw
open Go.ChangeShapes Go.WideShapes Go.ChangeAt Go.RowKit
set_option linter.unusedVariables false
set_option linter.unusedSimpArgs false
theorem nb (xs : List Int) (h : xs = newBe.coefs ∨ xs = newBe.memory ∨ xs = newBe.input) : xs.length ≤ 1000 := by
  rcases h with rfl | rfl | rfl <;> decide
set_option maxRecDepth 100000 in
set_option maxHeartbeats 2000000 in
theorem walkw (w : World)  :
    Calls Try.prog 4 #[] w fun e w' => e = .returned (.bool true) ∧ Below w.heap.size w w' := by
  have Hb : Hid (Below w.heap.size w w) := Below.refl _ _
  go_enter Try.func4, Try.ntmps4
  go_wp2_with fail
  refine (specNewBench_any  _ ).mono ?_
  rintro e w1 ⟨Aw0a, cw0a, Aw0b, cw0b, Aw0c, cw0c, Aw0d, cw0d, Aw0e, cw0e, rfl, Ow0a, Ow0b, Ow0c, Ow0d, Ow0e, Pw0aw0b, Pw0aw0c, Pw0aw0d, Pw0aw0e, Pw0bw0c, Pw0bw0d, Pw0bw0e, Pw0cw0d, Pw0cw0e, Pw0dw0e, h1⟩
  replace Hb := Lib.hid (thenB Hb.out h1)
  have t1 : w.heap.size ≤ w1.heap.size := h1.size
  have Lw0a := own_lo Ow0a
  have Uw0a := own_hi Ow0a
  have Lw0b := own_lo Ow0b
  have Uw0b := own_hi Ow0b
  have Lw0c := own_lo Ow0c
  have Uw0c := own_hi Ow0c
  have Lw0d := own_lo Ow0d
  have Uw0d := own_hi Ow0d
  have Lw0e := own_lo Ow0e
  have Uw0e := own_hi Ow0e
  clear h1
  have bx : Below w1.heap.size w1 (w1.alloc (.cells #[.int .i64 (newBe.levels), .int .i64 (newBe.step), .slice Aw0a (newBe.coefs).length cw0a, .slice Aw0b (newBe.memory).length cw0b, .slice Aw0c (newBe.input).length cw0c, .slice Aw0d (newBe.output).length cw0d, .slice Aw0e (newBe.errors).length cw0e] 35)) := (Below.refl _ _).alloc (Nat.le_refl _) _
  have Sw0 := Blk.new w1 35 #[.int .i64 (newBe.levels), .int .i64 (newBe.step), .slice Aw0a (newBe.coefs).length cw0a, .slice Aw0b (newBe.memory).length cw0b, .slice Aw0c (newBe.input).length cw0c, .slice Aw0d (newBe.output).length cw0d, .slice Aw0e (newBe.errors).length cw0e]
  have VSw0 : w1.heap.size < (w1.alloc (.cells #[.int .i64 (newBe.levels), .int .i64 (newBe.step), .slice Aw0a (newBe.coefs).length cw0a, .slice Aw0b (newBe.memory).length cw0b, .slice Aw0c (newBe.input).length cw0c, .slice Aw0d (newBe.output).length cw0d, .slice Aw0e (newBe.errors).length cw0e] 35)).heap.size := by simp
  replace Ow0a := own_past Ow0a bx
  replace Ow0b := own_past Ow0b bx
  replace Ow0c := own_past Ow0c bx
  replace Ow0d := own_past Ow0d bx
  replace Ow0e := own_past Ow0e bx
  replace Hb := Lib.hid (thenB Hb.out bx)
  clear bx
  have Sw0c0 := Sw0.cell 0
  have Sw0c1 := Sw0.cell 1
  have Sw0c2 := Sw0.cell 2
  have Sw0c3 := Sw0.cell 3
  have Sw0c4 := Sw0.cell 4
  have Sw0c5 := Sw0.cell 5
  have Sw0c6 := Sw0.cell 6
  simp at Sw0c0 Sw0c1 Sw0c2 Sw0c3 Sw0c4 Sw0c5 Sw0c6
  go_wp2_with fail
  refine (implNewBench_any  _ ).mono ?_
  rintro e w2 ⟨Ag0a, cg0a, Ag0b, cg0b, Ag0c, cg0c, Ag0d, cg0d, Ag0e, cg0e, rfl, Og0a, Og0b, Og0c, Og0d, Og0e, Pg0ag0b, Pg0ag0c, Pg0ag0d, Pg0ag0e, Pg0bg0c, Pg0bg0d, Pg0bg0e, Pg0cg0d, Pg0cg0e, Pg0dg0e, h2⟩
  replace Ow0a := own_past Ow0a h2
  replace Ow0b := own_past Ow0b h2
  replace Ow0c := own_past Ow0c h2
  replace Ow0d := own_past Ow0d h2
  replace Ow0e := own_past Ow0e h2
  replace Sw0 := Sw0.past h2
  replace Hb := Lib.hid (thenB Hb.out h2)
  have t4 : (w1.alloc (.cells #[.int .i64 (newBe.levels), .int .i64 (newBe.step), .slice Aw0a (newBe.coefs).length cw0a, .slice Aw0b (newBe.memory).length cw0b, .slice Aw0c (newBe.input).length cw0c, .slice Aw0d (newBe.output).length cw0d, .slice Aw0e (newBe.errors).length cw0e] 35)).heap.size ≤ w2.heap.size := h2.size
  have Lg0a := own_lo Og0a
  have Ug0a := own_hi Og0a
  have Lg0b := own_lo Og0b
  have Ug0b := own_hi Og0b
  have Lg0c := own_lo Og0c
  have Ug0c := own_hi Og0c
  have Lg0d := own_lo Og0d
  have Ug0d := own_hi Og0d
  have Lg0e := own_lo Og0e
  have Ug0e := own_hi Og0e
  clear h2
  have bx : Below w2.heap.size w2 (w2.alloc (.cells #[.int .i64 (newBe.levels), .int .i64 (newBe.step), .slice Ag0a (newBe.coefs).length cg0a, .slice Ag0b (newBe.memory).length cg0b, .slice Ag0c (newBe.input).length cg0c, .slice Ag0d (newBe.output).length cg0d, .slice Ag0e (newBe.errors).length cg0e] 35)) := (Below.refl _ _).alloc (Nat.le_refl _) _
  have Sg0 := Blk.new w2 35 #[.int .i64 (newBe.levels), .int .i64 (newBe.step), .slice Ag0a (newBe.coefs).length cg0a, .slice Ag0b (newBe.memory).length cg0b, .slice Ag0c (newBe.input).length cg0c, .slice Ag0d (newBe.output).length cg0d, .slice Ag0e (newBe.errors).length cg0e]
  have VSg0 : w2.heap.size < (w2.alloc (.cells #[.int .i64 (newBe.levels), .int .i64 (newBe.step), .slice Ag0a (newBe.coefs).length cg0a, .slice Ag0b (newBe.memory).length cg0b, .slice Ag0c (newBe.input).length cg0c, .slice Ag0d (newBe.output).length cg0d, .slice Ag0e (newBe.errors).length cg0e] 35)).heap.size := by simp
  replace Ow0a := own_past Ow0a bx
  replace Ow0b := own_past Ow0b bx
  replace Ow0c := own_past Ow0c bx
  replace Ow0d := own_past Ow0d bx
  replace Ow0e := own_past Ow0e bx
  replace Og0a := own_past Og0a bx
  replace Og0b := own_past Og0b bx
  replace Og0c := own_past Og0c bx
  replace Og0d := own_past Og0d bx
  replace Og0e := own_past Og0e bx
  replace Sw0 := Sw0.past bx
  replace Hb := Lib.hid (thenB Hb.out bx)
  clear bx
  clear Sw0c0 Sw0c1 Sw0c2 Sw0c3 Sw0c4 Sw0c5 Sw0c6
  have Sw0c0 := Sw0.cell 0
  have Sw0c1 := Sw0.cell 1
  have Sw0c2 := Sw0.cell 2
  have Sw0c3 := Sw0.cell 3
  have Sw0c4 := Sw0.cell 4
  have Sw0c5 := Sw0.cell 5
  have Sw0c6 := Sw0.cell 6
  have Sg0c0 := Sg0.cell 0
  have Sg0c1 := Sg0.cell 1
  have Sg0c2 := Sg0.cell 2
  have Sg0c3 := Sg0.cell 3
  have Sg0c4 := Sg0.cell 4
  have Sg0c5 := Sg0.cell 5
  have Sg0c6 := Sg0.cell 6
  simp at Sw0c0 Sw0c1 Sw0c2 Sw0c3 Sw0c4 Sw0c5 Sw0c6 Sg0c0 Sg0c1 Sg0c2 Sg0c3 Sg0c4 Sg0c5 Sg0c6
  go_wp2_with fail
  refine (eqBench_same Ag0a Ag0b Ag0c Ag0d Ag0e Aw0a Aw0b Aw0c Aw0d Aw0e cg0a cg0b cg0c cg0d cg0e cw0a cw0b cw0c cw0d cw0e (newBe.coefs) (newBe.memory) (newBe.input) (newBe.output) (newBe.errors) (newBe.levels) (newBe.step) _ (own_rd Og0a) (own_rd Og0b) (own_rd Og0c) (own_rd Og0d) (own_rd Og0e) (own_rd Ow0a) (own_rd Ow0b) (own_rd Ow0c) (own_rd Ow0d) (own_rd Ow0e) (by have := nb newBe.coefs (.inl rfl); omega) (by have := nb newBe.memory (.inr (.inl rfl)); omega) (by have := nb newBe.input (.inr (.inr rfl)); omega) (by have := nb newBe.output (.inr (.inr rfl)); omega) (by have := nb newBe.errors (.inr (.inr rfl)); omega)).mono ?_
  rintro e w3 ⟨rfl, h3⟩
  replace Ow0a := own_past Ow0a h3
  replace Ow0b := own_past Ow0b h3
  replace Ow0c := own_past Ow0c h3
  replace Ow0d := own_past Ow0d h3
  replace Ow0e := own_past Ow0e h3
  replace Og0a := own_past Og0a h3
  replace Og0b := own_past Og0b h3
  replace Og0c := own_past Og0c h3
  replace Og0d := own_past Og0d h3
  replace Og0e := own_past Og0e h3
  replace Sw0 := Sw0.past h3
  replace Sg0 := Sg0.past h3
  replace Hb := Lib.hid (thenB Hb.out h3)
  have t7 : (w2.alloc (.cells #[.int .i64 (newBe.levels), .int .i64 (newBe.step), .slice Ag0a (newBe.coefs).length cg0a, .slice Ag0b (newBe.memory).length cg0b, .slice Ag0c (newBe.input).length cg0c, .slice Ag0d (newBe.output).length cg0d, .slice Ag0e (newBe.errors).length cg0e] 35)).heap.size ≤ w3.heap.size := h3.size
  clear h3
  have q00 := nb newBe.coefs (.inl rfl)
  have q01 := nb newBe.memory (.inr (.inl rfl))
  have q02 := nb newBe.input (.inr (.inr rfl))
  have q03 := nb newBe.output (.inr (.inr rfl))
  have q04 := nb newBe.errors (.inr (.inr rfl))
  clear Sw0c0 Sw0c1 Sw0c2 Sw0c3 Sw0c4 Sw0c5 Sw0c6 Sg0c0 Sg0c1 Sg0c2 Sg0c3 Sg0c4 Sg0c5 Sg0c6
  have Sw0c0 := Sw0.cell 0
  have Sw0c1 := Sw0.cell 1
  have Sw0c2 := Sw0.cell 2
  have Sw0c3 := Sw0.cell 3
  have Sw0c4 := Sw0.cell 4
  have Sw0c5 := Sw0.cell 5
  have Sw0c6 := Sw0.cell 6
  have Sg0c0 := Sg0.cell 0
  have Sg0c1 := Sg0.cell 1
  have Sg0c2 := Sg0.cell 2
  have Sg0c3 := Sg0.cell 3
  have Sg0c4 := Sg0.cell 4
  have Sg0c5 := Sg0.cell 5
  have Sg0c6 := Sg0.cell 6
  simp at Sw0c0 Sw0c1 Sw0c2 Sw0c3 Sw0c4 Sw0c5 Sw0c6 Sg0c0 Sg0c1 Sg0c2 Sg0c3 Sg0c4 Sg0c5 Sg0c6
  go_wp2_with fail
  refine (markBench_any Ag0a Ag0b Ag0c Ag0d Ag0e _ _ _ _ _ cg0a cg0b cg0c cg0d cg0e (newBe.coefs) (newBe.memory) (newBe.input) (newBe.output) (newBe.errors) (newBe.levels) (newBe.step) (1) _ Og0a Og0b Og0c Og0d Og0e (Pg0ag0b) (Pg0ag0c) (Pg0ag0d) (Pg0ag0e) (Pg0bg0c) (Pg0bg0d) (Pg0bg0e) (Pg0cg0d) (Pg0cg0e) (Pg0dg0e) (by omega) (by omega) (by omega) (by omega) (by omega) (by omega) (by omega)).mono ?_
  rintro e w4 ⟨wm4a, wm4b, wm4c, wm4d, rfl, Og0a, Og0b, Og0c, Og0d, Og0e, h4a, h4b, h4c, h4d, h4e⟩
  replace Ow0a := own_wrote Ow0a h4a (apart_lt Uw0a Lg0a (by omega))
  replace Ow0b := own_wrote Ow0b h4a (apart_lt Uw0b Lg0a (by omega))
  replace Ow0c := own_wrote Ow0c h4a (apart_lt Uw0c Lg0a (by omega))
  replace Ow0d := own_wrote Ow0d h4a (apart_lt Uw0d Lg0a (by omega))
  replace Ow0e := own_wrote Ow0e h4a (apart_lt Uw0e Lg0a (by omega))
  replace Sw0 := blk_wrote Sw0 h4a Lg0a (by omega)
  replace Sg0 := blk_wrote_hi Sg0 h4a Ug0a (by omega)
  replace Hb := Lib.hid (Hb.out.trans (below_wrote h4a Hb.out.size (lo_le Lg0a (by omega))))
  have t9 : w3.heap.size ≤ wm4a.heap.size := h4a.size
  replace Ow0a := own_wrote Ow0a h4b (apart_lt Uw0a Lg0b (by omega))
  replace Ow0b := own_wrote Ow0b h4b (apart_lt Uw0b Lg0b (by omega))
  replace Ow0c := own_wrote Ow0c h4b (apart_lt Uw0c Lg0b (by omega))
  replace Ow0d := own_wrote Ow0d h4b (apart_lt Uw0d Lg0b (by omega))
  replace Ow0e := own_wrote Ow0e h4b (apart_lt Uw0e Lg0b (by omega))
  replace Sw0 := blk_wrote Sw0 h4b Lg0b (by omega)
  replace Sg0 := blk_wrote_hi Sg0 h4b Ug0b (by omega)
  replace Hb := Lib.hid (Hb.out.trans (below_wrote h4b Hb.out.size (lo_le Lg0b (by omega))))
  have t10 : wm4a.heap.size ≤ wm4b.heap.size := h4b.size
  replace Ow0a := own_wrote Ow0a h4c (apart_lt Uw0a Lg0c (by omega))
  replace Ow0b := own_wrote Ow0b h4c (apart_lt Uw0b Lg0c (by omega))
  replace Ow0c := own_wrote Ow0c h4c (apart_lt Uw0c Lg0c (by omega))
  replace Ow0d := own_wrote Ow0d h4c (apart_lt Uw0d Lg0c (by omega))
  replace Ow0e := own_wrote Ow0e h4c (apart_lt Uw0e Lg0c (by omega))
  replace Sw0 := blk_wrote Sw0 h4c Lg0c (by omega)
  replace Sg0 := blk_wrote_hi Sg0 h4c Ug0c (by omega)
  replace Hb := Lib.hid (Hb.out.trans (below_wrote h4c Hb.out.size (lo_le Lg0c (by omega))))
  have t11 : wm4b.heap.size ≤ wm4c.heap.size := h4c.size
  replace Ow0a := own_wrote Ow0a h4d (apart_lt Uw0a Lg0d (by omega))
  replace Ow0b := own_wrote Ow0b h4d (apart_lt Uw0b Lg0d (by omega))
  replace Ow0c := own_wrote Ow0c h4d (apart_lt Uw0c Lg0d (by omega))
  replace Ow0d := own_wrote Ow0d h4d (apart_lt Uw0d Lg0d (by omega))
  replace Ow0e := own_wrote Ow0e h4d (apart_lt Uw0e Lg0d (by omega))
  replace Sw0 := blk_wrote Sw0 h4d Lg0d (by omega)
  replace Sg0 := blk_wrote_hi Sg0 h4d Ug0d (by omega)
  replace Hb := Lib.hid (Hb.out.trans (below_wrote h4d Hb.out.size (lo_le Lg0d (by omega))))
  have t12 : wm4c.heap.size ≤ wm4d.heap.size := h4d.size
  replace Ow0a := own_wrote Ow0a h4e (apart_lt Uw0a Lg0e (by omega))
  replace Ow0b := own_wrote Ow0b h4e (apart_lt Uw0b Lg0e (by omega))
  replace Ow0c := own_wrote Ow0c h4e (apart_lt Uw0c Lg0e (by omega))
  replace Ow0d := own_wrote Ow0d h4e (apart_lt Uw0d Lg0e (by omega))
  replace Ow0e := own_wrote Ow0e h4e (apart_lt Uw0e Lg0e (by omega))
  replace Sw0 := blk_wrote Sw0 h4e Lg0e (by omega)
  replace Sg0 := blk_wrote_hi Sg0 h4e Ug0e (by omega)
  replace Hb := Lib.hid (Hb.out.trans (below_wrote h4e Hb.out.size (lo_le Lg0e (by omega))))
  have t13 : wm4d.heap.size ≤ w4.heap.size := h4e.size
  clear h4a h4b h4c h4d h4e
  clear Sw0c0 Sw0c1 Sw0c2 Sw0c3 Sw0c4 Sw0c5 Sw0c6 Sg0c0 Sg0c1 Sg0c2 Sg0c3 Sg0c4 Sg0c5 Sg0c6
  have Sw0c0 := Sw0.cell 0
  have Sw0c1 := Sw0.cell 1
  have Sw0c2 := Sw0.cell 2
  have Sw0c3 := Sw0.cell 3
  have Sw0c4 := Sw0.cell 4
  have Sw0c5 := Sw0.cell 5
  have Sw0c6 := Sw0.cell 6
  have Sg0c0 := Sg0.cell 0
  have Sg0c1 := Sg0.cell 1
  have Sg0c2 := Sg0.cell 2
  have Sg0c3 := Sg0.cell 3
  have Sg0c4 := Sg0.cell 4
  have Sg0c5 := Sg0.cell 5
  have Sg0c6 := Sg0.cell 6
  simp at Sw0c0 Sw0c1 Sw0c2 Sw0c3 Sw0c4 Sw0c5 Sw0c6 Sg0c0 Sg0c1 Sg0c2 Sg0c3 Sg0c4 Sg0c5 Sg0c6
  go_wp2_with fail
  refine (heldBench_any Ag0a Ag0b Ag0c Ag0d Ag0e cg0a cg0b cg0c cg0d cg0e _ _ _ _ _ (newBe.levels) (newBe.step) (1) _ (own_rd Og0a) (own_rd Og0b) (own_rd Og0c) (own_rd Og0d) (own_rd Og0e) (by omega) (by omega) (by omega) (by omega) (by omega) (by omega) (by omega)).mono ?_
  rintro e w5 ⟨rfl, h5⟩
  replace Ow0a := own_past Ow0a h5
  replace Ow0b := own_past Ow0b h5
  replace Ow0c := own_past Ow0c h5
  replace Ow0d := own_past Ow0d h5
  replace Ow0e := own_past Ow0e h5
  replace Og0a := own_past Og0a h5
  replace Og0b := own_past Og0b h5
  replace Og0c := own_past Og0c h5
  replace Og0d := own_past Og0d h5
  replace Og0e := own_past Og0e h5
  replace Sw0 := Sw0.past h5
  replace Sg0 := Sg0.past h5
  replace Hb := Lib.hid (thenB Hb.out h5)
  have t14 : w4.heap.size ≤ w5.heap.size := h5.size
  clear h5
  clear Sw0c0 Sw0c1 Sw0c2 Sw0c3 Sw0c4 Sw0c5 Sw0c6 Sg0c0 Sg0c1 Sg0c2 Sg0c3 Sg0c4 Sg0c5 Sg0c6
  have Sw0c0 := Sw0.cell 0
  have Sw0c1 := Sw0.cell 1
  have Sw0c2 := Sw0.cell 2
  have Sw0c3 := Sw0.cell 3
  have Sw0c4 := Sw0.cell 4
  have Sw0c5 := Sw0.cell 5
  have Sw0c6 := Sw0.cell 6
  have Sg0c0 := Sg0.cell 0
  have Sg0c1 := Sg0.cell 1
  have Sg0c2 := Sg0.cell 2
  have Sg0c3 := Sg0.cell 3
  have Sg0c4 := Sg0.cell 4
  have Sg0c5 := Sg0.cell 5
  have Sg0c6 := Sg0.cell 6
  simp at Sw0c0 Sw0c1 Sw0c2 Sw0c3 Sw0c4 Sw0c5 Sw0c6 Sg0c0 Sg0c1 Sg0c2 Sg0c3 Sg0c4 Sg0c5 Sg0c6
  go_wp2_with fail
  refine (implNewBench_any  _ ).mono ?_
  rintro e w6 ⟨Ah0a, ch0a, Ah0b, ch0b, Ah0c, ch0c, Ah0d, ch0d, Ah0e, ch0e, rfl, Oh0a, Oh0b, Oh0c, Oh0d, Oh0e, Ph0ah0b, Ph0ah0c, Ph0ah0d, Ph0ah0e, Ph0bh0c, Ph0bh0d, Ph0bh0e, Ph0ch0d, Ph0ch0e, Ph0dh0e, h6⟩
  replace Ow0a := own_past Ow0a h6
  replace Ow0b := own_past Ow0b h6
  replace Ow0c := own_past Ow0c h6
  replace Ow0d := own_past Ow0d h6
  replace Ow0e := own_past Ow0e h6
  replace Og0a := own_past Og0a h6
  replace Og0b := own_past Og0b h6
  replace Og0c := own_past Og0c h6
  replace Og0d := own_past Og0d h6
  replace Og0e := own_past Og0e h6
  replace Sw0 := Sw0.past h6
  replace Sg0 := Sg0.past h6
  replace Hb := Lib.hid (thenB Hb.out h6)
  have t16 : w5.heap.size ≤ w6.heap.size := h6.size
  have Lh0a := own_lo Oh0a
  have Uh0a := own_hi Oh0a
  have Lh0b := own_lo Oh0b
  have Uh0b := own_hi Oh0b
  have Lh0c := own_lo Oh0c
  have Uh0c := own_hi Oh0c
  have Lh0d := own_lo Oh0d
  have Uh0d := own_hi Oh0d
  have Lh0e := own_lo Oh0e
  have Uh0e := own_hi Oh0e
  clear h6
  have bx : Below w6.heap.size w6 (w6.alloc (.cells #[.int .i64 (newBe.levels), .int .i64 (newBe.step), .slice Ah0a (newBe.coefs).length ch0a, .slice Ah0b (newBe.memory).length ch0b, .slice Ah0c (newBe.input).length ch0c, .slice Ah0d (newBe.output).length ch0d, .slice Ah0e (newBe.errors).length ch0e] 35)) := (Below.refl _ _).alloc (Nat.le_refl _) _
  have Sh0 := Blk.new w6 35 #[.int .i64 (newBe.levels), .int .i64 (newBe.step), .slice Ah0a (newBe.coefs).length ch0a, .slice Ah0b (newBe.memory).length ch0b, .slice Ah0c (newBe.input).length ch0c, .slice Ah0d (newBe.output).length ch0d, .slice Ah0e (newBe.errors).length ch0e]
  have VSh0 : w6.heap.size < (w6.alloc (.cells #[.int .i64 (newBe.levels), .int .i64 (newBe.step), .slice Ah0a (newBe.coefs).length ch0a, .slice Ah0b (newBe.memory).length ch0b, .slice Ah0c (newBe.input).length ch0c, .slice Ah0d (newBe.output).length ch0d, .slice Ah0e (newBe.errors).length ch0e] 35)).heap.size := by simp
  replace Ow0a := own_past Ow0a bx
  replace Ow0b := own_past Ow0b bx
  replace Ow0c := own_past Ow0c bx
  replace Ow0d := own_past Ow0d bx
  replace Ow0e := own_past Ow0e bx
  replace Og0a := own_past Og0a bx
  replace Og0b := own_past Og0b bx
  replace Og0c := own_past Og0c bx
  replace Og0d := own_past Og0d bx
  replace Og0e := own_past Og0e bx
  replace Oh0a := own_past Oh0a bx
  replace Oh0b := own_past Oh0b bx
  replace Oh0c := own_past Oh0c bx
  replace Oh0d := own_past Oh0d bx
  replace Oh0e := own_past Oh0e bx
  replace Sw0 := Sw0.past bx
  replace Sg0 := Sg0.past bx
  replace Hb := Lib.hid (thenB Hb.out bx)
  clear bx
  clear Sw0c0 Sw0c1 Sw0c2 Sw0c3 Sw0c4 Sw0c5 Sw0c6 Sg0c0 Sg0c1 Sg0c2 Sg0c3 Sg0c4 Sg0c5 Sg0c6
  have Sw0c0 := Sw0.cell 0
  have Sw0c1 := Sw0.cell 1
  have Sw0c2 := Sw0.cell 2
  have Sw0c3 := Sw0.cell 3
  have Sw0c4 := Sw0.cell 4
  have Sw0c5 := Sw0.cell 5
  have Sw0c6 := Sw0.cell 6
  have Sg0c0 := Sg0.cell 0
  have Sg0c1 := Sg0.cell 1
  have Sg0c2 := Sg0.cell 2
  have Sg0c3 := Sg0.cell 3
  have Sg0c4 := Sg0.cell 4
  have Sg0c5 := Sg0.cell 5
  have Sg0c6 := Sg0.cell 6
  have Sh0c0 := Sh0.cell 0
  have Sh0c1 := Sh0.cell 1
  have Sh0c2 := Sh0.cell 2
  have Sh0c3 := Sh0.cell 3
  have Sh0c4 := Sh0.cell 4
  have Sh0c5 := Sh0.cell 5
  have Sh0c6 := Sh0.cell 6
  simp at Sw0c0 Sw0c1 Sw0c2 Sw0c3 Sw0c4 Sw0c5 Sw0c6 Sg0c0 Sg0c1 Sg0c2 Sg0c3 Sg0c4 Sg0c5 Sg0c6 Sh0c0 Sh0c1 Sh0c2 Sh0c3 Sh0c4 Sh0c5 Sh0c6
  go_wp2_with fail
  refine (eqBench_same Ah0a Ah0b Ah0c Ah0d Ah0e Aw0a Aw0b Aw0c Aw0d Aw0e ch0a ch0b ch0c ch0d ch0e cw0a cw0b cw0c cw0d cw0e (newBe.coefs) (newBe.memory) (newBe.input) (newBe.output) (newBe.errors) (newBe.levels) (newBe.step) _ (own_rd Oh0a) (own_rd Oh0b) (own_rd Oh0c) (own_rd Oh0d) (own_rd Oh0e) (own_rd Ow0a) (own_rd Ow0b) (own_rd Ow0c) (own_rd Ow0d) (own_rd Ow0e) (by have := nb newBe.coefs (.inl rfl); omega) (by have := nb newBe.memory (.inr (.inl rfl)); omega) (by have := nb newBe.input (.inr (.inr rfl)); omega) (by have := nb newBe.output (.inr (.inr rfl)); omega) (by have := nb newBe.errors (.inr (.inr rfl)); omega)).mono ?_
  rintro e w7 ⟨rfl, h7⟩
  replace Ow0a := own_past Ow0a h7
  replace Ow0b := own_past Ow0b h7
  replace Ow0c := own_past Ow0c h7
  replace Ow0d := own_past Ow0d h7
  replace Ow0e := own_past Ow0e h7
  replace Og0a := own_past Og0a h7
  replace Og0b := own_past Og0b h7
  replace Og0c := own_past Og0c h7
  replace Og0d := own_past Og0d h7
  replace Og0e := own_past Og0e h7
  replace Oh0a := own_past Oh0a h7
  replace Oh0b := own_past Oh0b h7
  replace Oh0c := own_past Oh0c h7
  replace Oh0d := own_past Oh0d h7
  replace Oh0e := own_past Oh0e h7
  replace Sw0 := Sw0.past h7
  replace Sg0 := Sg0.past h7
  replace Sh0 := Sh0.past h7
  replace Hb := Lib.hid (thenB Hb.out h7)
  have t19 : (w6.alloc (.cells #[.int .i64 (newBe.levels), .int .i64 (newBe.step), .slice Ah0a (newBe.coefs).length ch0a, .slice Ah0b (newBe.memory).length ch0b, .slice Ah0c (newBe.input).length ch0c, .slice Ah0d (newBe.output).length ch0d, .slice Ah0e (newBe.errors).length ch0e] 35)).heap.size ≤ w7.heap.size := h7.size
  clear h7
  clear Sw0c0 Sw0c1 Sw0c2 Sw0c3 Sw0c4 Sw0c5 Sw0c6 Sg0c0 Sg0c1 Sg0c2 Sg0c3 Sg0c4 Sg0c5 Sg0c6 Sh0c0 Sh0c1 Sh0c2 Sh0c3 Sh0c4 Sh0c5 Sh0c6
  have Sw0c0 := Sw0.cell 0
  have Sw0c1 := Sw0.cell 1
  have Sw0c2 := Sw0.cell 2
  have Sw0c3 := Sw0.cell 3
  have Sw0c4 := Sw0.cell 4
  have Sw0c5 := Sw0.cell 5
  have Sw0c6 := Sw0.cell 6
  have Sg0c0 := Sg0.cell 0
  have Sg0c1 := Sg0.cell 1
  have Sg0c2 := Sg0.cell 2
  have Sg0c3 := Sg0.cell 3
  have Sg0c4 := Sg0.cell 4
  have Sg0c5 := Sg0.cell 5
  have Sg0c6 := Sg0.cell 6
  have Sh0c0 := Sh0.cell 0
  have Sh0c1 := Sh0.cell 1
  have Sh0c2 := Sh0.cell 2
  have Sh0c3 := Sh0.cell 3
  have Sh0c4 := Sh0.cell 4
  have Sh0c5 := Sh0.cell 5
  have Sh0c6 := Sh0.cell 6
  simp at Sw0c0 Sw0c1 Sw0c2 Sw0c3 Sw0c4 Sw0c5 Sw0c6 Sg0c0 Sg0c1 Sg0c2 Sg0c3 Sg0c4 Sg0c5 Sg0c6 Sh0c0 Sh0c1 Sh0c2 Sh0c3 Sh0c4 Sh0c5 Sh0c6
  go_wp2_with fail
  refine (heldBench_any Ag0a Ag0b Ag0c Ag0d Ag0e cg0a cg0b cg0c cg0d cg0e _ _ _ _ _ (newBe.levels) (newBe.step) (1) _ (own_rd Og0a) (own_rd Og0b) (own_rd Og0c) (own_rd Og0d) (own_rd Og0e) (by omega) (by omega) (by omega) (by omega) (by omega) (by omega) (by omega)).mono ?_
  rintro e w8 ⟨rfl, h8⟩
  replace Ow0a := own_past Ow0a h8
  replace Ow0b := own_past Ow0b h8
  replace Ow0c := own_past Ow0c h8
  replace Ow0d := own_past Ow0d h8
  replace Ow0e := own_past Ow0e h8
  replace Og0a := own_past Og0a h8
  replace Og0b := own_past Og0b h8
  replace Og0c := own_past Og0c h8
  replace Og0d := own_past Og0d h8
  replace Og0e := own_past Og0e h8
  replace Oh0a := own_past Oh0a h8
  replace Oh0b := own_past Oh0b h8
  replace Oh0c := own_past Oh0c h8
  replace Oh0d := own_past Oh0d h8
  replace Oh0e := own_past Oh0e h8
  replace Sw0 := Sw0.past h8
  replace Sg0 := Sg0.past h8
  replace Sh0 := Sh0.past h8
  replace Hb := Lib.hid (thenB Hb.out h8)
  have t21 : w7.heap.size ≤ w8.heap.size := h8.size
  clear h8
  go_wp2_with fail
  go_ret
  exact ⟨rfl, Hb.out⟩

set_option maxRecDepth 100000 in
theorem lifted (os : Os) (started : os.Started) (H : Type) (enc : TypeId × Value → H) :
    ReturnsInHanded {} Try.checked os 4 .any (Rows.fnExactNewBenchSpec.pre6 enc Try.prog Try.f4 Rows.fnExactNewBenchRow.domain false) (Rows.fnExactNewBenchSpec.post enc Try.prog Try.f4 false true false false) := by
  refine returnsInHanded_of_change (C := Try.checked) own started (by kernel_rfl) Try.func4
    (ChangeSpec.witness6 (enc := enc) (C := Try.checked) false ⟨#[], #[], []⟩ 8 (by kernel_rfl) (by kernel_rfl) (by kernel_rfl) (by kernel_rfl)) ?_
  intro W base args ds gs before hval0 hW hcnd _
  have hval : ∀ (j : Nat) t v, Try.f4.params[j]? = some t → args[j]? = some v → Value.okWide Try.prog W .any base t v := hval0
  have hW' := hW
  obtain ⟨p, q, hA0, hV, rfl, hfz, hnd⟩ := hW
  have hA : DataW.TrodAll enc Try.prog W 0 (fun _ => true) true Try.f4.params.toList args.toList ds p := hA0
  rw [Try.params4] at hA hval
  obtain ⟨hargs, rfl, rfl⟩ := trodAll_nil hA
  obtain rfl : args = #[] := by cases args; simp_all
  obtain ⟨rfl, rfl⟩ := trodVars_none hV
  clear hA0 hval0
  refine (walkw W ).mono fun e W' ⟨he, bel⟩ => ?_
  subst he
  exact ⟨_, rfl, _, _, _, [], _, [], hW', trodAll_mk1 (shut_bool Try.underlying4 _), trodAll_mk0, rfl, bel.frame _, fun h => by cases h⟩
theorem over : Rows.fnExactNewBenchRow.holds Try.pinned (OpenSpec.ofChange Rows.fnExactNewBenchSpec) :=
  OpenClaim.holds_of_wide 4 Try.f4 rfl rfl rfl rfl rfl rfl rfl ⟨rfl, rfl, rfl, rfl, rfl⟩ rfl rfl rfl rfl rfl (by kernel_rfl) Try.func4 (by kernel_rfl)
    (of_decide_eq_true (by kernel_rfl)) (by unfold Func.isWrapper; first | (rw [if_pos (by decide +kernel)]; kernel_rfl) | (rw [if_neg (by decide +kernel)]; exact ⟨rfl, rfl⟩))
    (fun os started H enc _ => lifted os started H enc)
theorem proved : Rows.FnExactNewBenchSaid := over

end Go.Proofs.Ytinecppmnnkoeaa.newBenchLaw
