/- The program's BoxCoefs returns what the reference's returns, for all arguments. No condition. -/
import Derived.Test.YtkdlmddofnnngaaBox
namespace Go.Proofs.Ytkdlmddofnnngaa.boxCoefs
open Go.ChangeShapes Go.WideShapes Go.ChangeAt Go.RowKit
set_option linter.unusedVariables false
set_option linter.unusedSimpArgs false
set_option maxRecDepth 100000 in
set_option maxHeartbeats 2000000 in
theorem walkw (w : World) (a0 b0 c0 : Int) (x0 : -9223372036854775808 ≤ a0 ∧ a0 ≤ 9223372036854775807 ∧ -9223372036854775808 ≤ b0 ∧ b0 ≤ 9223372036854775807 ∧ -9223372036854775808 ≤ c0 ∧ c0 ≤ 9223372036854775807) :
    Calls Try.prog 14 #[.agg #[.int .i64 a0, .int .i64 b0, .int .i64 c0]] w fun e w' => e = .returned (.bool true) ∧ Below w.heap.size w w' := by
  clear x0
  have Hb : Hid (Below w.heap.size w w) := Below.refl _ _
  have bx : Below w.heap.size w (w.alloc (.cells #[.int .i64 a0, .int .i64 b0, .int .i64 c0] 29)) := (Below.refl _ _).alloc (Nat.le_refl _) _
  have B0 := Blk.new w 29 #[.int .i64 a0, .int .i64 b0, .int .i64 c0]
  have VB0 : w.heap.size < (w.alloc (.cells #[.int .i64 a0, .int .i64 b0, .int .i64 c0] 29)).heap.size := by simp
  replace Hb := Lib.hid (thenB Hb.out bx)
  clear bx
  go_enter Try.func14, Try.ntmps14
  have B0c0 := B0.cell 0
  have B0c1 := B0.cell 1
  have B0c2 := B0.cell 2
  simp at B0c0 B0c1 B0c2
  go_wp2_with fail
  refine (toComb_any a0 b0 c0 _).mono ?_
  rintro e w1 ⟨rfl, h1⟩
  replace B0 := B0.past h1
  replace Hb := Lib.hid (thenB Hb.out h1)
  have t2 : (w.alloc (.cells #[.int .i64 a0, .int .i64 b0, .int .i64 c0] 29)).heap.size ≤ w1.heap.size := h1.size
  clear h1
  clear B0c0 B0c1 B0c2
  have B0c0 := B0.cell 0
  have B0c1 := B0.cell 1
  have B0c2 := B0.cell 2
  simp at B0c0 B0c1 B0c2
  go_wp2_with fail
  refine (specBoxCoefs_any a0 b0 c0 _ ).mono ?_
  rintro e w2 ⟨Aw0a, cw0a, rfl, Ow0a, h2⟩
  replace B0 := B0.past h2
  replace Hb := Lib.hid (thenB Hb.out h2)
  have t4 : w1.heap.size ≤ w2.heap.size := h2.size
  have Lw0a := own_lo Ow0a
  have Uw0a := own_hi Ow0a
  clear h2
  clear B0c0 B0c1 B0c2
  have B0c0 := B0.cell 0
  have B0c1 := B0.cell 1
  have B0c2 := B0.cell 2
  simp at B0c0 B0c1 B0c2
  go_wp2_with fail
  refine (toComb_any a0 b0 c0 _).mono ?_
  rintro e w3 ⟨rfl, h3⟩
  replace Ow0a := own_past Ow0a h3
  replace B0 := B0.past h3
  replace Hb := Lib.hid (thenB Hb.out h3)
  have t6 : w2.heap.size ≤ w3.heap.size := h3.size
  clear h3
  clear B0c0 B0c1 B0c2
  have B0c0 := B0.cell 0
  have B0c1 := B0.cell 1
  have B0c2 := B0.cell 2
  simp at B0c0 B0c1 B0c2
  go_wp2_with fail
  refine (implBoxCoefs_any a0 b0 c0 _ ).mono ?_
  rintro e w4 ⟨Ag0a, cg0a, rfl, Og0a, h4⟩
  replace Ow0a := own_past Ow0a h4
  replace B0 := B0.past h4
  replace Hb := Lib.hid (thenB Hb.out h4)
  have t8 : w3.heap.size ≤ w4.heap.size := h4.size
  have Lg0a := own_lo Og0a
  have Ug0a := own_hi Og0a
  clear h4
  clear B0c0 B0c1 B0c2
  have B0c0 := B0.cell 0
  have B0c1 := B0.cell 1
  have B0c2 := B0.cell 2
  simp at B0c0 B0c1 B0c2
  go_wp2_with fail
  refine (eqIntS_same Ag0a Aw0a cg0a cw0a ((boxes a0 b0 c0).1)  _ (own_rd Og0a) (own_rd Ow0a) (by have := boxes_len a0 b0 c0; omega)).mono ?_
  rintro e w5 ⟨rfl, h5⟩
  replace Ow0a := own_past Ow0a h5
  replace Og0a := own_past Og0a h5
  replace B0 := B0.past h5
  replace Hb := Lib.hid (thenB Hb.out h5)
  have t10 : w4.heap.size ≤ w5.heap.size := h5.size
  clear h5
  have q00 := boxes_len a0 b0 c0
  clear B0c0 B0c1 B0c2
  have B0c0 := B0.cell 0
  have B0c1 := B0.cell 1
  have B0c2 := B0.cell 2
  simp at B0c0 B0c1 B0c2
  go_wp2_with fail
  refine (markIntS_any Ag0a _ cg0a ((boxes a0 b0 c0).1)  (1) _ Og0a  (by omega) (by omega) (by omega)).mono ?_
  rintro e w6 ⟨rfl, Og0a, h6a⟩
  replace Ow0a := own_wrote Ow0a h6a (apart_lt Uw0a Lg0a (by omega))
  replace B0 := blk_wrote B0 h6a Lg0a (by omega)
  replace Hb := Lib.hid (Hb.out.trans (below_wrote h6a Hb.out.size (lo_le Lg0a (by omega))))
  have t12 : w5.heap.size ≤ w6.heap.size := h6a.size
  clear h6a
  clear B0c0 B0c1 B0c2
  have B0c0 := B0.cell 0
  have B0c1 := B0.cell 1
  have B0c2 := B0.cell 2
  simp at B0c0 B0c1 B0c2
  go_wp2_with fail
  refine (heldIntS_any Ag0a cg0a _  (1) _ (own_rd Og0a) (by omega) (by omega) (by omega)).mono ?_
  rintro e w7 ⟨rfl, rfl⟩
  clear B0c0 B0c1 B0c2
  have B0c0 := B0.cell 0
  have B0c1 := B0.cell 1
  have B0c2 := B0.cell 2
  simp at B0c0 B0c1 B0c2
  go_wp2_with fail
  refine (toComb_any a0 b0 c0 _).mono ?_
  rintro e w7 ⟨rfl, h7⟩
  replace Ow0a := own_past Ow0a h7
  replace Og0a := own_past Og0a h7
  replace B0 := B0.past h7
  replace Hb := Lib.hid (thenB Hb.out h7)
  have t13 : w6.heap.size ≤ w7.heap.size := h7.size
  clear h7
  clear B0c0 B0c1 B0c2
  have B0c0 := B0.cell 0
  have B0c1 := B0.cell 1
  have B0c2 := B0.cell 2
  simp at B0c0 B0c1 B0c2
  go_wp2_with fail
  refine (implBoxCoefs_any a0 b0 c0 _ ).mono ?_
  rintro e w8 ⟨Ah0a, ch0a, rfl, Oh0a, h8⟩
  replace Ow0a := own_past Ow0a h8
  replace Og0a := own_past Og0a h8
  replace B0 := B0.past h8
  replace Hb := Lib.hid (thenB Hb.out h8)
  have t15 : w7.heap.size ≤ w8.heap.size := h8.size
  have Lh0a := own_lo Oh0a
  have Uh0a := own_hi Oh0a
  clear h8
  clear B0c0 B0c1 B0c2
  have B0c0 := B0.cell 0
  have B0c1 := B0.cell 1
  have B0c2 := B0.cell 2
  simp at B0c0 B0c1 B0c2
  go_wp2_with fail
  refine (eqIntS_same Ah0a Aw0a ch0a cw0a ((boxes a0 b0 c0).1)  _ (own_rd Oh0a) (own_rd Ow0a) (by have := boxes_len a0 b0 c0; omega)).mono ?_
  rintro e w9 ⟨rfl, h9⟩
  replace Ow0a := own_past Ow0a h9
  replace Og0a := own_past Og0a h9
  replace Oh0a := own_past Oh0a h9
  replace B0 := B0.past h9
  replace Hb := Lib.hid (thenB Hb.out h9)
  have t17 : w8.heap.size ≤ w9.heap.size := h9.size
  clear h9
  clear B0c0 B0c1 B0c2
  have B0c0 := B0.cell 0
  have B0c1 := B0.cell 1
  have B0c2 := B0.cell 2
  simp at B0c0 B0c1 B0c2
  go_wp2_with fail
  refine (heldIntS_any Ag0a cg0a _  (1) _ (own_rd Og0a) (by omega) (by omega) (by omega)).mono ?_
  rintro e w10 ⟨rfl, rfl⟩
  go_wp2_with fail
  go_ret
  exact ⟨rfl, Hb.out⟩

set_option maxRecDepth 100000 in
theorem lifted (os : Os) (started : os.Started) (H : Type) (enc : TypeId × Value → H) :
    ReturnsInHanded {} Try.checked os 14 .any (Rows.fnExactBoxCoefsSpec.pre6 enc Try.prog Try.f14 Rows.fnExactBoxCoefsRow.domain false) (Rows.fnExactBoxCoefsSpec.post enc Try.prog Try.f14 false true false false) := by
  refine returnsInHanded_of_change (C := Try.checked) own started (by kernel_rfl) Try.func14
    (ChangeSpec.witness6 (enc := enc) (C := Try.checked) false ⟨#[], #[.agg #[.int .i64 0, .int .i64 0, .int .i64 0]], []⟩ 8 (by kernel_rfl) (by kernel_rfl) (by kernel_rfl) (by kernel_rfl)) ?_
  intro W base args ds gs before hval0 hW hcnd _
  have hval : ∀ (j : Nat) t v, Try.f14.params[j]? = some t → args[j]? = some v → Value.okWide Try.prog W .any base t v := hval0
  have hW' := hW
  obtain ⟨p, q, hA0, hV, rfl, hfz, hnd⟩ := hW
  have hA : DataW.TrodAll enc Try.prog W 0 (fun _ => true) true Try.f14.params.toList args.toList ds p := hA0
  rw [Try.params14] at hA hval
  obtain ⟨v0, vs0, d0, ds0, p0, q0, hargs, rfl, rfl, h0, g0⟩ := trodAll_cons hA
  obtain ⟨rfl, rfl, rfl⟩ := trodAll_nil g0
  obtain rfl : args = #[v0] := by cases args; simp_all
  obtain ⟨rfl, rfl⟩ := trodVars_none hV
  have k0 := h0
  have lt0 : ∀ x ∈ p0, x.block < W.heap.size := by obtain ⟨m, hm⟩ := k0; exact DataW.trod_lt m _ _ _ hm
  obtain ⟨a0, b0, c0, rfl, x0⟩ := arg_s3 Try.underlying29 (by kernel_rfl) (by kernel_rfl) Try.underlying3 Try.underlying3 Try.underlying3 (hval 0 29 v0 rfl rfl) h0
  clear hA0 hval0
  refine (walkw W a0 b0 c0 x0).mono fun e W' ⟨he, bel⟩ => ?_
  subst he
  exact ⟨_, rfl, _, _, _, [], _, [], hW', trodAll_mk1 (shut_bool Try.underlying4 _), (trodAll_cons_mk (Below.trod laidOut (by kernel_rfl) (of_decide_eq_true (by kernel_rfl)) k0 bel lt0) trodAll_mk0), rfl, bel.frame _, fun h => by cases h⟩
theorem over : Rows.fnExactBoxCoefsRow.holds Try.pinned (OpenSpec.ofChange Rows.fnExactBoxCoefsSpec) :=
  OpenClaim.holds_of_wide 14 Try.f14 rfl rfl rfl rfl rfl rfl rfl ⟨rfl, rfl, rfl, rfl, rfl⟩ rfl rfl rfl rfl rfl (by kernel_rfl) Try.func14 (by kernel_rfl)
    (of_decide_eq_true (by kernel_rfl)) (by unfold Func.isWrapper; first | (rw [if_pos (by decide +kernel)]; kernel_rfl) | (rw [if_neg (by decide +kernel)]; exact ⟨rfl, rfl⟩))
    (fun os started H enc _ => lifted os started H enc)
theorem proved : Rows.FnExactBoxCoefsSaid := over

end Go.Proofs.Ytkdlmddofnnngaa.boxCoefs
