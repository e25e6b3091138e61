/- The program's SpreadComb returns what the reference's returns, for all arguments, in memory of its own. No condition. -/
import Derived.Test.YtfplecbacgcjgaaSpread
import Derived.Test.YtfplecbacgcjgaaSlicesFn
namespace Go.Proofs.Ytfplecbacgcjgaa.spreadComb
open Go.ChangeShapes Go.WideShapes Go.ChangeAt Go.RowKit
set_option linter.unusedVariables false
set_option linter.unusedSimpArgs false
set_option maxRecDepth 100000 in
set_option maxHeartbeats 2000000 in
theorem walkw (w : World) (a0 b0 c0 : Int) (x0 : -9223372036854775808 ≤ a0 ∧ a0 ≤ 9223372036854775807 ∧ -9223372036854775808 ≤ b0 ∧ b0 ≤ 9223372036854775807 ∧ -9223372036854775808 ≤ c0 ∧ c0 ≤ 9223372036854775807) (A1 : Option Addr) (z1 : List Int) (c1 : Nat) (l1 : z1.length ≤ c1) (m1 : c1 ≤ maxLen) (r1 : Rd w w.heap.size A1 z1) (i1 : I64 z1) :
    Calls Try.prog 10 #[.agg #[.int .i64 a0, .int .i64 b0, .int .i64 c0], .slice A1 z1.length c1] w fun e w' => e = .returned (.bool true) ∧ Below w.heap.size w w' := by
  clear x0
  unfold maxLen at m1
  have I1 := Lib.hid i1
  clear i1
  by_cases n1 : z1.length ≤ 1048576
  case neg =>
    have n1x : 1048576 < z1.length := by omega
    clear n1
    go_enter Try.func10, Try.ntmps10
    go_wp2
    go_ret
    exact ⟨rfl, (Below.refl _ _).alloc (by simp) _⟩
  have Hb : Hid (Below w.heap.size w w) := Below.refl _ _
  have bx : Below w.heap.size w (w.alloc (.cells #[.int .i64 a0, .int .i64 b0, .int .i64 c0] 46)) := (Below.refl _ _).alloc (Nat.le_refl _) _
  have B0 := Blk.new w 46 #[.int .i64 a0, .int .i64 b0, .int .i64 c0]
  have VB0 : w.heap.size < (w.alloc (.cells #[.int .i64 a0, .int .i64 b0, .int .i64 c0] 46)).heap.size := by simp
  replace Hb := Lib.hid (thenB Hb.out bx)
  clear bx
  go_enter Try.func10, Try.ntmps10
  have B0c0 := B0.cell 0
  have B0c1 := B0.cell 1
  have B0c2 := B0.cell 2
  simp at B0c0 B0c1 B0c2
  go_wp2_with fail
  refine (toComb_any a0 b0 c0 _).mono ?_
  rintro e w1 ⟨rfl, h1⟩
  replace B0 := B0.past h1
  replace Hb := Lib.hid (thenB Hb.out h1)
  have t2 : (w.alloc (.cells #[.int .i64 a0, .int .i64 b0, .int .i64 c0] 46)).heap.size ≤ w1.heap.size := h1.size
  clear h1
  clear B0c0 B0c1 B0c2
  have B0c0 := B0.cell 0
  have B0c1 := B0.cell 1
  have B0c2 := B0.cell 2
  simp at B0c0 B0c1 B0c2
  go_wp2_with fail
  refine (toIntS_any A1 c1 z1 _ (r1.past Hb.out) (by omega)).mono ?_
  rintro e w2 ⟨Ak1a, ck1a, rfl, Ok1a, h2⟩
  replace B0 := B0.past h2
  replace Hb := Lib.hid (thenB Hb.out h2)
  have t4 : w1.heap.size ≤ w2.heap.size := h2.size
  have Lk1a := own_lo Ok1a
  have Uk1a := own_hi Ok1a
  clear h2
  clear B0c0 B0c1 B0c2
  have B0c0 := B0.cell 0
  have B0c1 := B0.cell 1
  have B0c2 := B0.cell 2
  simp at B0c0 B0c1 B0c2
  go_wp2_with fail
  refine (specSpreadComb_any a0 b0 c0 Ak1a ck1a z1 _ (own_rd Ok1a) (by omega)).mono ?_
  rintro e w3 ⟨Aw0a, cw0a, rfl, Ow0a, h3⟩
  replace Ok1a := own_past Ok1a h3
  replace B0 := B0.past h3
  replace Hb := Lib.hid (thenB Hb.out h3)
  have t6 : w2.heap.size ≤ w3.heap.size := h3.size
  have Lw0a := own_lo Ow0a
  have Uw0a := own_hi Ow0a
  clear h3
  clear B0c0 B0c1 B0c2
  have B0c0 := B0.cell 0
  have B0c1 := B0.cell 1
  have B0c2 := B0.cell 2
  simp at B0c0 B0c1 B0c2
  go_wp2_with fail
  refine (toIntS_any A1 c1 z1 _ (r1.past Hb.out) (by omega)).mono ?_
  rintro e w4 ⟨Ak2a, ck2a, rfl, Ok2a, h4⟩
  replace Ok1a := own_past Ok1a h4
  replace Ow0a := own_past Ow0a h4
  replace B0 := B0.past h4
  replace Hb := Lib.hid (thenB Hb.out h4)
  have t8 : w3.heap.size ≤ w4.heap.size := h4.size
  have Lk2a := own_lo Ok2a
  have Uk2a := own_hi Ok2a
  clear h4
  clear B0c0 B0c1 B0c2
  have B0c0 := B0.cell 0
  have B0c1 := B0.cell 1
  have B0c2 := B0.cell 2
  simp at B0c0 B0c1 B0c2
  go_wp2_with fail
  refine (toComb_any a0 b0 c0 _).mono ?_
  rintro e w5 ⟨rfl, h5⟩
  replace Ok1a := own_past Ok1a h5
  replace Ow0a := own_past Ow0a h5
  replace Ok2a := own_past Ok2a h5
  replace B0 := B0.past h5
  replace Hb := Lib.hid (thenB Hb.out h5)
  have t10 : w4.heap.size ≤ w5.heap.size := h5.size
  clear h5
  clear B0c0 B0c1 B0c2
  have B0c0 := B0.cell 0
  have B0c1 := B0.cell 1
  have B0c2 := B0.cell 2
  simp at B0c0 B0c1 B0c2
  go_wp2_with fail
  refine (implSpreadComb_any a0 b0 c0 Ak2a ck2a z1 _ (own_rd Ok2a) (by omega)).mono ?_
  rintro e w6 ⟨Ag0a, cg0a, rfl, Og0a, h6⟩
  replace Ok1a := own_past Ok1a h6
  replace Ow0a := own_past Ow0a h6
  replace Ok2a := own_past Ok2a h6
  replace B0 := B0.past h6
  replace Hb := Lib.hid (thenB Hb.out h6)
  have t12 : w5.heap.size ≤ w6.heap.size := h6.size
  have Lg0a := own_lo Og0a
  have Ug0a := own_hi Og0a
  clear h6
  clear B0c0 B0c1 B0c2
  have B0c0 := B0.cell 0
  have B0c1 := B0.cell 1
  have B0c2 := B0.cell 2
  simp at B0c0 B0c1 B0c2
  go_wp2_with fail
  refine (eqIntS_same Ag0a Aw0a cg0a cw0a ((spreadC a0 b0 c0 z1).1)  _ (own_rd Og0a) (own_rd Ow0a) (by have := spreadC_len a0 b0 c0 z1; omega)).mono ?_
  rintro e w7 ⟨rfl, h7⟩
  replace Ok1a := own_past Ok1a h7
  replace Ow0a := own_past Ow0a h7
  replace Ok2a := own_past Ok2a h7
  replace Og0a := own_past Og0a h7
  replace B0 := B0.past h7
  replace Hb := Lib.hid (thenB Hb.out h7)
  have t14 : w6.heap.size ≤ w7.heap.size := h7.size
  clear h7
  clear B0c0 B0c1 B0c2
  have B0c0 := B0.cell 0
  have B0c1 := B0.cell 1
  have B0c2 := B0.cell 2
  simp at B0c0 B0c1 B0c2
  go_wp2_with fail
  refine (toIntS_any A1 c1 z1 _ (r1.past Hb.out) (by omega)).mono ?_
  rintro e w8 ⟨Ak3a, ck3a, rfl, Ok3a, h8⟩
  replace Ok1a := own_past Ok1a h8
  replace Ow0a := own_past Ow0a h8
  replace Ok2a := own_past Ok2a h8
  replace Og0a := own_past Og0a h8
  replace B0 := B0.past h8
  replace Hb := Lib.hid (thenB Hb.out h8)
  have t16 : w7.heap.size ≤ w8.heap.size := h8.size
  have Lk3a := own_lo Ok3a
  have Uk3a := own_hi Ok3a
  clear h8
  clear B0c0 B0c1 B0c2
  have B0c0 := B0.cell 0
  have B0c1 := B0.cell 1
  have B0c2 := B0.cell 2
  simp at B0c0 B0c1 B0c2
  go_wp2_with fail
  refine (eqIntS_same Ak2a Ak3a ck2a ck3a _ _ (own_rd Ok2a) (own_rd Ok3a) (by omega)).mono ?_
  rintro e w9 ⟨rfl, h9⟩
  replace Ok1a := own_past Ok1a h9
  replace Ow0a := own_past Ow0a h9
  replace Ok2a := own_past Ok2a h9
  replace Og0a := own_past Og0a h9
  replace Ok3a := own_past Ok3a h9
  replace B0 := B0.past h9
  replace Hb := Lib.hid (thenB Hb.out h9)
  have t18 : w8.heap.size ≤ w9.heap.size := h9.size
  clear h9
  have q00 := spreadC_len a0 b0 c0 z1
  clear B0c0 B0c1 B0c2
  have B0c0 := B0.cell 0
  have B0c1 := B0.cell 1
  have B0c2 := B0.cell 2
  simp at B0c0 B0c1 B0c2
  go_wp2_with fail
  refine (markIntS_any Ak2a _ ck2a (z1)  (1) _ Ok2a  (by omega) (by omega) (by omega)).mono ?_
  rintro e w10 ⟨rfl, Ok2a, h10a⟩
  replace Ok1a := own_wrote Ok1a h10a (apart_lt Uk1a Lk2a (by omega))
  replace Ow0a := own_wrote Ow0a h10a (apart_lt Uw0a Lk2a (by omega))
  replace Og0a := own_wrote Og0a h10a (apart_gt Lg0a Uk2a (by omega))
  replace Ok3a := own_wrote Ok3a h10a (apart_gt Lk3a Uk2a (by omega))
  replace B0 := blk_wrote B0 h10a Lk2a (by omega)
  replace Hb := Lib.hid (Hb.out.trans (below_wrote h10a Hb.out.size (lo_le Lk2a (by omega))))
  have t20 : w9.heap.size ≤ w10.heap.size := h10a.size
  clear h10a
  clear B0c0 B0c1 B0c2
  have B0c0 := B0.cell 0
  have B0c1 := B0.cell 1
  have B0c2 := B0.cell 2
  simp at B0c0 B0c1 B0c2
  go_wp2_with fail
  refine (eqIntS_same Ag0a Aw0a cg0a cw0a ((spreadC a0 b0 c0 z1).1)  _ (own_rd Og0a) (own_rd Ow0a) (by have := spreadC_len a0 b0 c0 z1; omega)).mono ?_
  rintro e w11 ⟨rfl, h11⟩
  replace Ok1a := own_past Ok1a h11
  replace Ow0a := own_past Ow0a h11
  replace Ok2a := own_past Ok2a h11
  replace Og0a := own_past Og0a h11
  replace Ok3a := own_past Ok3a h11
  replace B0 := B0.past h11
  replace Hb := Lib.hid (thenB Hb.out h11)
  have t21 : w10.heap.size ≤ w11.heap.size := h11.size
  clear h11
  clear B0c0 B0c1 B0c2
  have B0c0 := B0.cell 0
  have B0c1 := B0.cell 1
  have B0c2 := B0.cell 2
  simp at B0c0 B0c1 B0c2
  go_wp2_with fail
  refine (markIntS_any Ag0a _ cg0a ((spreadC a0 b0 c0 z1).1)  (1) _ Og0a  (by omega) (by omega) (by omega)).mono ?_
  rintro e w12 ⟨rfl, Og0a, h12a⟩
  replace Ok1a := own_wrote Ok1a h12a (apart_lt Uk1a Lg0a (by omega))
  replace Ow0a := own_wrote Ow0a h12a (apart_lt Uw0a Lg0a (by omega))
  replace Ok2a := own_wrote Ok2a h12a (apart_lt Uk2a Lg0a (by omega))
  replace Ok3a := own_wrote Ok3a h12a (apart_gt Lk3a Ug0a (by omega))
  replace B0 := blk_wrote B0 h12a Lg0a (by omega)
  replace Hb := Lib.hid (Hb.out.trans (below_wrote h12a Hb.out.size (lo_le Lg0a (by omega))))
  have t23 : w11.heap.size ≤ w12.heap.size := h12a.size
  clear h12a
  clear B0c0 B0c1 B0c2
  have B0c0 := B0.cell 0
  have B0c1 := B0.cell 1
  have B0c2 := B0.cell 2
  simp at B0c0 B0c1 B0c2
  go_wp2_with fail
  refine (heldIntS_any Ag0a cg0a _  (1) _ (own_rd Og0a) (by omega) (by omega) (by omega)).mono ?_
  rintro e w13 ⟨rfl, rfl⟩
  clear B0c0 B0c1 B0c2
  have B0c0 := B0.cell 0
  have B0c1 := B0.cell 1
  have B0c2 := B0.cell 2
  simp at B0c0 B0c1 B0c2
  go_wp2_with fail
  refine (toComb_any a0 b0 c0 _).mono ?_
  rintro e w13 ⟨rfl, h13⟩
  replace Ok1a := own_past Ok1a h13
  replace Ow0a := own_past Ow0a h13
  replace Ok2a := own_past Ok2a h13
  replace Og0a := own_past Og0a h13
  replace Ok3a := own_past Ok3a h13
  replace B0 := B0.past h13
  replace Hb := Lib.hid (thenB Hb.out h13)
  have t24 : w12.heap.size ≤ w13.heap.size := h13.size
  clear h13
  clear B0c0 B0c1 B0c2
  have B0c0 := B0.cell 0
  have B0c1 := B0.cell 1
  have B0c2 := B0.cell 2
  simp at B0c0 B0c1 B0c2
  go_wp2_with fail
  refine (toIntS_any A1 c1 z1 _ (r1.past Hb.out) (by omega)).mono ?_
  rintro e w14 ⟨Ak4a, ck4a, rfl, Ok4a, h14⟩
  replace Ok1a := own_past Ok1a h14
  replace Ow0a := own_past Ow0a h14
  replace Ok2a := own_past Ok2a h14
  replace Og0a := own_past Og0a h14
  replace Ok3a := own_past Ok3a h14
  replace B0 := B0.past h14
  replace Hb := Lib.hid (thenB Hb.out h14)
  have t26 : w13.heap.size ≤ w14.heap.size := h14.size
  have Lk4a := own_lo Ok4a
  have Uk4a := own_hi Ok4a
  clear h14
  clear B0c0 B0c1 B0c2
  have B0c0 := B0.cell 0
  have B0c1 := B0.cell 1
  have B0c2 := B0.cell 2
  simp at B0c0 B0c1 B0c2
  go_wp2_with fail
  refine (implSpreadComb_any a0 b0 c0 Ak4a ck4a z1 _ (own_rd Ok4a) (by omega)).mono ?_
  rintro e w15 ⟨Ah0a, ch0a, rfl, Oh0a, h15⟩
  replace Ok1a := own_past Ok1a h15
  replace Ow0a := own_past Ow0a h15
  replace Ok2a := own_past Ok2a h15
  replace Og0a := own_past Og0a h15
  replace Ok3a := own_past Ok3a h15
  replace Ok4a := own_past Ok4a h15
  replace B0 := B0.past h15
  replace Hb := Lib.hid (thenB Hb.out h15)
  have t28 : w14.heap.size ≤ w15.heap.size := h15.size
  have Lh0a := own_lo Oh0a
  have Uh0a := own_hi Oh0a
  clear h15
  clear B0c0 B0c1 B0c2
  have B0c0 := B0.cell 0
  have B0c1 := B0.cell 1
  have B0c2 := B0.cell 2
  simp at B0c0 B0c1 B0c2
  go_wp2_with fail
  refine (eqIntS_same Ah0a Aw0a ch0a cw0a ((spreadC a0 b0 c0 z1).1)  _ (own_rd Oh0a) (own_rd Ow0a) (by have := spreadC_len a0 b0 c0 z1; omega)).mono ?_
  rintro e w16 ⟨rfl, h16⟩
  replace Ok1a := own_past Ok1a h16
  replace Ow0a := own_past Ow0a h16
  replace Ok2a := own_past Ok2a h16
  replace Og0a := own_past Og0a h16
  replace Ok3a := own_past Ok3a h16
  replace Ok4a := own_past Ok4a h16
  replace Oh0a := own_past Oh0a h16
  replace B0 := B0.past h16
  replace Hb := Lib.hid (thenB Hb.out h16)
  have t30 : w15.heap.size ≤ w16.heap.size := h16.size
  clear h16
  clear B0c0 B0c1 B0c2
  have B0c0 := B0.cell 0
  have B0c1 := B0.cell 1
  have B0c2 := B0.cell 2
  simp at B0c0 B0c1 B0c2
  go_wp2_with fail
  refine (heldIntS_any Ag0a cg0a _  (1) _ (own_rd Og0a) (by omega) (by omega) (by omega)).mono ?_
  rintro e w17 ⟨rfl, rfl⟩
  go_wp2_with fail
  go_ret
  exact ⟨rfl, Hb.out⟩

set_option maxRecDepth 100000 in
theorem lifted (os : Os) (started : os.Started) (H : Type) (enc : TypeId × Value → H) :
    ReturnsInHanded {} Try.checked os 10 .any (Rows.fnExactSpreadCombSpec.pre6 enc Try.prog Try.f10 Rows.fnExactSpreadCombRow.domain false) (Rows.fnExactSpreadCombSpec.post enc Try.prog Try.f10 false true false false) := by
  refine returnsInHanded_of_change (C := Try.checked) own started (by kernel_rfl) Try.func10
    (ChangeSpec.witness6 (enc := enc) (C := Try.checked) false ⟨#[], #[.agg #[.int .i64 0, .int .i64 0, .int .i64 0], .slice none 0 0], []⟩ 8 (by kernel_rfl) (by kernel_rfl) (by kernel_rfl) (by kernel_rfl)) ?_
  intro W base args ds gs before hval0 hW hcnd _
  have hval : ∀ (j : Nat) t v, Try.f10.params[j]? = some t → args[j]? = some v → Value.okWide Try.prog W .any base t v := hval0
  have hW' := hW
  obtain ⟨p, q, hA0, hV, rfl, hfz, hnd⟩ := hW
  have hA : DataW.TrodAll enc Try.prog W 0 (fun _ => true) true Try.f10.params.toList args.toList ds p := hA0
  rw [Try.params10] at hA hval
  obtain ⟨v0, vs0, d0, ds0, p0, q0, hargs, rfl, rfl, h0, g0⟩ := trodAll_cons hA
  obtain ⟨v1, vs1, d1, ds1, p1, q1, rfl, rfl, rfl, h1, g1⟩ := trodAll_cons g0
  obtain ⟨rfl, rfl, rfl⟩ := trodAll_nil g1
  obtain rfl : args = #[v0, v1] := by cases args; simp_all
  obtain ⟨rfl, rfl⟩ := trodVars_none hV
  have k0 := h0
  have lt0 : ∀ x ∈ p0, x.block < W.heap.size := by obtain ⟨m, hm⟩ := k0; exact DataW.trod_lt m _ _ _ hm
  have k1 := h1
  have lt1 : ∀ x ∈ p1, x.block < W.heap.size := by obtain ⟨m, hm⟩ := k1; exact DataW.trod_lt m _ _ _ hm
  obtain ⟨a0, b0, c0, rfl, x0⟩ := arg_s3 Try.underlying46 (by kernel_rfl) (by kernel_rfl) Try.underlying3 Try.underlying3 Try.underlying3 (hval 0 46 v0 rfl rfl) h0
  obtain ⟨A1, z1, c1, rfl, l1, m1, r1, i1⟩ := arg_ints Try.underlying31 Try.underlying3 (by kernel_rfl) (hval 1 31 v1 rfl rfl) h1
  clear hA0 hval0
  refine (walkw W a0 b0 c0 x0 A1 z1 c1 l1 m1 r1 i1).mono fun e W' ⟨he, bel⟩ => ?_
  subst he
  exact ⟨_, rfl, _, _, _, [], _, [], hW', trodAll_mk1 (shut_bool Try.underlying4 _), (trodAll_cons_mk (Below.trod laidOut (by kernel_rfl) (of_decide_eq_true (by kernel_rfl)) k0 bel lt0) (trodAll_cons_mk (Below.trod laidOut (by kernel_rfl) (of_decide_eq_true (by kernel_rfl)) k1 bel lt1) trodAll_mk0)), rfl, bel.frame _, fun h => by cases h⟩
theorem over : Rows.fnExactSpreadCombRow.holds Try.pinned (OpenSpec.ofChange Rows.fnExactSpreadCombSpec) :=
  OpenClaim.holds_of_wide 10 Try.f10 rfl rfl rfl rfl rfl rfl rfl ⟨rfl, rfl, rfl, rfl, rfl⟩ rfl rfl rfl rfl rfl (by kernel_rfl) Try.func10 (by kernel_rfl)
    (of_decide_eq_true (by kernel_rfl)) (by unfold Func.isWrapper; first | (rw [if_pos (by decide +kernel)]; kernel_rfl) | (rw [if_neg (by decide +kernel)]; exact ⟨rfl, rfl⟩))
    (fun os started H enc _ => lifted os started H enc)
theorem proved : Rows.FnExactSpreadCombSaid := over

end Go.Proofs.Ytfplecbacgcjgaa.spreadComb
