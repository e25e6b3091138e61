/- The program's FactorsOf returns what the reference's returns, for all arguments. No condition. -/
import Derived.Test.YthpjpnilmpihaaaFacs
import Derived.Test.YthpjpnilmpihaaaSlicesFn
namespace Go.Proofs.Ythpjpnilmpihaaa.factorsOf
open Go.ChangeShapes Go.WideShapes Go.ChangeAt Go.RowKit
set_option linter.unusedVariables false
set_option linter.unusedSimpArgs false
theorem len1 (p q : Int) : (facs p q).c.length ≤ 500 := (facs_len p q).1
theorem len2 (p q : Int) : (facs p q).n.length ≤ 500 := (facs_len p q).2
set_option maxRecDepth 100000 in
set_option maxHeartbeats 2000000 in
theorem walkw (w : World) (a0 : Int) (x0 : -9223372036854775808 ≤ a0) (y0 : a0 ≤ 9223372036854775807) (a1 : Int) (x1 : -9223372036854775808 ≤ a1) (y1 : a1 ≤ 9223372036854775807) :
    Calls Try.prog 4 #[.int .i64 a0, .int .i64 a1] w fun e w' => e = .returned (.bool true) ∧ Below w.heap.size w w' := by
  clear x0 y0
  clear x1 y1
  have Hb : Hid (Below w.heap.size w w) := Below.refl _ _
  go_enter Try.func4, Try.ntmps4
  go_wp2_with fail
  refine (specFactors_any a0 a1 _ ).mono ?_
  rintro e w1 ⟨Aw0a, cw0a, Aw1a, cw1a, rfl, Ow0a, Ow1a, Pw0aw1a, h1⟩
  replace Hb := Lib.hid (thenB Hb.out h1)
  have t1 : w.heap.size ≤ w1.heap.size := h1.size
  have Lw0a := own_lo Ow0a
  have Uw0a := own_hi Ow0a
  have Lw1a := own_lo Ow1a
  have Uw1a := own_hi Ow1a
  clear h1
  go_wp2_with fail
  refine (implFactors_any a0 a1 _ ).mono ?_
  rintro e w2 ⟨Ag0a, cg0a, Ag1a, cg1a, rfl, Og0a, Og1a, Pg0ag1a, h2⟩
  replace Ow0a := own_past Ow0a h2
  replace Ow1a := own_past Ow1a h2
  replace Hb := Lib.hid (thenB Hb.out h2)
  have t3 : w1.heap.size ≤ w2.heap.size := h2.size
  have Lg0a := own_lo Og0a
  have Ug0a := own_hi Og0a
  have Lg1a := own_lo Og1a
  have Ug1a := own_hi Og1a
  clear h2
  go_wp2_with fail
  refine (eqIntS_same Ag0a Aw0a cg0a cw0a ((facs a0 a1).c)  _ (own_rd Og0a) (own_rd Ow0a) (by have := len1 a0 a1; omega)).mono ?_
  rintro e w3 ⟨rfl, h3⟩
  replace Ow0a := own_past Ow0a h3
  replace Ow1a := own_past Ow1a h3
  replace Og0a := own_past Og0a h3
  replace Og1a := own_past Og1a h3
  replace Hb := Lib.hid (thenB Hb.out h3)
  have t5 : w2.heap.size ≤ w3.heap.size := h3.size
  clear h3
  go_wp2_with fail
  refine (eqIntS_same Ag1a Aw1a cg1a cw1a ((facs a0 a1).n)  _ (own_rd Og1a) (own_rd Ow1a) (by have := len2 a0 a1; omega)).mono ?_
  rintro e w4 ⟨rfl, h4⟩
  replace Ow0a := own_past Ow0a h4
  replace Ow1a := own_past Ow1a h4
  replace Og0a := own_past Og0a h4
  replace Og1a := own_past Og1a h4
  replace Hb := Lib.hid (thenB Hb.out h4)
  have t7 : w3.heap.size ≤ w4.heap.size := h4.size
  clear h4
  have q00 := len1 a0 a1
  have q10 := len2 a0 a1
  go_wp2_with fail
  refine (markIntS_any Ag0a _ cg0a ((facs a0 a1).c)  (1) _ Og0a  (by omega) (by omega) (by omega)).mono ?_
  rintro e w5 ⟨rfl, Og0a, h5a⟩
  replace Ow0a := own_wrote Ow0a h5a (apart_lt Uw0a Lg0a (by omega))
  replace Ow1a := own_wrote Ow1a h5a (apart_lt Uw1a Lg0a (by omega))
  replace Og1a := own_wrote Og1a h5a (apart_symm Pg0ag1a)
  replace Hb := Lib.hid (Hb.out.trans (below_wrote h5a Hb.out.size (lo_le Lg0a (by omega))))
  have t9 : w4.heap.size ≤ w5.heap.size := h5a.size
  clear h5a
  go_wp2_with fail
  refine (markIntS_any Ag1a _ cg1a ((facs a0 a1).n)  (1 + ((facs a0 a1).c).length) _ Og1a  (by omega) (by omega) (by omega)).mono ?_
  rintro e w6 ⟨rfl, Og1a, h6a⟩
  replace Ow0a := own_wrote Ow0a h6a (apart_lt Uw0a Lg1a (by omega))
  replace Ow1a := own_wrote Ow1a h6a (apart_lt Uw1a Lg1a (by omega))
  replace Og0a := own_wrote Og0a h6a (Pg0ag1a)
  replace Hb := Lib.hid (Hb.out.trans (below_wrote h6a Hb.out.size (lo_le Lg1a (by omega))))
  have t10 : w5.heap.size ≤ w6.heap.size := h6a.size
  clear h6a
  go_wp2_with fail
  refine (heldIntS_any Ag0a cg0a _  (1) _ (own_rd Og0a) (by omega) (by omega) (by omega)).mono ?_
  rintro e w7 ⟨rfl, rfl⟩
  go_wp2_with fail
  refine (heldIntS_any Ag1a cg1a _  (1 + ((facs a0 a1).c).length) _ (own_rd Og1a) (by omega) (by omega) (by omega)).mono ?_
  rintro e w7 ⟨rfl, rfl⟩
  go_wp2_with fail
  refine (implFactors_any a0 a1 _ ).mono ?_
  rintro e w7 ⟨Ah0a, ch0a, Ah1a, ch1a, rfl, Oh0a, Oh1a, Ph0ah1a, h7⟩
  replace Ow0a := own_past Ow0a h7
  replace Ow1a := own_past Ow1a h7
  replace Og0a := own_past Og0a h7
  replace Og1a := own_past Og1a h7
  replace Hb := Lib.hid (thenB Hb.out h7)
  have t11 : w6.heap.size ≤ w7.heap.size := h7.size
  have Lh0a := own_lo Oh0a
  have Uh0a := own_hi Oh0a
  have Lh1a := own_lo Oh1a
  have Uh1a := own_hi Oh1a
  clear h7
  go_wp2_with fail
  refine (eqIntS_same Ah0a Aw0a ch0a cw0a ((facs a0 a1).c)  _ (own_rd Oh0a) (own_rd Ow0a) (by have := len1 a0 a1; omega)).mono ?_
  rintro e w8 ⟨rfl, h8⟩
  replace Ow0a := own_past Ow0a h8
  replace Ow1a := own_past Ow1a h8
  replace Og0a := own_past Og0a h8
  replace Og1a := own_past Og1a h8
  replace Oh0a := own_past Oh0a h8
  replace Oh1a := own_past Oh1a h8
  replace Hb := Lib.hid (thenB Hb.out h8)
  have t13 : w7.heap.size ≤ w8.heap.size := h8.size
  clear h8
  go_wp2_with fail
  refine (eqIntS_same Ah1a Aw1a ch1a cw1a ((facs a0 a1).n)  _ (own_rd Oh1a) (own_rd Ow1a) (by have := len2 a0 a1; omega)).mono ?_
  rintro e w9 ⟨rfl, h9⟩
  replace Ow0a := own_past Ow0a h9
  replace Ow1a := own_past Ow1a h9
  replace Og0a := own_past Og0a h9
  replace Og1a := own_past Og1a h9
  replace Oh0a := own_past Oh0a h9
  replace Oh1a := own_past Oh1a h9
  replace Hb := Lib.hid (thenB Hb.out h9)
  have t15 : w8.heap.size ≤ w9.heap.size := h9.size
  clear h9
  go_wp2_with fail
  refine (heldIntS_any Ag0a cg0a _  (1) _ (own_rd Og0a) (by omega) (by omega) (by omega)).mono ?_
  rintro e w10 ⟨rfl, rfl⟩
  go_wp2_with fail
  refine (heldIntS_any Ag1a cg1a _  (1 + ((facs a0 a1).c).length) _ (own_rd Og1a) (by omega) (by omega) (by omega)).mono ?_
  rintro e w10 ⟨rfl, rfl⟩
  go_wp2_with fail
  go_ret
  exact ⟨rfl, Hb.out⟩

set_option maxRecDepth 100000 in
theorem lifted (os : Os) (started : os.Started) (H : Type) (enc : TypeId × Value → H) :
    ReturnsInHanded {} Try.checked os 4 .any (Rows.fnExactFactorsOfSpec.pre6 enc Try.prog Try.f4 Rows.fnExactFactorsOfRow.domain false) (Rows.fnExactFactorsOfSpec.post enc Try.prog Try.f4 false true false false) := by
  refine returnsInHanded_of_change (C := Try.checked) own started (by kernel_rfl) Try.func4
    (ChangeSpec.witness6 (enc := enc) (C := Try.checked) false ⟨#[], #[.int .i64 0, .int .i64 0], []⟩ 8 (by kernel_rfl) (by kernel_rfl) (by kernel_rfl) (by kernel_rfl)) ?_
  intro W base args ds gs before hval0 hW hcnd _
  have hval : ∀ (j : Nat) t v, Try.f4.params[j]? = some t → args[j]? = some v → Value.okWide Try.prog W .any base t v := hval0
  have hW' := hW
  obtain ⟨p, q, hA0, hV, rfl, hfz, hnd⟩ := hW
  have hA : DataW.TrodAll enc Try.prog W 0 (fun _ => true) true Try.f4.params.toList args.toList ds p := hA0
  rw [Try.params4] at hA hval
  obtain ⟨v0, vs0, d0, ds0, p0, q0, hargs, rfl, rfl, h0, g0⟩ := trodAll_cons hA
  obtain ⟨v1, vs1, d1, ds1, p1, q1, rfl, rfl, rfl, h1, g1⟩ := trodAll_cons g0
  obtain ⟨rfl, rfl, rfl⟩ := trodAll_nil g1
  obtain rfl : args = #[v0, v1] := by cases args; simp_all
  obtain ⟨rfl, rfl⟩ := trodVars_none hV
  have k0 := h0
  have lt0 : ∀ x ∈ p0, x.block < W.heap.size := by obtain ⟨m, hm⟩ := k0; exact DataW.trod_lt m _ _ _ hm
  have k1 := h1
  have lt1 : ∀ x ∈ p1, x.block < W.heap.size := by obtain ⟨m, hm⟩ := k1; exact DataW.trod_lt m _ _ _ hm
  obtain ⟨a0, rfl, ha0, hb0⟩ := arg_int Try.underlying3 (hval 0 3 v0 rfl rfl) h0
  obtain ⟨a1, rfl, ha1, hb1⟩ := arg_int Try.underlying3 (hval 1 3 v1 rfl rfl) h1
  clear hA0 hval0
  refine (walkw W a0 ha0 hb0 a1 ha1 hb1).mono fun e W' ⟨he, bel⟩ => ?_
  subst he
  exact ⟨_, rfl, _, _, _, [], _, [], hW', trodAll_mk1 (shut_bool Try.underlying4 _), (trodAll_cons_mk (Below.trod laidOut (by kernel_rfl) (of_decide_eq_true (by kernel_rfl)) k0 bel lt0) (trodAll_cons_mk (Below.trod laidOut (by kernel_rfl) (of_decide_eq_true (by kernel_rfl)) k1 bel lt1) trodAll_mk0)), rfl, bel.frame _, fun h => by cases h⟩
theorem over : Rows.fnExactFactorsOfRow.holds Try.pinned (OpenSpec.ofChange Rows.fnExactFactorsOfSpec) :=
  OpenClaim.holds_of_wide 4 Try.f4 rfl rfl rfl rfl rfl rfl rfl ⟨rfl, rfl, rfl, rfl, rfl⟩ rfl rfl rfl rfl rfl (by kernel_rfl) Try.func4 (by kernel_rfl)
    (of_decide_eq_true (by kernel_rfl)) (by unfold Func.isWrapper; first | (rw [if_pos (by decide +kernel)]; kernel_rfl) | (rw [if_neg (by decide +kernel)]; exact ⟨rfl, rfl⟩))
    (fun os started H enc _ => lifted os started H enc)
theorem proved : Rows.FnExactFactorsOfSaid := over

end Go.Proofs.Ythpjpnilmpihaaa.factorsOf
