/- The program's ToSingles returns what the reference's returns, for all arguments. No condition. -/
import Derived.Test.YthdkdcaekfcmoaaFloT
import Derived.Test.YthdkdcaekfcmoaaFNan
namespace Go.Proofs.Ythdkdcaekfcmoaa.toSinglesLaw
open Go.ChangeShapes Go.WideShapes Go.ChangeAt Go.RowKit
set_option linter.unusedVariables false
set_option linter.unusedSimpArgs false
set_option maxRecDepth 100000 in
set_option maxHeartbeats 2000000 in
theorem walkw (w : World) (A0 : Option Addr) (z0 : List Int) (c0 : Nat) (l0 : z0.length ≤ c0) (m0 : c0 ≤ maxLen) (r0 : Rd w w.heap.size A0 z0) (i0 : I64 z0) (a1 : Int) (x1 : -9223372036854775808 ≤ a1) (y1 : a1 ≤ 9223372036854775807) :
    Calls Try.prog 4 #[.slice A0 z0.length c0, .int .i64 a1] w fun e w' => e = .returned (.bool true) ∧ Below w.heap.size w w' := by
  unfold maxLen at m0
  have I0 := Lib.hid i0
  clear i0
  clear x1 y1
  by_cases n0 : z0.length ≤ 1048576
  case neg =>
    have n0x : 1048576 < z0.length := by omega
    clear n0
    go_enter Try.func4, Try.ntmps4
    go_wp2
    go_ret
    exact ⟨rfl, Below.refl _ _⟩
  have Hb : Hid (Below w.heap.size w w) := Below.refl _ _
  go_enter Try.func4, Try.ntmps4
  go_wp2_with fail
  refine (toIntS_any A0 c0 z0 _ (r0.past Hb.out) (by omega)).mono ?_
  rintro e w1 ⟨Ak1a, ck1a, rfl, Ok1a, h1⟩
  replace Hb := Lib.hid (thenB Hb.out h1)
  have t1 : w.heap.size ≤ w1.heap.size := h1.size
  have Lk1a := own_lo Ok1a
  have Uk1a := own_hi Ok1a
  clear h1
  go_wp2_with fail
  refine (specToS_any Ak1a ck1a z0 a1 _ (own_rd Ok1a) (by omega)).mono ?_
  rintro e w2 ⟨Aw0a, cw0a, rfl, Ow0a, h2⟩
  replace Ok1a := own_past Ok1a h2
  replace Hb := Lib.hid (thenB Hb.out h2)
  have t3 : w1.heap.size ≤ w2.heap.size := h2.size
  have Lw0a := ownF_lo Ow0a
  have Uw0a := ownF_hi Ow0a
  clear h2
  go_wp2_with fail
  refine (toIntS_any A0 c0 z0 _ (r0.past Hb.out) (by omega)).mono ?_
  rintro e w3 ⟨Ak2a, ck2a, rfl, Ok2a, h3⟩
  replace Ok1a := own_past Ok1a h3
  replace Ow0a := ownF_past Ow0a h3
  replace Hb := Lib.hid (thenB Hb.out h3)
  have t5 : w2.heap.size ≤ w3.heap.size := h3.size
  have Lk2a := own_lo Ok2a
  have Uk2a := own_hi Ok2a
  clear h3
  go_wp2_with fail
  refine (implToS_any Ak2a ck2a z0 a1 _ (own_rd Ok2a) (by omega)).mono ?_
  rintro e w4 ⟨Ag0a, cg0a, rfl, Og0a, h4⟩
  replace Ok1a := own_past Ok1a h4
  replace Ow0a := ownF_past Ow0a h4
  replace Ok2a := own_past Ok2a h4
  replace Hb := Lib.hid (thenB Hb.out h4)
  have t7 : w3.heap.size ≤ w4.heap.size := h4.size
  have Lg0a := ownF_lo Og0a
  have Ug0a := ownF_hi Og0a
  clear h4
  go_wp2_with fail
  refine (eqFloat32S_same Ag0a Aw0a cg0a cw0a ((toSg z0 a1))  _ (ownF_rd Og0a) (ownF_rd Ow0a) (by have := toSg_le z0 a1; omega)).mono ?_
  rintro e w5 ⟨rfl, h5⟩
  replace Ok1a := own_past Ok1a h5
  replace Ow0a := ownF_past Ow0a h5
  replace Ok2a := own_past Ok2a h5
  replace Og0a := ownF_past Og0a h5
  replace Hb := Lib.hid (thenB Hb.out h5)
  have t9 : w4.heap.size ≤ w5.heap.size := h5.size
  clear h5
  go_wp2_with fail
  refine (toIntS_any A0 c0 z0 _ (r0.past Hb.out) (by omega)).mono ?_
  rintro e w6 ⟨Ak3a, ck3a, rfl, Ok3a, h6⟩
  replace Ok1a := own_past Ok1a h6
  replace Ow0a := ownF_past Ow0a h6
  replace Ok2a := own_past Ok2a h6
  replace Og0a := ownF_past Og0a h6
  replace Hb := Lib.hid (thenB Hb.out h6)
  have t11 : w5.heap.size ≤ w6.heap.size := h6.size
  have Lk3a := own_lo Ok3a
  have Uk3a := own_hi Ok3a
  clear h6
  go_wp2_with fail
  refine (eqIntS_same Ak2a Ak3a ck2a ck3a _ _ (own_rd Ok2a) (own_rd Ok3a) (by omega)).mono ?_
  rintro e w7 ⟨rfl, h7⟩
  replace Ok1a := own_past Ok1a h7
  replace Ow0a := ownF_past Ow0a h7
  replace Ok2a := own_past Ok2a h7
  replace Og0a := ownF_past Og0a h7
  replace Ok3a := own_past Ok3a h7
  replace Hb := Lib.hid (thenB Hb.out h7)
  have t13 : w6.heap.size ≤ w7.heap.size := h7.size
  clear h7
  have q00 := toSg_le z0 a1
  go_wp2_with fail
  refine (markIntS_any Ak2a _ ck2a (z0)  (1) _ Ok2a  (by omega) (by omega) (by omega)).mono ?_
  rintro e w8 ⟨rfl, Ok2a, h8a⟩
  replace Ok1a := own_wrote Ok1a h8a (apart_lt Uk1a Lk2a (by omega))
  replace Ow0a := ownF_wrote Ow0a h8a (apart_lt Uw0a Lk2a (by omega))
  replace Og0a := ownF_wrote Og0a h8a (apart_gt Lg0a Uk2a (by omega))
  replace Ok3a := own_wrote Ok3a h8a (apart_gt Lk3a Uk2a (by omega))
  replace Hb := Lib.hid (Hb.out.trans (below_wrote h8a Hb.out.size (lo_le Lk2a (by omega))))
  have t15 : w7.heap.size ≤ w8.heap.size := h8a.size
  clear h8a
  go_wp2_with fail
  refine (eqFloat32S_same Ag0a Aw0a cg0a cw0a ((toSg z0 a1))  _ (ownF_rd Og0a) (ownF_rd Ow0a) (by have := toSg_le z0 a1; omega)).mono ?_
  rintro e w9 ⟨rfl, h9⟩
  replace Ok1a := own_past Ok1a h9
  replace Ow0a := ownF_past Ow0a h9
  replace Ok2a := own_past Ok2a h9
  replace Og0a := ownF_past Og0a h9
  replace Ok3a := own_past Ok3a h9
  replace Hb := Lib.hid (thenB Hb.out h9)
  have t16 : w8.heap.size ≤ w9.heap.size := h9.size
  clear h9
  go_wp2_with fail
  refine (markFloat32S_any Ag0a _ cg0a ((toSg z0 a1))  (1) _ Og0a  (by omega) (by omega) (by omega)).mono ?_
  rintro e w10 ⟨rfl, Og0a, h10a⟩
  replace Ok1a := own_wrote Ok1a h10a (apart_lt Uk1a Lg0a (by omega))
  replace Ow0a := ownF_wrote Ow0a h10a (apart_lt Uw0a Lg0a (by omega))
  replace Ok2a := own_wrote Ok2a h10a (apart_lt Uk2a Lg0a (by omega))
  replace Ok3a := own_wrote Ok3a h10a (apart_gt Lk3a Ug0a (by omega))
  replace Hb := Lib.hid (Hb.out.trans (below_wrote h10a Hb.out.size (lo_le Lg0a (by omega))))
  have t18 : w9.heap.size ≤ w10.heap.size := h10a.size
  clear h10a
  go_wp2_with fail
  refine (heldFloat32S_any Ag0a cg0a _  (1) _ (ownF_rd Og0a) (by omega) (by omega) (by omega)).mono ?_
  rintro e w11 ⟨rfl, h11⟩
  replace Ok1a := own_past Ok1a h11
  replace Ow0a := ownF_past Ow0a h11
  replace Ok2a := own_past Ok2a h11
  replace Og0a := ownF_past Og0a h11
  replace Ok3a := own_past Ok3a h11
  replace Hb := Lib.hid (thenB Hb.out h11)
  have t19 : w10.heap.size ≤ w11.heap.size := h11.size
  clear h11
  go_wp2_with fail
  refine (toIntS_any A0 c0 z0 _ (r0.past Hb.out) (by omega)).mono ?_
  rintro e w12 ⟨Ak4a, ck4a, rfl, Ok4a, h12⟩
  replace Ok1a := own_past Ok1a h12
  replace Ow0a := ownF_past Ow0a h12
  replace Ok2a := own_past Ok2a h12
  replace Og0a := ownF_past Og0a h12
  replace Ok3a := own_past Ok3a h12
  replace Hb := Lib.hid (thenB Hb.out h12)
  have t21 : w11.heap.size ≤ w12.heap.size := h12.size
  have Lk4a := own_lo Ok4a
  have Uk4a := own_hi Ok4a
  clear h12
  go_wp2_with fail
  refine (implToS_any Ak4a ck4a z0 a1 _ (own_rd Ok4a) (by omega)).mono ?_
  rintro e w13 ⟨Ah0a, ch0a, rfl, Oh0a, h13⟩
  replace Ok1a := own_past Ok1a h13
  replace Ow0a := ownF_past Ow0a h13
  replace Ok2a := own_past Ok2a h13
  replace Og0a := ownF_past Og0a h13
  replace Ok3a := own_past Ok3a h13
  replace Ok4a := own_past Ok4a h13
  replace Hb := Lib.hid (thenB Hb.out h13)
  have t23 : w12.heap.size ≤ w13.heap.size := h13.size
  have Lh0a := ownF_lo Oh0a
  have Uh0a := ownF_hi Oh0a
  clear h13
  go_wp2_with fail
  refine (eqFloat32S_same Ah0a Aw0a ch0a cw0a ((toSg z0 a1))  _ (ownF_rd Oh0a) (ownF_rd Ow0a) (by have := toSg_le z0 a1; omega)).mono ?_
  rintro e w14 ⟨rfl, h14⟩
  replace Ok1a := own_past Ok1a h14
  replace Ow0a := ownF_past Ow0a h14
  replace Ok2a := own_past Ok2a h14
  replace Og0a := ownF_past Og0a h14
  replace Ok3a := own_past Ok3a h14
  replace Ok4a := own_past Ok4a h14
  replace Oh0a := ownF_past Oh0a h14
  replace Hb := Lib.hid (thenB Hb.out h14)
  have t25 : w13.heap.size ≤ w14.heap.size := h14.size
  clear h14
  go_wp2_with fail
  refine (heldFloat32S_any Ag0a cg0a _  (1) _ (ownF_rd Og0a) (by omega) (by omega) (by omega)).mono ?_
  rintro e w15 ⟨rfl, h15⟩
  replace Ok1a := own_past Ok1a h15
  replace Ow0a := ownF_past Ow0a h15
  replace Ok2a := own_past Ok2a h15
  replace Og0a := ownF_past Og0a h15
  replace Ok3a := own_past Ok3a h15
  replace Ok4a := own_past Ok4a h15
  replace Oh0a := ownF_past Oh0a h15
  replace Hb := Lib.hid (thenB Hb.out h15)
  have t27 : w14.heap.size ≤ w15.heap.size := h15.size
  clear h15
  go_wp2_with fail
  go_ret
  exact ⟨rfl, Hb.out⟩

set_option maxRecDepth 100000 in
theorem lifted (os : Os) (started : os.Started) (H : Type) (enc : TypeId × Value → H) :
    ReturnsInHanded {} Try.checked os 4 .any (Rows.fnExactToSinglesSpec.pre6 enc Try.prog Try.f4 Rows.fnExactToSinglesRow.domain false) (Rows.fnExactToSinglesSpec.post enc Try.prog Try.f4 false true false false) := by
  refine returnsInHanded_of_change (C := Try.checked) own started (by kernel_rfl) Try.func4
    (ChangeSpec.witness6 (enc := enc) (C := Try.checked) false ⟨#[], #[.slice none 0 0, .int .i64 0], []⟩ 8 (by kernel_rfl) (by kernel_rfl) (by kernel_rfl) (by kernel_rfl)) ?_
  intro W base args ds gs before hval0 hW hcnd _
  have hval : ∀ (j : Nat) t v, Try.f4.params[j]? = some t → args[j]? = some v → Value.okWide Try.prog W .any base t v := hval0
  have hW' := hW
  obtain ⟨p, q, hA0, hV, rfl, hfz, hnd⟩ := hW
  have hA : DataW.TrodAll enc Try.prog W 0 (fun _ => true) true Try.f4.params.toList args.toList ds p := hA0
  rw [Try.params4] at hA hval
  obtain ⟨v0, vs0, d0, ds0, p0, q0, hargs, rfl, rfl, h0, g0⟩ := trodAll_cons hA
  obtain ⟨v1, vs1, d1, ds1, p1, q1, rfl, rfl, rfl, h1, g1⟩ := trodAll_cons g0
  obtain ⟨rfl, rfl, rfl⟩ := trodAll_nil g1
  obtain rfl : args = #[v0, v1] := by cases args; simp_all
  obtain ⟨rfl, rfl⟩ := trodVars_none hV
  have k0 := h0
  have lt0 : ∀ x ∈ p0, x.block < W.heap.size := by obtain ⟨m, hm⟩ := k0; exact DataW.trod_lt m _ _ _ hm
  have k1 := h1
  have lt1 : ∀ x ∈ p1, x.block < W.heap.size := by obtain ⟨m, hm⟩ := k1; exact DataW.trod_lt m _ _ _ hm
  obtain ⟨A0, z0, c0, rfl, l0, m0, r0, i0⟩ := arg_ints Try.underlying23 Try.underlying3 (by kernel_rfl) (hval 0 23 v0 rfl rfl) h0
  obtain ⟨a1, rfl, ha1, hb1⟩ := arg_int Try.underlying3 (hval 1 3 v1 rfl rfl) h1
  clear hA0 hval0
  refine (walkw W A0 z0 c0 l0 m0 r0 i0 a1 ha1 hb1).mono fun e W' ⟨he, bel⟩ => ?_
  subst he
  exact ⟨_, rfl, _, _, _, [], _, [], hW', trodAll_mk1 (shut_bool Try.underlying4 _), (trodAll_cons_mk (Below.trod laidOut (by kernel_rfl) (of_decide_eq_true (by kernel_rfl)) k0 bel lt0) (trodAll_cons_mk (Below.trod laidOut (by kernel_rfl) (of_decide_eq_true (by kernel_rfl)) k1 bel lt1) trodAll_mk0)), rfl, bel.frame _, fun h => by cases h⟩
theorem over : Rows.fnExactToSinglesRow.holds Try.pinned (OpenSpec.ofChange Rows.fnExactToSinglesSpec) :=
  OpenClaim.holds_of_wide 4 Try.f4 rfl rfl rfl rfl rfl rfl rfl ⟨rfl, rfl, rfl, rfl, rfl⟩ rfl rfl rfl rfl rfl (by kernel_rfl) Try.func4 (by kernel_rfl)
    (of_decide_eq_true (by kernel_rfl)) (by unfold Func.isWrapper; first | (rw [if_pos (by decide +kernel)]; kernel_rfl) | (rw [if_neg (by decide +kernel)]; exact ⟨rfl, rfl⟩))
    (fun os started H enc _ => lifted os started H enc)
theorem proved : Rows.FnExactToSinglesSaid := over

end Go.Proofs.Ythdkdcaekfcmoaa.toSinglesLaw
