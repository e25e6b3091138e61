/- The program's FromSingles returns what the reference's returns, for all arguments. No condition. -/
import Derived.Test.YthdkdcaekfcmoaaFloF
namespace Go.Proofs.Ythdkdcaekfcmoaa.fromSinglesLaw
open Go.ChangeShapes Go.WideShapes Go.ChangeAt Go.RowKit
set_option linter.unusedVariables false
set_option linter.unusedSimpArgs false
set_option maxRecDepth 100000 in
set_option maxHeartbeats 2000000 in
theorem walkw (w : World) (A0 : Option Addr) (z0 : List Nat) (c0 : Nat) (l0 : z0.length ≤ c0) (m0 : c0 ≤ maxLen) (r0 : RdF w w.heap.size A0 z0) (a1 : Int) (x1 : -9223372036854775808 ≤ a1) (y1 : a1 ≤ 9223372036854775807) :
    Calls Try.prog 5 #[.slice A0 z0.length c0, .int .i64 a1] w fun e w' => e = .returned (.bool true) ∧ Below w.heap.size w w' := by
  unfold maxLen at m0
  clear x1 y1
  by_cases n0 : z0.length ≤ 1048576
  case neg =>
    have n0x : 1048576 < z0.length := by omega
    clear n0
    go_enter Try.func5, Try.ntmps5
    go_wp2
    go_ret
    exact ⟨rfl, Below.refl _ _⟩
  have Hb : Hid (Below w.heap.size w w) := Below.refl _ _
  go_enter Try.func5, Try.ntmps5
  go_wp2_with fail
  refine (toFloat32S_any A0 c0 z0 _ (r0.past Hb.out) (by omega)).mono ?_
  rintro e w1 ⟨Ak1a, ck1a, rfl, Ok1a, h1⟩
  replace Hb := Lib.hid (thenB Hb.out h1)
  have t1 : w.heap.size ≤ w1.heap.size := h1.size
  have Lk1a := ownF_lo Ok1a
  have Uk1a := ownF_hi Ok1a
  clear h1
  go_wp2_with fail
  refine (specFromS_any Ak1a ck1a z0 a1 _ (ownF_rd Ok1a) (by omega)).mono ?_
  rintro e w2 ⟨Aw0a, cw0a, rfl, Ow0a, h2⟩
  replace Ok1a := ownF_past Ok1a h2
  replace Hb := Lib.hid (thenB Hb.out h2)
  have t3 : w1.heap.size ≤ w2.heap.size := h2.size
  have Lw0a := own_lo Ow0a
  have Uw0a := own_hi Ow0a
  clear h2
  go_wp2_with fail
  refine (toFloat32S_any A0 c0 z0 _ (r0.past Hb.out) (by omega)).mono ?_
  rintro e w3 ⟨Ak2a, ck2a, rfl, Ok2a, h3⟩
  replace Ok1a := ownF_past Ok1a h3
  replace Ow0a := own_past Ow0a h3
  replace Hb := Lib.hid (thenB Hb.out h3)
  have t5 : w2.heap.size ≤ w3.heap.size := h3.size
  have Lk2a := ownF_lo Ok2a
  have Uk2a := ownF_hi Ok2a
  clear h3
  go_wp2_with fail
  refine (implFromS_any Ak2a ck2a z0 a1 _ (ownF_rd Ok2a) (by omega)).mono ?_
  rintro e w4 ⟨Ag0a, cg0a, rfl, Og0a, h4⟩
  replace Ok1a := ownF_past Ok1a h4
  replace Ow0a := own_past Ow0a h4
  replace Ok2a := ownF_past Ok2a h4
  replace Hb := Lib.hid (thenB Hb.out h4)
  have t7 : w3.heap.size ≤ w4.heap.size := h4.size
  have Lg0a := own_lo Og0a
  have Ug0a := own_hi Og0a
  clear h4
  go_wp2_with fail
  refine (eqIntS_same Ag0a Aw0a cg0a cw0a ((frS z0 a1).1)  _ (own_rd Og0a) (own_rd Ow0a) (by have := frS_len z0 a1; omega)).mono ?_
  rintro e w5 ⟨rfl, h5⟩
  replace Ok1a := ownF_past Ok1a h5
  replace Ow0a := own_past Ow0a h5
  replace Ok2a := ownF_past Ok2a h5
  replace Og0a := own_past Og0a h5
  replace Hb := Lib.hid (thenB Hb.out h5)
  have t9 : w4.heap.size ≤ w5.heap.size := h5.size
  clear h5
  go_wp2_with fail
  refine (toFloat32S_any A0 c0 z0 _ (r0.past Hb.out) (by omega)).mono ?_
  rintro e w6 ⟨Ak3a, ck3a, rfl, Ok3a, h6⟩
  replace Ok1a := ownF_past Ok1a h6
  replace Ow0a := own_past Ow0a h6
  replace Ok2a := ownF_past Ok2a h6
  replace Og0a := own_past Og0a h6
  replace Hb := Lib.hid (thenB Hb.out h6)
  have t11 : w5.heap.size ≤ w6.heap.size := h6.size
  have Lk3a := ownF_lo Ok3a
  have Uk3a := ownF_hi Ok3a
  clear h6
  go_wp2_with fail
  refine (eqFloat32S_same Ak2a Ak3a ck2a ck3a _ _ (ownF_rd Ok2a) (ownF_rd Ok3a) (by omega)).mono ?_
  rintro e w7 ⟨rfl, h7⟩
  replace Ok1a := ownF_past Ok1a h7
  replace Ow0a := own_past Ow0a h7
  replace Ok2a := ownF_past Ok2a h7
  replace Og0a := own_past Og0a h7
  replace Ok3a := ownF_past Ok3a h7
  replace Hb := Lib.hid (thenB Hb.out h7)
  have t13 : w6.heap.size ≤ w7.heap.size := h7.size
  clear h7
  have q00 := frS_len z0 a1
  go_wp2_with fail
  refine (markFloat32S_any Ak2a _ ck2a (z0)  (1) _ Ok2a  (by omega) (by omega) (by omega)).mono ?_
  rintro e w8 ⟨rfl, Ok2a, h8a⟩
  replace Ok1a := ownF_wrote Ok1a h8a (apart_lt Uk1a Lk2a (by omega))
  replace Ow0a := own_wrote Ow0a h8a (apart_lt Uw0a Lk2a (by omega))
  replace Og0a := own_wrote Og0a h8a (apart_gt Lg0a Uk2a (by omega))
  replace Ok3a := ownF_wrote Ok3a h8a (apart_gt Lk3a Uk2a (by omega))
  replace Hb := Lib.hid (Hb.out.trans (below_wrote h8a Hb.out.size (lo_le Lk2a (by omega))))
  have t15 : w7.heap.size ≤ w8.heap.size := h8a.size
  clear h8a
  go_wp2_with fail
  refine (eqIntS_same Ag0a Aw0a cg0a cw0a ((frS z0 a1).1)  _ (own_rd Og0a) (own_rd Ow0a) (by have := frS_len z0 a1; omega)).mono ?_
  rintro e w9 ⟨rfl, h9⟩
  replace Ok1a := ownF_past Ok1a h9
  replace Ow0a := own_past Ow0a h9
  replace Ok2a := ownF_past Ok2a h9
  replace Og0a := own_past Og0a h9
  replace Ok3a := ownF_past Ok3a h9
  replace Hb := Lib.hid (thenB Hb.out h9)
  have t16 : w8.heap.size ≤ w9.heap.size := h9.size
  clear h9
  go_wp2_with fail
  refine (markIntS_any Ag0a _ cg0a ((frS z0 a1).1)  (1) _ Og0a  (by omega) (by omega) (by omega)).mono ?_
  rintro e w10 ⟨rfl, Og0a, h10a⟩
  replace Ok1a := ownF_wrote Ok1a h10a (apart_lt Uk1a Lg0a (by omega))
  replace Ow0a := own_wrote Ow0a h10a (apart_lt Uw0a Lg0a (by omega))
  replace Ok2a := ownF_wrote Ok2a h10a (apart_lt Uk2a Lg0a (by omega))
  replace Ok3a := ownF_wrote Ok3a h10a (apart_gt Lk3a Ug0a (by omega))
  replace Hb := Lib.hid (Hb.out.trans (below_wrote h10a Hb.out.size (lo_le Lg0a (by omega))))
  have t18 : w9.heap.size ≤ w10.heap.size := h10a.size
  clear h10a
  go_wp2_with fail
  refine (heldIntS_any Ag0a cg0a _  (1) _ (own_rd Og0a) (by omega) (by omega) (by omega)).mono ?_
  rintro e w11 ⟨rfl, rfl⟩
  go_wp2_with fail
  refine (toFloat32S_any A0 c0 z0 _ (r0.past Hb.out) (by omega)).mono ?_
  rintro e w11 ⟨Ak4a, ck4a, rfl, Ok4a, h11⟩
  replace Ok1a := ownF_past Ok1a h11
  replace Ow0a := own_past Ow0a h11
  replace Ok2a := ownF_past Ok2a h11
  replace Og0a := own_past Og0a h11
  replace Ok3a := ownF_past Ok3a h11
  replace Hb := Lib.hid (thenB Hb.out h11)
  have t19 : w10.heap.size ≤ w11.heap.size := h11.size
  have Lk4a := ownF_lo Ok4a
  have Uk4a := ownF_hi Ok4a
  clear h11
  go_wp2_with fail
  refine (implFromS_any Ak4a ck4a z0 a1 _ (ownF_rd Ok4a) (by omega)).mono ?_
  rintro e w12 ⟨Ah0a, ch0a, rfl, Oh0a, h12⟩
  replace Ok1a := ownF_past Ok1a h12
  replace Ow0a := own_past Ow0a h12
  replace Ok2a := ownF_past Ok2a h12
  replace Og0a := own_past Og0a h12
  replace Ok3a := ownF_past Ok3a h12
  replace Ok4a := ownF_past Ok4a h12
  replace Hb := Lib.hid (thenB Hb.out h12)
  have t21 : w11.heap.size ≤ w12.heap.size := h12.size
  have Lh0a := own_lo Oh0a
  have Uh0a := own_hi Oh0a
  clear h12
  go_wp2_with fail
  refine (eqIntS_same Ah0a Aw0a ch0a cw0a ((frS z0 a1).1)  _ (own_rd Oh0a) (own_rd Ow0a) (by have := frS_len z0 a1; omega)).mono ?_
  rintro e w13 ⟨rfl, h13⟩
  replace Ok1a := ownF_past Ok1a h13
  replace Ow0a := own_past Ow0a h13
  replace Ok2a := ownF_past Ok2a h13
  replace Og0a := own_past Og0a h13
  replace Ok3a := ownF_past Ok3a h13
  replace Ok4a := ownF_past Ok4a h13
  replace Oh0a := own_past Oh0a h13
  replace Hb := Lib.hid (thenB Hb.out h13)
  have t23 : w12.heap.size ≤ w13.heap.size := h13.size
  clear h13
  go_wp2_with fail
  refine (heldIntS_any Ag0a cg0a _  (1) _ (own_rd Og0a) (by omega) (by omega) (by omega)).mono ?_
  rintro e w14 ⟨rfl, rfl⟩
  go_wp2_with fail
  go_ret
  exact ⟨rfl, Hb.out⟩

set_option maxRecDepth 100000 in
theorem lifted (os : Os) (started : os.Started) (H : Type) (enc : TypeId × Value → H) :
    ReturnsInHanded {} Try.checked os 5 .any (Rows.fnExactFromSinglesSpec.pre6 enc Try.prog Try.f5 Rows.fnExactFromSinglesRow.domain false) (Rows.fnExactFromSinglesSpec.post enc Try.prog Try.f5 false true false false) := by
  refine returnsInHanded_of_change (C := Try.checked) own started (by kernel_rfl) Try.func5
    (ChangeSpec.witness6 (enc := enc) (C := Try.checked) false ⟨#[], #[.slice none 0 0, .int .i64 0], []⟩ 8 (by kernel_rfl) (by kernel_rfl) (by kernel_rfl) (by kernel_rfl)) ?_
  intro W base args ds gs before hval0 hW hcnd _
  have hval : ∀ (j : Nat) t v, Try.f5.params[j]? = some t → args[j]? = some v → Value.okWide Try.prog W .any base t v := hval0
  have hW' := hW
  obtain ⟨p, q, hA0, hV, rfl, hfz, hnd⟩ := hW
  have hA : DataW.TrodAll enc Try.prog W 0 (fun _ => true) true Try.f5.params.toList args.toList ds p := hA0
  rw [Try.params5] at hA hval
  obtain ⟨v0, vs0, d0, ds0, p0, q0, hargs, rfl, rfl, h0, g0⟩ := trodAll_cons hA
  obtain ⟨v1, vs1, d1, ds1, p1, q1, rfl, rfl, rfl, h1, g1⟩ := trodAll_cons g0
  obtain ⟨rfl, rfl, rfl⟩ := trodAll_nil g1
  obtain rfl : args = #[v0, v1] := by cases args; simp_all
  obtain ⟨rfl, rfl⟩ := trodVars_none hV
  have k0 := h0
  have lt0 : ∀ x ∈ p0, x.block < W.heap.size := by obtain ⟨m, hm⟩ := k0; exact DataW.trod_lt m _ _ _ hm
  have k1 := h1
  have lt1 : ∀ x ∈ p1, x.block < W.heap.size := by obtain ⟨m, hm⟩ := k1; exact DataW.trod_lt m _ _ _ hm
  obtain ⟨A0, z0, c0, rfl, l0, m0, r0⟩ := arg_flts Try.underlying26 Try.underlying31 (by kernel_rfl) (hval 0 26 v0 rfl rfl) h0
  obtain ⟨a1, rfl, ha1, hb1⟩ := arg_int Try.underlying3 (hval 1 3 v1 rfl rfl) h1
  clear hA0 hval0
  refine (walkw W A0 z0 c0 l0 m0 r0 a1 ha1 hb1).mono fun e W' ⟨he, bel⟩ => ?_
  subst he
  exact ⟨_, rfl, _, _, _, [], _, [], hW', trodAll_mk1 (shut_bool Try.underlying4 _), (trodAll_cons_mk (Below.trod laidOut (by kernel_rfl) (of_decide_eq_true (by kernel_rfl)) k0 bel lt0) (trodAll_cons_mk (Below.trod laidOut (by kernel_rfl) (of_decide_eq_true (by kernel_rfl)) k1 bel lt1) trodAll_mk0)), rfl, bel.frame _, fun h => by cases h⟩
theorem over : Rows.fnExactFromSinglesRow.holds Try.pinned (OpenSpec.ofChange Rows.fnExactFromSinglesSpec) :=
  OpenClaim.holds_of_wide 5 Try.f5 rfl rfl rfl rfl rfl rfl rfl ⟨rfl, rfl, rfl, rfl, rfl⟩ rfl rfl rfl rfl rfl (by kernel_rfl) Try.func5 (by kernel_rfl)
    (of_decide_eq_true (by kernel_rfl)) (by unfold Func.isWrapper; first | (rw [if_pos (by decide +kernel)]; kernel_rfl) | (rw [if_neg (by decide +kernel)]; exact ⟨rfl, rfl⟩))
    (fun os started H enc _ => lifted os started H enc)
theorem proved : Rows.FnExactFromSinglesSaid := over

end Go.Proofs.Ythdkdcaekfcmoaa.fromSinglesLaw
