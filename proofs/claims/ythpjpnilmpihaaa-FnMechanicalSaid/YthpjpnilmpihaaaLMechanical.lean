/- Mechanical words are balanced, have their slope, and are cut as the phase goes on. No condition. -/
import Derived.Test.YthpjpnilmpihaaaLawAcc
import Derived.Test.YthpjpnilmpihaaaMech
import Derived.Test.YthpjpnilmpihaaaPart
namespace Go.Proofs.Ythpjpnilmpihaaa.mechanical
open Go.ChangeShapes Go.WideShapes Go.ChangeAt Go.RowKit
set_option linter.unusedVariables false
set_option linter.unusedSimpArgs false
set_option maxRecDepth 100000 in
set_option maxHeartbeats 4000000 in
theorem walkw (w : World) (A0 : Option Addr) (n0 c0 : Nat) (l0 : n0 ≤ c0) (m0 : c0 ≤ maxLen) (r0 : RdB w w.heap.size A0 n0) :
    Calls Try.prog 3 #[.slice A0 n0 c0] w fun e w' => e = .returned (.bool true) ∧ Below w.heap.size w w' := by
  unfold maxLen at m0
  by_cases hn : n0 ≤ 1048576
  case neg =>
    have hx : 1048576 < n0 := by omega
    clear hn
    go_enter Try.func3, Try.ntmps3
    go_wp2
    go_ret
    exact ⟨rfl, Below.refl _ _⟩
  have Hb : Hid (Below w.heap.size w w) := Below.refl _ _
  go_enter Try.func3, Try.ntmps3
  go_wp2_with fail
  refine (at_any _ _ _ _ _ (r0.past Hb.out) (by omega) (by omega) (by omega)).mono ?_
  rintro e w1 ⟨⟨a1, rfl, a11, a12⟩, rfl⟩
  go_wp2_with fail
  obtain ⟨q, hnq⟩ : ∃ q : Nat, 1 + a1 % 60 = q := ⟨(1 + a1 % 60).toNat, by omega⟩
  rw [hnq]
  have lq : 1 ≤ (q : Int) := by omega
  have uq : (q : Int) ≤ 60 := by omega
  clear hnq
  go_wp2_with fail
  refine (at_any _ _ _ _ _ (r0.past Hb.out) (by omega) (by omega) (by omega)).mono ?_
  rintro e w1 ⟨⟨b1, rfl, b11, b12⟩, rfl⟩
  have x1 : IntKind.i64.wrap ((q : Int) + 1) = (q : Int) + 1 := Go.IntWalk.i64_in _ (by omega)
  have hzp : ((q : Int) + 1) ≠ 0 := by omega
  have ep : b1.tmod ((q : Int) + 1) = b1 % ((q : Int) + 1) := Int.tmod_eq_emod_of_nonneg (by omega)
  have lp : 0 ≤ b1 % ((q : Int) + 1) := Int.emod_nonneg _ hzp
  have up : b1 % ((q : Int) + 1) < ((q : Int) + 1) := Int.emod_lt_of_pos _ (by omega)
  have wp : IntKind.i64.wrap (b1 % ((q : Int) + 1)) = b1 % ((q : Int) + 1) := Go.IntWalk.i64_in _ (by omega)
  go_wp2_with fail
  obtain ⟨p, hp⟩ : ∃ p, p = b1 % ((q : Int) + 1) := ⟨_, rfl⟩
  rw [← hp]
  rw [← hp] at lp up
  clear x1 wp ep hp
  go_wp2_with fail
  refine (at_any _ _ _ _ _ (r0.past Hb.out) (by omega) (by omega) (by omega)).mono ?_
  rintro e w1 ⟨⟨c1, rfl, c11, c12⟩, rfl⟩
  have hzf : (q : Int) ≠ 0 := by omega
  have ef : c1.tmod (q : Int) = c1 % (q : Int) := Int.tmod_eq_emod_of_nonneg (by omega)
  have lf : 0 ≤ c1 % (q : Int) := Int.emod_nonneg _ hzf
  have uf : c1 % (q : Int) < (q : Int) := Int.emod_lt_of_pos _ (by omega)
  have wf : IntKind.i64.wrap (c1 % (q : Int)) = c1 % (q : Int) := Go.IntWalk.i64_in _ (by omega)
  go_wp2_with fail
  obtain ⟨f, hf⟩ : ∃ f, f = c1 % (q : Int) := ⟨_, rfl⟩
  rw [← hf]
  rw [← hf] at lf uf
  clear wf ef hf
  go_wp2_with fail
  refine (at_any _ _ _ _ _ (r0.past Hb.out) (by omega) (by omega) (by omega)).mono ?_
  rintro e w1 ⟨⟨d1, rfl, d11, d12⟩, rfl⟩
  go_wp2_with fail
  obtain ⟨n, hnn⟩ : ∃ n : Nat, d1 % 80 = n := ⟨(d1 % 80).toNat, by omega⟩
  rw [hnn]
  have ln : 0 ≤ (n : Int) := by omega
  have un : (n : Int) ≤ 79 := by omega
  clear hnn
  go_wp2_with fail
  refine (at_any _ _ _ _ _ (r0.past Hb.out) (by omega) (by omega) (by omega)).mono ?_
  rintro e w1 ⟨⟨e1, rfl, e11, e12⟩, rfl⟩
  have x1 : IntKind.i64.wrap ((n : Int) + 1) = (n : Int) + 1 := Go.IntWalk.i64_in _ (by omega)
  have hzc : ((n : Int) + 1) ≠ 0 := by omega
  have ec : e1.tmod ((n : Int) + 1) = e1 % ((n : Int) + 1) := Int.tmod_eq_emod_of_nonneg (by omega)
  have lc : 0 ≤ e1 % ((n : Int) + 1) := Int.emod_nonneg _ hzc
  have uc : e1 % ((n : Int) + 1) < ((n : Int) + 1) := Int.emod_lt_of_pos _ (by omega)
  have wc : IntKind.i64.wrap (e1 % ((n : Int) + 1)) = e1 % ((n : Int) + 1) := Go.IntWalk.i64_in _ (by omega)
  go_wp2_with fail
  obtain ⟨c, hc⟩ : ∃ c : Nat, e1 % ((n : Int) + 1) = c := ⟨(e1 % ((n : Int) + 1)).toNat, by omega⟩
  rw [hc]
  rw [hc] at lc uc
  clear x1 wc ec hc
  go_wp2_with fail
  refine (implMech_yes p q f n _ (by omega) (by omega) lp (by omega) lf uf (by omega)).mono ?_
  rintro e w1 ⟨Aw, cw, rfl, Ow, h1⟩
  replace Hb := Lib.hid (thenB Hb.out h1)
  have t1 : w.heap.size ≤ w1.heap.size := h1.size
  have Lw := own_lo Ow
  have Uw := own_hi Ow
  clear h1
  go_wp2_with fail
  refine (implMech_yes p q f c _ (by omega) (by omega) lp (by omega) lf uf (by omega)).mono ?_
  rintro e w2 ⟨Aa, ca, rfl, Oa, h2⟩
  replace Ow := own_past Ow h2
  replace Hb := Lib.hid (thenB Hb.out h2)
  have t2 : w1.heap.size ≤ w2.heap.size := h2.size
  have La := own_lo Oa
  have Ua := own_hi Oa
  clear h2
  have bc := flo_bd (p := p) (f := f) lq (by omega) lp (by omega) lf uf c (by omega)
  have y0 : IntKind.i64.wrap ((c : Int) * p) = (c : Int) * p := Go.IntWalk.i64_in _ (by omega)
  have y1 : IntKind.i64.wrap (f + (c : Int) * p) = f + (c : Int) * p := Go.IntWalk.i64_in _ (by omega)
  have hzg : (q : Int) ≠ 0 := by omega
  have eg : (f + (c : Int) * p).tmod (q : Int) = (f + (c : Int) * p) % (q : Int) := Int.tmod_eq_emod_of_nonneg (by omega)
  have lg : 0 ≤ (f + (c : Int) * p) % (q : Int) := Int.emod_nonneg _ hzg
  have ug : (f + (c : Int) * p) % (q : Int) < (q : Int) := Int.emod_lt_of_pos _ (by omega)
  have wg : IntKind.i64.wrap ((f + (c : Int) * p) % (q : Int)) = (f + (c : Int) * p) % (q : Int) := Go.IntWalk.i64_in _ (by omega)
  go_wp2_with fail
  obtain ⟨g, hg⟩ : ∃ g, g = (f + (c : Int) * p) % (q : Int) := ⟨_, rfl⟩
  rw [← hg]
  rw [← hg] at lg ug
  clear y0 y1 wg eg bc
  obtain ⟨k, hk⟩ : ∃ k : Nat, (n : Int) - c = k := ⟨n - c, by omega⟩
  rw [hk]
  go_wp2_with fail
  refine (implMech_yes p q g k _ (by omega) (by omega) lp (by omega) lg ug (by omega)).mono ?_
  rintro e w3 ⟨Ab, cb, rfl, Ob, h3⟩
  replace Ow := own_past Ow h3
  replace Oa := own_past Oa h3
  replace Hb := Lib.hid (thenB Hb.out h3)
  have t3 : w2.heap.size ≤ w3.heap.size := h3.size
  have Lb := own_lo Ob
  have Ub := own_hi Ob
  clear h3
  go_wp2_with fail
  refine (implMech_yes p q f q _ (by omega) (by omega) lp (by omega) lf uf (by omega)).mono ?_
  rintro e w4 ⟨Al, cl, rfl, Ol, h4⟩
  replace Ow := own_past Ow h4
  replace Oa := own_past Oa h4
  replace Ob := own_past Ob h4
  replace Hb := Lib.hid (thenB Hb.out h4)
  have t4 : w3.heap.size ≤ w4.heap.size := h4.size
  have Ll := own_lo Ol
  have Ul := own_hi Ol
  clear h4
  have hcut : mech p q f c ++ mech p q g k = mech p q f n := by have h := mech_cut (p := p) (q := q) (f := f) (by omega) (show c ≤ n by omega); rw [h, hg, show n - c = k by omega]
  have hcall := fun W h h2 => two_any Aa ca (mech p q f c) Ab cb (mech p q g k) W h (by rw [mech_length]; omega) h2 (by rw [mech_length]; omega)
  rw [hcut, mech_length, mech_length] at hcall
  have Hc := Lib.hid hcall
  clear hcall
  clear hcut hg
  have tn : ((n : Int) == (n : Int)) = true := by simp
  have tq : ((q : Int) == (q : Int)) = true := by simp
  have tp : (p == p) = true := by simp
  go_wp2_with fail
  refine (Hc.out _ (own_rd Oa) (own_rd Ob)).mono ?_
  rintro e w5 ⟨Az, cz, rfl, Oz, h5⟩
  replace Ow := own_past Ow h5
  replace Oa := own_past Oa h5
  replace Ob := own_past Ob h5
  replace Ol := own_past Ol h5
  replace Hb := Lib.hid (thenB Hb.out h5)
  have t5 : w4.heap.size ≤ w5.heap.size := h5.size
  have Lz := own_lo Oz
  have Uz := own_hi Oz
  clear h5
  clear Hc
  rw [mech_length]
  go_wp2_with fail
  refine (ints_same _ _ _ _ (mech p q f n) n _ (own_rd Ow) (own_rd Oz) (mech_length _ _ _ _) (by omega)).mono ?_
  rintro e w6 ⟨rfl, h6⟩
  replace Ow := own_past Ow h6
  replace Oa := own_past Oa h6
  replace Ob := own_past Ob h6
  replace Ol := own_past Ol h6
  replace Oz := own_past Oz h6
  replace Hb := Lib.hid (thenB Hb.out h6)
  have t6 : w5.heap.size ≤ w6.heap.size := h6.size
  clear h6
  have hcp := (own_cap Ow).1
  have hcall := fun W h => implIsBalanced_any Aw cw (mech p q f n) W h (by rw [mech_length]; omega) hcp
  rw [mech_bal f (by omega) lp (by omega) (by omega), mech_length] at hcall
  rw [mech_length] at hcp
  have Hc := Lib.hid hcall
  clear hcall
  go_wp2_with fail
  refine (Hc.out _ (own_rd Ow)).mono ?_
  rintro e w7 ⟨rfl, h7⟩
  replace Ow := own_past Ow h7
  replace Oa := own_past Oa h7
  replace Ob := own_past Ob h7
  replace Ol := own_past Ol h7
  replace Oz := own_past Oz h7
  replace Hb := Lib.hid (thenB Hb.out h7)
  have t7 : w6.heap.size ≤ w7.heap.size := h7.size
  clear h7
  clear Hc
  have hcall := fun W h => sumOf_yes Al cl q (mech p q f q) W h (mech_length _ _ _ _) (wordOk_seqOk (mech_word f (by omega) lp (by omega) (by omega)))
  rw [mech_whole q f (by omega)] at hcall
  have Hc := Lib.hid hcall
  clear hcall
  go_wp2_with fail
  refine (Hc.out _ (own_rd Ol)).mono ?_
  rintro e w8 ⟨rfl, rfl⟩
  clear Hc
  go_wp2_with fail
  go_ret
  exact ⟨rfl, Hb.out⟩
set_option maxRecDepth 100000 in
theorem lifted (os : Os) (started : os.Started) (H : Type) (enc : TypeId × Value → H) :
    ReturnsInHanded {} Try.checked os 3 .any (Rows.fnMechanicalSpec.pre6 enc Try.prog Try.f3 Rows.fnMechanicalRow.domain false) (Rows.fnMechanicalSpec.post enc Try.prog Try.f3 false true false false) := by
  refine returnsInHanded_of_change (C := Try.checked) own started (by kernel_rfl) Try.func3
    (ChangeSpec.witness6 (enc := enc) (C := Try.checked) false ⟨#[], #[.slice none 0 0], []⟩ 8 (by kernel_rfl) (by kernel_rfl) (by kernel_rfl) (by kernel_rfl)) ?_
  intro W base args ds gs before hval0 hW hcnd _
  have hval : ∀ (j : Nat) t v, Try.f3.params[j]? = some t → args[j]? = some v → Value.okWide Try.prog W .any base t v := hval0
  have hW' := hW
  obtain ⟨p, q, hA0, hV, rfl, hfz, hnd⟩ := hW
  have hA : DataW.TrodAll enc Try.prog W 0 (fun _ => true) true Try.f3.params.toList args.toList ds p := hA0
  rw [Try.params3] at hA hval
  obtain ⟨v0, vs0, d0, ds0, p0, q0, hargs, rfl, rfl, h0, g0⟩ := trodAll_cons hA
  obtain ⟨rfl, rfl, rfl⟩ := trodAll_nil g0
  obtain rfl : args = #[v0] := by cases args; simp_all
  obtain ⟨rfl, rfl⟩ := trodVars_none hV
  have k0 := h0
  have lt0 : ∀ x ∈ p0, x.block < W.heap.size := by obtain ⟨m, hm⟩ := k0; exact DataW.trod_lt m _ _ _ hm
  obtain ⟨A0, z0, c0, rfl, l0, m0, r0⟩ := arg_bytes Try.underlying22 Try.underlying5 (by kernel_rfl) (hval 0 22 v0 rfl rfl) h0
  clear hA0 hval0
  refine (walkw W A0 z0 c0 l0 m0 r0).mono fun e W' ⟨he, bel⟩ => ?_
  subst he
  exact ⟨_, rfl, _, _, _, [], _, [], hW', trodAll_mk1 (shut_bool Try.underlying4 _), (trodAll_cons_mk (Below.trod laidOut (by kernel_rfl) (of_decide_eq_true (by kernel_rfl)) k0 bel lt0) trodAll_mk0), rfl, bel.frame _, fun h => by cases h⟩
theorem over : Rows.fnMechanicalRow.holds Try.pinned (OpenSpec.ofChange Rows.fnMechanicalSpec) :=
  OpenClaim.holds_of_wide 3 Try.f3 rfl rfl rfl rfl rfl rfl rfl ⟨rfl, rfl, rfl, rfl, rfl⟩ rfl rfl rfl rfl rfl (by kernel_rfl) Try.func3 (by kernel_rfl)
    (of_decide_eq_true (by kernel_rfl)) (by unfold Func.isWrapper; first | (rw [if_pos (by decide +kernel)]; kernel_rfl) | (rw [if_neg (by decide +kernel)]; exact ⟨rfl, rfl⟩))
    (fun os started H enc _ => lifted os started H enc)
theorem proved : Rows.FnMechanicalSaid := over

end Go.Proofs.Ythpjpnilmpihaaa.mechanical
