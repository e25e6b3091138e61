/- The power of two sequences, one behind the other, is the sum of theirs, and does not depend on signs. No condition. -/
import Derived.Test.YthpjpnilmpihaaaLawAcc
import Derived.Test.YthpjpnilmpihaaaSeq2
import Derived.Test.YthpjpnilmpihaaaPPow
namespace Go.Proofs.Ythpjpnilmpihaaa.powerLaw
open Go.ChangeShapes Go.WideShapes Go.ChangeAt Go.RowKit
set_option linter.unusedVariables false
set_option linter.unusedSimpArgs false
set_option maxRecDepth 100000 in
set_option maxHeartbeats 4000000 in
theorem walkw (w : World) (A0 : Option Addr) (n0 c0 : Nat) (l0 : n0 ≤ c0) (m0 : c0 ≤ maxLen) (r0 : RdB w w.heap.size A0 n0) :
    Calls Try.prog 11 #[.slice A0 n0 c0] w fun e w' => e = .returned (.bool true) ∧ Below w.heap.size w w' := by
  unfold maxLen at m0
  by_cases hn : n0 ≤ 1048576
  case neg =>
    have hx : 1048576 < n0 := by omega
    clear hn
    go_enter Try.func11, Try.ntmps11
    go_wp2
    go_ret
    exact ⟨rfl, Below.refl _ _⟩
  have Hb : Hid (Below w.heap.size w w) := Below.refl _ _
  go_enter Try.func11, Try.ntmps11
  go_wp2_with fail
  refine (MakeSequence_any _ _ _ _ _ _ (r0.past Hb.out) (by omega) (by omega) (by omega) (by omega) (by omega)).mono ?_
  rintro e w1 ⟨Ax, cx, x, rfl, hpx, Ox, h1⟩
  replace Hb := Lib.hid (thenB Hb.out h1)
  have t1 : w.heap.size ≤ w1.heap.size := h1.size
  have Lx := own_lo Ox
  have Ux := own_hi Ox
  clear h1
  have hlx : x.length ≤ 20 := by have := hpx.1; omega
  have hbx := hpx.2
  have Hbx := Lib.hid hbx
  clear hbx
  clear hpx
  go_wp2_with fail
  refine (fresh_any _ _ _ _ _ (r0.past Hb.out) (by omega) (by omega) (by omega)).mono ?_
  rintro e w2 ⟨Af, cf, nf, rfl, hnf, Rf, h2⟩
  replace Ox := own_past Ox h2
  replace Hb := Lib.hid (thenB Hb.out h2)
  have t2 : w1.heap.size ≤ w2.heap.size := h2.size
  clear h2
  go_wp2_with fail
  refine (MakeSequence_any _ _ _ _ _ _ Rf (by omega) (by omega) (by omega) (by omega) (by omega)).mono ?_
  rintro e w3 ⟨Ay, cy, y, rfl, hpy, Oy, h3⟩
  replace Ox := own_past Ox h3
  replace Hb := Lib.hid (thenB Hb.out h3)
  replace Rf := Rf.past h3
  have t3 : w2.heap.size ≤ w3.heap.size := h3.size
  have Ly := own_lo Oy
  have Uy := own_hi Oy
  clear h3
  have hly : y.length ≤ 20 := by have := hpy.1; omega
  have hby := hpy.2
  have Hby := Lib.hid hby
  clear hby
  clear hpy
  clear Rf
  have hcall := fun W h => implScale_yes Ax cx x (-1) W h (seqOk_of (fun v hv => by have := Hbx.out v hv; omega) (by omega)) (by omega) (by omega) (fun v hv => by have := Hbx.out v hv; omega)
  have hnl : (x.map (· * (-1))).length = x.length := by simp
  have hpn := powS_neg x
  have hnb : ∀ v ∈ x.map (· * (-1)), -5000 ≤ v ∧ v ≤ 5000 := by intro v hv; simp only [List.mem_map] at hv; obtain ⟨u, hu, rfl⟩ := hv; have := Hbx.out u hu; omega
  obtain ⟨N, hN⟩ : ∃ N, N = x.map (· * (-1)) := ⟨_, rfl⟩
  rw [← hN] at hcall hnl hpn hnb
  have Hc := Lib.hid hcall
  clear hcall
  have Hnb := Lib.hid hnb
  clear hnb
  clear hN
  go_wp2_with fail
  refine (Hc.out _ (own_rd Ox)).mono ?_
  rintro e w4 ⟨An, cn, rfl, On, h4⟩
  replace Ox := own_past Ox h4
  replace Oy := own_past Oy h4
  replace Hb := Lib.hid (thenB Hb.out h4)
  have t4 : w3.heap.size ≤ w4.heap.size := h4.size
  have Ln := own_lo On
  have Un := own_hi On
  clear h4
  clear Hc
  go_wp2_with fail
  refine (implPower_yes Ax cx _ x _ (own_rd Ox) rfl (by omega) Hbx.out).mono ?_
  rintro e w5 ⟨rfl, h5⟩
  replace Ox := own_past Ox h5
  replace Oy := own_past Oy h5
  replace On := own_past On h5
  replace Hb := Lib.hid (thenB Hb.out h5)
  have t5 : w4.heap.size ≤ w5.heap.size := h5.size
  clear h5
  obtain ⟨Px, hPx⟩ : ∃ P, P = powS x := ⟨_, rfl⟩
  rw [← hPx]
  have HPx := Lib.hid hPx
  clear hPx
  go_wp2_with fail
  refine (implPower_yes Ay cy _ y _ (own_rd Oy) rfl (by omega) Hby.out).mono ?_
  rintro e w6 ⟨rfl, h6⟩
  replace Ox := own_past Ox h6
  replace Oy := own_past Oy h6
  replace On := own_past On h6
  replace Hb := Lib.hid (thenB Hb.out h6)
  have t6 : w5.heap.size ≤ w6.heap.size := h6.size
  clear h6
  obtain ⟨Py, hPy⟩ : ∃ P, P = powS y := ⟨_, rfl⟩
  rw [← hPy]
  have HPy := Lib.hid hPy
  clear hPy
  go_wp2_with fail
  refine (two_any Ax cx x Ay cy y _ (own_rd Ox) (by omega) (own_rd Oy) (by omega)).mono ?_
  rintro e w7 ⟨Az, cz, rfl, Oz, h7⟩
  replace Ox := own_past Ox h7
  replace Oy := own_past Oy h7
  replace On := own_past On h7
  replace Hb := Lib.hid (thenB Hb.out h7)
  have t7 : w6.heap.size ≤ w7.heap.size := h7.size
  have Lz := own_lo Oz
  have Uz := own_hi Oz
  clear h7
  have hzl : (x ++ y).length = x.length + y.length := List.length_append
  have hzb : ∀ v ∈ x ++ y, -5000 ≤ v ∧ v ≤ 5000 := fun v hv => (List.mem_append.1 hv).elim (Hbx.out v) (Hby.out v)
  have hpz := powS_app x y
  obtain ⟨Z, hZ⟩ : ∃ Z, Z = x ++ y := ⟨_, rfl⟩
  rw [← hZ] at hzl hzb hpz Oz ⊢
  have Hzb := Lib.hid hzb
  clear hzb
  clear hZ
  go_wp2_with fail
  refine (implPower_yes Az cz _ Z _ (own_rd Oz) hzl (by omega) Hzb.out).mono ?_
  rintro e w8 ⟨rfl, h8⟩
  replace Ox := own_past Ox h8
  replace Oy := own_past Oy h8
  replace On := own_past On h8
  replace Oz := own_past Oz h8
  replace Hb := Lib.hid (thenB Hb.out h8)
  have t8 : w7.heap.size ≤ w8.heap.size := h8.size
  clear h8
  obtain ⟨PZ, hPZ⟩ : ∃ P, P = powS Z := ⟨_, rfl⟩
  rw [← hPZ]
  have HPZ := Lib.hid hPZ
  clear hPZ
  go_wp2_with fail
  refine (implPower_yes An cn _ N _ (own_rd On) hnl (by omega) Hnb.out).mono ?_
  rintro e w9 ⟨rfl, h9⟩
  replace Ox := own_past Ox h9
  replace Oy := own_past Oy h9
  replace On := own_past On h9
  replace Oz := own_past Oz h9
  replace Hb := Lib.hid (thenB Hb.out h9)
  have t9 : w8.heap.size ≤ w9.heap.size := h9.size
  clear h9
  obtain ⟨PN, hPN⟩ : ∃ P, P = powS N := ⟨_, rfl⟩
  rw [← hPN]
  have HPN := Lib.hid hPN
  clear hPN
  have p0 := powS_nonneg x
  have p1 := powS_le x Hbx.out
  have p2 := powS_nonneg y
  have p3 := powS_le y Hby.out
  have pt := pow_test x
  have e1 : PZ = Px + Py := by rw [HPZ.out, HPx.out, HPy.out]; exact hpz
  have e2 : PN = Px := by rw [HPN.out, HPx.out]; exact hpn
  clear hpz hpn
  subst e1
  subst e2
  rw [← HPx.out] at p0 p1 pt
  rw [← HPy.out] at p2 p3
  have i1 : IntKind.i64.wrap (PN + Py) = PN + Py := Go.IntWalk.i64_in _ (by omega)
  have t1 : (PN + Py == PN + Py) = true := by simp
  have t2 : (PN == PN) = true := by simp
  have t3 : decide (0 ≤ PN) = true := by simp; omega
  clear p1 p2 p3
  have Hpt := Lib.hid pt
  clear pt
  go_wp2_with fail
  refine (constant_any 0 x.length _ (by omega)).mono ?_
  rintro e w10 ⟨Ak, ck, rfl, Ok, h10⟩
  replace Ox := own_past Ox h10
  replace Oy := own_past Oy h10
  replace On := own_past On h10
  replace Oz := own_past Oz h10
  replace Hb := Lib.hid (thenB Hb.out h10)
  have t10 : w9.heap.size ≤ w10.heap.size := h10.size
  have Lk := own_lo Ok
  have Uk := own_hi Ok
  clear h10
  have hcall := fun W h h2 => ints_any Ax Ak cx ck x (List.replicate x.length 0) W h h2 (by omega)
  rw [List.length_replicate, ← Hpt.out] at hcall
  rw [List.length_replicate]
  have Hc := Lib.hid hcall
  clear hcall
  go_wp2_with fail
  refine (Hc.out _ (own_rd Ox) (own_rd Ok)).mono ?_
  rintro e w11 ⟨rfl, h11⟩
  replace Ox := own_past Ox h11
  replace Oy := own_past Oy h11
  replace On := own_past On h11
  replace Oz := own_past Oz h11
  replace Ok := own_past Ok h11
  replace Hb := Lib.hid (thenB Hb.out h11)
  have t11 : w10.heap.size ≤ w11.heap.size := h11.size
  clear h11
  clear Hc
  
  have t4 : ((PN == 0) == (PN == 0)) = true := by simp
  go_wp2_with fail
  go_ret
  exact ⟨rfl, Hb.out⟩
set_option maxRecDepth 100000 in
theorem lifted (os : Os) (started : os.Started) (H : Type) (enc : TypeId × Value → H) :
    ReturnsInHanded {} Try.checked os 11 .any (Rows.fnPowerSpec.pre6 enc Try.prog Try.f11 Rows.fnPowerRow.domain false) (Rows.fnPowerSpec.post enc Try.prog Try.f11 false true false false) := by
  refine returnsInHanded_of_change (C := Try.checked) own started (by kernel_rfl) Try.func11
    (ChangeSpec.witness6 (enc := enc) (C := Try.checked) false ⟨#[], #[.slice none 0 0], []⟩ 8 (by kernel_rfl) (by kernel_rfl) (by kernel_rfl) (by kernel_rfl)) ?_
  intro W base args ds gs before hval0 hW hcnd _
  have hval : ∀ (j : Nat) t v, Try.f11.params[j]? = some t → args[j]? = some v → Value.okWide Try.prog W .any base t v := hval0
  have hW' := hW
  obtain ⟨p, q, hA0, hV, rfl, hfz, hnd⟩ := hW
  have hA : DataW.TrodAll enc Try.prog W 0 (fun _ => true) true Try.f11.params.toList args.toList ds p := hA0
  rw [Try.params11] at hA hval
  obtain ⟨v0, vs0, d0, ds0, p0, q0, hargs, rfl, rfl, h0, g0⟩ := trodAll_cons hA
  obtain ⟨rfl, rfl, rfl⟩ := trodAll_nil g0
  obtain rfl : args = #[v0] := by cases args; simp_all
  obtain ⟨rfl, rfl⟩ := trodVars_none hV
  have k0 := h0
  have lt0 : ∀ x ∈ p0, x.block < W.heap.size := by obtain ⟨m, hm⟩ := k0; exact DataW.trod_lt m _ _ _ hm
  obtain ⟨A0, z0, c0, rfl, l0, m0, r0⟩ := arg_bytes Try.underlying22 Try.underlying5 (by kernel_rfl) (hval 0 22 v0 rfl rfl) h0
  clear hA0 hval0
  refine (walkw W A0 z0 c0 l0 m0 r0).mono fun e W' ⟨he, bel⟩ => ?_
  subst he
  exact ⟨_, rfl, _, _, _, [], _, [], hW', trodAll_mk1 (shut_bool Try.underlying4 _), (trodAll_cons_mk (Below.trod laidOut (by kernel_rfl) (of_decide_eq_true (by kernel_rfl)) k0 bel lt0) trodAll_mk0), rfl, bel.frame _, fun h => by cases h⟩
theorem over : Rows.fnPowerRow.holds Try.pinned (OpenSpec.ofChange Rows.fnPowerSpec) :=
  OpenClaim.holds_of_wide 11 Try.f11 rfl rfl rfl rfl rfl rfl rfl ⟨rfl, rfl, rfl, rfl, rfl⟩ rfl rfl rfl rfl rfl (by kernel_rfl) Try.func11 (by kernel_rfl)
    (of_decide_eq_true (by kernel_rfl)) (by unfold Func.isWrapper; first | (rw [if_pos (by decide +kernel)]; kernel_rfl) | (rw [if_neg (by decide +kernel)]; exact ⟨rfl, rfl⟩))
    (fun os started H enc _ => lifted os started H enc)
theorem proved : Rows.FnPowerSaid := over

end Go.Proofs.Ythpjpnilmpihaaa.powerLaw
