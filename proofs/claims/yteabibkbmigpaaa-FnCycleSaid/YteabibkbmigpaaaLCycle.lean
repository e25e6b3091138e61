/- In a cycle the rests come back, and not earlier; the modulus times the sum of the first carries is the input times its length. No condition. -/
import Derived.Test.YteabibkbmigpaaaLawAcc
import Derived.Test.YteabibkbmigpaaaPRun4
import Derived.Test.YteabibkbmigpaaaCycle
import Derived.IntWalk
namespace Go.Proofs.Yteabibkbmigpaaa.cycleLaw
open Go.ChangeShapes Go.WideShapes Go.ChangeAt Go.RowKit
set_option linter.unusedVariables false
set_option linter.unusedSimpArgs false
set_option maxRecDepth 100000 in
set_option maxHeartbeats 4000000 in
theorem walkw (w : World) (A0 : Option Addr) (n0 c0 : Nat) (l0 : n0 ≤ c0) (m0 : c0 ≤ maxLen) (r0 : RdB w w.heap.size A0 n0) :
    Calls Try.prog 11 #[.slice A0 n0 c0] w fun e w' => e = .returned (.bool true) ∧ Below w.heap.size w w' := by
  unfold maxLen at m0
  by_cases hn : n0 ≤ 1048576
  case neg =>
    have hx : 1048576 < n0 := by omega
    clear hn
    go_enter Try.func11, Try.ntmps11
    go_wp2
    go_ret
    exact ⟨rfl, Below.refl _ _⟩
  have Hb : Hid (Below w.heap.size w w) := Below.refl _ _
  go_enter Try.func11, Try.ntmps11
  go_wp2_with fail
  refine (MakeAccumulator_any _ _ _ _ (r0.past Hb.out) (by omega)).mono ?_
  rintro e w1 ⟨o, m, rfl, o1, o2, m1, m2, h1⟩
  replace Hb := Lib.hid (thenB Hb.out h1)
  have t1 : w.heap.size ≤ w1.heap.size := h1.size
  clear h1
  have bx : Below w1.heap.size w1 (w1.alloc (.cells #[.int .i64 o, .int .i64 m] 24)) := (Below.refl _ _).alloc (Nat.le_refl _) _
  have B0 := Blk.new w1 24 #[.int .i64 o, .int .i64 m]
  have VB0 : w1.heap.size < (w1.alloc (.cells #[.int .i64 o, .int .i64 m] 24)).heap.size := by simp
  replace Hb := Lib.hid (thenB Hb.out bx)
  clear bx
  have bx : Below (w1.alloc (.cells #[.int .i64 o, .int .i64 m] 24)).heap.size (w1.alloc (.cells #[.int .i64 o, .int .i64 m] 24)) (w1.alloc (.cells #[.int .i64 o, .int .i64 m] 24)).drew := (Below.refl _ _).drew
  replace B0 := B0.past bx
  replace Hb := Lib.hid (thenB Hb.out bx)
  clear bx
  have t3 : (w1.alloc (.cells #[.int .i64 o, .int .i64 m] 24)).heap.size ≤ (w1.alloc (.cells #[.int .i64 o, .int .i64 m] 24)).drew.heap.size := Nat.le_refl _
  have B0c0 := B0.cell 0
  have B0c1 := B0.cell 1
  simp at B0c0 B0c1
  go_wp2_with fail
  go_region_held3 (fun w' => w'.cell? ⟨w1.heap.size, 0, none⟩ = some (.int .i64 o) ∧ w'.cell? ⟨w1.heap.size, 1, none⟩ = some (.int .i64 m)) (first | go_keep)
    (first
      | (go_at_call 17; clear B0c0 B0c1; have B0c0 := B0.cell 0; have B0c1 := B0.cell 1; simp at B0c0 B0c1; refine (fresh_any _ _ _ _ _ (r0.past Hb.out) (by omega) (by omega) (by omega)).mono ?_; rintro e w2 ⟨Af, cf, nf, rfl, hnf, Rf, h2⟩; replace B0 := B0.past h2; replace Hb := Lib.hid (thenB Hb.out h2); have t4 : (w1.alloc (.cells #[.int .i64 o, .int .i64 m] 24)).drew.heap.size ≤ w2.heap.size := h2.size; clear h2; clear B0c0 B0c1; have B0c0 := B0.cell 0; have B0c1 := B0.cell 1; simp at B0c0 B0c1)
      | (go_at_call 16; clear B0c0 B0c1; have B0c0 := B0.cell 0; have B0c1 := B0.cell 1; simp at B0c0 B0c1; refine (MakeRests_any _ _ _ _ _ _ Rf (by omega) (by omega) (by omega) (by omega)).mono ?_; rintro e w3 ⟨As, cs, s, rfl, Hs, Os, h3⟩; replace B0 := B0.past h3; replace Hb := Lib.hid (thenB Hb.out h3); replace Rf := Rf.past h3; have t5 : w2.heap.size ≤ w3.heap.size := h3.size; have Ls := own_lo Os; have Us := own_hi Os; clear h3; have Hhs := Lib.hid Hs; clear Hs; clear Rf; clear B0c0 B0c1; have B0c0 := B0.cell 0; have B0c1 := B0.cell 1; simp at B0c0 B0c1))
  obtain ⟨hsl, hsr⟩ := Hhs.out
  clear Hhs
  rw [hsl]
  have Hsl := Lib.hid hsl
  clear hsl
  have Hsr := Lib.hid hsr
  clear hsr
  have bx : Below w3.heap.size w3 w3.drew := (Below.refl _ _).drew
  replace Os := own_past Os bx
  replace B0 := B0.past bx
  replace Hb := Lib.hid (thenB Hb.out bx)
  clear bx
  have t6 : w3.heap.size ≤ w3.drew.heap.size := Nat.le_refl _
  clear B0c0 B0c1
  have B0c0 := B0.cell 0
  have B0c1 := B0.cell 1
  simp at B0c0 B0c1
  go_wp2_with fail
  go_region_held3 (fun w' => w'.cell? ⟨w1.heap.size, 0, none⟩ = some (.int .i64 o) ∧ w'.cell? ⟨w1.heap.size, 1, none⟩ = some (.int .i64 m)) (first | go_keep)
    (first
      | (go_at_call 48; clear B0c0 B0c1; have B0c0 := B0.cell 0; have B0c1 := B0.cell 1; simp at B0c0 B0c1; refine (at_any _ _ _ _ _ (r0.past Hb.out) (by omega) (by omega) (by omega)).mono ?_; rintro e w4 ⟨⟨av, rfl, av1, av2⟩, rfl⟩; have r0m : m ≠ 0 := (by omega); have r1 : av.tmod m = av % m := Int.tmod_eq_emod_of_nonneg av1; have r2 : IntKind.i64.wrap (av % m) = av % m := Go.IntWalk.i64_in _ (by have := Int.emod_nonneg av (show m ≠ 0 by omega); have := Int.emod_lt_of_pos av (show 0 < m by omega); omega); clear B0c0 B0c1; have B0c0 := B0.cell 0; have B0c1 := B0.cell 1; simp at B0c0 B0c1))
  clear r1 r2 r0m
  have hv0 := Int.emod_nonneg av (show m ≠ 0 by omega)
  have hv1 := Int.emod_lt_of_pos av (show 0 < m by omega)
  obtain ⟨v, hv⟩ : ∃ v, v = av % m := ⟨_, rfl⟩
  rw [← hv] at hv0 hv1 ⊢
  have Hv := Lib.hid hv
  clear hv
  have hok : stepOk o m s v = true := by simp only [stepOk, restsOk_of Hsl.out Hsr.out o1 (by omega) m1 (by omega), Bool.true_and]; simp [restB]; omega
  obtain ⟨n, ok, hq⟩ : ∃ (n : Int) (ok : Bool), cycFrom m s v 600 1 = (n, ok) := ⟨_, _, rfl⟩
  have hcy : cycle o m s v 600 = (n, ok) := by have h := cycle_yes hok (n := 600) (by omega); rw [hq] at h; exact h
  have hcall := fun W h => implCycleOf_any o m As cs s v 600 W h (by rw [Hsl.out]; omega)
  have hcall2 := fun W h => specCycleOf_any o m As cs s v 600 W h (by rw [Hsl.out]; omega)
  rw [hcy, Hsl.out] at hcall hcall2
  have Hc := Lib.hid hcall
  clear hcall
  have Hc2 := Lib.hid hcall2
  clear hcall2
  have Hq := Lib.hid hq
  clear hq
  clear hcy hok
  clear B0c0 B0c1
  have B0c0 := B0.cell 0
  have B0c1 := B0.cell 1
  simp at B0c0 B0c1
  go_wp2_with fail
  refine (Hc.out _ (own_rd Os)).mono ?_
  rintro e w4 ⟨rfl, h4⟩
  replace Os := own_past Os h4
  replace B0 := B0.past h4
  replace Hb := Lib.hid (thenB Hb.out h4)
  have t7 : w3.drew.heap.size ≤ w4.heap.size := h4.size
  clear h4
  clear B0c0 B0c1
  have B0c0 := B0.cell 0
  have B0c1 := B0.cell 1
  simp at B0c0 B0c1
  go_wp2_with fail
  refine (Hc2.out _ (own_rd Os)).mono ?_
  rintro e w5 ⟨rfl, h5⟩
  replace Os := own_past Os h5
  replace B0 := B0.past h5
  replace Hb := Lib.hid (thenB Hb.out h5)
  have t8 : w4.heap.size ≤ w5.heap.size := h5.size
  clear h5
  clear Hc Hc2
  have t0 : (ok != ok) = false := by simp
  cases ok with
  | false =>
    go_wp2_with fail
    go_ret
    exact ⟨rfl, Hb.out⟩
  | true =>
    obtain ⟨k, rfl, hk1, hk2, hkq, hkn⟩ := cyc_some 600 1 Hq.out
    have Hkq := Lib.hid hkq
    clear hkq
    have Hkn := Lib.hid hkn
    clear hkn
    clear Hq
    have bx : Below w5.heap.size w5 w5.drew := (Below.refl _ _).drew
    replace Os := own_past Os bx
    replace B0 := B0.past bx
    replace Hb := Lib.hid (thenB Hb.out bx)
    clear bx
    have t9 : w5.heap.size ≤ w5.drew.heap.size := Nat.le_refl _
    clear B0c0 B0c1
    have B0c0 := B0.cell 0
    have B0c1 := B0.cell 1
    simp at B0c0 B0c1
    go_wp2_with fail
    go_region_held3 (fun w' => w'.cell? ⟨w1.heap.size, 0, none⟩ = some (.int .i64 o) ∧ w'.cell? ⟨w1.heap.size, 1, none⟩ = some (.int .i64 m)) (first | go_keep)
      (first
        | (go_at_call 44; clear B0c0 B0c1; have B0c0 := B0.cell 0; have B0c1 := B0.cell 1; simp at B0c0 B0c1; refine (constant_any v k _ (by omega)).mono ?_; rintro e w6 ⟨Ax, cx, rfl, Ox, h6⟩; replace Os := own_past Os h6; replace B0 := B0.past h6; replace Hb := Lib.hid (thenB Hb.out h6); have t10 : w5.drew.heap.size ≤ w6.heap.size := h6.size; have Lx := own_lo Ox; have Ux := own_hi Ox; clear h6; rw [List.length_replicate]; have Hxr : Hid (Rests m (List.replicate k v)) := fun y hy => (by have := List.eq_of_mem_replicate hy; omega); clear B0c0 B0c1; have B0c0 := B0.cell 0; have B0c1 := B0.cell 1; simp at B0c0 B0c1)
        | (go_at_call 19; clear B0c0 B0c1; have B0c0 := B0.cell 0; have B0c1 := B0.cell 1; simp at B0c0 B0c1; refine (run_yes As o k m cs s Ax cx (List.replicate k v) _ (own_rd Os) (own_rd Ox) Hsl.out (by simp) Hsr.out o1 (by omega) m1 (by omega) Hxr.out (by omega)).mono ?_; rintro e w7 ⟨Ac0, cc0, rc, Ac1, cc1, Ac2, cc2, rfl, hrc, hec, Mc0, Oc1, Oc2, h7⟩; replace Os := own_past Os h7; replace Ox := own_past Ox h7; replace B0 := B0.past h7; replace Hb := Lib.hid (thenB Hb.out h7); have t11 : w6.heap.size ≤ w7.heap.size := h7.size; have Lc1 := own_lo Oc1; have Uc1 := own_hi Oc1; have Lc2 := own_lo Oc2; have Uc2 := own_hi Oc2; have Lc0 := Mc0.los; have Uc0 := Mc0.his; clear h7; have Hrc := Lib.hid hrc; clear hrc; have Hec := Lib.hid hec; clear hec; clear B0c0 B0c1; have B0c0 := B0.cell 0; have B0c1 := B0.cell 1; simp at B0c0 B0c1))
    have hst : stX m s (List.replicate k v) k = s := (stX_const m s v k k (Nat.le_refl _)).trans (eqB_true Hkq.out)
    rw [hst] at Oc2
    have hs0 : 0 < s.length := by rw [Hsl.out]; omega
    have hsum := cyc_sum hs0 hst
    have hbits : ∀ y ∈ crow m s (List.replicate k v) 0 k, 0 ≤ y ∧ y ≤ 1 := fun y hy => wordOk_mem (crow_word m1 Hsr.out Hxr.out 0 k (by omega)) y hy
    have hsb := bits_sum hbits
    rw [crow_length] at hsb
    have hls : seqOk (crow m s (List.replicate k v) 0 k) = true := wordOk_seqOk (crow_word m1 Hsr.out Hxr.out 0 k (by omega))
    have hll := crow_length m s (List.replicate k v) 0 k
    have hml : rc.length = o := Hrc.out
    have hjr : 0 < rc.length := by omega
    obtain ⟨am, rfl, hab, qm⟩ := Mc0.rdm.at_ hjr
    have d1 : w7.cell? (am.add 0) = some (.slice rc[0].A rc[0].xs.length rc[0].c) := qm 0 rc[0] (List.getElem?_eq_getElem hjr)
    rw [run_rowLen Hec.out (by omega) hjr] at d1
    have rr := Mc0.rdm.row hjr
    rw [run_row Hec.out (by omega) hjr] at rr
    obtain ⟨r, hre⟩ : ∃ r, r = rc[0] := ⟨_, rfl⟩
    rw [← hre] at d1 rr
    clear hre qm
    obtain ⟨L, hL⟩ : ∃ L, L = crow m s (List.replicate k v) 0 k := ⟨_, rfl⟩
    rw [← hL] at hsum hsb hls hll rr
    clear hbits hL
    have d1' : w7.cell? am = some (.slice r.A k r.c) := d1
    have Rr := Lib.hid rr
    have Re := Lib.hid (own_rd Oc2)
    have Rs := Lib.hid (own_rd Os)
    have b1 : 0 ≤ m * L.sum ∧ m * L.sum ≤ 36600 := ⟨Int.mul_nonneg (by omega) hsb.1, Int.le_trans (Int.mul_le_mul_of_nonneg_left hsb.2 (by omega)) (by have := Int.mul_le_mul_of_nonneg_right (c := (k : Int)) m2 (by omega); omega)⟩
    obtain ⟨P, hP⟩ : ∃ P, P = m * L.sum := ⟨_, rfl⟩
    have e1 : m * L.sum = P := hP.symm
    have e2 : (k : Int) * v = P := by rw [← hsum]; exact e1
    rw [e1] at b1
    have i1 : IntKind.i64.wrap P = P := Go.IntWalk.i64_in _ (by omega)
    have tp : (P != P) = false := by simp
    have to : ((o : Int) != (o : Int)) = false := by simp
    have tk : decide ((k : Int) < 1) = false := by simp; omega
    have ho0 : (0 : Int) < (o : Int) := by omega
    have ho1 : 0 < o := by omega
    have HLs := Lib.hid hls
    have HLl := Lib.hid hll
    clear B0c0 B0c1
    have B0c0 := B0.cell 0
    have B0c1 := B0.cell 1
    simp at B0c0 B0c1
    clear rr hP hsum hst hs0 hml hls hll hjr hsb
    go_wp2_with fail
    go_quiet (first | (go_at_call 23; refine (ints_draws _ _ _ _ o s _ (rd_drew Re.out _) (rd_drew Rs.out _) Hsl.out (by rw [Hsl.out]; omega)).mono ?_; rintro e w9 ⟨rfl, mm, rfl⟩; exact ⟨rfl, _, World.drewN_drewN ..⟩) | (go_at_call 24; refine (sumOf_yes _ _ k L _ (rd_drew Rr.out _) HLl.out HLs.out).mono ?_; rintro e w9 ⟨rfl, rfl⟩; exact ⟨rfl, _, rfl⟩))
    go_wp2
    clear B0c0 B0c1
    go_loopw [14, 15] (fun p i wr => ∃ (j : Nat) (A1 : Option Addr) (c1 : Nat), 1 ≤ j ∧ j ≤ k ∧ i = .int .i64 j ∧ p = .slice A1 o c1 ∧ Hid (Rd wr wr.heap.size A1 (stN m s v (j - 1))) ∧ Hid (Below w7.heap.size w7 wr)) (fun _ i _ => k - (intOf i).toNat)
    case atStart => exact ⟨1, As, cs, by omega, hk1, rfl, rfl, rd_drew Rs.out _, below_drewN' (Below.refl _ _) _⟩
    case round =>
      obtain ⟨j, A1, c1, hj1, hj, rfl, rfl, hR, HW⟩ := hrel
      have BB := B0.past HW.out
      have e0 := BB.cell 0
      have e1' := BB.cell 1
      simp at e0 e1'
      by_cases hlt : j < k
      · have hst := stN_rests m1 Hsr.out ⟨hv0, hv1⟩ (j - 1)
        have hcall := spec_step_yes A1 o m c1 (stN m s v (j - 1)) v wr hR.out ((stN_length m s v (j - 1)).trans Hsl.out) hst o1 (by omega) m1 (by omega) hv0 hv1
        have Hc := Lib.hid hcall
        have HN := Lib.hid (stN_pred (m := m) (s := s) (x := v) hj1)
        have hne := Hkn.out j hj1 hlt
        have Hne := Lib.hid hne
        clear hcall hst BB hne
        go_wp2_with fail
        refine Hc.out.mono ?_
        rintro e wb ⟨A2, c2, A3, c3, rfl, O2, O3, hb⟩
        rw [HN.out] at O3
        have r3 := Lib.hid (own_rd O3)
        have HWb := Lib.hid (HW.out.trans (hb.mono HW.out.size))
        have hcall := ints_any A3 As c3 cs (stN m s v j) s wb r3.out ((Rs.out).past HWb.out) (by rw [stN_length, Hsl.out]; omega)
        rw [stN_length, Hsl.out, Hne.out] at hcall
        have Hc2 := Lib.hid hcall
        clear hcall O2 O3 hb Hc e0 e1'
        go_wp2_with fail
        refine Hc2.out.mono ?_
        rintro e wc ⟨rfl, hc⟩
        have r4 := Lib.hid (r3.out.past hc)
        have HWc := Lib.hid (HWb.out.trans (hc.mono HWb.out.size))
        clear hc Hc2
        go_wp2
        go_roundw
        case rel => exact ⟨j + 1, A3, c3, by omega, by omega, by go_num, rfl, r4.out, HWc.out⟩
        case measure => simp [intOf]; omega
      · obtain rfl : j = k := by omega
        clear BB
        go_wp2
        go_ret
        exact ⟨rfl, Hb.out.trans (HW.out.mono Hb.out.size)⟩
set_option maxRecDepth 100000 in
theorem lifted (os : Os) (started : os.Started) (H : Type) (enc : TypeId × Value → H) :
    ReturnsInHanded {} Try.checked os 11 .any (Rows.fnCycleSpec.pre6 enc Try.prog Try.f11 Rows.fnCycleRow.domain false) (Rows.fnCycleSpec.post enc Try.prog Try.f11 false true false false) := by
  refine returnsInHanded_of_change (C := Try.checked) own started (by kernel_rfl) Try.func11
    (ChangeSpec.witness6 (enc := enc) (C := Try.checked) false ⟨#[], #[.slice none 0 0], []⟩ 8 (by kernel_rfl) (by kernel_rfl) (by kernel_rfl) (by kernel_rfl)) ?_
  intro W base args ds gs before hval0 hW hcnd _
  have hval : ∀ (j : Nat) t v, Try.f11.params[j]? = some t → args[j]? = some v → Value.okWide Try.prog W .any base t v := hval0
  have hW' := hW
  obtain ⟨p, q, hA0, hV, rfl, hfz, hnd⟩ := hW
  have hA : DataW.TrodAll enc Try.prog W 0 (fun _ => true) true Try.f11.params.toList args.toList ds p := hA0
  rw [Try.params11] at hA hval
  obtain ⟨v0, vs0, d0, ds0, p0, q0, hargs, rfl, rfl, h0, g0⟩ := trodAll_cons hA
  obtain ⟨rfl, rfl, rfl⟩ := trodAll_nil g0
  obtain rfl : args = #[v0] := by cases args; simp_all
  obtain ⟨rfl, rfl⟩ := trodVars_none hV
  have k0 := h0
  have lt0 : ∀ x ∈ p0, x.block < W.heap.size := by obtain ⟨m, hm⟩ := k0; exact DataW.trod_lt m _ _ _ hm
  obtain ⟨A0, z0, c0, rfl, l0, m0, r0⟩ := arg_bytes Try.underlying22 Try.underlying5 (by kernel_rfl) (hval 0 22 v0 rfl rfl) h0
  clear hA0 hval0
  refine (walkw W A0 z0 c0 l0 m0 r0).mono fun e W' ⟨he, bel⟩ => ?_
  subst he
  exact ⟨_, rfl, _, _, _, [], _, [], hW', trodAll_mk1 (shut_bool Try.underlying4 _), (trodAll_cons_mk (Below.trod laidOut (by kernel_rfl) (of_decide_eq_true (by kernel_rfl)) k0 bel lt0) trodAll_mk0), rfl, bel.frame _, fun h => by cases h⟩
theorem over : Rows.fnCycleRow.holds Try.pinned (OpenSpec.ofChange Rows.fnCycleSpec) :=
  OpenClaim.holds_of_wide 11 Try.f11 rfl rfl rfl rfl rfl rfl rfl ⟨rfl, rfl, rfl, rfl, rfl⟩ rfl rfl rfl rfl rfl (by kernel_rfl) Try.func11 (by kernel_rfl)
    (of_decide_eq_true (by kernel_rfl)) (by unfold Func.isWrapper; first | (rw [if_pos (by decide +kernel)]; kernel_rfl) | (rw [if_neg (by decide +kernel)]; exact ⟨rfl, rfl⟩))
    (fun os started H enc _ => lifted os started H enc)
theorem proved : Rows.FnCycleSaid := over

end Go.Proofs.Yteabibkbmigpaaa.cycleLaw
