/- An accumulator that is stopped goes on as if it had not been; its steps are its run. No condition. -/
import Derived.Test.YteabibkbmigpaaaLawAcc
namespace Go.Proofs.Yteabibkbmigpaaa.accCut
open Go.ChangeShapes Go.WideShapes Go.ChangeAt Go.RowKit
set_option linter.unusedVariables false
set_option linter.unusedSimpArgs false
set_option maxRecDepth 100000 in
set_option maxHeartbeats 4000000 in
theorem walkw (w : World) (A0 : Option Addr) (n0 c0 : Nat) (l0 : n0 ≤ c0) (m0 : c0 ≤ maxLen) (r0 : RdB w w.heap.size A0 n0) :
    Calls Try.prog 9 #[.slice A0 n0 c0] w fun e w' => e = .returned (.bool true) ∧ Below w.heap.size w w' := by
  unfold maxLen at m0
  by_cases hn : n0 ≤ 1048576
  case neg =>
    have hx : 1048576 < n0 := by omega
    clear hn
    go_enter Try.func9, Try.ntmps9
    go_wp2
    go_ret
    exact ⟨rfl, Below.refl _ _⟩
  have Hb : Hid (Below w.heap.size w w) := Below.refl _ _
  go_enter Try.func9, Try.ntmps9
  go_wp2_with fail
  refine (MakeAccumulator_any _ _ _ _ (r0.past Hb.out) (by omega)).mono ?_
  rintro e w1 ⟨o, m, rfl, o1, o2, m1, m2, h1⟩
  replace Hb := Lib.hid (thenB Hb.out h1)
  have t1 : w.heap.size ≤ w1.heap.size := h1.size
  clear h1
  have bx : Below w1.heap.size w1 (w1.alloc (.cells #[.int .i64 o, .int .i64 m] 24)) := (Below.refl _ _).alloc (Nat.le_refl _) _
  have B0 := Blk.new w1 24 #[.int .i64 o, .int .i64 m]
  have VB0 : w1.heap.size < (w1.alloc (.cells #[.int .i64 o, .int .i64 m] 24)).heap.size := by simp
  replace Hb := Lib.hid (thenB Hb.out bx)
  clear bx
  have bx : Below (w1.alloc (.cells #[.int .i64 o, .int .i64 m] 24)).heap.size (w1.alloc (.cells #[.int .i64 o, .int .i64 m] 24)) (w1.alloc (.cells #[.int .i64 o, .int .i64 m] 24)).drew := (Below.refl _ _).drew
  replace B0 := B0.past bx
  replace Hb := Lib.hid (thenB Hb.out bx)
  clear bx
  have t3 : (w1.alloc (.cells #[.int .i64 o, .int .i64 m] 24)).heap.size ≤ (w1.alloc (.cells #[.int .i64 o, .int .i64 m] 24)).drew.heap.size := Nat.le_refl _
  have B0c0 := B0.cell 0
  have B0c1 := B0.cell 1
  simp at B0c0 B0c1
  go_wp2_with fail
  go_region_held3 (fun w' => w'.cell? ⟨w1.heap.size, 0, none⟩ = some (.int .i64 o) ∧ w'.cell? ⟨w1.heap.size, 1, none⟩ = some (.int .i64 m)) (first | go_keep)
    (first
      | (go_at_call 17; clear B0c0 B0c1; have B0c0 := B0.cell 0; have B0c1 := B0.cell 1; simp at B0c0 B0c1; refine (fresh_any _ _ _ _ _ (r0.past Hb.out) (by omega) (by omega) (by omega)).mono ?_; rintro e w2 ⟨Af, cf, nf, rfl, hnf, Rf, h2⟩; replace B0 := B0.past h2; replace Hb := Lib.hid (thenB Hb.out h2); have t4 : (w1.alloc (.cells #[.int .i64 o, .int .i64 m] 24)).drew.heap.size ≤ w2.heap.size := h2.size; clear h2; clear B0c0 B0c1; have B0c0 := B0.cell 0; have B0c1 := B0.cell 1; simp at B0c0 B0c1)
      | (go_at_call 16; clear B0c0 B0c1; have B0c0 := B0.cell 0; have B0c1 := B0.cell 1; simp at B0c0 B0c1; refine (MakeRests_any _ _ _ _ _ _ Rf (by omega) (by omega) (by omega) (by omega)).mono ?_; rintro e w3 ⟨As, cs, s, rfl, Hs, Os, h3⟩; replace B0 := B0.past h3; replace Hb := Lib.hid (thenB Hb.out h3); replace Rf := Rf.past h3; have t5 : w2.heap.size ≤ w3.heap.size := h3.size; have Ls := own_lo Os; have Us := own_hi Os; clear h3; have Hhs := Lib.hid Hs; clear Hs; clear Rf; clear B0c0 B0c1; have B0c0 := B0.cell 0; have B0c1 := B0.cell 1; simp at B0c0 B0c1))
  obtain ⟨hsl, hsr⟩ := Hhs.out
  clear Hhs
  rw [hsl]
  have Hsl := Lib.hid hsl
  clear hsl
  have Hsr := Lib.hid hsr
  clear hsr
  have bx : Below w3.heap.size w3 w3.drew := (Below.refl _ _).drew
  replace Os := own_past Os bx
  replace B0 := B0.past bx
  replace Hb := Lib.hid (thenB Hb.out bx)
  clear bx
  have t6 : w3.heap.size ≤ w3.drew.heap.size := Nat.le_refl _
  clear B0c0 B0c1
  have B0c0 := B0.cell 0
  have B0c1 := B0.cell 1
  simp at B0c0 B0c1
  go_wp2_with fail
  go_region_held3 (fun w' => w'.cell? ⟨w1.heap.size, 0, none⟩ = some (.int .i64 o) ∧ w'.cell? ⟨w1.heap.size, 1, none⟩ = some (.int .i64 m)) (first | go_keep)
    (first
      | (go_at_call 17; clear B0c0 B0c1; have B0c0 := B0.cell 0; have B0c1 := B0.cell 1; simp at B0c0 B0c1; refine (fresh_any _ _ _ _ _ (r0.past Hb.out) (by omega) (by omega) (by omega)).mono ?_; rintro e w4 ⟨Af, cf, nf, rfl, hnf, Rf, h4⟩; replace Os := own_past Os h4; replace B0 := B0.past h4; replace Hb := Lib.hid (thenB Hb.out h4); have t7 : w3.drew.heap.size ≤ w4.heap.size := h4.size; clear h4; clear B0c0 B0c1; have B0c0 := B0.cell 0; have B0c1 := B0.cell 1; simp at B0c0 B0c1)
      | (go_at_call 18; clear B0c0 B0c1; have B0c0 := B0.cell 0; have B0c1 := B0.cell 1; simp at B0c0 B0c1; refine (MakeInputs_any _ _ _ _ _ _ _ Rf (by omega) (by omega) (by omega) (by omega) (by omega)).mono ?_; rintro e w5 ⟨Ax, cx, x, rfl, Hx, Ox, h5⟩; replace Os := own_past Os h5; replace B0 := B0.past h5; replace Hb := Lib.hid (thenB Hb.out h5); replace Rf := Rf.past h5; have t8 : w4.heap.size ≤ w5.heap.size := h5.size; have Lx := own_lo Ox; have Ux := own_hi Ox; clear h5; have Hhx := Lib.hid Hx; clear Hx; clear Rf; clear B0c0 B0c1; have B0c0 := B0.cell 0; have B0c1 := B0.cell 1; simp at B0c0 B0c1))
  obtain ⟨hxlx, hxrx⟩ := Hhx.out
  clear Hhx
  have Hxrx := Lib.hid hxrx
  clear hxrx
  have bx : Below w5.heap.size w5 w5.drew := (Below.refl _ _).drew
  replace Os := own_past Os bx
  replace Ox := own_past Ox bx
  replace B0 := B0.past bx
  replace Hb := Lib.hid (thenB Hb.out bx)
  clear bx
  have t9 : w5.heap.size ≤ w5.drew.heap.size := Nat.le_refl _
  clear B0c0 B0c1
  have B0c0 := B0.cell 0
  have B0c1 := B0.cell 1
  simp at B0c0 B0c1
  go_wp2_with fail
  go_region_held3 (fun w' => w'.cell? ⟨w1.heap.size, 0, none⟩ = some (.int .i64 o) ∧ w'.cell? ⟨w1.heap.size, 1, none⟩ = some (.int .i64 m)) (first | go_keep)
    (first
      | (go_at_call 17; clear B0c0 B0c1; have B0c0 := B0.cell 0; have B0c1 := B0.cell 1; simp at B0c0 B0c1; refine (fresh_any _ _ _ _ _ (r0.past Hb.out) (by omega) (by omega) (by omega)).mono ?_; rintro e w6 ⟨Af, cf, nf, rfl, hnf, Rf, h6⟩; replace Os := own_past Os h6; replace Ox := own_past Ox h6; replace B0 := B0.past h6; replace Hb := Lib.hid (thenB Hb.out h6); have t10 : w5.drew.heap.size ≤ w6.heap.size := h6.size; clear h6; clear B0c0 B0c1; have B0c0 := B0.cell 0; have B0c1 := B0.cell 1; simp at B0c0 B0c1)
      | (go_at_call 18; clear B0c0 B0c1; have B0c0 := B0.cell 0; have B0c1 := B0.cell 1; simp at B0c0 B0c1; refine (MakeInputs_any _ _ _ _ _ _ _ Rf (by omega) (by omega) (by omega) (by omega) (by omega)).mono ?_; rintro e w7 ⟨Az, cz, z, rfl, Hz, Oz, h7⟩; replace Os := own_past Os h7; replace Ox := own_past Ox h7; replace B0 := B0.past h7; replace Hb := Lib.hid (thenB Hb.out h7); replace Rf := Rf.past h7; have t11 : w6.heap.size ≤ w7.heap.size := h7.size; have Lz := own_lo Oz; have Uz := own_hi Oz; clear h7; have Hhz := Lib.hid Hz; clear Hz; clear Rf; clear B0c0 B0c1; have B0c0 := B0.cell 0; have B0c1 := B0.cell 1; simp at B0c0 B0c1))
  obtain ⟨hxlz, hxrz⟩ := Hhz.out
  clear Hhz
  have Hxrz := Lib.hid hxrz
  clear hxrz
  clear B0c0 B0c1
  have B0c0 := B0.cell 0
  have B0c1 := B0.cell 1
  simp at B0c0 B0c1
  go_wp2_with fail
  refine (run_yes As o x.length m cs s Ax cx x _ (own_rd Os) (own_rd Ox) Hsl.out rfl Hsr.out o1 (by omega) m1 (by omega) Hxrx.out (by omega)).mono ?_
  rintro e w8 ⟨Ac0, cc0, rc, Ac1, cc1, Ac2, cc2, rfl, hrc, hec, Mc0, Oc1, Oc2, h8⟩
  replace Os := own_past Os h8
  replace Ox := own_past Ox h8
  replace Oz := own_past Oz h8
  replace B0 := B0.past h8
  replace Hb := Lib.hid (thenB Hb.out h8)
  have t12 : w7.heap.size ≤ w8.heap.size := h8.size
  have Lc1 := own_lo Oc1
  have Uc1 := own_hi Oc1
  have Lc2 := own_lo Oc2
  have Uc2 := own_hi Oc2
  have Lc0 := Mc0.los
  have Uc0 := Mc0.his
  clear h8
  have Hrc := Lib.hid hrc
  clear hrc
  have Hec := Lib.hid hec
  clear hec
  have hml := (stX_length m s x x.length).trans Hsl.out
  have Hml := Lib.hid hml
  clear hml
  have hmr := stX_rests m1 Hsr.out Hxrx.out x.length
  have Hmr := Lib.hid hmr
  clear hmr
  clear B0c0 B0c1
  have B0c0 := B0.cell 0
  have B0c1 := B0.cell 1
  simp at B0c0 B0c1
  go_wp2_with fail
  refine (run_yes Ac2 o z.length m cc2 (stX m s x x.length) Az cz z _ (own_rd Oc2) (own_rd Oz) Hml.out rfl Hmr.out o1 (by omega) m1 (by omega) Hxrz.out (by omega)).mono ?_
  rintro e w9 ⟨Ad0, cd0, rd, Ad1, cd1, Ad2, cd2, rfl, hrd, hed, Md0, Od1, Od2, h9⟩
  replace Os := own_past Os h9
  replace Ox := own_past Ox h9
  replace Oz := own_past Oz h9
  replace Oc1 := own_past Oc1 h9
  replace Oc2 := own_past Oc2 h9
  replace B0 := B0.past h9
  replace Hb := Lib.hid (thenB Hb.out h9)
  replace Mc0 := (Mc0).past h9
  have t13 : w8.heap.size ≤ w9.heap.size := h9.size
  have Ld1 := own_lo Od1
  have Ud1 := own_hi Od1
  have Ld2 := own_lo Od2
  have Ud2 := own_hi Od2
  have Ld0 := Md0.los
  have Ud0 := Md0.his
  clear h9
  have Hrd := Lib.hid hrd
  clear hrd
  have Hed := Lib.hid hed
  clear hed
  have bx : Below w9.heap.size w9 w9.drew := (Below.refl _ _).drew
  replace Os := own_past Os bx
  replace Ox := own_past Ox bx
  replace Oz := own_past Oz bx
  replace Oc1 := own_past Oc1 bx
  replace Oc2 := own_past Oc2 bx
  replace Od1 := own_past Od1 bx
  replace Od2 := own_past Od2 bx
  replace B0 := B0.past bx
  replace Hb := Lib.hid (thenB Hb.out bx)
  replace Mc0 := (Mc0).past bx
  replace Md0 := (Md0).past bx
  clear bx
  have t14 : w9.heap.size ≤ w9.drew.heap.size := Nat.le_refl _
  clear B0c0 B0c1
  have B0c0 := B0.cell 0
  have B0c1 := B0.cell 1
  simp at B0c0 B0c1
  go_wp2_with fail
  go_region_held3 (fun w' => w'.cell? ⟨w1.heap.size, 0, none⟩ = some (.int .i64 o) ∧ w'.cell? ⟨w1.heap.size, 1, none⟩ = some (.int .i64 m)) (first | go_keep)
    (first
      | (go_at_call 43; clear B0c0 B0c1; have B0c0 := B0.cell 0; have B0c1 := B0.cell 1; simp at B0c0 B0c1; refine (two_any Ax cx x Az cz z _ (own_rd Ox) (by omega) (own_rd Oz) (by omega)).mono ?_; rintro e w10 ⟨Axz, cxz, rfl, Oxz, h10⟩; replace Os := own_past Os h10; replace Ox := own_past Ox h10; replace Oz := own_past Oz h10; replace Oc1 := own_past Oc1 h10; replace Oc2 := own_past Oc2 h10; replace Od1 := own_past Od1 h10; replace Od2 := own_past Od2 h10; replace B0 := B0.past h10; replace Hb := Lib.hid (thenB Hb.out h10); replace Mc0 := (Mc0).past h10; replace Md0 := (Md0).past h10; have t15 : w9.drew.heap.size ≤ w10.heap.size := h10.size; have Lxz := own_lo Oxz; have Uxz := own_hi Oxz; clear h10; have Hxrxz := Lib.hid (rests_app Hxrx.out Hxrz.out); have hxzl : (x ++ z).length ≤ 58 := (by rw [List.length_append]; omega); obtain ⟨kz, hkz⟩ : ∃ kz, kz = (x ++ z).length := ⟨_, rfl⟩; rw [← hkz] at hxzl ⊢; have Hkz := Lib.hid hkz; clear hkz; clear B0c0 B0c1; have B0c0 := B0.cell 0; have B0c1 := B0.cell 1; simp at B0c0 B0c1)
      | (go_at_call 19; clear B0c0 B0c1; have B0c0 := B0.cell 0; have B0c1 := B0.cell 1; simp at B0c0 B0c1; refine (run_yes As o kz m cs s Axz cxz (x ++ z) _ (own_rd Os) (own_rd Oxz) Hsl.out Hkz.out.symm Hsr.out o1 (by omega) m1 (by omega) Hxrxz.out (by omega)).mono ?_; rintro e w11 ⟨Aa0, ca0, ra, Aa1, ca1, Aa2, ca2, rfl, hra, hea, Ma0, Oa1, Oa2, h11⟩; replace Os := own_past Os h11; replace Ox := own_past Ox h11; replace Oz := own_past Oz h11; replace Oc1 := own_past Oc1 h11; replace Oc2 := own_past Oc2 h11; replace Od1 := own_past Od1 h11; replace Od2 := own_past Od2 h11; replace Oxz := own_past Oxz h11; replace B0 := B0.past h11; replace Hb := Lib.hid (thenB Hb.out h11); replace Mc0 := (Mc0).past h11; replace Md0 := (Md0).past h11; have t16 : w10.heap.size ≤ w11.heap.size := h11.size; have La1 := own_lo Oa1; have Ua1 := own_hi Oa1; have La2 := own_lo Oa2; have Ua2 := own_hi Oa2; have La0 := Ma0.los; have Ua0 := Ma0.his; clear h11; have Hra := Lib.hid hra; clear hra; have Hea := Lib.hid hea; clear hea; clear B0c0 B0c1; have B0c0 := B0.cell 0; have B0c1 := B0.cell 1; simp at B0c0 B0c1))
  have hend : stX m s (x ++ z) kz = stX m (stX m s x x.length) z z.length := by rw [Hkz.out, List.length_append]; exact stX_app_right m s x z z.length
  have hel := (stX_length m (stX m s x x.length) z z.length).trans Hml.out
  have Hel := Lib.hid hel
  clear hel
  rw [hend] at Oa2
  clear hend
  obtain ⟨en, hen⟩ : ∃ en, en = stX m (stX m s x x.length) z z.length := ⟨_, rfl⟩
  rw [← hen] at Od2 Oa2 Hel
  clear hen
  clear B0c0 B0c1
  have B0c0 := B0.cell 0
  have B0c1 := B0.cell 1
  simp at B0c0 B0c1
  have hcall := ints_any Ad2 Aa2 cd2 ca2 en en w11 (own_rd Od2) (own_rd Oa2) (by have := Hel.out; omega)
  rw [eqB_self, Hel.out] at hcall
  have Hc := Lib.hid hcall
  clear hcall
  clear B0c0 B0c1
  have B0c0 := B0.cell 0
  have B0c1 := B0.cell 1
  simp at B0c0 B0c1
  go_wp2_with fail
  refine (Hc.out).mono ?_
  rintro e w12 ⟨rfl, h12⟩
  replace Os := own_past Os h12
  replace Ox := own_past Ox h12
  replace Oz := own_past Oz h12
  replace Oc1 := own_past Oc1 h12
  replace Oc2 := own_past Oc2 h12
  replace Od1 := own_past Od1 h12
  replace Od2 := own_past Od2 h12
  replace Oxz := own_past Oxz h12
  replace Oa1 := own_past Oa1 h12
  replace Oa2 := own_past Oa2 h12
  replace B0 := B0.past h12
  replace Hb := Lib.hid (thenB Hb.out h12)
  replace Mc0 := (Mc0).past h12
  replace Md0 := (Md0).past h12
  replace Ma0 := (Ma0).past h12
  have t17 : w11.heap.size ≤ w12.heap.size := h12.size
  clear h12
  clear Hc
  have rx := Lib.hid (own_rd Ox)
  have rs := Lib.hid (own_rd Os)
  have rmid := Lib.hid (own_rd Oc2)
  have mc := Lib.hid (Mc0.rdm)
  have md := Lib.hid (Md0.rdm)
  have ma := Lib.hid (Ma0.rdm)
  have HB := Lib.hid (B0)
  clear B0c0 B0c1
  clear B0 Os Ls Us Ox Lx Ux Oz Lz Uz Oc1 Lc1 Uc1 Oc2 Lc2 Uc2 Od1 Ld1 Ud1 Od2 Ld2 Ud2 Oxz Lxz Uxz Oa1 La1 Ua1 Oa2 La2 Ua2
  clear Mc0 Lc0 Uc0 Md0 Ld0 Ud0 Ma0 La0 Ua0
  have e0 := HB.out.cell 0
  have e1 := HB.out.cell 1
  simp at e0 e1
  go_wp2_with fail
  clear e0 e1
  go_loopw [19, 114] (fun p i wr => ∃ (k : Nat) (A1 : Option Addr) (c1 : Nat), k ≤ x.length ∧ i = .int .i64 k ∧ p = .slice A1 o c1 ∧ Hid (Rd wr wr.heap.size A1 (stX m s x k)) ∧ Hid (Below w12.heap.size w12 wr)) (fun _ i _ => x.length - (intOf i).toNat)
  case atStart => exact ⟨0, As, cs, by omega, rfl, rfl, rs.out, Below.refl _ _⟩
  case round =>
    obtain ⟨k, A1, c1, hk, rfl, rfl, hR, HW⟩ := hrel
    have BB := HB.out.past HW.out
    have e0 := BB.cell 0
    have e1 := BB.cell 1
    simp at e0 e1
    obtain ⟨wa, hwa⟩ : ∃ wa : World, wa = wr := ⟨_, rfl⟩
    subst hwa
    by_cases hlt : k < x.length
    · obtain ⟨ad, rfl, _, q⟩ := (rx.out.past HW.out).at_ hlt
      have k1 := q k hlt
      rw [getD_at hlt] at k1
      have hxb := Hxrx.out _ (List.getElem_mem hlt)
      have hst := stX_rests m1 Hsr.out Hxrx.out k
      have hcall := step_yes A1 o m c1 (stX m s x k) x[k] wa hR.out ((stX_length m s x k).trans Hsl.out) hst o1 (by omega) m1 (by omega) hxb.1 hxb.2
      have Hc := Lib.hid hcall
      have HN : Hid (stepN m (stX m s x k) x[k] = stX m s x (k + 1)) := by show _ = _; rw [stX, getD_at hlt]
      have HC : Hid (∀ i, (stepC m (stX m s x k) x[k]).getD i 0 = carr m s x i k) := fun i => by unfold carr; rw [getD_at hlt]
      have HCl : Hid ((stepC m (stX m s x k) x[k]).length = o) := by show _ = _; rw [stepC_length, stX_length]; exact Hsl.out
      clear hcall hst q hxb
      go_wp2_with fail
      refine Hc.out.mono ?_
      rintro e wb ⟨A2, c2, A3, c3, rfl, O2, O3, hb⟩
      have HWb := Lib.hid (HW.out.trans (hb.mono HW.out.size))
      have r2 := Lib.hid (own_rd O2)
      have r3 := Lib.hid (own_rd O3)
      rw [HN.out] at r3
      have BB2 := HB.out.past HWb.out
      have f0 := BB2.cell 0
      have f1 := BB2.cell 1
      simp at f0 f1
      have hml : rc.length = o := Hrc.out
      clear O2 O3 hb BB BB2 e0 e1 k1 Hc
      go_wp2_with fail
      go_loop [138] (fun i => ∃ j : Nat, j ≤ o ∧ i = .int .i64 j) (fun i => o - (intOf i).toNat)
      case atStart => exact ⟨0, by omega, rfl⟩
      case round =>
        obtain ⟨j, hj, rfl⟩ := hrel
        by_cases hlt2 : j < o
        · have hjr : j < rc.length := by omega
          have hjC : j < (stepC m (stX m s x k) x[k]).length := by rw [HCl.out]; exact hlt2
          have mm := mc.out.past HWb.out
          obtain ⟨am, rfl, _, qm⟩ := mm.at_ hjr
          have d1 : wb.cell? (am.add j) = some (.slice rc[j].A rc[j].xs.length rc[j].c) := qm j rc[j] (List.getElem?_eq_getElem hjr)
          rw [run_rowLen Hec.out hlt2 hjr] at d1
          have rr := mm.row hjr
          rw [run_row Hec.out hlt2 hjr] at rr
          obtain ⟨a2, rfl, _, q2⟩ := r2.out.at_ hjC
          have d2 := q2 j hjC
          rw [HC.out j] at d2
          obtain ⟨r, hre⟩ : ∃ r, r = rc[j] := ⟨_, rfl⟩
          rw [← hre] at d1 rr
          obtain ⟨a3, ha3, _, q3⟩ := rr.at_ (k := k) (by rw [crow_length]; exact hlt)
          have d3 := q3 k (by rw [crow_length]; exact hlt)
          have hcv : (crow m s x j x.length).getD k 0 = carr m s x j k := lst_getD _ hlt
          rw [hcv] at d3
          rw [ha3] at d1
          have t1 : decide ((x.length : Int) ≤ (k : Int)) = false := by simp; omega
          have t2 : (carr m s x j k != carr m s x j k) = false := by simp
          clear hre qm q2 q3 rr mm hcv ha3
          go_wp2
          go_round
          case rel => exact ⟨j + 1, by omega, by go_num⟩
          case measure => simp [intOf]; omega
        · go_wp2
          go_roundw
          case rel => exact ⟨k + 1, A3, c3, by omega, by go_num, rfl, r3.out, HWb.out⟩
          case measure => simp [intOf]; omega
    · obtain rfl : k = x.length := by omega
      have hma : ra.length = o := Hra.out
      clear e0 e1 BB
      go_wp2_with fail
      go_loopw [166] (fun i wr => ∃ j : Nat, j ≤ o ∧ i = .int .i64 j ∧ Hid (Below w12.heap.size w12 wr) ∧ Hid (Rd wr wr.heap.size A1 (stX m s x x.length))) (fun i _ => o - (intOf i).toNat)
      case atStart => exact ⟨0, by omega, rfl, HW.out, hR.out⟩
      case round =>
        clear hR HW
        obtain ⟨j, hj, rfl, HW, hR⟩ := hrel
        by_cases hlt2 : j < o
        · have hjr : j < rc.length := by have := Hrc.out; omega
          have hjd : j < rd.length := by have := Hrd.out; omega
          have hja : j < ra.length := by omega
          have m1' := mc.out.past HW.out
          have m2' := md.out.past HW.out
          have m3' := ma.out.past HW.out
          obtain ⟨b1, rfl, _, q1⟩ := m1'.at_ hjr
          obtain ⟨b2, rfl, _, q2⟩ := m2'.at_ hjd
          obtain ⟨b3, rfl, _, q3⟩ := m3'.at_ hja
          have d1 : wr.cell? (b1.add j) = some (.slice rc[j].A rc[j].xs.length rc[j].c) := q1 j rc[j] (List.getElem?_eq_getElem hjr)
          have d2 : wr.cell? (b2.add j) = some (.slice rd[j].A rd[j].xs.length rd[j].c) := q2 j rd[j] (List.getElem?_eq_getElem hjd)
          have d3 : wr.cell? (b3.add j) = some (.slice ra[j].A ra[j].xs.length ra[j].c) := q3 j ra[j] (List.getElem?_eq_getElem hja)
          rw [run_rowLen Hec.out hlt2 hjr] at d1
          rw [run_rowLen Hed.out hlt2 hjd] at d2
          rw [run_rowLen Hea.out hlt2 hja] at d3
          have r1 := m1'.row hjr
          have r2 := m2'.row hjd
          have r3 := m3'.row hja
          rw [run_row Hec.out hlt2 hjr] at r1
          rw [run_row Hed.out hlt2 hjd] at r2
          rw [run_row Hea.out hlt2 hja, Hkz.out, crow_app] at r3
          obtain ⟨y1, hy1⟩ : ∃ r, r = rc[j] := ⟨_, rfl⟩
          obtain ⟨y2, hy2⟩ : ∃ r, r = rd[j] := ⟨_, rfl⟩
          obtain ⟨y3, hy3⟩ : ∃ r, r = ra[j] := ⟨_, rfl⟩
          rw [← hy1] at d1 r1
          rw [← hy2] at d2 r2
          rw [← hy3] at d3 r3
          have hbx : Below wr.heap.size wr wr.drew := (Below.refl _ _).drew
          have p1 := r1.past hbx
          have p2 := r2.past hbx
          have p3 := r3.past hbx
          obtain ⟨l1, hl1⟩ : ∃ l, l = crow m s x j x.length := ⟨_, rfl⟩
          obtain ⟨l2, hl2⟩ : ∃ l, l = crow m (stX m s x x.length) z j z.length := ⟨_, rfl⟩
          rw [← hl1] at p1 p3
          rw [← hl2] at p2 p3
          have hn1 : l1.length = x.length := by rw [hl1, crow_length]
          have hn2 : l2.length = z.length := by rw [hl2, crow_length]
          have hn3 : (l1 ++ l2).length = kz := by rw [List.length_append, hn1, hn2, Hkz.out, List.length_append]
          have c1' := two_any y1.A y1.c l1 y2.A y2.c l2 wr.drew p1 (by omega) p2 (by omega)
          rw [hn1, hn2] at c1'
          have Hc1 := Lib.hid c1'
          have HX : Hid (Below w12.heap.size w12 wr.drew) := HW.out.trans (hbx.mono HW.out.size)
          have Hp3 := Lib.hid p3
          have Hn3 := Lib.hid hn3
          have hR2 := Lib.hid (hR.out.past hbx)
          clear c1' p1 p2 p3 r1 r2 r3 q1 q2 q3 m1' m2' m3' hy1 hy2 hy3 hl1 hl2 hn1 hn2 hn3 hbx hR HW
          go_wp2_with fail
          go_region_held3 (fun w' => w'.cell? (b1.add j) = some (.slice y1.A x.length y1.c) ∧ w'.cell? (b2.add j) = some (.slice y2.A z.length y2.c) ∧ w'.cell? (b3.add j) = some (.slice y3.A kz y3.c)) (first | go_keep)
            (first
              | (go_at_call 43; refine Hc1.out.mono ?_; rintro e wc ⟨A6, c6, rfl, O6, hb6⟩; have r6 := Lib.hid (own_rd O6); have HX6 := Lib.hid (HX.out.trans (hb6.mono HX.out.size)); have p6 := Lib.hid (Hp3.out.past hb6); have R6 := Lib.hid (hR2.out.past hb6); have k1 := (hb6.cell (p := b1.add j) (by rw [block_add]; exact addlt d1)).trans d1; have k2 := (hb6.cell (p := b2.add j) (by rw [block_add]; exact addlt d2)).trans d2; have k3 := (hb6.cell (p := b3.add j) (by rw [block_add]; exact addlt d3)).trans d3; rw [Hn3.out])
              | (go_at_call 23; refine (ints_same y3.A A6 y3.c c6 (l1 ++ l2) kz _ p6.out r6.out Hn3.out (by omega)).mono ?_; rintro e wd ⟨rfl, hb7⟩; have HX7 := Lib.hid (HX6.out.trans (hb7.mono HX6.out.size)); have R7 := Lib.hid (R6.out.past hb7); have j1 := (hb7.cell (p := b1.add j) (by rw [block_add]; exact addlt k1)).trans k1; have j2 := (hb7.cell (p := b2.add j) (by rw [block_add]; exact addlt k2)).trans k2; have j3 := (hb7.cell (p := b3.add j) (by rw [block_add]; exact addlt k3)).trans k3))
          go_wp2
          go_roundw
          case rel => exact ⟨j + 1, by omega, by go_num, HX7.out, R7.out⟩
          case measure => simp [intOf]; omega
        · have hcall := ints_same A1 Ac2 c1 cc2 (stX m s x x.length) o wr hR.out (rmid.out.past HW.out) Hml.out (by omega)
          have Hc := Lib.hid hcall
          clear hcall
          go_wp2_with fail
          refine Hc.out.mono ?_
          rintro e wd ⟨rfl, hb7⟩
          go_wp2_with fail
          go_ret
          exact ⟨rfl, thenB Hb.out (HW.out.trans (hb7.mono HW.out.size))⟩
set_option maxRecDepth 100000 in
theorem lifted (os : Os) (started : os.Started) (H : Type) (enc : TypeId × Value → H) :
    ReturnsInHanded {} Try.checked os 9 .any (Rows.fnAccCutSpec.pre6 enc Try.prog Try.f9 Rows.fnAccCutRow.domain false) (Rows.fnAccCutSpec.post enc Try.prog Try.f9 false true false false) := by
  refine returnsInHanded_of_change (C := Try.checked) own started (by kernel_rfl) Try.func9
    (ChangeSpec.witness6 (enc := enc) (C := Try.checked) false ⟨#[], #[.slice none 0 0], []⟩ 8 (by kernel_rfl) (by kernel_rfl) (by kernel_rfl) (by kernel_rfl)) ?_
  intro W base args ds gs before hval0 hW hcnd _
  have hval : ∀ (j : Nat) t v, Try.f9.params[j]? = some t → args[j]? = some v → Value.okWide Try.prog W .any base t v := hval0
  have hW' := hW
  obtain ⟨p, q, hA0, hV, rfl, hfz, hnd⟩ := hW
  have hA : DataW.TrodAll enc Try.prog W 0 (fun _ => true) true Try.f9.params.toList args.toList ds p := hA0
  rw [Try.params9] at hA hval
  obtain ⟨v0, vs0, d0, ds0, p0, q0, hargs, rfl, rfl, h0, g0⟩ := trodAll_cons hA
  obtain ⟨rfl, rfl, rfl⟩ := trodAll_nil g0
  obtain rfl : args = #[v0] := by cases args; simp_all
  obtain ⟨rfl, rfl⟩ := trodVars_none hV
  have k0 := h0
  have lt0 : ∀ x ∈ p0, x.block < W.heap.size := by obtain ⟨m, hm⟩ := k0; exact DataW.trod_lt m _ _ _ hm
  obtain ⟨A0, z0, c0, rfl, l0, m0, r0⟩ := arg_bytes Try.underlying22 Try.underlying5 (by kernel_rfl) (hval 0 22 v0 rfl rfl) h0
  clear hA0 hval0
  refine (walkw W A0 z0 c0 l0 m0 r0).mono fun e W' ⟨he, bel⟩ => ?_
  subst he
  exact ⟨_, rfl, _, _, _, [], _, [], hW', trodAll_mk1 (shut_bool Try.underlying4 _), (trodAll_cons_mk (Below.trod laidOut (by kernel_rfl) (of_decide_eq_true (by kernel_rfl)) k0 bel lt0) trodAll_mk0), rfl, bel.frame _, fun h => by cases h⟩
theorem over : Rows.fnAccCutRow.holds Try.pinned (OpenSpec.ofChange Rows.fnAccCutSpec) :=
  OpenClaim.holds_of_wide 9 Try.f9 rfl rfl rfl rfl rfl rfl rfl ⟨rfl, rfl, rfl, rfl, rfl⟩ rfl rfl rfl rfl rfl (by kernel_rfl) Try.func9 (by kernel_rfl)
    (of_decide_eq_true (by kernel_rfl)) (by unfold Func.isWrapper; first | (rw [if_pos (by decide +kernel)]; kernel_rfl) | (rw [if_neg (by decide +kernel)]; exact ⟨rfl, rfl⟩))
    (fun os started H enc _ => lifted os started H enc)
theorem proved : Rows.FnAccCutSaid := over

end Go.Proofs.Yteabibkbmigpaaa.accCut
