/- Dither that is added modulo the modulus changes no sum but by multiples of it, and dither of zeros changes nothing. No condition. -/
import Derived.Test.YteabibkbmigpaaaArgB
import Derived.Test.YteabibkbmigpaaaDither
import Derived.Test.YteabibkbmigpaaaClone
import Derived.Deep.RegionHeld3
namespace Go.Proofs.Yteabibkbmigpaaa.dithered
open Go.ChangeShapes Go.WideShapes Go.ChangeAt Go.RowKit
set_option linter.unusedVariables false
set_option linter.unusedSimpArgs false
theorem seq_inputs {m most : Int} {xs : List Int} (h : Rests m xs) (hm : m ≤ 1048576) (hl : (xs.length : Int) ≤ most) (h2 : most ≤ 1000) : seqOk xs = true :=
  seqOk_of (fun x hx => by have := h x hx; omega) (by omega)
theorem dither_zero {m : Int} {xs : List Int} (h : Rests m xs) : ditherL xs [0] m = xs := by
  apply List.ext_getElem?
  intro k
  by_cases hk : k < xs.length
  · have hk' : k < (ditherL xs [0] m).length := by rw [ditherL_length]; exact hk
    have b := h _ (List.getElem_mem hk)
    rw [List.getElem?_eq_getElem hk', ditherL_at xs [0] m hk hk', List.getElem?_eq_getElem hk]
    have e : ([0] : List Int).getD (k % ([0] : List Int).length) 0 = 0 := by simp [Nat.mod_one]
    rw [e, Int.add_zero, Int.emod_eq_of_lt b.1 b.2]
  · rw [List.getElem?_eq_none (by rw [ditherL_length]; omega), List.getElem?_eq_none (by omega)]
theorem dither_tmod {x d m : Int} (hm : 2 ≤ m) : ((x + d) % m - x - d).tmod m = 0 := by
  apply Int.tmod_eq_zero_of_dvd
  have := Int.mul_ediv_add_emod (x + d) m
  refine ⟨-((x + d) / m), ?_⟩
  rw [Int.mul_neg]
  omega
theorem small_wide {a s s' : Int} {xs : List Int} (h : Small a s xs) (hs : s ≤ s') : Small a s' xs := ⟨h.1, fun x hx => by have := h.2 x hx; omega⟩
theorem dither_ok {x d : List Int} {m : Int} (h : Rests m x) (hl : (x.length : Int) ≤ 40 - 1) (m1 : 2 ≤ m) (m2 : m ≤ 61) (hd : Small 7 255 d) (h0 : 0 < d.length) : ditherOk x d m = true := by
  have e1 : seqOk x = true := seqOk_of (fun v hv => by have := h v hv; omega) (by omega)
  have e2 : seqOk d = true := seqOk_of (fun v hv => by have := hd.2 v hv; omega) (by have := hd.1; omega)
  simp only [ditherOk, e1, e2, inB_true m1 (show m ≤ 1048576 by omega), decide_eq_true h0, Bool.true_and, Bool.and_true]
theorem dd_bd {ds dd : List Int} {u : Int} (e : dd = ds ++ [u]) (h : ∀ x ∈ ds, -100 ≤ x ∧ x ≤ 100) (u1 : 0 ≤ u) (u2 : u ≤ 255) : ∀ x ∈ dd, -255 ≤ x ∧ x ≤ 255 := fun x hx => by
  subst e
  rw [List.mem_append] at hx
  rcases hx with hx | hx
  · have := h x hx; omega
  · simp at hx; omega
set_option maxRecDepth 100000 in
set_option maxHeartbeats 4000000 in
theorem walkw (w : World) (A0 : Option Addr) (n0 c0 : Nat) (l0 : n0 ≤ c0) (m0 : c0 ≤ maxLen) (r0 : RdB w w.heap.size A0 n0) :
    Calls Try.prog 13 #[.slice A0 n0 c0] w fun e w' => e = .returned (.bool true) ∧ Below w.heap.size w w' := by
  unfold maxLen at m0
  by_cases hn : n0 ≤ 1048576
  case neg =>
    have hx : 1048576 < n0 := by omega
    clear hn
    go_enter Try.func13, Try.ntmps13
    go_wp2
    go_ret
    exact ⟨rfl, Below.refl _ _⟩
  have Hb : Hid (Below w.heap.size w w) := Below.refl _ _
  go_enter Try.func13, Try.ntmps13
  go_wp2_with fail
  refine (MakeAccumulator_any _ _ _ _ (r0.past Hb.out) (by omega)).mono ?_
  rintro e w1 ⟨o, m, rfl, o1, o2, m1, m2, h1⟩
  replace Hb := Lib.hid (thenB Hb.out h1)
  have t1 : w.heap.size ≤ w1.heap.size := h1.size
  clear h1
  have bx : Below w1.heap.size w1 (w1.alloc (.cells #[.int .i64 o, .int .i64 m] 24)) := (Below.refl _ _).alloc (Nat.le_refl _) _
  have B0 := Blk.new w1 24 #[.int .i64 o, .int .i64 m]
  have VB0 : w1.heap.size < (w1.alloc (.cells #[.int .i64 o, .int .i64 m] 24)).heap.size := by simp
  replace Hb := Lib.hid (thenB Hb.out bx)
  clear bx
  have bx : Below (w1.alloc (.cells #[.int .i64 o, .int .i64 m] 24)).heap.size (w1.alloc (.cells #[.int .i64 o, .int .i64 m] 24)) (w1.alloc (.cells #[.int .i64 o, .int .i64 m] 24)).drew := (Below.refl _ _).drew
  replace B0 := B0.past bx
  replace Hb := Lib.hid (thenB Hb.out bx)
  clear bx
  have t3 : (w1.alloc (.cells #[.int .i64 o, .int .i64 m] 24)).heap.size ≤ (w1.alloc (.cells #[.int .i64 o, .int .i64 m] 24)).drew.heap.size := Nat.le_refl _
  have B0c0 := B0.cell 0
  have B0c1 := B0.cell 1
  simp at B0c0 B0c1
  go_wp2_with fail
  go_region_held3 (fun w' => w'.cell? ⟨w1.heap.size, 0, none⟩ = some (.int .i64 o) ∧ w'.cell? ⟨w1.heap.size, 1, none⟩ = some (.int .i64 m)) (first | go_keep)
    (first
      | (go_at_call 17; clear B0c0 B0c1; have B0c0 := B0.cell 0; have B0c1 := B0.cell 1; simp at B0c0 B0c1; refine (fresh_any _ _ _ _ _ (r0.past Hb.out) (by omega) (by omega) (by omega)).mono ?_; rintro e w2 ⟨Af, cf, nf, rfl, hnf, Rf, h2⟩; replace B0 := B0.past h2; replace Hb := Lib.hid (thenB Hb.out h2); have t4 : (w1.alloc (.cells #[.int .i64 o, .int .i64 m] 24)).drew.heap.size ≤ w2.heap.size := h2.size; clear h2; clear B0c0 B0c1; have B0c0 := B0.cell 0; have B0c1 := B0.cell 1; simp at B0c0 B0c1)
      | (go_at_call 18; clear B0c0 B0c1; have B0c0 := B0.cell 0; have B0c1 := B0.cell 1; simp at B0c0 B0c1; refine (MakeInputs_any _ _ _ _ _ _ _ Rf (by omega) (by omega) (by omega) (by omega) (by omega)).mono ?_; rintro e w3 ⟨Ax, cx, x, rfl, Hx, Ox, h3⟩; replace B0 := B0.past h3; replace Hb := Lib.hid (thenB Hb.out h3); replace Rf := Rf.past h3; have t5 : w2.heap.size ≤ w3.heap.size := h3.size; have Lx := own_lo Ox; have Ux := own_hi Ox; clear h3; have Hhx := Lib.hid Hx; clear Hx; clear Rf; clear B0c0 B0c1; have B0c0 := B0.cell 0; have B0c1 := B0.cell 1; simp at B0c0 B0c1))
  clear B0c0 B0c1
  have B0c0 := B0.cell 0
  have B0c1 := B0.cell 1
  simp at B0c0 B0c1
  go_wp2_with fail
  refine (fresh_any _ _ _ _ _ (r0.past Hb.out) (by omega) (by omega) (by omega)).mono ?_
  rintro e w4 ⟨Ap, cp, np, rfl, hnp, Rp, h4⟩
  replace Ox := own_past Ox h4
  replace B0 := B0.past h4
  replace Hb := Lib.hid (thenB Hb.out h4)
  have t6 : w3.heap.size ≤ w4.heap.size := h4.size
  clear h4
  clear B0c0 B0c1
  have B0c0 := B0.cell 0
  have B0c1 := B0.cell 1
  simp at B0c0 B0c1
  go_wp2_with fail
  refine (MakeSequence_any _ _ _ _ _ _ Rp (by omega) (by omega) (by omega) (by omega) (by omega)).mono ?_
  rintro e w5 ⟨Ad, cd, ds, rfl, Hd, Od, h5⟩
  replace Ox := own_past Ox h5
  replace B0 := B0.past h5
  replace Hb := Lib.hid (thenB Hb.out h5)
  replace Rp := Rp.past h5
  have t7 : w4.heap.size ≤ w5.heap.size := h5.size
  have Ld := own_lo Od
  have Ud := own_hi Od
  clear h5
  have Hhd := Lib.hid Hd
  clear Hd
  clear Rp
  clear B0c0 B0c1
  have B0c0 := B0.cell 0
  have B0c1 := B0.cell 1
  simp at B0c0 B0c1
  go_wp2_with fail
  refine (at_any _ _ _ _ _ (r0.past Hb.out) (by omega) (by omega) (by omega)).mono ?_
  rintro e w6 ⟨⟨av, rfl, av1, av2⟩, rfl⟩
  clear B0c0 B0c1
  have B0c0 := B0.cell 0
  have B0c1 := B0.cell 1
  simp at B0c0 B0c1
  have hdl : ds.length ≤ 6 := by have := Hhd.out.1; omega
  have hxl : x.length ≤ 39 := by have := Hhx.out.1; omega
  clear B0c0 B0c1
  have B0c0 := B0.cell 0
  have B0c1 := B0.cell 1
  simp at B0c0 B0c1
  go_wp2_with (at_builtin; refine app_new rfl (.tmp 23) (.tmp 26) rfl w4.heap.size Ad cd ds.length ds av rfl rfl Od rfl (by omega) (by omega) ?_)
  intro An cn w6 On h6 mv
  replace Ox := own_wrote Ox h6 (apart_lt Ux Ld (by omega))
  replace B0 := blk_wrote B0 h6 Ld (by omega)
  replace Hb := Lib.hid (Hb.out.trans (below_wrote h6 Hb.out.size (lo_le Ld (by omega))))
  have t8 : w5.heap.size ≤ w6.heap.size := h6.size
  clear Od Ld Ud h6 mv
  have Od := On
  have Ld := own_lo On
  have Ud := own_hi On
  clear On
  obtain ⟨dd, hdd⟩ : ∃ dd, dd = ds ++ [av] := ⟨_, rfl⟩
  rw [← hdd] at Od
  have hdl2 : dd.length = ds.length + 1 := by rw [hdd]; simp
  rw [← hdl2]
  have Hdd := Lib.hid hdd
  have Hdl := Lib.hid hdl2
  clear hdd hdl2
  have hok : ditherOk x dd m = true := dither_ok Hhx.out.2 Hhx.out.1 m1 m2 (by rw [Hdd.out]; exact small_snoc (small_wide (small_more Hhd.out (by omega : (6 : Int) ≤ 7 - 1)) (by omega)) (by omega) (by omega)) (by rw [Hdl.out]; omega)
  have hok2 : ditherOk x [0] m = true := dither_ok Hhx.out.2 Hhx.out.1 m1 m2 (by exact ⟨by simp, by simp⟩) (by simp)
  have hcall := implDitherInput_any Ax cx x An cn dd m _ (own_rd Ox) (by omega) (own_rd Od) (by rw [Hdl.out]; omega)
  rw [dither_yes hok] at hcall
  have Hc := Lib.hid hcall
  have HR := Lib.hid (ditherL_length x dd m)
  have HY : Hid (∀ k (h : k < (ditherL x dd m).length) (hk : k < x.length), (ditherL x dd m)[k] = (x[k] + dd.getD (k % dd.length) 0) % m) := fun k h hk => ditherL_at x dd m hk h
  obtain ⟨Y, hY⟩ : ∃ Y, Y = ditherL x dd m := ⟨_, rfl⟩
  rw [← hY] at Hc HR HY
  clear hcall hY hok
  clear B0c0 B0c1
  have B0c0 := B0.cell 0
  have B0c1 := B0.cell 1
  simp at B0c0 B0c1
  go_wp2_with fail
  refine (Hc.out).mono ?_
  rintro e w7 ⟨Ay, cy, rfl, Oy, h7⟩
  replace Ox := own_past Ox h7
  replace Od := own_past Od h7
  replace B0 := B0.past h7
  replace Hb := Lib.hid (thenB Hb.out h7)
  have t9 : w6.heap.size ≤ w7.heap.size := h7.size
  have Ly := own_lo Oy
  have Uy := own_hi Oy
  clear h7
  clear Hc
  have bx : Below w7.heap.size w7 (w7.alloc (.cells #[.int .i64 0] 3)) := (Below.refl _ _).alloc (Nat.le_refl _) _
  have Oz := own_cells (xs := [0]) w7 #[.int .i64 0] (Nat.le_refl _) rfl (by simp [maxLen])
  replace Ox := own_past Ox bx
  replace Od := own_past Od bx
  replace Oy := own_past Oy bx
  replace B0 := B0.past bx
  replace Hb := Lib.hid (thenB Hb.out bx)
  clear bx
  have hcall := implDitherInput_any Ax cx x _ 1 [0] m _ (own_rd Ox) (by omega) (own_rd Oz) (by simp)
  rw [dither_yes hok2, dither_zero Hhx.out.2] at hcall
  have Hc := Lib.hid hcall
  clear hcall Oz hok2
  clear B0c0 B0c1
  have B0c0 := B0.cell 0
  have B0c1 := B0.cell 1
  simp at B0c0 B0c1
  go_wp2_with fail
  refine (Hc.out).mono ?_
  rintro e w8 ⟨Az, cz, rfl, Oz, h8⟩
  replace Ox := own_past Ox h8
  replace Od := own_past Od h8
  replace Oy := own_past Oy h8
  replace B0 := B0.past h8
  replace Hb := Lib.hid (thenB Hb.out h8)
  have t10 : (w7.alloc (.cells #[.int .i64 0] 3)).heap.size ≤ w8.heap.size := h8.size
  have Lz := own_lo Oz
  have Uz := own_hi Oz
  clear h8
  clear Hc
  have tlen : ((Y.length : Int) != (x.length : Int)) = false := by rw [HR.out]; simp
  clear B0c0 B0c1
  have B0c0 := B0.cell 0
  have B0c1 := B0.cell 1
  simp at B0c0 B0c1
  go_wp2_with fail
  refine (ints_any Az Ax cz cx x x _ (own_rd Oz) (own_rd Ox) (by omega)).mono ?_
  rintro e w9 ⟨rfl, h9⟩
  replace Ox := own_past Ox h9
  replace Od := own_past Od h9
  replace Oy := own_past Oy h9
  replace Oz := own_past Oz h9
  replace B0 := B0.past h9
  replace Hb := Lib.hid (thenB Hb.out h9)
  have t11 : w8.heap.size ≤ w9.heap.size := h9.size
  clear h9
  have HE := Lib.hid (eqB_self x)
  rw [HE.out]
  have hxY : x.length ≤ Y.length := by rw [HR.out]; exact Nat.le_refl _
  have hY39 : Y.length ≤ 39 := by rw [HR.out]; exact hxl
  have hd0 : 0 < dd.length := by rw [Hdl.out]; omega
  have e1 := B0.cell 1
  simp at e1
  have rx := Lib.hid (own_rd Ox)
  have ry := Lib.hid (own_rd Oy)
  have rd := Lib.hid (own_rd Od)
  clear B0c0 B0c1
  clear B0 Ox Oy Oz Od Lx Ly Lz Ld Ux Uy Uz Ud
  go_wp2_with fail
  go_loopw [65] (fun i wr => ∃ k : Nat, k ≤ Y.length ∧ i = .int .i64 k ∧ Hid (∃ n, wr = w9.drewN n)) (fun i _ => Y.length - (intOf i).toNat)
  case atStart => exact ⟨0, by omega, rfl, 0, rfl⟩
  case round =>
    obtain ⟨k, hk, rfl, HD⟩ := hrel
    have hd' : ∀ p, wr.cell? p = w9.cell? p := by obtain ⟨n, hn⟩ := HD.out; subst hn; exact fun _ => rfl
    by_cases hlt : k < Y.length
    · have hkx : k < x.length := by have := HR.out; omega
      have hj : k % dd.length < dd.length := Nat.mod_lt _ hd0
      obtain ⟨a1, rfl, _, q1⟩ := ry.out.at_ hlt
      obtain ⟨a2, rfl, _, q2⟩ := rx.out.at_ hkx
      obtain ⟨a3, rfl, _, q3⟩ := rd.out.at_ hj
      have k1 := (hd' _).trans (q1 k hlt)
      have k2 := (hd' _).trans (q2 k hkx)
      have k3 := (hd' _).trans (q3 _ hj)
      have k4 := (hd' _).trans e1
      have hv := HY.out k hlt hkx
      have hxb := Hhx.out.2 _ (List.getElem_mem hkx)
      have hdb := by have := Hdd.out; exact dd_bd this Hhd.out.2 av1 av2 _ (List.getElem_mem hj)
      rw [getD_at hlt] at k1
      rw [getD_at hkx] at k2
      rw [getD_at hj] at k3 hv
      obtain ⟨v, hve⟩ : ∃ v, v = Y[k] := ⟨_, rfl⟩
      obtain ⟨y, hye⟩ : ∃ y, y = x[k] := ⟨_, rfl⟩
      obtain ⟨z, hze⟩ : ∃ z, z = dd[k % dd.length] := ⟨_, rfl⟩
      rw [← hve] at k1 hv
      rw [← hye] at k2 hv hxb
      rw [← hze] at k3 hv hdb
      have hv0 : 0 ≤ v := by rw [hv]; exact Int.emod_nonneg _ (by omega)
      have hv1 : v < m := by rw [hv]; exact Int.emod_lt_of_pos _ (by omega)
      have htm := dither_tmod (x := y) (d := z) m1
      rw [← hv] at htm
      have b1 : decide (v < 0) = false := by simp; omega
      have b2 : decide (m ≤ v) = false := by simp; omega
      have Hj := Lib.hid hj
      have ej : ((k : Int) % (dd.length : Int)).toNat = k % dd.length := by omega
      have ej1 : (0 : Int) ≤ (k : Int) % (dd.length : Int) := Int.emod_nonneg _ (by omega)
      have ej2 : (k : Int) % (dd.length : Int) < (dd.length : Int) := Int.emod_lt_of_pos _ (by omega)
      clear hv hve hye hze hj q1 q2 q3 hd'
      go_wp2
      go_quiet (fail)
      go_wp2
      go_roundw
      case rel => exact ⟨k + 1, by omega, by go_num, by obtain ⟨n, rfl⟩ := HD.out; exact ⟨_, World.drewN_drewN ..⟩⟩
      case measure => simp [intOf]; omega
    · obtain rfl : k = Y.length := by omega
      go_wp2
      go_ret
      obtain ⟨n, rfl⟩ := HD.out
      exact ⟨rfl, below_drewN' Hb.out _⟩
set_option maxRecDepth 100000 in
theorem lifted (os : Os) (started : os.Started) (H : Type) (enc : TypeId × Value → H) :
    ReturnsInHanded {} Try.checked os 13 .any (Rows.fnDitheredSpec.pre6 enc Try.prog Try.f13 Rows.fnDitheredRow.domain false) (Rows.fnDitheredSpec.post enc Try.prog Try.f13 false true false false) := by
  refine returnsInHanded_of_change (C := Try.checked) own started (by kernel_rfl) Try.func13
    (ChangeSpec.witness6 (enc := enc) (C := Try.checked) false ⟨#[], #[.slice none 0 0], []⟩ 8 (by kernel_rfl) (by kernel_rfl) (by kernel_rfl) (by kernel_rfl)) ?_
  intro W base args ds gs before hval0 hW hcnd _
  have hval : ∀ (j : Nat) t v, Try.f13.params[j]? = some t → args[j]? = some v → Value.okWide Try.prog W .any base t v := hval0
  have hW' := hW
  obtain ⟨p, q, hA0, hV, rfl, hfz, hnd⟩ := hW
  have hA : DataW.TrodAll enc Try.prog W 0 (fun _ => true) true Try.f13.params.toList args.toList ds p := hA0
  rw [Try.params13] at hA hval
  obtain ⟨v0, vs0, d0, ds0, p0, q0, hargs, rfl, rfl, h0, g0⟩ := trodAll_cons hA
  obtain ⟨rfl, rfl, rfl⟩ := trodAll_nil g0
  obtain rfl : args = #[v0] := by cases args; simp_all
  obtain ⟨rfl, rfl⟩ := trodVars_none hV
  have k0 := h0
  have lt0 : ∀ x ∈ p0, x.block < W.heap.size := by obtain ⟨m, hm⟩ := k0; exact DataW.trod_lt m _ _ _ hm
  obtain ⟨A0, z0, c0, rfl, l0, m0, r0⟩ := arg_bytes Try.underlying22 Try.underlying5 (by kernel_rfl) (hval 0 22 v0 rfl rfl) h0
  clear hA0 hval0
  refine (walkw W A0 z0 c0 l0 m0 r0).mono fun e W' ⟨he, bel⟩ => ?_
  subst he
  exact ⟨_, rfl, _, _, _, [], _, [], hW', trodAll_mk1 (shut_bool Try.underlying4 _), (trodAll_cons_mk (Below.trod laidOut (by kernel_rfl) (of_decide_eq_true (by kernel_rfl)) k0 bel lt0) trodAll_mk0), rfl, bel.frame _, fun h => by cases h⟩
theorem over : Rows.fnDitheredRow.holds Try.pinned (OpenSpec.ofChange Rows.fnDitheredSpec) :=
  OpenClaim.holds_of_wide 13 Try.f13 rfl rfl rfl rfl rfl rfl rfl ⟨rfl, rfl, rfl, rfl, rfl⟩ rfl rfl rfl rfl rfl (by kernel_rfl) Try.func13 (by kernel_rfl)
    (of_decide_eq_true (by kernel_rfl)) (by unfold Func.isWrapper; first | (rw [if_pos (by decide +kernel)]; kernel_rfl) | (rw [if_neg (by decide +kernel)]; exact ⟨rfl, rfl⟩))
    (fun os started H enc _ => lifted os started H enc)
theorem proved : Rows.FnDitheredSaid := over

end Go.Proofs.Yteabibkbmigpaaa.dithered
