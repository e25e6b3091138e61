/- A comb that spreads is the convolution of what is stuffed with the coefficients of the box; of the order 1 it repeats each element. No condition. -/
import Derived.Test.YtfplecbacgcjgaaPSpr
import Derived.Test.YtfplecbacgcjgaaGenC
import Derived.Test.YtfplecbacgcjgaaStuff
import Derived.Test.YtfplecbacgcjgaaLawAcc
namespace Go.Proofs.Ytfplecbacgcjgaa.spreadLaw
open Go.ChangeShapes Go.WideShapes Go.ChangeAt Go.RowKit
set_option linter.unusedVariables false
set_option linter.unusedSimpArgs false
set_option maxRecDepth 100000 in
set_option maxHeartbeats 1000000 in
theorem walkw (w : World) (A0 : Option Addr) (n0 c0 : Nat) (l0 : n0 ≤ c0) (m0 : c0 ≤ maxLen) (r0 : RdB w w.heap.size A0 n0) :
    Calls Try.prog 11 #[.slice A0 n0 c0] w fun e w' => e = .returned (.bool true) ∧ Below w.heap.size w w' := by
  unfold maxLen at m0
  by_cases hn : n0 ≤ 1048576
  case neg =>
    have hx : 1048576 < n0 := by omega
    clear hn
    go_enter Try.func11, Try.ntmps11
    go_wp2
    go_ret
    exact ⟨rfl, Below.refl _ _⟩
  have Hb : Hid (Below w.heap.size w w) := Below.refl _ _
  go_enter Try.func11, Try.ntmps11
  go_wp2_with fail
  refine (MakeComb_any _ _ _ _ (r0.past Hb.out) (by omega)).mono ?_
  rintro e w1 ⟨o, r, k, rfl, o1, o2, r1, r2, k1, k2, h1⟩
  replace Hb := Lib.hid (thenB Hb.out h1)
  have t1 : w.heap.size ≤ w1.heap.size := h1.size
  clear h1
  have bx : Below w1.heap.size w1 (w1.alloc (.cells #[.int .i64 o, .int .i64 r, .int .i64 k] 24)) := (Below.refl _ _).alloc (Nat.le_refl _) _
  have B0 := Blk.new w1 24 #[.int .i64 o, .int .i64 r, .int .i64 k]
  have VB0 : w1.heap.size < (w1.alloc (.cells #[.int .i64 o, .int .i64 r, .int .i64 k] 24)).heap.size := by simp
  replace Hb := Lib.hid (thenB Hb.out bx)
  clear bx
  have B0c0 := B0.cell 0
  have B0c1 := B0.cell 1
  have B0c2 := B0.cell 2
  simp at B0c0 B0c1 B0c2
  go_wp2_with fail
  refine (fresh_any _ _ _ _ _ (r0.past Hb.out) (by omega) (by omega) (by omega)).mono ?_
  rintro e w2 ⟨Af, cf, nf, rfl, hnf, Rf, h2⟩
  replace B0 := B0.past h2
  replace Hb := Lib.hid (thenB Hb.out h2)
  have t3 : (w1.alloc (.cells #[.int .i64 o, .int .i64 r, .int .i64 k] 24)).heap.size ≤ w2.heap.size := h2.size
  clear h2
  clear B0c0 B0c1 B0c2
  have B0c0 := B0.cell 0
  have B0c1 := B0.cell 1
  have B0c2 := B0.cell 2
  simp at B0c0 B0c1 B0c2
  go_wp2_with fail
  refine (MakeSequence_any _ _ _ 25 200 _ Rf (by omega) (by omega) (by omega) (by omega) (by omega)).mono ?_
  rintro e w3 ⟨Ax, cx, x, rfl, Hx, Ox, h3⟩
  replace B0 := B0.past h3
  replace Hb := Lib.hid (thenB Hb.out h3)
  replace Rf := Rf.past h3
  have t4 : w2.heap.size ≤ w3.heap.size := h3.size
  have Lx := own_lo Ox
  have Ux := own_hi Ox
  clear h3
  clear Rf
  have hxs : ∀ v ∈ x, -200 ≤ v ∧ v ≤ 200 := fun v hv => by have := Hx.2 v hv; omega
  have xl : x.length ≤ 25 := by have := Hx.1; omega
  clear Hx
  obtain ⟨Y, H, S, R, Y1, P⟩ := spr_all (k := k) hxs xl r1 r2 o1 o2 (by omega) k2
  have xs1 : seqOk x = true := seqOk_of (fun v hv => by have := hxs v hv; omega) (by omega)
  have HX := Lib.hid xs1
  clear xs1
  clear hxs
  obtain ⟨m, hm⟩ : ∃ m, m = r * x.length := ⟨_, rfl⟩
  have mb : m ≤ 150 := by rw [hm]; exact Nat.le_trans (Nat.mul_le_mul r2 xl) (by omega)
  have lY := P.lY
  have lS := P.lS
  have l1 := P.l1
  have lh := P.lh
  rw [← hm] at lY lS l1
  have sb : S.length ≤ 150 := by omega
  have yb : Y.length ≤ 150 := by omega
  have y1b : Y1.length ≤ 150 := by omega
  have hp : (x.length : Int) * (r : Int) = ((Y.length : Nat) : Int) := by rw [lY, hm, Int.natCast_mul, Int.mul_comm]
  have HL := Lib.hid l1
  clear l1
  clear lY lS
  have ONE : Hid (∀ i, i < Y1.length → Y1.getD i 0 = x.getD (i / r) 0) := fun i hi => P.one i (by rw [P.l1] at hi; exact hi)
  have DV : Hid (∀ i, i < Y1.length → i / r < x.length) := fun i hi => Nat.div_lt_of_lt_mul (by rw [P.l1] at hi; exact hi)
  have LE : Hid (Y1.length = Y.length) := by show _ = _; rw [P.l1, P.lY]
  have HS1 : Hid (∀ W, Rd W W.heap.size Ax x → Calls Try.prog 47 #[.agg #[.int .i64 o, .int .i64 r, .int .i64 k], .slice Ax x.length cx] W (RetLB W (Y, true))) := fun W h => by have := implSpreadComb_any o r k Ax cx x W h (by omega); rw [P.y] at this; exact this
  have HS2 : Hid (∀ W, Rd W W.heap.size Ax x → Calls Try.prog 47 #[.agg #[.int .i64 1, .int .i64 r, .int .i64 k], .slice Ax x.length cx] W (RetLB W (Y1, true))) := fun W h => by have := implSpreadComb_any 1 r k Ax cx x W h (by omega); rw [P.y1] at this; exact this
  have HSt : Hid (∀ W, Rd W W.heap.size Ax x → Calls Try.prog 48 #[.slice Ax x.length cx, .int .i64 r] W (RetLB W (S, true))) := fun W h => by have := implStuff_any Ax cx x r W h (by omega); rw [P.s] at this; exact this
  have HBo : Hid (∀ W, Calls Try.prog 26 #[.agg #[.int .i64 o, .int .i64 r, .int .i64 k]] W (RetLB W (H, true))) := fun W => by have := implBoxCoefs_any o r k W; rw [P.h] at this; exact this
  have HCv : Hid (∀ W A c B b, Rd W W.heap.size A S → Rd W W.heap.size B H → Calls Try.prog 27 #[.slice A S.length c, .slice B H.length b] W (RetY Y W)) := fun W A c B b h1 h2 => implConvolve_yes A c S B b H W h1 h2 P.sS (by omega) P.bh Y P.cv P.sY
  have HP := Lib.hid P
  clear P
  clear hm
  clear B0c0 B0c1 B0c2
  have B0c0 := B0.cell 0
  have B0c1 := B0.cell 1
  have B0c2 := B0.cell 2
  simp at B0c0 B0c1 B0c2
  go_wp2_with fail
  refine (HS1.out _ (own_rd Ox)).mono ?_
  rintro e w4 ⟨Ay, cy, rfl, Oy, h4⟩
  replace Ox := own_past Ox h4
  replace B0 := B0.past h4
  replace Hb := Lib.hid (thenB Hb.out h4)
  have t5 : w3.heap.size ≤ w4.heap.size := h4.size
  have Ly := own_lo Oy
  have Uy := own_hi Oy
  clear h4
  clear B0c0 B0c1 B0c2
  have B0c0 := B0.cell 0
  have B0c1 := B0.cell 1
  have B0c2 := B0.cell 2
  simp at B0c0 B0c1 B0c2
  go_wp2_with fail
  refine (HSt.out _ (own_rd Ox)).mono ?_
  rintro e w5 ⟨As, cs, rfl, Os, h5⟩
  replace Ox := own_past Ox h5
  replace Oy := own_past Oy h5
  replace B0 := B0.past h5
  replace Hb := Lib.hid (thenB Hb.out h5)
  have t6 : w4.heap.size ≤ w5.heap.size := h5.size
  have Ls := own_lo Os
  have Us := own_hi Os
  clear h5
  clear B0c0 B0c1 B0c2
  have B0c0 := B0.cell 0
  have B0c1 := B0.cell 1
  have B0c2 := B0.cell 2
  simp at B0c0 B0c1 B0c2
  go_wp2_with fail
  refine (HBo.out _).mono ?_
  rintro e w6 ⟨Ah, ch, rfl, Oh, h6⟩
  replace Ox := own_past Ox h6
  replace Oy := own_past Oy h6
  replace Os := own_past Os h6
  replace B0 := B0.past h6
  replace Hb := Lib.hid (thenB Hb.out h6)
  have t7 : w5.heap.size ≤ w6.heap.size := h6.size
  have Lh := own_lo Oh
  have Uh := own_hi Oh
  clear h6
  clear B0c0 B0c1 B0c2
  have B0c0 := B0.cell 0
  have B0c1 := B0.cell 1
  have B0c2 := B0.cell 2
  simp at B0c0 B0c1 B0c2
  go_wp2_with fail
  refine (HCv.out _ As cs Ah ch (own_rd Os) (own_rd Oh)).mono ?_
  rintro e w7 ⟨Az, cz, rfl, Oz, h7⟩
  replace Ox := own_past Ox h7
  replace Oy := own_past Oy h7
  replace Os := own_past Os h7
  replace Oh := own_past Oh h7
  replace B0 := B0.past h7
  replace Hb := Lib.hid (thenB Hb.out h7)
  have t8 : w6.heap.size ≤ w7.heap.size := h7.size
  have Lz := own_lo Oz
  have Uz := own_hi Oz
  clear h7
  have tq : (((Y.length : Nat) : Int) != ((Y.length : Nat) : Int)) = false := by simp
  have sq : IntKind.i64.wrap ((Y.length : Nat) : Int) = ((Y.length : Nat) : Int) := Go.IntWalk.i64_in _ (by omega)
  clear B0c0 B0c1 B0c2
  have B0c0 := B0.cell 0
  have B0c1 := B0.cell 1
  have B0c2 := B0.cell 2
  simp at B0c0 B0c1 B0c2
  go_wp2_with fail
  refine (ints_same Ay Az cy cz Y _ _ (own_rd Oy) (own_rd Oz) rfl (by omega)).mono ?_
  rintro e w8 ⟨rfl, h8⟩
  replace Ox := own_past Ox h8
  replace Oy := own_past Oy h8
  replace Os := own_past Os h8
  replace Oh := own_past Oh h8
  replace Oz := own_past Oz h8
  replace B0 := B0.past h8
  replace Hb := Lib.hid (thenB Hb.out h8)
  have t9 : w7.heap.size ≤ w8.heap.size := h8.size
  clear h8
  have f0 := B0.frozen 0
  clear B0c0 B0c1 B0c2
  have B0c0 := B0.cell 0
  have B0c1 := B0.cell 1
  have B0c2 := B0.cell 2
  simp at B0c0 B0c1 B0c2
  go_upto_region 12 with fail
  clear f0
  clear B0c0 B0c1 B0c2
  have T1 := turn_set (turn_refl w8 (w1.heap.size)) (p := ⟨w1.heap.size, 0, none⟩) rfl (.int .i64 1)
  have gb : w.heap.size ≤ w1.heap.size := by omega
  replace B0 : Blk (w8.setCell ⟨w1.heap.size, 0, none⟩ (.int .i64 1)) (w1.heap.size) 24 #[.int .i64 1, .int .i64 r, .int .i64 k] := B0.set_ 0 _
  replace Ox := own_grown Ox T1 (fun a e e' => by have h1 := Lx a e; have h2 := Option.some.inj e'; omega)
  replace Oy := own_grown Oy T1 (fun a e e' => by have h1 := Ly a e; have h2 := Option.some.inj e'; omega)
  replace Os := own_grown Os T1 (fun a e e' => by have h1 := Ls a e; have h2 := Option.some.inj e'; omega)
  replace Oh := own_grown Oh T1 (fun a e e' => by have h1 := Lh a e; have h2 := Option.some.inj e'; omega)
  replace Oz := own_grown Oz T1 (fun a e e' => by have h1 := Lz a e; have h2 := Option.some.inj e'; omega)
  replace Hb := Lib.hid (Hb.out.setCell (p := ⟨w1.heap.size, 0, none⟩) gb (.int .i64 1))
  have t10 : w8.heap.size ≤ (w8.setCell ⟨w1.heap.size, 0, none⟩ (.int .i64 1)).heap.size := T1.size
  obtain ⟨w9, hww9⟩ : ∃ W, W = (w8.setCell ⟨w1.heap.size, 0, none⟩ (.int .i64 1)) := ⟨_, rfl⟩
  rw [← hww9] at t10 Hb B0 Ox Oy Os Oh Oz ⊢
  clear gb hww9 T1
  have B0c0 := B0.cell 0
  have B0c1 := B0.cell 1
  have B0c2 := B0.cell 2
  simp at B0c0 B0c1 B0c2
  go_wp2_with fail
  refine (HS2.out _ (own_rd Ox)).mono ?_
  rintro e w10 ⟨Av, cv, rfl, Ov, h10⟩
  replace Ox := own_past Ox h10
  replace Oy := own_past Oy h10
  replace Os := own_past Os h10
  replace Oh := own_past Oh h10
  replace Oz := own_past Oz h10
  replace B0 := B0.past h10
  replace Hb := Lib.hid (thenB Hb.out h10)
  have t11 : w9.heap.size ≤ w10.heap.size := h10.size
  have Lv := own_lo Ov
  have Uv := own_hi Ov
  clear h10
  rw [LE.out]
  clear B0c0 B0c1 B0c2
  have B0c0 := B0.cell 0
  have B0c1 := B0.cell 1
  have B0c2 := B0.cell 2
  simp at B0c0 B0c1 B0c2
  have ry := Lib.hid (own_rd Ov)
  have rx := Lib.hid (own_rd Ox)
  go_wp2_with fail
  have e1 := B0.cell 1
  simp at e1
  clear B0c0 B0c1 B0c2
  clear HS1 HS2 HSt HBo HCv B0 Ox Lx Ux Oy Ly Uy Os Ls Us Oh Lh Uh Oz Lz Uz Ov Lv Uv
  have rnz : ¬ ((r : Int) = 0) := by omega
  go_loop [97] (fun i => ∃ j : Nat, j ≤ Y.length ∧ i = .int .i64 j) (fun i => Y.length - (intOf i).toNat)
  case atStart => exact ⟨0, by omega, rfl⟩
  case round =>
    obtain ⟨j, hj, rfl⟩ := hrel
    by_cases hlt : j < Y.length
    · have hl1 : j < Y1.length := by rw [LE.out]; exact hlt
      obtain ⟨a1, rfl, _, q1⟩ := ry.out.at_ hl1
      have hd := DV.out j hl1
      obtain ⟨a2, rfl, _, q2⟩ := rx.out.at_ hd
      have k1 := q1 j hl1
      have k2 := q2 _ hd
      rw [ONE.out j hl1] at k1
      have qe : (j : Int).tdiv (r : Int) = ((j / r : Nat) : Int) := by rw [Int.tdiv_eq_ediv_of_nonneg (by omega)]; exact (Int.natCast_ediv _ _).symm
      have qw := Go.IntWalk.i64_quo (j : Int) (r : Int) (by omega)
      obtain ⟨q, hq⟩ : ∃ q, q = j / r := ⟨_, rfl⟩
      rw [← hq] at k1 k2 hd qe
      have q3 : IntKind.i64.wrap (q : Int) = (q : Int) := Go.IntWalk.i64_in _ (by omega)
      obtain ⟨v, hv⟩ : ∃ v, v = x.getD q 0 := ⟨_, rfl⟩
      rw [← hv] at k1 k2
      have tv : (v != v) = false := by simp
      clear q1 q2 hv hq
      go_wp2
      go_round
      case rel => exact ⟨j + 1, by omega, by go_num⟩
      case measure => simp [intOf]; omega
    · obtain rfl : j = Y.length := by omega
      go_wp2
      go_ret
      exact ⟨rfl, Hb.out⟩
set_option maxRecDepth 100000 in
theorem lifted (os : Os) (started : os.Started) (H : Type) (enc : TypeId × Value → H) :
    ReturnsInHanded {} Try.checked os 11 .any (Rows.fnSpreadSpec.pre6 enc Try.prog Try.f11 Rows.fnSpreadRow.domain false) (Rows.fnSpreadSpec.post enc Try.prog Try.f11 false true false false) := by
  refine returnsInHanded_of_change (C := Try.checked) own started (by kernel_rfl) Try.func11
    (ChangeSpec.witness6 (enc := enc) (C := Try.checked) false ⟨#[], #[.slice none 0 0], []⟩ 8 (by kernel_rfl) (by kernel_rfl) (by kernel_rfl) (by kernel_rfl)) ?_
  intro W base args ds gs before hval0 hW hcnd _
  have hval : ∀ (j : Nat) t v, Try.f11.params[j]? = some t → args[j]? = some v → Value.okWide Try.prog W .any base t v := hval0
  have hW' := hW
  obtain ⟨p, q, hA0, hV, rfl, hfz, hnd⟩ := hW
  have hA : DataW.TrodAll enc Try.prog W 0 (fun _ => true) true Try.f11.params.toList args.toList ds p := hA0
  rw [Try.params11] at hA hval
  obtain ⟨v0, vs0, d0, ds0, p0, q0, hargs, rfl, rfl, h0, g0⟩ := trodAll_cons hA
  obtain ⟨rfl, rfl, rfl⟩ := trodAll_nil g0
  obtain rfl : args = #[v0] := by cases args; simp_all
  obtain ⟨rfl, rfl⟩ := trodVars_none hV
  have k0 := h0
  have lt0 : ∀ x ∈ p0, x.block < W.heap.size := by obtain ⟨m, hm⟩ := k0; exact DataW.trod_lt m _ _ _ hm
  obtain ⟨A0, z0, c0, rfl, l0, m0, r0⟩ := arg_bytes Try.underlying22 Try.underlying5 (by kernel_rfl) (hval 0 22 v0 rfl rfl) h0
  clear hA0 hval0
  refine (walkw W A0 z0 c0 l0 m0 r0).mono fun e W' ⟨he, bel⟩ => ?_
  subst he
  exact ⟨_, rfl, _, _, _, [], _, [], hW', trodAll_mk1 (shut_bool Try.underlying4 _), (trodAll_cons_mk (Below.trod laidOut (by kernel_rfl) (of_decide_eq_true (by kernel_rfl)) k0 bel lt0) trodAll_mk0), rfl, bel.frame _, fun h => by cases h⟩
theorem over : Rows.fnSpreadRow.holds Try.pinned (OpenSpec.ofChange Rows.fnSpreadSpec) :=
  OpenClaim.holds_of_wide 11 Try.f11 rfl rfl rfl rfl rfl rfl rfl ⟨rfl, rfl, rfl, rfl, rfl⟩ rfl rfl rfl rfl rfl (by kernel_rfl) Try.func11 (by kernel_rfl)
    (of_decide_eq_true (by kernel_rfl)) (by unfold Func.isWrapper; first | (rw [if_pos (by decide +kernel)]; kernel_rfl) | (rw [if_neg (by decide +kernel)]; exact ⟨rfl, rfl⟩))
    (fun os started H enc _ => lifted os started H enc)
theorem proved : Rows.FnSpreadSaid := over

end Go.Proofs.Ytfplecbacgcjgaa.spreadLaw
