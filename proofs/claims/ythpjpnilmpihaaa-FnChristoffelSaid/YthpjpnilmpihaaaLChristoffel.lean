/- A Christoffel word begins with 0, ends with 1, is a palindrome between them, and is two shorter ones, one behind the other, whose fractions are neighbours. No condition. -/
import Derived.Test.YthpjpnilmpihaaaLawAcc
import Derived.Test.YthpjpnilmpihaaaFacs
import Derived.Test.YthpjpnilmpihaaaSlope
namespace Go.Proofs.Ythpjpnilmpihaaa.christoffel
open Go.ChangeShapes Go.WideShapes Go.ChangeAt Go.RowKit
set_option linter.unusedVariables false
set_option linter.unusedSimpArgs false
theorem slope_chr {p q : Nat} (h : chrOk p q = true) : slope (christ p q) = (((p : Int), (q : Int)), true) := by
  obtain ⟨h1, h2, h3, hg⟩ := chrOk_parts h
  have e := christ_slope h h1
  rw [slope_yes (christ_word h1 h2 h3) (by rw [christ_length]; omega)]
  unfold slopeG
  rw [e, christ_sum p q h1, christ_length, Nat.div_one, Nat.div_one]; rfl
theorem slope_any (A : Option Addr) (c : Nat) (p q : Nat) (w : World) (hr : Rd w w.heap.size A (christ p q)) (h : chrOk p q = true) :
    Calls Try.prog 25 #[.slice A q c] w fun e w' => e = .returned (.tuple #[.int .i64 p, .int .i64 q, .bool true]) ∧ Below w.heap.size w w' := by
  have hc := implSlopeOf_any A c (christ p q) w hr (by rw [christ_length]; have := (chrOk_parts h).2.1; omega)
  rw [slope_chr h, christ_length] at hc
  exact hc
set_option maxRecDepth 100000 in
set_option maxHeartbeats 4000000 in
theorem walkw (w : World) (A0 : Option Addr) (n0 c0 : Nat) (l0 : n0 ≤ c0) (m0 : c0 ≤ maxLen) (r0 : RdB w w.heap.size A0 n0) :
    Calls Try.prog 7 #[.slice A0 n0 c0] w fun e w' => e = .returned (.bool true) ∧ Below w.heap.size w w' := by
  unfold maxLen at m0
  by_cases hn : n0 ≤ 1048576
  case neg =>
    have hx : 1048576 < n0 := by omega
    clear hn
    go_enter Try.func7, Try.ntmps7
    go_wp2
    go_ret
    exact ⟨rfl, Below.refl _ _⟩
  have Hb : Hid (Below w.heap.size w w) := Below.refl _ _
  go_enter Try.func7, Try.ntmps7
  go_wp2_with fail
  refine (at_any _ _ _ _ _ (r0.past Hb.out) (by omega) (by omega) (by omega)).mono ?_
  rintro e w1 ⟨⟨va, rfl, va1, va2⟩, rfl⟩
  go_wp2_with fail
  obtain ⟨q, hnq⟩ : ∃ q : Nat, 2 + va % 80 = q := ⟨(2 + va % 80).toNat, by omega⟩
  rw [hnq]
  have lq : 2 ≤ (q : Int) := by omega
  have uq : (q : Int) ≤ 81 := by omega
  clear hnq
  obtain ⟨r, hr⟩ : ∃ r : Nat, (q : Int) - 1 = r := ⟨q - 1, by omega⟩
  have r1 : 1 ≤ (r : Int) := by omega
  have r2 : r + 1 = q := by omega
  go_wp2_with fail
  refine (at_any _ _ _ _ _ (r0.past Hb.out) (by omega) (by omega) (by omega)).mono ?_
  rintro e w1 ⟨⟨vb, rfl, vb1, vb2⟩, rfl⟩
  have hzp : (r : Int) ≠ 0 := by omega
  have ep : vb.tmod (r : Int) = vb % (r : Int) := Int.tmod_eq_emod_of_nonneg (by omega)
  have lp : 0 ≤ vb % (r : Int) := Int.emod_nonneg _ hzp
  have up : vb % (r : Int) < (r : Int) := Int.emod_lt_of_pos _ (by omega)
  have wp : IntKind.i64.wrap (vb % (r : Int)) = vb % (r : Int) := Go.IntWalk.i64_in _ (by omega)
  go_wp2_with fail
  obtain ⟨p, hp⟩ : ∃ p : Nat, 1 + vb % (r : Int) = p := ⟨(1 + vb % (r : Int)).toNat, by omega⟩
  rw [hp]
  have p1 : 1 ≤ p := by omega
  have p2 : p < q := by omega
  clear wp ep hp lp up hzp
  rcases Bool.eq_false_or_eq_true (chrOk p q) with hs | hs
  case inr =>
    have hcall := fun W => implChrist_any p q W
    have hcall2 := fun W => specChrist_any p q W
    rw [chr_no hs] at hcall hcall2
    have Hc := Lib.hid hcall
    have Hc2 := Lib.hid hcall2
    clear hcall hcall2 hs
    refine (Hc.out _).mono ?_
    rintro e wa ⟨A1, c1, rfl, O1, h1⟩
    go_wp2_with fail
    refine (Hc2.out _).mono ?_
    rintro e wb ⟨A2, c2, rfl, O2, h2⟩
    have t0 : (false != false) = false := rfl
    go_wp2_with fail
    go_ret
    exact ⟨rfl, Hb.out.trans ((h1.trans (h2.mono h1.size)).mono Hb.out.size)⟩
  have hq1 : q ≠ 1 := by omega
  have hsl := slope_chr hs
  obtain ⟨a, b, c, d, hf, b1, d1, hbd, hac, hab, hcd, hN, hsa, hsc⟩ := fac_all hs hq1
  have hcall := fun W => implChrist_any p q W
  have hcall2 := fun W => specChrist_any p q W
  rw [chr_yes hs] at hcall hcall2
  have Hc := Lib.hid hcall
  clear hcall
  have Hc2 := Lib.hid hcall2
  clear hcall2
  have hfc := fun W => implFactors_any p q W
  rw [hf] at hfc
  have Hf := Lib.hid hfc
  clear hfc
  clear hf
  have hg := (chrOk_parts hs).2.2.2
  have Hg := Lib.hid hg
  clear hg
  have Hsl := Lib.hid hsl
  clear hsl
  have happ : christ a b ++ christ c d = christ p q := by rw [← christ_app b1 d1 hN, hac, hbd]
  have Happ := Lib.hid happ
  clear happ
  have HN := Lib.hid hN
  clear hN
  have Hsa := Lib.hid hsa
  clear hsa
  have Hsc := Lib.hid hsc
  clear hsc
  have Hs := Lib.hid hs
  clear hs
  have k0 := christ_first p2
  have ce := christ_last Hg.out p2 (by omega)
  rw [show q - 1 = r by omega] at ce
  have Hac := Lib.hid hac
  clear hac
  go_wp2_with fail
  refine (Hc.out _).mono ?_
  rintro e w1 ⟨Aw, cw, rfl, Ow, h1⟩
  replace Hb := Lib.hid (thenB Hb.out h1)
  have t1 : w.heap.size ≤ w1.heap.size := h1.size
  have Lw := own_lo Ow
  have Uw := own_hi Ow
  clear h1
  rw [show (christ p q, true).1.length = q from christ_length p q]
  go_wp2_with fail
  refine (Hc2.out _).mono ?_
  rintro e w2 ⟨Az, cz, rfl, Oz, h2⟩
  replace Ow := own_past Ow h2
  replace Hb := Lib.hid (thenB Hb.out h2)
  have t2 : w1.heap.size ≤ w2.heap.size := h2.size
  have Lz := own_lo Oz
  have Uz := own_hi Oz
  clear h2
  rw [show (christ p q, true).1.length = q from christ_length p q]
  clear Oz Lz Uz
  go_wp2_with fail
  refine (Hf.out _).mono ?_
  rintro e w3 ⟨Aa, ca, Ab, cb, rfl, Oa, Ob, -, h3⟩
  replace Ow := own_past Ow h3
  replace Hb := Lib.hid (thenB Hb.out h3)
  have t3 : w2.heap.size ≤ w3.heap.size := h3.size
  have La := own_lo Oa
  have Ua := own_hi Oa
  have Lb := own_lo Ob
  have Ub := own_hi Ob
  clear h3
  rw [show (LL.mk (christ a b) (christ c d) true).c.length = b from christ_length a b, show (LL.mk (christ a b) (christ c d) true).n.length = d from christ_length c d]
  clear Hc Hc2 Hf
  have hcall := fun W h h2 => two_any Aa ca (christ a b) Ab cb (christ c d) W h (by rw [christ_length]; omega) h2 (by rw [christ_length]; omega)
  rw [Happ.out, christ_length, christ_length] at hcall
  have Hc := Lib.hid hcall
  clear hcall
  have tq : ((q : Int) != (q : Int)) = false := by simp
  have hql : 0 < (christ p q).length := by rw [christ_length]; omega
  have hrl : r < (christ p q).length := by rw [christ_length]; omega
  obtain ⟨ad, rfl, _, _⟩ := (own_rd Ow).at_ hql
  go_wp2_with fail
  refine (Hc.out _ (own_rd Oa) (own_rd Ob)).mono ?_
  rintro e w4 ⟨Ay, cy, rfl, Oy, h4⟩
  replace Ow := own_past Ow h4
  replace Oa := own_past Oa h4
  replace Ob := own_past Ob h4
  replace Hb := Lib.hid (thenB Hb.out h4)
  have t4 : w3.heap.size ≤ w4.heap.size := h4.size
  have Ly := own_lo Oy
  have Uy := own_hi Oy
  clear h4
  clear Hc
  rw [christ_length]
  go_wp2_with fail
  refine (ints_same _ _ _ _ (christ p q) q _ (own_rd Oy) (own_rd Ow) (christ_length _ _) (by omega)).mono ?_
  rintro e w5 ⟨rfl, h5⟩
  replace Ow := own_past Ow h5
  replace Oa := own_past Oa h5
  replace Ob := own_past Ob h5
  replace Oy := own_past Oy h5
  replace Hb := Lib.hid (thenB Hb.out h5)
  have t5 : w4.heap.size ≤ w5.heap.size := h5.size
  clear h5
  clear Oy Ly Uy
  have HR := Lib.hid (own_rd Ow)
  obtain ⟨ad2, ha2, _, q⟩ := HR.out.at_ hql
  obtain rfl := Option.some.inj ha2
  have j0 := q 0 hql
  have j1 := q r hrl
  rw [k0] at j0
  rw [ce] at j1
  have j0' : w5.cell? ad = some (.int .i64 0) := j0
  clear q
  go_wp2_with fail
  clear j0 j0' j1
  go_loopw [12] (fun i wr => ∃ j : Nat, 1 ≤ j ∧ j ≤ r ∧ i = .int .i64 j ∧ Hid (Below w5.heap.size w5 wr)) (fun i _ => r - (intOf i).toNat)
  case atStart => exact ⟨1, by omega, by omega, rfl, Below.refl _ _⟩
  case round =>
    obtain ⟨j, hj1, hj, rfl, HW⟩ := hrel
    by_cases hlt : j < r
    · obtain ⟨e, he⟩ : ∃ e : Nat, (r : Int) - j = e := ⟨r - j, by omega⟩
      have hjl : j < (christ p q).length := by rw [christ_length]; omega
      have hel : e < (christ p q).length := by rw [christ_length]; omega
      obtain ⟨ad2, ha2, _, qq⟩ := (HR.out.past HW.out).at_ hql
      obtain rfl := Option.some.inj ha2
      have j0 := qq j hjl
      have j1 := qq e hel
      have hpal := christ_pal (p := p) (q := q) Hg.out (i := j) (by omega) (by omega)
      rw [show q - 1 - j = e by omega] at hpal
      rw [hpal] at j1
      obtain ⟨v, hv⟩ : ∃ v, v = (christ p q).getD j 0 := ⟨_, rfl⟩
      rw [← hv] at j0 j1
      have tv : (v != v) = false := by simp
      have he2 : e ≤ 100 := by omega
      have bl1 : (j : Int) < (q : Int) := by omega
      have bl2 : (e : Int) < (q : Int) := by omega
      clear qq hv hpal hjl hel k0 ce
      go_wp2
      go_quiet (fail)
      go_wp2
      go_roundw
      case rel => exact ⟨j + 1, by omega, by omega, by go_num, below_drewN' HW.out _⟩
      case measure => simp [intOf]; omega
    · clear k0 ce
      replace Ow := own_past Ow HW.out
      replace Oa := own_past Oa HW.out
      replace Ob := own_past Ob HW.out
      replace Hb := Lib.hid (thenB Hb.out HW.out)
      have t6 : w5.heap.size ≤ wr.heap.size := HW.out.size
      clear HR
      have hcall := fun W h => sumOf_yes Aa ca b (christ a b) W h (christ_length _ _) (wordOk_seqOk (christ_word b1 (by omega) hab))
      rw [christ_sum a b (by omega)] at hcall
      have SA := Lib.hid hcall
      clear hcall
      have hcall := fun W h => sumOf_yes Ab cb d (christ c d) W h (christ_length _ _) (wordOk_seqOk (christ_word d1 (by omega) hcd))
      rw [christ_sum c d (by omega)] at hcall
      have SB := Lib.hid hcall
      clear hcall
      go_wp2_with fail
      refine (SA.out _ (own_rd Oa)).mono ?_
      rintro e w6 ⟨rfl, rfl⟩
      have hcall := fun W => implChrist_any a b W
      rw [chr_yes Hsa.out] at hcall
      have Hc := Lib.hid hcall
      clear hcall
      go_wp2_with fail
      refine (Hc.out _).mono ?_
      rintro e w6 ⟨Ax, cx, rfl, Ox, h6⟩
      replace Ow := own_past Ow h6
      replace Oa := own_past Oa h6
      replace Ob := own_past Ob h6
      replace Hb := Lib.hid (thenB Hb.out h6)
      have t7 : wr.heap.size ≤ w6.heap.size := h6.size
      have Lx := own_lo Ox
      have Ux := own_hi Ox
      clear h6
      clear Hc
      rw [show (christ a b, true).1.length = b from christ_length a b]
      go_wp2_with fail
      refine (SB.out _ (own_rd Ob)).mono ?_
      rintro e w7 ⟨rfl, rfl⟩
      have hcall := fun W => implChrist_any c d W
      rw [chr_yes Hsc.out] at hcall
      have Hc := Lib.hid hcall
      clear hcall
      go_wp2_with fail
      refine (Hc.out _).mono ?_
      rintro e w7 ⟨Ay, cy, rfl, Oy, h7⟩
      replace Ow := own_past Ow h7
      replace Oa := own_past Oa h7
      replace Ob := own_past Ob h7
      replace Ox := own_past Ox h7
      replace Hb := Lib.hid (thenB Hb.out h7)
      have t8 : w6.heap.size ≤ w7.heap.size := h7.size
      have Ly := own_lo Oy
      have Uy := own_hi Oy
      clear h7
      clear Hc
      rw [show (christ c d, true).1.length = d from christ_length c d]
      have hcall := fun W h => slope_any (some ad) cw p q W h Hs.out
      have Hc := Lib.hid hcall
      clear hcall
      go_wp2_with fail
      refine (Hc.out _ (own_rd Ow)).mono ?_
      rintro e w8 ⟨rfl, h8⟩
      replace Ow := own_past Ow h8
      replace Oa := own_past Oa h8
      replace Ob := own_past Ob h8
      replace Ox := own_past Ox h8
      replace Oy := own_past Oy h8
      replace Hb := Lib.hid (thenB Hb.out h8)
      have t9 : w7.heap.size ≤ w8.heap.size := h8.size
      clear h8
      clear Hc
      go_wp2_with fail
      refine (ints_same _ _ _ _ (christ a b) b _ (own_rd Ox) (own_rd Oa) (christ_length _ _) (by omega)).mono ?_
      rintro e w9 ⟨rfl, h9⟩
      replace Ow := own_past Ow h9
      replace Oa := own_past Oa h9
      replace Ob := own_past Ob h9
      replace Ox := own_past Ox h9
      replace Oy := own_past Oy h9
      replace Hb := Lib.hid (thenB Hb.out h9)
      have t10 : w8.heap.size ≤ w9.heap.size := h9.size
      clear h9
      go_wp2_with fail
      refine (ints_same _ _ _ _ (christ c d) d _ (own_rd Oy) (own_rd Ob) (christ_length _ _) (by omega)).mono ?_
      rintro e w10 ⟨rfl, h10⟩
      replace Ow := own_past Ow h10
      replace Oa := own_past Oa h10
      replace Ob := own_past Ob h10
      replace Ox := own_past Ox h10
      replace Oy := own_past Oy h10
      replace Hb := Lib.hid (thenB Hb.out h10)
      have t11 : w9.heap.size ≤ w10.heap.size := h10.size
      clear h10
      go_wp2_with fail
      refine (SB.out _ (own_rd Ob)).mono ?_
      rintro e w11 ⟨rfl, rfl⟩
      go_wp2_with fail
      refine (SA.out _ (own_rd Oa)).mono ?_
      rintro e w11 ⟨rfl, rfl⟩
      have m1 : (c : Int) * b = ((c * b : Nat) : Int) := by rw [Int.natCast_mul]
      have m2 : (a : Int) * d = ((a * d : Nat) : Int) := by rw [Int.natCast_mul]
      have l1 : c * b ≤ 100 * 100 := Nat.mul_le_mul (by omega) (by omega)
      have l2 : a * d ≤ 100 * 100 := Nat.mul_le_mul (by omega) (by omega)
      have hn := HN.out
      rw [m1, m2] at hn
      obtain ⟨M, hM⟩ : ∃ M, M = c * b := ⟨_, rfl⟩
      obtain ⟨N, hN2⟩ : ∃ N, N = a * d := ⟨_, rfl⟩
      rw [← hM] at hn m1 l1
      rw [← hN2] at hn m2 l2
      have w1q : IntKind.i64.wrap (M : Int) = M := Go.IntWalk.i64_in _ (by omega)
      have w2q : IntKind.i64.wrap (N : Int) = N := Go.IntWalk.i64_in _ (by omega)
      have w3q : IntKind.i64.wrap ((M : Int) - N) = (M : Int) - N := Go.IntWalk.i64_in _ (by omega)
      have t1q : ((M : Int) - N == 1) = true := by simp; omega
      have t2q : ((p : Int) == p) = true := by simp
      have t3q : ((q : Int) == q) = true := by simp
      clear hM hN2
      have w1z : wrap64 (M : Int) = M := by exact (Go.IntWalk.i64_left _).symm.trans w1q
      have w3z : wrap64 ((M : Int) - N) = (M : Int) - N := by exact (Go.IntWalk.i64_left _).symm.trans w3q
      go_wp2_with fail
      all_goals first | (exfalso; rename_i hw; rw [w1z, w3z] at hw; exact hw hn) | (go_ret; exact ⟨rfl, Hb.out⟩)
set_option maxRecDepth 100000 in
theorem lifted (os : Os) (started : os.Started) (H : Type) (enc : TypeId × Value → H) :
    ReturnsInHanded {} Try.checked os 7 .any (Rows.fnChristoffelSpec.pre6 enc Try.prog Try.f7 Rows.fnChristoffelRow.domain false) (Rows.fnChristoffelSpec.post enc Try.prog Try.f7 false true false false) := by
  refine returnsInHanded_of_change (C := Try.checked) own started (by kernel_rfl) Try.func7
    (ChangeSpec.witness6 (enc := enc) (C := Try.checked) false ⟨#[], #[.slice none 0 0], []⟩ 8 (by kernel_rfl) (by kernel_rfl) (by kernel_rfl) (by kernel_rfl)) ?_
  intro W base args ds gs before hval0 hW hcnd _
  have hval : ∀ (j : Nat) t v, Try.f7.params[j]? = some t → args[j]? = some v → Value.okWide Try.prog W .any base t v := hval0
  have hW' := hW
  obtain ⟨p, q, hA0, hV, rfl, hfz, hnd⟩ := hW
  have hA : DataW.TrodAll enc Try.prog W 0 (fun _ => true) true Try.f7.params.toList args.toList ds p := hA0
  rw [Try.params7] at hA hval
  obtain ⟨v0, vs0, d0, ds0, p0, q0, hargs, rfl, rfl, h0, g0⟩ := trodAll_cons hA
  obtain ⟨rfl, rfl, rfl⟩ := trodAll_nil g0
  obtain rfl : args = #[v0] := by cases args; simp_all
  obtain ⟨rfl, rfl⟩ := trodVars_none hV
  have k0 := h0
  have lt0 : ∀ x ∈ p0, x.block < W.heap.size := by obtain ⟨m, hm⟩ := k0; exact DataW.trod_lt m _ _ _ hm
  obtain ⟨A0, z0, c0, rfl, l0, m0, r0⟩ := arg_bytes Try.underlying22 Try.underlying5 (by kernel_rfl) (hval 0 22 v0 rfl rfl) h0
  clear hA0 hval0
  refine (walkw W A0 z0 c0 l0 m0 r0).mono fun e W' ⟨he, bel⟩ => ?_
  subst he
  exact ⟨_, rfl, _, _, _, [], _, [], hW', trodAll_mk1 (shut_bool Try.underlying4 _), (trodAll_cons_mk (Below.trod laidOut (by kernel_rfl) (of_decide_eq_true (by kernel_rfl)) k0 bel lt0) trodAll_mk0), rfl, bel.frame _, fun h => by cases h⟩
theorem over : Rows.fnChristoffelRow.holds Try.pinned (OpenSpec.ofChange Rows.fnChristoffelSpec) :=
  OpenClaim.holds_of_wide 7 Try.f7 rfl rfl rfl rfl rfl rfl rfl ⟨rfl, rfl, rfl, rfl, rfl⟩ rfl rfl rfl rfl rfl (by kernel_rfl) Try.func7 (by kernel_rfl)
    (of_decide_eq_true (by kernel_rfl)) (by unfold Func.isWrapper; first | (rw [if_pos (by decide +kernel)]; kernel_rfl) | (rw [if_neg (by decide +kernel)]; exact ⟨rfl, rfl⟩))
    (fun os started H enc _ => lifted os started H enc)
theorem proved : Rows.FnChristoffelSaid := over

end Go.Proofs.Ythpjpnilmpihaaa.christoffel
