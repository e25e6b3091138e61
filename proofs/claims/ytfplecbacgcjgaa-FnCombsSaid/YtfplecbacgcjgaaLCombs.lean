/- A comb that is wide enough gives the exact sums, although its own sums are wrapped: those of boxes, and those of the convolution with the coefficients of the box. No condition. -/
import Derived.Test.YtfplecbacgcjgaaPSpr
import Derived.Test.YtfplecbacgcjgaaGenC
import Derived.Test.YtfplecbacgcjgaaGrow
import Derived.Test.YtfplecbacgcjgaaExact
import Derived.Test.YtfplecbacgcjgaaArgB
namespace Go.Proofs.Ytfplecbacgcjgaa.combsLaw
open Go.ChangeShapes Go.WideShapes Go.ChangeAt Go.RowKit
set_option linter.unusedVariables false
set_option linter.unusedSimpArgs false
theorem ints_same (A A' : Option Addr) (c c' : Nat) (xs : List Int) (n : Nat) (w : World) (hx : Rd w w.heap.size A xs) (hy : Rd w w.heap.size A' xs) (hl : xs.length = n) (hn : n ≤ 1048576) :
    Calls Try.prog 29 #[.slice A n c, .slice A' n c'] w fun e w' => e = .returned (.bool true) ∧ Below w.heap.size w w' := by
  subst hl
  have h := ints_any A A' c c' xs xs w hx hy (by omega)
  rwa [eqB_self] at h
set_option maxRecDepth 100000 in
set_option maxHeartbeats 1000000 in
theorem walkw (w : World) (A0 : Option Addr) (n0 c0 : Nat) (l0 : n0 ≤ c0) (m0 : c0 ≤ maxLen) (r0 : RdB w w.heap.size A0 n0) :
    Calls Try.prog 5 #[.slice A0 n0 c0] w fun e w' => e = .returned (.bool true) ∧ Below w.heap.size w w' := by
  unfold maxLen at m0
  by_cases hn : n0 ≤ 1048576
  case neg =>
    have hx : 1048576 < n0 := by omega
    clear hn
    go_enter Try.func5, Try.ntmps5
    go_wp2
    go_ret
    exact ⟨rfl, Below.refl _ _⟩
  have Hb : Hid (Below w.heap.size w w) := Below.refl _ _
  go_enter Try.func5, Try.ntmps5
  go_wp2_with fail
  refine (MakeComb_any _ _ _ _ (r0.past Hb.out) (by omega)).mono ?_
  rintro e w1 ⟨o, r, k, rfl, o1, o2, r1, r2, k1, k2, h1⟩
  replace Hb := Lib.hid (thenB Hb.out h1)
  have t1 : w.heap.size ≤ w1.heap.size := h1.size
  clear h1
  have bx : Below w1.heap.size w1 (w1.alloc (.cells #[.int .i64 o, .int .i64 r, .int .i64 k] 24)) := (Below.refl _ _).alloc (Nat.le_refl _) _
  have B0 := Blk.new w1 24 #[.int .i64 o, .int .i64 r, .int .i64 k]
  have VB0 : w1.heap.size < (w1.alloc (.cells #[.int .i64 o, .int .i64 r, .int .i64 k] 24)).heap.size := by simp
  replace Hb := Lib.hid (thenB Hb.out bx)
  clear bx
  have B0c0 := B0.cell 0
  have B0c1 := B0.cell 1
  have B0c2 := B0.cell 2
  simp at B0c0 B0c1 B0c2
  go_wp2_with fail
  refine (fresh_any _ _ _ _ _ (r0.past Hb.out) (by omega) (by omega) (by omega)).mono ?_
  rintro e w2 ⟨Af, cf, nf, rfl, hnf, Rf, h2⟩
  replace B0 := B0.past h2
  replace Hb := Lib.hid (thenB Hb.out h2)
  have t3 : (w1.alloc (.cells #[.int .i64 o, .int .i64 r, .int .i64 k] 24)).heap.size ≤ w2.heap.size := h2.size
  clear h2
  clear B0c0 B0c1 B0c2
  have B0c0 := B0.cell 0
  have B0c1 := B0.cell 1
  have B0c2 := B0.cell 2
  simp at B0c0 B0c1 B0c2
  go_wp2_with fail
  refine (at_any _ _ _ _ _ (r0.past Hb.out) (by omega) (by omega) (by omega)).mono ?_
  rintro e w3 ⟨⟨av, rfl, av1, av2⟩, rfl⟩
  clear B0c0 B0c1 B0c2
  have B0c0 := B0.cell 0
  have B0c1 := B0.cell 1
  have B0c2 := B0.cell 2
  simp at B0c0 B0c1 B0c2
  go_wp2_with fail
  refine (MakeSequence_any _ _ _ 80 _ _ Rf (by omega) (by omega) (by omega) (by omega) (by omega)).mono ?_
  rintro e w3 ⟨Ax, cx, x, rfl, Hx, Ox, h3⟩
  replace B0 := B0.past h3
  replace Hb := Lib.hid (thenB Hb.out h3)
  replace Rf := Rf.past h3
  have t4 : w2.heap.size ≤ w3.heap.size := h3.size
  have Lx := own_lo Ox
  have Ux := own_hi Ox
  clear h3
  clear Rf
  have hxs : ∀ v ∈ x, -256 ≤ v ∧ v ≤ 256 := fun v hv => by have := Hx.2 v hv; omega
  have xl : x.length ≤ 80 := by have := Hx.1; omega
  clear Hx av1 av2
  have HX := Lib.hid hxs
  clear hxs
  have xs1 : seqOk x = true := seqOk_of (fun v hv => by have := HX.out v hv; omega) (by omega)
  have HXs := Lib.hid xs1
  clear xs1
  have rx := Lib.hid (own_rd Ox)
  go_wp2_with fail
  go_loop [5, 34] (fun m i => ∃ (j : Nat) (M : Int), j ≤ x.length ∧ i = .int .i64 j ∧ m = .int .i64 M ∧ 0 ≤ M ∧ M ≤ 256 ∧ Hid (∀ t (h : t < x.length), t < j → -M ≤ x[t] ∧ x[t] ≤ M)) (fun _ i => x.length - (intOf i).toNat)
  case atStart => exact ⟨0, 0, by omega, rfl, rfl, by omega, by omega, fun t h h2 => absurd h2 (by omega)⟩
  case round =>
    obtain ⟨j, M, hj, rfl, rfl, M0, M1, HM⟩ := hrel
    by_cases hlt : j < x.length
    · obtain ⟨a1, rfl, _, q1⟩ := rx.out.at_ hlt
      have k1 := q1 j hlt
      rw [getD_at hlt] at k1
      have b1 := HX.out _ (List.getElem_mem hlt)
      have HN : Hid (∀ t (h : t < x.length), t < j + 1 → -(max M (max x[j] (-x[j]))) ≤ x[t] ∧ x[t] ≤ max M (max x[j] (-x[j]))) := fun t h h2 => by
        by_cases ht : t = j
        · subst ht; omega
        · have := HM.out t h (by omega); omega
      obtain ⟨v, hv⟩ : ∃ v, v = x[j] := ⟨_, rfl⟩
      rw [← hv] at k1 b1 HN
      clear q1 hv HM
      go_wp2_with (go_at_call 24; refine (abs_any _ _ (by omega) (by omega)).mono ?_; rintro e w' ⟨rfl, rfl⟩)
      go_round
      case rel => exact ⟨j + 1, max M (max v (-v)), by omega, by go_num, congrArg (Value.int .i64) (by split <;> omega), by omega, by omega, HN⟩
      case measure => simp [intOf]; omega
    · obtain rfl : j = x.length := by omega
      have hxm : ∀ v ∈ x, -M ≤ v ∧ v ≤ M := fun v hv => by obtain ⟨t, ht, rfl⟩ := List.mem_iff_getElem.1 hv; exact HM.out t ht ht
      clear HM hlt hj
      have hpb : (r : Int) ^ o ≤ 1296 := by have h6 := pow6 r2 o2; have e : (r : Int) ^ o = ((r ^ o : Nat) : Int) := (by simp); omega
      have hp0 := pow_ge_one (r : Int) (by omega) o
      have hmp := mul255 M0 M1 (show 0 ≤ (r : Int) ^ o by omega) hpb
      have hgr := fun W => implGrowth_yes o r k M o1 (by omega) (by omega) (by omega) (by omega) (by omega) (by omega) (by omega) W
      obtain ⟨wd, e1, w2, w62, x1, _⟩ := growFrom_least (M * (r : Int) ^ o) 61 2 (by rw [show 2 + 61 - 2 = 61 by omega, show (2 : Int) ^ 61 = 2305843009213693952 by decide]; omega) (by omega) (by omega)
      rw [e1] at hgr
      have HGr := Lib.hid hgr
      clear hgr
      clear e1
      have wdb : wd ≤ 62 := by omega
      obtain ⟨Z, T, R, H, f1, f2, f3, f4, f5, f6, f7, f8, f9, f10, f11, f12⟩ := combs_all (k := wd) M0 M1 hxm (by omega) r1 r2 o1 o2 w2 wdb x1
      clear hxm hpb hp0 hmp x1
      have hok := comb_ok o1 o2 r1 r2 w2 wdb
      have HNi := Lib.hid (implNew0 hok o2)
      have HRx := Lib.hid (implRun0 f1 (by omega) (show x.length ≤ 1000 by omega))
      have HE : Hid (∀ W, Rd W W.heap.size Ax x → Calls Try.prog 25 #[.agg #[.int .i64 o, .int .i64 r, .int .i64 wd], .slice Ax x.length cx] W (RetLB W (Z, true))) := fun W h => by have := implExactComb_any o r wd Ax cx x W h (by omega); rw [f2] at this; exact this
      have HBo : Hid (∀ W, Calls Try.prog 26 #[.agg #[.int .i64 o, .int .i64 r, .int .i64 wd]] W (RetLB W (H, true))) := fun W => by have := implBoxCoefs_any o r wd W; rw [f3] at this; exact this
      have HCv : Hid (∀ W A c B b, Rd W W.heap.size A x → Rd W W.heap.size B H → Calls Try.prog 27 #[.slice A x.length c, .slice B H.length b] W (RetY R W)) := fun W A c B b h1 h2 => implConvolve_yes A c x B b H W h1 h2 HXs.out (by omega) f5 R f6 f7
      have HDe : Hid (∀ W A c, Rd W W.heap.size A R → Calls Try.prog 28 #[.slice A R.length c, .int .i64 r, .int .i64 ((r : Int) - 1)] W (RetLB W (Z, true))) := fun W A c h => by have := implDecimate_any A c R r ((r : Int) - 1) W h (by omega); rw [f9] at this; exact this
      obtain ⟨q, hq⟩ : ∃ q, q = x.length / r := ⟨_, rfl⟩
      rw [← hq] at f10
      have qe : (x.length : Int).tdiv (r : Int) = (Z.length : Int) := by rw [Int.tdiv_eq_ediv_of_nonneg (by omega), f10, hq]; exact (Int.natCast_ediv _ _).symm
      have qb : Z.length ≤ 80 := by rw [f10, hq]; exact Nat.le_trans (Nat.div_le_self _ _) xl
      have q1 := Go.IntWalk.i64_quo (x.length : Int) (r : Int) (by omega)
      have q2 : IntKind.i64.wrap (Z.length : Int) = (Z.length : Int) := Go.IntWalk.i64_in _ (by omega)
      have tq : (((Z.length : Nat) : Int) == ((Z.length : Nat) : Int)) = true := by simp
      have rnz : ¬ ((r : Int) = 0) := by omega
      have rm : IntKind.i64.wrap ((r : Int) - 1) = (r : Int) - 1 := Go.IntWalk.i64_in _ (by omega)
      have Rb : R.length ≤ 80 := by omega
      obtain ⟨s1, d1, p1⟩ := T
      dsimp only at f11 f12
      have s1b : s1.length ≤ 6 := by omega
      have d1b : d1.length ≤ 6 := by omega
      clear f1 f2 f3 f5 f6 f7 f8 f9 f10 f11 f12 hq
      have Hok := Lib.hid hok
      clear hok
      have Hf4 := Lib.hid f4
      clear f4
      clear B0c0 B0c1 B0c2
      have B0c0 := B0.cell 0
      have B0c1 := B0.cell 1
      have B0c2 := B0.cell 2
      simp at B0c0 B0c1 B0c2
      go_wp2_with fail
      refine (HGr.out _).mono ?_
      rintro e w4 ⟨rfl, h4⟩
      replace Ox := own_past Ox h4
      replace B0 := B0.past h4
      replace Hb := Lib.hid (thenB Hb.out h4)
      have t5 : w3.heap.size ≤ w4.heap.size := h4.size
      clear h4
      have t1w : decide ((wd : Int) < 2) = false := by simp; omega
      have t2w : decide (62 < (wd : Int)) = false := by simp; omega
      have f0 := B0.frozen 2
      clear B0c0 B0c1 B0c2
      have B0c0 := B0.cell 0
      have B0c1 := B0.cell 1
      have B0c2 := B0.cell 2
      simp at B0c0 B0c1 B0c2
      go_upto_region 15 with fail
      clear f0
      clear B0c0 B0c1 B0c2
      have T1 := turn_set (turn_refl w4 (w1.heap.size)) (p := ⟨w1.heap.size, 2, none⟩) rfl (.int .i64 wd)
      have gb : w.heap.size ≤ w1.heap.size := by omega
      replace B0 : Blk (w4.setCell ⟨w1.heap.size, 2, none⟩ (.int .i64 wd)) (w1.heap.size) 24 #[.int .i64 o, .int .i64 r, .int .i64 wd] := B0.set_ 2 _
      replace Ox := own_grown Ox T1 (fun a e e' => by have h1 := Lx a e; have h2 := Option.some.inj e'; omega)
      replace Hb := Lib.hid (Hb.out.setCell (p := ⟨w1.heap.size, 2, none⟩) gb (.int .i64 wd))
      have t6 : w4.heap.size ≤ (w4.setCell ⟨w1.heap.size, 2, none⟩ (.int .i64 wd)).heap.size := T1.size
      obtain ⟨w5, hww5⟩ : ∃ W, W = (w4.setCell ⟨w1.heap.size, 2, none⟩ (.int .i64 wd)) := ⟨_, rfl⟩
      rw [← hww5] at t6 Hb B0 Ox ⊢
      clear gb hww5 T1
      have bx : Below w5.heap.size w5 w5.drew := (Below.refl _ _).drew
      replace Ox := own_past Ox bx
      replace B0 := B0.past bx
      replace Hb := Lib.hid (thenB Hb.out bx)
      clear bx
      have t7 : w5.heap.size ≤ w5.drew.heap.size := Nat.le_refl _
      have B0c0 := B0.cell 0
      have B0c1 := B0.cell 1
      have B0c2 := B0.cell 2
      simp at B0c0 B0c1 B0c2
      go_upto_region 15 with fail
      go_cut [10, 11, 12] from 61 to 69 (fun u0 u1 u2 wx => ∃ g Al cl Aa ca Ab cb, u0 = .slice Al Z.length cl ∧ u1 = .pointer (some ⟨g, 0, none⟩) ∧ u2 = .bool true ∧ Hid (MetRC (w5.drew) g Z s1 d1 p1 Al cl Aa ca Ab cb wx))
      case first =>
        have HW : Hid (Below (w5.drew).heap.size (w5.drew) (w5.drew)) := Below.refl _ _
        go_region_held3 (fun w' => w'.cell? ⟨w1.heap.size, 0, none⟩ = some (.int .i64 o) ∧ w'.cell? ⟨w1.heap.size, 1, none⟩ = some (.int .i64 r) ∧ w'.cell? ⟨w1.heap.size, 2, none⟩ = some (.int .i64 wd)) (first | go_keep)
          (first
            | (go_at_call 20; first | (replace SX := SX; clear B0c0 B0c1 B0c2; have B0c0 := B0.cell 0; have B0c1 := B0.cell 1; have B0c2 := B0.cell 2; have SXc0 := SX.cell 0; have SXc1 := SX.cell 1; have SXc2 := SX.cell 2; simp at B0c0 B0c1 B0c2 SXc0 SXc1 SXc2; refine (HNi.out _).mono ?_; rintro e w6 ⟨Aja, cja, Ajb, cjb, rfl, Oja, Ojb, Pj, h6⟩; replace Ox := own_past Ox h6; replace B0 := B0.past h6; replace SX := SX.past h6; replace Hb := Lib.hid (thenB Hb.out h6); replace HW := Lib.hid (thenB HW.out h6); have t8 : w5.drew.heap.size ≤ w6.heap.size := h6.size; have Lja := own_lo Oja; have Uja := own_hi Oja; have Ljb := own_lo Ojb; have Ujb := own_hi Ojb; clear h6; clear B0c0 B0c1 B0c2 SXc0 SXc1 SXc2; have B0c0 := B0.cell 0; have B0c1 := B0.cell 1; have B0c2 := B0.cell 2; have SXc0 := SX.cell 0; have SXc1 := SX.cell 1; have SXc2 := SX.cell 2; simp at B0c0 B0c1 B0c2 SXc0 SXc1 SXc2) | (clear B0c0 B0c1 B0c2; have B0c0 := B0.cell 0; have B0c1 := B0.cell 1; have B0c2 := B0.cell 2; simp at B0c0 B0c1 B0c2; refine (HNi.out _).mono ?_; rintro e w6 ⟨Aja, cja, Ajb, cjb, rfl, Oja, Ojb, Pj, h6⟩; replace Ox := own_past Ox h6; replace B0 := B0.past h6; replace Hb := Lib.hid (thenB Hb.out h6); replace HW := Lib.hid (thenB HW.out h6); have t8 : w5.drew.heap.size ≤ w6.heap.size := h6.size; have Lja := own_lo Oja; have Uja := own_hi Oja; have Ljb := own_lo Ojb; have Ujb := own_hi Ojb; clear h6; clear B0c0 B0c1 B0c2; have B0c0 := B0.cell 0; have B0c1 := B0.cell 1; have B0c2 := B0.cell 2; simp at B0c0 B0c1 B0c2) | (have bx : Below w5.drew.heap.size w5.drew (w5.drew.alloc (.cells #[.slice none 0 0, .slice none 0 0, .int .i64 0] 35)) := (Below.refl _ _).alloc (Nat.le_refl _) _; have SX := Blk.new w5.drew 35 #[.slice none 0 0, .slice none 0 0, .int .i64 0]; have VSX : w5.drew.heap.size < (w5.drew.alloc (.cells #[.slice none 0 0, .slice none 0 0, .int .i64 0] 35)).heap.size := (by simp); replace Ox := own_past Ox bx; replace B0 := B0.past bx; replace Hb := Lib.hid (thenB Hb.out bx); replace HW := Lib.hid (thenB HW.out bx); clear bx; replace SX : Blk ((w5.drew.alloc (.cells #[.slice none 0 0, .slice none 0 0, .int .i64 0] 35))) w5.heap.size 35 #[.slice none 0 0, .slice none 0 0, .int .i64 0] := SX; have GX : (w5.drew).heap.size ≤ w5.heap.size := (by first | omega | exact Nat.le_refl _); have nzx0 : ¬ (w1.heap.size = w5.heap.size) := (by omega); have nzy0 : ¬ (w5.heap.size = w1.heap.size) := (by omega); clear B0c0 B0c1 B0c2; have B0c0 := B0.cell 0; have B0c1 := B0.cell 1; have B0c2 := B0.cell 2; have SXc0 := SX.cell 0; have SXc1 := SX.cell 1; have SXc2 := SX.cell 2; simp at B0c0 B0c1 B0c2 SXc0 SXc1 SXc2; refine (HNi.out _).mono ?_; rintro e w6 ⟨Aja, cja, Ajb, cjb, rfl, Oja, Ojb, Pj, h6⟩; replace Ox := own_past Ox h6; replace B0 := B0.past h6; replace SX := SX.past h6; replace Hb := Lib.hid (thenB Hb.out h6); replace HW := Lib.hid (thenB HW.out h6); have t8 : (w5.drew.alloc (.cells #[.slice none 0 0, .slice none 0 0, .int .i64 0] 35)).heap.size ≤ w6.heap.size := h6.size; have Lja := own_lo Oja; have Uja := own_hi Oja; have Ljb := own_lo Ojb; have Ujb := own_hi Ojb; clear h6; clear B0c0 B0c1 B0c2 SXc0 SXc1 SXc2; have B0c0 := B0.cell 0; have B0c1 := B0.cell 1; have B0c2 := B0.cell 2; have SXc0 := SX.cell 0; have SXc1 := SX.cell 1; have SXc2 := SX.cell 2; simp at B0c0 B0c1 B0c2 SXc0 SXc1 SXc2))
            | (go_at_call 19; first | (replace SX := SX; have XL := SX.lt; clear B0c0 B0c1 B0c2; have B0c0 := B0.cell 0; have B0c1 := B0.cell 1; have B0c2 := B0.cell 2; have SXc0 := SX.cell 0; have SXc1 := SX.cell 1; have SXc2 := SX.cell 2; simp at B0c0 B0c1 B0c2 SXc0 SXc1 SXc2; refine (HRx.out _ Aja cja Ajb cjb Ax cx (own_rd Oja) (own_rd Ojb) (own_rd Ox)).mono ?_; rintro e w7 ⟨Azl, czl, Aza, cza, Azb, czb, rfl, Ozl, Oza, Ozb, Pzla, Pzlb, Pz, h7⟩; replace Ox := own_past Ox h7; replace Oja := own_past Oja h7; replace Ojb := own_past Ojb h7; replace B0 := B0.past h7; replace SX := SX.past h7; replace Hb := Lib.hid (thenB Hb.out h7); replace HW := Lib.hid (thenB HW.out h7); have t9 : w6.heap.size ≤ w7.heap.size := h7.size; have Lzl := own_lo Ozl; have Uzl := own_hi Ozl; have Lza := own_lo Oza; have Uza := own_hi Oza; have Lzb := own_lo Ozb; have Uzb := own_hi Ozb; clear h7; clear B0c0 B0c1 B0c2 SXc0 SXc1 SXc2; have B0c0 := B0.cell 0; have B0c1 := B0.cell 1; have B0c2 := B0.cell 2; have SXc0 := SX.cell 0; have SXc1 := SX.cell 1; have SXc2 := SX.cell 2; simp at B0c0 B0c1 B0c2 SXc0 SXc1 SXc2; have SXf0 := SX.frozen 0; have SXf1 := SX.frozen 1; have SXf2 := SX.frozen 2; have M := Lib.hid (metrc_before (p := p1) HW.out GX XL (by rfl) SX Ozl Oza Ozb Pzla Pzlb Pz)) | (clear B0c0 B0c1 B0c2; have B0c0 := B0.cell 0; have B0c1 := B0.cell 1; have B0c2 := B0.cell 2; simp at B0c0 B0c1 B0c2; refine (HRx.out _ Aja cja Ajb cjb Ax cx (own_rd Oja) (own_rd Ojb) (own_rd Ox)).mono ?_; rintro e w7 ⟨Azl, czl, Aza, cza, Azb, czb, rfl, Ozl, Oza, Ozb, Pzla, Pzlb, Pz, h7⟩; replace Ox := own_past Ox h7; replace Oja := own_past Oja h7; replace Ojb := own_past Ojb h7; replace B0 := B0.past h7; replace Hb := Lib.hid (thenB Hb.out h7); replace HW := Lib.hid (thenB HW.out h7); have t9 : w6.heap.size ≤ w7.heap.size := h7.size; have Lzl := own_lo Ozl; have Uzl := own_hi Ozl; have Lza := own_lo Oza; have Uza := own_hi Oza; have Lzb := own_lo Ozb; have Uzb := own_hi Ozb; clear h7; clear B0c0 B0c1 B0c2; have B0c0 := B0.cell 0; have B0c1 := B0.cell 1; have B0c2 := B0.cell 2; simp at B0c0 B0c1 B0c2; have M := Lib.hid (metrc_after (p := p1) HW.out (by omega) Ozl Oza Ozb Pzla Pzlb Pz)) | (have bx : Below w6.heap.size w6 (w6.alloc (.cells #[.slice none 0 0, .slice none 0 0, .int .i64 0] 35)) := (Below.refl _ _).alloc (Nat.le_refl _) _; have SX := Blk.new w6 35 #[.slice none 0 0, .slice none 0 0, .int .i64 0]; have VSX : w6.heap.size < (w6.alloc (.cells #[.slice none 0 0, .slice none 0 0, .int .i64 0] 35)).heap.size := (by simp); replace Ox := own_past Ox bx; replace Oja := own_past Oja bx; replace Ojb := own_past Ojb bx; replace B0 := B0.past bx; replace Hb := Lib.hid (thenB Hb.out bx); replace HW := Lib.hid (thenB HW.out bx); clear bx; have GX : (w5.drew).heap.size ≤ w6.heap.size := (by first | omega | exact Nat.le_refl _); have nzx0 : ¬ (w1.heap.size = w6.heap.size) := (by omega); have nzy0 : ¬ (w6.heap.size = w1.heap.size) := (by omega); have XL := SX.lt; clear B0c0 B0c1 B0c2; have B0c0 := B0.cell 0; have B0c1 := B0.cell 1; have B0c2 := B0.cell 2; have SXc0 := SX.cell 0; have SXc1 := SX.cell 1; have SXc2 := SX.cell 2; simp at B0c0 B0c1 B0c2 SXc0 SXc1 SXc2; refine (HRx.out _ Aja cja Ajb cjb Ax cx (own_rd Oja) (own_rd Ojb) (own_rd Ox)).mono ?_; rintro e w7 ⟨Azl, czl, Aza, cza, Azb, czb, rfl, Ozl, Oza, Ozb, Pzla, Pzlb, Pz, h7⟩; replace Ox := own_past Ox h7; replace Oja := own_past Oja h7; replace Ojb := own_past Ojb h7; replace B0 := B0.past h7; replace SX := SX.past h7; replace Hb := Lib.hid (thenB Hb.out h7); replace HW := Lib.hid (thenB HW.out h7); have t9 : (w6.alloc (.cells #[.slice none 0 0, .slice none 0 0, .int .i64 0] 35)).heap.size ≤ w7.heap.size := h7.size; have Lzl := own_lo Ozl; have Uzl := own_hi Ozl; have Lza := own_lo Oza; have Uza := own_hi Oza; have Lzb := own_lo Ozb; have Uzb := own_hi Ozb; clear h7; clear B0c0 B0c1 B0c2 SXc0 SXc1 SXc2; have B0c0 := B0.cell 0; have B0c1 := B0.cell 1; have B0c2 := B0.cell 2; have SXc0 := SX.cell 0; have SXc1 := SX.cell 1; have SXc2 := SX.cell 2; simp at B0c0 B0c1 B0c2 SXc0 SXc1 SXc2; have SXf0 := SX.frozen 0; have SXf1 := SX.frozen 1; have SXf2 := SX.frozen 2; have M := Lib.hid (metrc_before (p := p1) HW.out GX XL (by rfl) SX Ozl Oza Ozb Pzla Pzlb Pz))))
        all_goals (go_wp2_with fail; go_meet; exact ⟨_, _, _, _, _, _, _, rfl, rfl, rfl, M⟩)
      case rest =>
      obtain ⟨gy, Ayl, cyl, Aya, cya, Ayb, cyb, rfl, rfl, rfl, HM⟩ := hcut
      obtain ⟨⟨gly, Sy, Oya, Oyb, Py, Nya, Nyb, bx⟩, Oyl, Pyla, Pylb, Nyl⟩ := HM.out
      clear HM
      replace Ox := own_past Ox bx
      replace B0 := B0.past bx
      replace Hb := Lib.hid (thenB Hb.out bx)
      have t8 : (w5.drew).heap.size ≤ wc.heap.size := bx.size
      have VSy := Sy.lt
      have Lyl := own_lo Oyl
      have Uyl := own_hi Oyl
      have Lya := own_lo Oya
      have Uya := own_hi Oya
      have Lyb := own_lo Oyb
      have Uyb := own_hi Oyb
      clear bx
      obtain ⟨w6, hwc⟩ : ∃ W, W = wc := ⟨_, rfl⟩
      subst hwc
      clear B0c0 B0c1 B0c2
      have B0c0 := B0.cell 0
      have B0c1 := B0.cell 1
      have B0c2 := B0.cell 2
      have Syc0 := Sy.cell 0
      have Syc1 := Sy.cell 1
      have Syc2 := Sy.cell 2
      simp at B0c0 B0c1 B0c2 Syc0 Syc1 Syc2
      go_wp2_with fail
      refine (HE.out _ (own_rd Ox)).mono ?_
      rintro e w7 ⟨Az, cz, rfl, Oz, h7⟩
      replace Ox := own_past Ox h7
      replace Oyl := own_past Oyl h7
      replace Oya := own_past Oya h7
      replace Oyb := own_past Oyb h7
      replace B0 := B0.past h7
      replace Sy := Sy.past h7
      replace Hb := Lib.hid (thenB Hb.out h7)
      have t10 : w6.heap.size ≤ w7.heap.size := h7.size
      have Lz := own_lo Oz
      have Uz := own_hi Oz
      clear h7
      clear B0c0 B0c1 B0c2 Syc0 Syc1 Syc2
      have B0c0 := B0.cell 0
      have B0c1 := B0.cell 1
      have B0c2 := B0.cell 2
      have Syc0 := Sy.cell 0
      have Syc1 := Sy.cell 1
      have Syc2 := Sy.cell 2
      simp at B0c0 B0c1 B0c2 Syc0 Syc1 Syc2
      go_wp2_with fail
      refine (HBo.out _).mono ?_
      rintro e w8 ⟨Ah, ch, rfl, Oh, h8⟩
      replace Ox := own_past Ox h8
      replace Oyl := own_past Oyl h8
      replace Oya := own_past Oya h8
      replace Oyb := own_past Oyb h8
      replace Oz := own_past Oz h8
      replace B0 := B0.past h8
      replace Sy := Sy.past h8
      replace Hb := Lib.hid (thenB Hb.out h8)
      have t11 : w7.heap.size ≤ w8.heap.size := h8.size
      have Lh := own_lo Oh
      have Uh := own_hi Oh
      clear h8
      clear B0c0 B0c1 B0c2 Syc0 Syc1 Syc2
      have B0c0 := B0.cell 0
      have B0c1 := B0.cell 1
      have B0c2 := B0.cell 2
      have Syc0 := Sy.cell 0
      have Syc1 := Sy.cell 1
      have Syc2 := Sy.cell 2
      simp at B0c0 B0c1 B0c2 Syc0 Syc1 Syc2
      go_wp2_with fail
      refine (HCv.out _ Ax cx Ah ch (own_rd Ox) (own_rd Oh)).mono ?_
      rintro e w9 ⟨Aa, ca, rfl, Oa, h9⟩
      replace Ox := own_past Ox h9
      replace Oyl := own_past Oyl h9
      replace Oya := own_past Oya h9
      replace Oyb := own_past Oyb h9
      replace Oz := own_past Oz h9
      replace Oh := own_past Oh h9
      replace B0 := B0.past h9
      replace Sy := Sy.past h9
      replace Hb := Lib.hid (thenB Hb.out h9)
      have t12 : w8.heap.size ≤ w9.heap.size := h9.size
      have La := own_lo Oa
      have Ua := own_hi Oa
      clear h9
      clear B0c0 B0c1 B0c2 Syc0 Syc1 Syc2
      have B0c0 := B0.cell 0
      have B0c1 := B0.cell 1
      have B0c2 := B0.cell 2
      have Syc0 := Sy.cell 0
      have Syc1 := Sy.cell 1
      have Syc2 := Sy.cell 2
      simp at B0c0 B0c1 B0c2 Syc0 Syc1 Syc2
      go_wp2_with fail
      refine (HDe.out _ Aa ca (own_rd Oa)).mono ?_
      rintro e w10 ⟨Ab, cb, rfl, Ob, h10⟩
      replace Ox := own_past Ox h10
      replace Oyl := own_past Oyl h10
      replace Oya := own_past Oya h10
      replace Oyb := own_past Oyb h10
      replace Oz := own_past Oz h10
      replace Oh := own_past Oh h10
      replace Oa := own_past Oa h10
      replace B0 := B0.past h10
      replace Sy := Sy.past h10
      replace Hb := Lib.hid (thenB Hb.out h10)
      have t13 : w9.heap.size ≤ w10.heap.size := h10.size
      have Lb := own_lo Ob
      have Ub := own_hi Ob
      clear h10
      clear B0c0 B0c1 B0c2 Syc0 Syc1 Syc2
      have B0c0 := B0.cell 0
      have B0c1 := B0.cell 1
      have B0c2 := B0.cell 2
      have Syc0 := Sy.cell 0
      have Syc1 := Sy.cell 1
      have Syc2 := Sy.cell 2
      simp at B0c0 B0c1 B0c2 Syc0 Syc1 Syc2
      go_wp2_with fail
      refine (ints_same Ayl Az cyl cz Z _ _ (own_rd Oyl) (own_rd Oz) rfl (by omega)).mono ?_
      rintro e w11 ⟨rfl, h11⟩
      replace Ox := own_past Ox h11
      replace Oyl := own_past Oyl h11
      replace Oya := own_past Oya h11
      replace Oyb := own_past Oyb h11
      replace Oz := own_past Oz h11
      replace Oh := own_past Oh h11
      replace Oa := own_past Oa h11
      replace Ob := own_past Ob h11
      replace B0 := B0.past h11
      replace Sy := Sy.past h11
      replace Hb := Lib.hid (thenB Hb.out h11)
      have t14 : w10.heap.size ≤ w11.heap.size := h11.size
      clear h11
      clear B0c0 B0c1 B0c2 Syc0 Syc1 Syc2
      have B0c0 := B0.cell 0
      have B0c1 := B0.cell 1
      have B0c2 := B0.cell 2
      have Syc0 := Sy.cell 0
      have Syc1 := Sy.cell 1
      have Syc2 := Sy.cell 2
      simp at B0c0 B0c1 B0c2 Syc0 Syc1 Syc2
      go_wp2_with fail
      refine (ints_same Ayl Ab cyl cb Z _ _ (own_rd Oyl) (own_rd Ob) rfl (by omega)).mono ?_
      rintro e w12 ⟨rfl, h12⟩
      replace Ox := own_past Ox h12
      replace Oyl := own_past Oyl h12
      replace Oya := own_past Oya h12
      replace Oyb := own_past Oyb h12
      replace Oz := own_past Oz h12
      replace Oh := own_past Oh h12
      replace Oa := own_past Oa h12
      replace Ob := own_past Ob h12
      replace B0 := B0.past h12
      replace Sy := Sy.past h12
      replace Hb := Lib.hid (thenB Hb.out h12)
      have t15 : w11.heap.size ≤ w12.heap.size := h12.size
      clear h12
      go_wp2_with fail
      go_ret
      exact ⟨rfl, Hb.out⟩
set_option maxRecDepth 100000 in
theorem lifted (os : Os) (started : os.Started) (H : Type) (enc : TypeId × Value → H) :
    ReturnsInHanded {} Try.checked os 5 .any (Rows.fnCombsSpec.pre6 enc Try.prog Try.f5 Rows.fnCombsRow.domain false) (Rows.fnCombsSpec.post enc Try.prog Try.f5 false true false false) := by
  refine returnsInHanded_of_change (C := Try.checked) own started (by kernel_rfl) Try.func5
    (ChangeSpec.witness6 (enc := enc) (C := Try.checked) false ⟨#[], #[.slice none 0 0], []⟩ 8 (by kernel_rfl) (by kernel_rfl) (by kernel_rfl) (by kernel_rfl)) ?_
  intro W base args ds gs before hval0 hW hcnd _
  have hval : ∀ (j : Nat) t v, Try.f5.params[j]? = some t → args[j]? = some v → Value.okWide Try.prog W .any base t v := hval0
  have hW' := hW
  obtain ⟨p, q, hA0, hV, rfl, hfz, hnd⟩ := hW
  have hA : DataW.TrodAll enc Try.prog W 0 (fun _ => true) true Try.f5.params.toList args.toList ds p := hA0
  rw [Try.params5] at hA hval
  obtain ⟨v0, vs0, d0, ds0, p0, q0, hargs, rfl, rfl, h0, g0⟩ := trodAll_cons hA
  obtain ⟨rfl, rfl, rfl⟩ := trodAll_nil g0
  obtain rfl : args = #[v0] := by cases args; simp_all
  obtain ⟨rfl, rfl⟩ := trodVars_none hV
  have k0 := h0
  have lt0 : ∀ x ∈ p0, x.block < W.heap.size := by obtain ⟨m, hm⟩ := k0; exact DataW.trod_lt m _ _ _ hm
  obtain ⟨A0, z0, c0, rfl, l0, m0, r0⟩ := arg_bytes Try.underlying22 Try.underlying5 (by kernel_rfl) (hval 0 22 v0 rfl rfl) h0
  clear hA0 hval0
  refine (walkw W A0 z0 c0 l0 m0 r0).mono fun e W' ⟨he, bel⟩ => ?_
  subst he
  exact ⟨_, rfl, _, _, _, [], _, [], hW', trodAll_mk1 (shut_bool Try.underlying4 _), (trodAll_cons_mk (Below.trod laidOut (by kernel_rfl) (of_decide_eq_true (by kernel_rfl)) k0 bel lt0) trodAll_mk0), rfl, bel.frame _, fun h => by cases h⟩
theorem over : Rows.fnCombsRow.holds Try.pinned (OpenSpec.ofChange Rows.fnCombsSpec) :=
  OpenClaim.holds_of_wide 5 Try.f5 rfl rfl rfl rfl rfl rfl rfl ⟨rfl, rfl, rfl, rfl, rfl⟩ rfl rfl rfl rfl rfl (by kernel_rfl) Try.func5 (by kernel_rfl)
    (of_decide_eq_true (by kernel_rfl)) (by unfold Func.isWrapper; first | (rw [if_pos (by decide +kernel)]; kernel_rfl) | (rw [if_neg (by decide +kernel)]; exact ⟨rfl, rfl⟩))
    (fun os started H enc _ => lifted os started H enc)
theorem proved : Rows.FnCombsSaid := over

end Go.Proofs.Ytfplecbacgcjgaa.combsLaw
