/- A comb of any width gives the exact sums, wrapped. No condition. -/
import Derived.Test.YtfplecbacgcjgaaCombLaw
import Derived.Test.YtfplecbacgcjgaaGenC
import Derived.Test.YtfplecbacgcjgaaExact
import Derived.Test.YtfplecbacgcjgaaLawAcc
namespace Go.Proofs.Ytfplecbacgcjgaa.combWrapped
open Go.ChangeShapes Go.WideShapes Go.ChangeAt Go.RowKit
set_option linter.unusedVariables false
set_option linter.unusedSimpArgs false
set_option maxRecDepth 100000 in
set_option maxHeartbeats 1000000 in
theorem walkw (w : World) (A0 : Option Addr) (n0 c0 : Nat) (l0 : n0 ≤ c0) (m0 : c0 ≤ maxLen) (r0 : RdB w w.heap.size A0 n0) :
    Calls Try.prog 4 #[.slice A0 n0 c0] w fun e w' => e = .returned (.bool true) ∧ Below w.heap.size w w' := by
  unfold maxLen at m0
  by_cases hn : n0 ≤ 1048576
  case neg =>
    have hx : 1048576 < n0 := by omega
    clear hn
    go_enter Try.func4, Try.ntmps4
    go_wp2
    go_ret
    exact ⟨rfl, Below.refl _ _⟩
  have Hb : Hid (Below w.heap.size w w) := Below.refl _ _
  go_enter Try.func4, Try.ntmps4
  go_wp2_with fail
  refine (MakeComb_any _ _ _ _ (r0.past Hb.out) (by omega)).mono ?_
  rintro e w1 ⟨o, r, k, rfl, o1, o2, r1, r2, k1, k2, h1⟩
  replace Hb := Lib.hid (thenB Hb.out h1)
  have t1 : w.heap.size ≤ w1.heap.size := h1.size
  clear h1
  have bx : Below w1.heap.size w1 (w1.alloc (.cells #[.int .i64 o, .int .i64 r, .int .i64 k] 24)) := (Below.refl _ _).alloc (Nat.le_refl _) _
  have B0 := Blk.new w1 24 #[.int .i64 o, .int .i64 r, .int .i64 k]
  have VB0 : w1.heap.size < (w1.alloc (.cells #[.int .i64 o, .int .i64 r, .int .i64 k] 24)).heap.size := by simp
  replace Hb := Lib.hid (thenB Hb.out bx)
  clear bx
  have B0c0 := B0.cell 0
  have B0c1 := B0.cell 1
  have B0c2 := B0.cell 2
  simp at B0c0 B0c1 B0c2
  go_wp2_with fail
  refine (fresh_any _ _ _ _ _ (r0.past Hb.out) (by omega) (by omega) (by omega)).mono ?_
  rintro e w2 ⟨Af, cf, nf, rfl, hnf, Rf, h2⟩
  replace B0 := B0.past h2
  replace Hb := Lib.hid (thenB Hb.out h2)
  have t3 : (w1.alloc (.cells #[.int .i64 o, .int .i64 r, .int .i64 k] 24)).heap.size ≤ w2.heap.size := h2.size
  clear h2
  clear B0c0 B0c1 B0c2
  have B0c0 := B0.cell 0
  have B0c1 := B0.cell 1
  have B0c2 := B0.cell 2
  simp at B0c0 B0c1 B0c2
  go_wp2_with fail
  refine (at_any _ _ _ _ _ (r0.past Hb.out) (by omega) (by omega) (by omega)).mono ?_
  rintro e w3 ⟨⟨av, rfl, av1, av2⟩, rfl⟩
  clear B0c0 B0c1 B0c2
  have B0c0 := B0.cell 0
  have B0c1 := B0.cell 1
  have B0c2 := B0.cell 2
  simp at B0c0 B0c1 B0c2
  go_wp2_with fail
  refine (MakeSequence_any _ _ _ 80 _ _ Rf (by omega) (by omega) (by omega) (by omega) (by omega)).mono ?_
  rintro e w3 ⟨Ax, cx, x, rfl, Hx, Ox, h3⟩
  replace B0 := B0.past h3
  replace Hb := Lib.hid (thenB Hb.out h3)
  replace Rf := Rf.past h3
  have t4 : w2.heap.size ≤ w3.heap.size := h3.size
  have Lx := own_lo Ox
  have Ux := own_hi Ox
  clear h3
  clear Rf
  have hxs : ∀ v ∈ x, -2551 ≤ v ∧ v ≤ 2551 := fun v hv => by have := Hx.2 v hv; omega
  have xl : x.length ≤ 80 := by have := Hx.1; omega
  clear Hx av1 av2
  have hok := comb_ok o1 o2 r1 r2 (by omega) k2
  have hrun := run0_yes (k := k) (show (0 : Int) ≤ 2551 by omega) hxs (by omega) r1 r2 o1 o2 (by omega) (by omega) k2
  have hexa := exact_all (show (0 : Int) ≤ 2551 by omega) hxs (by omega) r1 r2 o1 o2 (by omega) (show (2 : Int) ≤ k by omega) (show (k : Int) ≤ 62 by omega)
  obtain ⟨q, hq⟩ : ∃ q, q = x.length / r := ⟨_, rfl⟩
  have hq80 : q ≤ 80 := by rw [hq]; exact Nat.le_trans (Nat.div_le_self _ _) xl
  rw [← hq] at hrun hexa
  obtain ⟨ys, hys⟩ : ∃ ys, ys = lst q (fun m => wrapW (dec r (itF (bF r) o (fnOf x)) m) k) := ⟨_, rfl⟩
  rw [← hys] at hrun
  obtain ⟨zs, hzs⟩ : ∃ zs, zs = lst q (fun m => dec r (itF (bF r) o (fnOf x)) m) := ⟨_, rfl⟩
  rw [← hzs] at hexa
  have HYl : Hid (ys.length = q) := by show _ = _; rw [hys, lst_length]
  have HZl : Hid (zs.length = q) := by show _ = _; rw [hzs, lst_length]
  have HYZ : Hid (∀ i, i < q → ys.getD i 0 = wrapW (zs.getD i 0) k) := fun i hi => by rw [hys, hzs, lst_getD _ hi, lst_getD _ hi]
  have T6 := runC_len o r k ⟨zeros o, zeros o, 0⟩ x
  rw [hrun] at T6
  obtain ⟨T, hT⟩ : ∃ T, T = cSt r k ⟨zeros o, zeros o, 0⟩ x x.length := ⟨_, rfl⟩
  rw [← hT] at hrun T6
  have ts1 : T.sums.length ≤ 6 := T6.2.1
  have ts2 : T.delays.length ≤ 6 := T6.2.2
  clear T6 hT hys hzs
  have HNs := Lib.hid (specNew0 hok o2)
  have HRs := Lib.hid (specRun0 hrun (by omega) (show x.length ≤ 1000 by omega))
  have HNi := Lib.hid (implNew0 hok o2)
  have HRi := Lib.hid (implRun0 hrun (by omega) (show x.length ≤ 1000 by omega))
  have HE : Hid (∀ W, Rd W W.heap.size Ax x → Calls Try.prog 21 #[.agg #[.int .i64 o, .int .i64 r, .int .i64 k], .slice Ax x.length cx] W (RetLB W (zs, true))) := fun W h => by have := specExactComb_any o r k Ax cx x W h (by omega); rw [hexa] at this; exact this
  have Hok := Lib.hid hok
  clear hok
  have Hrun := Lib.hid hrun
  clear hrun
  have Hexa := Lib.hid hexa
  clear hexa
  have Hxs := Lib.hid hxs
  clear hxs
  have Hq := Lib.hid hq
  clear hq
  have bx : Below w3.heap.size w3 w3.drew := (Below.refl _ _).drew
  replace Ox := own_past Ox bx
  replace B0 := B0.past bx
  replace Hb := Lib.hid (thenB Hb.out bx)
  clear bx
  have t5 : w3.heap.size ≤ w3.drew.heap.size := Nat.le_refl _
  clear B0c0 B0c1 B0c2
  have B0c0 := B0.cell 0
  have B0c1 := B0.cell 1
  have B0c2 := B0.cell 2
  simp at B0c0 B0c1 B0c2
  go_upto_region 5 with fail
  go_cut [5, 6, 7] from 27 to 35 (fun u0 u1 u2 wx => ∃ g Al cl Aa ca Ab cb, u0 = .slice Al ys.length cl ∧ u1 = .pointer (some ⟨g, 0, none⟩) ∧ u2 = .bool true ∧ Hid (MetRC (w3.drew) g ys T.sums T.delays T.phase Al cl Aa ca Ab cb wx))
  case first =>
    have HW : Hid (Below (w3.drew).heap.size (w3.drew) (w3.drew)) := Below.refl _ _
    go_region_held3 (fun w' => w'.cell? ⟨w1.heap.size, 0, none⟩ = some (.int .i64 o) ∧ w'.cell? ⟨w1.heap.size, 1, none⟩ = some (.int .i64 r) ∧ w'.cell? ⟨w1.heap.size, 2, none⟩ = some (.int .i64 k)) (first | go_keep)
      (first
        | (go_at_call 20; first | (replace SX := SX; clear B0c0 B0c1 B0c2; have B0c0 := B0.cell 0; have B0c1 := B0.cell 1; have B0c2 := B0.cell 2; have SXc0 := SX.cell 0; have SXc1 := SX.cell 1; have SXc2 := SX.cell 2; simp at B0c0 B0c1 B0c2 SXc0 SXc1 SXc2; refine (HNi.out _).mono ?_; rintro e w4 ⟨Asa, csa, Asb, csb, rfl, Osa, Osb, Ps, h4⟩; replace Ox := own_past Ox h4; replace B0 := B0.past h4; replace SX := SX.past h4; replace Hb := Lib.hid (thenB Hb.out h4); replace HW := Lib.hid (thenB HW.out h4); have t6 : w3.drew.heap.size ≤ w4.heap.size := h4.size; have Lsa := own_lo Osa; have Usa := own_hi Osa; have Lsb := own_lo Osb; have Usb := own_hi Osb; clear h4; clear B0c0 B0c1 B0c2 SXc0 SXc1 SXc2; have B0c0 := B0.cell 0; have B0c1 := B0.cell 1; have B0c2 := B0.cell 2; have SXc0 := SX.cell 0; have SXc1 := SX.cell 1; have SXc2 := SX.cell 2; simp at B0c0 B0c1 B0c2 SXc0 SXc1 SXc2) | (clear B0c0 B0c1 B0c2; have B0c0 := B0.cell 0; have B0c1 := B0.cell 1; have B0c2 := B0.cell 2; simp at B0c0 B0c1 B0c2; refine (HNi.out _).mono ?_; rintro e w4 ⟨Asa, csa, Asb, csb, rfl, Osa, Osb, Ps, h4⟩; replace Ox := own_past Ox h4; replace B0 := B0.past h4; replace Hb := Lib.hid (thenB Hb.out h4); replace HW := Lib.hid (thenB HW.out h4); have t6 : w3.drew.heap.size ≤ w4.heap.size := h4.size; have Lsa := own_lo Osa; have Usa := own_hi Osa; have Lsb := own_lo Osb; have Usb := own_hi Osb; clear h4; clear B0c0 B0c1 B0c2; have B0c0 := B0.cell 0; have B0c1 := B0.cell 1; have B0c2 := B0.cell 2; simp at B0c0 B0c1 B0c2) | (have bx : Below w3.drew.heap.size w3.drew (w3.drew.alloc (.cells #[.slice none 0 0, .slice none 0 0, .int .i64 0] 35)) := (Below.refl _ _).alloc (Nat.le_refl _) _; have SX := Blk.new w3.drew 35 #[.slice none 0 0, .slice none 0 0, .int .i64 0]; have VSX : w3.drew.heap.size < (w3.drew.alloc (.cells #[.slice none 0 0, .slice none 0 0, .int .i64 0] 35)).heap.size := (by simp); replace Ox := own_past Ox bx; replace B0 := B0.past bx; replace Hb := Lib.hid (thenB Hb.out bx); replace HW := Lib.hid (thenB HW.out bx); clear bx; replace SX : Blk ((w3.drew.alloc (.cells #[.slice none 0 0, .slice none 0 0, .int .i64 0] 35))) w3.heap.size 35 #[.slice none 0 0, .slice none 0 0, .int .i64 0] := SX; have GX : (w3.drew).heap.size ≤ w3.heap.size := (by first | omega | exact Nat.le_refl _); have nzx0 : ¬ (w1.heap.size = w3.heap.size) := (by omega); have nzy0 : ¬ (w3.heap.size = w1.heap.size) := (by omega); clear B0c0 B0c1 B0c2; have B0c0 := B0.cell 0; have B0c1 := B0.cell 1; have B0c2 := B0.cell 2; have SXc0 := SX.cell 0; have SXc1 := SX.cell 1; have SXc2 := SX.cell 2; simp at B0c0 B0c1 B0c2 SXc0 SXc1 SXc2; refine (HNi.out _).mono ?_; rintro e w4 ⟨Asa, csa, Asb, csb, rfl, Osa, Osb, Ps, h4⟩; replace Ox := own_past Ox h4; replace B0 := B0.past h4; replace SX := SX.past h4; replace Hb := Lib.hid (thenB Hb.out h4); replace HW := Lib.hid (thenB HW.out h4); have t6 : (w3.drew.alloc (.cells #[.slice none 0 0, .slice none 0 0, .int .i64 0] 35)).heap.size ≤ w4.heap.size := h4.size; have Lsa := own_lo Osa; have Usa := own_hi Osa; have Lsb := own_lo Osb; have Usb := own_hi Osb; clear h4; clear B0c0 B0c1 B0c2 SXc0 SXc1 SXc2; have B0c0 := B0.cell 0; have B0c1 := B0.cell 1; have B0c2 := B0.cell 2; have SXc0 := SX.cell 0; have SXc1 := SX.cell 1; have SXc2 := SX.cell 2; simp at B0c0 B0c1 B0c2 SXc0 SXc1 SXc2))
        | (go_at_call 19; first | (replace SX := SX; have XL := SX.lt; clear B0c0 B0c1 B0c2; have B0c0 := B0.cell 0; have B0c1 := B0.cell 1; have B0c2 := B0.cell 2; have SXc0 := SX.cell 0; have SXc1 := SX.cell 1; have SXc2 := SX.cell 2; simp at B0c0 B0c1 B0c2 SXc0 SXc1 SXc2; refine (HRi.out _ Asa csa Asb csb Ax cx (own_rd Osa) (own_rd Osb) (own_rd Ox)).mono ?_; rintro e w5 ⟨Azl, czl, Aza, cza, Azb, czb, rfl, Ozl, Oza, Ozb, Pzla, Pzlb, Pz, h5⟩; replace Ox := own_past Ox h5; replace Osa := own_past Osa h5; replace Osb := own_past Osb h5; replace B0 := B0.past h5; replace SX := SX.past h5; replace Hb := Lib.hid (thenB Hb.out h5); replace HW := Lib.hid (thenB HW.out h5); have t7 : w4.heap.size ≤ w5.heap.size := h5.size; have Lzl := own_lo Ozl; have Uzl := own_hi Ozl; have Lza := own_lo Oza; have Uza := own_hi Oza; have Lzb := own_lo Ozb; have Uzb := own_hi Ozb; clear h5; clear B0c0 B0c1 B0c2 SXc0 SXc1 SXc2; have B0c0 := B0.cell 0; have B0c1 := B0.cell 1; have B0c2 := B0.cell 2; have SXc0 := SX.cell 0; have SXc1 := SX.cell 1; have SXc2 := SX.cell 2; simp at B0c0 B0c1 B0c2 SXc0 SXc1 SXc2; have SXf0 := SX.frozen 0; have SXf1 := SX.frozen 1; have SXf2 := SX.frozen 2; have M := Lib.hid (metrc_before (p := T.phase) HW.out GX XL (by rfl) SX Ozl Oza Ozb Pzla Pzlb Pz)) | (clear B0c0 B0c1 B0c2; have B0c0 := B0.cell 0; have B0c1 := B0.cell 1; have B0c2 := B0.cell 2; simp at B0c0 B0c1 B0c2; refine (HRi.out _ Asa csa Asb csb Ax cx (own_rd Osa) (own_rd Osb) (own_rd Ox)).mono ?_; rintro e w5 ⟨Azl, czl, Aza, cza, Azb, czb, rfl, Ozl, Oza, Ozb, Pzla, Pzlb, Pz, h5⟩; replace Ox := own_past Ox h5; replace Osa := own_past Osa h5; replace Osb := own_past Osb h5; replace B0 := B0.past h5; replace Hb := Lib.hid (thenB Hb.out h5); replace HW := Lib.hid (thenB HW.out h5); have t7 : w4.heap.size ≤ w5.heap.size := h5.size; have Lzl := own_lo Ozl; have Uzl := own_hi Ozl; have Lza := own_lo Oza; have Uza := own_hi Oza; have Lzb := own_lo Ozb; have Uzb := own_hi Ozb; clear h5; clear B0c0 B0c1 B0c2; have B0c0 := B0.cell 0; have B0c1 := B0.cell 1; have B0c2 := B0.cell 2; simp at B0c0 B0c1 B0c2; have M := Lib.hid (metrc_after (p := T.phase) HW.out (by omega) Ozl Oza Ozb Pzla Pzlb Pz)) | (have bx : Below w4.heap.size w4 (w4.alloc (.cells #[.slice none 0 0, .slice none 0 0, .int .i64 0] 35)) := (Below.refl _ _).alloc (Nat.le_refl _) _; have SX := Blk.new w4 35 #[.slice none 0 0, .slice none 0 0, .int .i64 0]; have VSX : w4.heap.size < (w4.alloc (.cells #[.slice none 0 0, .slice none 0 0, .int .i64 0] 35)).heap.size := (by simp); replace Ox := own_past Ox bx; replace Osa := own_past Osa bx; replace Osb := own_past Osb bx; replace B0 := B0.past bx; replace Hb := Lib.hid (thenB Hb.out bx); replace HW := Lib.hid (thenB HW.out bx); clear bx; have GX : (w3.drew).heap.size ≤ w4.heap.size := (by first | omega | exact Nat.le_refl _); have nzx0 : ¬ (w1.heap.size = w4.heap.size) := (by omega); have nzy0 : ¬ (w4.heap.size = w1.heap.size) := (by omega); have XL := SX.lt; clear B0c0 B0c1 B0c2; have B0c0 := B0.cell 0; have B0c1 := B0.cell 1; have B0c2 := B0.cell 2; have SXc0 := SX.cell 0; have SXc1 := SX.cell 1; have SXc2 := SX.cell 2; simp at B0c0 B0c1 B0c2 SXc0 SXc1 SXc2; refine (HRi.out _ Asa csa Asb csb Ax cx (own_rd Osa) (own_rd Osb) (own_rd Ox)).mono ?_; rintro e w5 ⟨Azl, czl, Aza, cza, Azb, czb, rfl, Ozl, Oza, Ozb, Pzla, Pzlb, Pz, h5⟩; replace Ox := own_past Ox h5; replace Osa := own_past Osa h5; replace Osb := own_past Osb h5; replace B0 := B0.past h5; replace SX := SX.past h5; replace Hb := Lib.hid (thenB Hb.out h5); replace HW := Lib.hid (thenB HW.out h5); have t7 : (w4.alloc (.cells #[.slice none 0 0, .slice none 0 0, .int .i64 0] 35)).heap.size ≤ w5.heap.size := h5.size; have Lzl := own_lo Ozl; have Uzl := own_hi Ozl; have Lza := own_lo Oza; have Uza := own_hi Oza; have Lzb := own_lo Ozb; have Uzb := own_hi Ozb; clear h5; clear B0c0 B0c1 B0c2 SXc0 SXc1 SXc2; have B0c0 := B0.cell 0; have B0c1 := B0.cell 1; have B0c2 := B0.cell 2; have SXc0 := SX.cell 0; have SXc1 := SX.cell 1; have SXc2 := SX.cell 2; simp at B0c0 B0c1 B0c2 SXc0 SXc1 SXc2; have SXf0 := SX.frozen 0; have SXf1 := SX.frozen 1; have SXf2 := SX.frozen 2; have M := Lib.hid (metrc_before (p := T.phase) HW.out GX XL (by rfl) SX Ozl Oza Ozb Pzla Pzlb Pz))))
    all_goals (go_wp2_with fail; go_meet; exact ⟨_, _, _, _, _, _, _, rfl, rfl, rfl, M⟩)
  case rest =>
  obtain ⟨gy, Ayl, cyl, Aya, cya, Ayb, cyb, rfl, rfl, rfl, HM⟩ := hcut
  obtain ⟨⟨gly, Sy, Oya, Oyb, Py, Nya, Nyb, bx⟩, Oyl, Pyla, Pylb, Nyl⟩ := HM.out
  clear HM
  replace Ox := own_past Ox bx
  replace B0 := B0.past bx
  replace Hb := Lib.hid (thenB Hb.out bx)
  have t6 : (w3.drew).heap.size ≤ wc.heap.size := bx.size
  have VSy := Sy.lt
  have Lyl := own_lo Oyl
  have Uyl := own_hi Oyl
  have Lya := own_lo Oya
  have Uya := own_hi Oya
  have Lyb := own_lo Oyb
  have Uyb := own_hi Oyb
  clear bx
  obtain ⟨w4, hwc⟩ : ∃ W, W = wc := ⟨_, rfl⟩
  subst hwc
  clear B0c0 B0c1 B0c2
  have B0c0 := B0.cell 0
  have B0c1 := B0.cell 1
  have B0c2 := B0.cell 2
  have Syc0 := Sy.cell 0
  have Syc1 := Sy.cell 1
  have Syc2 := Sy.cell 2
  simp at B0c0 B0c1 B0c2 Syc0 Syc1 Syc2
  go_wp2_with fail
  refine (HE.out _ (own_rd Ox)).mono ?_
  rintro e w5 ⟨Az, cz, rfl, Oz, h5⟩
  replace Ox := own_past Ox h5
  replace Oyl := own_past Oyl h5
  replace Oya := own_past Oya h5
  replace Oyb := own_past Oyb h5
  replace B0 := B0.past h5
  replace Sy := Sy.past h5
  replace Hb := Lib.hid (thenB Hb.out h5)
  have t8 : w4.heap.size ≤ w5.heap.size := h5.size
  have Lz := own_lo Oz
  have Uz := own_hi Oz
  clear h5
  go_wp2_with fail
  have bx : Below w5.heap.size w5 w5.drew := (Below.refl _ _).drew
  replace Ox := own_past Ox bx
  replace Oyl := own_past Oyl bx
  replace Oya := own_past Oya bx
  replace Oyb := own_past Oyb bx
  replace Oz := own_past Oz bx
  replace B0 := B0.past bx
  replace Sy := Sy.past bx
  replace Hb := Lib.hid (thenB Hb.out bx)
  clear bx
  have t9 : w5.heap.size ≤ w5.drew.heap.size := Nat.le_refl _
  clear B0c0 B0c1 B0c2 Syc0 Syc1 Syc2
  have B0c0 := B0.cell 0
  have B0c1 := B0.cell 1
  have B0c2 := B0.cell 2
  have Syc0 := Sy.cell 0
  have Syc1 := Sy.cell 1
  have Syc2 := Sy.cell 2
  simp at B0c0 B0c1 B0c2 Syc0 Syc1 Syc2
  go_upto_region 7 with fail
  go_cut [10, 11, 12] from 42 to 50 (fun u0 u1 u2 wx => ∃ g Al cl Aa ca Ab cb, u0 = .slice Al ys.length cl ∧ u1 = .pointer (some ⟨g, 0, none⟩) ∧ u2 = .bool true ∧ Hid (MetRC (w5.drew) g ys T.sums T.delays T.phase Al cl Aa ca Ab cb wx))
  case first =>
    have HW : Hid (Below (w5.drew).heap.size (w5.drew) (w5.drew)) := Below.refl _ _
    go_region_held3 (fun w' => w'.cell? ⟨w1.heap.size, 0, none⟩ = some (.int .i64 o) ∧ w'.cell? ⟨w1.heap.size, 1, none⟩ = some (.int .i64 r) ∧ w'.cell? ⟨w1.heap.size, 2, none⟩ = some (.int .i64 k)) (first | go_keep)
      (first
        | (go_at_call 23; first | (replace SX := SX; clear B0c0 B0c1 B0c2 Syc0 Syc1 Syc2; have B0c0 := B0.cell 0; have B0c1 := B0.cell 1; have B0c2 := B0.cell 2; have Syc0 := Sy.cell 0; have Syc1 := Sy.cell 1; have Syc2 := Sy.cell 2; have SXc0 := SX.cell 0; have SXc1 := SX.cell 1; have SXc2 := SX.cell 2; simp at B0c0 B0c1 B0c2 Syc0 Syc1 Syc2 SXc0 SXc1 SXc2; refine (HNs.out _).mono ?_; rintro e w6 ⟨Ava, cva, Avb, cvb, rfl, Ova, Ovb, Pv, h6⟩; replace Ox := own_past Ox h6; replace Oyl := own_past Oyl h6; replace Oya := own_past Oya h6; replace Oyb := own_past Oyb h6; replace Oz := own_past Oz h6; replace B0 := B0.past h6; replace Sy := Sy.past h6; replace SX := SX.past h6; replace Hb := Lib.hid (thenB Hb.out h6); replace HW := Lib.hid (thenB HW.out h6); have t10 : w5.drew.heap.size ≤ w6.heap.size := h6.size; have Lva := own_lo Ova; have Uva := own_hi Ova; have Lvb := own_lo Ovb; have Uvb := own_hi Ovb; clear h6; clear B0c0 B0c1 B0c2 Syc0 Syc1 Syc2 SXc0 SXc1 SXc2; have B0c0 := B0.cell 0; have B0c1 := B0.cell 1; have B0c2 := B0.cell 2; have Syc0 := Sy.cell 0; have Syc1 := Sy.cell 1; have Syc2 := Sy.cell 2; have SXc0 := SX.cell 0; have SXc1 := SX.cell 1; have SXc2 := SX.cell 2; simp at B0c0 B0c1 B0c2 Syc0 Syc1 Syc2 SXc0 SXc1 SXc2) | (clear B0c0 B0c1 B0c2 Syc0 Syc1 Syc2; have B0c0 := B0.cell 0; have B0c1 := B0.cell 1; have B0c2 := B0.cell 2; have Syc0 := Sy.cell 0; have Syc1 := Sy.cell 1; have Syc2 := Sy.cell 2; simp at B0c0 B0c1 B0c2 Syc0 Syc1 Syc2; refine (HNs.out _).mono ?_; rintro e w6 ⟨Ava, cva, Avb, cvb, rfl, Ova, Ovb, Pv, h6⟩; replace Ox := own_past Ox h6; replace Oyl := own_past Oyl h6; replace Oya := own_past Oya h6; replace Oyb := own_past Oyb h6; replace Oz := own_past Oz h6; replace B0 := B0.past h6; replace Sy := Sy.past h6; replace Hb := Lib.hid (thenB Hb.out h6); replace HW := Lib.hid (thenB HW.out h6); have t10 : w5.drew.heap.size ≤ w6.heap.size := h6.size; have Lva := own_lo Ova; have Uva := own_hi Ova; have Lvb := own_lo Ovb; have Uvb := own_hi Ovb; clear h6; clear B0c0 B0c1 B0c2 Syc0 Syc1 Syc2; have B0c0 := B0.cell 0; have B0c1 := B0.cell 1; have B0c2 := B0.cell 2; have Syc0 := Sy.cell 0; have Syc1 := Sy.cell 1; have Syc2 := Sy.cell 2; simp at B0c0 B0c1 B0c2 Syc0 Syc1 Syc2) | (have bx : Below w5.drew.heap.size w5.drew (w5.drew.alloc (.cells #[.slice none 0 0, .slice none 0 0, .int .i64 0] 35)) := (Below.refl _ _).alloc (Nat.le_refl _) _; have SX := Blk.new w5.drew 35 #[.slice none 0 0, .slice none 0 0, .int .i64 0]; have VSX : w5.drew.heap.size < (w5.drew.alloc (.cells #[.slice none 0 0, .slice none 0 0, .int .i64 0] 35)).heap.size := (by simp); replace Ox := own_past Ox bx; replace Oyl := own_past Oyl bx; replace Oya := own_past Oya bx; replace Oyb := own_past Oyb bx; replace Oz := own_past Oz bx; replace B0 := B0.past bx; replace Sy := Sy.past bx; replace Hb := Lib.hid (thenB Hb.out bx); replace HW := Lib.hid (thenB HW.out bx); clear bx; replace SX : Blk ((w5.drew.alloc (.cells #[.slice none 0 0, .slice none 0 0, .int .i64 0] 35))) w5.heap.size 35 #[.slice none 0 0, .slice none 0 0, .int .i64 0] := SX; have GX : (w5.drew).heap.size ≤ w5.heap.size := (by first | omega | exact Nat.le_refl _); have nzx0 : ¬ (w1.heap.size = w5.heap.size) := (by omega); have nzy0 : ¬ (w5.heap.size = w1.heap.size) := (by omega); clear B0c0 B0c1 B0c2 Syc0 Syc1 Syc2; have B0c0 := B0.cell 0; have B0c1 := B0.cell 1; have B0c2 := B0.cell 2; have Syc0 := Sy.cell 0; have Syc1 := Sy.cell 1; have Syc2 := Sy.cell 2; have SXc0 := SX.cell 0; have SXc1 := SX.cell 1; have SXc2 := SX.cell 2; simp at B0c0 B0c1 B0c2 Syc0 Syc1 Syc2 SXc0 SXc1 SXc2; refine (HNs.out _).mono ?_; rintro e w6 ⟨Ava, cva, Avb, cvb, rfl, Ova, Ovb, Pv, h6⟩; replace Ox := own_past Ox h6; replace Oyl := own_past Oyl h6; replace Oya := own_past Oya h6; replace Oyb := own_past Oyb h6; replace Oz := own_past Oz h6; replace B0 := B0.past h6; replace Sy := Sy.past h6; replace SX := SX.past h6; replace Hb := Lib.hid (thenB Hb.out h6); replace HW := Lib.hid (thenB HW.out h6); have t10 : (w5.drew.alloc (.cells #[.slice none 0 0, .slice none 0 0, .int .i64 0] 35)).heap.size ≤ w6.heap.size := h6.size; have Lva := own_lo Ova; have Uva := own_hi Ova; have Lvb := own_lo Ovb; have Uvb := own_hi Ovb; clear h6; clear B0c0 B0c1 B0c2 Syc0 Syc1 Syc2 SXc0 SXc1 SXc2; have B0c0 := B0.cell 0; have B0c1 := B0.cell 1; have B0c2 := B0.cell 2; have Syc0 := Sy.cell 0; have Syc1 := Sy.cell 1; have Syc2 := Sy.cell 2; have SXc0 := SX.cell 0; have SXc1 := SX.cell 1; have SXc2 := SX.cell 2; simp at B0c0 B0c1 B0c2 Syc0 Syc1 Syc2 SXc0 SXc1 SXc2))
        | (go_at_call 22; first | (replace SX := SX; have XL := SX.lt; clear B0c0 B0c1 B0c2 Syc0 Syc1 Syc2; have B0c0 := B0.cell 0; have B0c1 := B0.cell 1; have B0c2 := B0.cell 2; have Syc0 := Sy.cell 0; have Syc1 := Sy.cell 1; have Syc2 := Sy.cell 2; have SXc0 := SX.cell 0; have SXc1 := SX.cell 1; have SXc2 := SX.cell 2; simp at B0c0 B0c1 B0c2 Syc0 Syc1 Syc2 SXc0 SXc1 SXc2; refine (HRs.out _ Ava cva Avb cvb Ax cx (own_rd Ova) (own_rd Ovb) (own_rd Ox)).mono ?_; rintro e w7 ⟨Azl, czl, Aza, cza, Azb, czb, rfl, Ozl, Oza, Ozb, Pzla, Pzlb, Pz, h7⟩; replace Ox := own_past Ox h7; replace Oyl := own_past Oyl h7; replace Oya := own_past Oya h7; replace Oyb := own_past Oyb h7; replace Oz := own_past Oz h7; replace Ova := own_past Ova h7; replace Ovb := own_past Ovb h7; replace B0 := B0.past h7; replace Sy := Sy.past h7; replace SX := SX.past h7; replace Hb := Lib.hid (thenB Hb.out h7); replace HW := Lib.hid (thenB HW.out h7); have t11 : w6.heap.size ≤ w7.heap.size := h7.size; have Lzl := own_lo Ozl; have Uzl := own_hi Ozl; have Lza := own_lo Oza; have Uza := own_hi Oza; have Lzb := own_lo Ozb; have Uzb := own_hi Ozb; clear h7; clear B0c0 B0c1 B0c2 Syc0 Syc1 Syc2 SXc0 SXc1 SXc2; have B0c0 := B0.cell 0; have B0c1 := B0.cell 1; have B0c2 := B0.cell 2; have Syc0 := Sy.cell 0; have Syc1 := Sy.cell 1; have Syc2 := Sy.cell 2; have SXc0 := SX.cell 0; have SXc1 := SX.cell 1; have SXc2 := SX.cell 2; simp at B0c0 B0c1 B0c2 Syc0 Syc1 Syc2 SXc0 SXc1 SXc2; have SXf0 := SX.frozen 0; have SXf1 := SX.frozen 1; have SXf2 := SX.frozen 2; have M := Lib.hid (metrc_before (p := T.phase) HW.out GX XL (by rfl) SX Ozl Oza Ozb Pzla Pzlb Pz)) | (clear B0c0 B0c1 B0c2 Syc0 Syc1 Syc2; have B0c0 := B0.cell 0; have B0c1 := B0.cell 1; have B0c2 := B0.cell 2; have Syc0 := Sy.cell 0; have Syc1 := Sy.cell 1; have Syc2 := Sy.cell 2; simp at B0c0 B0c1 B0c2 Syc0 Syc1 Syc2; refine (HRs.out _ Ava cva Avb cvb Ax cx (own_rd Ova) (own_rd Ovb) (own_rd Ox)).mono ?_; rintro e w7 ⟨Azl, czl, Aza, cza, Azb, czb, rfl, Ozl, Oza, Ozb, Pzla, Pzlb, Pz, h7⟩; replace Ox := own_past Ox h7; replace Oyl := own_past Oyl h7; replace Oya := own_past Oya h7; replace Oyb := own_past Oyb h7; replace Oz := own_past Oz h7; replace Ova := own_past Ova h7; replace Ovb := own_past Ovb h7; replace B0 := B0.past h7; replace Sy := Sy.past h7; replace Hb := Lib.hid (thenB Hb.out h7); replace HW := Lib.hid (thenB HW.out h7); have t11 : w6.heap.size ≤ w7.heap.size := h7.size; have Lzl := own_lo Ozl; have Uzl := own_hi Ozl; have Lza := own_lo Oza; have Uza := own_hi Oza; have Lzb := own_lo Ozb; have Uzb := own_hi Ozb; clear h7; clear B0c0 B0c1 B0c2 Syc0 Syc1 Syc2; have B0c0 := B0.cell 0; have B0c1 := B0.cell 1; have B0c2 := B0.cell 2; have Syc0 := Sy.cell 0; have Syc1 := Sy.cell 1; have Syc2 := Sy.cell 2; simp at B0c0 B0c1 B0c2 Syc0 Syc1 Syc2; have M := Lib.hid (metrc_after (p := T.phase) HW.out (by omega) Ozl Oza Ozb Pzla Pzlb Pz)) | (have bx : Below w6.heap.size w6 (w6.alloc (.cells #[.slice none 0 0, .slice none 0 0, .int .i64 0] 35)) := (Below.refl _ _).alloc (Nat.le_refl _) _; have SX := Blk.new w6 35 #[.slice none 0 0, .slice none 0 0, .int .i64 0]; have VSX : w6.heap.size < (w6.alloc (.cells #[.slice none 0 0, .slice none 0 0, .int .i64 0] 35)).heap.size := (by simp); replace Ox := own_past Ox bx; replace Oyl := own_past Oyl bx; replace Oya := own_past Oya bx; replace Oyb := own_past Oyb bx; replace Oz := own_past Oz bx; replace Ova := own_past Ova bx; replace Ovb := own_past Ovb bx; replace B0 := B0.past bx; replace Sy := Sy.past bx; replace Hb := Lib.hid (thenB Hb.out bx); replace HW := Lib.hid (thenB HW.out bx); clear bx; have GX : (w5.drew).heap.size ≤ w6.heap.size := (by first | omega | exact Nat.le_refl _); have nzx0 : ¬ (w1.heap.size = w6.heap.size) := (by omega); have nzy0 : ¬ (w6.heap.size = w1.heap.size) := (by omega); have XL := SX.lt; clear B0c0 B0c1 B0c2 Syc0 Syc1 Syc2; have B0c0 := B0.cell 0; have B0c1 := B0.cell 1; have B0c2 := B0.cell 2; have Syc0 := Sy.cell 0; have Syc1 := Sy.cell 1; have Syc2 := Sy.cell 2; have SXc0 := SX.cell 0; have SXc1 := SX.cell 1; have SXc2 := SX.cell 2; simp at B0c0 B0c1 B0c2 Syc0 Syc1 Syc2 SXc0 SXc1 SXc2; refine (HRs.out _ Ava cva Avb cvb Ax cx (own_rd Ova) (own_rd Ovb) (own_rd Ox)).mono ?_; rintro e w7 ⟨Azl, czl, Aza, cza, Azb, czb, rfl, Ozl, Oza, Ozb, Pzla, Pzlb, Pz, h7⟩; replace Ox := own_past Ox h7; replace Oyl := own_past Oyl h7; replace Oya := own_past Oya h7; replace Oyb := own_past Oyb h7; replace Oz := own_past Oz h7; replace Ova := own_past Ova h7; replace Ovb := own_past Ovb h7; replace B0 := B0.past h7; replace Sy := Sy.past h7; replace SX := SX.past h7; replace Hb := Lib.hid (thenB Hb.out h7); replace HW := Lib.hid (thenB HW.out h7); have t11 : (w6.alloc (.cells #[.slice none 0 0, .slice none 0 0, .int .i64 0] 35)).heap.size ≤ w7.heap.size := h7.size; have Lzl := own_lo Ozl; have Uzl := own_hi Ozl; have Lza := own_lo Oza; have Uza := own_hi Oza; have Lzb := own_lo Ozb; have Uzb := own_hi Ozb; clear h7; clear B0c0 B0c1 B0c2 Syc0 Syc1 Syc2 SXc0 SXc1 SXc2; have B0c0 := B0.cell 0; have B0c1 := B0.cell 1; have B0c2 := B0.cell 2; have Syc0 := Sy.cell 0; have Syc1 := Sy.cell 1; have Syc2 := Sy.cell 2; have SXc0 := SX.cell 0; have SXc1 := SX.cell 1; have SXc2 := SX.cell 2; simp at B0c0 B0c1 B0c2 Syc0 Syc1 Syc2 SXc0 SXc1 SXc2; have SXf0 := SX.frozen 0; have SXf1 := SX.frozen 1; have SXf2 := SX.frozen 2; have M := Lib.hid (metrc_before (p := T.phase) HW.out GX XL (by rfl) SX Ozl Oza Ozb Pzla Pzlb Pz))))
    all_goals (go_wp2_with fail; go_meet; exact ⟨_, _, _, _, _, _, _, rfl, rfl, rfl, M⟩)
  case rest =>
  obtain ⟨gt, Atl, ctl, Ata, cta, Atb, ctb, rfl, rfl, rfl, HM⟩ := hcut
  obtain ⟨⟨glt, St, Ota, Otb, Pt, Nta, Ntb, bx⟩, Otl, Ptla, Ptlb, Ntl⟩ := HM.out
  clear HM
  replace Ox := own_past Ox bx
  replace Oyl := own_past Oyl bx
  replace Oya := own_past Oya bx
  replace Oyb := own_past Oyb bx
  replace Oz := own_past Oz bx
  replace B0 := B0.past bx
  replace Sy := Sy.past bx
  replace Hb := Lib.hid (thenB Hb.out bx)
  have t10 : (w5.drew).heap.size ≤ wc.heap.size := bx.size
  have VSt := St.lt
  have Ltl := own_lo Otl
  have Utl := own_hi Otl
  have Lta := own_lo Ota
  have Uta := own_hi Ota
  have Ltb := own_lo Otb
  have Utb := own_hi Otb
  clear bx
  obtain ⟨w6, hwc⟩ : ∃ W, W = wc := ⟨_, rfl⟩
  subst hwc
  rw [HYl.out, HZl.out]
  have rnz : ¬ ((r : Int) = 0) := by omega
  have qe : (x.length : Int).tdiv (r : Int) = (q : Int) := by rw [Int.tdiv_eq_ediv_of_nonneg (by omega), Hq.out]; exact (Int.natCast_ediv _ _).symm
  have q1 := Go.IntWalk.i64_quo (x.length : Int) (r : Int) (by omega)
  have q2 : IntKind.i64.wrap (q : Int) = (q : Int) := Go.IntWalk.i64_in _ (by omega)
  have tq : ((q : Int) != (q : Int)) = false := by simp
  clear B0c0 B0c1 B0c2 Syc0 Syc1 Syc2
  have B0c0 := B0.cell 0
  have B0c1 := B0.cell 1
  have B0c2 := B0.cell 2
  have Syc0 := Sy.cell 0
  have Syc1 := Sy.cell 1
  have Syc2 := Sy.cell 2
  have Stc0 := St.cell 0
  have Stc1 := St.cell 1
  have Stc2 := St.cell 2
  simp at B0c0 B0c1 B0c2 Syc0 Syc1 Syc2 Stc0 Stc1 Stc2
  have ry := Lib.hid (own_rd Oyl)
  have rz := Lib.hid (own_rd Oz)
  go_wp2_with fail
  have e2 := B0.cell 2
  simp at e2
  clear B0c0 B0c1 B0c2 Syc0 Syc1 Syc2 Stc0 Stc1 Stc2
  clear B0 Sy St Ox Lx Ux Oyl Lyl Uyl Oya Lya Uya Oyb Lyb Uyb Oz Lz Uz Otl Ltl Utl Ota Lta Uta Otb Ltb Utb
  go_loopw [75] (fun i wr => ∃ j : Nat, j ≤ q ∧ i = .int .i64 j ∧ Hid (∃ n, wr = w6.drewN n)) (fun i _ => q - (intOf i).toNat)
  case atStart => exact ⟨0, by omega, rfl, 0, rfl⟩
  case round =>
    obtain ⟨j, hj, rfl, HD⟩ := hrel
    have hd : ∀ p, wr.cell? p = w6.cell? p := by obtain ⟨n, hn⟩ := HD.out; subst hn; exact fun _ => rfl
    by_cases hlt : j < q
    · obtain ⟨a1, rfl, _, q1⟩ := ry.out.at_ (k := j) (by rw [HYl.out]; exact hlt)
      obtain ⟨a2, rfl, _, q2⟩ := rz.out.at_ (k := j) (by rw [HZl.out]; exact hlt)
      have k1 := (hd _).trans (q1 j (by rw [HYl.out]; exact hlt))
      have k2 := (hd _).trans (q2 j (by rw [HZl.out]; exact hlt))
      have k3 := (hd _).trans e2
      rw [HYZ.out j hlt] at k1
      obtain ⟨z, hz⟩ : ∃ z, z = zs.getD j 0 := ⟨_, rfl⟩
      rw [← hz] at k1 k2
      have tz : (wrapW z k != wrapW z k) = false := by simp
      have hcw : Hid (∀ kk, Calls Try.prog 16 #[.int .i64 z, .int .i64 k] (wr.drewN kk) fun e w' => e = .returned (.int .i64 (wrapW z k)) ∧ ∃ m, w' = wr.drewN m) := fun kk => (implWrapWord_any _ _ _).mono (by rintro e w' ⟨rfl, rfl⟩; rw [wrapWord_in (by omega) (by omega)]; exact ⟨rfl, kk, rfl⟩)
      have jq : (j : Int) < (q : Int) := by omega
      have j0 : (0 : Int) ≤ (j : Int) := by omega
      clear q1 q2 hd hz
      go_wp2
      go_quiet (first | (go_at_call 16; exact hcw.out _))
      go_wp2
      go_roundw
      case rel => exact ⟨j + 1, by omega, by go_num, by obtain ⟨n, rfl⟩ := HD.out; exact ⟨_, World.drewN_drewN ..⟩⟩
      case measure => simp [intOf]; omega
    · obtain rfl : j = q := by omega
      go_wp2
      go_ret
      obtain ⟨n, rfl⟩ := HD.out
      exact ⟨rfl, below_drewN' Hb.out _⟩
set_option maxRecDepth 100000 in
theorem lifted (os : Os) (started : os.Started) (H : Type) (enc : TypeId × Value → H) :
    ReturnsInHanded {} Try.checked os 4 .any (Rows.fnCombWrappedSpec.pre6 enc Try.prog Try.f4 Rows.fnCombWrappedRow.domain false) (Rows.fnCombWrappedSpec.post enc Try.prog Try.f4 false true false false) := by
  refine returnsInHanded_of_change (C := Try.checked) own started (by kernel_rfl) Try.func4
    (ChangeSpec.witness6 (enc := enc) (C := Try.checked) false ⟨#[], #[.slice none 0 0], []⟩ 8 (by kernel_rfl) (by kernel_rfl) (by kernel_rfl) (by kernel_rfl)) ?_
  intro W base args ds gs before hval0 hW hcnd _
  have hval : ∀ (j : Nat) t v, Try.f4.params[j]? = some t → args[j]? = some v → Value.okWide Try.prog W .any base t v := hval0
  have hW' := hW
  obtain ⟨p, q, hA0, hV, rfl, hfz, hnd⟩ := hW
  have hA : DataW.TrodAll enc Try.prog W 0 (fun _ => true) true Try.f4.params.toList args.toList ds p := hA0
  rw [Try.params4] at hA hval
  obtain ⟨v0, vs0, d0, ds0, p0, q0, hargs, rfl, rfl, h0, g0⟩ := trodAll_cons hA
  obtain ⟨rfl, rfl, rfl⟩ := trodAll_nil g0
  obtain rfl : args = #[v0] := by cases args; simp_all
  obtain ⟨rfl, rfl⟩ := trodVars_none hV
  have k0 := h0
  have lt0 : ∀ x ∈ p0, x.block < W.heap.size := by obtain ⟨m, hm⟩ := k0; exact DataW.trod_lt m _ _ _ hm
  obtain ⟨A0, z0, c0, rfl, l0, m0, r0⟩ := arg_bytes Try.underlying22 Try.underlying5 (by kernel_rfl) (hval 0 22 v0 rfl rfl) h0
  clear hA0 hval0
  refine (walkw W A0 z0 c0 l0 m0 r0).mono fun e W' ⟨he, bel⟩ => ?_
  subst he
  exact ⟨_, rfl, _, _, _, [], _, [], hW', trodAll_mk1 (shut_bool Try.underlying4 _), (trodAll_cons_mk (Below.trod laidOut (by kernel_rfl) (of_decide_eq_true (by kernel_rfl)) k0 bel lt0) trodAll_mk0), rfl, bel.frame _, fun h => by cases h⟩
theorem over : Rows.fnCombWrappedRow.holds Try.pinned (OpenSpec.ofChange Rows.fnCombWrappedSpec) :=
  OpenClaim.holds_of_wide 4 Try.f4 rfl rfl rfl rfl rfl rfl rfl ⟨rfl, rfl, rfl, rfl, rfl⟩ rfl rfl rfl rfl rfl (by kernel_rfl) Try.func4 (by kernel_rfl)
    (of_decide_eq_true (by kernel_rfl)) (by unfold Func.isWrapper; first | (rw [if_pos (by decide +kernel)]; kernel_rfl) | (rw [if_neg (by decide +kernel)]; exact ⟨rfl, rfl⟩))
    (fun os started H enc _ => lifted os started H enc)
theorem proved : Rows.FnCombWrappedSaid := over

end Go.Proofs.Ytfplecbacgcjgaa.combWrapped
