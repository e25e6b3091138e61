/- A comb that is stopped goes on as if it had not been, and its state stays one. No condition. -/
import Derived.Test.YtfplecbacgcjgaaPCut2
import Derived.Test.YtfplecbacgcjgaaGenC
import Derived.Test.YtfplecbacgcjgaaClear
import Derived.Test.YtfplecbacgcjgaaLawAcc
namespace Go.Proofs.Ytfplecbacgcjgaa.combCut
open Go.ChangeShapes Go.WideShapes Go.ChangeAt Go.RowKit
set_option linter.unusedVariables false
set_option linter.unusedSimpArgs false
set_option maxRecDepth 100000 in
set_option maxHeartbeats 1000000 in
theorem walkw (w : World) (A0 : Option Addr) (n0 c0 : Nat) (l0 : n0 ≤ c0) (m0 : c0 ≤ maxLen) (r0 : RdB w w.heap.size A0 n0) :
    Calls Try.prog 9 #[.slice A0 n0 c0] w fun e w' => e = .returned (.bool true) ∧ Below w.heap.size w w' := by
  unfold maxLen at m0
  by_cases hn : n0 ≤ 1048576
  case neg =>
    have hx : 1048576 < n0 := by omega
    clear hn
    go_enter Try.func9, Try.ntmps9
    go_wp2
    go_ret
    exact ⟨rfl, Below.refl _ _⟩
  have Hb : Hid (Below w.heap.size w w) := Below.refl _ _
  go_enter Try.func9, Try.ntmps9
  go_wp2_with fail
  refine (MakeComb_any _ _ _ _ (r0.past Hb.out) (by omega)).mono ?_
  rintro e w1 ⟨o, r, k, rfl, o1, o2, r1, r2, k1, k2, h1⟩
  replace Hb := Lib.hid (thenB Hb.out h1)
  have t1 : w.heap.size ≤ w1.heap.size := h1.size
  clear h1
  have bx : Below w1.heap.size w1 (w1.alloc (.cells #[.int .i64 o, .int .i64 r, .int .i64 k] 24)) := (Below.refl _ _).alloc (Nat.le_refl _) _
  have B0 := Blk.new w1 24 #[.int .i64 o, .int .i64 r, .int .i64 k]
  have VB0 : w1.heap.size < (w1.alloc (.cells #[.int .i64 o, .int .i64 r, .int .i64 k] 24)).heap.size := by simp
  replace Hb := Lib.hid (thenB Hb.out bx)
  clear bx
  have B0c0 := B0.cell 0
  have B0c1 := B0.cell 1
  have B0c2 := B0.cell 2
  simp at B0c0 B0c1 B0c2
  go_wp2_with fail
  refine (fresh_any _ _ _ _ _ (r0.past Hb.out) (by omega) (by omega) (by omega)).mono ?_
  rintro e w2 ⟨Af, cf, nf, rfl, hnf, Rf, h2⟩
  replace B0 := B0.past h2
  replace Hb := Lib.hid (thenB Hb.out h2)
  have t3 : (w1.alloc (.cells #[.int .i64 o, .int .i64 r, .int .i64 k] 24)).heap.size ≤ w2.heap.size := h2.size
  clear h2
  clear B0c0 B0c1 B0c2
  have B0c0 := B0.cell 0
  have B0c1 := B0.cell 1
  have B0c2 := B0.cell 2
  simp at B0c0 B0c1 B0c2
  go_wp2_with fail
  refine (MakeSequence_any _ _ _ 25 50 _ Rf (by omega) (by omega) (by omega) (by omega) (by omega)).mono ?_
  rintro e w3 ⟨Ax, cx, x, rfl, Hx, Ox, h3⟩
  replace B0 := B0.past h3
  replace Hb := Lib.hid (thenB Hb.out h3)
  replace Rf := Rf.past h3
  have t4 : w2.heap.size ≤ w3.heap.size := h3.size
  have Lx := own_lo Ox
  have Ux := own_hi Ox
  clear h3
  clear Rf
  clear B0c0 B0c1 B0c2
  have B0c0 := B0.cell 0
  have B0c1 := B0.cell 1
  have B0c2 := B0.cell 2
  simp at B0c0 B0c1 B0c2
  go_wp2_with fail
  refine (fresh_any _ _ _ _ _ (r0.past Hb.out) (by omega) (by omega) (by omega)).mono ?_
  rintro e w4 ⟨Af, cf, nf, rfl, hnf, Rf, h4⟩
  replace Ox := own_past Ox h4
  replace B0 := B0.past h4
  replace Hb := Lib.hid (thenB Hb.out h4)
  have t5 : w3.heap.size ≤ w4.heap.size := h4.size
  clear h4
  clear B0c0 B0c1 B0c2
  have B0c0 := B0.cell 0
  have B0c1 := B0.cell 1
  have B0c2 := B0.cell 2
  simp at B0c0 B0c1 B0c2
  go_wp2_with fail
  refine (MakeSequence_any _ _ _ 25 50 _ Rf (by omega) (by omega) (by omega) (by omega) (by omega)).mono ?_
  rintro e w5 ⟨Az, cz, z, rfl, Hz, Oz, h5⟩
  replace Ox := own_past Ox h5
  replace B0 := B0.past h5
  replace Hb := Lib.hid (thenB Hb.out h5)
  replace Rf := Rf.past h5
  have t6 : w4.heap.size ≤ w5.heap.size := h5.size
  have Lz := own_lo Oz
  have Uz := own_hi Oz
  clear h5
  clear Rf
  have hxs : ∀ v ∈ x, -2551 ≤ v ∧ v ≤ 2551 := fun v hv => by have := Hx.2 v hv; omega
  have xl : x.length ≤ 25 := by have := Hx.1; omega
  clear Hx
  have hzs : ∀ v ∈ z, -2551 ≤ v ∧ v ≤ 2551 := fun v hv => by have := Hz.2 v hv; omega
  have zl : z.length ≤ 25 := by have := Hz.1; omega
  clear Hz
  have hok := comb_ok o1 o2 r1 r2 (by omega) k2
  obtain ⟨Y1, Y2, T1, T2, f1, f2, f3, f4, f5, q1, q2, q3, q4, y1, y2⟩ := cut_runs (k := k) (show (0 : Int) ≤ 2551 by omega) hxs hzs (by omega) r1 r2 o1 o2 (by omega) (by omega) k2
  clear hxs hzs
  have hX : (x ++ z).length ≤ 50 := by rw [List.length_append]; omega
  have hY : (Y1 ++ Y2).length ≤ 50 := by rw [List.length_append]; omega
  have HNi := Lib.hid (implNew0 hok o2)
  have HRx := Lib.hid (implRun0 f1 (by omega) (show x.length ≤ 1000 by omega))
  have HRw := Lib.hid (implRun0 f3 (by omega) (show (x ++ z).length ≤ 1000 by omega))
  have HRz : Hid (∀ W A c D d B b, Rd W W.heap.size A T1.sums → Rd W W.heap.size D T1.delays → Rd W W.heap.size B z → Calls Try.prog 19 #[.agg #[.int .i64 o, .int .i64 r, .int .i64 k], .agg #[.slice A T1.sums.length c, .slice D T1.delays.length d, .int .i64 T1.phase], .slice B z.length b] W (RetRC W (Y2, T2, true))) := fun W A c D d B b h1 h2 h3 => by have := implRunComb_any o r k A c T1.sums D d T1.delays T1.phase B b z W h1 h2 h3 (by omega) (by omega) (by omega); rw [f2] at this; exact this
  have HI1 : Hid (∀ W A c D d, Rd W W.heap.size A T1.sums → Rd W W.heap.size D T1.delays → Calls Try.prog 34 #[.agg #[.int .i64 o, .int .i64 r, .int .i64 k], .agg #[.slice A T1.sums.length c, .slice D T1.delays.length d, .int .i64 T1.phase]] W fun e w' => e = .returned (.bool true) ∧ Below W.heap.size W w') := fun W A c D d h1 h2 => by have := implIsCombState_any o r k A c T1.sums D d T1.delays T1.phase W h1 h2 (by omega) (by omega); rw [f4] at this; exact this
  have HI2 : Hid (∀ W A c D d, Rd W W.heap.size A T2.sums → Rd W W.heap.size D T2.delays → Calls Try.prog 31 #[.agg #[.int .i64 o, .int .i64 r, .int .i64 k], .agg #[.slice A T2.sums.length c, .slice D T2.delays.length d, .int .i64 T2.phase]] W fun e w' => e = .returned (.bool true) ∧ Below W.heap.size W w') := fun W A c D d h1 h2 => by have := specIsCombState_any o r k A c T2.sums D d T2.delays T2.phase W h1 h2 (by omega) (by omega); rw [f5] at this; exact this
  have HC : Hid (∀ W A c D d, Rd W W.heap.size A T2.sums → Rd W W.heap.size D T2.delays → Calls Try.prog 41 #[.agg #[.int .i64 o, .int .i64 r, .int .i64 k], .agg #[.slice A T2.sums.length c, .slice D T2.delays.length d, .int .i64 T2.phase]] W (RetCSB W (⟨T2.sums, zeros o, 0⟩, true))) := fun W A c D d h1 h2 => by have := implClearComb_any o r k A c T2.sums D d T2.delays T2.phase W h1 h2 (by omega) (by omega); rw [clearC_yes f5] at this; simpa using this
  obtain ⟨X, hXX⟩ : ∃ X, X = x ++ z := ⟨_, rfl⟩
  obtain ⟨Y, hYY⟩ : ∃ Y, Y = Y1 ++ Y2 := ⟨_, rfl⟩
  rw [← hXX] at HRw hX
  rw [← hYY] at HRw hY
  have HX := Lib.hid hXX
  clear hXX
  have HY := Lib.hid hYY
  clear hYY
  obtain ⟨s1, d1, p1⟩ := T1
  obtain ⟨s2, d2, p2⟩ := T2
  dsimp only at q1 q2 q3 q4 HRz HRx HRw HI1 HI2 HC
  have s1b : s1.length ≤ 6 := by omega
  have d1b : d1.length ≤ 6 := by omega
  have s2b : s2.length ≤ 6 := by omega
  have d2b : d2.length ≤ 6 := by omega
  clear q1 q2 q3 q4 f1 f2 f3 f4 f5
  have Hok := Lib.hid hok
  clear hok
  have bx : Below w5.heap.size w5 w5.drew := (Below.refl _ _).drew
  replace Ox := own_past Ox bx
  replace Oz := own_past Oz bx
  replace B0 := B0.past bx
  replace Hb := Lib.hid (thenB Hb.out bx)
  clear bx
  have t7 : w5.heap.size ≤ w5.drew.heap.size := Nat.le_refl _
  clear B0c0 B0c1 B0c2
  have B0c0 := B0.cell 0
  have B0c1 := B0.cell 1
  have B0c2 := B0.cell 2
  simp at B0c0 B0c1 B0c2
  go_upto_region 6 with fail
  go_cut [6, 7, 8] from 28 to 36 (fun u0 u1 u2 wx => ∃ g Al cl Aa ca Ab cb, u0 = .slice Al Y1.length cl ∧ u1 = .pointer (some ⟨g, 0, none⟩) ∧ u2 = .bool true ∧ Hid (MetRC (w5.drew) g Y1 s1 d1 p1 Al cl Aa ca Ab cb wx))
  case first =>
    have HW : Hid (Below (w5.drew).heap.size (w5.drew) (w5.drew)) := Below.refl _ _
    go_region_held3 (fun w' => w'.cell? ⟨w1.heap.size, 0, none⟩ = some (.int .i64 o) ∧ w'.cell? ⟨w1.heap.size, 1, none⟩ = some (.int .i64 r) ∧ w'.cell? ⟨w1.heap.size, 2, none⟩ = some (.int .i64 k)) (first | go_keep)
      (first
        | (go_at_call 20; first | (replace SX := SX; clear B0c0 B0c1 B0c2; have B0c0 := B0.cell 0; have B0c1 := B0.cell 1; have B0c2 := B0.cell 2; have SXc0 := SX.cell 0; have SXc1 := SX.cell 1; have SXc2 := SX.cell 2; simp at B0c0 B0c1 B0c2 SXc0 SXc1 SXc2; refine (HNi.out _).mono ?_; rintro e w6 ⟨Aja, cja, Ajb, cjb, rfl, Oja, Ojb, Pj, h6⟩; replace Ox := own_past Ox h6; replace Oz := own_past Oz h6; replace B0 := B0.past h6; replace SX := SX.past h6; replace Hb := Lib.hid (thenB Hb.out h6); replace HW := Lib.hid (thenB HW.out h6); have t8 : w5.drew.heap.size ≤ w6.heap.size := h6.size; have Lja := own_lo Oja; have Uja := own_hi Oja; have Ljb := own_lo Ojb; have Ujb := own_hi Ojb; clear h6; clear B0c0 B0c1 B0c2 SXc0 SXc1 SXc2; have B0c0 := B0.cell 0; have B0c1 := B0.cell 1; have B0c2 := B0.cell 2; have SXc0 := SX.cell 0; have SXc1 := SX.cell 1; have SXc2 := SX.cell 2; simp at B0c0 B0c1 B0c2 SXc0 SXc1 SXc2) | (clear B0c0 B0c1 B0c2; have B0c0 := B0.cell 0; have B0c1 := B0.cell 1; have B0c2 := B0.cell 2; simp at B0c0 B0c1 B0c2; refine (HNi.out _).mono ?_; rintro e w6 ⟨Aja, cja, Ajb, cjb, rfl, Oja, Ojb, Pj, h6⟩; replace Ox := own_past Ox h6; replace Oz := own_past Oz h6; replace B0 := B0.past h6; replace Hb := Lib.hid (thenB Hb.out h6); replace HW := Lib.hid (thenB HW.out h6); have t8 : w5.drew.heap.size ≤ w6.heap.size := h6.size; have Lja := own_lo Oja; have Uja := own_hi Oja; have Ljb := own_lo Ojb; have Ujb := own_hi Ojb; clear h6; clear B0c0 B0c1 B0c2; have B0c0 := B0.cell 0; have B0c1 := B0.cell 1; have B0c2 := B0.cell 2; simp at B0c0 B0c1 B0c2) | (have bx : Below w5.drew.heap.size w5.drew (w5.drew.alloc (.cells #[.slice none 0 0, .slice none 0 0, .int .i64 0] 35)) := (Below.refl _ _).alloc (Nat.le_refl _) _; have SX := Blk.new w5.drew 35 #[.slice none 0 0, .slice none 0 0, .int .i64 0]; have VSX : w5.drew.heap.size < (w5.drew.alloc (.cells #[.slice none 0 0, .slice none 0 0, .int .i64 0] 35)).heap.size := (by simp); replace Ox := own_past Ox bx; replace Oz := own_past Oz bx; replace B0 := B0.past bx; replace Hb := Lib.hid (thenB Hb.out bx); replace HW := Lib.hid (thenB HW.out bx); clear bx; replace SX : Blk ((w5.drew.alloc (.cells #[.slice none 0 0, .slice none 0 0, .int .i64 0] 35))) w5.heap.size 35 #[.slice none 0 0, .slice none 0 0, .int .i64 0] := SX; have GX : (w5.drew).heap.size ≤ w5.heap.size := (by first | omega | exact Nat.le_refl _); have nzx0 : ¬ (w1.heap.size = w5.heap.size) := (by omega); have nzy0 : ¬ (w5.heap.size = w1.heap.size) := (by omega); clear B0c0 B0c1 B0c2; have B0c0 := B0.cell 0; have B0c1 := B0.cell 1; have B0c2 := B0.cell 2; have SXc0 := SX.cell 0; have SXc1 := SX.cell 1; have SXc2 := SX.cell 2; simp at B0c0 B0c1 B0c2 SXc0 SXc1 SXc2; refine (HNi.out _).mono ?_; rintro e w6 ⟨Aja, cja, Ajb, cjb, rfl, Oja, Ojb, Pj, h6⟩; replace Ox := own_past Ox h6; replace Oz := own_past Oz h6; replace B0 := B0.past h6; replace SX := SX.past h6; replace Hb := Lib.hid (thenB Hb.out h6); replace HW := Lib.hid (thenB HW.out h6); have t8 : (w5.drew.alloc (.cells #[.slice none 0 0, .slice none 0 0, .int .i64 0] 35)).heap.size ≤ w6.heap.size := h6.size; have Lja := own_lo Oja; have Uja := own_hi Oja; have Ljb := own_lo Ojb; have Ujb := own_hi Ojb; clear h6; clear B0c0 B0c1 B0c2 SXc0 SXc1 SXc2; have B0c0 := B0.cell 0; have B0c1 := B0.cell 1; have B0c2 := B0.cell 2; have SXc0 := SX.cell 0; have SXc1 := SX.cell 1; have SXc2 := SX.cell 2; simp at B0c0 B0c1 B0c2 SXc0 SXc1 SXc2))
        | (go_at_call 19; first | (replace SX := SX; have XL := SX.lt; clear B0c0 B0c1 B0c2; have B0c0 := B0.cell 0; have B0c1 := B0.cell 1; have B0c2 := B0.cell 2; have SXc0 := SX.cell 0; have SXc1 := SX.cell 1; have SXc2 := SX.cell 2; simp at B0c0 B0c1 B0c2 SXc0 SXc1 SXc2; refine (HRx.out _ Aja cja Ajb cjb Ax cx (own_rd Oja) (own_rd Ojb) (own_rd Ox)).mono ?_; rintro e w7 ⟨Azl, czl, Aza, cza, Azb, czb, rfl, Ozl, Oza, Ozb, Pzla, Pzlb, Pz, h7⟩; replace Ox := own_past Ox h7; replace Oz := own_past Oz h7; replace Oja := own_past Oja h7; replace Ojb := own_past Ojb h7; replace B0 := B0.past h7; replace SX := SX.past h7; replace Hb := Lib.hid (thenB Hb.out h7); replace HW := Lib.hid (thenB HW.out h7); have t9 : w6.heap.size ≤ w7.heap.size := h7.size; have Lzl := own_lo Ozl; have Uzl := own_hi Ozl; have Lza := own_lo Oza; have Uza := own_hi Oza; have Lzb := own_lo Ozb; have Uzb := own_hi Ozb; clear h7; clear B0c0 B0c1 B0c2 SXc0 SXc1 SXc2; have B0c0 := B0.cell 0; have B0c1 := B0.cell 1; have B0c2 := B0.cell 2; have SXc0 := SX.cell 0; have SXc1 := SX.cell 1; have SXc2 := SX.cell 2; simp at B0c0 B0c1 B0c2 SXc0 SXc1 SXc2; have SXf0 := SX.frozen 0; have SXf1 := SX.frozen 1; have SXf2 := SX.frozen 2; have M := Lib.hid (metrc_before (p := p1) HW.out GX XL (by rfl) SX Ozl Oza Ozb Pzla Pzlb Pz)) | (clear B0c0 B0c1 B0c2; have B0c0 := B0.cell 0; have B0c1 := B0.cell 1; have B0c2 := B0.cell 2; simp at B0c0 B0c1 B0c2; refine (HRx.out _ Aja cja Ajb cjb Ax cx (own_rd Oja) (own_rd Ojb) (own_rd Ox)).mono ?_; rintro e w7 ⟨Azl, czl, Aza, cza, Azb, czb, rfl, Ozl, Oza, Ozb, Pzla, Pzlb, Pz, h7⟩; replace Ox := own_past Ox h7; replace Oz := own_past Oz h7; replace Oja := own_past Oja h7; replace Ojb := own_past Ojb h7; replace B0 := B0.past h7; replace Hb := Lib.hid (thenB Hb.out h7); replace HW := Lib.hid (thenB HW.out h7); have t9 : w6.heap.size ≤ w7.heap.size := h7.size; have Lzl := own_lo Ozl; have Uzl := own_hi Ozl; have Lza := own_lo Oza; have Uza := own_hi Oza; have Lzb := own_lo Ozb; have Uzb := own_hi Ozb; clear h7; clear B0c0 B0c1 B0c2; have B0c0 := B0.cell 0; have B0c1 := B0.cell 1; have B0c2 := B0.cell 2; simp at B0c0 B0c1 B0c2; have M := Lib.hid (metrc_after (p := p1) HW.out (by omega) Ozl Oza Ozb Pzla Pzlb Pz)) | (have bx : Below w6.heap.size w6 (w6.alloc (.cells #[.slice none 0 0, .slice none 0 0, .int .i64 0] 35)) := (Below.refl _ _).alloc (Nat.le_refl _) _; have SX := Blk.new w6 35 #[.slice none 0 0, .slice none 0 0, .int .i64 0]; have VSX : w6.heap.size < (w6.alloc (.cells #[.slice none 0 0, .slice none 0 0, .int .i64 0] 35)).heap.size := (by simp); replace Ox := own_past Ox bx; replace Oz := own_past Oz bx; replace Oja := own_past Oja bx; replace Ojb := own_past Ojb bx; replace B0 := B0.past bx; replace Hb := Lib.hid (thenB Hb.out bx); replace HW := Lib.hid (thenB HW.out bx); clear bx; have GX : (w5.drew).heap.size ≤ w6.heap.size := (by first | omega | exact Nat.le_refl _); have nzx0 : ¬ (w1.heap.size = w6.heap.size) := (by omega); have nzy0 : ¬ (w6.heap.size = w1.heap.size) := (by omega); have XL := SX.lt; clear B0c0 B0c1 B0c2; have B0c0 := B0.cell 0; have B0c1 := B0.cell 1; have B0c2 := B0.cell 2; have SXc0 := SX.cell 0; have SXc1 := SX.cell 1; have SXc2 := SX.cell 2; simp at B0c0 B0c1 B0c2 SXc0 SXc1 SXc2; refine (HRx.out _ Aja cja Ajb cjb Ax cx (own_rd Oja) (own_rd Ojb) (own_rd Ox)).mono ?_; rintro e w7 ⟨Azl, czl, Aza, cza, Azb, czb, rfl, Ozl, Oza, Ozb, Pzla, Pzlb, Pz, h7⟩; replace Ox := own_past Ox h7; replace Oz := own_past Oz h7; replace Oja := own_past Oja h7; replace Ojb := own_past Ojb h7; replace B0 := B0.past h7; replace SX := SX.past h7; replace Hb := Lib.hid (thenB Hb.out h7); replace HW := Lib.hid (thenB HW.out h7); have t9 : (w6.alloc (.cells #[.slice none 0 0, .slice none 0 0, .int .i64 0] 35)).heap.size ≤ w7.heap.size := h7.size; have Lzl := own_lo Ozl; have Uzl := own_hi Ozl; have Lza := own_lo Oza; have Uza := own_hi Oza; have Lzb := own_lo Ozb; have Uzb := own_hi Ozb; clear h7; clear B0c0 B0c1 B0c2 SXc0 SXc1 SXc2; have B0c0 := B0.cell 0; have B0c1 := B0.cell 1; have B0c2 := B0.cell 2; have SXc0 := SX.cell 0; have SXc1 := SX.cell 1; have SXc2 := SX.cell 2; simp at B0c0 B0c1 B0c2 SXc0 SXc1 SXc2; have SXf0 := SX.frozen 0; have SXf1 := SX.frozen 1; have SXf2 := SX.frozen 2; have M := Lib.hid (metrc_before (p := p1) HW.out GX XL (by rfl) SX Ozl Oza Ozb Pzla Pzlb Pz))))
    all_goals (go_wp2_with fail; go_meet; exact ⟨_, _, _, _, _, _, _, rfl, rfl, rfl, M⟩)
  case rest =>
  obtain ⟨gy, Ayl, cyl, Aya, cya, Ayb, cyb, rfl, rfl, rfl, HM⟩ := hcut
  obtain ⟨⟨gly, Sy, Oya, Oyb, Py, Nya, Nyb, bx⟩, Oyl, Pyla, Pylb, Nyl⟩ := HM.out
  clear HM
  replace Ox := own_past Ox bx
  replace Oz := own_past Oz bx
  replace B0 := B0.past bx
  replace Hb := Lib.hid (thenB Hb.out bx)
  have t8 : (w5.drew).heap.size ≤ wc.heap.size := bx.size
  have VSy := Sy.lt
  have Lyl := own_lo Oyl
  have Uyl := own_hi Oyl
  have Lya := own_lo Oya
  have Uya := own_hi Oya
  have Lyb := own_lo Oyb
  have Uyb := own_hi Oyb
  clear bx
  obtain ⟨w6, hwc⟩ : ∃ W, W = wc := ⟨_, rfl⟩
  subst hwc
  clear B0c0 B0c1 B0c2
  have B0c0 := B0.cell 0
  have B0c1 := B0.cell 1
  have B0c2 := B0.cell 2
  have Syc0 := Sy.cell 0
  have Syc1 := Sy.cell 1
  have Syc2 := Sy.cell 2
  simp at B0c0 B0c1 B0c2 Syc0 Syc1 Syc2
  go_wp2_with fail
  refine (HRz.out _ Aya cya Ayb cyb Az cz (own_rd Oya) (own_rd Oyb) (own_rd Oz)).mono ?_
  rintro e w7 ⟨Aul, cul, Aua, cua, Aub, cub, rfl, Oul, Oua, Oub, Pula, Pulb, Pu, h7⟩
  replace Ox := own_past Ox h7
  replace Oz := own_past Oz h7
  replace Oyl := own_past Oyl h7
  replace Oya := own_past Oya h7
  replace Oyb := own_past Oyb h7
  replace B0 := B0.past h7
  replace Sy := Sy.past h7
  replace Hb := Lib.hid (thenB Hb.out h7)
  have t10 : w6.heap.size ≤ w7.heap.size := h7.size
  have Lul := own_lo Oul
  have Uul := own_hi Oul
  have Lua := own_lo Oua
  have Uua := own_hi Oua
  have Lub := own_lo Oub
  have Uub := own_hi Oub
  clear h7
  have bx : Below w7.heap.size w7 (w7.alloc (.cells #[.slice Aua s2.length cua, .slice Aub d2.length cub, .int .i64 p2] 35)) := (Below.refl _ _).alloc (Nat.le_refl _) _
  have Su := Blk.new w7 35 #[.slice Aua s2.length cua, .slice Aub d2.length cub, .int .i64 p2]
  have VSu : w7.heap.size < (w7.alloc (.cells #[.slice Aua s2.length cua, .slice Aub d2.length cub, .int .i64 p2] 35)).heap.size := by simp
  replace Ox := own_past Ox bx
  replace Oz := own_past Oz bx
  replace Oyl := own_past Oyl bx
  replace Oya := own_past Oya bx
  replace Oyb := own_past Oyb bx
  replace Oul := own_past Oul bx
  replace Oua := own_past Oua bx
  replace Oub := own_past Oub bx
  replace B0 := B0.past bx
  replace Sy := Sy.past bx
  replace Hb := Lib.hid (thenB Hb.out bx)
  clear bx
  clear B0c0 B0c1 B0c2 Syc0 Syc1 Syc2
  have B0c0 := B0.cell 0
  have B0c1 := B0.cell 1
  have B0c2 := B0.cell 2
  have Syc0 := Sy.cell 0
  have Syc1 := Sy.cell 1
  have Syc2 := Sy.cell 2
  have Suc0 := Su.cell 0
  have Suc1 := Su.cell 1
  have Suc2 := Su.cell 2
  simp at B0c0 B0c1 B0c2 Syc0 Syc1 Syc2 Suc0 Suc1 Suc2
  clear B0c0 B0c1 B0c2 Syc0 Syc1 Syc2 Suc0 Suc1 Suc2
  go_wp2_with fail
  obtain ⟨w8, hww8⟩ : ∃ W, W = (w7.alloc (.cells #[.slice Aua s2.length cua, .slice Aub d2.length cub, .int .i64 p2] 35)) := ⟨_, rfl⟩
  rw [← hww8] at Hb B0 Sy Su Ox Oz Oyl Oya Oyb Oul Oua Oub VSu ⊢
  clear hww8
  have bx : Below w8.heap.size w8 w8.drew := (Below.refl _ _).drew
  replace Ox := own_past Ox bx
  replace Oz := own_past Oz bx
  replace Oyl := own_past Oyl bx
  replace Oya := own_past Oya bx
  replace Oyb := own_past Oyb bx
  replace Oul := own_past Oul bx
  replace Oua := own_past Oua bx
  replace Oub := own_past Oub bx
  replace B0 := B0.past bx
  replace Sy := Sy.past bx
  replace Su := Su.past bx
  replace Hb := Lib.hid (thenB Hb.out bx)
  clear bx
  have t12 : w8.heap.size ≤ w8.drew.heap.size := Nat.le_refl _
  have B0c0 := B0.cell 0
  have B0c1 := B0.cell 1
  have B0c2 := B0.cell 2
  have Syc0 := Sy.cell 0
  have Syc1 := Sy.cell 1
  have Syc2 := Sy.cell 2
  have Suc0 := Su.cell 0
  have Suc1 := Su.cell 1
  have Suc2 := Su.cell 2
  simp at B0c0 B0c1 B0c2 Syc0 Syc1 Syc2 Suc0 Suc1 Suc2
  go_upto_region 8 with fail
  go_cut [12, 13, 14] from 45 to 55 (fun u0 u1 u2 wx => ∃ g Al cl Aa ca Ab cb, u0 = .slice Al Y.length cl ∧ u1 = .pointer (some ⟨g, 0, none⟩) ∧ u2 = .bool true ∧ Hid (MetRC (w8.drew) g Y s2 d2 p2 Al cl Aa ca Ab cb wx))
  case first =>
    have HW : Hid (Below (w8.drew).heap.size (w8.drew) (w8.drew)) := Below.refl _ _
    go_region_held3 (fun w' => w'.cell? ⟨w1.heap.size, 0, none⟩ = some (.int .i64 o) ∧ w'.cell? ⟨w1.heap.size, 1, none⟩ = some (.int .i64 r) ∧ w'.cell? ⟨w1.heap.size, 2, none⟩ = some (.int .i64 k)) (first | go_keep)
      (first
        | (go_at_call 20; first | (replace SX := SX; clear B0c0 B0c1 B0c2 Syc0 Syc1 Syc2 Suc0 Suc1 Suc2; have B0c0 := B0.cell 0; have B0c1 := B0.cell 1; have B0c2 := B0.cell 2; have Syc0 := Sy.cell 0; have Syc1 := Sy.cell 1; have Syc2 := Sy.cell 2; have Suc0 := Su.cell 0; have Suc1 := Su.cell 1; have Suc2 := Su.cell 2; have SXc0 := SX.cell 0; have SXc1 := SX.cell 1; have SXc2 := SX.cell 2; simp at B0c0 B0c1 B0c2 Syc0 Syc1 Syc2 Suc0 Suc1 Suc2 SXc0 SXc1 SXc2; refine (HNi.out _).mono ?_; rintro e w9 ⟨Ava, cva, Avb, cvb, rfl, Ova, Ovb, Pv, h9⟩; replace Ox := own_past Ox h9; replace Oz := own_past Oz h9; replace Oyl := own_past Oyl h9; replace Oya := own_past Oya h9; replace Oyb := own_past Oyb h9; replace Oul := own_past Oul h9; replace Oua := own_past Oua h9; replace Oub := own_past Oub h9; replace B0 := B0.past h9; replace Sy := Sy.past h9; replace Su := Su.past h9; replace SX := SX.past h9; replace Hb := Lib.hid (thenB Hb.out h9); replace HW := Lib.hid (thenB HW.out h9); have t13 : w8.drew.heap.size ≤ w9.heap.size := h9.size; have Lva := own_lo Ova; have Uva := own_hi Ova; have Lvb := own_lo Ovb; have Uvb := own_hi Ovb; clear h9; clear B0c0 B0c1 B0c2 Syc0 Syc1 Syc2 Suc0 Suc1 Suc2 SXc0 SXc1 SXc2; have B0c0 := B0.cell 0; have B0c1 := B0.cell 1; have B0c2 := B0.cell 2; have Syc0 := Sy.cell 0; have Syc1 := Sy.cell 1; have Syc2 := Sy.cell 2; have Suc0 := Su.cell 0; have Suc1 := Su.cell 1; have Suc2 := Su.cell 2; have SXc0 := SX.cell 0; have SXc1 := SX.cell 1; have SXc2 := SX.cell 2; simp at B0c0 B0c1 B0c2 Syc0 Syc1 Syc2 Suc0 Suc1 Suc2 SXc0 SXc1 SXc2) | (clear B0c0 B0c1 B0c2 Syc0 Syc1 Syc2 Suc0 Suc1 Suc2; have B0c0 := B0.cell 0; have B0c1 := B0.cell 1; have B0c2 := B0.cell 2; have Syc0 := Sy.cell 0; have Syc1 := Sy.cell 1; have Syc2 := Sy.cell 2; have Suc0 := Su.cell 0; have Suc1 := Su.cell 1; have Suc2 := Su.cell 2; simp at B0c0 B0c1 B0c2 Syc0 Syc1 Syc2 Suc0 Suc1 Suc2; refine (HNi.out _).mono ?_; rintro e w9 ⟨Ava, cva, Avb, cvb, rfl, Ova, Ovb, Pv, h9⟩; replace Ox := own_past Ox h9; replace Oz := own_past Oz h9; replace Oyl := own_past Oyl h9; replace Oya := own_past Oya h9; replace Oyb := own_past Oyb h9; replace Oul := own_past Oul h9; replace Oua := own_past Oua h9; replace Oub := own_past Oub h9; replace B0 := B0.past h9; replace Sy := Sy.past h9; replace Su := Su.past h9; replace Hb := Lib.hid (thenB Hb.out h9); replace HW := Lib.hid (thenB HW.out h9); have t13 : w8.drew.heap.size ≤ w9.heap.size := h9.size; have Lva := own_lo Ova; have Uva := own_hi Ova; have Lvb := own_lo Ovb; have Uvb := own_hi Ovb; clear h9; clear B0c0 B0c1 B0c2 Syc0 Syc1 Syc2 Suc0 Suc1 Suc2; have B0c0 := B0.cell 0; have B0c1 := B0.cell 1; have B0c2 := B0.cell 2; have Syc0 := Sy.cell 0; have Syc1 := Sy.cell 1; have Syc2 := Sy.cell 2; have Suc0 := Su.cell 0; have Suc1 := Su.cell 1; have Suc2 := Su.cell 2; simp at B0c0 B0c1 B0c2 Syc0 Syc1 Syc2 Suc0 Suc1 Suc2) | (have bx : Below w8.drew.heap.size w8.drew (w8.drew.alloc (.cells #[.slice none 0 0, .slice none 0 0, .int .i64 0] 35)) := (Below.refl _ _).alloc (Nat.le_refl _) _; have SX := Blk.new w8.drew 35 #[.slice none 0 0, .slice none 0 0, .int .i64 0]; have VSX : w8.drew.heap.size < (w8.drew.alloc (.cells #[.slice none 0 0, .slice none 0 0, .int .i64 0] 35)).heap.size := (by simp); replace Ox := own_past Ox bx; replace Oz := own_past Oz bx; replace Oyl := own_past Oyl bx; replace Oya := own_past Oya bx; replace Oyb := own_past Oyb bx; replace Oul := own_past Oul bx; replace Oua := own_past Oua bx; replace Oub := own_past Oub bx; replace B0 := B0.past bx; replace Sy := Sy.past bx; replace Su := Su.past bx; replace Hb := Lib.hid (thenB Hb.out bx); replace HW := Lib.hid (thenB HW.out bx); clear bx; replace SX : Blk ((w8.drew.alloc (.cells #[.slice none 0 0, .slice none 0 0, .int .i64 0] 35))) w8.heap.size 35 #[.slice none 0 0, .slice none 0 0, .int .i64 0] := SX; have GX : (w8.drew).heap.size ≤ w8.heap.size := (by first | omega | exact Nat.le_refl _); have nzx0 : ¬ (w1.heap.size = w8.heap.size) := (by omega); have nzy0 : ¬ (w8.heap.size = w1.heap.size) := (by omega); clear B0c0 B0c1 B0c2 Syc0 Syc1 Syc2 Suc0 Suc1 Suc2; have B0c0 := B0.cell 0; have B0c1 := B0.cell 1; have B0c2 := B0.cell 2; have Syc0 := Sy.cell 0; have Syc1 := Sy.cell 1; have Syc2 := Sy.cell 2; have Suc0 := Su.cell 0; have Suc1 := Su.cell 1; have Suc2 := Su.cell 2; have SXc0 := SX.cell 0; have SXc1 := SX.cell 1; have SXc2 := SX.cell 2; simp at B0c0 B0c1 B0c2 Syc0 Syc1 Syc2 Suc0 Suc1 Suc2 SXc0 SXc1 SXc2; refine (HNi.out _).mono ?_; rintro e w9 ⟨Ava, cva, Avb, cvb, rfl, Ova, Ovb, Pv, h9⟩; replace Ox := own_past Ox h9; replace Oz := own_past Oz h9; replace Oyl := own_past Oyl h9; replace Oya := own_past Oya h9; replace Oyb := own_past Oyb h9; replace Oul := own_past Oul h9; replace Oua := own_past Oua h9; replace Oub := own_past Oub h9; replace B0 := B0.past h9; replace Sy := Sy.past h9; replace Su := Su.past h9; replace SX := SX.past h9; replace Hb := Lib.hid (thenB Hb.out h9); replace HW := Lib.hid (thenB HW.out h9); have t13 : (w8.drew.alloc (.cells #[.slice none 0 0, .slice none 0 0, .int .i64 0] 35)).heap.size ≤ w9.heap.size := h9.size; have Lva := own_lo Ova; have Uva := own_hi Ova; have Lvb := own_lo Ovb; have Uvb := own_hi Ovb; clear h9; clear B0c0 B0c1 B0c2 Syc0 Syc1 Syc2 Suc0 Suc1 Suc2 SXc0 SXc1 SXc2; have B0c0 := B0.cell 0; have B0c1 := B0.cell 1; have B0c2 := B0.cell 2; have Syc0 := Sy.cell 0; have Syc1 := Sy.cell 1; have Syc2 := Sy.cell 2; have Suc0 := Su.cell 0; have Suc1 := Su.cell 1; have Suc2 := Su.cell 2; have SXc0 := SX.cell 0; have SXc1 := SX.cell 1; have SXc2 := SX.cell 2; simp at B0c0 B0c1 B0c2 Syc0 Syc1 Syc2 Suc0 Suc1 Suc2 SXc0 SXc1 SXc2))
        | (go_at_call 44; first | (replace SX := SX; clear B0c0 B0c1 B0c2 Syc0 Syc1 Syc2 Suc0 Suc1 Suc2; have B0c0 := B0.cell 0; have B0c1 := B0.cell 1; have B0c2 := B0.cell 2; have Syc0 := Sy.cell 0; have Syc1 := Sy.cell 1; have Syc2 := Sy.cell 2; have Suc0 := Su.cell 0; have Suc1 := Su.cell 1; have Suc2 := Su.cell 2; have SXc0 := SX.cell 0; have SXc1 := SX.cell 1; have SXc2 := SX.cell 2; simp at B0c0 B0c1 B0c2 Syc0 Syc1 Syc2 Suc0 Suc1 Suc2 SXc0 SXc1 SXc2; refine (two_any Ax cx x Az cz z _ (own_rd Ox) (by omega) (own_rd Oz) (by omega)).mono ?_; rintro e w10 ⟨Aw, cw, rfl, Ow, h10⟩; replace Ox := own_past Ox h10; replace Oz := own_past Oz h10; replace Oyl := own_past Oyl h10; replace Oya := own_past Oya h10; replace Oyb := own_past Oyb h10; replace Oul := own_past Oul h10; replace Oua := own_past Oua h10; replace Oub := own_past Oub h10; replace Ova := own_past Ova h10; replace Ovb := own_past Ovb h10; replace B0 := B0.past h10; replace Sy := Sy.past h10; replace Su := Su.past h10; replace SX := SX.past h10; replace Hb := Lib.hid (thenB Hb.out h10); replace HW := Lib.hid (thenB HW.out h10); have t14 : w9.heap.size ≤ w10.heap.size := h10.size; have Lw := own_lo Ow; have Uw := own_hi Ow; clear h10; rw [← HX.out] at Ow ⊢; clear B0c0 B0c1 B0c2 Syc0 Syc1 Syc2 Suc0 Suc1 Suc2 SXc0 SXc1 SXc2; have B0c0 := B0.cell 0; have B0c1 := B0.cell 1; have B0c2 := B0.cell 2; have Syc0 := Sy.cell 0; have Syc1 := Sy.cell 1; have Syc2 := Sy.cell 2; have Suc0 := Su.cell 0; have Suc1 := Su.cell 1; have Suc2 := Su.cell 2; have SXc0 := SX.cell 0; have SXc1 := SX.cell 1; have SXc2 := SX.cell 2; simp at B0c0 B0c1 B0c2 Syc0 Syc1 Syc2 Suc0 Suc1 Suc2 SXc0 SXc1 SXc2) | (clear B0c0 B0c1 B0c2 Syc0 Syc1 Syc2 Suc0 Suc1 Suc2; have B0c0 := B0.cell 0; have B0c1 := B0.cell 1; have B0c2 := B0.cell 2; have Syc0 := Sy.cell 0; have Syc1 := Sy.cell 1; have Syc2 := Sy.cell 2; have Suc0 := Su.cell 0; have Suc1 := Su.cell 1; have Suc2 := Su.cell 2; simp at B0c0 B0c1 B0c2 Syc0 Syc1 Syc2 Suc0 Suc1 Suc2; refine (two_any Ax cx x Az cz z _ (own_rd Ox) (by omega) (own_rd Oz) (by omega)).mono ?_; rintro e w10 ⟨Aw, cw, rfl, Ow, h10⟩; replace Ox := own_past Ox h10; replace Oz := own_past Oz h10; replace Oyl := own_past Oyl h10; replace Oya := own_past Oya h10; replace Oyb := own_past Oyb h10; replace Oul := own_past Oul h10; replace Oua := own_past Oua h10; replace Oub := own_past Oub h10; replace Ova := own_past Ova h10; replace Ovb := own_past Ovb h10; replace B0 := B0.past h10; replace Sy := Sy.past h10; replace Su := Su.past h10; replace Hb := Lib.hid (thenB Hb.out h10); replace HW := Lib.hid (thenB HW.out h10); have t14 : w9.heap.size ≤ w10.heap.size := h10.size; have Lw := own_lo Ow; have Uw := own_hi Ow; clear h10; rw [← HX.out] at Ow ⊢; clear B0c0 B0c1 B0c2 Syc0 Syc1 Syc2 Suc0 Suc1 Suc2; have B0c0 := B0.cell 0; have B0c1 := B0.cell 1; have B0c2 := B0.cell 2; have Syc0 := Sy.cell 0; have Syc1 := Sy.cell 1; have Syc2 := Sy.cell 2; have Suc0 := Su.cell 0; have Suc1 := Su.cell 1; have Suc2 := Su.cell 2; simp at B0c0 B0c1 B0c2 Syc0 Syc1 Syc2 Suc0 Suc1 Suc2) | (have bx : Below w9.heap.size w9 (w9.alloc (.cells #[.slice none 0 0, .slice none 0 0, .int .i64 0] 35)) := (Below.refl _ _).alloc (Nat.le_refl _) _; have SX := Blk.new w9 35 #[.slice none 0 0, .slice none 0 0, .int .i64 0]; have VSX : w9.heap.size < (w9.alloc (.cells #[.slice none 0 0, .slice none 0 0, .int .i64 0] 35)).heap.size := (by simp); replace Ox := own_past Ox bx; replace Oz := own_past Oz bx; replace Oyl := own_past Oyl bx; replace Oya := own_past Oya bx; replace Oyb := own_past Oyb bx; replace Oul := own_past Oul bx; replace Oua := own_past Oua bx; replace Oub := own_past Oub bx; replace Ova := own_past Ova bx; replace Ovb := own_past Ovb bx; replace B0 := B0.past bx; replace Sy := Sy.past bx; replace Su := Su.past bx; replace Hb := Lib.hid (thenB Hb.out bx); replace HW := Lib.hid (thenB HW.out bx); clear bx; have GX : (w8.drew).heap.size ≤ w9.heap.size := (by first | omega | exact Nat.le_refl _); have nzx0 : ¬ (w1.heap.size = w9.heap.size) := (by omega); have nzy0 : ¬ (w9.heap.size = w1.heap.size) := (by omega); clear B0c0 B0c1 B0c2 Syc0 Syc1 Syc2 Suc0 Suc1 Suc2; have B0c0 := B0.cell 0; have B0c1 := B0.cell 1; have B0c2 := B0.cell 2; have Syc0 := Sy.cell 0; have Syc1 := Sy.cell 1; have Syc2 := Sy.cell 2; have Suc0 := Su.cell 0; have Suc1 := Su.cell 1; have Suc2 := Su.cell 2; have SXc0 := SX.cell 0; have SXc1 := SX.cell 1; have SXc2 := SX.cell 2; simp at B0c0 B0c1 B0c2 Syc0 Syc1 Syc2 Suc0 Suc1 Suc2 SXc0 SXc1 SXc2; refine (two_any Ax cx x Az cz z _ (own_rd Ox) (by omega) (own_rd Oz) (by omega)).mono ?_; rintro e w10 ⟨Aw, cw, rfl, Ow, h10⟩; replace Ox := own_past Ox h10; replace Oz := own_past Oz h10; replace Oyl := own_past Oyl h10; replace Oya := own_past Oya h10; replace Oyb := own_past Oyb h10; replace Oul := own_past Oul h10; replace Oua := own_past Oua h10; replace Oub := own_past Oub h10; replace Ova := own_past Ova h10; replace Ovb := own_past Ovb h10; replace B0 := B0.past h10; replace Sy := Sy.past h10; replace Su := Su.past h10; replace SX := SX.past h10; replace Hb := Lib.hid (thenB Hb.out h10); replace HW := Lib.hid (thenB HW.out h10); have t14 : (w9.alloc (.cells #[.slice none 0 0, .slice none 0 0, .int .i64 0] 35)).heap.size ≤ w10.heap.size := h10.size; have Lw := own_lo Ow; have Uw := own_hi Ow; clear h10; rw [← HX.out] at Ow ⊢; clear B0c0 B0c1 B0c2 Syc0 Syc1 Syc2 Suc0 Suc1 Suc2 SXc0 SXc1 SXc2; have B0c0 := B0.cell 0; have B0c1 := B0.cell 1; have B0c2 := B0.cell 2; have Syc0 := Sy.cell 0; have Syc1 := Sy.cell 1; have Syc2 := Sy.cell 2; have Suc0 := Su.cell 0; have Suc1 := Su.cell 1; have Suc2 := Su.cell 2; have SXc0 := SX.cell 0; have SXc1 := SX.cell 1; have SXc2 := SX.cell 2; simp at B0c0 B0c1 B0c2 Syc0 Syc1 Syc2 Suc0 Suc1 Suc2 SXc0 SXc1 SXc2))
        | (go_at_call 19; first | (replace SX := SX; have XL := SX.lt; clear B0c0 B0c1 B0c2 Syc0 Syc1 Syc2 Suc0 Suc1 Suc2; have B0c0 := B0.cell 0; have B0c1 := B0.cell 1; have B0c2 := B0.cell 2; have Syc0 := Sy.cell 0; have Syc1 := Sy.cell 1; have Syc2 := Sy.cell 2; have Suc0 := Su.cell 0; have Suc1 := Su.cell 1; have Suc2 := Su.cell 2; have SXc0 := SX.cell 0; have SXc1 := SX.cell 1; have SXc2 := SX.cell 2; simp at B0c0 B0c1 B0c2 Syc0 Syc1 Syc2 Suc0 Suc1 Suc2 SXc0 SXc1 SXc2; refine (HRw.out _ Ava cva Avb cvb Aw cw (own_rd Ova) (own_rd Ovb) (own_rd Ow)).mono ?_; rintro e w11 ⟨Azl, czl, Aza, cza, Azb, czb, rfl, Ozl, Oza, Ozb, Pzla, Pzlb, Pz, h11⟩; replace Ox := own_past Ox h11; replace Oz := own_past Oz h11; replace Oyl := own_past Oyl h11; replace Oya := own_past Oya h11; replace Oyb := own_past Oyb h11; replace Oul := own_past Oul h11; replace Oua := own_past Oua h11; replace Oub := own_past Oub h11; replace Ova := own_past Ova h11; replace Ovb := own_past Ovb h11; replace Ow := own_past Ow h11; replace B0 := B0.past h11; replace Sy := Sy.past h11; replace Su := Su.past h11; replace SX := SX.past h11; replace Hb := Lib.hid (thenB Hb.out h11); replace HW := Lib.hid (thenB HW.out h11); have t15 : w10.heap.size ≤ w11.heap.size := h11.size; have Lzl := own_lo Ozl; have Uzl := own_hi Ozl; have Lza := own_lo Oza; have Uza := own_hi Oza; have Lzb := own_lo Ozb; have Uzb := own_hi Ozb; clear h11; clear B0c0 B0c1 B0c2 Syc0 Syc1 Syc2 Suc0 Suc1 Suc2 SXc0 SXc1 SXc2; have B0c0 := B0.cell 0; have B0c1 := B0.cell 1; have B0c2 := B0.cell 2; have Syc0 := Sy.cell 0; have Syc1 := Sy.cell 1; have Syc2 := Sy.cell 2; have Suc0 := Su.cell 0; have Suc1 := Su.cell 1; have Suc2 := Su.cell 2; have SXc0 := SX.cell 0; have SXc1 := SX.cell 1; have SXc2 := SX.cell 2; simp at B0c0 B0c1 B0c2 Syc0 Syc1 Syc2 Suc0 Suc1 Suc2 SXc0 SXc1 SXc2; have SXf0 := SX.frozen 0; have SXf1 := SX.frozen 1; have SXf2 := SX.frozen 2; have M := Lib.hid (metrc_before (p := p2) HW.out GX XL (by rfl) SX Ozl Oza Ozb Pzla Pzlb Pz)) | (clear B0c0 B0c1 B0c2 Syc0 Syc1 Syc2 Suc0 Suc1 Suc2; have B0c0 := B0.cell 0; have B0c1 := B0.cell 1; have B0c2 := B0.cell 2; have Syc0 := Sy.cell 0; have Syc1 := Sy.cell 1; have Syc2 := Sy.cell 2; have Suc0 := Su.cell 0; have Suc1 := Su.cell 1; have Suc2 := Su.cell 2; simp at B0c0 B0c1 B0c2 Syc0 Syc1 Syc2 Suc0 Suc1 Suc2; refine (HRw.out _ Ava cva Avb cvb Aw cw (own_rd Ova) (own_rd Ovb) (own_rd Ow)).mono ?_; rintro e w11 ⟨Azl, czl, Aza, cza, Azb, czb, rfl, Ozl, Oza, Ozb, Pzla, Pzlb, Pz, h11⟩; replace Ox := own_past Ox h11; replace Oz := own_past Oz h11; replace Oyl := own_past Oyl h11; replace Oya := own_past Oya h11; replace Oyb := own_past Oyb h11; replace Oul := own_past Oul h11; replace Oua := own_past Oua h11; replace Oub := own_past Oub h11; replace Ova := own_past Ova h11; replace Ovb := own_past Ovb h11; replace Ow := own_past Ow h11; replace B0 := B0.past h11; replace Sy := Sy.past h11; replace Su := Su.past h11; replace Hb := Lib.hid (thenB Hb.out h11); replace HW := Lib.hid (thenB HW.out h11); have t15 : w10.heap.size ≤ w11.heap.size := h11.size; have Lzl := own_lo Ozl; have Uzl := own_hi Ozl; have Lza := own_lo Oza; have Uza := own_hi Oza; have Lzb := own_lo Ozb; have Uzb := own_hi Ozb; clear h11; clear B0c0 B0c1 B0c2 Syc0 Syc1 Syc2 Suc0 Suc1 Suc2; have B0c0 := B0.cell 0; have B0c1 := B0.cell 1; have B0c2 := B0.cell 2; have Syc0 := Sy.cell 0; have Syc1 := Sy.cell 1; have Syc2 := Sy.cell 2; have Suc0 := Su.cell 0; have Suc1 := Su.cell 1; have Suc2 := Su.cell 2; simp at B0c0 B0c1 B0c2 Syc0 Syc1 Syc2 Suc0 Suc1 Suc2; have M := Lib.hid (metrc_after (p := p2) HW.out (by omega) Ozl Oza Ozb Pzla Pzlb Pz)) | (have bx : Below w10.heap.size w10 (w10.alloc (.cells #[.slice none 0 0, .slice none 0 0, .int .i64 0] 35)) := (Below.refl _ _).alloc (Nat.le_refl _) _; have SX := Blk.new w10 35 #[.slice none 0 0, .slice none 0 0, .int .i64 0]; have VSX : w10.heap.size < (w10.alloc (.cells #[.slice none 0 0, .slice none 0 0, .int .i64 0] 35)).heap.size := (by simp); replace Ox := own_past Ox bx; replace Oz := own_past Oz bx; replace Oyl := own_past Oyl bx; replace Oya := own_past Oya bx; replace Oyb := own_past Oyb bx; replace Oul := own_past Oul bx; replace Oua := own_past Oua bx; replace Oub := own_past Oub bx; replace Ova := own_past Ova bx; replace Ovb := own_past Ovb bx; replace Ow := own_past Ow bx; replace B0 := B0.past bx; replace Sy := Sy.past bx; replace Su := Su.past bx; replace Hb := Lib.hid (thenB Hb.out bx); replace HW := Lib.hid (thenB HW.out bx); clear bx; have GX : (w8.drew).heap.size ≤ w10.heap.size := (by first | omega | exact Nat.le_refl _); have nzx0 : ¬ (w1.heap.size = w10.heap.size) := (by omega); have nzy0 : ¬ (w10.heap.size = w1.heap.size) := (by omega); have XL := SX.lt; clear B0c0 B0c1 B0c2 Syc0 Syc1 Syc2 Suc0 Suc1 Suc2; have B0c0 := B0.cell 0; have B0c1 := B0.cell 1; have B0c2 := B0.cell 2; have Syc0 := Sy.cell 0; have Syc1 := Sy.cell 1; have Syc2 := Sy.cell 2; have Suc0 := Su.cell 0; have Suc1 := Su.cell 1; have Suc2 := Su.cell 2; have SXc0 := SX.cell 0; have SXc1 := SX.cell 1; have SXc2 := SX.cell 2; simp at B0c0 B0c1 B0c2 Syc0 Syc1 Syc2 Suc0 Suc1 Suc2 SXc0 SXc1 SXc2; refine (HRw.out _ Ava cva Avb cvb Aw cw (own_rd Ova) (own_rd Ovb) (own_rd Ow)).mono ?_; rintro e w11 ⟨Azl, czl, Aza, cza, Azb, czb, rfl, Ozl, Oza, Ozb, Pzla, Pzlb, Pz, h11⟩; replace Ox := own_past Ox h11; replace Oz := own_past Oz h11; replace Oyl := own_past Oyl h11; replace Oya := own_past Oya h11; replace Oyb := own_past Oyb h11; replace Oul := own_past Oul h11; replace Oua := own_past Oua h11; replace Oub := own_past Oub h11; replace Ova := own_past Ova h11; replace Ovb := own_past Ovb h11; replace Ow := own_past Ow h11; replace B0 := B0.past h11; replace Sy := Sy.past h11; replace Su := Su.past h11; replace SX := SX.past h11; replace Hb := Lib.hid (thenB Hb.out h11); replace HW := Lib.hid (thenB HW.out h11); have t15 : (w10.alloc (.cells #[.slice none 0 0, .slice none 0 0, .int .i64 0] 35)).heap.size ≤ w11.heap.size := h11.size; have Lzl := own_lo Ozl; have Uzl := own_hi Ozl; have Lza := own_lo Oza; have Uza := own_hi Oza; have Lzb := own_lo Ozb; have Uzb := own_hi Ozb; clear h11; clear B0c0 B0c1 B0c2 Syc0 Syc1 Syc2 Suc0 Suc1 Suc2 SXc0 SXc1 SXc2; have B0c0 := B0.cell 0; have B0c1 := B0.cell 1; have B0c2 := B0.cell 2; have Syc0 := Sy.cell 0; have Syc1 := Sy.cell 1; have Syc2 := Sy.cell 2; have Suc0 := Su.cell 0; have Suc1 := Su.cell 1; have Suc2 := Su.cell 2; have SXc0 := SX.cell 0; have SXc1 := SX.cell 1; have SXc2 := SX.cell 2; simp at B0c0 B0c1 B0c2 Syc0 Syc1 Syc2 Suc0 Suc1 Suc2 SXc0 SXc1 SXc2; have SXf0 := SX.frozen 0; have SXf1 := SX.frozen 1; have SXf2 := SX.frozen 2; have M := Lib.hid (metrc_before (p := p2) HW.out GX XL (by rfl) SX Ozl Oza Ozb Pzla Pzlb Pz))))
    all_goals (go_wp2_with fail; go_meet; exact ⟨_, _, _, _, _, _, _, rfl, rfl, rfl, M⟩)
  case rest =>
  obtain ⟨gt, Atl, ctl, Ata, cta, Atb, ctb, rfl, rfl, rfl, HM⟩ := hcut
  obtain ⟨⟨glt, St, Ota, Otb, Pt, Nta, Ntb, bx⟩, Otl, Ptla, Ptlb, Ntl⟩ := HM.out
  clear HM
  replace Ox := own_past Ox bx
  replace Oz := own_past Oz bx
  replace Oyl := own_past Oyl bx
  replace Oya := own_past Oya bx
  replace Oyb := own_past Oyb bx
  replace Oul := own_past Oul bx
  replace Oua := own_past Oua bx
  replace Oub := own_past Oub bx
  replace B0 := B0.past bx
  replace Sy := Sy.past bx
  replace Su := Su.past bx
  replace Hb := Lib.hid (thenB Hb.out bx)
  have t13 : (w8.drew).heap.size ≤ wc.heap.size := bx.size
  have VSt := St.lt
  have Ltl := own_lo Otl
  have Utl := own_hi Otl
  have Lta := own_lo Ota
  have Uta := own_hi Ota
  have Ltb := own_lo Otb
  have Utb := own_hi Otb
  clear bx
  obtain ⟨w9, hwc⟩ : ∃ W, W = wc := ⟨_, rfl⟩
  subst hwc
  clear B0c0 B0c1 B0c2 Syc0 Syc1 Syc2 Suc0 Suc1 Suc2
  have B0c0 := B0.cell 0
  have B0c1 := B0.cell 1
  have B0c2 := B0.cell 2
  have Syc0 := Sy.cell 0
  have Syc1 := Sy.cell 1
  have Syc2 := Sy.cell 2
  have Suc0 := Su.cell 0
  have Suc1 := Su.cell 1
  have Suc2 := Su.cell 2
  have Stc0 := St.cell 0
  have Stc1 := St.cell 1
  have Stc2 := St.cell 2
  simp at B0c0 B0c1 B0c2 Syc0 Syc1 Syc2 Suc0 Suc1 Suc2 Stc0 Stc1 Stc2
  go_wp2_with fail
  refine (HI1.out _ Aya cya Ayb cyb (own_rd Oya) (own_rd Oyb)).mono ?_
  rintro e w10 ⟨rfl, h10⟩
  replace Ox := own_past Ox h10
  replace Oz := own_past Oz h10
  replace Oyl := own_past Oyl h10
  replace Oya := own_past Oya h10
  replace Oyb := own_past Oyb h10
  replace Oul := own_past Oul h10
  replace Oua := own_past Oua h10
  replace Oub := own_past Oub h10
  replace Otl := own_past Otl h10
  replace Ota := own_past Ota h10
  replace Otb := own_past Otb h10
  replace B0 := B0.past h10
  replace Sy := Sy.past h10
  replace Su := Su.past h10
  replace St := St.past h10
  replace Hb := Lib.hid (thenB Hb.out h10)
  have t15 : w9.heap.size ≤ w10.heap.size := h10.size
  clear h10
  clear B0c0 B0c1 B0c2 Syc0 Syc1 Syc2 Suc0 Suc1 Suc2 Stc0 Stc1 Stc2
  have B0c0 := B0.cell 0
  have B0c1 := B0.cell 1
  have B0c2 := B0.cell 2
  have Syc0 := Sy.cell 0
  have Syc1 := Sy.cell 1
  have Syc2 := Sy.cell 2
  have Suc0 := Su.cell 0
  have Suc1 := Su.cell 1
  have Suc2 := Su.cell 2
  have Stc0 := St.cell 0
  have Stc1 := St.cell 1
  have Stc2 := St.cell 2
  simp at B0c0 B0c1 B0c2 Syc0 Syc1 Syc2 Suc0 Suc1 Suc2 Stc0 Stc1 Stc2
  go_wp2_with fail
  refine (HI2.out _ Ata cta Atb ctb (own_rd Ota) (own_rd Otb)).mono ?_
  rintro e w11 ⟨rfl, h11⟩
  replace Ox := own_past Ox h11
  replace Oz := own_past Oz h11
  replace Oyl := own_past Oyl h11
  replace Oya := own_past Oya h11
  replace Oyb := own_past Oyb h11
  replace Oul := own_past Oul h11
  replace Oua := own_past Oua h11
  replace Oub := own_past Oub h11
  replace Otl := own_past Otl h11
  replace Ota := own_past Ota h11
  replace Otb := own_past Otb h11
  replace B0 := B0.past h11
  replace Sy := Sy.past h11
  replace Su := Su.past h11
  replace St := St.past h11
  replace Hb := Lib.hid (thenB Hb.out h11)
  have t16 : w10.heap.size ≤ w11.heap.size := h11.size
  clear h11
  clear B0c0 B0c1 B0c2 Syc0 Syc1 Syc2 Suc0 Suc1 Suc2 Stc0 Stc1 Stc2
  have B0c0 := B0.cell 0
  have B0c1 := B0.cell 1
  have B0c2 := B0.cell 2
  have Syc0 := Sy.cell 0
  have Syc1 := Sy.cell 1
  have Syc2 := Sy.cell 2
  have Suc0 := Su.cell 0
  have Suc1 := Su.cell 1
  have Suc2 := Su.cell 2
  have Stc0 := St.cell 0
  have Stc1 := St.cell 1
  have Stc2 := St.cell 2
  simp at B0c0 B0c1 B0c2 Syc0 Syc1 Syc2 Suc0 Suc1 Suc2 Stc0 Stc1 Stc2
  go_wp2_with fail
  refine (two_any Ayl cyl Y1 Aul cul Y2 _ (own_rd Oyl) (by omega) (own_rd Oul) (by omega)).mono ?_
  rintro e w12 ⟨Am, cm, rfl, Om, h12⟩
  replace Ox := own_past Ox h12
  replace Oz := own_past Oz h12
  replace Oyl := own_past Oyl h12
  replace Oya := own_past Oya h12
  replace Oyb := own_past Oyb h12
  replace Oul := own_past Oul h12
  replace Oua := own_past Oua h12
  replace Oub := own_past Oub h12
  replace Otl := own_past Otl h12
  replace Ota := own_past Ota h12
  replace Otb := own_past Otb h12
  replace B0 := B0.past h12
  replace Sy := Sy.past h12
  replace Su := Su.past h12
  replace St := St.past h12
  replace Hb := Lib.hid (thenB Hb.out h12)
  have t17 : w11.heap.size ≤ w12.heap.size := h12.size
  have Lm := own_lo Om
  have Um := own_hi Om
  clear h12
  rw [← HY.out] at Om ⊢
  clear B0c0 B0c1 B0c2 Syc0 Syc1 Syc2 Suc0 Suc1 Suc2 Stc0 Stc1 Stc2
  have B0c0 := B0.cell 0
  have B0c1 := B0.cell 1
  have B0c2 := B0.cell 2
  have Syc0 := Sy.cell 0
  have Syc1 := Sy.cell 1
  have Syc2 := Sy.cell 2
  have Suc0 := Su.cell 0
  have Suc1 := Su.cell 1
  have Suc2 := Su.cell 2
  have Stc0 := St.cell 0
  have Stc1 := St.cell 1
  have Stc2 := St.cell 2
  simp at B0c0 B0c1 B0c2 Syc0 Syc1 Syc2 Suc0 Suc1 Suc2 Stc0 Stc1 Stc2
  go_wp2_with fail
  refine (ints_same Atl Am ctl cm Y _ _ (own_rd Otl) (own_rd Om) rfl (by omega)).mono ?_
  rintro e w13 ⟨rfl, h13⟩
  replace Ox := own_past Ox h13
  replace Oz := own_past Oz h13
  replace Oyl := own_past Oyl h13
  replace Oya := own_past Oya h13
  replace Oyb := own_past Oyb h13
  replace Oul := own_past Oul h13
  replace Oua := own_past Oua h13
  replace Oub := own_past Oub h13
  replace Otl := own_past Otl h13
  replace Ota := own_past Ota h13
  replace Otb := own_past Otb h13
  replace Om := own_past Om h13
  replace B0 := B0.past h13
  replace Sy := Sy.past h13
  replace Su := Su.past h13
  replace St := St.past h13
  replace Hb := Lib.hid (thenB Hb.out h13)
  have t18 : w12.heap.size ≤ w13.heap.size := h13.size
  clear h13
  clear B0c0 B0c1 B0c2 Syc0 Syc1 Syc2 Suc0 Suc1 Suc2 Stc0 Stc1 Stc2
  have B0c0 := B0.cell 0
  have B0c1 := B0.cell 1
  have B0c2 := B0.cell 2
  have Syc0 := Sy.cell 0
  have Syc1 := Sy.cell 1
  have Syc2 := Sy.cell 2
  have Suc0 := Su.cell 0
  have Suc1 := Su.cell 1
  have Suc2 := Su.cell 2
  have Stc0 := St.cell 0
  have Stc1 := St.cell 1
  have Stc2 := St.cell 2
  simp at B0c0 B0c1 B0c2 Syc0 Syc1 Syc2 Suc0 Suc1 Suc2 Stc0 Stc1 Stc2
  go_wp2_with fail
  refine (HC.out _ Ata cta Atb ctb (own_rd Ota) (own_rd Otb)).mono ?_
  rintro e w14 ⟨Aca, cca, Acb, ccb, rfl, Oca, Ocb, Pc, h14⟩
  replace Ox := own_past Ox h14
  replace Oz := own_past Oz h14
  replace Oyl := own_past Oyl h14
  replace Oya := own_past Oya h14
  replace Oyb := own_past Oyb h14
  replace Oul := own_past Oul h14
  replace Oua := own_past Oua h14
  replace Oub := own_past Oub h14
  replace Otl := own_past Otl h14
  replace Ota := own_past Ota h14
  replace Otb := own_past Otb h14
  replace Om := own_past Om h14
  replace B0 := B0.past h14
  replace Sy := Sy.past h14
  replace Su := Su.past h14
  replace St := St.past h14
  replace Hb := Lib.hid (thenB Hb.out h14)
  have t19 : w13.heap.size ≤ w14.heap.size := h14.size
  have Lca := own_lo Oca
  have Uca := own_hi Oca
  have Lcb := own_lo Ocb
  have Ucb := own_hi Ocb
  clear h14
  rw [zeros_length]
  have bx : Below w14.heap.size w14 (w14.alloc (.cells #[.slice Aca s2.length cca, .slice Acb o ccb, .int .i64 0] 35)) := (Below.refl _ _).alloc (Nat.le_refl _) _
  have Sc := Blk.new w14 35 #[.slice Aca s2.length cca, .slice Acb o ccb, .int .i64 0]
  have VSc : w14.heap.size < (w14.alloc (.cells #[.slice Aca s2.length cca, .slice Acb o ccb, .int .i64 0] 35)).heap.size := by simp
  replace Ox := own_past Ox bx
  replace Oz := own_past Oz bx
  replace Oyl := own_past Oyl bx
  replace Oya := own_past Oya bx
  replace Oyb := own_past Oyb bx
  replace Oul := own_past Oul bx
  replace Oua := own_past Oua bx
  replace Oub := own_past Oub bx
  replace Otl := own_past Otl bx
  replace Ota := own_past Ota bx
  replace Otb := own_past Otb bx
  replace Om := own_past Om bx
  replace Oca := own_past Oca bx
  replace Ocb := own_past Ocb bx
  replace B0 := B0.past bx
  replace Sy := Sy.past bx
  replace Su := Su.past bx
  replace St := St.past bx
  replace Hb := Lib.hid (thenB Hb.out bx)
  clear bx
  clear B0c0 B0c1 B0c2 Syc0 Syc1 Syc2 Suc0 Suc1 Suc2 Stc0 Stc1 Stc2
  have B0c0 := B0.cell 0
  have B0c1 := B0.cell 1
  have B0c2 := B0.cell 2
  have Syc0 := Sy.cell 0
  have Syc1 := Sy.cell 1
  have Syc2 := Sy.cell 2
  have Suc0 := Su.cell 0
  have Suc1 := Su.cell 1
  have Suc2 := Su.cell 2
  have Stc0 := St.cell 0
  have Stc1 := St.cell 1
  have Stc2 := St.cell 2
  have Scc0 := Sc.cell 0
  have Scc1 := Sc.cell 1
  have Scc2 := Sc.cell 2
  simp at B0c0 B0c1 B0c2 Syc0 Syc1 Syc2 Suc0 Suc1 Suc2 Stc0 Stc1 Stc2 Scc0 Scc1 Scc2
  clear B0c0 B0c1 B0c2 Syc0 Syc1 Syc2 Suc0 Suc1 Suc2 Stc0 Stc1 Stc2 Scc0 Scc1 Scc2
  go_wp2_with fail
  obtain ⟨w15, hww15⟩ : ∃ W, W = (w14.alloc (.cells #[.slice Aca s2.length cca, .slice Acb o ccb, .int .i64 0] 35)) := ⟨_, rfl⟩
  rw [← hww15] at Hb B0 Sy Su St Sc Ox Oz Oyl Oya Oyb Oul Oua Oub Otl Ota Otb Om Oca Ocb VSc ⊢
  clear hww15
  have tp : (p2 == p2) = true := by simp
  have B0c0 := B0.cell 0
  have B0c1 := B0.cell 1
  have B0c2 := B0.cell 2
  have Syc0 := Sy.cell 0
  have Syc1 := Sy.cell 1
  have Syc2 := Sy.cell 2
  have Suc0 := Su.cell 0
  have Suc1 := Su.cell 1
  have Suc2 := Su.cell 2
  have Stc0 := St.cell 0
  have Stc1 := St.cell 1
  have Stc2 := St.cell 2
  have Scc0 := Sc.cell 0
  have Scc1 := Sc.cell 1
  have Scc2 := Sc.cell 2
  simp at B0c0 B0c1 B0c2 Syc0 Syc1 Syc2 Suc0 Suc1 Suc2 Stc0 Stc1 Stc2 Scc0 Scc1 Scc2
  clear B0c0 B0c1 B0c2 Syc0 Syc1 Syc2 Suc0 Suc1 Suc2 Stc0 Stc1 Stc2 Scc0 Scc1 Scc2
  clear Ox Lx Ux
  clear Oz Lz Uz
  clear Oyl Lyl Uyl
  clear Oya Lya Uya
  clear Oyb Lyb Uyb
  clear Oul Lul Uul
  clear Otl Ltl Utl
  clear Om Lm Um
  clear Sy HRx HRw HRz HI1 HI2 HC HNi HX HY Hok
  have bx : Below w15.heap.size w15 w15.drew := (Below.refl _ _).drew
  replace Oua := own_past Oua bx
  replace Oub := own_past Oub bx
  replace Ota := own_past Ota bx
  replace Otb := own_past Otb bx
  replace Oca := own_past Oca bx
  replace Ocb := own_past Ocb bx
  replace B0 := B0.past bx
  replace Su := Su.past bx
  replace St := St.past bx
  replace Sc := Sc.past bx
  replace Hb := Lib.hid (thenB Hb.out bx)
  clear bx
  have t21 : w15.heap.size ≤ w15.drew.heap.size := Nat.le_refl _
  have B0c0 := B0.cell 0
  have B0c1 := B0.cell 1
  have B0c2 := B0.cell 2
  have Suc0 := Su.cell 0
  have Suc1 := Su.cell 1
  have Suc2 := Su.cell 2
  have Stc0 := St.cell 0
  have Stc1 := St.cell 1
  have Stc2 := St.cell 2
  have Scc0 := Sc.cell 0
  have Scc1 := Sc.cell 1
  have Scc2 := Sc.cell 2
  simp at B0c0 B0c1 B0c2 Suc0 Suc1 Suc2 Stc0 Stc1 Stc2 Scc0 Scc1 Scc2
  go_wp2_with fail
  go_region_held3 (fun w' => w'.cell? ⟨w7.heap.size, 0, none⟩ = some (.slice Aua s2.length cua) ∧ w'.cell? ⟨w7.heap.size, 1, none⟩ = some (.slice Aub d2.length cub) ∧ w'.cell? ⟨w7.heap.size, 2, none⟩ = some (.int .i64 p2) ∧ w'.cell? ⟨w14.heap.size, 0, none⟩ = some (.slice Aca s2.length cca) ∧ w'.cell? ⟨w14.heap.size, 1, none⟩ = some (.slice Acb o ccb) ∧ w'.cell? ⟨w14.heap.size, 2, none⟩ = some (.int .i64 0) ∧ w'.cell? ⟨gt, 0, none⟩ = some (.slice Ata s2.length cta) ∧ w'.cell? ⟨gt, 1, none⟩ = some (.slice Atb d2.length ctb) ∧ w'.cell? ⟨gt, 2, none⟩ = some (.int .i64 p2) ∧ w'.cell? ⟨w1.heap.size, 0, none⟩ = some (.int .i64 o)) (first | go_keep)
    (first
      | (go_at_call 29; refine (ints_same _ _ _ _ _ _ _ (own_rd (by assumption)) (own_rd (by assumption)) (by first | exact rfl | exact zeros_length _) (by omega)).mono ?_; rintro e w16 ⟨rfl, hq⟩; replace Oua := own_past Oua hq; replace Oub := own_past Oub hq; replace Ota := own_past Ota hq; replace Otb := own_past Otb hq; replace Oca := own_past Oca hq; replace Ocb := own_past Ocb hq; (try replace On := own_past On hq); replace B0 := B0.past hq; replace Su := Su.past hq; replace St := St.past hq; replace Sc := Sc.past hq; replace Hb := Lib.hid (thenB Hb.out hq); have tq : _ ≤ _ := hq.size; clear hq; clear B0c0 B0c1 B0c2 Suc0 Suc1 Suc2 Stc0 Stc1 Stc2 Scc0 Scc1 Scc2; have B0c0 := B0.cell 0; have B0c1 := B0.cell 1; have B0c2 := B0.cell 2; have Suc0 := Su.cell 0; have Suc1 := Su.cell 1; have Suc2 := Su.cell 2; have Stc0 := St.cell 0; have Stc1 := St.cell 1; have Stc2 := St.cell 2; have Scc0 := Sc.cell 0; have Scc1 := Sc.cell 1; have Scc2 := Sc.cell 2; simp at B0c0 B0c1 B0c2 Suc0 Suc1 Suc2 Stc0 Stc1 Stc2 Scc0 Scc1 Scc2)
      | (go_at_call 45; refine (constant_any 0 o _ (by omega)).mono ?_; rintro e w16 ⟨An, cn, rfl, On, hq⟩; rw [List.length_replicate]; replace Oua := own_past Oua hq; replace Oub := own_past Oub hq; replace Ota := own_past Ota hq; replace Otb := own_past Otb hq; replace Oca := own_past Oca hq; replace Ocb := own_past Ocb hq; replace B0 := B0.past hq; replace Su := Su.past hq; replace St := St.past hq; replace Sc := Sc.past hq; replace Hb := Lib.hid (thenB Hb.out hq); have tq : _ ≤ _ := hq.size; clear hq; clear B0c0 B0c1 B0c2 Suc0 Suc1 Suc2 Stc0 Stc1 Stc2 Scc0 Scc1 Scc2; have B0c0 := B0.cell 0; have B0c1 := B0.cell 1; have B0c2 := B0.cell 2; have Suc0 := Su.cell 0; have Suc1 := Su.cell 1; have Suc2 := Su.cell 2; have Stc0 := St.cell 0; have Stc1 := St.cell 1; have Stc2 := St.cell 2; have Scc0 := Sc.cell 0; have Scc1 := Sc.cell 1; have Scc2 := Sc.cell 2; simp at B0c0 B0c1 B0c2 Suc0 Suc1 Suc2 Stc0 Stc1 Stc2 Scc0 Scc1 Scc2; replace On : Own w16 _ An cn (zeros o) := On))
  go_wp2_with fail
  go_ret
  exact ⟨rfl, Hb.out⟩
set_option maxRecDepth 100000 in
theorem lifted (os : Os) (started : os.Started) (H : Type) (enc : TypeId × Value → H) :
    ReturnsInHanded {} Try.checked os 9 .any (Rows.fnCombCutSpec.pre6 enc Try.prog Try.f9 Rows.fnCombCutRow.domain false) (Rows.fnCombCutSpec.post enc Try.prog Try.f9 false true false false) := by
  refine returnsInHanded_of_change (C := Try.checked) own started (by kernel_rfl) Try.func9
    (ChangeSpec.witness6 (enc := enc) (C := Try.checked) false ⟨#[], #[.slice none 0 0], []⟩ 8 (by kernel_rfl) (by kernel_rfl) (by kernel_rfl) (by kernel_rfl)) ?_
  intro W base args ds gs before hval0 hW hcnd _
  have hval : ∀ (j : Nat) t v, Try.f9.params[j]? = some t → args[j]? = some v → Value.okWide Try.prog W .any base t v := hval0
  have hW' := hW
  obtain ⟨p, q, hA0, hV, rfl, hfz, hnd⟩ := hW
  have hA : DataW.TrodAll enc Try.prog W 0 (fun _ => true) true Try.f9.params.toList args.toList ds p := hA0
  rw [Try.params9] at hA hval
  obtain ⟨v0, vs0, d0, ds0, p0, q0, hargs, rfl, rfl, h0, g0⟩ := trodAll_cons hA
  obtain ⟨rfl, rfl, rfl⟩ := trodAll_nil g0
  obtain rfl : args = #[v0] := by cases args; simp_all
  obtain ⟨rfl, rfl⟩ := trodVars_none hV
  have k0 := h0
  have lt0 : ∀ x ∈ p0, x.block < W.heap.size := by obtain ⟨m, hm⟩ := k0; exact DataW.trod_lt m _ _ _ hm
  obtain ⟨A0, z0, c0, rfl, l0, m0, r0⟩ := arg_bytes Try.underlying22 Try.underlying5 (by kernel_rfl) (hval 0 22 v0 rfl rfl) h0
  clear hA0 hval0
  refine (walkw W A0 z0 c0 l0 m0 r0).mono fun e W' ⟨he, bel⟩ => ?_
  subst he
  exact ⟨_, rfl, _, _, _, [], _, [], hW', trodAll_mk1 (shut_bool Try.underlying4 _), (trodAll_cons_mk (Below.trod laidOut (by kernel_rfl) (of_decide_eq_true (by kernel_rfl)) k0 bel lt0) trodAll_mk0), rfl, bel.frame _, fun h => by cases h⟩
theorem over : Rows.fnCombCutRow.holds Try.pinned (OpenSpec.ofChange Rows.fnCombCutSpec) :=
  OpenClaim.holds_of_wide 9 Try.f9 rfl rfl rfl rfl rfl rfl rfl ⟨rfl, rfl, rfl, rfl, rfl⟩ rfl rfl rfl rfl rfl (by kernel_rfl) Try.func9 (by kernel_rfl)
    (of_decide_eq_true (by kernel_rfl)) (by unfold Func.isWrapper; first | (rw [if_pos (by decide +kernel)]; kernel_rfl) | (rw [if_neg (by decide +kernel)]; exact ⟨rfl, rfl⟩))
    (fun os started H enc _ => lifted os started H enc)
theorem proved : Rows.FnCombCutSaid := over

end Go.Proofs.Ytfplecbacgcjgaa.combCut
