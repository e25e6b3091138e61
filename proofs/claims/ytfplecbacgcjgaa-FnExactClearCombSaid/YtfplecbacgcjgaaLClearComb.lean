/- The program's ClearComb returns what the reference's returns, for all arguments, in memory of its own. No condition. -/
import Derived.Test.YtfplecbacgcjgaaClear
import Derived.Test.YtfplecbacgcjgaaLawAcc
import Derived.Test.YtfplecbacgcjgaaCutCS
namespace Go.Proofs.Ytfplecbacgcjgaa.clearComb
open Go.ChangeShapes Go.WideShapes Go.ChangeAt Go.RowKit
set_option linter.unusedVariables false
set_option linter.unusedSimpArgs false
set_option maxRecDepth 100000 in
set_option maxHeartbeats 1000000 in
theorem walkw (w : World) (a0 b0 c0 : Int) (x0 : -9223372036854775808 ≤ a0 ∧ a0 ≤ 9223372036854775807 ∧ -9223372036854775808 ≤ b0 ∧ b0 ≤ 9223372036854775807 ∧ -9223372036854775808 ≤ c0 ∧ c0 ≤ 9223372036854775807) (A1 : Option Addr) (x1 : List Int) (c1 : Nat) (D1 : Option Addr) (y1 : List Int) (d1 : Nat) (p1 : Int) (lx1 : x1.length ≤ c1) (mc1 : c1 ≤ maxLen) (ly1 : y1.length ≤ d1) (md1 : d1 ≤ maxLen) (rx1 : Rd w w.heap.size A1 x1) (ry1 : Rd w w.heap.size D1 y1) (pl1 : -9223372036854775808 ≤ p1) (ph1 : p1 ≤ 9223372036854775807) :
    Calls Try.prog 8 #[.agg #[.int .i64 a0, .int .i64 b0, .int .i64 c0], .agg #[.slice A1 x1.length c1, .slice D1 y1.length d1, .int .i64 p1]] w fun e w' => e = .returned (.bool true) ∧ Below w.heap.size w w' := by
  clear x0
  unfold maxLen at mc1 md1
  have lx1b : x1.length ≤ 9223372036854775807 := by omega
  have ly1b : y1.length ≤ 9223372036854775807 := by omega
  have Hb : Hid (Below w.heap.size w w) := Below.refl _ _
  have bx : Below w.heap.size w (w.alloc (.cells #[.int .i64 a0, .int .i64 b0, .int .i64 c0] 46)) := (Below.refl _ _).alloc (Nat.le_refl _) _
  have B0 := Blk.new w 46 #[.int .i64 a0, .int .i64 b0, .int .i64 c0]
  have VB0 : w.heap.size < (w.alloc (.cells #[.int .i64 a0, .int .i64 b0, .int .i64 c0] 46)).heap.size := by simp
  replace Hb := Lib.hid (thenB Hb.out bx)
  clear bx
  have bx : Below (w.alloc (.cells #[.int .i64 a0, .int .i64 b0, .int .i64 c0] 46)).heap.size (w.alloc (.cells #[.int .i64 a0, .int .i64 b0, .int .i64 c0] 46)) ((w.alloc (.cells #[.int .i64 a0, .int .i64 b0, .int .i64 c0] 46)).alloc (.cells #[.slice A1 x1.length c1, .slice D1 y1.length d1, .int .i64 p1] 47)) := (Below.refl _ _).alloc (Nat.le_refl _) _
  have B1 := Blk.new (w.alloc (.cells #[.int .i64 a0, .int .i64 b0, .int .i64 c0] 46)) 47 #[.slice A1 x1.length c1, .slice D1 y1.length d1, .int .i64 p1]
  have VB1 : (w.alloc (.cells #[.int .i64 a0, .int .i64 b0, .int .i64 c0] 46)).heap.size < ((w.alloc (.cells #[.int .i64 a0, .int .i64 b0, .int .i64 c0] 46)).alloc (.cells #[.slice A1 x1.length c1, .slice D1 y1.length d1, .int .i64 p1] 47)).heap.size := by simp
  replace B0 := B0.past bx
  replace Hb := Lib.hid (thenB Hb.out bx)
  clear bx
  go_enter Try.func8, Try.ntmps8
  have B0c0 := B0.cell 0
  have B0c1 := B0.cell 1
  have B0c2 := B0.cell 2
  have B1c0 := B1.cell 0
  have B1c1 := B1.cell 1
  have B1c2 := B1.cell 2
  simp at B0c0 B0c1 B0c2 B1c0 B1c1 B1c2
  go_wp2_with fail
  refine (szCombState_any A1 c1 x1.length D1 d1 y1.length p1 1048576 _ lx1b ly1b (by omega) (by omega)).mono ?_
  rintro e w1 ⟨⟨v1, rfl, hv1⟩, h1⟩
  replace B0 := B0.past h1
  replace B1 := B1.past h1
  replace Hb := Lib.hid (thenB Hb.out h1)
  have t3 : ((w.alloc (.cells #[.int .i64 a0, .int .i64 b0, .int .i64 c0] 46)).alloc (.cells #[.slice A1 x1.length c1, .slice D1 y1.length d1, .int .i64 p1] 47)).heap.size ≤ w1.heap.size := h1.size
  clear h1
  by_cases n1 : x1.length + y1.length ≤ 1048576
  case neg =>
    have v1n : v1 < 0 := by omega
    clear hv1
    go_wp2_with fail
    go_ret
    exact ⟨rfl, Hb.out⟩
  have v1n : 0 ≤ v1 := by omega
  have nx1 : x1.length ≤ 1048576 := by omega
  have ny1 : y1.length ≤ 1048576 := by omega
  clear hv1 n1 lx1b ly1b
  have hyl := clearC_len a0 b0 c0 ⟨x1, y1, p1⟩
  obtain ⟨Y, hY⟩ : ∃ Y, Y = clearC a0 b0 c0 ⟨x1, y1, p1⟩ := ⟨_, rfl⟩
  rw [← hY] at hyl
  have ys1 := hyl.1
  have ys2 := hyl.2
  have HY := Lib.hid hY
  clear hY
  clear hyl
  have HS : Hid (∀ W A c D d, Rd W W.heap.size A x1 → Rd W W.heap.size D y1 → Calls Try.prog 40 #[.agg #[.int .i64 a0, .int .i64 b0, .int .i64 c0], .agg #[.slice A x1.length c, .slice D y1.length d, .int .i64 p1]] W (RetCSB W Y)) := fun W A c D d h1 h2 => by rw [HY.out]; exact specClearComb_any a0 b0 c0 A c x1 D d y1 p1 W h1 h2 nx1 ny1
  have HG : Hid (∀ W A c D d, Rd W W.heap.size A x1 → Rd W W.heap.size D y1 → Calls Try.prog 41 #[.agg #[.int .i64 a0, .int .i64 b0, .int .i64 c0], .agg #[.slice A x1.length c, .slice D y1.length d, .int .i64 p1]] W (RetCSB W Y)) := fun W A c D d h1 h2 => by rw [HY.out]; exact implClearComb_any a0 b0 c0 A c x1 D d y1 p1 W h1 h2 nx1 ny1
  have bx : Below w1.heap.size w1 w1.drew := (Below.refl _ _).drew
  replace B0 := B0.past bx
  replace B1 := B1.past bx
  replace Hb := Lib.hid (thenB Hb.out bx)
  clear bx
  have t4 : w1.heap.size ≤ w1.drew.heap.size := Nat.le_refl _
  clear B0c0 B0c1 B0c2 B1c0 B1c1 B1c2
  have B0c0 := B0.cell 0
  have B0c1 := B0.cell 1
  have B0c2 := B0.cell 2
  have B1c0 := B1.cell 0
  have B1c1 := B1.cell 1
  have B1c2 := B1.cell 2
  simp at B0c0 B0c1 B0c2 B1c0 B1c1 B1c2
  go_upto_region 5 with fail
  go_cut [6, 7] from 21 to 28 (fun u1 u2 wx => ∃ g Aa ca Ab cb, u1 = .pointer (some ⟨g, 0, none⟩) ∧ u2 = .bool Y.2 ∧ Hid (MetCS (w1.drew) g Y.1.sums Y.1.delays Y.1.phase Aa ca Ab cb wx))
  case first =>
    have HW : Hid (Below (w1.drew).heap.size (w1.drew) (w1.drew)) := Below.refl _ _
    go_region_held3 (fun w' => w'.cell? ⟨w.heap.size, 0, none⟩ = some (.int .i64 a0) ∧ w'.cell? ⟨w.heap.size, 1, none⟩ = some (.int .i64 b0) ∧ w'.cell? ⟨w.heap.size, 2, none⟩ = some (.int .i64 c0) ∧ w'.cell? ⟨w.heap.size + 1, 0, none⟩ = some (.slice A1 x1.length c1) ∧ w'.cell? ⟨w.heap.size + 1, 1, none⟩ = some (.slice D1 y1.length d1) ∧ w'.cell? ⟨w.heap.size + 1, 2, none⟩ = some (.int .i64 p1)) (first | go_keep)
      (first
        | (go_at_call 32; first | (replace SX := SX; clear B0c0 B0c1 B0c2 B1c0 B1c1 B1c2; have B0c0 := B0.cell 0; have B0c1 := B0.cell 1; have B0c2 := B0.cell 2; have B1c0 := B1.cell 0; have B1c1 := B1.cell 1; have B1c2 := B1.cell 2; have SXc0 := SX.cell 0; have SXc1 := SX.cell 1; have SXc2 := SX.cell 2; simp at B0c0 B0c1 B0c2 B1c0 B1c1 B1c2 SXc0 SXc1 SXc2; refine (toComb_any a0 b0 c0 _).mono ?_; rintro e w2 ⟨rfl, h2⟩; replace B0 := B0.past h2; replace B1 := B1.past h2; replace SX := SX.past h2; replace Hb := Lib.hid (thenB Hb.out h2); replace HW := Lib.hid (thenB HW.out h2); have t5 : w1.drew.heap.size ≤ w2.heap.size := h2.size; clear h2; clear B0c0 B0c1 B0c2 B1c0 B1c1 B1c2 SXc0 SXc1 SXc2; have B0c0 := B0.cell 0; have B0c1 := B0.cell 1; have B0c2 := B0.cell 2; have B1c0 := B1.cell 0; have B1c1 := B1.cell 1; have B1c2 := B1.cell 2; have SXc0 := SX.cell 0; have SXc1 := SX.cell 1; have SXc2 := SX.cell 2; simp at B0c0 B0c1 B0c2 B1c0 B1c1 B1c2 SXc0 SXc1 SXc2) | (clear B0c0 B0c1 B0c2 B1c0 B1c1 B1c2; have B0c0 := B0.cell 0; have B0c1 := B0.cell 1; have B0c2 := B0.cell 2; have B1c0 := B1.cell 0; have B1c1 := B1.cell 1; have B1c2 := B1.cell 2; simp at B0c0 B0c1 B0c2 B1c0 B1c1 B1c2; refine (toComb_any a0 b0 c0 _).mono ?_; rintro e w2 ⟨rfl, h2⟩; replace B0 := B0.past h2; replace B1 := B1.past h2; replace Hb := Lib.hid (thenB Hb.out h2); replace HW := Lib.hid (thenB HW.out h2); have t5 : w1.drew.heap.size ≤ w2.heap.size := h2.size; clear h2; clear B0c0 B0c1 B0c2 B1c0 B1c1 B1c2; have B0c0 := B0.cell 0; have B0c1 := B0.cell 1; have B0c2 := B0.cell 2; have B1c0 := B1.cell 0; have B1c1 := B1.cell 1; have B1c2 := B1.cell 2; simp at B0c0 B0c1 B0c2 B1c0 B1c1 B1c2) | (have bx : Below w1.drew.heap.size w1.drew (w1.drew.alloc (.cells #[.slice none 0 0, .slice none 0 0, .int .i64 0] 35)) := (Below.refl _ _).alloc (Nat.le_refl _) _; have SX := Blk.new w1.drew 35 #[.slice none 0 0, .slice none 0 0, .int .i64 0]; have VSX : w1.drew.heap.size < (w1.drew.alloc (.cells #[.slice none 0 0, .slice none 0 0, .int .i64 0] 35)).heap.size := (by simp); replace B0 := B0.past bx; replace B1 := B1.past bx; replace Hb := Lib.hid (thenB Hb.out bx); replace HW := Lib.hid (thenB HW.out bx); clear bx; replace SX : Blk ((w1.drew.alloc (.cells #[.slice none 0 0, .slice none 0 0, .int .i64 0] 35))) w1.heap.size 35 #[.slice none 0 0, .slice none 0 0, .int .i64 0] := SX; have GX : (w1.drew).heap.size ≤ w1.heap.size := (by first | omega | exact Nat.le_refl _); have nzx0 : ¬ (w.heap.size = w1.heap.size) := (by omega); have nzy0 : ¬ (w1.heap.size = w.heap.size) := (by omega); have nzx1 : ¬ (w.heap.size + 1 = w1.heap.size) := (by omega); have nzy1 : ¬ (w1.heap.size = w.heap.size + 1) := (by omega); clear B0c0 B0c1 B0c2 B1c0 B1c1 B1c2; have B0c0 := B0.cell 0; have B0c1 := B0.cell 1; have B0c2 := B0.cell 2; have B1c0 := B1.cell 0; have B1c1 := B1.cell 1; have B1c2 := B1.cell 2; have SXc0 := SX.cell 0; have SXc1 := SX.cell 1; have SXc2 := SX.cell 2; simp at B0c0 B0c1 B0c2 B1c0 B1c1 B1c2 SXc0 SXc1 SXc2; refine (toComb_any a0 b0 c0 _).mono ?_; rintro e w2 ⟨rfl, h2⟩; replace B0 := B0.past h2; replace B1 := B1.past h2; replace SX := SX.past h2; replace Hb := Lib.hid (thenB Hb.out h2); replace HW := Lib.hid (thenB HW.out h2); have t5 : (w1.drew.alloc (.cells #[.slice none 0 0, .slice none 0 0, .int .i64 0] 35)).heap.size ≤ w2.heap.size := h2.size; clear h2; clear B0c0 B0c1 B0c2 B1c0 B1c1 B1c2 SXc0 SXc1 SXc2; have B0c0 := B0.cell 0; have B0c1 := B0.cell 1; have B0c2 := B0.cell 2; have B1c0 := B1.cell 0; have B1c1 := B1.cell 1; have B1c2 := B1.cell 2; have SXc0 := SX.cell 0; have SXc1 := SX.cell 1; have SXc2 := SX.cell 2; simp at B0c0 B0c1 B0c2 B1c0 B1c1 B1c2 SXc0 SXc1 SXc2))
        | (go_at_call 33; first | (replace SX := SX; clear B0c0 B0c1 B0c2 B1c0 B1c1 B1c2; have B0c0 := B0.cell 0; have B0c1 := B0.cell 1; have B0c2 := B0.cell 2; have B1c0 := B1.cell 0; have B1c1 := B1.cell 1; have B1c2 := B1.cell 2; have SXc0 := SX.cell 0; have SXc1 := SX.cell 1; have SXc2 := SX.cell 2; simp at B0c0 B0c1 B0c2 B1c0 B1c1 B1c2 SXc0 SXc1 SXc2; refine (toCombState_any A1 c1 x1 D1 d1 y1 p1 _ (rx1.past Hb.out) (ry1.past Hb.out) nx1 ny1).mono ?_; rintro e w3 ⟨Asa, csa, Asb, csb, rfl, Osa, Osb, Ps, h3⟩; replace B0 := B0.past h3; replace B1 := B1.past h3; replace SX := SX.past h3; replace Hb := Lib.hid (thenB Hb.out h3); replace HW := Lib.hid (thenB HW.out h3); have t6 : w2.heap.size ≤ w3.heap.size := h3.size; have Lsa := own_lo Osa; have Usa := own_hi Osa; have Lsb := own_lo Osb; have Usb := own_hi Osb; clear h3; clear B0c0 B0c1 B0c2 B1c0 B1c1 B1c2 SXc0 SXc1 SXc2; have B0c0 := B0.cell 0; have B0c1 := B0.cell 1; have B0c2 := B0.cell 2; have B1c0 := B1.cell 0; have B1c1 := B1.cell 1; have B1c2 := B1.cell 2; have SXc0 := SX.cell 0; have SXc1 := SX.cell 1; have SXc2 := SX.cell 2; simp at B0c0 B0c1 B0c2 B1c0 B1c1 B1c2 SXc0 SXc1 SXc2) | (clear B0c0 B0c1 B0c2 B1c0 B1c1 B1c2; have B0c0 := B0.cell 0; have B0c1 := B0.cell 1; have B0c2 := B0.cell 2; have B1c0 := B1.cell 0; have B1c1 := B1.cell 1; have B1c2 := B1.cell 2; simp at B0c0 B0c1 B0c2 B1c0 B1c1 B1c2; refine (toCombState_any A1 c1 x1 D1 d1 y1 p1 _ (rx1.past Hb.out) (ry1.past Hb.out) nx1 ny1).mono ?_; rintro e w3 ⟨Asa, csa, Asb, csb, rfl, Osa, Osb, Ps, h3⟩; replace B0 := B0.past h3; replace B1 := B1.past h3; replace Hb := Lib.hid (thenB Hb.out h3); replace HW := Lib.hid (thenB HW.out h3); have t6 : w2.heap.size ≤ w3.heap.size := h3.size; have Lsa := own_lo Osa; have Usa := own_hi Osa; have Lsb := own_lo Osb; have Usb := own_hi Osb; clear h3; clear B0c0 B0c1 B0c2 B1c0 B1c1 B1c2; have B0c0 := B0.cell 0; have B0c1 := B0.cell 1; have B0c2 := B0.cell 2; have B1c0 := B1.cell 0; have B1c1 := B1.cell 1; have B1c2 := B1.cell 2; simp at B0c0 B0c1 B0c2 B1c0 B1c1 B1c2) | (have bx : Below w2.heap.size w2 (w2.alloc (.cells #[.slice none 0 0, .slice none 0 0, .int .i64 0] 35)) := (Below.refl _ _).alloc (Nat.le_refl _) _; have SX := Blk.new w2 35 #[.slice none 0 0, .slice none 0 0, .int .i64 0]; have VSX : w2.heap.size < (w2.alloc (.cells #[.slice none 0 0, .slice none 0 0, .int .i64 0] 35)).heap.size := (by simp); replace B0 := B0.past bx; replace B1 := B1.past bx; replace Hb := Lib.hid (thenB Hb.out bx); replace HW := Lib.hid (thenB HW.out bx); clear bx; have GX : (w1.drew).heap.size ≤ w2.heap.size := (by first | omega | exact Nat.le_refl _); have nzx0 : ¬ (w.heap.size = w2.heap.size) := (by omega); have nzy0 : ¬ (w2.heap.size = w.heap.size) := (by omega); have nzx1 : ¬ (w.heap.size + 1 = w2.heap.size) := (by omega); have nzy1 : ¬ (w2.heap.size = w.heap.size + 1) := (by omega); clear B0c0 B0c1 B0c2 B1c0 B1c1 B1c2; have B0c0 := B0.cell 0; have B0c1 := B0.cell 1; have B0c2 := B0.cell 2; have B1c0 := B1.cell 0; have B1c1 := B1.cell 1; have B1c2 := B1.cell 2; have SXc0 := SX.cell 0; have SXc1 := SX.cell 1; have SXc2 := SX.cell 2; simp at B0c0 B0c1 B0c2 B1c0 B1c1 B1c2 SXc0 SXc1 SXc2; refine (toCombState_any A1 c1 x1 D1 d1 y1 p1 _ (rx1.past Hb.out) (ry1.past Hb.out) nx1 ny1).mono ?_; rintro e w3 ⟨Asa, csa, Asb, csb, rfl, Osa, Osb, Ps, h3⟩; replace B0 := B0.past h3; replace B1 := B1.past h3; replace SX := SX.past h3; replace Hb := Lib.hid (thenB Hb.out h3); replace HW := Lib.hid (thenB HW.out h3); have t6 : (w2.alloc (.cells #[.slice none 0 0, .slice none 0 0, .int .i64 0] 35)).heap.size ≤ w3.heap.size := h3.size; have Lsa := own_lo Osa; have Usa := own_hi Osa; have Lsb := own_lo Osb; have Usb := own_hi Osb; clear h3; clear B0c0 B0c1 B0c2 B1c0 B1c1 B1c2 SXc0 SXc1 SXc2; have B0c0 := B0.cell 0; have B0c1 := B0.cell 1; have B0c2 := B0.cell 2; have B1c0 := B1.cell 0; have B1c1 := B1.cell 1; have B1c2 := B1.cell 2; have SXc0 := SX.cell 0; have SXc1 := SX.cell 1; have SXc2 := SX.cell 2; simp at B0c0 B0c1 B0c2 B1c0 B1c1 B1c2 SXc0 SXc1 SXc2))
        | (go_at_call 40; first | (replace SX := SX; have XL := SX.lt; clear B0c0 B0c1 B0c2 B1c0 B1c1 B1c2; have B0c0 := B0.cell 0; have B0c1 := B0.cell 1; have B0c2 := B0.cell 2; have B1c0 := B1.cell 0; have B1c1 := B1.cell 1; have B1c2 := B1.cell 2; have SXc0 := SX.cell 0; have SXc1 := SX.cell 1; have SXc2 := SX.cell 2; simp at B0c0 B0c1 B0c2 B1c0 B1c1 B1c2 SXc0 SXc1 SXc2; refine (HS.out _ Asa csa Asb csb (own_rd Osa) (own_rd Osb)).mono ?_; rintro e w4 ⟨Aza, cza, Azb, czb, rfl, Oza, Ozb, Pz, h4⟩; replace Osa := own_past Osa h4; replace Osb := own_past Osb h4; replace B0 := B0.past h4; replace B1 := B1.past h4; replace SX := SX.past h4; replace Hb := Lib.hid (thenB Hb.out h4); replace HW := Lib.hid (thenB HW.out h4); have t7 : w3.heap.size ≤ w4.heap.size := h4.size; have Lza := own_lo Oza; have Uza := own_hi Oza; have Lzb := own_lo Ozb; have Uzb := own_hi Ozb; clear h4; clear B0c0 B0c1 B0c2 B1c0 B1c1 B1c2 SXc0 SXc1 SXc2; have B0c0 := B0.cell 0; have B0c1 := B0.cell 1; have B0c2 := B0.cell 2; have B1c0 := B1.cell 0; have B1c1 := B1.cell 1; have B1c2 := B1.cell 2; have SXc0 := SX.cell 0; have SXc1 := SX.cell 1; have SXc2 := SX.cell 2; simp at B0c0 B0c1 B0c2 B1c0 B1c1 B1c2 SXc0 SXc1 SXc2; have SXf0 := SX.frozen 0; have SXf1 := SX.frozen 1; have SXf2 := SX.frozen 2; have M := Lib.hid (met_before (p := Y.1.phase) HW.out GX XL (by rfl) SX Oza Ozb Pz)) | (clear B0c0 B0c1 B0c2 B1c0 B1c1 B1c2; have B0c0 := B0.cell 0; have B0c1 := B0.cell 1; have B0c2 := B0.cell 2; have B1c0 := B1.cell 0; have B1c1 := B1.cell 1; have B1c2 := B1.cell 2; simp at B0c0 B0c1 B0c2 B1c0 B1c1 B1c2; refine (HS.out _ Asa csa Asb csb (own_rd Osa) (own_rd Osb)).mono ?_; rintro e w4 ⟨Aza, cza, Azb, czb, rfl, Oza, Ozb, Pz, h4⟩; replace Osa := own_past Osa h4; replace Osb := own_past Osb h4; replace B0 := B0.past h4; replace B1 := B1.past h4; replace Hb := Lib.hid (thenB Hb.out h4); replace HW := Lib.hid (thenB HW.out h4); have t7 : w3.heap.size ≤ w4.heap.size := h4.size; have Lza := own_lo Oza; have Uza := own_hi Oza; have Lzb := own_lo Ozb; have Uzb := own_hi Ozb; clear h4; clear B0c0 B0c1 B0c2 B1c0 B1c1 B1c2; have B0c0 := B0.cell 0; have B0c1 := B0.cell 1; have B0c2 := B0.cell 2; have B1c0 := B1.cell 0; have B1c1 := B1.cell 1; have B1c2 := B1.cell 2; simp at B0c0 B0c1 B0c2 B1c0 B1c1 B1c2; have M := Lib.hid (met_after (p := Y.1.phase) HW.out (by omega) Oza Ozb Pz)) | (have bx : Below w3.heap.size w3 (w3.alloc (.cells #[.slice none 0 0, .slice none 0 0, .int .i64 0] 35)) := (Below.refl _ _).alloc (Nat.le_refl _) _; have SX := Blk.new w3 35 #[.slice none 0 0, .slice none 0 0, .int .i64 0]; have VSX : w3.heap.size < (w3.alloc (.cells #[.slice none 0 0, .slice none 0 0, .int .i64 0] 35)).heap.size := (by simp); replace Osa := own_past Osa bx; replace Osb := own_past Osb bx; replace B0 := B0.past bx; replace B1 := B1.past bx; replace Hb := Lib.hid (thenB Hb.out bx); replace HW := Lib.hid (thenB HW.out bx); clear bx; have GX : (w1.drew).heap.size ≤ w3.heap.size := (by first | omega | exact Nat.le_refl _); have nzx0 : ¬ (w.heap.size = w3.heap.size) := (by omega); have nzy0 : ¬ (w3.heap.size = w.heap.size) := (by omega); have nzx1 : ¬ (w.heap.size + 1 = w3.heap.size) := (by omega); have nzy1 : ¬ (w3.heap.size = w.heap.size + 1) := (by omega); have XL := SX.lt; clear B0c0 B0c1 B0c2 B1c0 B1c1 B1c2; have B0c0 := B0.cell 0; have B0c1 := B0.cell 1; have B0c2 := B0.cell 2; have B1c0 := B1.cell 0; have B1c1 := B1.cell 1; have B1c2 := B1.cell 2; have SXc0 := SX.cell 0; have SXc1 := SX.cell 1; have SXc2 := SX.cell 2; simp at B0c0 B0c1 B0c2 B1c0 B1c1 B1c2 SXc0 SXc1 SXc2; refine (HS.out _ Asa csa Asb csb (own_rd Osa) (own_rd Osb)).mono ?_; rintro e w4 ⟨Aza, cza, Azb, czb, rfl, Oza, Ozb, Pz, h4⟩; replace Osa := own_past Osa h4; replace Osb := own_past Osb h4; replace B0 := B0.past h4; replace B1 := B1.past h4; replace SX := SX.past h4; replace Hb := Lib.hid (thenB Hb.out h4); replace HW := Lib.hid (thenB HW.out h4); have t7 : (w3.alloc (.cells #[.slice none 0 0, .slice none 0 0, .int .i64 0] 35)).heap.size ≤ w4.heap.size := h4.size; have Lza := own_lo Oza; have Uza := own_hi Oza; have Lzb := own_lo Ozb; have Uzb := own_hi Ozb; clear h4; clear B0c0 B0c1 B0c2 B1c0 B1c1 B1c2 SXc0 SXc1 SXc2; have B0c0 := B0.cell 0; have B0c1 := B0.cell 1; have B0c2 := B0.cell 2; have B1c0 := B1.cell 0; have B1c1 := B1.cell 1; have B1c2 := B1.cell 2; have SXc0 := SX.cell 0; have SXc1 := SX.cell 1; have SXc2 := SX.cell 2; simp at B0c0 B0c1 B0c2 B1c0 B1c1 B1c2 SXc0 SXc1 SXc2; have SXf0 := SX.frozen 0; have SXf1 := SX.frozen 1; have SXf2 := SX.frozen 2; have M := Lib.hid (met_before (p := Y.1.phase) HW.out GX XL (by rfl) SX Oza Ozb Pz))))
    all_goals (go_wp2_with fail; go_meet; exact ⟨_, _, _, _, _, rfl, rfl, M⟩)
  case rest =>
  obtain ⟨gw, Awa, cwa, Awb, cwb, rfl, rfl, HM⟩ := hcut
  obtain ⟨glw, Sw, Owa, Owb, Pw, Nwa, Nwb, bx⟩ := HM.out
  clear HM
  replace B0 := B0.past bx
  replace B1 := B1.past bx
  replace Hb := Lib.hid (thenB Hb.out bx)
  have t5 : (w1.drew).heap.size ≤ wc.heap.size := bx.size
  have VSw := Sw.lt
  have Lwa := own_lo Owa
  have Uwa := own_hi Owa
  have Lwb := own_lo Owb
  have Uwb := own_hi Owb
  clear bx
  obtain ⟨w2, hwc⟩ : ∃ W, W = wc := ⟨_, rfl⟩
  subst hwc
  clear B0c0 B0c1 B0c2 B1c0 B1c1 B1c2
  have B0c0 := B0.cell 0
  have B0c1 := B0.cell 1
  have B0c2 := B0.cell 2
  have B1c0 := B1.cell 0
  have B1c1 := B1.cell 1
  have B1c2 := B1.cell 2
  have Swc0 := Sw.cell 0
  have Swc1 := Sw.cell 1
  have Swc2 := Sw.cell 2
  simp at B0c0 B0c1 B0c2 B1c0 B1c1 B1c2 Swc0 Swc1 Swc2
  go_wp2_with fail
  refine (toCombState_any A1 c1 x1 D1 d1 y1 p1 _ (rx1.past Hb.out) (ry1.past Hb.out) nx1 ny1).mono ?_
  rintro e w3 ⟨Aka, cka, Akb, ckb, rfl, Oka, Okb, Pk, h3⟩
  replace Owa := own_past Owa h3
  replace Owb := own_past Owb h3
  replace B0 := B0.past h3
  replace B1 := B1.past h3
  replace Sw := Sw.past h3
  replace Hb := Lib.hid (thenB Hb.out h3)
  have t7 : w2.heap.size ≤ w3.heap.size := h3.size
  have Lka := own_lo Oka
  have Uka := own_hi Oka
  have Lkb := own_lo Okb
  have Ukb := own_hi Okb
  clear h3
  have bx : Below w3.heap.size w3 (w3.alloc (.cells #[.slice Aka x1.length cka, .slice Akb y1.length ckb, .int .i64 p1] 35)) := (Below.refl _ _).alloc (Nat.le_refl _) _
  have Sk := Blk.new w3 35 #[.slice Aka x1.length cka, .slice Akb y1.length ckb, .int .i64 p1]
  have VSk : w3.heap.size < (w3.alloc (.cells #[.slice Aka x1.length cka, .slice Akb y1.length ckb, .int .i64 p1] 35)).heap.size := by simp
  replace Owa := own_past Owa bx
  replace Owb := own_past Owb bx
  replace Oka := own_past Oka bx
  replace Okb := own_past Okb bx
  replace B0 := B0.past bx
  replace B1 := B1.past bx
  replace Sw := Sw.past bx
  replace Hb := Lib.hid (thenB Hb.out bx)
  clear bx
  clear B0c0 B0c1 B0c2 B1c0 B1c1 B1c2 Swc0 Swc1 Swc2
  have B0c0 := B0.cell 0
  have B0c1 := B0.cell 1
  have B0c2 := B0.cell 2
  have B1c0 := B1.cell 0
  have B1c1 := B1.cell 1
  have B1c2 := B1.cell 2
  have Swc0 := Sw.cell 0
  have Swc1 := Sw.cell 1
  have Swc2 := Sw.cell 2
  have Skc0 := Sk.cell 0
  have Skc1 := Sk.cell 1
  have Skc2 := Sk.cell 2
  simp at B0c0 B0c1 B0c2 B1c0 B1c1 B1c2 Swc0 Swc1 Swc2 Skc0 Skc1 Skc2
  clear B0c0 B0c1 B0c2 B1c0 B1c1 B1c2 Swc0 Swc1 Swc2 Skc0 Skc1 Skc2
  go_wp2_with fail
  obtain ⟨w4, hww4⟩ : ∃ W, W = (w3.alloc (.cells #[.slice Aka x1.length cka, .slice Akb y1.length ckb, .int .i64 p1] 35)) := ⟨_, rfl⟩
  rw [← hww4] at Hb B0 B1 Sw Sk Owa Owb Oka Okb VSk ⊢
  clear hww4
  have bx : Below w4.heap.size w4 w4.drew := (Below.refl _ _).drew
  replace Owa := own_past Owa bx
  replace Owb := own_past Owb bx
  replace Oka := own_past Oka bx
  replace Okb := own_past Okb bx
  replace B0 := B0.past bx
  replace B1 := B1.past bx
  replace Sw := Sw.past bx
  replace Sk := Sk.past bx
  replace Hb := Lib.hid (thenB Hb.out bx)
  clear bx
  have t9 : w4.heap.size ≤ w4.drew.heap.size := Nat.le_refl _
  have B0c0 := B0.cell 0
  have B0c1 := B0.cell 1
  have B0c2 := B0.cell 2
  have B1c0 := B1.cell 0
  have B1c1 := B1.cell 1
  have B1c2 := B1.cell 2
  have Swc0 := Sw.cell 0
  have Swc1 := Sw.cell 1
  have Swc2 := Sw.cell 2
  have Skc0 := Sk.cell 0
  have Skc1 := Sk.cell 1
  have Skc2 := Sk.cell 2
  simp at B0c0 B0c1 B0c2 B1c0 B1c1 B1c2 Swc0 Swc1 Swc2 Skc0 Skc1 Skc2
  go_upto_region 7 with fail
  go_cut [9, 10] from 31 to 37 (fun u1 u2 wx => ∃ g Aa ca Ab cb, u1 = .pointer (some ⟨g, 0, none⟩) ∧ u2 = .bool Y.2 ∧ Hid (MetCS (w4.drew) g Y.1.sums Y.1.delays Y.1.phase Aa ca Ab cb wx))
  case first =>
    have HW : Hid (Below (w4.drew).heap.size (w4.drew) (w4.drew)) := Below.refl _ _
    go_region_held3 (fun w' => w'.cell? ⟨w.heap.size, 0, none⟩ = some (.int .i64 a0) ∧ w'.cell? ⟨w.heap.size, 1, none⟩ = some (.int .i64 b0) ∧ w'.cell? ⟨w.heap.size, 2, none⟩ = some (.int .i64 c0) ∧ w'.cell? ⟨w3.heap.size, 0, none⟩ = some (.slice Aka x1.length cka) ∧ w'.cell? ⟨w3.heap.size, 1, none⟩ = some (.slice Akb y1.length ckb) ∧ w'.cell? ⟨w3.heap.size, 2, none⟩ = some (.int .i64 p1)) (first | go_keep)
      (first
        | (go_at_call 32; first | (replace SX := SX; clear B0c0 B0c1 B0c2 B1c0 B1c1 B1c2 Swc0 Swc1 Swc2 Skc0 Skc1 Skc2; have B0c0 := B0.cell 0; have B0c1 := B0.cell 1; have B0c2 := B0.cell 2; have B1c0 := B1.cell 0; have B1c1 := B1.cell 1; have B1c2 := B1.cell 2; have Swc0 := Sw.cell 0; have Swc1 := Sw.cell 1; have Swc2 := Sw.cell 2; have Skc0 := Sk.cell 0; have Skc1 := Sk.cell 1; have Skc2 := Sk.cell 2; have SXc0 := SX.cell 0; have SXc1 := SX.cell 1; have SXc2 := SX.cell 2; simp at B0c0 B0c1 B0c2 B1c0 B1c1 B1c2 Swc0 Swc1 Swc2 Skc0 Skc1 Skc2 SXc0 SXc1 SXc2; refine (toComb_any a0 b0 c0 _).mono ?_; rintro e w5 ⟨rfl, h5⟩; replace Owa := own_past Owa h5; replace Owb := own_past Owb h5; replace Oka := own_past Oka h5; replace Okb := own_past Okb h5; replace B0 := B0.past h5; replace B1 := B1.past h5; replace Sw := Sw.past h5; replace Sk := Sk.past h5; replace SX := SX.past h5; replace Hb := Lib.hid (thenB Hb.out h5); replace HW := Lib.hid (thenB HW.out h5); have t10 : w4.drew.heap.size ≤ w5.heap.size := h5.size; clear h5; clear B0c0 B0c1 B0c2 B1c0 B1c1 B1c2 Swc0 Swc1 Swc2 Skc0 Skc1 Skc2 SXc0 SXc1 SXc2; have B0c0 := B0.cell 0; have B0c1 := B0.cell 1; have B0c2 := B0.cell 2; have B1c0 := B1.cell 0; have B1c1 := B1.cell 1; have B1c2 := B1.cell 2; have Swc0 := Sw.cell 0; have Swc1 := Sw.cell 1; have Swc2 := Sw.cell 2; have Skc0 := Sk.cell 0; have Skc1 := Sk.cell 1; have Skc2 := Sk.cell 2; have SXc0 := SX.cell 0; have SXc1 := SX.cell 1; have SXc2 := SX.cell 2; simp at B0c0 B0c1 B0c2 B1c0 B1c1 B1c2 Swc0 Swc1 Swc2 Skc0 Skc1 Skc2 SXc0 SXc1 SXc2) | (clear B0c0 B0c1 B0c2 B1c0 B1c1 B1c2 Swc0 Swc1 Swc2 Skc0 Skc1 Skc2; have B0c0 := B0.cell 0; have B0c1 := B0.cell 1; have B0c2 := B0.cell 2; have B1c0 := B1.cell 0; have B1c1 := B1.cell 1; have B1c2 := B1.cell 2; have Swc0 := Sw.cell 0; have Swc1 := Sw.cell 1; have Swc2 := Sw.cell 2; have Skc0 := Sk.cell 0; have Skc1 := Sk.cell 1; have Skc2 := Sk.cell 2; simp at B0c0 B0c1 B0c2 B1c0 B1c1 B1c2 Swc0 Swc1 Swc2 Skc0 Skc1 Skc2; refine (toComb_any a0 b0 c0 _).mono ?_; rintro e w5 ⟨rfl, h5⟩; replace Owa := own_past Owa h5; replace Owb := own_past Owb h5; replace Oka := own_past Oka h5; replace Okb := own_past Okb h5; replace B0 := B0.past h5; replace B1 := B1.past h5; replace Sw := Sw.past h5; replace Sk := Sk.past h5; replace Hb := Lib.hid (thenB Hb.out h5); replace HW := Lib.hid (thenB HW.out h5); have t10 : w4.drew.heap.size ≤ w5.heap.size := h5.size; clear h5; clear B0c0 B0c1 B0c2 B1c0 B1c1 B1c2 Swc0 Swc1 Swc2 Skc0 Skc1 Skc2; have B0c0 := B0.cell 0; have B0c1 := B0.cell 1; have B0c2 := B0.cell 2; have B1c0 := B1.cell 0; have B1c1 := B1.cell 1; have B1c2 := B1.cell 2; have Swc0 := Sw.cell 0; have Swc1 := Sw.cell 1; have Swc2 := Sw.cell 2; have Skc0 := Sk.cell 0; have Skc1 := Sk.cell 1; have Skc2 := Sk.cell 2; simp at B0c0 B0c1 B0c2 B1c0 B1c1 B1c2 Swc0 Swc1 Swc2 Skc0 Skc1 Skc2) | (have bx : Below w4.drew.heap.size w4.drew (w4.drew.alloc (.cells #[.slice none 0 0, .slice none 0 0, .int .i64 0] 35)) := (Below.refl _ _).alloc (Nat.le_refl _) _; have SX := Blk.new w4.drew 35 #[.slice none 0 0, .slice none 0 0, .int .i64 0]; have VSX : w4.drew.heap.size < (w4.drew.alloc (.cells #[.slice none 0 0, .slice none 0 0, .int .i64 0] 35)).heap.size := (by simp); replace Owa := own_past Owa bx; replace Owb := own_past Owb bx; replace Oka := own_past Oka bx; replace Okb := own_past Okb bx; replace B0 := B0.past bx; replace B1 := B1.past bx; replace Sw := Sw.past bx; replace Sk := Sk.past bx; replace Hb := Lib.hid (thenB Hb.out bx); replace HW := Lib.hid (thenB HW.out bx); clear bx; replace SX : Blk ((w4.drew.alloc (.cells #[.slice none 0 0, .slice none 0 0, .int .i64 0] 35))) w4.heap.size 35 #[.slice none 0 0, .slice none 0 0, .int .i64 0] := SX; have GX : (w4.drew).heap.size ≤ w4.heap.size := (by first | omega | exact Nat.le_refl _); have nzx0 : ¬ (w.heap.size = w4.heap.size) := (by omega); have nzy0 : ¬ (w4.heap.size = w.heap.size) := (by omega); have nzx1 : ¬ (w3.heap.size = w4.heap.size) := (by omega); have nzy1 : ¬ (w4.heap.size = w3.heap.size) := (by omega); clear B0c0 B0c1 B0c2 B1c0 B1c1 B1c2 Swc0 Swc1 Swc2 Skc0 Skc1 Skc2; have B0c0 := B0.cell 0; have B0c1 := B0.cell 1; have B0c2 := B0.cell 2; have B1c0 := B1.cell 0; have B1c1 := B1.cell 1; have B1c2 := B1.cell 2; have Swc0 := Sw.cell 0; have Swc1 := Sw.cell 1; have Swc2 := Sw.cell 2; have Skc0 := Sk.cell 0; have Skc1 := Sk.cell 1; have Skc2 := Sk.cell 2; have SXc0 := SX.cell 0; have SXc1 := SX.cell 1; have SXc2 := SX.cell 2; simp at B0c0 B0c1 B0c2 B1c0 B1c1 B1c2 Swc0 Swc1 Swc2 Skc0 Skc1 Skc2 SXc0 SXc1 SXc2; refine (toComb_any a0 b0 c0 _).mono ?_; rintro e w5 ⟨rfl, h5⟩; replace Owa := own_past Owa h5; replace Owb := own_past Owb h5; replace Oka := own_past Oka h5; replace Okb := own_past Okb h5; replace B0 := B0.past h5; replace B1 := B1.past h5; replace Sw := Sw.past h5; replace Sk := Sk.past h5; replace SX := SX.past h5; replace Hb := Lib.hid (thenB Hb.out h5); replace HW := Lib.hid (thenB HW.out h5); have t10 : (w4.drew.alloc (.cells #[.slice none 0 0, .slice none 0 0, .int .i64 0] 35)).heap.size ≤ w5.heap.size := h5.size; clear h5; clear B0c0 B0c1 B0c2 B1c0 B1c1 B1c2 Swc0 Swc1 Swc2 Skc0 Skc1 Skc2 SXc0 SXc1 SXc2; have B0c0 := B0.cell 0; have B0c1 := B0.cell 1; have B0c2 := B0.cell 2; have B1c0 := B1.cell 0; have B1c1 := B1.cell 1; have B1c2 := B1.cell 2; have Swc0 := Sw.cell 0; have Swc1 := Sw.cell 1; have Swc2 := Sw.cell 2; have Skc0 := Sk.cell 0; have Skc1 := Sk.cell 1; have Skc2 := Sk.cell 2; have SXc0 := SX.cell 0; have SXc1 := SX.cell 1; have SXc2 := SX.cell 2; simp at B0c0 B0c1 B0c2 B1c0 B1c1 B1c2 Swc0 Swc1 Swc2 Skc0 Skc1 Skc2 SXc0 SXc1 SXc2))
        | (go_at_call 41; first | (replace SX := SX; have XL := SX.lt; clear B0c0 B0c1 B0c2 B1c0 B1c1 B1c2 Swc0 Swc1 Swc2 Skc0 Skc1 Skc2; have B0c0 := B0.cell 0; have B0c1 := B0.cell 1; have B0c2 := B0.cell 2; have B1c0 := B1.cell 0; have B1c1 := B1.cell 1; have B1c2 := B1.cell 2; have Swc0 := Sw.cell 0; have Swc1 := Sw.cell 1; have Swc2 := Sw.cell 2; have Skc0 := Sk.cell 0; have Skc1 := Sk.cell 1; have Skc2 := Sk.cell 2; have SXc0 := SX.cell 0; have SXc1 := SX.cell 1; have SXc2 := SX.cell 2; simp at B0c0 B0c1 B0c2 B1c0 B1c1 B1c2 Swc0 Swc1 Swc2 Skc0 Skc1 Skc2 SXc0 SXc1 SXc2; refine (HG.out _ Aka cka Akb ckb (own_rd Oka) (own_rd Okb)).mono ?_; rintro e w6 ⟨Aza, cza, Azb, czb, rfl, Oza, Ozb, Pz, h6⟩; replace Owa := own_past Owa h6; replace Owb := own_past Owb h6; replace Oka := own_past Oka h6; replace Okb := own_past Okb h6; replace B0 := B0.past h6; replace B1 := B1.past h6; replace Sw := Sw.past h6; replace Sk := Sk.past h6; replace SX := SX.past h6; replace Hb := Lib.hid (thenB Hb.out h6); replace HW := Lib.hid (thenB HW.out h6); have t11 : w5.heap.size ≤ w6.heap.size := h6.size; have Lza := own_lo Oza; have Uza := own_hi Oza; have Lzb := own_lo Ozb; have Uzb := own_hi Ozb; clear h6; clear B0c0 B0c1 B0c2 B1c0 B1c1 B1c2 Swc0 Swc1 Swc2 Skc0 Skc1 Skc2 SXc0 SXc1 SXc2; have B0c0 := B0.cell 0; have B0c1 := B0.cell 1; have B0c2 := B0.cell 2; have B1c0 := B1.cell 0; have B1c1 := B1.cell 1; have B1c2 := B1.cell 2; have Swc0 := Sw.cell 0; have Swc1 := Sw.cell 1; have Swc2 := Sw.cell 2; have Skc0 := Sk.cell 0; have Skc1 := Sk.cell 1; have Skc2 := Sk.cell 2; have SXc0 := SX.cell 0; have SXc1 := SX.cell 1; have SXc2 := SX.cell 2; simp at B0c0 B0c1 B0c2 B1c0 B1c1 B1c2 Swc0 Swc1 Swc2 Skc0 Skc1 Skc2 SXc0 SXc1 SXc2; have SXf0 := SX.frozen 0; have SXf1 := SX.frozen 1; have SXf2 := SX.frozen 2; have M := Lib.hid (met_before (p := Y.1.phase) HW.out GX XL (by rfl) SX Oza Ozb Pz)) | (clear B0c0 B0c1 B0c2 B1c0 B1c1 B1c2 Swc0 Swc1 Swc2 Skc0 Skc1 Skc2; have B0c0 := B0.cell 0; have B0c1 := B0.cell 1; have B0c2 := B0.cell 2; have B1c0 := B1.cell 0; have B1c1 := B1.cell 1; have B1c2 := B1.cell 2; have Swc0 := Sw.cell 0; have Swc1 := Sw.cell 1; have Swc2 := Sw.cell 2; have Skc0 := Sk.cell 0; have Skc1 := Sk.cell 1; have Skc2 := Sk.cell 2; simp at B0c0 B0c1 B0c2 B1c0 B1c1 B1c2 Swc0 Swc1 Swc2 Skc0 Skc1 Skc2; refine (HG.out _ Aka cka Akb ckb (own_rd Oka) (own_rd Okb)).mono ?_; rintro e w6 ⟨Aza, cza, Azb, czb, rfl, Oza, Ozb, Pz, h6⟩; replace Owa := own_past Owa h6; replace Owb := own_past Owb h6; replace Oka := own_past Oka h6; replace Okb := own_past Okb h6; replace B0 := B0.past h6; replace B1 := B1.past h6; replace Sw := Sw.past h6; replace Sk := Sk.past h6; replace Hb := Lib.hid (thenB Hb.out h6); replace HW := Lib.hid (thenB HW.out h6); have t11 : w5.heap.size ≤ w6.heap.size := h6.size; have Lza := own_lo Oza; have Uza := own_hi Oza; have Lzb := own_lo Ozb; have Uzb := own_hi Ozb; clear h6; clear B0c0 B0c1 B0c2 B1c0 B1c1 B1c2 Swc0 Swc1 Swc2 Skc0 Skc1 Skc2; have B0c0 := B0.cell 0; have B0c1 := B0.cell 1; have B0c2 := B0.cell 2; have B1c0 := B1.cell 0; have B1c1 := B1.cell 1; have B1c2 := B1.cell 2; have Swc0 := Sw.cell 0; have Swc1 := Sw.cell 1; have Swc2 := Sw.cell 2; have Skc0 := Sk.cell 0; have Skc1 := Sk.cell 1; have Skc2 := Sk.cell 2; simp at B0c0 B0c1 B0c2 B1c0 B1c1 B1c2 Swc0 Swc1 Swc2 Skc0 Skc1 Skc2; have M := Lib.hid (met_after (p := Y.1.phase) HW.out (by omega) Oza Ozb Pz)) | (have bx : Below w5.heap.size w5 (w5.alloc (.cells #[.slice none 0 0, .slice none 0 0, .int .i64 0] 35)) := (Below.refl _ _).alloc (Nat.le_refl _) _; have SX := Blk.new w5 35 #[.slice none 0 0, .slice none 0 0, .int .i64 0]; have VSX : w5.heap.size < (w5.alloc (.cells #[.slice none 0 0, .slice none 0 0, .int .i64 0] 35)).heap.size := (by simp); replace Owa := own_past Owa bx; replace Owb := own_past Owb bx; replace Oka := own_past Oka bx; replace Okb := own_past Okb bx; replace B0 := B0.past bx; replace B1 := B1.past bx; replace Sw := Sw.past bx; replace Sk := Sk.past bx; replace Hb := Lib.hid (thenB Hb.out bx); replace HW := Lib.hid (thenB HW.out bx); clear bx; have GX : (w4.drew).heap.size ≤ w5.heap.size := (by first | omega | exact Nat.le_refl _); have nzx0 : ¬ (w.heap.size = w5.heap.size) := (by omega); have nzy0 : ¬ (w5.heap.size = w.heap.size) := (by omega); have nzx1 : ¬ (w3.heap.size = w5.heap.size) := (by omega); have nzy1 : ¬ (w5.heap.size = w3.heap.size) := (by omega); have XL := SX.lt; clear B0c0 B0c1 B0c2 B1c0 B1c1 B1c2 Swc0 Swc1 Swc2 Skc0 Skc1 Skc2; have B0c0 := B0.cell 0; have B0c1 := B0.cell 1; have B0c2 := B0.cell 2; have B1c0 := B1.cell 0; have B1c1 := B1.cell 1; have B1c2 := B1.cell 2; have Swc0 := Sw.cell 0; have Swc1 := Sw.cell 1; have Swc2 := Sw.cell 2; have Skc0 := Sk.cell 0; have Skc1 := Sk.cell 1; have Skc2 := Sk.cell 2; have SXc0 := SX.cell 0; have SXc1 := SX.cell 1; have SXc2 := SX.cell 2; simp at B0c0 B0c1 B0c2 B1c0 B1c1 B1c2 Swc0 Swc1 Swc2 Skc0 Skc1 Skc2 SXc0 SXc1 SXc2; refine (HG.out _ Aka cka Akb ckb (own_rd Oka) (own_rd Okb)).mono ?_; rintro e w6 ⟨Aza, cza, Azb, czb, rfl, Oza, Ozb, Pz, h6⟩; replace Owa := own_past Owa h6; replace Owb := own_past Owb h6; replace Oka := own_past Oka h6; replace Okb := own_past Okb h6; replace B0 := B0.past h6; replace B1 := B1.past h6; replace Sw := Sw.past h6; replace Sk := Sk.past h6; replace SX := SX.past h6; replace Hb := Lib.hid (thenB Hb.out h6); replace HW := Lib.hid (thenB HW.out h6); have t11 : (w5.alloc (.cells #[.slice none 0 0, .slice none 0 0, .int .i64 0] 35)).heap.size ≤ w6.heap.size := h6.size; have Lza := own_lo Oza; have Uza := own_hi Oza; have Lzb := own_lo Ozb; have Uzb := own_hi Ozb; clear h6; clear B0c0 B0c1 B0c2 B1c0 B1c1 B1c2 Swc0 Swc1 Swc2 Skc0 Skc1 Skc2 SXc0 SXc1 SXc2; have B0c0 := B0.cell 0; have B0c1 := B0.cell 1; have B0c2 := B0.cell 2; have B1c0 := B1.cell 0; have B1c1 := B1.cell 1; have B1c2 := B1.cell 2; have Swc0 := Sw.cell 0; have Swc1 := Sw.cell 1; have Swc2 := Sw.cell 2; have Skc0 := Sk.cell 0; have Skc1 := Sk.cell 1; have Skc2 := Sk.cell 2; have SXc0 := SX.cell 0; have SXc1 := SX.cell 1; have SXc2 := SX.cell 2; simp at B0c0 B0c1 B0c2 B1c0 B1c1 B1c2 Swc0 Swc1 Swc2 Skc0 Skc1 Skc2 SXc0 SXc1 SXc2; have SXf0 := SX.frozen 0; have SXf1 := SX.frozen 1; have SXf2 := SX.frozen 2; have M := Lib.hid (met_before (p := Y.1.phase) HW.out GX XL (by rfl) SX Oza Ozb Pz))))
    all_goals (go_wp2_with fail; go_meet; exact ⟨_, _, _, _, _, rfl, rfl, M⟩)
  case rest =>
  obtain ⟨gg, Aga, cga, Agb, cgb, rfl, rfl, HM⟩ := hcut
  obtain ⟨glg, Sg, Oga, Ogb, Pg, Nga, Ngb, bx⟩ := HM.out
  clear HM
  replace Owa := own_past Owa bx
  replace Owb := own_past Owb bx
  replace Oka := own_past Oka bx
  replace Okb := own_past Okb bx
  replace B0 := B0.past bx
  replace B1 := B1.past bx
  replace Sw := Sw.past bx
  replace Sk := Sk.past bx
  replace Hb := Lib.hid (thenB Hb.out bx)
  have t10 : (w4.drew).heap.size ≤ wc.heap.size := bx.size
  have VSg := Sg.lt
  have Lga := own_lo Oga
  have Uga := own_hi Oga
  have Lgb := own_lo Ogb
  have Ugb := own_hi Ogb
  clear bx
  obtain ⟨w5, hwc⟩ : ∃ W, W = wc := ⟨_, rfl⟩
  subst hwc
  clear B0c0 B0c1 B0c2 B1c0 B1c1 B1c2 Swc0 Swc1 Swc2 Skc0 Skc1 Skc2
  have B0c0 := B0.cell 0
  have B0c1 := B0.cell 1
  have B0c2 := B0.cell 2
  have B1c0 := B1.cell 0
  have B1c1 := B1.cell 1
  have B1c2 := B1.cell 2
  have Swc0 := Sw.cell 0
  have Swc1 := Sw.cell 1
  have Swc2 := Sw.cell 2
  have Skc0 := Sk.cell 0
  have Skc1 := Sk.cell 1
  have Skc2 := Sk.cell 2
  have Sgc0 := Sg.cell 0
  have Sgc1 := Sg.cell 1
  have Sgc2 := Sg.cell 2
  simp at B0c0 B0c1 B0c2 B1c0 B1c1 B1c2 Swc0 Swc1 Swc2 Skc0 Skc1 Skc2 Sgc0 Sgc1 Sgc2
  go_wp2_with fail
  refine (eqCombState_same Aga Agb Awa Awb cga cgb cwa cwb Y.1.sums Y.1.delays Y.1.phase _ (own_rd Oga) (own_rd Ogb) (own_rd Owa) (own_rd Owb) (by omega) (by omega)).mono ?_
  rintro e w6 ⟨rfl, h6⟩
  replace Owa := own_past Owa h6
  replace Owb := own_past Owb h6
  replace Oka := own_past Oka h6
  replace Okb := own_past Okb h6
  replace Oga := own_past Oga h6
  replace Ogb := own_past Ogb h6
  replace B0 := B0.past h6
  replace B1 := B1.past h6
  replace Sw := Sw.past h6
  replace Sk := Sk.past h6
  replace Sg := Sg.past h6
  replace Hb := Lib.hid (thenB Hb.out h6)
  have t12 : w5.heap.size ≤ w6.heap.size := h6.size
  clear h6
  have tb : (Y.2 != Y.2) = false := by simp
  go_wp2_with fail
  have bx : Below w6.heap.size w6 w6.drew := (Below.refl _ _).drew
  replace Owa := own_past Owa bx
  replace Owb := own_past Owb bx
  replace Oka := own_past Oka bx
  replace Okb := own_past Okb bx
  replace Oga := own_past Oga bx
  replace Ogb := own_past Ogb bx
  replace B0 := B0.past bx
  replace B1 := B1.past bx
  replace Sw := Sw.past bx
  replace Sk := Sk.past bx
  replace Sg := Sg.past bx
  replace Hb := Lib.hid (thenB Hb.out bx)
  clear bx
  have t13 : w6.heap.size ≤ w6.drew.heap.size := Nat.le_refl _
  clear B0c0 B0c1 B0c2 B1c0 B1c1 B1c2 Swc0 Swc1 Swc2 Skc0 Skc1 Skc2 Sgc0 Sgc1 Sgc2
  have B0c0 := B0.cell 0
  have B0c1 := B0.cell 1
  have B0c2 := B0.cell 2
  have B1c0 := B1.cell 0
  have B1c1 := B1.cell 1
  have B1c2 := B1.cell 2
  have Swc0 := Sw.cell 0
  have Swc1 := Sw.cell 1
  have Swc2 := Sw.cell 2
  have Skc0 := Sk.cell 0
  have Skc1 := Sk.cell 1
  have Skc2 := Sk.cell 2
  have Sgc0 := Sg.cell 0
  have Sgc1 := Sg.cell 1
  have Sgc2 := Sg.cell 2
  simp at B0c0 B0c1 B0c2 B1c0 B1c1 B1c2 Swc0 Swc1 Swc2 Skc0 Skc1 Skc2 Sgc0 Sgc1 Sgc2
  go_wp2_with fail
  go_region_held3 (fun w' => w'.cell? ⟨w3.heap.size, 0, none⟩ = some (.slice Aka x1.length cka) ∧ w'.cell? ⟨w3.heap.size, 1, none⟩ = some (.slice Akb y1.length ckb) ∧ w'.cell? ⟨w3.heap.size, 2, none⟩ = some (.int .i64 p1) ∧ w'.cell? ⟨w.heap.size + 1, 0, none⟩ = some (.slice A1 x1.length c1) ∧ w'.cell? ⟨w.heap.size + 1, 1, none⟩ = some (.slice D1 y1.length d1) ∧ w'.cell? ⟨w.heap.size + 1, 2, none⟩ = some (.int .i64 p1)) (first | go_keep)
    (first
      | (go_at_call 33; clear B0c0 B0c1 B0c2 B1c0 B1c1 B1c2 Swc0 Swc1 Swc2 Skc0 Skc1 Skc2 Sgc0 Sgc1 Sgc2; have B0c0 := B0.cell 0; have B0c1 := B0.cell 1; have B0c2 := B0.cell 2; have B1c0 := B1.cell 0; have B1c1 := B1.cell 1; have B1c2 := B1.cell 2; have Swc0 := Sw.cell 0; have Swc1 := Sw.cell 1; have Swc2 := Sw.cell 2; have Skc0 := Sk.cell 0; have Skc1 := Sk.cell 1; have Skc2 := Sk.cell 2; have Sgc0 := Sg.cell 0; have Sgc1 := Sg.cell 1; have Sgc2 := Sg.cell 2; simp at B0c0 B0c1 B0c2 B1c0 B1c1 B1c2 Swc0 Swc1 Swc2 Skc0 Skc1 Skc2 Sgc0 Sgc1 Sgc2; refine (toCombState_any A1 c1 x1 D1 d1 y1 p1 _ (rx1.past Hb.out) (ry1.past Hb.out) nx1 ny1).mono ?_; rintro e w7 ⟨Ama, cma, Amb, cmb, rfl, Oma, Omb, Pm, h7⟩; replace Owa := own_past Owa h7; replace Owb := own_past Owb h7; replace Oka := own_past Oka h7; replace Okb := own_past Okb h7; replace Oga := own_past Oga h7; replace Ogb := own_past Ogb h7; replace B0 := B0.past h7; replace B1 := B1.past h7; replace Sw := Sw.past h7; replace Sk := Sk.past h7; replace Sg := Sg.past h7; replace Hb := Lib.hid (thenB Hb.out h7); have t14 : w6.drew.heap.size ≤ w7.heap.size := h7.size; have Lma := own_lo Oma; have Uma := own_hi Oma; have Lmb := own_lo Omb; have Umb := own_hi Omb; clear h7; clear B0c0 B0c1 B0c2 B1c0 B1c1 B1c2 Swc0 Swc1 Swc2 Skc0 Skc1 Skc2 Sgc0 Sgc1 Sgc2; have B0c0 := B0.cell 0; have B0c1 := B0.cell 1; have B0c2 := B0.cell 2; have B1c0 := B1.cell 0; have B1c1 := B1.cell 1; have B1c2 := B1.cell 2; have Swc0 := Sw.cell 0; have Swc1 := Sw.cell 1; have Swc2 := Sw.cell 2; have Skc0 := Sk.cell 0; have Skc1 := Sk.cell 1; have Skc2 := Sk.cell 2; have Sgc0 := Sg.cell 0; have Sgc1 := Sg.cell 1; have Sgc2 := Sg.cell 2; simp at B0c0 B0c1 B0c2 B1c0 B1c1 B1c2 Swc0 Swc1 Swc2 Skc0 Skc1 Skc2 Sgc0 Sgc1 Sgc2)
      | (go_at_call 35; clear B0c0 B0c1 B0c2 B1c0 B1c1 B1c2 Swc0 Swc1 Swc2 Skc0 Skc1 Skc2 Sgc0 Sgc1 Sgc2; have B0c0 := B0.cell 0; have B0c1 := B0.cell 1; have B0c2 := B0.cell 2; have B1c0 := B1.cell 0; have B1c1 := B1.cell 1; have B1c2 := B1.cell 2; have Swc0 := Sw.cell 0; have Swc1 := Sw.cell 1; have Swc2 := Sw.cell 2; have Skc0 := Sk.cell 0; have Skc1 := Sk.cell 1; have Skc2 := Sk.cell 2; have Sgc0 := Sg.cell 0; have Sgc1 := Sg.cell 1; have Sgc2 := Sg.cell 2; simp at B0c0 B0c1 B0c2 B1c0 B1c1 B1c2 Swc0 Swc1 Swc2 Skc0 Skc1 Skc2 Sgc0 Sgc1 Sgc2; refine (eqCombState_same Aka Akb Ama Amb cka ckb cma cmb x1 y1 p1 _ (own_rd Oka) (own_rd Okb) (own_rd Oma) (own_rd Omb) (by omega) (by omega)).mono ?_; rintro e w8 ⟨rfl, h8⟩; replace Owa := own_past Owa h8; replace Owb := own_past Owb h8; replace Oka := own_past Oka h8; replace Okb := own_past Okb h8; replace Oga := own_past Oga h8; replace Ogb := own_past Ogb h8; replace Oma := own_past Oma h8; replace Omb := own_past Omb h8; replace B0 := B0.past h8; replace B1 := B1.past h8; replace Sw := Sw.past h8; replace Sk := Sk.past h8; replace Sg := Sg.past h8; replace Hb := Lib.hid (thenB Hb.out h8); have t15 : w7.heap.size ≤ w8.heap.size := h8.size; clear h8; clear B0c0 B0c1 B0c2 B1c0 B1c1 B1c2 Swc0 Swc1 Swc2 Skc0 Skc1 Skc2 Sgc0 Sgc1 Sgc2; have B0c0 := B0.cell 0; have B0c1 := B0.cell 1; have B0c2 := B0.cell 2; have B1c0 := B1.cell 0; have B1c1 := B1.cell 1; have B1c2 := B1.cell 2; have Swc0 := Sw.cell 0; have Swc1 := Sw.cell 1; have Swc2 := Sw.cell 2; have Skc0 := Sk.cell 0; have Skc1 := Sk.cell 1; have Skc2 := Sk.cell 2; have Sgc0 := Sg.cell 0; have Sgc1 := Sg.cell 1; have Sgc2 := Sg.cell 2; simp at B0c0 B0c1 B0c2 B1c0 B1c1 B1c2 Swc0 Swc1 Swc2 Skc0 Skc1 Skc2 Sgc0 Sgc1 Sgc2))
  clear B0c0 B0c1 B0c2 B1c0 B1c1 B1c2 Swc0 Swc1 Swc2 Skc0 Skc1 Skc2 Sgc0 Sgc1 Sgc2
  have B0c0 := B0.cell 0
  have B0c1 := B0.cell 1
  have B0c2 := B0.cell 2
  have B1c0 := B1.cell 0
  have B1c1 := B1.cell 1
  have B1c2 := B1.cell 2
  have Swc0 := Sw.cell 0
  have Swc1 := Sw.cell 1
  have Swc2 := Sw.cell 2
  have Skc0 := Sk.cell 0
  have Skc1 := Sk.cell 1
  have Skc2 := Sk.cell 2
  have Sgc0 := Sg.cell 0
  have Sgc1 := Sg.cell 1
  have Sgc2 := Sg.cell 2
  simp at B0c0 B0c1 B0c2 B1c0 B1c1 B1c2 Swc0 Swc1 Swc2 Skc0 Skc1 Skc2 Sgc0 Sgc1 Sgc2
  go_wp2_with fail
  refine (markCombState_any Aka Akb _ _ cka ckb (x1) (y1) (p1) (1) _ Oka Okb (Pk) (by omega) (by omega) (by omega) (by omega)).mono ?_
  rintro e w9 ⟨wm9a, rfl, Oka, Okb, h9a, h9b⟩
  replace Owa := own_wrote Owa h9a (apart_lt Uwa Lka (by omega))
  replace Owb := own_wrote Owb h9a (apart_lt Uwb Lka (by omega))
  replace Oga := own_wrote Oga h9a (apart_gt Lga Uka (by omega))
  replace Ogb := own_wrote Ogb h9a (apart_gt Lgb Uka (by omega))
  replace Oma := own_wrote Oma h9a (apart_gt Lma Uka (by omega))
  replace Omb := own_wrote Omb h9a (apart_gt Lmb Uka (by omega))
  replace B0 := blk_wrote B0 h9a Lka (by omega)
  replace B1 := blk_wrote B1 h9a Lka (by omega)
  replace Sw := blk_wrote Sw h9a Lka (by omega)
  replace Sk := blk_wrote_hi Sk h9a Uka (by omega)
  replace Sg := blk_wrote_hi Sg h9a Uka (by omega)
  replace Hb := Lib.hid (Hb.out.trans (below_wrote h9a Hb.out.size (lo_le Lka (by omega))))
  have t16 : w8.heap.size ≤ wm9a.heap.size := h9a.size
  replace Owa := own_wrote Owa h9b (apart_lt Uwa Lkb (by omega))
  replace Owb := own_wrote Owb h9b (apart_lt Uwb Lkb (by omega))
  replace Oga := own_wrote Oga h9b (apart_gt Lga Ukb (by omega))
  replace Ogb := own_wrote Ogb h9b (apart_gt Lgb Ukb (by omega))
  replace Oma := own_wrote Oma h9b (apart_gt Lma Ukb (by omega))
  replace Omb := own_wrote Omb h9b (apart_gt Lmb Ukb (by omega))
  replace B0 := blk_wrote B0 h9b Lkb (by omega)
  replace B1 := blk_wrote B1 h9b Lkb (by omega)
  replace Sw := blk_wrote Sw h9b Lkb (by omega)
  replace Sk := blk_wrote_hi Sk h9b Ukb (by omega)
  replace Sg := blk_wrote_hi Sg h9b Ukb (by omega)
  replace Hb := Lib.hid (Hb.out.trans (below_wrote h9b Hb.out.size (lo_le Lkb (by omega))))
  have t17 : wm9a.heap.size ≤ w9.heap.size := h9b.size
  clear h9a h9b
  clear B0c0 B0c1 B0c2 B1c0 B1c1 B1c2 Swc0 Swc1 Swc2 Skc0 Skc1 Skc2 Sgc0 Sgc1 Sgc2
  have B0c0 := B0.cell 0
  have B0c1 := B0.cell 1
  have B0c2 := B0.cell 2
  have B1c0 := B1.cell 0
  have B1c1 := B1.cell 1
  have B1c2 := B1.cell 2
  have Swc0 := Sw.cell 0
  have Swc1 := Sw.cell 1
  have Swc2 := Sw.cell 2
  have Skc0 := Sk.cell 0
  have Skc1 := Sk.cell 1
  have Skc2 := Sk.cell 2
  have Sgc0 := Sg.cell 0
  have Sgc1 := Sg.cell 1
  have Sgc2 := Sg.cell 2
  simp at B0c0 B0c1 B0c2 B1c0 B1c1 B1c2 Swc0 Swc1 Swc2 Skc0 Skc1 Skc2 Sgc0 Sgc1 Sgc2
  go_wp2_with fail
  refine (eqCombState_same Aga Agb Awa Awb cga cgb cwa cwb Y.1.sums Y.1.delays Y.1.phase _ (own_rd Oga) (own_rd Ogb) (own_rd Owa) (own_rd Owb) (by omega) (by omega)).mono ?_
  rintro e w10 ⟨rfl, h10⟩
  replace Owa := own_past Owa h10
  replace Owb := own_past Owb h10
  replace Oka := own_past Oka h10
  replace Okb := own_past Okb h10
  replace Oga := own_past Oga h10
  replace Ogb := own_past Ogb h10
  replace Oma := own_past Oma h10
  replace Omb := own_past Omb h10
  replace B0 := B0.past h10
  replace B1 := B1.past h10
  replace Sw := Sw.past h10
  replace Sk := Sk.past h10
  replace Sg := Sg.past h10
  replace Hb := Lib.hid (thenB Hb.out h10)
  have t18 : w9.heap.size ≤ w10.heap.size := h10.size
  clear h10
  clear B0c0 B0c1 B0c2 B1c0 B1c1 B1c2 Swc0 Swc1 Swc2 Skc0 Skc1 Skc2 Sgc0 Sgc1 Sgc2
  have B0c0 := B0.cell 0
  have B0c1 := B0.cell 1
  have B0c2 := B0.cell 2
  have B1c0 := B1.cell 0
  have B1c1 := B1.cell 1
  have B1c2 := B1.cell 2
  have Swc0 := Sw.cell 0
  have Swc1 := Sw.cell 1
  have Swc2 := Sw.cell 2
  have Skc0 := Sk.cell 0
  have Skc1 := Sk.cell 1
  have Skc2 := Sk.cell 2
  have Sgc0 := Sg.cell 0
  have Sgc1 := Sg.cell 1
  have Sgc2 := Sg.cell 2
  simp at B0c0 B0c1 B0c2 B1c0 B1c1 B1c2 Swc0 Swc1 Swc2 Skc0 Skc1 Skc2 Sgc0 Sgc1 Sgc2
  go_wp2_with fail
  refine (markCombState_any Aga Agb _ _ cga cgb (Y.1.sums) (Y.1.delays) (Y.1.phase) (1) _ Oga Ogb (Pg) (by omega) (by omega) (by omega) (by omega)).mono ?_
  rintro e w11 ⟨wm11a, rfl, Oga, Ogb, h11a, h11b⟩
  replace Owa := own_wrote Owa h11a (apart_lt Uwa Lga (by omega))
  replace Owb := own_wrote Owb h11a (apart_lt Uwb Lga (by omega))
  replace Oka := own_wrote Oka h11a (apart_lt Uka Lga (by omega))
  replace Okb := own_wrote Okb h11a (apart_lt Ukb Lga (by omega))
  replace Oma := own_wrote Oma h11a (apart_gt Lma Uga (by omega))
  replace Omb := own_wrote Omb h11a (apart_gt Lmb Uga (by omega))
  replace B0 := blk_wrote B0 h11a Lga (by omega)
  replace B1 := blk_wrote B1 h11a Lga (by omega)
  replace Sw := blk_wrote Sw h11a Lga (by omega)
  replace Sk := blk_wrote Sk h11a Lga (by omega)
  replace Sg := blk_wrote_ne Sg h11a Nga
  replace Hb := Lib.hid (Hb.out.trans (below_wrote h11a Hb.out.size (lo_le Lga (by omega))))
  have t19 : w10.heap.size ≤ wm11a.heap.size := h11a.size
  replace Owa := own_wrote Owa h11b (apart_lt Uwa Lgb (by omega))
  replace Owb := own_wrote Owb h11b (apart_lt Uwb Lgb (by omega))
  replace Oka := own_wrote Oka h11b (apart_lt Uka Lgb (by omega))
  replace Okb := own_wrote Okb h11b (apart_lt Ukb Lgb (by omega))
  replace Oma := own_wrote Oma h11b (apart_gt Lma Ugb (by omega))
  replace Omb := own_wrote Omb h11b (apart_gt Lmb Ugb (by omega))
  replace B0 := blk_wrote B0 h11b Lgb (by omega)
  replace B1 := blk_wrote B1 h11b Lgb (by omega)
  replace Sw := blk_wrote Sw h11b Lgb (by omega)
  replace Sk := blk_wrote Sk h11b Lgb (by omega)
  replace Sg := blk_wrote_ne Sg h11b Ngb
  replace Hb := Lib.hid (Hb.out.trans (below_wrote h11b Hb.out.size (lo_le Lgb (by omega))))
  have t20 : wm11a.heap.size ≤ w11.heap.size := h11b.size
  clear h11a h11b
  clear B0c0 B0c1 B0c2 B1c0 B1c1 B1c2 Swc0 Swc1 Swc2 Skc0 Skc1 Skc2 Sgc0 Sgc1 Sgc2
  have B0c0 := B0.cell 0
  have B0c1 := B0.cell 1
  have B0c2 := B0.cell 2
  have B1c0 := B1.cell 0
  have B1c1 := B1.cell 1
  have B1c2 := B1.cell 2
  have Swc0 := Sw.cell 0
  have Swc1 := Sw.cell 1
  have Swc2 := Sw.cell 2
  have Skc0 := Sk.cell 0
  have Skc1 := Sk.cell 1
  have Skc2 := Sk.cell 2
  have Sgc0 := Sg.cell 0
  have Sgc1 := Sg.cell 1
  have Sgc2 := Sg.cell 2
  simp at B0c0 B0c1 B0c2 B1c0 B1c1 B1c2 Swc0 Swc1 Swc2 Skc0 Skc1 Skc2 Sgc0 Sgc1 Sgc2
  go_wp2_with fail
  refine (heldCombState_any Aga Agb cga cgb _ _ (Y.1.phase) (1) _ (own_rd Oga) (own_rd Ogb) (by omega) (by omega) (by omega) (by omega)).mono ?_
  rintro e w12 ⟨rfl, h12⟩
  replace Owa := own_past Owa h12
  replace Owb := own_past Owb h12
  replace Oka := own_past Oka h12
  replace Okb := own_past Okb h12
  replace Oga := own_past Oga h12
  replace Ogb := own_past Ogb h12
  replace Oma := own_past Oma h12
  replace Omb := own_past Omb h12
  replace B0 := B0.past h12
  replace B1 := B1.past h12
  replace Sw := Sw.past h12
  replace Sk := Sk.past h12
  replace Sg := Sg.past h12
  replace Hb := Lib.hid (thenB Hb.out h12)
  have t21 : w11.heap.size ≤ w12.heap.size := h12.size
  clear h12
  have bx : Below w12.heap.size w12 w12.drew := (Below.refl _ _).drew
  replace Owa := own_past Owa bx
  replace Owb := own_past Owb bx
  replace Oka := own_past Oka bx
  replace Okb := own_past Okb bx
  replace Oga := own_past Oga bx
  replace Ogb := own_past Ogb bx
  replace Oma := own_past Oma bx
  replace Omb := own_past Omb bx
  replace B0 := B0.past bx
  replace B1 := B1.past bx
  replace Sw := Sw.past bx
  replace Sk := Sk.past bx
  replace Sg := Sg.past bx
  replace Hb := Lib.hid (thenB Hb.out bx)
  clear bx
  have t22 : w12.heap.size ≤ w12.drew.heap.size := Nat.le_refl _
  clear B0c0 B0c1 B0c2 B1c0 B1c1 B1c2 Swc0 Swc1 Swc2 Skc0 Skc1 Skc2 Sgc0 Sgc1 Sgc2
  have B0c0 := B0.cell 0
  have B0c1 := B0.cell 1
  have B0c2 := B0.cell 2
  have B1c0 := B1.cell 0
  have B1c1 := B1.cell 1
  have B1c2 := B1.cell 2
  have Swc0 := Sw.cell 0
  have Swc1 := Sw.cell 1
  have Swc2 := Sw.cell 2
  have Skc0 := Sk.cell 0
  have Skc1 := Sk.cell 1
  have Skc2 := Sk.cell 2
  have Sgc0 := Sg.cell 0
  have Sgc1 := Sg.cell 1
  have Sgc2 := Sg.cell 2
  simp at B0c0 B0c1 B0c2 B1c0 B1c1 B1c2 Swc0 Swc1 Swc2 Skc0 Skc1 Skc2 Sgc0 Sgc1 Sgc2
  go_upto_region 24 with fail
  go_cut [14, 15] from 79 to 86 (fun u1 u2 wx => ∃ g Aa ca Ab cb, u1 = .pointer (some ⟨g, 0, none⟩) ∧ u2 = .bool Y.2 ∧ Hid (MetCS (w12.drew) g Y.1.sums Y.1.delays Y.1.phase Aa ca Ab cb wx))
  case first =>
    have HW : Hid (Below (w12.drew).heap.size (w12.drew) (w12.drew)) := Below.refl _ _
    go_region_held3 (fun w' => w'.cell? ⟨w.heap.size, 0, none⟩ = some (.int .i64 a0) ∧ w'.cell? ⟨w.heap.size, 1, none⟩ = some (.int .i64 b0) ∧ w'.cell? ⟨w.heap.size, 2, none⟩ = some (.int .i64 c0) ∧ w'.cell? ⟨w.heap.size + 1, 0, none⟩ = some (.slice A1 x1.length c1) ∧ w'.cell? ⟨w.heap.size + 1, 1, none⟩ = some (.slice D1 y1.length d1) ∧ w'.cell? ⟨w.heap.size + 1, 2, none⟩ = some (.int .i64 p1)) (first | go_keep)
      (first
        | (go_at_call 32; first | (replace SX := SX; clear B0c0 B0c1 B0c2 B1c0 B1c1 B1c2 Swc0 Swc1 Swc2 Skc0 Skc1 Skc2 Sgc0 Sgc1 Sgc2; have B0c0 := B0.cell 0; have B0c1 := B0.cell 1; have B0c2 := B0.cell 2; have B1c0 := B1.cell 0; have B1c1 := B1.cell 1; have B1c2 := B1.cell 2; have Swc0 := Sw.cell 0; have Swc1 := Sw.cell 1; have Swc2 := Sw.cell 2; have Skc0 := Sk.cell 0; have Skc1 := Sk.cell 1; have Skc2 := Sk.cell 2; have Sgc0 := Sg.cell 0; have Sgc1 := Sg.cell 1; have Sgc2 := Sg.cell 2; have SXc0 := SX.cell 0; have SXc1 := SX.cell 1; have SXc2 := SX.cell 2; simp at B0c0 B0c1 B0c2 B1c0 B1c1 B1c2 Swc0 Swc1 Swc2 Skc0 Skc1 Skc2 Sgc0 Sgc1 Sgc2 SXc0 SXc1 SXc2; refine (toComb_any a0 b0 c0 _).mono ?_; rintro e w13 ⟨rfl, h13⟩; replace Owa := own_past Owa h13; replace Owb := own_past Owb h13; replace Oka := own_past Oka h13; replace Okb := own_past Okb h13; replace Oga := own_past Oga h13; replace Ogb := own_past Ogb h13; replace Oma := own_past Oma h13; replace Omb := own_past Omb h13; replace B0 := B0.past h13; replace B1 := B1.past h13; replace Sw := Sw.past h13; replace Sk := Sk.past h13; replace Sg := Sg.past h13; replace SX := SX.past h13; replace Hb := Lib.hid (thenB Hb.out h13); replace HW := Lib.hid (thenB HW.out h13); have t23 : w12.drew.heap.size ≤ w13.heap.size := h13.size; clear h13; clear B0c0 B0c1 B0c2 B1c0 B1c1 B1c2 Swc0 Swc1 Swc2 Skc0 Skc1 Skc2 Sgc0 Sgc1 Sgc2 SXc0 SXc1 SXc2; have B0c0 := B0.cell 0; have B0c1 := B0.cell 1; have B0c2 := B0.cell 2; have B1c0 := B1.cell 0; have B1c1 := B1.cell 1; have B1c2 := B1.cell 2; have Swc0 := Sw.cell 0; have Swc1 := Sw.cell 1; have Swc2 := Sw.cell 2; have Skc0 := Sk.cell 0; have Skc1 := Sk.cell 1; have Skc2 := Sk.cell 2; have Sgc0 := Sg.cell 0; have Sgc1 := Sg.cell 1; have Sgc2 := Sg.cell 2; have SXc0 := SX.cell 0; have SXc1 := SX.cell 1; have SXc2 := SX.cell 2; simp at B0c0 B0c1 B0c2 B1c0 B1c1 B1c2 Swc0 Swc1 Swc2 Skc0 Skc1 Skc2 Sgc0 Sgc1 Sgc2 SXc0 SXc1 SXc2) | (clear B0c0 B0c1 B0c2 B1c0 B1c1 B1c2 Swc0 Swc1 Swc2 Skc0 Skc1 Skc2 Sgc0 Sgc1 Sgc2; have B0c0 := B0.cell 0; have B0c1 := B0.cell 1; have B0c2 := B0.cell 2; have B1c0 := B1.cell 0; have B1c1 := B1.cell 1; have B1c2 := B1.cell 2; have Swc0 := Sw.cell 0; have Swc1 := Sw.cell 1; have Swc2 := Sw.cell 2; have Skc0 := Sk.cell 0; have Skc1 := Sk.cell 1; have Skc2 := Sk.cell 2; have Sgc0 := Sg.cell 0; have Sgc1 := Sg.cell 1; have Sgc2 := Sg.cell 2; simp at B0c0 B0c1 B0c2 B1c0 B1c1 B1c2 Swc0 Swc1 Swc2 Skc0 Skc1 Skc2 Sgc0 Sgc1 Sgc2; refine (toComb_any a0 b0 c0 _).mono ?_; rintro e w13 ⟨rfl, h13⟩; replace Owa := own_past Owa h13; replace Owb := own_past Owb h13; replace Oka := own_past Oka h13; replace Okb := own_past Okb h13; replace Oga := own_past Oga h13; replace Ogb := own_past Ogb h13; replace Oma := own_past Oma h13; replace Omb := own_past Omb h13; replace B0 := B0.past h13; replace B1 := B1.past h13; replace Sw := Sw.past h13; replace Sk := Sk.past h13; replace Sg := Sg.past h13; replace Hb := Lib.hid (thenB Hb.out h13); replace HW := Lib.hid (thenB HW.out h13); have t23 : w12.drew.heap.size ≤ w13.heap.size := h13.size; clear h13; clear B0c0 B0c1 B0c2 B1c0 B1c1 B1c2 Swc0 Swc1 Swc2 Skc0 Skc1 Skc2 Sgc0 Sgc1 Sgc2; have B0c0 := B0.cell 0; have B0c1 := B0.cell 1; have B0c2 := B0.cell 2; have B1c0 := B1.cell 0; have B1c1 := B1.cell 1; have B1c2 := B1.cell 2; have Swc0 := Sw.cell 0; have Swc1 := Sw.cell 1; have Swc2 := Sw.cell 2; have Skc0 := Sk.cell 0; have Skc1 := Sk.cell 1; have Skc2 := Sk.cell 2; have Sgc0 := Sg.cell 0; have Sgc1 := Sg.cell 1; have Sgc2 := Sg.cell 2; simp at B0c0 B0c1 B0c2 B1c0 B1c1 B1c2 Swc0 Swc1 Swc2 Skc0 Skc1 Skc2 Sgc0 Sgc1 Sgc2) | (have bx : Below w12.drew.heap.size w12.drew (w12.drew.alloc (.cells #[.slice none 0 0, .slice none 0 0, .int .i64 0] 35)) := (Below.refl _ _).alloc (Nat.le_refl _) _; have SX := Blk.new w12.drew 35 #[.slice none 0 0, .slice none 0 0, .int .i64 0]; have VSX : w12.drew.heap.size < (w12.drew.alloc (.cells #[.slice none 0 0, .slice none 0 0, .int .i64 0] 35)).heap.size := (by simp); replace Owa := own_past Owa bx; replace Owb := own_past Owb bx; replace Oka := own_past Oka bx; replace Okb := own_past Okb bx; replace Oga := own_past Oga bx; replace Ogb := own_past Ogb bx; replace Oma := own_past Oma bx; replace Omb := own_past Omb bx; replace B0 := B0.past bx; replace B1 := B1.past bx; replace Sw := Sw.past bx; replace Sk := Sk.past bx; replace Sg := Sg.past bx; replace Hb := Lib.hid (thenB Hb.out bx); replace HW := Lib.hid (thenB HW.out bx); clear bx; replace SX : Blk ((w12.drew.alloc (.cells #[.slice none 0 0, .slice none 0 0, .int .i64 0] 35))) w12.heap.size 35 #[.slice none 0 0, .slice none 0 0, .int .i64 0] := SX; have GX : (w12.drew).heap.size ≤ w12.heap.size := (by first | omega | exact Nat.le_refl _); have nzx0 : ¬ (w.heap.size = w12.heap.size) := (by omega); have nzy0 : ¬ (w12.heap.size = w.heap.size) := (by omega); have nzx1 : ¬ (w.heap.size + 1 = w12.heap.size) := (by omega); have nzy1 : ¬ (w12.heap.size = w.heap.size + 1) := (by omega); clear B0c0 B0c1 B0c2 B1c0 B1c1 B1c2 Swc0 Swc1 Swc2 Skc0 Skc1 Skc2 Sgc0 Sgc1 Sgc2; have B0c0 := B0.cell 0; have B0c1 := B0.cell 1; have B0c2 := B0.cell 2; have B1c0 := B1.cell 0; have B1c1 := B1.cell 1; have B1c2 := B1.cell 2; have Swc0 := Sw.cell 0; have Swc1 := Sw.cell 1; have Swc2 := Sw.cell 2; have Skc0 := Sk.cell 0; have Skc1 := Sk.cell 1; have Skc2 := Sk.cell 2; have Sgc0 := Sg.cell 0; have Sgc1 := Sg.cell 1; have Sgc2 := Sg.cell 2; have SXc0 := SX.cell 0; have SXc1 := SX.cell 1; have SXc2 := SX.cell 2; simp at B0c0 B0c1 B0c2 B1c0 B1c1 B1c2 Swc0 Swc1 Swc2 Skc0 Skc1 Skc2 Sgc0 Sgc1 Sgc2 SXc0 SXc1 SXc2; refine (toComb_any a0 b0 c0 _).mono ?_; rintro e w13 ⟨rfl, h13⟩; replace Owa := own_past Owa h13; replace Owb := own_past Owb h13; replace Oka := own_past Oka h13; replace Okb := own_past Okb h13; replace Oga := own_past Oga h13; replace Ogb := own_past Ogb h13; replace Oma := own_past Oma h13; replace Omb := own_past Omb h13; replace B0 := B0.past h13; replace B1 := B1.past h13; replace Sw := Sw.past h13; replace Sk := Sk.past h13; replace Sg := Sg.past h13; replace SX := SX.past h13; replace Hb := Lib.hid (thenB Hb.out h13); replace HW := Lib.hid (thenB HW.out h13); have t23 : (w12.drew.alloc (.cells #[.slice none 0 0, .slice none 0 0, .int .i64 0] 35)).heap.size ≤ w13.heap.size := h13.size; clear h13; clear B0c0 B0c1 B0c2 B1c0 B1c1 B1c2 Swc0 Swc1 Swc2 Skc0 Skc1 Skc2 Sgc0 Sgc1 Sgc2 SXc0 SXc1 SXc2; have B0c0 := B0.cell 0; have B0c1 := B0.cell 1; have B0c2 := B0.cell 2; have B1c0 := B1.cell 0; have B1c1 := B1.cell 1; have B1c2 := B1.cell 2; have Swc0 := Sw.cell 0; have Swc1 := Sw.cell 1; have Swc2 := Sw.cell 2; have Skc0 := Sk.cell 0; have Skc1 := Sk.cell 1; have Skc2 := Sk.cell 2; have Sgc0 := Sg.cell 0; have Sgc1 := Sg.cell 1; have Sgc2 := Sg.cell 2; have SXc0 := SX.cell 0; have SXc1 := SX.cell 1; have SXc2 := SX.cell 2; simp at B0c0 B0c1 B0c2 B1c0 B1c1 B1c2 Swc0 Swc1 Swc2 Skc0 Skc1 Skc2 Sgc0 Sgc1 Sgc2 SXc0 SXc1 SXc2))
        | (go_at_call 33; first | (replace SX := SX; clear B0c0 B0c1 B0c2 B1c0 B1c1 B1c2 Swc0 Swc1 Swc2 Skc0 Skc1 Skc2 Sgc0 Sgc1 Sgc2; have B0c0 := B0.cell 0; have B0c1 := B0.cell 1; have B0c2 := B0.cell 2; have B1c0 := B1.cell 0; have B1c1 := B1.cell 1; have B1c2 := B1.cell 2; have Swc0 := Sw.cell 0; have Swc1 := Sw.cell 1; have Swc2 := Sw.cell 2; have Skc0 := Sk.cell 0; have Skc1 := Sk.cell 1; have Skc2 := Sk.cell 2; have Sgc0 := Sg.cell 0; have Sgc1 := Sg.cell 1; have Sgc2 := Sg.cell 2; have SXc0 := SX.cell 0; have SXc1 := SX.cell 1; have SXc2 := SX.cell 2; simp at B0c0 B0c1 B0c2 B1c0 B1c1 B1c2 Swc0 Swc1 Swc2 Skc0 Skc1 Skc2 Sgc0 Sgc1 Sgc2 SXc0 SXc1 SXc2; refine (toCombState_any A1 c1 x1 D1 d1 y1 p1 _ (rx1.past Hb.out) (ry1.past Hb.out) nx1 ny1).mono ?_; rintro e w14 ⟨Ana, cna, Anb, cnb, rfl, Ona, Onb, Pn, h14⟩; replace Owa := own_past Owa h14; replace Owb := own_past Owb h14; replace Oka := own_past Oka h14; replace Okb := own_past Okb h14; replace Oga := own_past Oga h14; replace Ogb := own_past Ogb h14; replace Oma := own_past Oma h14; replace Omb := own_past Omb h14; replace B0 := B0.past h14; replace B1 := B1.past h14; replace Sw := Sw.past h14; replace Sk := Sk.past h14; replace Sg := Sg.past h14; replace SX := SX.past h14; replace Hb := Lib.hid (thenB Hb.out h14); replace HW := Lib.hid (thenB HW.out h14); have t24 : w13.heap.size ≤ w14.heap.size := h14.size; have Lna := own_lo Ona; have Una := own_hi Ona; have Lnb := own_lo Onb; have Unb := own_hi Onb; clear h14; clear B0c0 B0c1 B0c2 B1c0 B1c1 B1c2 Swc0 Swc1 Swc2 Skc0 Skc1 Skc2 Sgc0 Sgc1 Sgc2 SXc0 SXc1 SXc2; have B0c0 := B0.cell 0; have B0c1 := B0.cell 1; have B0c2 := B0.cell 2; have B1c0 := B1.cell 0; have B1c1 := B1.cell 1; have B1c2 := B1.cell 2; have Swc0 := Sw.cell 0; have Swc1 := Sw.cell 1; have Swc2 := Sw.cell 2; have Skc0 := Sk.cell 0; have Skc1 := Sk.cell 1; have Skc2 := Sk.cell 2; have Sgc0 := Sg.cell 0; have Sgc1 := Sg.cell 1; have Sgc2 := Sg.cell 2; have SXc0 := SX.cell 0; have SXc1 := SX.cell 1; have SXc2 := SX.cell 2; simp at B0c0 B0c1 B0c2 B1c0 B1c1 B1c2 Swc0 Swc1 Swc2 Skc0 Skc1 Skc2 Sgc0 Sgc1 Sgc2 SXc0 SXc1 SXc2) | (clear B0c0 B0c1 B0c2 B1c0 B1c1 B1c2 Swc0 Swc1 Swc2 Skc0 Skc1 Skc2 Sgc0 Sgc1 Sgc2; have B0c0 := B0.cell 0; have B0c1 := B0.cell 1; have B0c2 := B0.cell 2; have B1c0 := B1.cell 0; have B1c1 := B1.cell 1; have B1c2 := B1.cell 2; have Swc0 := Sw.cell 0; have Swc1 := Sw.cell 1; have Swc2 := Sw.cell 2; have Skc0 := Sk.cell 0; have Skc1 := Sk.cell 1; have Skc2 := Sk.cell 2; have Sgc0 := Sg.cell 0; have Sgc1 := Sg.cell 1; have Sgc2 := Sg.cell 2; simp at B0c0 B0c1 B0c2 B1c0 B1c1 B1c2 Swc0 Swc1 Swc2 Skc0 Skc1 Skc2 Sgc0 Sgc1 Sgc2; refine (toCombState_any A1 c1 x1 D1 d1 y1 p1 _ (rx1.past Hb.out) (ry1.past Hb.out) nx1 ny1).mono ?_; rintro e w14 ⟨Ana, cna, Anb, cnb, rfl, Ona, Onb, Pn, h14⟩; replace Owa := own_past Owa h14; replace Owb := own_past Owb h14; replace Oka := own_past Oka h14; replace Okb := own_past Okb h14; replace Oga := own_past Oga h14; replace Ogb := own_past Ogb h14; replace Oma := own_past Oma h14; replace Omb := own_past Omb h14; replace B0 := B0.past h14; replace B1 := B1.past h14; replace Sw := Sw.past h14; replace Sk := Sk.past h14; replace Sg := Sg.past h14; replace Hb := Lib.hid (thenB Hb.out h14); replace HW := Lib.hid (thenB HW.out h14); have t24 : w13.heap.size ≤ w14.heap.size := h14.size; have Lna := own_lo Ona; have Una := own_hi Ona; have Lnb := own_lo Onb; have Unb := own_hi Onb; clear h14; clear B0c0 B0c1 B0c2 B1c0 B1c1 B1c2 Swc0 Swc1 Swc2 Skc0 Skc1 Skc2 Sgc0 Sgc1 Sgc2; have B0c0 := B0.cell 0; have B0c1 := B0.cell 1; have B0c2 := B0.cell 2; have B1c0 := B1.cell 0; have B1c1 := B1.cell 1; have B1c2 := B1.cell 2; have Swc0 := Sw.cell 0; have Swc1 := Sw.cell 1; have Swc2 := Sw.cell 2; have Skc0 := Sk.cell 0; have Skc1 := Sk.cell 1; have Skc2 := Sk.cell 2; have Sgc0 := Sg.cell 0; have Sgc1 := Sg.cell 1; have Sgc2 := Sg.cell 2; simp at B0c0 B0c1 B0c2 B1c0 B1c1 B1c2 Swc0 Swc1 Swc2 Skc0 Skc1 Skc2 Sgc0 Sgc1 Sgc2) | (have bx : Below w13.heap.size w13 (w13.alloc (.cells #[.slice none 0 0, .slice none 0 0, .int .i64 0] 35)) := (Below.refl _ _).alloc (Nat.le_refl _) _; have SX := Blk.new w13 35 #[.slice none 0 0, .slice none 0 0, .int .i64 0]; have VSX : w13.heap.size < (w13.alloc (.cells #[.slice none 0 0, .slice none 0 0, .int .i64 0] 35)).heap.size := (by simp); replace Owa := own_past Owa bx; replace Owb := own_past Owb bx; replace Oka := own_past Oka bx; replace Okb := own_past Okb bx; replace Oga := own_past Oga bx; replace Ogb := own_past Ogb bx; replace Oma := own_past Oma bx; replace Omb := own_past Omb bx; replace B0 := B0.past bx; replace B1 := B1.past bx; replace Sw := Sw.past bx; replace Sk := Sk.past bx; replace Sg := Sg.past bx; replace Hb := Lib.hid (thenB Hb.out bx); replace HW := Lib.hid (thenB HW.out bx); clear bx; have GX : (w12.drew).heap.size ≤ w13.heap.size := (by first | omega | exact Nat.le_refl _); have nzx0 : ¬ (w.heap.size = w13.heap.size) := (by omega); have nzy0 : ¬ (w13.heap.size = w.heap.size) := (by omega); have nzx1 : ¬ (w.heap.size + 1 = w13.heap.size) := (by omega); have nzy1 : ¬ (w13.heap.size = w.heap.size + 1) := (by omega); clear B0c0 B0c1 B0c2 B1c0 B1c1 B1c2 Swc0 Swc1 Swc2 Skc0 Skc1 Skc2 Sgc0 Sgc1 Sgc2; have B0c0 := B0.cell 0; have B0c1 := B0.cell 1; have B0c2 := B0.cell 2; have B1c0 := B1.cell 0; have B1c1 := B1.cell 1; have B1c2 := B1.cell 2; have Swc0 := Sw.cell 0; have Swc1 := Sw.cell 1; have Swc2 := Sw.cell 2; have Skc0 := Sk.cell 0; have Skc1 := Sk.cell 1; have Skc2 := Sk.cell 2; have Sgc0 := Sg.cell 0; have Sgc1 := Sg.cell 1; have Sgc2 := Sg.cell 2; have SXc0 := SX.cell 0; have SXc1 := SX.cell 1; have SXc2 := SX.cell 2; simp at B0c0 B0c1 B0c2 B1c0 B1c1 B1c2 Swc0 Swc1 Swc2 Skc0 Skc1 Skc2 Sgc0 Sgc1 Sgc2 SXc0 SXc1 SXc2; refine (toCombState_any A1 c1 x1 D1 d1 y1 p1 _ (rx1.past Hb.out) (ry1.past Hb.out) nx1 ny1).mono ?_; rintro e w14 ⟨Ana, cna, Anb, cnb, rfl, Ona, Onb, Pn, h14⟩; replace Owa := own_past Owa h14; replace Owb := own_past Owb h14; replace Oka := own_past Oka h14; replace Okb := own_past Okb h14; replace Oga := own_past Oga h14; replace Ogb := own_past Ogb h14; replace Oma := own_past Oma h14; replace Omb := own_past Omb h14; replace B0 := B0.past h14; replace B1 := B1.past h14; replace Sw := Sw.past h14; replace Sk := Sk.past h14; replace Sg := Sg.past h14; replace SX := SX.past h14; replace Hb := Lib.hid (thenB Hb.out h14); replace HW := Lib.hid (thenB HW.out h14); have t24 : (w13.alloc (.cells #[.slice none 0 0, .slice none 0 0, .int .i64 0] 35)).heap.size ≤ w14.heap.size := h14.size; have Lna := own_lo Ona; have Una := own_hi Ona; have Lnb := own_lo Onb; have Unb := own_hi Onb; clear h14; clear B0c0 B0c1 B0c2 B1c0 B1c1 B1c2 Swc0 Swc1 Swc2 Skc0 Skc1 Skc2 Sgc0 Sgc1 Sgc2 SXc0 SXc1 SXc2; have B0c0 := B0.cell 0; have B0c1 := B0.cell 1; have B0c2 := B0.cell 2; have B1c0 := B1.cell 0; have B1c1 := B1.cell 1; have B1c2 := B1.cell 2; have Swc0 := Sw.cell 0; have Swc1 := Sw.cell 1; have Swc2 := Sw.cell 2; have Skc0 := Sk.cell 0; have Skc1 := Sk.cell 1; have Skc2 := Sk.cell 2; have Sgc0 := Sg.cell 0; have Sgc1 := Sg.cell 1; have Sgc2 := Sg.cell 2; have SXc0 := SX.cell 0; have SXc1 := SX.cell 1; have SXc2 := SX.cell 2; simp at B0c0 B0c1 B0c2 B1c0 B1c1 B1c2 Swc0 Swc1 Swc2 Skc0 Skc1 Skc2 Sgc0 Sgc1 Sgc2 SXc0 SXc1 SXc2))
        | (go_at_call 41; first | (replace SX := SX; have XL := SX.lt; clear B0c0 B0c1 B0c2 B1c0 B1c1 B1c2 Swc0 Swc1 Swc2 Skc0 Skc1 Skc2 Sgc0 Sgc1 Sgc2; have B0c0 := B0.cell 0; have B0c1 := B0.cell 1; have B0c2 := B0.cell 2; have B1c0 := B1.cell 0; have B1c1 := B1.cell 1; have B1c2 := B1.cell 2; have Swc0 := Sw.cell 0; have Swc1 := Sw.cell 1; have Swc2 := Sw.cell 2; have Skc0 := Sk.cell 0; have Skc1 := Sk.cell 1; have Skc2 := Sk.cell 2; have Sgc0 := Sg.cell 0; have Sgc1 := Sg.cell 1; have Sgc2 := Sg.cell 2; have SXc0 := SX.cell 0; have SXc1 := SX.cell 1; have SXc2 := SX.cell 2; simp at B0c0 B0c1 B0c2 B1c0 B1c1 B1c2 Swc0 Swc1 Swc2 Skc0 Skc1 Skc2 Sgc0 Sgc1 Sgc2 SXc0 SXc1 SXc2; refine (HG.out _ Ana cna Anb cnb (own_rd Ona) (own_rd Onb)).mono ?_; rintro e w15 ⟨Aza, cza, Azb, czb, rfl, Oza, Ozb, Pz, h15⟩; replace Owa := own_past Owa h15; replace Owb := own_past Owb h15; replace Oka := own_past Oka h15; replace Okb := own_past Okb h15; replace Oga := own_past Oga h15; replace Ogb := own_past Ogb h15; replace Oma := own_past Oma h15; replace Omb := own_past Omb h15; replace Ona := own_past Ona h15; replace Onb := own_past Onb h15; replace B0 := B0.past h15; replace B1 := B1.past h15; replace Sw := Sw.past h15; replace Sk := Sk.past h15; replace Sg := Sg.past h15; replace SX := SX.past h15; replace Hb := Lib.hid (thenB Hb.out h15); replace HW := Lib.hid (thenB HW.out h15); have t25 : w14.heap.size ≤ w15.heap.size := h15.size; have Lza := own_lo Oza; have Uza := own_hi Oza; have Lzb := own_lo Ozb; have Uzb := own_hi Ozb; clear h15; clear B0c0 B0c1 B0c2 B1c0 B1c1 B1c2 Swc0 Swc1 Swc2 Skc0 Skc1 Skc2 Sgc0 Sgc1 Sgc2 SXc0 SXc1 SXc2; have B0c0 := B0.cell 0; have B0c1 := B0.cell 1; have B0c2 := B0.cell 2; have B1c0 := B1.cell 0; have B1c1 := B1.cell 1; have B1c2 := B1.cell 2; have Swc0 := Sw.cell 0; have Swc1 := Sw.cell 1; have Swc2 := Sw.cell 2; have Skc0 := Sk.cell 0; have Skc1 := Sk.cell 1; have Skc2 := Sk.cell 2; have Sgc0 := Sg.cell 0; have Sgc1 := Sg.cell 1; have Sgc2 := Sg.cell 2; have SXc0 := SX.cell 0; have SXc1 := SX.cell 1; have SXc2 := SX.cell 2; simp at B0c0 B0c1 B0c2 B1c0 B1c1 B1c2 Swc0 Swc1 Swc2 Skc0 Skc1 Skc2 Sgc0 Sgc1 Sgc2 SXc0 SXc1 SXc2; have SXf0 := SX.frozen 0; have SXf1 := SX.frozen 1; have SXf2 := SX.frozen 2; have M := Lib.hid (met_before (p := Y.1.phase) HW.out GX XL (by rfl) SX Oza Ozb Pz)) | (clear B0c0 B0c1 B0c2 B1c0 B1c1 B1c2 Swc0 Swc1 Swc2 Skc0 Skc1 Skc2 Sgc0 Sgc1 Sgc2; have B0c0 := B0.cell 0; have B0c1 := B0.cell 1; have B0c2 := B0.cell 2; have B1c0 := B1.cell 0; have B1c1 := B1.cell 1; have B1c2 := B1.cell 2; have Swc0 := Sw.cell 0; have Swc1 := Sw.cell 1; have Swc2 := Sw.cell 2; have Skc0 := Sk.cell 0; have Skc1 := Sk.cell 1; have Skc2 := Sk.cell 2; have Sgc0 := Sg.cell 0; have Sgc1 := Sg.cell 1; have Sgc2 := Sg.cell 2; simp at B0c0 B0c1 B0c2 B1c0 B1c1 B1c2 Swc0 Swc1 Swc2 Skc0 Skc1 Skc2 Sgc0 Sgc1 Sgc2; refine (HG.out _ Ana cna Anb cnb (own_rd Ona) (own_rd Onb)).mono ?_; rintro e w15 ⟨Aza, cza, Azb, czb, rfl, Oza, Ozb, Pz, h15⟩; replace Owa := own_past Owa h15; replace Owb := own_past Owb h15; replace Oka := own_past Oka h15; replace Okb := own_past Okb h15; replace Oga := own_past Oga h15; replace Ogb := own_past Ogb h15; replace Oma := own_past Oma h15; replace Omb := own_past Omb h15; replace Ona := own_past Ona h15; replace Onb := own_past Onb h15; replace B0 := B0.past h15; replace B1 := B1.past h15; replace Sw := Sw.past h15; replace Sk := Sk.past h15; replace Sg := Sg.past h15; replace Hb := Lib.hid (thenB Hb.out h15); replace HW := Lib.hid (thenB HW.out h15); have t25 : w14.heap.size ≤ w15.heap.size := h15.size; have Lza := own_lo Oza; have Uza := own_hi Oza; have Lzb := own_lo Ozb; have Uzb := own_hi Ozb; clear h15; clear B0c0 B0c1 B0c2 B1c0 B1c1 B1c2 Swc0 Swc1 Swc2 Skc0 Skc1 Skc2 Sgc0 Sgc1 Sgc2; have B0c0 := B0.cell 0; have B0c1 := B0.cell 1; have B0c2 := B0.cell 2; have B1c0 := B1.cell 0; have B1c1 := B1.cell 1; have B1c2 := B1.cell 2; have Swc0 := Sw.cell 0; have Swc1 := Sw.cell 1; have Swc2 := Sw.cell 2; have Skc0 := Sk.cell 0; have Skc1 := Sk.cell 1; have Skc2 := Sk.cell 2; have Sgc0 := Sg.cell 0; have Sgc1 := Sg.cell 1; have Sgc2 := Sg.cell 2; simp at B0c0 B0c1 B0c2 B1c0 B1c1 B1c2 Swc0 Swc1 Swc2 Skc0 Skc1 Skc2 Sgc0 Sgc1 Sgc2; have M := Lib.hid (met_after (p := Y.1.phase) HW.out (by omega) Oza Ozb Pz)) | (have bx : Below w14.heap.size w14 (w14.alloc (.cells #[.slice none 0 0, .slice none 0 0, .int .i64 0] 35)) := (Below.refl _ _).alloc (Nat.le_refl _) _; have SX := Blk.new w14 35 #[.slice none 0 0, .slice none 0 0, .int .i64 0]; have VSX : w14.heap.size < (w14.alloc (.cells #[.slice none 0 0, .slice none 0 0, .int .i64 0] 35)).heap.size := (by simp); replace Owa := own_past Owa bx; replace Owb := own_past Owb bx; replace Oka := own_past Oka bx; replace Okb := own_past Okb bx; replace Oga := own_past Oga bx; replace Ogb := own_past Ogb bx; replace Oma := own_past Oma bx; replace Omb := own_past Omb bx; replace Ona := own_past Ona bx; replace Onb := own_past Onb bx; replace B0 := B0.past bx; replace B1 := B1.past bx; replace Sw := Sw.past bx; replace Sk := Sk.past bx; replace Sg := Sg.past bx; replace Hb := Lib.hid (thenB Hb.out bx); replace HW := Lib.hid (thenB HW.out bx); clear bx; have GX : (w12.drew).heap.size ≤ w14.heap.size := (by first | omega | exact Nat.le_refl _); have nzx0 : ¬ (w.heap.size = w14.heap.size) := (by omega); have nzy0 : ¬ (w14.heap.size = w.heap.size) := (by omega); have nzx1 : ¬ (w.heap.size + 1 = w14.heap.size) := (by omega); have nzy1 : ¬ (w14.heap.size = w.heap.size + 1) := (by omega); have XL := SX.lt; clear B0c0 B0c1 B0c2 B1c0 B1c1 B1c2 Swc0 Swc1 Swc2 Skc0 Skc1 Skc2 Sgc0 Sgc1 Sgc2; have B0c0 := B0.cell 0; have B0c1 := B0.cell 1; have B0c2 := B0.cell 2; have B1c0 := B1.cell 0; have B1c1 := B1.cell 1; have B1c2 := B1.cell 2; have Swc0 := Sw.cell 0; have Swc1 := Sw.cell 1; have Swc2 := Sw.cell 2; have Skc0 := Sk.cell 0; have Skc1 := Sk.cell 1; have Skc2 := Sk.cell 2; have Sgc0 := Sg.cell 0; have Sgc1 := Sg.cell 1; have Sgc2 := Sg.cell 2; have SXc0 := SX.cell 0; have SXc1 := SX.cell 1; have SXc2 := SX.cell 2; simp at B0c0 B0c1 B0c2 B1c0 B1c1 B1c2 Swc0 Swc1 Swc2 Skc0 Skc1 Skc2 Sgc0 Sgc1 Sgc2 SXc0 SXc1 SXc2; refine (HG.out _ Ana cna Anb cnb (own_rd Ona) (own_rd Onb)).mono ?_; rintro e w15 ⟨Aza, cza, Azb, czb, rfl, Oza, Ozb, Pz, h15⟩; replace Owa := own_past Owa h15; replace Owb := own_past Owb h15; replace Oka := own_past Oka h15; replace Okb := own_past Okb h15; replace Oga := own_past Oga h15; replace Ogb := own_past Ogb h15; replace Oma := own_past Oma h15; replace Omb := own_past Omb h15; replace Ona := own_past Ona h15; replace Onb := own_past Onb h15; replace B0 := B0.past h15; replace B1 := B1.past h15; replace Sw := Sw.past h15; replace Sk := Sk.past h15; replace Sg := Sg.past h15; replace SX := SX.past h15; replace Hb := Lib.hid (thenB Hb.out h15); replace HW := Lib.hid (thenB HW.out h15); have t25 : (w14.alloc (.cells #[.slice none 0 0, .slice none 0 0, .int .i64 0] 35)).heap.size ≤ w15.heap.size := h15.size; have Lza := own_lo Oza; have Uza := own_hi Oza; have Lzb := own_lo Ozb; have Uzb := own_hi Ozb; clear h15; clear B0c0 B0c1 B0c2 B1c0 B1c1 B1c2 Swc0 Swc1 Swc2 Skc0 Skc1 Skc2 Sgc0 Sgc1 Sgc2 SXc0 SXc1 SXc2; have B0c0 := B0.cell 0; have B0c1 := B0.cell 1; have B0c2 := B0.cell 2; have B1c0 := B1.cell 0; have B1c1 := B1.cell 1; have B1c2 := B1.cell 2; have Swc0 := Sw.cell 0; have Swc1 := Sw.cell 1; have Swc2 := Sw.cell 2; have Skc0 := Sk.cell 0; have Skc1 := Sk.cell 1; have Skc2 := Sk.cell 2; have Sgc0 := Sg.cell 0; have Sgc1 := Sg.cell 1; have Sgc2 := Sg.cell 2; have SXc0 := SX.cell 0; have SXc1 := SX.cell 1; have SXc2 := SX.cell 2; simp at B0c0 B0c1 B0c2 B1c0 B1c1 B1c2 Swc0 Swc1 Swc2 Skc0 Skc1 Skc2 Sgc0 Sgc1 Sgc2 SXc0 SXc1 SXc2; have SXf0 := SX.frozen 0; have SXf1 := SX.frozen 1; have SXf2 := SX.frozen 2; have M := Lib.hid (met_before (p := Y.1.phase) HW.out GX XL (by rfl) SX Oza Ozb Pz))))
    all_goals (go_wp2_with fail; go_meet; exact ⟨_, _, _, _, _, rfl, rfl, M⟩)
  case rest =>
  obtain ⟨gh, Aha, cha, Ahb, chb, rfl, rfl, HM⟩ := hcut
  obtain ⟨glh, Sh, Oha, Ohb, Ph, Nha, Nhb, bx⟩ := HM.out
  clear HM
  replace Owa := own_past Owa bx
  replace Owb := own_past Owb bx
  replace Oka := own_past Oka bx
  replace Okb := own_past Okb bx
  replace Oga := own_past Oga bx
  replace Ogb := own_past Ogb bx
  replace Oma := own_past Oma bx
  replace Omb := own_past Omb bx
  replace B0 := B0.past bx
  replace B1 := B1.past bx
  replace Sw := Sw.past bx
  replace Sk := Sk.past bx
  replace Sg := Sg.past bx
  replace Hb := Lib.hid (thenB Hb.out bx)
  have t23 : (w12.drew).heap.size ≤ wc.heap.size := bx.size
  have VSh := Sh.lt
  have Lha := own_lo Oha
  have Uha := own_hi Oha
  have Lhb := own_lo Ohb
  have Uhb := own_hi Ohb
  clear bx
  obtain ⟨w13, hwc⟩ : ∃ W, W = wc := ⟨_, rfl⟩
  subst hwc
  clear B0c0 B0c1 B0c2 B1c0 B1c1 B1c2 Swc0 Swc1 Swc2 Skc0 Skc1 Skc2 Sgc0 Sgc1 Sgc2
  have B0c0 := B0.cell 0
  have B0c1 := B0.cell 1
  have B0c2 := B0.cell 2
  have B1c0 := B1.cell 0
  have B1c1 := B1.cell 1
  have B1c2 := B1.cell 2
  have Swc0 := Sw.cell 0
  have Swc1 := Sw.cell 1
  have Swc2 := Sw.cell 2
  have Skc0 := Sk.cell 0
  have Skc1 := Sk.cell 1
  have Skc2 := Sk.cell 2
  have Sgc0 := Sg.cell 0
  have Sgc1 := Sg.cell 1
  have Sgc2 := Sg.cell 2
  have Shc0 := Sh.cell 0
  have Shc1 := Sh.cell 1
  have Shc2 := Sh.cell 2
  simp at B0c0 B0c1 B0c2 B1c0 B1c1 B1c2 Swc0 Swc1 Swc2 Skc0 Skc1 Skc2 Sgc0 Sgc1 Sgc2 Shc0 Shc1 Shc2
  go_wp2_with fail
  refine (eqCombState_same Aha Ahb Awa Awb cha chb cwa cwb Y.1.sums Y.1.delays Y.1.phase _ (own_rd Oha) (own_rd Ohb) (own_rd Owa) (own_rd Owb) (by omega) (by omega)).mono ?_
  rintro e w14 ⟨rfl, h14⟩
  replace Owa := own_past Owa h14
  replace Owb := own_past Owb h14
  replace Oka := own_past Oka h14
  replace Okb := own_past Okb h14
  replace Oga := own_past Oga h14
  replace Ogb := own_past Ogb h14
  replace Oma := own_past Oma h14
  replace Omb := own_past Omb h14
  replace Oha := own_past Oha h14
  replace Ohb := own_past Ohb h14
  replace B0 := B0.past h14
  replace B1 := B1.past h14
  replace Sw := Sw.past h14
  replace Sk := Sk.past h14
  replace Sg := Sg.past h14
  replace Sh := Sh.past h14
  replace Hb := Lib.hid (thenB Hb.out h14)
  have t25 : w13.heap.size ≤ w14.heap.size := h14.size
  clear h14
  clear B0c0 B0c1 B0c2 B1c0 B1c1 B1c2 Swc0 Swc1 Swc2 Skc0 Skc1 Skc2 Sgc0 Sgc1 Sgc2 Shc0 Shc1 Shc2
  have B0c0 := B0.cell 0
  have B0c1 := B0.cell 1
  have B0c2 := B0.cell 2
  have B1c0 := B1.cell 0
  have B1c1 := B1.cell 1
  have B1c2 := B1.cell 2
  have Swc0 := Sw.cell 0
  have Swc1 := Sw.cell 1
  have Swc2 := Sw.cell 2
  have Skc0 := Sk.cell 0
  have Skc1 := Sk.cell 1
  have Skc2 := Sk.cell 2
  have Sgc0 := Sg.cell 0
  have Sgc1 := Sg.cell 1
  have Sgc2 := Sg.cell 2
  have Shc0 := Sh.cell 0
  have Shc1 := Sh.cell 1
  have Shc2 := Sh.cell 2
  simp at B0c0 B0c1 B0c2 B1c0 B1c1 B1c2 Swc0 Swc1 Swc2 Skc0 Skc1 Skc2 Sgc0 Sgc1 Sgc2 Shc0 Shc1 Shc2
  go_wp2_with fail
  refine (heldCombState_any Aga Agb cga cgb _ _ (Y.1.phase) (1) _ (own_rd Oga) (own_rd Ogb) (by omega) (by omega) (by omega) (by omega)).mono ?_
  rintro e w15 ⟨rfl, h15⟩
  replace Owa := own_past Owa h15
  replace Owb := own_past Owb h15
  replace Oka := own_past Oka h15
  replace Okb := own_past Okb h15
  replace Oga := own_past Oga h15
  replace Ogb := own_past Ogb h15
  replace Oma := own_past Oma h15
  replace Omb := own_past Omb h15
  replace Oha := own_past Oha h15
  replace Ohb := own_past Ohb h15
  replace B0 := B0.past h15
  replace B1 := B1.past h15
  replace Sw := Sw.past h15
  replace Sk := Sk.past h15
  replace Sg := Sg.past h15
  replace Sh := Sh.past h15
  replace Hb := Lib.hid (thenB Hb.out h15)
  have t26 : w14.heap.size ≤ w15.heap.size := h15.size
  clear h15
  go_wp2_with fail
  go_ret
  exact ⟨rfl, Hb.out⟩
set_option maxRecDepth 100000 in
theorem lifted (os : Os) (started : os.Started) (H : Type) (enc : TypeId × Value → H) :
    ReturnsInHanded {} Try.checked os 8 .any (Rows.fnExactClearCombSpec.pre6 enc Try.prog Try.f8 Rows.fnExactClearCombRow.domain false) (Rows.fnExactClearCombSpec.post enc Try.prog Try.f8 false true false false) := by
  refine returnsInHanded_of_change (C := Try.checked) own started (by kernel_rfl) Try.func8
    (ChangeSpec.witness6 (enc := enc) (C := Try.checked) false ⟨#[], #[.agg #[.int .i64 0, .int .i64 0, .int .i64 0], .agg #[.slice none 0 0, .slice none 0 0, .int .i64 0]], []⟩ 8 (by kernel_rfl) (by kernel_rfl) (by kernel_rfl) (by kernel_rfl)) ?_
  intro W base args ds gs before hval0 hW hcnd _
  have hval : ∀ (j : Nat) t v, Try.f8.params[j]? = some t → args[j]? = some v → Value.okWide Try.prog W .any base t v := hval0
  have hW' := hW
  obtain ⟨p, q, hA0, hV, rfl, hfz, hnd⟩ := hW
  have hA : DataW.TrodAll enc Try.prog W 0 (fun _ => true) true Try.f8.params.toList args.toList ds p := hA0
  rw [Try.params8] at hA hval
  obtain ⟨v0, vs0, d0, ds0, p0, q0, hargs, rfl, rfl, h0, g0⟩ := trodAll_cons hA
  obtain ⟨v1, vs1, d1, ds1, p1, q1, rfl, rfl, rfl, h1, g1⟩ := trodAll_cons g0
  obtain ⟨rfl, rfl, rfl⟩ := trodAll_nil g1
  obtain rfl : args = #[v0, v1] := by cases args; simp_all
  obtain ⟨rfl, rfl⟩ := trodVars_none hV
  have k0 := h0
  have lt0 : ∀ x ∈ p0, x.block < W.heap.size := by obtain ⟨m, hm⟩ := k0; exact DataW.trod_lt m _ _ _ hm
  have k1 := h1
  have lt1 : ∀ x ∈ p1, x.block < W.heap.size := by obtain ⟨m, hm⟩ := k1; exact DataW.trod_lt m _ _ _ hm
  obtain ⟨a0, b0, c0, rfl, x0⟩ := arg_s3 Try.underlying46 (by kernel_rfl) (by kernel_rfl) Try.underlying3 Try.underlying3 Try.underlying3 (hval 0 46 v0 rfl rfl) h0
  obtain ⟨A1, y1, c1, D1, u1, d1, q1, rfl, xa1, xb1, xc1, xd1, xe1, xf1, xg1, xh1⟩ := arg_cs Try.underlying47 (by kernel_rfl) (by kernel_rfl) Try.underlying31 Try.underlying31 Try.underlying3 Try.underlying3 (by kernel_rfl) (hval 1 47 v1 rfl rfl) h1
  clear hA0 hval0
  refine (walkw W a0 b0 c0 x0 A1 y1 c1 D1 u1 d1 q1 xa1 xb1 xc1 xd1 xe1 xf1 xg1 xh1).mono fun e W' ⟨he, bel⟩ => ?_
  subst he
  exact ⟨_, rfl, _, _, _, [], _, [], hW', trodAll_mk1 (shut_bool Try.underlying4 _), (trodAll_cons_mk (Below.trod laidOut (by kernel_rfl) (of_decide_eq_true (by kernel_rfl)) k0 bel lt0) (trodAll_cons_mk (Below.trod laidOut (by kernel_rfl) (of_decide_eq_true (by kernel_rfl)) k1 bel lt1) trodAll_mk0)), rfl, bel.frame _, fun h => by cases h⟩
theorem over : Rows.fnExactClearCombRow.holds Try.pinned (OpenSpec.ofChange Rows.fnExactClearCombSpec) :=
  OpenClaim.holds_of_wide 8 Try.f8 rfl rfl rfl rfl rfl rfl rfl ⟨rfl, rfl, rfl, rfl, rfl⟩ rfl rfl rfl rfl rfl (by kernel_rfl) Try.func8 (by kernel_rfl)
    (of_decide_eq_true (by kernel_rfl)) (by unfold Func.isWrapper; first | (rw [if_pos (by decide +kernel)]; kernel_rfl) | (rw [if_neg (by decide +kernel)]; exact ⟨rfl, rfl⟩))
    (fun os started H enc _ => lifted os started H enc)
theorem proved : Rows.FnExactClearCombSaid := over

end Go.Proofs.Ytfplecbacgcjgaa.clearComb
