/- The program's RunComb returns what the reference's returns, for all arguments, in memory of its own. No condition. -/
import Derived.Test.YtfplecbacgcjgaaRunCs
import Derived.Test.YtfplecbacgcjgaaLawAcc
namespace Go.Proofs.Ytfplecbacgcjgaa.runComb
open Go.ChangeShapes Go.WideShapes Go.ChangeAt Go.RowKit
set_option linter.unusedVariables false
set_option linter.unusedSimpArgs false
set_option maxRecDepth 100000 in
set_option maxHeartbeats 1000000 in
theorem walkw (w : World) (a0 b0 c0 : Int) (x0 : -9223372036854775808 ≤ a0 ∧ a0 ≤ 9223372036854775807 ∧ -9223372036854775808 ≤ b0 ∧ b0 ≤ 9223372036854775807 ∧ -9223372036854775808 ≤ c0 ∧ c0 ≤ 9223372036854775807) (A1 : Option Addr) (x1 : List Int) (c1 : Nat) (D1 : Option Addr) (y1 : List Int) (d1 : Nat) (p1 : Int) (lx1 : x1.length ≤ c1) (mc1 : c1 ≤ maxLen) (ly1 : y1.length ≤ d1) (md1 : d1 ≤ maxLen) (rx1 : Rd w w.heap.size A1 x1) (ry1 : Rd w w.heap.size D1 y1) (pl1 : -9223372036854775808 ≤ p1) (ph1 : p1 ≤ 9223372036854775807) (A2 : Option Addr) (z2 : List Int) (c2 : Nat) (l2 : z2.length ≤ c2) (m2 : c2 ≤ maxLen) (r2 : Rd w w.heap.size A2 z2) (i2 : I64 z2) :
    Calls Try.prog 12 #[.agg #[.int .i64 a0, .int .i64 b0, .int .i64 c0], .agg #[.slice A1 x1.length c1, .slice D1 y1.length d1, .int .i64 p1], .slice A2 z2.length c2] w fun e w' => e = .returned (.bool true) ∧ Below w.heap.size w w' := by
  clear x0
  unfold maxLen at mc1 md1
  clear i2
  unfold maxLen at m2
  by_cases n2 : z2.length ≤ 1048576
  case neg =>
    have n2x : 1048576 < z2.length := by omega
    clear n2
    go_enter Try.func12, Try.ntmps12
    go_wp2
    go_ret
    exact ⟨rfl, ((Below.refl _ _).alloc (by simp) _).alloc (by simp) _⟩
  have lx1b : x1.length ≤ 9223372036854775807 := by omega
  have ly1b : y1.length ≤ 9223372036854775807 := by omega
  have Hb : Hid (Below w.heap.size w w) := Below.refl _ _
  have bx : Below w.heap.size w (w.alloc (.cells #[.int .i64 a0, .int .i64 b0, .int .i64 c0] 46)) := (Below.refl _ _).alloc (Nat.le_refl _) _
  have B0 := Blk.new w 46 #[.int .i64 a0, .int .i64 b0, .int .i64 c0]
  have VB0 : w.heap.size < (w.alloc (.cells #[.int .i64 a0, .int .i64 b0, .int .i64 c0] 46)).heap.size := by simp
  replace Hb := Lib.hid (thenB Hb.out bx)
  clear bx
  have bx : Below (w.alloc (.cells #[.int .i64 a0, .int .i64 b0, .int .i64 c0] 46)).heap.size (w.alloc (.cells #[.int .i64 a0, .int .i64 b0, .int .i64 c0] 46)) ((w.alloc (.cells #[.int .i64 a0, .int .i64 b0, .int .i64 c0] 46)).alloc (.cells #[.slice A1 x1.length c1, .slice D1 y1.length d1, .int .i64 p1] 47)) := (Below.refl _ _).alloc (Nat.le_refl _) _
  have B1 := Blk.new (w.alloc (.cells #[.int .i64 a0, .int .i64 b0, .int .i64 c0] 46)) 47 #[.slice A1 x1.length c1, .slice D1 y1.length d1, .int .i64 p1]
  have VB1 : (w.alloc (.cells #[.int .i64 a0, .int .i64 b0, .int .i64 c0] 46)).heap.size < ((w.alloc (.cells #[.int .i64 a0, .int .i64 b0, .int .i64 c0] 46)).alloc (.cells #[.slice A1 x1.length c1, .slice D1 y1.length d1, .int .i64 p1] 47)).heap.size := by simp
  replace B0 := B0.past bx
  replace Hb := Lib.hid (thenB Hb.out bx)
  clear bx
  go_enter Try.func12, Try.ntmps12
  have B0c0 := B0.cell 0
  have B0c1 := B0.cell 1
  have B0c2 := B0.cell 2
  have B1c0 := B1.cell 0
  have B1c1 := B1.cell 1
  have B1c2 := B1.cell 2
  simp at B0c0 B0c1 B0c2 B1c0 B1c1 B1c2
  go_wp2_with fail
  refine (szCombState_any A1 c1 x1.length D1 d1 y1.length p1 1048576 _ lx1b ly1b (by omega) (by omega)).mono ?_
  rintro e w1 ⟨⟨v1, rfl, hv1⟩, h1⟩
  replace B0 := B0.past h1
  replace B1 := B1.past h1
  replace Hb := Lib.hid (thenB Hb.out h1)
  have t3 : ((w.alloc (.cells #[.int .i64 a0, .int .i64 b0, .int .i64 c0] 46)).alloc (.cells #[.slice A1 x1.length c1, .slice D1 y1.length d1, .int .i64 p1] 47)).heap.size ≤ w1.heap.size := h1.size
  clear h1
  by_cases n1 : x1.length + y1.length ≤ 1048576
  case neg =>
    have v1n : v1 < 0 := by omega
    clear hv1
    go_wp2_with fail
    go_ret
    exact ⟨rfl, Hb.out⟩
  have v1n : 0 ≤ v1 := by omega
  have nx1 : x1.length ≤ 1048576 := by omega
  have ny1 : y1.length ≤ 1048576 := by omega
  clear hv1 n1 lx1b ly1b
  have hyl := runC_len a0 b0 c0 ⟨x1, y1, p1⟩ z2
  obtain ⟨Y, hY⟩ : ∃ Y, Y = runC a0 b0 c0 ⟨x1, y1, p1⟩ z2 := ⟨_, rfl⟩
  rw [← hY] at hyl
  have ys0 := hyl.1
  have ys1 := hyl.2.1
  have ys2 := hyl.2.2
  have HY := Lib.hid hY
  clear hY
  clear hyl
  have HS : Hid (∀ W A c D d B b, Rd W W.heap.size A x1 → Rd W W.heap.size D y1 → Rd W W.heap.size B z2 → Calls Try.prog 22 #[.agg #[.int .i64 a0, .int .i64 b0, .int .i64 c0], .agg #[.slice A x1.length c, .slice D y1.length d, .int .i64 p1], .slice B z2.length b] W (RetRC W Y)) := fun W A c D d B b h1 h2 h3 => by rw [HY.out]; exact specRunComb_any a0 b0 c0 A c x1 D d y1 p1 B b z2 W h1 h2 h3 nx1 ny1 n2
  have HG : Hid (∀ W A c D d B b, Rd W W.heap.size A x1 → Rd W W.heap.size D y1 → Rd W W.heap.size B z2 → Calls Try.prog 19 #[.agg #[.int .i64 a0, .int .i64 b0, .int .i64 c0], .agg #[.slice A x1.length c, .slice D y1.length d, .int .i64 p1], .slice B z2.length b] W (RetRC W Y)) := fun W A c D d B b h1 h2 h3 => by rw [HY.out]; exact implRunComb_any a0 b0 c0 A c x1 D d y1 p1 B b z2 W h1 h2 h3 nx1 ny1 n2
  have bx : Below w1.heap.size w1 w1.drew := (Below.refl _ _).drew
  replace B0 := B0.past bx
  replace B1 := B1.past bx
  replace Hb := Lib.hid (thenB Hb.out bx)
  clear bx
  have t4 : w1.heap.size ≤ w1.drew.heap.size := Nat.le_refl _
  clear B0c0 B0c1 B0c2 B1c0 B1c1 B1c2
  have B0c0 := B0.cell 0
  have B0c1 := B0.cell 1
  have B0c2 := B0.cell 2
  have B1c0 := B1.cell 0
  have B1c1 := B1.cell 1
  have B1c2 := B1.cell 2
  simp at B0c0 B0c1 B0c2 B1c0 B1c1 B1c2
  go_upto_region 7 with fail
  go_cut [8, 9, 10] from 30 to 40 (fun u0 u1 u2 wx => ∃ g Al cl Aa ca Ab cb, u0 = .slice Al Y.1.length cl ∧ u1 = .pointer (some ⟨g, 0, none⟩) ∧ u2 = .bool Y.2.2 ∧ Hid (MetRC (w1.drew) g Y.1 Y.2.1.sums Y.2.1.delays Y.2.1.phase Al cl Aa ca Ab cb wx))
  case first =>
    have HW : Hid (Below (w1.drew).heap.size (w1.drew) (w1.drew)) := Below.refl _ _
    go_region_held3 (fun w' => w'.cell? ⟨w.heap.size, 0, none⟩ = some (.int .i64 a0) ∧ w'.cell? ⟨w.heap.size, 1, none⟩ = some (.int .i64 b0) ∧ w'.cell? ⟨w.heap.size, 2, none⟩ = some (.int .i64 c0) ∧ w'.cell? ⟨w.heap.size + 1, 0, none⟩ = some (.slice A1 x1.length c1) ∧ w'.cell? ⟨w.heap.size + 1, 1, none⟩ = some (.slice D1 y1.length d1) ∧ w'.cell? ⟨w.heap.size + 1, 2, none⟩ = some (.int .i64 p1)) (first | go_keep)
      (first
        | (go_at_call 32; first | (replace SX := SX; clear B0c0 B0c1 B0c2 B1c0 B1c1 B1c2; have B0c0 := B0.cell 0; have B0c1 := B0.cell 1; have B0c2 := B0.cell 2; have B1c0 := B1.cell 0; have B1c1 := B1.cell 1; have B1c2 := B1.cell 2; have SXc0 := SX.cell 0; have SXc1 := SX.cell 1; have SXc2 := SX.cell 2; simp at B0c0 B0c1 B0c2 B1c0 B1c1 B1c2 SXc0 SXc1 SXc2; refine (toComb_any a0 b0 c0 _).mono ?_; rintro e w2 ⟨rfl, h2⟩; replace B0 := B0.past h2; replace B1 := B1.past h2; replace SX := SX.past h2; replace Hb := Lib.hid (thenB Hb.out h2); replace HW := Lib.hid (thenB HW.out h2); have t5 : w1.drew.heap.size ≤ w2.heap.size := h2.size; clear h2; clear B0c0 B0c1 B0c2 B1c0 B1c1 B1c2 SXc0 SXc1 SXc2; have B0c0 := B0.cell 0; have B0c1 := B0.cell 1; have B0c2 := B0.cell 2; have B1c0 := B1.cell 0; have B1c1 := B1.cell 1; have B1c2 := B1.cell 2; have SXc0 := SX.cell 0; have SXc1 := SX.cell 1; have SXc2 := SX.cell 2; simp at B0c0 B0c1 B0c2 B1c0 B1c1 B1c2 SXc0 SXc1 SXc2) | (clear B0c0 B0c1 B0c2 B1c0 B1c1 B1c2; have B0c0 := B0.cell 0; have B0c1 := B0.cell 1; have B0c2 := B0.cell 2; have B1c0 := B1.cell 0; have B1c1 := B1.cell 1; have B1c2 := B1.cell 2; simp at B0c0 B0c1 B0c2 B1c0 B1c1 B1c2; refine (toComb_any a0 b0 c0 _).mono ?_; rintro e w2 ⟨rfl, h2⟩; replace B0 := B0.past h2; replace B1 := B1.past h2; replace Hb := Lib.hid (thenB Hb.out h2); replace HW := Lib.hid (thenB HW.out h2); have t5 : w1.drew.heap.size ≤ w2.heap.size := h2.size; clear h2; clear B0c0 B0c1 B0c2 B1c0 B1c1 B1c2; have B0c0 := B0.cell 0; have B0c1 := B0.cell 1; have B0c2 := B0.cell 2; have B1c0 := B1.cell 0; have B1c1 := B1.cell 1; have B1c2 := B1.cell 2; simp at B0c0 B0c1 B0c2 B1c0 B1c1 B1c2) | (have bx : Below w1.drew.heap.size w1.drew (w1.drew.alloc (.cells #[.slice none 0 0, .slice none 0 0, .int .i64 0] 35)) := (Below.refl _ _).alloc (Nat.le_refl _) _; have SX := Blk.new w1.drew 35 #[.slice none 0 0, .slice none 0 0, .int .i64 0]; have VSX : w1.drew.heap.size < (w1.drew.alloc (.cells #[.slice none 0 0, .slice none 0 0, .int .i64 0] 35)).heap.size := (by simp); replace B0 := B0.past bx; replace B1 := B1.past bx; replace Hb := Lib.hid (thenB Hb.out bx); replace HW := Lib.hid (thenB HW.out bx); clear bx; replace SX : Blk ((w1.drew.alloc (.cells #[.slice none 0 0, .slice none 0 0, .int .i64 0] 35))) w1.heap.size 35 #[.slice none 0 0, .slice none 0 0, .int .i64 0] := SX; have GX : (w1.drew).heap.size ≤ w1.heap.size := (by first | omega | exact Nat.le_refl _); have nzx0 : ¬ (w.heap.size = w1.heap.size) := (by omega); have nzy0 : ¬ (w1.heap.size = w.heap.size) := (by omega); have nzx1 : ¬ (w.heap.size + 1 = w1.heap.size) := (by omega); have nzy1 : ¬ (w1.heap.size = w.heap.size + 1) := (by omega); clear B0c0 B0c1 B0c2 B1c0 B1c1 B1c2; have B0c0 := B0.cell 0; have B0c1 := B0.cell 1; have B0c2 := B0.cell 2; have B1c0 := B1.cell 0; have B1c1 := B1.cell 1; have B1c2 := B1.cell 2; have SXc0 := SX.cell 0; have SXc1 := SX.cell 1; have SXc2 := SX.cell 2; simp at B0c0 B0c1 B0c2 B1c0 B1c1 B1c2 SXc0 SXc1 SXc2; refine (toComb_any a0 b0 c0 _).mono ?_; rintro e w2 ⟨rfl, h2⟩; replace B0 := B0.past h2; replace B1 := B1.past h2; replace SX := SX.past h2; replace Hb := Lib.hid (thenB Hb.out h2); replace HW := Lib.hid (thenB HW.out h2); have t5 : (w1.drew.alloc (.cells #[.slice none 0 0, .slice none 0 0, .int .i64 0] 35)).heap.size ≤ w2.heap.size := h2.size; clear h2; clear B0c0 B0c1 B0c2 B1c0 B1c1 B1c2 SXc0 SXc1 SXc2; have B0c0 := B0.cell 0; have B0c1 := B0.cell 1; have B0c2 := B0.cell 2; have B1c0 := B1.cell 0; have B1c1 := B1.cell 1; have B1c2 := B1.cell 2; have SXc0 := SX.cell 0; have SXc1 := SX.cell 1; have SXc2 := SX.cell 2; simp at B0c0 B0c1 B0c2 B1c0 B1c1 B1c2 SXc0 SXc1 SXc2))
        | (go_at_call 33; first | (replace SX := SX; clear B0c0 B0c1 B0c2 B1c0 B1c1 B1c2; have B0c0 := B0.cell 0; have B0c1 := B0.cell 1; have B0c2 := B0.cell 2; have B1c0 := B1.cell 0; have B1c1 := B1.cell 1; have B1c2 := B1.cell 2; have SXc0 := SX.cell 0; have SXc1 := SX.cell 1; have SXc2 := SX.cell 2; simp at B0c0 B0c1 B0c2 B1c0 B1c1 B1c2 SXc0 SXc1 SXc2; refine (toCombState_any A1 c1 x1 D1 d1 y1 p1 _ (rx1.past Hb.out) (ry1.past Hb.out) nx1 ny1).mono ?_; rintro e w3 ⟨Asa, csa, Asb, csb, rfl, Osa, Osb, Ps, h3⟩; replace B0 := B0.past h3; replace B1 := B1.past h3; replace SX := SX.past h3; replace Hb := Lib.hid (thenB Hb.out h3); replace HW := Lib.hid (thenB HW.out h3); have t6 : w2.heap.size ≤ w3.heap.size := h3.size; have Lsa := own_lo Osa; have Usa := own_hi Osa; have Lsb := own_lo Osb; have Usb := own_hi Osb; clear h3; clear B0c0 B0c1 B0c2 B1c0 B1c1 B1c2 SXc0 SXc1 SXc2; have B0c0 := B0.cell 0; have B0c1 := B0.cell 1; have B0c2 := B0.cell 2; have B1c0 := B1.cell 0; have B1c1 := B1.cell 1; have B1c2 := B1.cell 2; have SXc0 := SX.cell 0; have SXc1 := SX.cell 1; have SXc2 := SX.cell 2; simp at B0c0 B0c1 B0c2 B1c0 B1c1 B1c2 SXc0 SXc1 SXc2) | (clear B0c0 B0c1 B0c2 B1c0 B1c1 B1c2; have B0c0 := B0.cell 0; have B0c1 := B0.cell 1; have B0c2 := B0.cell 2; have B1c0 := B1.cell 0; have B1c1 := B1.cell 1; have B1c2 := B1.cell 2; simp at B0c0 B0c1 B0c2 B1c0 B1c1 B1c2; refine (toCombState_any A1 c1 x1 D1 d1 y1 p1 _ (rx1.past Hb.out) (ry1.past Hb.out) nx1 ny1).mono ?_; rintro e w3 ⟨Asa, csa, Asb, csb, rfl, Osa, Osb, Ps, h3⟩; replace B0 := B0.past h3; replace B1 := B1.past h3; replace Hb := Lib.hid (thenB Hb.out h3); replace HW := Lib.hid (thenB HW.out h3); have t6 : w2.heap.size ≤ w3.heap.size := h3.size; have Lsa := own_lo Osa; have Usa := own_hi Osa; have Lsb := own_lo Osb; have Usb := own_hi Osb; clear h3; clear B0c0 B0c1 B0c2 B1c0 B1c1 B1c2; have B0c0 := B0.cell 0; have B0c1 := B0.cell 1; have B0c2 := B0.cell 2; have B1c0 := B1.cell 0; have B1c1 := B1.cell 1; have B1c2 := B1.cell 2; simp at B0c0 B0c1 B0c2 B1c0 B1c1 B1c2) | (have bx : Below w2.heap.size w2 (w2.alloc (.cells #[.slice none 0 0, .slice none 0 0, .int .i64 0] 35)) := (Below.refl _ _).alloc (Nat.le_refl _) _; have SX := Blk.new w2 35 #[.slice none 0 0, .slice none 0 0, .int .i64 0]; have VSX : w2.heap.size < (w2.alloc (.cells #[.slice none 0 0, .slice none 0 0, .int .i64 0] 35)).heap.size := (by simp); replace B0 := B0.past bx; replace B1 := B1.past bx; replace Hb := Lib.hid (thenB Hb.out bx); replace HW := Lib.hid (thenB HW.out bx); clear bx; have GX : (w1.drew).heap.size ≤ w2.heap.size := (by first | omega | exact Nat.le_refl _); have nzx0 : ¬ (w.heap.size = w2.heap.size) := (by omega); have nzy0 : ¬ (w2.heap.size = w.heap.size) := (by omega); have nzx1 : ¬ (w.heap.size + 1 = w2.heap.size) := (by omega); have nzy1 : ¬ (w2.heap.size = w.heap.size + 1) := (by omega); clear B0c0 B0c1 B0c2 B1c0 B1c1 B1c2; have B0c0 := B0.cell 0; have B0c1 := B0.cell 1; have B0c2 := B0.cell 2; have B1c0 := B1.cell 0; have B1c1 := B1.cell 1; have B1c2 := B1.cell 2; have SXc0 := SX.cell 0; have SXc1 := SX.cell 1; have SXc2 := SX.cell 2; simp at B0c0 B0c1 B0c2 B1c0 B1c1 B1c2 SXc0 SXc1 SXc2; refine (toCombState_any A1 c1 x1 D1 d1 y1 p1 _ (rx1.past Hb.out) (ry1.past Hb.out) nx1 ny1).mono ?_; rintro e w3 ⟨Asa, csa, Asb, csb, rfl, Osa, Osb, Ps, h3⟩; replace B0 := B0.past h3; replace B1 := B1.past h3; replace SX := SX.past h3; replace Hb := Lib.hid (thenB Hb.out h3); replace HW := Lib.hid (thenB HW.out h3); have t6 : (w2.alloc (.cells #[.slice none 0 0, .slice none 0 0, .int .i64 0] 35)).heap.size ≤ w3.heap.size := h3.size; have Lsa := own_lo Osa; have Usa := own_hi Osa; have Lsb := own_lo Osb; have Usb := own_hi Osb; clear h3; clear B0c0 B0c1 B0c2 B1c0 B1c1 B1c2 SXc0 SXc1 SXc2; have B0c0 := B0.cell 0; have B0c1 := B0.cell 1; have B0c2 := B0.cell 2; have B1c0 := B1.cell 0; have B1c1 := B1.cell 1; have B1c2 := B1.cell 2; have SXc0 := SX.cell 0; have SXc1 := SX.cell 1; have SXc2 := SX.cell 2; simp at B0c0 B0c1 B0c2 B1c0 B1c1 B1c2 SXc0 SXc1 SXc2))
        | (go_at_call 36; first | (replace SX := SX; clear B0c0 B0c1 B0c2 B1c0 B1c1 B1c2; have B0c0 := B0.cell 0; have B0c1 := B0.cell 1; have B0c2 := B0.cell 2; have B1c0 := B1.cell 0; have B1c1 := B1.cell 1; have B1c2 := B1.cell 2; have SXc0 := SX.cell 0; have SXc1 := SX.cell 1; have SXc2 := SX.cell 2; simp at B0c0 B0c1 B0c2 B1c0 B1c1 B1c2 SXc0 SXc1 SXc2; refine (toIntS_any A2 c2 z2 _ (r2.past Hb.out) n2).mono ?_; rintro e w4 ⟨Asl, csl, rfl, Osl, h4⟩; replace Osa := own_past Osa h4; replace Osb := own_past Osb h4; replace B0 := B0.past h4; replace B1 := B1.past h4; replace SX := SX.past h4; replace Hb := Lib.hid (thenB Hb.out h4); replace HW := Lib.hid (thenB HW.out h4); have t7 : w3.heap.size ≤ w4.heap.size := h4.size; have Lsl := own_lo Osl; have Usl := own_hi Osl; clear h4; clear B0c0 B0c1 B0c2 B1c0 B1c1 B1c2 SXc0 SXc1 SXc2; have B0c0 := B0.cell 0; have B0c1 := B0.cell 1; have B0c2 := B0.cell 2; have B1c0 := B1.cell 0; have B1c1 := B1.cell 1; have B1c2 := B1.cell 2; have SXc0 := SX.cell 0; have SXc1 := SX.cell 1; have SXc2 := SX.cell 2; simp at B0c0 B0c1 B0c2 B1c0 B1c1 B1c2 SXc0 SXc1 SXc2) | (clear B0c0 B0c1 B0c2 B1c0 B1c1 B1c2; have B0c0 := B0.cell 0; have B0c1 := B0.cell 1; have B0c2 := B0.cell 2; have B1c0 := B1.cell 0; have B1c1 := B1.cell 1; have B1c2 := B1.cell 2; simp at B0c0 B0c1 B0c2 B1c0 B1c1 B1c2; refine (toIntS_any A2 c2 z2 _ (r2.past Hb.out) n2).mono ?_; rintro e w4 ⟨Asl, csl, rfl, Osl, h4⟩; replace Osa := own_past Osa h4; replace Osb := own_past Osb h4; replace B0 := B0.past h4; replace B1 := B1.past h4; replace Hb := Lib.hid (thenB Hb.out h4); replace HW := Lib.hid (thenB HW.out h4); have t7 : w3.heap.size ≤ w4.heap.size := h4.size; have Lsl := own_lo Osl; have Usl := own_hi Osl; clear h4; clear B0c0 B0c1 B0c2 B1c0 B1c1 B1c2; have B0c0 := B0.cell 0; have B0c1 := B0.cell 1; have B0c2 := B0.cell 2; have B1c0 := B1.cell 0; have B1c1 := B1.cell 1; have B1c2 := B1.cell 2; simp at B0c0 B0c1 B0c2 B1c0 B1c1 B1c2) | (have bx : Below w3.heap.size w3 (w3.alloc (.cells #[.slice none 0 0, .slice none 0 0, .int .i64 0] 35)) := (Below.refl _ _).alloc (Nat.le_refl _) _; have SX := Blk.new w3 35 #[.slice none 0 0, .slice none 0 0, .int .i64 0]; have VSX : w3.heap.size < (w3.alloc (.cells #[.slice none 0 0, .slice none 0 0, .int .i64 0] 35)).heap.size := (by simp); replace Osa := own_past Osa bx; replace Osb := own_past Osb bx; replace B0 := B0.past bx; replace B1 := B1.past bx; replace Hb := Lib.hid (thenB Hb.out bx); replace HW := Lib.hid (thenB HW.out bx); clear bx; have GX : (w1.drew).heap.size ≤ w3.heap.size := (by first | omega | exact Nat.le_refl _); have nzx0 : ¬ (w.heap.size = w3.heap.size) := (by omega); have nzy0 : ¬ (w3.heap.size = w.heap.size) := (by omega); have nzx1 : ¬ (w.heap.size + 1 = w3.heap.size) := (by omega); have nzy1 : ¬ (w3.heap.size = w.heap.size + 1) := (by omega); clear B0c0 B0c1 B0c2 B1c0 B1c1 B1c2; have B0c0 := B0.cell 0; have B0c1 := B0.cell 1; have B0c2 := B0.cell 2; have B1c0 := B1.cell 0; have B1c1 := B1.cell 1; have B1c2 := B1.cell 2; have SXc0 := SX.cell 0; have SXc1 := SX.cell 1; have SXc2 := SX.cell 2; simp at B0c0 B0c1 B0c2 B1c0 B1c1 B1c2 SXc0 SXc1 SXc2; refine (toIntS_any A2 c2 z2 _ (r2.past Hb.out) n2).mono ?_; rintro e w4 ⟨Asl, csl, rfl, Osl, h4⟩; replace Osa := own_past Osa h4; replace Osb := own_past Osb h4; replace B0 := B0.past h4; replace B1 := B1.past h4; replace SX := SX.past h4; replace Hb := Lib.hid (thenB Hb.out h4); replace HW := Lib.hid (thenB HW.out h4); have t7 : (w3.alloc (.cells #[.slice none 0 0, .slice none 0 0, .int .i64 0] 35)).heap.size ≤ w4.heap.size := h4.size; have Lsl := own_lo Osl; have Usl := own_hi Osl; clear h4; clear B0c0 B0c1 B0c2 B1c0 B1c1 B1c2 SXc0 SXc1 SXc2; have B0c0 := B0.cell 0; have B0c1 := B0.cell 1; have B0c2 := B0.cell 2; have B1c0 := B1.cell 0; have B1c1 := B1.cell 1; have B1c2 := B1.cell 2; have SXc0 := SX.cell 0; have SXc1 := SX.cell 1; have SXc2 := SX.cell 2; simp at B0c0 B0c1 B0c2 B1c0 B1c1 B1c2 SXc0 SXc1 SXc2))
        | (go_at_call 22; first | (replace SX := SX; have XL := SX.lt; clear B0c0 B0c1 B0c2 B1c0 B1c1 B1c2; have B0c0 := B0.cell 0; have B0c1 := B0.cell 1; have B0c2 := B0.cell 2; have B1c0 := B1.cell 0; have B1c1 := B1.cell 1; have B1c2 := B1.cell 2; have SXc0 := SX.cell 0; have SXc1 := SX.cell 1; have SXc2 := SX.cell 2; simp at B0c0 B0c1 B0c2 B1c0 B1c1 B1c2 SXc0 SXc1 SXc2; refine (HS.out _ Asa csa Asb csb Asl csl (own_rd Osa) (own_rd Osb) (own_rd Osl)).mono ?_; rintro e w5 ⟨Azl, czl, Aza, cza, Azb, czb, rfl, Ozl, Oza, Ozb, Pzla, Pzlb, Pz, h5⟩; replace Osa := own_past Osa h5; replace Osb := own_past Osb h5; replace Osl := own_past Osl h5; replace B0 := B0.past h5; replace B1 := B1.past h5; replace SX := SX.past h5; replace Hb := Lib.hid (thenB Hb.out h5); replace HW := Lib.hid (thenB HW.out h5); have t8 : w4.heap.size ≤ w5.heap.size := h5.size; have Lzl := own_lo Ozl; have Uzl := own_hi Ozl; have Lza := own_lo Oza; have Uza := own_hi Oza; have Lzb := own_lo Ozb; have Uzb := own_hi Ozb; clear h5; clear B0c0 B0c1 B0c2 B1c0 B1c1 B1c2 SXc0 SXc1 SXc2; have B0c0 := B0.cell 0; have B0c1 := B0.cell 1; have B0c2 := B0.cell 2; have B1c0 := B1.cell 0; have B1c1 := B1.cell 1; have B1c2 := B1.cell 2; have SXc0 := SX.cell 0; have SXc1 := SX.cell 1; have SXc2 := SX.cell 2; simp at B0c0 B0c1 B0c2 B1c0 B1c1 B1c2 SXc0 SXc1 SXc2; have SXf0 := SX.frozen 0; have SXf1 := SX.frozen 1; have SXf2 := SX.frozen 2; have M := Lib.hid (metrc_before (p := Y.2.1.phase) HW.out GX XL (by rfl) SX Ozl Oza Ozb Pzla Pzlb Pz)) | (clear B0c0 B0c1 B0c2 B1c0 B1c1 B1c2; have B0c0 := B0.cell 0; have B0c1 := B0.cell 1; have B0c2 := B0.cell 2; have B1c0 := B1.cell 0; have B1c1 := B1.cell 1; have B1c2 := B1.cell 2; simp at B0c0 B0c1 B0c2 B1c0 B1c1 B1c2; refine (HS.out _ Asa csa Asb csb Asl csl (own_rd Osa) (own_rd Osb) (own_rd Osl)).mono ?_; rintro e w5 ⟨Azl, czl, Aza, cza, Azb, czb, rfl, Ozl, Oza, Ozb, Pzla, Pzlb, Pz, h5⟩; replace Osa := own_past Osa h5; replace Osb := own_past Osb h5; replace Osl := own_past Osl h5; replace B0 := B0.past h5; replace B1 := B1.past h5; replace Hb := Lib.hid (thenB Hb.out h5); replace HW := Lib.hid (thenB HW.out h5); have t8 : w4.heap.size ≤ w5.heap.size := h5.size; have Lzl := own_lo Ozl; have Uzl := own_hi Ozl; have Lza := own_lo Oza; have Uza := own_hi Oza; have Lzb := own_lo Ozb; have Uzb := own_hi Ozb; clear h5; clear B0c0 B0c1 B0c2 B1c0 B1c1 B1c2; have B0c0 := B0.cell 0; have B0c1 := B0.cell 1; have B0c2 := B0.cell 2; have B1c0 := B1.cell 0; have B1c1 := B1.cell 1; have B1c2 := B1.cell 2; simp at B0c0 B0c1 B0c2 B1c0 B1c1 B1c2; have M := Lib.hid (metrc_after (p := Y.2.1.phase) HW.out (by omega) Ozl Oza Ozb Pzla Pzlb Pz)) | (have bx : Below w4.heap.size w4 (w4.alloc (.cells #[.slice none 0 0, .slice none 0 0, .int .i64 0] 35)) := (Below.refl _ _).alloc (Nat.le_refl _) _; have SX := Blk.new w4 35 #[.slice none 0 0, .slice none 0 0, .int .i64 0]; have VSX : w4.heap.size < (w4.alloc (.cells #[.slice none 0 0, .slice none 0 0, .int .i64 0] 35)).heap.size := (by simp); replace Osa := own_past Osa bx; replace Osb := own_past Osb bx; replace Osl := own_past Osl bx; replace B0 := B0.past bx; replace B1 := B1.past bx; replace Hb := Lib.hid (thenB Hb.out bx); replace HW := Lib.hid (thenB HW.out bx); clear bx; have GX : (w1.drew).heap.size ≤ w4.heap.size := (by first | omega | exact Nat.le_refl _); have nzx0 : ¬ (w.heap.size = w4.heap.size) := (by omega); have nzy0 : ¬ (w4.heap.size = w.heap.size) := (by omega); have nzx1 : ¬ (w.heap.size + 1 = w4.heap.size) := (by omega); have nzy1 : ¬ (w4.heap.size = w.heap.size + 1) := (by omega); have XL := SX.lt; clear B0c0 B0c1 B0c2 B1c0 B1c1 B1c2; have B0c0 := B0.cell 0; have B0c1 := B0.cell 1; have B0c2 := B0.cell 2; have B1c0 := B1.cell 0; have B1c1 := B1.cell 1; have B1c2 := B1.cell 2; have SXc0 := SX.cell 0; have SXc1 := SX.cell 1; have SXc2 := SX.cell 2; simp at B0c0 B0c1 B0c2 B1c0 B1c1 B1c2 SXc0 SXc1 SXc2; refine (HS.out _ Asa csa Asb csb Asl csl (own_rd Osa) (own_rd Osb) (own_rd Osl)).mono ?_; rintro e w5 ⟨Azl, czl, Aza, cza, Azb, czb, rfl, Ozl, Oza, Ozb, Pzla, Pzlb, Pz, h5⟩; replace Osa := own_past Osa h5; replace Osb := own_past Osb h5; replace Osl := own_past Osl h5; replace B0 := B0.past h5; replace B1 := B1.past h5; replace SX := SX.past h5; replace Hb := Lib.hid (thenB Hb.out h5); replace HW := Lib.hid (thenB HW.out h5); have t8 : (w4.alloc (.cells #[.slice none 0 0, .slice none 0 0, .int .i64 0] 35)).heap.size ≤ w5.heap.size := h5.size; have Lzl := own_lo Ozl; have Uzl := own_hi Ozl; have Lza := own_lo Oza; have Uza := own_hi Oza; have Lzb := own_lo Ozb; have Uzb := own_hi Ozb; clear h5; clear B0c0 B0c1 B0c2 B1c0 B1c1 B1c2 SXc0 SXc1 SXc2; have B0c0 := B0.cell 0; have B0c1 := B0.cell 1; have B0c2 := B0.cell 2; have B1c0 := B1.cell 0; have B1c1 := B1.cell 1; have B1c2 := B1.cell 2; have SXc0 := SX.cell 0; have SXc1 := SX.cell 1; have SXc2 := SX.cell 2; simp at B0c0 B0c1 B0c2 B1c0 B1c1 B1c2 SXc0 SXc1 SXc2; have SXf0 := SX.frozen 0; have SXf1 := SX.frozen 1; have SXf2 := SX.frozen 2; have M := Lib.hid (metrc_before (p := Y.2.1.phase) HW.out GX XL (by rfl) SX Ozl Oza Ozb Pzla Pzlb Pz))))
    all_goals (go_wp2_with fail; go_meet; exact ⟨_, _, _, _, _, _, _, rfl, rfl, rfl, M⟩)
  case rest =>
  obtain ⟨gw, Awl, cwl, Awa, cwa, Awb, cwb, rfl, rfl, rfl, HM⟩ := hcut
  obtain ⟨⟨glw, Sw, Owa, Owb, Pw, Nwa, Nwb, bx⟩, Owl, Pwla, Pwlb, Nwl⟩ := HM.out
  clear HM
  replace B0 := B0.past bx
  replace B1 := B1.past bx
  replace Hb := Lib.hid (thenB Hb.out bx)
  have t5 : (w1.drew).heap.size ≤ wc.heap.size := bx.size
  have VSw := Sw.lt
  have Lwl := own_lo Owl
  have Uwl := own_hi Owl
  have Lwa := own_lo Owa
  have Uwa := own_hi Owa
  have Lwb := own_lo Owb
  have Uwb := own_hi Owb
  clear bx
  obtain ⟨w2, hwc⟩ : ∃ W, W = wc := ⟨_, rfl⟩
  subst hwc
  clear B0c0 B0c1 B0c2 B1c0 B1c1 B1c2
  have B0c0 := B0.cell 0
  have B0c1 := B0.cell 1
  have B0c2 := B0.cell 2
  have B1c0 := B1.cell 0
  have B1c1 := B1.cell 1
  have B1c2 := B1.cell 2
  have Swc0 := Sw.cell 0
  have Swc1 := Sw.cell 1
  have Swc2 := Sw.cell 2
  simp at B0c0 B0c1 B0c2 B1c0 B1c1 B1c2 Swc0 Swc1 Swc2
  go_wp2_with fail
  refine (toCombState_any A1 c1 x1 D1 d1 y1 p1 _ (rx1.past Hb.out) (ry1.past Hb.out) nx1 ny1).mono ?_
  rintro e w3 ⟨Aka, cka, Akb, ckb, rfl, Oka, Okb, Pk, h3⟩
  replace Owl := own_past Owl h3
  replace Owa := own_past Owa h3
  replace Owb := own_past Owb h3
  replace B0 := B0.past h3
  replace B1 := B1.past h3
  replace Sw := Sw.past h3
  replace Hb := Lib.hid (thenB Hb.out h3)
  have t7 : w2.heap.size ≤ w3.heap.size := h3.size
  have Lka := own_lo Oka
  have Uka := own_hi Oka
  have Lkb := own_lo Okb
  have Ukb := own_hi Okb
  clear h3
  have bx : Below w3.heap.size w3 (w3.alloc (.cells #[.slice Aka x1.length cka, .slice Akb y1.length ckb, .int .i64 p1] 35)) := (Below.refl _ _).alloc (Nat.le_refl _) _
  have Sk := Blk.new w3 35 #[.slice Aka x1.length cka, .slice Akb y1.length ckb, .int .i64 p1]
  have VSk : w3.heap.size < (w3.alloc (.cells #[.slice Aka x1.length cka, .slice Akb y1.length ckb, .int .i64 p1] 35)).heap.size := by simp
  replace Owl := own_past Owl bx
  replace Owa := own_past Owa bx
  replace Owb := own_past Owb bx
  replace Oka := own_past Oka bx
  replace Okb := own_past Okb bx
  replace B0 := B0.past bx
  replace B1 := B1.past bx
  replace Sw := Sw.past bx
  replace Hb := Lib.hid (thenB Hb.out bx)
  clear bx
  clear B0c0 B0c1 B0c2 B1c0 B1c1 B1c2 Swc0 Swc1 Swc2
  have B0c0 := B0.cell 0
  have B0c1 := B0.cell 1
  have B0c2 := B0.cell 2
  have B1c0 := B1.cell 0
  have B1c1 := B1.cell 1
  have B1c2 := B1.cell 2
  have Swc0 := Sw.cell 0
  have Swc1 := Sw.cell 1
  have Swc2 := Sw.cell 2
  have Skc0 := Sk.cell 0
  have Skc1 := Sk.cell 1
  have Skc2 := Sk.cell 2
  simp at B0c0 B0c1 B0c2 B1c0 B1c1 B1c2 Swc0 Swc1 Swc2 Skc0 Skc1 Skc2
  go_wp2_with fail
  refine (toIntS_any A2 c2 z2 _ (r2.past Hb.out) n2).mono ?_
  rintro e w4 ⟨Akl, ckl, rfl, Okl, h4⟩
  replace Owl := own_past Owl h4
  replace Owa := own_past Owa h4
  replace Owb := own_past Owb h4
  replace Oka := own_past Oka h4
  replace Okb := own_past Okb h4
  replace B0 := B0.past h4
  replace B1 := B1.past h4
  replace Sw := Sw.past h4
  replace Sk := Sk.past h4
  replace Hb := Lib.hid (thenB Hb.out h4)
  have t9 : (w3.alloc (.cells #[.slice Aka x1.length cka, .slice Akb y1.length ckb, .int .i64 p1] 35)).heap.size ≤ w4.heap.size := h4.size
  have Lkl := own_lo Okl
  have Ukl := own_hi Okl
  clear h4
  have bx : Below w4.heap.size w4 w4.drew := (Below.refl _ _).drew
  replace Owl := own_past Owl bx
  replace Owa := own_past Owa bx
  replace Owb := own_past Owb bx
  replace Oka := own_past Oka bx
  replace Okb := own_past Okb bx
  replace Okl := own_past Okl bx
  replace B0 := B0.past bx
  replace B1 := B1.past bx
  replace Sw := Sw.past bx
  replace Sk := Sk.past bx
  replace Hb := Lib.hid (thenB Hb.out bx)
  clear bx
  have t10 : w4.heap.size ≤ w4.drew.heap.size := Nat.le_refl _
  clear B0c0 B0c1 B0c2 B1c0 B1c1 B1c2 Swc0 Swc1 Swc2 Skc0 Skc1 Skc2
  have B0c0 := B0.cell 0
  have B0c1 := B0.cell 1
  have B0c2 := B0.cell 2
  have B1c0 := B1.cell 0
  have B1c1 := B1.cell 1
  have B1c2 := B1.cell 2
  have Swc0 := Sw.cell 0
  have Swc1 := Sw.cell 1
  have Swc2 := Sw.cell 2
  have Skc0 := Sk.cell 0
  have Skc1 := Sk.cell 1
  have Skc2 := Sk.cell 2
  simp at B0c0 B0c1 B0c2 B1c0 B1c1 B1c2 Swc0 Swc1 Swc2 Skc0 Skc1 Skc2
  go_upto_region 10 with fail
  go_cut [13, 14, 15] from 45 to 53 (fun u0 u1 u2 wx => ∃ g Al cl Aa ca Ab cb, u0 = .slice Al Y.1.length cl ∧ u1 = .pointer (some ⟨g, 0, none⟩) ∧ u2 = .bool Y.2.2 ∧ Hid (MetRC (w4.drew) g Y.1 Y.2.1.sums Y.2.1.delays Y.2.1.phase Al cl Aa ca Ab cb wx))
  case first =>
    have HW : Hid (Below (w4.drew).heap.size (w4.drew) (w4.drew)) := Below.refl _ _
    go_region_held3 (fun w' => w'.cell? ⟨w.heap.size, 0, none⟩ = some (.int .i64 a0) ∧ w'.cell? ⟨w.heap.size, 1, none⟩ = some (.int .i64 b0) ∧ w'.cell? ⟨w.heap.size, 2, none⟩ = some (.int .i64 c0) ∧ w'.cell? ⟨w3.heap.size, 0, none⟩ = some (.slice Aka x1.length cka) ∧ w'.cell? ⟨w3.heap.size, 1, none⟩ = some (.slice Akb y1.length ckb) ∧ w'.cell? ⟨w3.heap.size, 2, none⟩ = some (.int .i64 p1)) (first | go_keep)
      (first
        | (go_at_call 32; first | (replace SX := SX; clear B0c0 B0c1 B0c2 B1c0 B1c1 B1c2 Swc0 Swc1 Swc2 Skc0 Skc1 Skc2; have B0c0 := B0.cell 0; have B0c1 := B0.cell 1; have B0c2 := B0.cell 2; have B1c0 := B1.cell 0; have B1c1 := B1.cell 1; have B1c2 := B1.cell 2; have Swc0 := Sw.cell 0; have Swc1 := Sw.cell 1; have Swc2 := Sw.cell 2; have Skc0 := Sk.cell 0; have Skc1 := Sk.cell 1; have Skc2 := Sk.cell 2; have SXc0 := SX.cell 0; have SXc1 := SX.cell 1; have SXc2 := SX.cell 2; simp at B0c0 B0c1 B0c2 B1c0 B1c1 B1c2 Swc0 Swc1 Swc2 Skc0 Skc1 Skc2 SXc0 SXc1 SXc2; refine (toComb_any a0 b0 c0 _).mono ?_; rintro e w5 ⟨rfl, h5⟩; replace Owl := own_past Owl h5; replace Owa := own_past Owa h5; replace Owb := own_past Owb h5; replace Oka := own_past Oka h5; replace Okb := own_past Okb h5; replace Okl := own_past Okl h5; replace B0 := B0.past h5; replace B1 := B1.past h5; replace Sw := Sw.past h5; replace Sk := Sk.past h5; replace SX := SX.past h5; replace Hb := Lib.hid (thenB Hb.out h5); replace HW := Lib.hid (thenB HW.out h5); have t11 : w4.drew.heap.size ≤ w5.heap.size := h5.size; clear h5; clear B0c0 B0c1 B0c2 B1c0 B1c1 B1c2 Swc0 Swc1 Swc2 Skc0 Skc1 Skc2 SXc0 SXc1 SXc2; have B0c0 := B0.cell 0; have B0c1 := B0.cell 1; have B0c2 := B0.cell 2; have B1c0 := B1.cell 0; have B1c1 := B1.cell 1; have B1c2 := B1.cell 2; have Swc0 := Sw.cell 0; have Swc1 := Sw.cell 1; have Swc2 := Sw.cell 2; have Skc0 := Sk.cell 0; have Skc1 := Sk.cell 1; have Skc2 := Sk.cell 2; have SXc0 := SX.cell 0; have SXc1 := SX.cell 1; have SXc2 := SX.cell 2; simp at B0c0 B0c1 B0c2 B1c0 B1c1 B1c2 Swc0 Swc1 Swc2 Skc0 Skc1 Skc2 SXc0 SXc1 SXc2) | (clear B0c0 B0c1 B0c2 B1c0 B1c1 B1c2 Swc0 Swc1 Swc2 Skc0 Skc1 Skc2; have B0c0 := B0.cell 0; have B0c1 := B0.cell 1; have B0c2 := B0.cell 2; have B1c0 := B1.cell 0; have B1c1 := B1.cell 1; have B1c2 := B1.cell 2; have Swc0 := Sw.cell 0; have Swc1 := Sw.cell 1; have Swc2 := Sw.cell 2; have Skc0 := Sk.cell 0; have Skc1 := Sk.cell 1; have Skc2 := Sk.cell 2; simp at B0c0 B0c1 B0c2 B1c0 B1c1 B1c2 Swc0 Swc1 Swc2 Skc0 Skc1 Skc2; refine (toComb_any a0 b0 c0 _).mono ?_; rintro e w5 ⟨rfl, h5⟩; replace Owl := own_past Owl h5; replace Owa := own_past Owa h5; replace Owb := own_past Owb h5; replace Oka := own_past Oka h5; replace Okb := own_past Okb h5; replace Okl := own_past Okl h5; replace B0 := B0.past h5; replace B1 := B1.past h5; replace Sw := Sw.past h5; replace Sk := Sk.past h5; replace Hb := Lib.hid (thenB Hb.out h5); replace HW := Lib.hid (thenB HW.out h5); have t11 : w4.drew.heap.size ≤ w5.heap.size := h5.size; clear h5; clear B0c0 B0c1 B0c2 B1c0 B1c1 B1c2 Swc0 Swc1 Swc2 Skc0 Skc1 Skc2; have B0c0 := B0.cell 0; have B0c1 := B0.cell 1; have B0c2 := B0.cell 2; have B1c0 := B1.cell 0; have B1c1 := B1.cell 1; have B1c2 := B1.cell 2; have Swc0 := Sw.cell 0; have Swc1 := Sw.cell 1; have Swc2 := Sw.cell 2; have Skc0 := Sk.cell 0; have Skc1 := Sk.cell 1; have Skc2 := Sk.cell 2; simp at B0c0 B0c1 B0c2 B1c0 B1c1 B1c2 Swc0 Swc1 Swc2 Skc0 Skc1 Skc2) | (have bx : Below w4.drew.heap.size w4.drew (w4.drew.alloc (.cells #[.slice none 0 0, .slice none 0 0, .int .i64 0] 35)) := (Below.refl _ _).alloc (Nat.le_refl _) _; have SX := Blk.new w4.drew 35 #[.slice none 0 0, .slice none 0 0, .int .i64 0]; have VSX : w4.drew.heap.size < (w4.drew.alloc (.cells #[.slice none 0 0, .slice none 0 0, .int .i64 0] 35)).heap.size := (by simp); replace Owl := own_past Owl bx; replace Owa := own_past Owa bx; replace Owb := own_past Owb bx; replace Oka := own_past Oka bx; replace Okb := own_past Okb bx; replace Okl := own_past Okl bx; replace B0 := B0.past bx; replace B1 := B1.past bx; replace Sw := Sw.past bx; replace Sk := Sk.past bx; replace Hb := Lib.hid (thenB Hb.out bx); replace HW := Lib.hid (thenB HW.out bx); clear bx; replace SX : Blk ((w4.drew.alloc (.cells #[.slice none 0 0, .slice none 0 0, .int .i64 0] 35))) w4.heap.size 35 #[.slice none 0 0, .slice none 0 0, .int .i64 0] := SX; have GX : (w4.drew).heap.size ≤ w4.heap.size := (by first | omega | exact Nat.le_refl _); have nzx0 : ¬ (w.heap.size = w4.heap.size) := (by omega); have nzy0 : ¬ (w4.heap.size = w.heap.size) := (by omega); have nzx1 : ¬ (w3.heap.size = w4.heap.size) := (by omega); have nzy1 : ¬ (w4.heap.size = w3.heap.size) := (by omega); clear B0c0 B0c1 B0c2 B1c0 B1c1 B1c2 Swc0 Swc1 Swc2 Skc0 Skc1 Skc2; have B0c0 := B0.cell 0; have B0c1 := B0.cell 1; have B0c2 := B0.cell 2; have B1c0 := B1.cell 0; have B1c1 := B1.cell 1; have B1c2 := B1.cell 2; have Swc0 := Sw.cell 0; have Swc1 := Sw.cell 1; have Swc2 := Sw.cell 2; have Skc0 := Sk.cell 0; have Skc1 := Sk.cell 1; have Skc2 := Sk.cell 2; have SXc0 := SX.cell 0; have SXc1 := SX.cell 1; have SXc2 := SX.cell 2; simp at B0c0 B0c1 B0c2 B1c0 B1c1 B1c2 Swc0 Swc1 Swc2 Skc0 Skc1 Skc2 SXc0 SXc1 SXc2; refine (toComb_any a0 b0 c0 _).mono ?_; rintro e w5 ⟨rfl, h5⟩; replace Owl := own_past Owl h5; replace Owa := own_past Owa h5; replace Owb := own_past Owb h5; replace Oka := own_past Oka h5; replace Okb := own_past Okb h5; replace Okl := own_past Okl h5; replace B0 := B0.past h5; replace B1 := B1.past h5; replace Sw := Sw.past h5; replace Sk := Sk.past h5; replace SX := SX.past h5; replace Hb := Lib.hid (thenB Hb.out h5); replace HW := Lib.hid (thenB HW.out h5); have t11 : (w4.drew.alloc (.cells #[.slice none 0 0, .slice none 0 0, .int .i64 0] 35)).heap.size ≤ w5.heap.size := h5.size; clear h5; clear B0c0 B0c1 B0c2 B1c0 B1c1 B1c2 Swc0 Swc1 Swc2 Skc0 Skc1 Skc2 SXc0 SXc1 SXc2; have B0c0 := B0.cell 0; have B0c1 := B0.cell 1; have B0c2 := B0.cell 2; have B1c0 := B1.cell 0; have B1c1 := B1.cell 1; have B1c2 := B1.cell 2; have Swc0 := Sw.cell 0; have Swc1 := Sw.cell 1; have Swc2 := Sw.cell 2; have Skc0 := Sk.cell 0; have Skc1 := Sk.cell 1; have Skc2 := Sk.cell 2; have SXc0 := SX.cell 0; have SXc1 := SX.cell 1; have SXc2 := SX.cell 2; simp at B0c0 B0c1 B0c2 B1c0 B1c1 B1c2 Swc0 Swc1 Swc2 Skc0 Skc1 Skc2 SXc0 SXc1 SXc2))
        | (go_at_call 19; first | (replace SX := SX; have XL := SX.lt; clear B0c0 B0c1 B0c2 B1c0 B1c1 B1c2 Swc0 Swc1 Swc2 Skc0 Skc1 Skc2; have B0c0 := B0.cell 0; have B0c1 := B0.cell 1; have B0c2 := B0.cell 2; have B1c0 := B1.cell 0; have B1c1 := B1.cell 1; have B1c2 := B1.cell 2; have Swc0 := Sw.cell 0; have Swc1 := Sw.cell 1; have Swc2 := Sw.cell 2; have Skc0 := Sk.cell 0; have Skc1 := Sk.cell 1; have Skc2 := Sk.cell 2; have SXc0 := SX.cell 0; have SXc1 := SX.cell 1; have SXc2 := SX.cell 2; simp at B0c0 B0c1 B0c2 B1c0 B1c1 B1c2 Swc0 Swc1 Swc2 Skc0 Skc1 Skc2 SXc0 SXc1 SXc2; refine (HG.out _ Aka cka Akb ckb Akl ckl (own_rd Oka) (own_rd Okb) (own_rd Okl)).mono ?_; rintro e w6 ⟨Azl, czl, Aza, cza, Azb, czb, rfl, Ozl, Oza, Ozb, Pzla, Pzlb, Pz, h6⟩; replace Owl := own_past Owl h6; replace Owa := own_past Owa h6; replace Owb := own_past Owb h6; replace Oka := own_past Oka h6; replace Okb := own_past Okb h6; replace Okl := own_past Okl h6; replace B0 := B0.past h6; replace B1 := B1.past h6; replace Sw := Sw.past h6; replace Sk := Sk.past h6; replace SX := SX.past h6; replace Hb := Lib.hid (thenB Hb.out h6); replace HW := Lib.hid (thenB HW.out h6); have t12 : w5.heap.size ≤ w6.heap.size := h6.size; have Lzl := own_lo Ozl; have Uzl := own_hi Ozl; have Lza := own_lo Oza; have Uza := own_hi Oza; have Lzb := own_lo Ozb; have Uzb := own_hi Ozb; clear h6; clear B0c0 B0c1 B0c2 B1c0 B1c1 B1c2 Swc0 Swc1 Swc2 Skc0 Skc1 Skc2 SXc0 SXc1 SXc2; have B0c0 := B0.cell 0; have B0c1 := B0.cell 1; have B0c2 := B0.cell 2; have B1c0 := B1.cell 0; have B1c1 := B1.cell 1; have B1c2 := B1.cell 2; have Swc0 := Sw.cell 0; have Swc1 := Sw.cell 1; have Swc2 := Sw.cell 2; have Skc0 := Sk.cell 0; have Skc1 := Sk.cell 1; have Skc2 := Sk.cell 2; have SXc0 := SX.cell 0; have SXc1 := SX.cell 1; have SXc2 := SX.cell 2; simp at B0c0 B0c1 B0c2 B1c0 B1c1 B1c2 Swc0 Swc1 Swc2 Skc0 Skc1 Skc2 SXc0 SXc1 SXc2; have SXf0 := SX.frozen 0; have SXf1 := SX.frozen 1; have SXf2 := SX.frozen 2; have M := Lib.hid (metrc_before (p := Y.2.1.phase) HW.out GX XL (by rfl) SX Ozl Oza Ozb Pzla Pzlb Pz)) | (clear B0c0 B0c1 B0c2 B1c0 B1c1 B1c2 Swc0 Swc1 Swc2 Skc0 Skc1 Skc2; have B0c0 := B0.cell 0; have B0c1 := B0.cell 1; have B0c2 := B0.cell 2; have B1c0 := B1.cell 0; have B1c1 := B1.cell 1; have B1c2 := B1.cell 2; have Swc0 := Sw.cell 0; have Swc1 := Sw.cell 1; have Swc2 := Sw.cell 2; have Skc0 := Sk.cell 0; have Skc1 := Sk.cell 1; have Skc2 := Sk.cell 2; simp at B0c0 B0c1 B0c2 B1c0 B1c1 B1c2 Swc0 Swc1 Swc2 Skc0 Skc1 Skc2; refine (HG.out _ Aka cka Akb ckb Akl ckl (own_rd Oka) (own_rd Okb) (own_rd Okl)).mono ?_; rintro e w6 ⟨Azl, czl, Aza, cza, Azb, czb, rfl, Ozl, Oza, Ozb, Pzla, Pzlb, Pz, h6⟩; replace Owl := own_past Owl h6; replace Owa := own_past Owa h6; replace Owb := own_past Owb h6; replace Oka := own_past Oka h6; replace Okb := own_past Okb h6; replace Okl := own_past Okl h6; replace B0 := B0.past h6; replace B1 := B1.past h6; replace Sw := Sw.past h6; replace Sk := Sk.past h6; replace Hb := Lib.hid (thenB Hb.out h6); replace HW := Lib.hid (thenB HW.out h6); have t12 : w5.heap.size ≤ w6.heap.size := h6.size; have Lzl := own_lo Ozl; have Uzl := own_hi Ozl; have Lza := own_lo Oza; have Uza := own_hi Oza; have Lzb := own_lo Ozb; have Uzb := own_hi Ozb; clear h6; clear B0c0 B0c1 B0c2 B1c0 B1c1 B1c2 Swc0 Swc1 Swc2 Skc0 Skc1 Skc2; have B0c0 := B0.cell 0; have B0c1 := B0.cell 1; have B0c2 := B0.cell 2; have B1c0 := B1.cell 0; have B1c1 := B1.cell 1; have B1c2 := B1.cell 2; have Swc0 := Sw.cell 0; have Swc1 := Sw.cell 1; have Swc2 := Sw.cell 2; have Skc0 := Sk.cell 0; have Skc1 := Sk.cell 1; have Skc2 := Sk.cell 2; simp at B0c0 B0c1 B0c2 B1c0 B1c1 B1c2 Swc0 Swc1 Swc2 Skc0 Skc1 Skc2; have M := Lib.hid (metrc_after (p := Y.2.1.phase) HW.out (by omega) Ozl Oza Ozb Pzla Pzlb Pz)) | (have bx : Below w5.heap.size w5 (w5.alloc (.cells #[.slice none 0 0, .slice none 0 0, .int .i64 0] 35)) := (Below.refl _ _).alloc (Nat.le_refl _) _; have SX := Blk.new w5 35 #[.slice none 0 0, .slice none 0 0, .int .i64 0]; have VSX : w5.heap.size < (w5.alloc (.cells #[.slice none 0 0, .slice none 0 0, .int .i64 0] 35)).heap.size := (by simp); replace Owl := own_past Owl bx; replace Owa := own_past Owa bx; replace Owb := own_past Owb bx; replace Oka := own_past Oka bx; replace Okb := own_past Okb bx; replace Okl := own_past Okl bx; replace B0 := B0.past bx; replace B1 := B1.past bx; replace Sw := Sw.past bx; replace Sk := Sk.past bx; replace Hb := Lib.hid (thenB Hb.out bx); replace HW := Lib.hid (thenB HW.out bx); clear bx; have GX : (w4.drew).heap.size ≤ w5.heap.size := (by first | omega | exact Nat.le_refl _); have nzx0 : ¬ (w.heap.size = w5.heap.size) := (by omega); have nzy0 : ¬ (w5.heap.size = w.heap.size) := (by omega); have nzx1 : ¬ (w3.heap.size = w5.heap.size) := (by omega); have nzy1 : ¬ (w5.heap.size = w3.heap.size) := (by omega); have XL := SX.lt; clear B0c0 B0c1 B0c2 B1c0 B1c1 B1c2 Swc0 Swc1 Swc2 Skc0 Skc1 Skc2; have B0c0 := B0.cell 0; have B0c1 := B0.cell 1; have B0c2 := B0.cell 2; have B1c0 := B1.cell 0; have B1c1 := B1.cell 1; have B1c2 := B1.cell 2; have Swc0 := Sw.cell 0; have Swc1 := Sw.cell 1; have Swc2 := Sw.cell 2; have Skc0 := Sk.cell 0; have Skc1 := Sk.cell 1; have Skc2 := Sk.cell 2; have SXc0 := SX.cell 0; have SXc1 := SX.cell 1; have SXc2 := SX.cell 2; simp at B0c0 B0c1 B0c2 B1c0 B1c1 B1c2 Swc0 Swc1 Swc2 Skc0 Skc1 Skc2 SXc0 SXc1 SXc2; refine (HG.out _ Aka cka Akb ckb Akl ckl (own_rd Oka) (own_rd Okb) (own_rd Okl)).mono ?_; rintro e w6 ⟨Azl, czl, Aza, cza, Azb, czb, rfl, Ozl, Oza, Ozb, Pzla, Pzlb, Pz, h6⟩; replace Owl := own_past Owl h6; replace Owa := own_past Owa h6; replace Owb := own_past Owb h6; replace Oka := own_past Oka h6; replace Okb := own_past Okb h6; replace Okl := own_past Okl h6; replace B0 := B0.past h6; replace B1 := B1.past h6; replace Sw := Sw.past h6; replace Sk := Sk.past h6; replace SX := SX.past h6; replace Hb := Lib.hid (thenB Hb.out h6); replace HW := Lib.hid (thenB HW.out h6); have t12 : (w5.alloc (.cells #[.slice none 0 0, .slice none 0 0, .int .i64 0] 35)).heap.size ≤ w6.heap.size := h6.size; have Lzl := own_lo Ozl; have Uzl := own_hi Ozl; have Lza := own_lo Oza; have Uza := own_hi Oza; have Lzb := own_lo Ozb; have Uzb := own_hi Ozb; clear h6; clear B0c0 B0c1 B0c2 B1c0 B1c1 B1c2 Swc0 Swc1 Swc2 Skc0 Skc1 Skc2 SXc0 SXc1 SXc2; have B0c0 := B0.cell 0; have B0c1 := B0.cell 1; have B0c2 := B0.cell 2; have B1c0 := B1.cell 0; have B1c1 := B1.cell 1; have B1c2 := B1.cell 2; have Swc0 := Sw.cell 0; have Swc1 := Sw.cell 1; have Swc2 := Sw.cell 2; have Skc0 := Sk.cell 0; have Skc1 := Sk.cell 1; have Skc2 := Sk.cell 2; have SXc0 := SX.cell 0; have SXc1 := SX.cell 1; have SXc2 := SX.cell 2; simp at B0c0 B0c1 B0c2 B1c0 B1c1 B1c2 Swc0 Swc1 Swc2 Skc0 Skc1 Skc2 SXc0 SXc1 SXc2; have SXf0 := SX.frozen 0; have SXf1 := SX.frozen 1; have SXf2 := SX.frozen 2; have M := Lib.hid (metrc_before (p := Y.2.1.phase) HW.out GX XL (by rfl) SX Ozl Oza Ozb Pzla Pzlb Pz))))
    all_goals (go_wp2_with fail; go_meet; exact ⟨_, _, _, _, _, _, _, rfl, rfl, rfl, M⟩)
  case rest =>
  obtain ⟨gg, Agl, cgl, Aga, cga, Agb, cgb, rfl, rfl, rfl, HM⟩ := hcut
  obtain ⟨⟨glg, Sg, Oga, Ogb, Pg, Nga, Ngb, bx⟩, Ogl, Pgla, Pglb, Ngl⟩ := HM.out
  clear HM
  replace Owl := own_past Owl bx
  replace Owa := own_past Owa bx
  replace Owb := own_past Owb bx
  replace Oka := own_past Oka bx
  replace Okb := own_past Okb bx
  replace Okl := own_past Okl bx
  replace B0 := B0.past bx
  replace B1 := B1.past bx
  replace Sw := Sw.past bx
  replace Sk := Sk.past bx
  replace Hb := Lib.hid (thenB Hb.out bx)
  have t11 : (w4.drew).heap.size ≤ wc.heap.size := bx.size
  have VSg := Sg.lt
  have Lgl := own_lo Ogl
  have Ugl := own_hi Ogl
  have Lga := own_lo Oga
  have Uga := own_hi Oga
  have Lgb := own_lo Ogb
  have Ugb := own_hi Ogb
  clear bx
  obtain ⟨w5, hwc⟩ : ∃ W, W = wc := ⟨_, rfl⟩
  subst hwc
  clear B0c0 B0c1 B0c2 B1c0 B1c1 B1c2 Swc0 Swc1 Swc2 Skc0 Skc1 Skc2
  have B0c0 := B0.cell 0
  have B0c1 := B0.cell 1
  have B0c2 := B0.cell 2
  have B1c0 := B1.cell 0
  have B1c1 := B1.cell 1
  have B1c2 := B1.cell 2
  have Swc0 := Sw.cell 0
  have Swc1 := Sw.cell 1
  have Swc2 := Sw.cell 2
  have Skc0 := Sk.cell 0
  have Skc1 := Sk.cell 1
  have Skc2 := Sk.cell 2
  have Sgc0 := Sg.cell 0
  have Sgc1 := Sg.cell 1
  have Sgc2 := Sg.cell 2
  simp at B0c0 B0c1 B0c2 B1c0 B1c1 B1c2 Swc0 Swc1 Swc2 Skc0 Skc1 Skc2 Sgc0 Sgc1 Sgc2
  go_wp2_with fail
  refine (eqIntS_same Agl Awl cgl cwl (Y.1) _ (own_rd Ogl) (own_rd Owl) (by omega)).mono ?_
  rintro e w6 ⟨rfl, h6⟩
  replace Owl := own_past Owl h6
  replace Owa := own_past Owa h6
  replace Owb := own_past Owb h6
  replace Oka := own_past Oka h6
  replace Okb := own_past Okb h6
  replace Okl := own_past Okl h6
  replace Ogl := own_past Ogl h6
  replace Oga := own_past Oga h6
  replace Ogb := own_past Ogb h6
  replace B0 := B0.past h6
  replace B1 := B1.past h6
  replace Sw := Sw.past h6
  replace Sk := Sk.past h6
  replace Sg := Sg.past h6
  replace Hb := Lib.hid (thenB Hb.out h6)
  have t13 : w5.heap.size ≤ w6.heap.size := h6.size
  clear h6
  clear B0c0 B0c1 B0c2 B1c0 B1c1 B1c2 Swc0 Swc1 Swc2 Skc0 Skc1 Skc2 Sgc0 Sgc1 Sgc2
  have B0c0 := B0.cell 0
  have B0c1 := B0.cell 1
  have B0c2 := B0.cell 2
  have B1c0 := B1.cell 0
  have B1c1 := B1.cell 1
  have B1c2 := B1.cell 2
  have Swc0 := Sw.cell 0
  have Swc1 := Sw.cell 1
  have Swc2 := Sw.cell 2
  have Skc0 := Sk.cell 0
  have Skc1 := Sk.cell 1
  have Skc2 := Sk.cell 2
  have Sgc0 := Sg.cell 0
  have Sgc1 := Sg.cell 1
  have Sgc2 := Sg.cell 2
  simp at B0c0 B0c1 B0c2 B1c0 B1c1 B1c2 Swc0 Swc1 Swc2 Skc0 Skc1 Skc2 Sgc0 Sgc1 Sgc2
  go_wp2_with fail
  refine (eqCombState_same Aga Agb Awa Awb cga cgb cwa cwb Y.2.1.sums Y.2.1.delays Y.2.1.phase _ (own_rd Oga) (own_rd Ogb) (own_rd Owa) (own_rd Owb) (by omega) (by omega)).mono ?_
  rintro e w7 ⟨rfl, h7⟩
  replace Owl := own_past Owl h7
  replace Owa := own_past Owa h7
  replace Owb := own_past Owb h7
  replace Oka := own_past Oka h7
  replace Okb := own_past Okb h7
  replace Okl := own_past Okl h7
  replace Ogl := own_past Ogl h7
  replace Oga := own_past Oga h7
  replace Ogb := own_past Ogb h7
  replace B0 := B0.past h7
  replace B1 := B1.past h7
  replace Sw := Sw.past h7
  replace Sk := Sk.past h7
  replace Sg := Sg.past h7
  replace Hb := Lib.hid (thenB Hb.out h7)
  have t14 : w6.heap.size ≤ w7.heap.size := h7.size
  clear h7
  have tb : (Y.2.2 != Y.2.2) = false := by simp
  go_wp2_with fail
  have bx : Below w7.heap.size w7 w7.drew := (Below.refl _ _).drew
  replace Owl := own_past Owl bx
  replace Owa := own_past Owa bx
  replace Owb := own_past Owb bx
  replace Oka := own_past Oka bx
  replace Okb := own_past Okb bx
  replace Okl := own_past Okl bx
  replace Ogl := own_past Ogl bx
  replace Oga := own_past Oga bx
  replace Ogb := own_past Ogb bx
  replace B0 := B0.past bx
  replace B1 := B1.past bx
  replace Sw := Sw.past bx
  replace Sk := Sk.past bx
  replace Sg := Sg.past bx
  replace Hb := Lib.hid (thenB Hb.out bx)
  clear bx
  have t15 : w7.heap.size ≤ w7.drew.heap.size := Nat.le_refl _
  clear B0c0 B0c1 B0c2 B1c0 B1c1 B1c2 Swc0 Swc1 Swc2 Skc0 Skc1 Skc2 Sgc0 Sgc1 Sgc2
  have B0c0 := B0.cell 0
  have B0c1 := B0.cell 1
  have B0c2 := B0.cell 2
  have B1c0 := B1.cell 0
  have B1c1 := B1.cell 1
  have B1c2 := B1.cell 2
  have Swc0 := Sw.cell 0
  have Swc1 := Sw.cell 1
  have Swc2 := Sw.cell 2
  have Skc0 := Sk.cell 0
  have Skc1 := Sk.cell 1
  have Skc2 := Sk.cell 2
  have Sgc0 := Sg.cell 0
  have Sgc1 := Sg.cell 1
  have Sgc2 := Sg.cell 2
  simp at B0c0 B0c1 B0c2 B1c0 B1c1 B1c2 Swc0 Swc1 Swc2 Skc0 Skc1 Skc2 Sgc0 Sgc1 Sgc2
  go_wp2_with fail
  go_region_held3 (fun w' => w'.cell? ⟨w3.heap.size, 0, none⟩ = some (.slice Aka x1.length cka) ∧ w'.cell? ⟨w3.heap.size, 1, none⟩ = some (.slice Akb y1.length ckb) ∧ w'.cell? ⟨w3.heap.size, 2, none⟩ = some (.int .i64 p1) ∧ w'.cell? ⟨w.heap.size + 1, 0, none⟩ = some (.slice A1 x1.length c1) ∧ w'.cell? ⟨w.heap.size + 1, 1, none⟩ = some (.slice D1 y1.length d1) ∧ w'.cell? ⟨w.heap.size + 1, 2, none⟩ = some (.int .i64 p1)) (first | go_keep)
    (first
      | (go_at_call 33; clear B0c0 B0c1 B0c2 B1c0 B1c1 B1c2 Swc0 Swc1 Swc2 Skc0 Skc1 Skc2 Sgc0 Sgc1 Sgc2; have B0c0 := B0.cell 0; have B0c1 := B0.cell 1; have B0c2 := B0.cell 2; have B1c0 := B1.cell 0; have B1c1 := B1.cell 1; have B1c2 := B1.cell 2; have Swc0 := Sw.cell 0; have Swc1 := Sw.cell 1; have Swc2 := Sw.cell 2; have Skc0 := Sk.cell 0; have Skc1 := Sk.cell 1; have Skc2 := Sk.cell 2; have Sgc0 := Sg.cell 0; have Sgc1 := Sg.cell 1; have Sgc2 := Sg.cell 2; simp at B0c0 B0c1 B0c2 B1c0 B1c1 B1c2 Swc0 Swc1 Swc2 Skc0 Skc1 Skc2 Sgc0 Sgc1 Sgc2; refine (toCombState_any A1 c1 x1 D1 d1 y1 p1 _ (rx1.past Hb.out) (ry1.past Hb.out) nx1 ny1).mono ?_; rintro e w8 ⟨Ama, cma, Amb, cmb, rfl, Oma, Omb, Pm, h8⟩; replace Owl := own_past Owl h8; replace Owa := own_past Owa h8; replace Owb := own_past Owb h8; replace Oka := own_past Oka h8; replace Okb := own_past Okb h8; replace Okl := own_past Okl h8; replace Ogl := own_past Ogl h8; replace Oga := own_past Oga h8; replace Ogb := own_past Ogb h8; replace B0 := B0.past h8; replace B1 := B1.past h8; replace Sw := Sw.past h8; replace Sk := Sk.past h8; replace Sg := Sg.past h8; replace Hb := Lib.hid (thenB Hb.out h8); have t16 : w7.drew.heap.size ≤ w8.heap.size := h8.size; have Lma := own_lo Oma; have Uma := own_hi Oma; have Lmb := own_lo Omb; have Umb := own_hi Omb; clear h8; clear B0c0 B0c1 B0c2 B1c0 B1c1 B1c2 Swc0 Swc1 Swc2 Skc0 Skc1 Skc2 Sgc0 Sgc1 Sgc2; have B0c0 := B0.cell 0; have B0c1 := B0.cell 1; have B0c2 := B0.cell 2; have B1c0 := B1.cell 0; have B1c1 := B1.cell 1; have B1c2 := B1.cell 2; have Swc0 := Sw.cell 0; have Swc1 := Sw.cell 1; have Swc2 := Sw.cell 2; have Skc0 := Sk.cell 0; have Skc1 := Sk.cell 1; have Skc2 := Sk.cell 2; have Sgc0 := Sg.cell 0; have Sgc1 := Sg.cell 1; have Sgc2 := Sg.cell 2; simp at B0c0 B0c1 B0c2 B1c0 B1c1 B1c2 Swc0 Swc1 Swc2 Skc0 Skc1 Skc2 Sgc0 Sgc1 Sgc2)
      | (go_at_call 35; clear B0c0 B0c1 B0c2 B1c0 B1c1 B1c2 Swc0 Swc1 Swc2 Skc0 Skc1 Skc2 Sgc0 Sgc1 Sgc2; have B0c0 := B0.cell 0; have B0c1 := B0.cell 1; have B0c2 := B0.cell 2; have B1c0 := B1.cell 0; have B1c1 := B1.cell 1; have B1c2 := B1.cell 2; have Swc0 := Sw.cell 0; have Swc1 := Sw.cell 1; have Swc2 := Sw.cell 2; have Skc0 := Sk.cell 0; have Skc1 := Sk.cell 1; have Skc2 := Sk.cell 2; have Sgc0 := Sg.cell 0; have Sgc1 := Sg.cell 1; have Sgc2 := Sg.cell 2; simp at B0c0 B0c1 B0c2 B1c0 B1c1 B1c2 Swc0 Swc1 Swc2 Skc0 Skc1 Skc2 Sgc0 Sgc1 Sgc2; refine (eqCombState_same Aka Akb Ama Amb cka ckb cma cmb x1 y1 p1 _ (own_rd Oka) (own_rd Okb) (own_rd Oma) (own_rd Omb) (by omega) (by omega)).mono ?_; rintro e w9 ⟨rfl, h9⟩; replace Owl := own_past Owl h9; replace Owa := own_past Owa h9; replace Owb := own_past Owb h9; replace Oka := own_past Oka h9; replace Okb := own_past Okb h9; replace Okl := own_past Okl h9; replace Ogl := own_past Ogl h9; replace Oga := own_past Oga h9; replace Ogb := own_past Ogb h9; replace Oma := own_past Oma h9; replace Omb := own_past Omb h9; replace B0 := B0.past h9; replace B1 := B1.past h9; replace Sw := Sw.past h9; replace Sk := Sk.past h9; replace Sg := Sg.past h9; replace Hb := Lib.hid (thenB Hb.out h9); have t17 : w8.heap.size ≤ w9.heap.size := h9.size; clear h9; clear B0c0 B0c1 B0c2 B1c0 B1c1 B1c2 Swc0 Swc1 Swc2 Skc0 Skc1 Skc2 Sgc0 Sgc1 Sgc2; have B0c0 := B0.cell 0; have B0c1 := B0.cell 1; have B0c2 := B0.cell 2; have B1c0 := B1.cell 0; have B1c1 := B1.cell 1; have B1c2 := B1.cell 2; have Swc0 := Sw.cell 0; have Swc1 := Sw.cell 1; have Swc2 := Sw.cell 2; have Skc0 := Sk.cell 0; have Skc1 := Sk.cell 1; have Skc2 := Sk.cell 2; have Sgc0 := Sg.cell 0; have Sgc1 := Sg.cell 1; have Sgc2 := Sg.cell 2; simp at B0c0 B0c1 B0c2 B1c0 B1c1 B1c2 Swc0 Swc1 Swc2 Skc0 Skc1 Skc2 Sgc0 Sgc1 Sgc2))
  clear B0c0 B0c1 B0c2 B1c0 B1c1 B1c2 Swc0 Swc1 Swc2 Skc0 Skc1 Skc2 Sgc0 Sgc1 Sgc2
  have B0c0 := B0.cell 0
  have B0c1 := B0.cell 1
  have B0c2 := B0.cell 2
  have B1c0 := B1.cell 0
  have B1c1 := B1.cell 1
  have B1c2 := B1.cell 2
  have Swc0 := Sw.cell 0
  have Swc1 := Sw.cell 1
  have Swc2 := Sw.cell 2
  have Skc0 := Sk.cell 0
  have Skc1 := Sk.cell 1
  have Skc2 := Sk.cell 2
  have Sgc0 := Sg.cell 0
  have Sgc1 := Sg.cell 1
  have Sgc2 := Sg.cell 2
  simp at B0c0 B0c1 B0c2 B1c0 B1c1 B1c2 Swc0 Swc1 Swc2 Skc0 Skc1 Skc2 Sgc0 Sgc1 Sgc2
  go_wp2_with fail
  refine (toIntS_any A2 c2 z2 _ (r2.past Hb.out) n2).mono ?_
  rintro e w10 ⟨Aml, cml, rfl, Oml, h10⟩
  replace Owl := own_past Owl h10
  replace Owa := own_past Owa h10
  replace Owb := own_past Owb h10
  replace Oka := own_past Oka h10
  replace Okb := own_past Okb h10
  replace Okl := own_past Okl h10
  replace Ogl := own_past Ogl h10
  replace Oga := own_past Oga h10
  replace Ogb := own_past Ogb h10
  replace Oma := own_past Oma h10
  replace Omb := own_past Omb h10
  replace B0 := B0.past h10
  replace B1 := B1.past h10
  replace Sw := Sw.past h10
  replace Sk := Sk.past h10
  replace Sg := Sg.past h10
  replace Hb := Lib.hid (thenB Hb.out h10)
  have t18 : w9.heap.size ≤ w10.heap.size := h10.size
  have Lml := own_lo Oml
  have Uml := own_hi Oml
  clear h10
  clear B0c0 B0c1 B0c2 B1c0 B1c1 B1c2 Swc0 Swc1 Swc2 Skc0 Skc1 Skc2 Sgc0 Sgc1 Sgc2
  have B0c0 := B0.cell 0
  have B0c1 := B0.cell 1
  have B0c2 := B0.cell 2
  have B1c0 := B1.cell 0
  have B1c1 := B1.cell 1
  have B1c2 := B1.cell 2
  have Swc0 := Sw.cell 0
  have Swc1 := Sw.cell 1
  have Swc2 := Sw.cell 2
  have Skc0 := Sk.cell 0
  have Skc1 := Sk.cell 1
  have Skc2 := Sk.cell 2
  have Sgc0 := Sg.cell 0
  have Sgc1 := Sg.cell 1
  have Sgc2 := Sg.cell 2
  simp at B0c0 B0c1 B0c2 B1c0 B1c1 B1c2 Swc0 Swc1 Swc2 Skc0 Skc1 Skc2 Sgc0 Sgc1 Sgc2
  go_wp2_with fail
  refine (eqIntS_same Akl Aml ckl cml (z2) _ (own_rd Okl) (own_rd Oml) (by omega)).mono ?_
  rintro e w11 ⟨rfl, h11⟩
  replace Owl := own_past Owl h11
  replace Owa := own_past Owa h11
  replace Owb := own_past Owb h11
  replace Oka := own_past Oka h11
  replace Okb := own_past Okb h11
  replace Okl := own_past Okl h11
  replace Ogl := own_past Ogl h11
  replace Oga := own_past Oga h11
  replace Ogb := own_past Ogb h11
  replace Oma := own_past Oma h11
  replace Omb := own_past Omb h11
  replace Oml := own_past Oml h11
  replace B0 := B0.past h11
  replace B1 := B1.past h11
  replace Sw := Sw.past h11
  replace Sk := Sk.past h11
  replace Sg := Sg.past h11
  replace Hb := Lib.hid (thenB Hb.out h11)
  have t19 : w10.heap.size ≤ w11.heap.size := h11.size
  clear h11
  clear B0c0 B0c1 B0c2 B1c0 B1c1 B1c2 Swc0 Swc1 Swc2 Skc0 Skc1 Skc2 Sgc0 Sgc1 Sgc2
  have B0c0 := B0.cell 0
  have B0c1 := B0.cell 1
  have B0c2 := B0.cell 2
  have B1c0 := B1.cell 0
  have B1c1 := B1.cell 1
  have B1c2 := B1.cell 2
  have Swc0 := Sw.cell 0
  have Swc1 := Sw.cell 1
  have Swc2 := Sw.cell 2
  have Skc0 := Sk.cell 0
  have Skc1 := Sk.cell 1
  have Skc2 := Sk.cell 2
  have Sgc0 := Sg.cell 0
  have Sgc1 := Sg.cell 1
  have Sgc2 := Sg.cell 2
  simp at B0c0 B0c1 B0c2 B1c0 B1c1 B1c2 Swc0 Swc1 Swc2 Skc0 Skc1 Skc2 Sgc0 Sgc1 Sgc2
  go_wp2_with fail
  refine (markCombState_any Aka Akb _ _ cka ckb (x1) (y1) (p1) (1) _ Oka Okb (Pk) (by omega) (by omega) (by omega) (by omega)).mono ?_
  rintro e w12 ⟨wm12a, rfl, Oka, Okb, h12a, h12b⟩
  replace Owl := own_wrote Owl h12a (apart_lt Uwl Lka (by omega))
  replace Owa := own_wrote Owa h12a (apart_lt Uwa Lka (by omega))
  replace Owb := own_wrote Owb h12a (apart_lt Uwb Lka (by omega))
  replace Okl := own_wrote Okl h12a (apart_gt Lkl Uka (by omega))
  replace Ogl := own_wrote Ogl h12a (apart_gt Lgl Uka (by omega))
  replace Oga := own_wrote Oga h12a (apart_gt Lga Uka (by omega))
  replace Ogb := own_wrote Ogb h12a (apart_gt Lgb Uka (by omega))
  replace Oma := own_wrote Oma h12a (apart_gt Lma Uka (by omega))
  replace Omb := own_wrote Omb h12a (apart_gt Lmb Uka (by omega))
  replace Oml := own_wrote Oml h12a (apart_gt Lml Uka (by omega))
  replace B0 := blk_wrote B0 h12a Lka (by omega)
  replace B1 := blk_wrote B1 h12a Lka (by omega)
  replace Sw := blk_wrote Sw h12a Lka (by omega)
  replace Sk := blk_wrote_hi Sk h12a Uka (by omega)
  replace Sg := blk_wrote_hi Sg h12a Uka (by omega)
  replace Hb := Lib.hid (Hb.out.trans (below_wrote h12a Hb.out.size (lo_le Lka (by omega))))
  have t20 : w11.heap.size ≤ wm12a.heap.size := h12a.size
  replace Owl := own_wrote Owl h12b (apart_lt Uwl Lkb (by omega))
  replace Owa := own_wrote Owa h12b (apart_lt Uwa Lkb (by omega))
  replace Owb := own_wrote Owb h12b (apart_lt Uwb Lkb (by omega))
  replace Okl := own_wrote Okl h12b (apart_gt Lkl Ukb (by omega))
  replace Ogl := own_wrote Ogl h12b (apart_gt Lgl Ukb (by omega))
  replace Oga := own_wrote Oga h12b (apart_gt Lga Ukb (by omega))
  replace Ogb := own_wrote Ogb h12b (apart_gt Lgb Ukb (by omega))
  replace Oma := own_wrote Oma h12b (apart_gt Lma Ukb (by omega))
  replace Omb := own_wrote Omb h12b (apart_gt Lmb Ukb (by omega))
  replace Oml := own_wrote Oml h12b (apart_gt Lml Ukb (by omega))
  replace B0 := blk_wrote B0 h12b Lkb (by omega)
  replace B1 := blk_wrote B1 h12b Lkb (by omega)
  replace Sw := blk_wrote Sw h12b Lkb (by omega)
  replace Sk := blk_wrote_hi Sk h12b Ukb (by omega)
  replace Sg := blk_wrote_hi Sg h12b Ukb (by omega)
  replace Hb := Lib.hid (Hb.out.trans (below_wrote h12b Hb.out.size (lo_le Lkb (by omega))))
  have t21 : wm12a.heap.size ≤ w12.heap.size := h12b.size
  clear h12a h12b
  clear B0c0 B0c1 B0c2 B1c0 B1c1 B1c2 Swc0 Swc1 Swc2 Skc0 Skc1 Skc2 Sgc0 Sgc1 Sgc2
  have B0c0 := B0.cell 0
  have B0c1 := B0.cell 1
  have B0c2 := B0.cell 2
  have B1c0 := B1.cell 0
  have B1c1 := B1.cell 1
  have B1c2 := B1.cell 2
  have Swc0 := Sw.cell 0
  have Swc1 := Sw.cell 1
  have Swc2 := Sw.cell 2
  have Skc0 := Sk.cell 0
  have Skc1 := Sk.cell 1
  have Skc2 := Sk.cell 2
  have Sgc0 := Sg.cell 0
  have Sgc1 := Sg.cell 1
  have Sgc2 := Sg.cell 2
  simp at B0c0 B0c1 B0c2 B1c0 B1c1 B1c2 Swc0 Swc1 Swc2 Skc0 Skc1 Skc2 Sgc0 Sgc1 Sgc2
  go_wp2_with fail
  refine (markIntS_any Akl _ ckl (z2) (1 + (x1).length + (y1).length) _ Okl (by omega) (by omega) (by omega)).mono ?_
  rintro e w13 ⟨rfl, Okl, h13a⟩
  replace Owl := own_wrote Owl h13a (apart_lt Uwl Lkl (by omega))
  replace Owa := own_wrote Owa h13a (apart_lt Uwa Lkl (by omega))
  replace Owb := own_wrote Owb h13a (apart_lt Uwb Lkl (by omega))
  replace Oka := own_wrote Oka h13a (apart_lt Uka Lkl (by omega))
  replace Okb := own_wrote Okb h13a (apart_lt Ukb Lkl (by omega))
  replace Ogl := own_wrote Ogl h13a (apart_gt Lgl Ukl (by omega))
  replace Oga := own_wrote Oga h13a (apart_gt Lga Ukl (by omega))
  replace Ogb := own_wrote Ogb h13a (apart_gt Lgb Ukl (by omega))
  replace Oma := own_wrote Oma h13a (apart_gt Lma Ukl (by omega))
  replace Omb := own_wrote Omb h13a (apart_gt Lmb Ukl (by omega))
  replace Oml := own_wrote Oml h13a (apart_gt Lml Ukl (by omega))
  replace B0 := blk_wrote B0 h13a Lkl (by omega)
  replace B1 := blk_wrote B1 h13a Lkl (by omega)
  replace Sw := blk_wrote Sw h13a Lkl (by omega)
  replace Sk := blk_wrote Sk h13a Lkl (by omega)
  replace Sg := blk_wrote_hi Sg h13a Ukl (by omega)
  replace Hb := Lib.hid (Hb.out.trans (below_wrote h13a Hb.out.size (lo_le Lkl (by omega))))
  have t22 : w12.heap.size ≤ w13.heap.size := h13a.size
  clear h13a
  clear B0c0 B0c1 B0c2 B1c0 B1c1 B1c2 Swc0 Swc1 Swc2 Skc0 Skc1 Skc2 Sgc0 Sgc1 Sgc2
  have B0c0 := B0.cell 0
  have B0c1 := B0.cell 1
  have B0c2 := B0.cell 2
  have B1c0 := B1.cell 0
  have B1c1 := B1.cell 1
  have B1c2 := B1.cell 2
  have Swc0 := Sw.cell 0
  have Swc1 := Sw.cell 1
  have Swc2 := Sw.cell 2
  have Skc0 := Sk.cell 0
  have Skc1 := Sk.cell 1
  have Skc2 := Sk.cell 2
  have Sgc0 := Sg.cell 0
  have Sgc1 := Sg.cell 1
  have Sgc2 := Sg.cell 2
  simp at B0c0 B0c1 B0c2 B1c0 B1c1 B1c2 Swc0 Swc1 Swc2 Skc0 Skc1 Skc2 Sgc0 Sgc1 Sgc2
  go_wp2_with fail
  refine (eqIntS_same Agl Awl cgl cwl (Y.1) _ (own_rd Ogl) (own_rd Owl) (by omega)).mono ?_
  rintro e w14 ⟨rfl, h14⟩
  replace Owl := own_past Owl h14
  replace Owa := own_past Owa h14
  replace Owb := own_past Owb h14
  replace Oka := own_past Oka h14
  replace Okb := own_past Okb h14
  replace Okl := own_past Okl h14
  replace Ogl := own_past Ogl h14
  replace Oga := own_past Oga h14
  replace Ogb := own_past Ogb h14
  replace Oma := own_past Oma h14
  replace Omb := own_past Omb h14
  replace Oml := own_past Oml h14
  replace B0 := B0.past h14
  replace B1 := B1.past h14
  replace Sw := Sw.past h14
  replace Sk := Sk.past h14
  replace Sg := Sg.past h14
  replace Hb := Lib.hid (thenB Hb.out h14)
  have t23 : w13.heap.size ≤ w14.heap.size := h14.size
  clear h14
  clear B0c0 B0c1 B0c2 B1c0 B1c1 B1c2 Swc0 Swc1 Swc2 Skc0 Skc1 Skc2 Sgc0 Sgc1 Sgc2
  have B0c0 := B0.cell 0
  have B0c1 := B0.cell 1
  have B0c2 := B0.cell 2
  have B1c0 := B1.cell 0
  have B1c1 := B1.cell 1
  have B1c2 := B1.cell 2
  have Swc0 := Sw.cell 0
  have Swc1 := Sw.cell 1
  have Swc2 := Sw.cell 2
  have Skc0 := Sk.cell 0
  have Skc1 := Sk.cell 1
  have Skc2 := Sk.cell 2
  have Sgc0 := Sg.cell 0
  have Sgc1 := Sg.cell 1
  have Sgc2 := Sg.cell 2
  simp at B0c0 B0c1 B0c2 B1c0 B1c1 B1c2 Swc0 Swc1 Swc2 Skc0 Skc1 Skc2 Sgc0 Sgc1 Sgc2
  go_wp2_with fail
  refine (eqCombState_same Aga Agb Awa Awb cga cgb cwa cwb Y.2.1.sums Y.2.1.delays Y.2.1.phase _ (own_rd Oga) (own_rd Ogb) (own_rd Owa) (own_rd Owb) (by omega) (by omega)).mono ?_
  rintro e w15 ⟨rfl, h15⟩
  replace Owl := own_past Owl h15
  replace Owa := own_past Owa h15
  replace Owb := own_past Owb h15
  replace Oka := own_past Oka h15
  replace Okb := own_past Okb h15
  replace Okl := own_past Okl h15
  replace Ogl := own_past Ogl h15
  replace Oga := own_past Oga h15
  replace Ogb := own_past Ogb h15
  replace Oma := own_past Oma h15
  replace Omb := own_past Omb h15
  replace Oml := own_past Oml h15
  replace B0 := B0.past h15
  replace B1 := B1.past h15
  replace Sw := Sw.past h15
  replace Sk := Sk.past h15
  replace Sg := Sg.past h15
  replace Hb := Lib.hid (thenB Hb.out h15)
  have t24 : w14.heap.size ≤ w15.heap.size := h15.size
  clear h15
  clear B0c0 B0c1 B0c2 B1c0 B1c1 B1c2 Swc0 Swc1 Swc2 Skc0 Skc1 Skc2 Sgc0 Sgc1 Sgc2
  have B0c0 := B0.cell 0
  have B0c1 := B0.cell 1
  have B0c2 := B0.cell 2
  have B1c0 := B1.cell 0
  have B1c1 := B1.cell 1
  have B1c2 := B1.cell 2
  have Swc0 := Sw.cell 0
  have Swc1 := Sw.cell 1
  have Swc2 := Sw.cell 2
  have Skc0 := Sk.cell 0
  have Skc1 := Sk.cell 1
  have Skc2 := Sk.cell 2
  have Sgc0 := Sg.cell 0
  have Sgc1 := Sg.cell 1
  have Sgc2 := Sg.cell 2
  simp at B0c0 B0c1 B0c2 B1c0 B1c1 B1c2 Swc0 Swc1 Swc2 Skc0 Skc1 Skc2 Sgc0 Sgc1 Sgc2
  go_wp2_with fail
  refine (markIntS_any Agl _ cgl (Y.1) (1) _ Ogl (by omega) (by omega) (by omega)).mono ?_
  rintro e w16 ⟨rfl, Ogl, h16a⟩
  replace Owl := own_wrote Owl h16a (apart_lt Uwl Lgl (by omega))
  replace Owa := own_wrote Owa h16a (apart_lt Uwa Lgl (by omega))
  replace Owb := own_wrote Owb h16a (apart_lt Uwb Lgl (by omega))
  replace Oka := own_wrote Oka h16a (apart_lt Uka Lgl (by omega))
  replace Okb := own_wrote Okb h16a (apart_lt Ukb Lgl (by omega))
  replace Okl := own_wrote Okl h16a (apart_lt Ukl Lgl (by omega))
  replace Oga := own_wrote Oga h16a (apart_symm Pgla)
  replace Ogb := own_wrote Ogb h16a (apart_symm Pglb)
  replace Oma := own_wrote Oma h16a (apart_gt Lma Ugl (by omega))
  replace Omb := own_wrote Omb h16a (apart_gt Lmb Ugl (by omega))
  replace Oml := own_wrote Oml h16a (apart_gt Lml Ugl (by omega))
  replace B0 := blk_wrote B0 h16a Lgl (by omega)
  replace B1 := blk_wrote B1 h16a Lgl (by omega)
  replace Sw := blk_wrote Sw h16a Lgl (by omega)
  replace Sk := blk_wrote Sk h16a Lgl (by omega)
  replace Sg := blk_wrote_ne Sg h16a Ngl
  replace Hb := Lib.hid (Hb.out.trans (below_wrote h16a Hb.out.size (lo_le Lgl (by omega))))
  have t25 : w15.heap.size ≤ w16.heap.size := h16a.size
  clear h16a
  clear B0c0 B0c1 B0c2 B1c0 B1c1 B1c2 Swc0 Swc1 Swc2 Skc0 Skc1 Skc2 Sgc0 Sgc1 Sgc2
  have B0c0 := B0.cell 0
  have B0c1 := B0.cell 1
  have B0c2 := B0.cell 2
  have B1c0 := B1.cell 0
  have B1c1 := B1.cell 1
  have B1c2 := B1.cell 2
  have Swc0 := Sw.cell 0
  have Swc1 := Sw.cell 1
  have Swc2 := Sw.cell 2
  have Skc0 := Sk.cell 0
  have Skc1 := Sk.cell 1
  have Skc2 := Sk.cell 2
  have Sgc0 := Sg.cell 0
  have Sgc1 := Sg.cell 1
  have Sgc2 := Sg.cell 2
  simp at B0c0 B0c1 B0c2 B1c0 B1c1 B1c2 Swc0 Swc1 Swc2 Skc0 Skc1 Skc2 Sgc0 Sgc1 Sgc2
  go_wp2_with fail
  refine (markCombState_any Aga Agb _ _ cga cgb (Y.2.1.sums) (Y.2.1.delays) (Y.2.1.phase) (1 + (Y.1).length) _ Oga Ogb (Pg) (by omega) (by omega) (by omega) (by omega)).mono ?_
  rintro e w17 ⟨wm17a, rfl, Oga, Ogb, h17a, h17b⟩
  replace Owl := own_wrote Owl h17a (apart_lt Uwl Lga (by omega))
  replace Owa := own_wrote Owa h17a (apart_lt Uwa Lga (by omega))
  replace Owb := own_wrote Owb h17a (apart_lt Uwb Lga (by omega))
  replace Oka := own_wrote Oka h17a (apart_lt Uka Lga (by omega))
  replace Okb := own_wrote Okb h17a (apart_lt Ukb Lga (by omega))
  replace Okl := own_wrote Okl h17a (apart_lt Ukl Lga (by omega))
  replace Ogl := own_wrote Ogl h17a (Pgla)
  replace Oma := own_wrote Oma h17a (apart_gt Lma Uga (by omega))
  replace Omb := own_wrote Omb h17a (apart_gt Lmb Uga (by omega))
  replace Oml := own_wrote Oml h17a (apart_gt Lml Uga (by omega))
  replace B0 := blk_wrote B0 h17a Lga (by omega)
  replace B1 := blk_wrote B1 h17a Lga (by omega)
  replace Sw := blk_wrote Sw h17a Lga (by omega)
  replace Sk := blk_wrote Sk h17a Lga (by omega)
  replace Sg := blk_wrote_ne Sg h17a Nga
  replace Hb := Lib.hid (Hb.out.trans (below_wrote h17a Hb.out.size (lo_le Lga (by omega))))
  have t26 : w16.heap.size ≤ wm17a.heap.size := h17a.size
  replace Owl := own_wrote Owl h17b (apart_lt Uwl Lgb (by omega))
  replace Owa := own_wrote Owa h17b (apart_lt Uwa Lgb (by omega))
  replace Owb := own_wrote Owb h17b (apart_lt Uwb Lgb (by omega))
  replace Oka := own_wrote Oka h17b (apart_lt Uka Lgb (by omega))
  replace Okb := own_wrote Okb h17b (apart_lt Ukb Lgb (by omega))
  replace Okl := own_wrote Okl h17b (apart_lt Ukl Lgb (by omega))
  replace Ogl := own_wrote Ogl h17b (Pglb)
  replace Oma := own_wrote Oma h17b (apart_gt Lma Ugb (by omega))
  replace Omb := own_wrote Omb h17b (apart_gt Lmb Ugb (by omega))
  replace Oml := own_wrote Oml h17b (apart_gt Lml Ugb (by omega))
  replace B0 := blk_wrote B0 h17b Lgb (by omega)
  replace B1 := blk_wrote B1 h17b Lgb (by omega)
  replace Sw := blk_wrote Sw h17b Lgb (by omega)
  replace Sk := blk_wrote Sk h17b Lgb (by omega)
  replace Sg := blk_wrote_ne Sg h17b Ngb
  replace Hb := Lib.hid (Hb.out.trans (below_wrote h17b Hb.out.size (lo_le Lgb (by omega))))
  have t27 : wm17a.heap.size ≤ w17.heap.size := h17b.size
  clear h17a h17b
  clear B0c0 B0c1 B0c2 B1c0 B1c1 B1c2 Swc0 Swc1 Swc2 Skc0 Skc1 Skc2 Sgc0 Sgc1 Sgc2
  have B0c0 := B0.cell 0
  have B0c1 := B0.cell 1
  have B0c2 := B0.cell 2
  have B1c0 := B1.cell 0
  have B1c1 := B1.cell 1
  have B1c2 := B1.cell 2
  have Swc0 := Sw.cell 0
  have Swc1 := Sw.cell 1
  have Swc2 := Sw.cell 2
  have Skc0 := Sk.cell 0
  have Skc1 := Sk.cell 1
  have Skc2 := Sk.cell 2
  have Sgc0 := Sg.cell 0
  have Sgc1 := Sg.cell 1
  have Sgc2 := Sg.cell 2
  simp at B0c0 B0c1 B0c2 B1c0 B1c1 B1c2 Swc0 Swc1 Swc2 Skc0 Skc1 Skc2 Sgc0 Sgc1 Sgc2
  go_wp2_with fail
  refine (heldIntS_any Agl cgl _ (1) _ (own_rd Ogl) (by omega) (by omega) (by omega)).mono ?_
  rintro e w18 ⟨rfl, rfl⟩
  clear B0c0 B0c1 B0c2 B1c0 B1c1 B1c2 Swc0 Swc1 Swc2 Skc0 Skc1 Skc2 Sgc0 Sgc1 Sgc2
  have B0c0 := B0.cell 0
  have B0c1 := B0.cell 1
  have B0c2 := B0.cell 2
  have B1c0 := B1.cell 0
  have B1c1 := B1.cell 1
  have B1c2 := B1.cell 2
  have Swc0 := Sw.cell 0
  have Swc1 := Sw.cell 1
  have Swc2 := Sw.cell 2
  have Skc0 := Sk.cell 0
  have Skc1 := Sk.cell 1
  have Skc2 := Sk.cell 2
  have Sgc0 := Sg.cell 0
  have Sgc1 := Sg.cell 1
  have Sgc2 := Sg.cell 2
  simp at B0c0 B0c1 B0c2 B1c0 B1c1 B1c2 Swc0 Swc1 Swc2 Skc0 Skc1 Skc2 Sgc0 Sgc1 Sgc2
  go_wp2_with fail
  refine (heldCombState_any Aga Agb cga cgb _ _ (Y.2.1.phase) (1 + (Y.1).length) _ (own_rd Oga) (own_rd Ogb) (by omega) (by omega) (by omega) (by omega)).mono ?_
  rintro e w18 ⟨rfl, h18⟩
  replace Owl := own_past Owl h18
  replace Owa := own_past Owa h18
  replace Owb := own_past Owb h18
  replace Oka := own_past Oka h18
  replace Okb := own_past Okb h18
  replace Okl := own_past Okl h18
  replace Ogl := own_past Ogl h18
  replace Oga := own_past Oga h18
  replace Ogb := own_past Ogb h18
  replace Oma := own_past Oma h18
  replace Omb := own_past Omb h18
  replace Oml := own_past Oml h18
  replace B0 := B0.past h18
  replace B1 := B1.past h18
  replace Sw := Sw.past h18
  replace Sk := Sk.past h18
  replace Sg := Sg.past h18
  replace Hb := Lib.hid (thenB Hb.out h18)
  have t28 : w17.heap.size ≤ w18.heap.size := h18.size
  clear h18
  have bx : Below w18.heap.size w18 w18.drew := (Below.refl _ _).drew
  replace Owl := own_past Owl bx
  replace Owa := own_past Owa bx
  replace Owb := own_past Owb bx
  replace Oka := own_past Oka bx
  replace Okb := own_past Okb bx
  replace Okl := own_past Okl bx
  replace Ogl := own_past Ogl bx
  replace Oga := own_past Oga bx
  replace Ogb := own_past Ogb bx
  replace Oma := own_past Oma bx
  replace Omb := own_past Omb bx
  replace Oml := own_past Oml bx
  replace B0 := B0.past bx
  replace B1 := B1.past bx
  replace Sw := Sw.past bx
  replace Sk := Sk.past bx
  replace Sg := Sg.past bx
  replace Hb := Lib.hid (thenB Hb.out bx)
  clear bx
  have t29 : w18.heap.size ≤ w18.drew.heap.size := Nat.le_refl _
  clear B0c0 B0c1 B0c2 B1c0 B1c1 B1c2 Swc0 Swc1 Swc2 Skc0 Skc1 Skc2 Sgc0 Sgc1 Sgc2
  have B0c0 := B0.cell 0
  have B0c1 := B0.cell 1
  have B0c2 := B0.cell 2
  have B1c0 := B1.cell 0
  have B1c1 := B1.cell 1
  have B1c2 := B1.cell 2
  have Swc0 := Sw.cell 0
  have Swc1 := Sw.cell 1
  have Swc2 := Sw.cell 2
  have Skc0 := Sk.cell 0
  have Skc1 := Sk.cell 1
  have Skc2 := Sk.cell 2
  have Sgc0 := Sg.cell 0
  have Sgc1 := Sg.cell 1
  have Sgc2 := Sg.cell 2
  simp at B0c0 B0c1 B0c2 B1c0 B1c1 B1c2 Swc0 Swc1 Swc2 Skc0 Skc1 Skc2 Sgc0 Sgc1 Sgc2
  go_upto_region 34 with fail
  go_cut [19, 20, 21] from 123 to 133 (fun u0 u1 u2 wx => ∃ g Al cl Aa ca Ab cb, u0 = .slice Al Y.1.length cl ∧ u1 = .pointer (some ⟨g, 0, none⟩) ∧ u2 = .bool Y.2.2 ∧ Hid (MetRC (w18.drew) g Y.1 Y.2.1.sums Y.2.1.delays Y.2.1.phase Al cl Aa ca Ab cb wx))
  case first =>
    have HW : Hid (Below (w18.drew).heap.size (w18.drew) (w18.drew)) := Below.refl _ _
    go_region_held3 (fun w' => w'.cell? ⟨w.heap.size, 0, none⟩ = some (.int .i64 a0) ∧ w'.cell? ⟨w.heap.size, 1, none⟩ = some (.int .i64 b0) ∧ w'.cell? ⟨w.heap.size, 2, none⟩ = some (.int .i64 c0) ∧ w'.cell? ⟨w.heap.size + 1, 0, none⟩ = some (.slice A1 x1.length c1) ∧ w'.cell? ⟨w.heap.size + 1, 1, none⟩ = some (.slice D1 y1.length d1) ∧ w'.cell? ⟨w.heap.size + 1, 2, none⟩ = some (.int .i64 p1)) (first | go_keep)
      (first
        | (go_at_call 32; first | (replace SX := SX; clear B0c0 B0c1 B0c2 B1c0 B1c1 B1c2 Swc0 Swc1 Swc2 Skc0 Skc1 Skc2 Sgc0 Sgc1 Sgc2; have B0c0 := B0.cell 0; have B0c1 := B0.cell 1; have B0c2 := B0.cell 2; have B1c0 := B1.cell 0; have B1c1 := B1.cell 1; have B1c2 := B1.cell 2; have Swc0 := Sw.cell 0; have Swc1 := Sw.cell 1; have Swc2 := Sw.cell 2; have Skc0 := Sk.cell 0; have Skc1 := Sk.cell 1; have Skc2 := Sk.cell 2; have Sgc0 := Sg.cell 0; have Sgc1 := Sg.cell 1; have Sgc2 := Sg.cell 2; have SXc0 := SX.cell 0; have SXc1 := SX.cell 1; have SXc2 := SX.cell 2; simp at B0c0 B0c1 B0c2 B1c0 B1c1 B1c2 Swc0 Swc1 Swc2 Skc0 Skc1 Skc2 Sgc0 Sgc1 Sgc2 SXc0 SXc1 SXc2; refine (toComb_any a0 b0 c0 _).mono ?_; rintro e w19 ⟨rfl, h19⟩; replace Owl := own_past Owl h19; replace Owa := own_past Owa h19; replace Owb := own_past Owb h19; replace Oka := own_past Oka h19; replace Okb := own_past Okb h19; replace Okl := own_past Okl h19; replace Ogl := own_past Ogl h19; replace Oga := own_past Oga h19; replace Ogb := own_past Ogb h19; replace Oma := own_past Oma h19; replace Omb := own_past Omb h19; replace Oml := own_past Oml h19; replace B0 := B0.past h19; replace B1 := B1.past h19; replace Sw := Sw.past h19; replace Sk := Sk.past h19; replace Sg := Sg.past h19; replace SX := SX.past h19; replace Hb := Lib.hid (thenB Hb.out h19); replace HW := Lib.hid (thenB HW.out h19); have t30 : w18.drew.heap.size ≤ w19.heap.size := h19.size; clear h19; clear B0c0 B0c1 B0c2 B1c0 B1c1 B1c2 Swc0 Swc1 Swc2 Skc0 Skc1 Skc2 Sgc0 Sgc1 Sgc2 SXc0 SXc1 SXc2; have B0c0 := B0.cell 0; have B0c1 := B0.cell 1; have B0c2 := B0.cell 2; have B1c0 := B1.cell 0; have B1c1 := B1.cell 1; have B1c2 := B1.cell 2; have Swc0 := Sw.cell 0; have Swc1 := Sw.cell 1; have Swc2 := Sw.cell 2; have Skc0 := Sk.cell 0; have Skc1 := Sk.cell 1; have Skc2 := Sk.cell 2; have Sgc0 := Sg.cell 0; have Sgc1 := Sg.cell 1; have Sgc2 := Sg.cell 2; have SXc0 := SX.cell 0; have SXc1 := SX.cell 1; have SXc2 := SX.cell 2; simp at B0c0 B0c1 B0c2 B1c0 B1c1 B1c2 Swc0 Swc1 Swc2 Skc0 Skc1 Skc2 Sgc0 Sgc1 Sgc2 SXc0 SXc1 SXc2) | (clear B0c0 B0c1 B0c2 B1c0 B1c1 B1c2 Swc0 Swc1 Swc2 Skc0 Skc1 Skc2 Sgc0 Sgc1 Sgc2; have B0c0 := B0.cell 0; have B0c1 := B0.cell 1; have B0c2 := B0.cell 2; have B1c0 := B1.cell 0; have B1c1 := B1.cell 1; have B1c2 := B1.cell 2; have Swc0 := Sw.cell 0; have Swc1 := Sw.cell 1; have Swc2 := Sw.cell 2; have Skc0 := Sk.cell 0; have Skc1 := Sk.cell 1; have Skc2 := Sk.cell 2; have Sgc0 := Sg.cell 0; have Sgc1 := Sg.cell 1; have Sgc2 := Sg.cell 2; simp at B0c0 B0c1 B0c2 B1c0 B1c1 B1c2 Swc0 Swc1 Swc2 Skc0 Skc1 Skc2 Sgc0 Sgc1 Sgc2; refine (toComb_any a0 b0 c0 _).mono ?_; rintro e w19 ⟨rfl, h19⟩; replace Owl := own_past Owl h19; replace Owa := own_past Owa h19; replace Owb := own_past Owb h19; replace Oka := own_past Oka h19; replace Okb := own_past Okb h19; replace Okl := own_past Okl h19; replace Ogl := own_past Ogl h19; replace Oga := own_past Oga h19; replace Ogb := own_past Ogb h19; replace Oma := own_past Oma h19; replace Omb := own_past Omb h19; replace Oml := own_past Oml h19; replace B0 := B0.past h19; replace B1 := B1.past h19; replace Sw := Sw.past h19; replace Sk := Sk.past h19; replace Sg := Sg.past h19; replace Hb := Lib.hid (thenB Hb.out h19); replace HW := Lib.hid (thenB HW.out h19); have t30 : w18.drew.heap.size ≤ w19.heap.size := h19.size; clear h19; clear B0c0 B0c1 B0c2 B1c0 B1c1 B1c2 Swc0 Swc1 Swc2 Skc0 Skc1 Skc2 Sgc0 Sgc1 Sgc2; have B0c0 := B0.cell 0; have B0c1 := B0.cell 1; have B0c2 := B0.cell 2; have B1c0 := B1.cell 0; have B1c1 := B1.cell 1; have B1c2 := B1.cell 2; have Swc0 := Sw.cell 0; have Swc1 := Sw.cell 1; have Swc2 := Sw.cell 2; have Skc0 := Sk.cell 0; have Skc1 := Sk.cell 1; have Skc2 := Sk.cell 2; have Sgc0 := Sg.cell 0; have Sgc1 := Sg.cell 1; have Sgc2 := Sg.cell 2; simp at B0c0 B0c1 B0c2 B1c0 B1c1 B1c2 Swc0 Swc1 Swc2 Skc0 Skc1 Skc2 Sgc0 Sgc1 Sgc2) | (have bx : Below w18.drew.heap.size w18.drew (w18.drew.alloc (.cells #[.slice none 0 0, .slice none 0 0, .int .i64 0] 35)) := (Below.refl _ _).alloc (Nat.le_refl _) _; have SX := Blk.new w18.drew 35 #[.slice none 0 0, .slice none 0 0, .int .i64 0]; have VSX : w18.drew.heap.size < (w18.drew.alloc (.cells #[.slice none 0 0, .slice none 0 0, .int .i64 0] 35)).heap.size := (by simp); replace Owl := own_past Owl bx; replace Owa := own_past Owa bx; replace Owb := own_past Owb bx; replace Oka := own_past Oka bx; replace Okb := own_past Okb bx; replace Okl := own_past Okl bx; replace Ogl := own_past Ogl bx; replace Oga := own_past Oga bx; replace Ogb := own_past Ogb bx; replace Oma := own_past Oma bx; replace Omb := own_past Omb bx; replace Oml := own_past Oml bx; replace B0 := B0.past bx; replace B1 := B1.past bx; replace Sw := Sw.past bx; replace Sk := Sk.past bx; replace Sg := Sg.past bx; replace Hb := Lib.hid (thenB Hb.out bx); replace HW := Lib.hid (thenB HW.out bx); clear bx; replace SX : Blk ((w18.drew.alloc (.cells #[.slice none 0 0, .slice none 0 0, .int .i64 0] 35))) w18.heap.size 35 #[.slice none 0 0, .slice none 0 0, .int .i64 0] := SX; have GX : (w18.drew).heap.size ≤ w18.heap.size := (by first | omega | exact Nat.le_refl _); have nzx0 : ¬ (w.heap.size = w18.heap.size) := (by omega); have nzy0 : ¬ (w18.heap.size = w.heap.size) := (by omega); have nzx1 : ¬ (w.heap.size + 1 = w18.heap.size) := (by omega); have nzy1 : ¬ (w18.heap.size = w.heap.size + 1) := (by omega); clear B0c0 B0c1 B0c2 B1c0 B1c1 B1c2 Swc0 Swc1 Swc2 Skc0 Skc1 Skc2 Sgc0 Sgc1 Sgc2; have B0c0 := B0.cell 0; have B0c1 := B0.cell 1; have B0c2 := B0.cell 2; have B1c0 := B1.cell 0; have B1c1 := B1.cell 1; have B1c2 := B1.cell 2; have Swc0 := Sw.cell 0; have Swc1 := Sw.cell 1; have Swc2 := Sw.cell 2; have Skc0 := Sk.cell 0; have Skc1 := Sk.cell 1; have Skc2 := Sk.cell 2; have Sgc0 := Sg.cell 0; have Sgc1 := Sg.cell 1; have Sgc2 := Sg.cell 2; have SXc0 := SX.cell 0; have SXc1 := SX.cell 1; have SXc2 := SX.cell 2; simp at B0c0 B0c1 B0c2 B1c0 B1c1 B1c2 Swc0 Swc1 Swc2 Skc0 Skc1 Skc2 Sgc0 Sgc1 Sgc2 SXc0 SXc1 SXc2; refine (toComb_any a0 b0 c0 _).mono ?_; rintro e w19 ⟨rfl, h19⟩; replace Owl := own_past Owl h19; replace Owa := own_past Owa h19; replace Owb := own_past Owb h19; replace Oka := own_past Oka h19; replace Okb := own_past Okb h19; replace Okl := own_past Okl h19; replace Ogl := own_past Ogl h19; replace Oga := own_past Oga h19; replace Ogb := own_past Ogb h19; replace Oma := own_past Oma h19; replace Omb := own_past Omb h19; replace Oml := own_past Oml h19; replace B0 := B0.past h19; replace B1 := B1.past h19; replace Sw := Sw.past h19; replace Sk := Sk.past h19; replace Sg := Sg.past h19; replace SX := SX.past h19; replace Hb := Lib.hid (thenB Hb.out h19); replace HW := Lib.hid (thenB HW.out h19); have t30 : (w18.drew.alloc (.cells #[.slice none 0 0, .slice none 0 0, .int .i64 0] 35)).heap.size ≤ w19.heap.size := h19.size; clear h19; clear B0c0 B0c1 B0c2 B1c0 B1c1 B1c2 Swc0 Swc1 Swc2 Skc0 Skc1 Skc2 Sgc0 Sgc1 Sgc2 SXc0 SXc1 SXc2; have B0c0 := B0.cell 0; have B0c1 := B0.cell 1; have B0c2 := B0.cell 2; have B1c0 := B1.cell 0; have B1c1 := B1.cell 1; have B1c2 := B1.cell 2; have Swc0 := Sw.cell 0; have Swc1 := Sw.cell 1; have Swc2 := Sw.cell 2; have Skc0 := Sk.cell 0; have Skc1 := Sk.cell 1; have Skc2 := Sk.cell 2; have Sgc0 := Sg.cell 0; have Sgc1 := Sg.cell 1; have Sgc2 := Sg.cell 2; have SXc0 := SX.cell 0; have SXc1 := SX.cell 1; have SXc2 := SX.cell 2; simp at B0c0 B0c1 B0c2 B1c0 B1c1 B1c2 Swc0 Swc1 Swc2 Skc0 Skc1 Skc2 Sgc0 Sgc1 Sgc2 SXc0 SXc1 SXc2))
        | (go_at_call 33; first | (replace SX := SX; clear B0c0 B0c1 B0c2 B1c0 B1c1 B1c2 Swc0 Swc1 Swc2 Skc0 Skc1 Skc2 Sgc0 Sgc1 Sgc2; have B0c0 := B0.cell 0; have B0c1 := B0.cell 1; have B0c2 := B0.cell 2; have B1c0 := B1.cell 0; have B1c1 := B1.cell 1; have B1c2 := B1.cell 2; have Swc0 := Sw.cell 0; have Swc1 := Sw.cell 1; have Swc2 := Sw.cell 2; have Skc0 := Sk.cell 0; have Skc1 := Sk.cell 1; have Skc2 := Sk.cell 2; have Sgc0 := Sg.cell 0; have Sgc1 := Sg.cell 1; have Sgc2 := Sg.cell 2; have SXc0 := SX.cell 0; have SXc1 := SX.cell 1; have SXc2 := SX.cell 2; simp at B0c0 B0c1 B0c2 B1c0 B1c1 B1c2 Swc0 Swc1 Swc2 Skc0 Skc1 Skc2 Sgc0 Sgc1 Sgc2 SXc0 SXc1 SXc2; refine (toCombState_any A1 c1 x1 D1 d1 y1 p1 _ (rx1.past Hb.out) (ry1.past Hb.out) nx1 ny1).mono ?_; rintro e w20 ⟨Ana, cna, Anb, cnb, rfl, Ona, Onb, Pn, h20⟩; replace Owl := own_past Owl h20; replace Owa := own_past Owa h20; replace Owb := own_past Owb h20; replace Oka := own_past Oka h20; replace Okb := own_past Okb h20; replace Okl := own_past Okl h20; replace Ogl := own_past Ogl h20; replace Oga := own_past Oga h20; replace Ogb := own_past Ogb h20; replace Oma := own_past Oma h20; replace Omb := own_past Omb h20; replace Oml := own_past Oml h20; replace B0 := B0.past h20; replace B1 := B1.past h20; replace Sw := Sw.past h20; replace Sk := Sk.past h20; replace Sg := Sg.past h20; replace SX := SX.past h20; replace Hb := Lib.hid (thenB Hb.out h20); replace HW := Lib.hid (thenB HW.out h20); have t31 : w19.heap.size ≤ w20.heap.size := h20.size; have Lna := own_lo Ona; have Una := own_hi Ona; have Lnb := own_lo Onb; have Unb := own_hi Onb; clear h20; clear B0c0 B0c1 B0c2 B1c0 B1c1 B1c2 Swc0 Swc1 Swc2 Skc0 Skc1 Skc2 Sgc0 Sgc1 Sgc2 SXc0 SXc1 SXc2; have B0c0 := B0.cell 0; have B0c1 := B0.cell 1; have B0c2 := B0.cell 2; have B1c0 := B1.cell 0; have B1c1 := B1.cell 1; have B1c2 := B1.cell 2; have Swc0 := Sw.cell 0; have Swc1 := Sw.cell 1; have Swc2 := Sw.cell 2; have Skc0 := Sk.cell 0; have Skc1 := Sk.cell 1; have Skc2 := Sk.cell 2; have Sgc0 := Sg.cell 0; have Sgc1 := Sg.cell 1; have Sgc2 := Sg.cell 2; have SXc0 := SX.cell 0; have SXc1 := SX.cell 1; have SXc2 := SX.cell 2; simp at B0c0 B0c1 B0c2 B1c0 B1c1 B1c2 Swc0 Swc1 Swc2 Skc0 Skc1 Skc2 Sgc0 Sgc1 Sgc2 SXc0 SXc1 SXc2) | (clear B0c0 B0c1 B0c2 B1c0 B1c1 B1c2 Swc0 Swc1 Swc2 Skc0 Skc1 Skc2 Sgc0 Sgc1 Sgc2; have B0c0 := B0.cell 0; have B0c1 := B0.cell 1; have B0c2 := B0.cell 2; have B1c0 := B1.cell 0; have B1c1 := B1.cell 1; have B1c2 := B1.cell 2; have Swc0 := Sw.cell 0; have Swc1 := Sw.cell 1; have Swc2 := Sw.cell 2; have Skc0 := Sk.cell 0; have Skc1 := Sk.cell 1; have Skc2 := Sk.cell 2; have Sgc0 := Sg.cell 0; have Sgc1 := Sg.cell 1; have Sgc2 := Sg.cell 2; simp at B0c0 B0c1 B0c2 B1c0 B1c1 B1c2 Swc0 Swc1 Swc2 Skc0 Skc1 Skc2 Sgc0 Sgc1 Sgc2; refine (toCombState_any A1 c1 x1 D1 d1 y1 p1 _ (rx1.past Hb.out) (ry1.past Hb.out) nx1 ny1).mono ?_; rintro e w20 ⟨Ana, cna, Anb, cnb, rfl, Ona, Onb, Pn, h20⟩; replace Owl := own_past Owl h20; replace Owa := own_past Owa h20; replace Owb := own_past Owb h20; replace Oka := own_past Oka h20; replace Okb := own_past Okb h20; replace Okl := own_past Okl h20; replace Ogl := own_past Ogl h20; replace Oga := own_past Oga h20; replace Ogb := own_past Ogb h20; replace Oma := own_past Oma h20; replace Omb := own_past Omb h20; replace Oml := own_past Oml h20; replace B0 := B0.past h20; replace B1 := B1.past h20; replace Sw := Sw.past h20; replace Sk := Sk.past h20; replace Sg := Sg.past h20; replace Hb := Lib.hid (thenB Hb.out h20); replace HW := Lib.hid (thenB HW.out h20); have t31 : w19.heap.size ≤ w20.heap.size := h20.size; have Lna := own_lo Ona; have Una := own_hi Ona; have Lnb := own_lo Onb; have Unb := own_hi Onb; clear h20; clear B0c0 B0c1 B0c2 B1c0 B1c1 B1c2 Swc0 Swc1 Swc2 Skc0 Skc1 Skc2 Sgc0 Sgc1 Sgc2; have B0c0 := B0.cell 0; have B0c1 := B0.cell 1; have B0c2 := B0.cell 2; have B1c0 := B1.cell 0; have B1c1 := B1.cell 1; have B1c2 := B1.cell 2; have Swc0 := Sw.cell 0; have Swc1 := Sw.cell 1; have Swc2 := Sw.cell 2; have Skc0 := Sk.cell 0; have Skc1 := Sk.cell 1; have Skc2 := Sk.cell 2; have Sgc0 := Sg.cell 0; have Sgc1 := Sg.cell 1; have Sgc2 := Sg.cell 2; simp at B0c0 B0c1 B0c2 B1c0 B1c1 B1c2 Swc0 Swc1 Swc2 Skc0 Skc1 Skc2 Sgc0 Sgc1 Sgc2) | (have bx : Below w19.heap.size w19 (w19.alloc (.cells #[.slice none 0 0, .slice none 0 0, .int .i64 0] 35)) := (Below.refl _ _).alloc (Nat.le_refl _) _; have SX := Blk.new w19 35 #[.slice none 0 0, .slice none 0 0, .int .i64 0]; have VSX : w19.heap.size < (w19.alloc (.cells #[.slice none 0 0, .slice none 0 0, .int .i64 0] 35)).heap.size := (by simp); replace Owl := own_past Owl bx; replace Owa := own_past Owa bx; replace Owb := own_past Owb bx; replace Oka := own_past Oka bx; replace Okb := own_past Okb bx; replace Okl := own_past Okl bx; replace Ogl := own_past Ogl bx; replace Oga := own_past Oga bx; replace Ogb := own_past Ogb bx; replace Oma := own_past Oma bx; replace Omb := own_past Omb bx; replace Oml := own_past Oml bx; replace B0 := B0.past bx; replace B1 := B1.past bx; replace Sw := Sw.past bx; replace Sk := Sk.past bx; replace Sg := Sg.past bx; replace Hb := Lib.hid (thenB Hb.out bx); replace HW := Lib.hid (thenB HW.out bx); clear bx; have GX : (w18.drew).heap.size ≤ w19.heap.size := (by first | omega | exact Nat.le_refl _); have nzx0 : ¬ (w.heap.size = w19.heap.size) := (by omega); have nzy0 : ¬ (w19.heap.size = w.heap.size) := (by omega); have nzx1 : ¬ (w.heap.size + 1 = w19.heap.size) := (by omega); have nzy1 : ¬ (w19.heap.size = w.heap.size + 1) := (by omega); clear B0c0 B0c1 B0c2 B1c0 B1c1 B1c2 Swc0 Swc1 Swc2 Skc0 Skc1 Skc2 Sgc0 Sgc1 Sgc2; have B0c0 := B0.cell 0; have B0c1 := B0.cell 1; have B0c2 := B0.cell 2; have B1c0 := B1.cell 0; have B1c1 := B1.cell 1; have B1c2 := B1.cell 2; have Swc0 := Sw.cell 0; have Swc1 := Sw.cell 1; have Swc2 := Sw.cell 2; have Skc0 := Sk.cell 0; have Skc1 := Sk.cell 1; have Skc2 := Sk.cell 2; have Sgc0 := Sg.cell 0; have Sgc1 := Sg.cell 1; have Sgc2 := Sg.cell 2; have SXc0 := SX.cell 0; have SXc1 := SX.cell 1; have SXc2 := SX.cell 2; simp at B0c0 B0c1 B0c2 B1c0 B1c1 B1c2 Swc0 Swc1 Swc2 Skc0 Skc1 Skc2 Sgc0 Sgc1 Sgc2 SXc0 SXc1 SXc2; refine (toCombState_any A1 c1 x1 D1 d1 y1 p1 _ (rx1.past Hb.out) (ry1.past Hb.out) nx1 ny1).mono ?_; rintro e w20 ⟨Ana, cna, Anb, cnb, rfl, Ona, Onb, Pn, h20⟩; replace Owl := own_past Owl h20; replace Owa := own_past Owa h20; replace Owb := own_past Owb h20; replace Oka := own_past Oka h20; replace Okb := own_past Okb h20; replace Okl := own_past Okl h20; replace Ogl := own_past Ogl h20; replace Oga := own_past Oga h20; replace Ogb := own_past Ogb h20; replace Oma := own_past Oma h20; replace Omb := own_past Omb h20; replace Oml := own_past Oml h20; replace B0 := B0.past h20; replace B1 := B1.past h20; replace Sw := Sw.past h20; replace Sk := Sk.past h20; replace Sg := Sg.past h20; replace SX := SX.past h20; replace Hb := Lib.hid (thenB Hb.out h20); replace HW := Lib.hid (thenB HW.out h20); have t31 : (w19.alloc (.cells #[.slice none 0 0, .slice none 0 0, .int .i64 0] 35)).heap.size ≤ w20.heap.size := h20.size; have Lna := own_lo Ona; have Una := own_hi Ona; have Lnb := own_lo Onb; have Unb := own_hi Onb; clear h20; clear B0c0 B0c1 B0c2 B1c0 B1c1 B1c2 Swc0 Swc1 Swc2 Skc0 Skc1 Skc2 Sgc0 Sgc1 Sgc2 SXc0 SXc1 SXc2; have B0c0 := B0.cell 0; have B0c1 := B0.cell 1; have B0c2 := B0.cell 2; have B1c0 := B1.cell 0; have B1c1 := B1.cell 1; have B1c2 := B1.cell 2; have Swc0 := Sw.cell 0; have Swc1 := Sw.cell 1; have Swc2 := Sw.cell 2; have Skc0 := Sk.cell 0; have Skc1 := Sk.cell 1; have Skc2 := Sk.cell 2; have Sgc0 := Sg.cell 0; have Sgc1 := Sg.cell 1; have Sgc2 := Sg.cell 2; have SXc0 := SX.cell 0; have SXc1 := SX.cell 1; have SXc2 := SX.cell 2; simp at B0c0 B0c1 B0c2 B1c0 B1c1 B1c2 Swc0 Swc1 Swc2 Skc0 Skc1 Skc2 Sgc0 Sgc1 Sgc2 SXc0 SXc1 SXc2))
        | (go_at_call 36; first | (replace SX := SX; clear B0c0 B0c1 B0c2 B1c0 B1c1 B1c2 Swc0 Swc1 Swc2 Skc0 Skc1 Skc2 Sgc0 Sgc1 Sgc2; have B0c0 := B0.cell 0; have B0c1 := B0.cell 1; have B0c2 := B0.cell 2; have B1c0 := B1.cell 0; have B1c1 := B1.cell 1; have B1c2 := B1.cell 2; have Swc0 := Sw.cell 0; have Swc1 := Sw.cell 1; have Swc2 := Sw.cell 2; have Skc0 := Sk.cell 0; have Skc1 := Sk.cell 1; have Skc2 := Sk.cell 2; have Sgc0 := Sg.cell 0; have Sgc1 := Sg.cell 1; have Sgc2 := Sg.cell 2; have SXc0 := SX.cell 0; have SXc1 := SX.cell 1; have SXc2 := SX.cell 2; simp at B0c0 B0c1 B0c2 B1c0 B1c1 B1c2 Swc0 Swc1 Swc2 Skc0 Skc1 Skc2 Sgc0 Sgc1 Sgc2 SXc0 SXc1 SXc2; refine (toIntS_any A2 c2 z2 _ (r2.past Hb.out) n2).mono ?_; rintro e w21 ⟨Anl, cnl, rfl, Onl, h21⟩; replace Owl := own_past Owl h21; replace Owa := own_past Owa h21; replace Owb := own_past Owb h21; replace Oka := own_past Oka h21; replace Okb := own_past Okb h21; replace Okl := own_past Okl h21; replace Ogl := own_past Ogl h21; replace Oga := own_past Oga h21; replace Ogb := own_past Ogb h21; replace Oma := own_past Oma h21; replace Omb := own_past Omb h21; replace Oml := own_past Oml h21; replace Ona := own_past Ona h21; replace Onb := own_past Onb h21; replace B0 := B0.past h21; replace B1 := B1.past h21; replace Sw := Sw.past h21; replace Sk := Sk.past h21; replace Sg := Sg.past h21; replace SX := SX.past h21; replace Hb := Lib.hid (thenB Hb.out h21); replace HW := Lib.hid (thenB HW.out h21); have t32 : w20.heap.size ≤ w21.heap.size := h21.size; have Lnl := own_lo Onl; have Unl := own_hi Onl; clear h21; clear B0c0 B0c1 B0c2 B1c0 B1c1 B1c2 Swc0 Swc1 Swc2 Skc0 Skc1 Skc2 Sgc0 Sgc1 Sgc2 SXc0 SXc1 SXc2; have B0c0 := B0.cell 0; have B0c1 := B0.cell 1; have B0c2 := B0.cell 2; have B1c0 := B1.cell 0; have B1c1 := B1.cell 1; have B1c2 := B1.cell 2; have Swc0 := Sw.cell 0; have Swc1 := Sw.cell 1; have Swc2 := Sw.cell 2; have Skc0 := Sk.cell 0; have Skc1 := Sk.cell 1; have Skc2 := Sk.cell 2; have Sgc0 := Sg.cell 0; have Sgc1 := Sg.cell 1; have Sgc2 := Sg.cell 2; have SXc0 := SX.cell 0; have SXc1 := SX.cell 1; have SXc2 := SX.cell 2; simp at B0c0 B0c1 B0c2 B1c0 B1c1 B1c2 Swc0 Swc1 Swc2 Skc0 Skc1 Skc2 Sgc0 Sgc1 Sgc2 SXc0 SXc1 SXc2) | (clear B0c0 B0c1 B0c2 B1c0 B1c1 B1c2 Swc0 Swc1 Swc2 Skc0 Skc1 Skc2 Sgc0 Sgc1 Sgc2; have B0c0 := B0.cell 0; have B0c1 := B0.cell 1; have B0c2 := B0.cell 2; have B1c0 := B1.cell 0; have B1c1 := B1.cell 1; have B1c2 := B1.cell 2; have Swc0 := Sw.cell 0; have Swc1 := Sw.cell 1; have Swc2 := Sw.cell 2; have Skc0 := Sk.cell 0; have Skc1 := Sk.cell 1; have Skc2 := Sk.cell 2; have Sgc0 := Sg.cell 0; have Sgc1 := Sg.cell 1; have Sgc2 := Sg.cell 2; simp at B0c0 B0c1 B0c2 B1c0 B1c1 B1c2 Swc0 Swc1 Swc2 Skc0 Skc1 Skc2 Sgc0 Sgc1 Sgc2; refine (toIntS_any A2 c2 z2 _ (r2.past Hb.out) n2).mono ?_; rintro e w21 ⟨Anl, cnl, rfl, Onl, h21⟩; replace Owl := own_past Owl h21; replace Owa := own_past Owa h21; replace Owb := own_past Owb h21; replace Oka := own_past Oka h21; replace Okb := own_past Okb h21; replace Okl := own_past Okl h21; replace Ogl := own_past Ogl h21; replace Oga := own_past Oga h21; replace Ogb := own_past Ogb h21; replace Oma := own_past Oma h21; replace Omb := own_past Omb h21; replace Oml := own_past Oml h21; replace Ona := own_past Ona h21; replace Onb := own_past Onb h21; replace B0 := B0.past h21; replace B1 := B1.past h21; replace Sw := Sw.past h21; replace Sk := Sk.past h21; replace Sg := Sg.past h21; replace Hb := Lib.hid (thenB Hb.out h21); replace HW := Lib.hid (thenB HW.out h21); have t32 : w20.heap.size ≤ w21.heap.size := h21.size; have Lnl := own_lo Onl; have Unl := own_hi Onl; clear h21; clear B0c0 B0c1 B0c2 B1c0 B1c1 B1c2 Swc0 Swc1 Swc2 Skc0 Skc1 Skc2 Sgc0 Sgc1 Sgc2; have B0c0 := B0.cell 0; have B0c1 := B0.cell 1; have B0c2 := B0.cell 2; have B1c0 := B1.cell 0; have B1c1 := B1.cell 1; have B1c2 := B1.cell 2; have Swc0 := Sw.cell 0; have Swc1 := Sw.cell 1; have Swc2 := Sw.cell 2; have Skc0 := Sk.cell 0; have Skc1 := Sk.cell 1; have Skc2 := Sk.cell 2; have Sgc0 := Sg.cell 0; have Sgc1 := Sg.cell 1; have Sgc2 := Sg.cell 2; simp at B0c0 B0c1 B0c2 B1c0 B1c1 B1c2 Swc0 Swc1 Swc2 Skc0 Skc1 Skc2 Sgc0 Sgc1 Sgc2) | (have bx : Below w20.heap.size w20 (w20.alloc (.cells #[.slice none 0 0, .slice none 0 0, .int .i64 0] 35)) := (Below.refl _ _).alloc (Nat.le_refl _) _; have SX := Blk.new w20 35 #[.slice none 0 0, .slice none 0 0, .int .i64 0]; have VSX : w20.heap.size < (w20.alloc (.cells #[.slice none 0 0, .slice none 0 0, .int .i64 0] 35)).heap.size := (by simp); replace Owl := own_past Owl bx; replace Owa := own_past Owa bx; replace Owb := own_past Owb bx; replace Oka := own_past Oka bx; replace Okb := own_past Okb bx; replace Okl := own_past Okl bx; replace Ogl := own_past Ogl bx; replace Oga := own_past Oga bx; replace Ogb := own_past Ogb bx; replace Oma := own_past Oma bx; replace Omb := own_past Omb bx; replace Oml := own_past Oml bx; replace Ona := own_past Ona bx; replace Onb := own_past Onb bx; replace B0 := B0.past bx; replace B1 := B1.past bx; replace Sw := Sw.past bx; replace Sk := Sk.past bx; replace Sg := Sg.past bx; replace Hb := Lib.hid (thenB Hb.out bx); replace HW := Lib.hid (thenB HW.out bx); clear bx; have GX : (w18.drew).heap.size ≤ w20.heap.size := (by first | omega | exact Nat.le_refl _); have nzx0 : ¬ (w.heap.size = w20.heap.size) := (by omega); have nzy0 : ¬ (w20.heap.size = w.heap.size) := (by omega); have nzx1 : ¬ (w.heap.size + 1 = w20.heap.size) := (by omega); have nzy1 : ¬ (w20.heap.size = w.heap.size + 1) := (by omega); clear B0c0 B0c1 B0c2 B1c0 B1c1 B1c2 Swc0 Swc1 Swc2 Skc0 Skc1 Skc2 Sgc0 Sgc1 Sgc2; have B0c0 := B0.cell 0; have B0c1 := B0.cell 1; have B0c2 := B0.cell 2; have B1c0 := B1.cell 0; have B1c1 := B1.cell 1; have B1c2 := B1.cell 2; have Swc0 := Sw.cell 0; have Swc1 := Sw.cell 1; have Swc2 := Sw.cell 2; have Skc0 := Sk.cell 0; have Skc1 := Sk.cell 1; have Skc2 := Sk.cell 2; have Sgc0 := Sg.cell 0; have Sgc1 := Sg.cell 1; have Sgc2 := Sg.cell 2; have SXc0 := SX.cell 0; have SXc1 := SX.cell 1; have SXc2 := SX.cell 2; simp at B0c0 B0c1 B0c2 B1c0 B1c1 B1c2 Swc0 Swc1 Swc2 Skc0 Skc1 Skc2 Sgc0 Sgc1 Sgc2 SXc0 SXc1 SXc2; refine (toIntS_any A2 c2 z2 _ (r2.past Hb.out) n2).mono ?_; rintro e w21 ⟨Anl, cnl, rfl, Onl, h21⟩; replace Owl := own_past Owl h21; replace Owa := own_past Owa h21; replace Owb := own_past Owb h21; replace Oka := own_past Oka h21; replace Okb := own_past Okb h21; replace Okl := own_past Okl h21; replace Ogl := own_past Ogl h21; replace Oga := own_past Oga h21; replace Ogb := own_past Ogb h21; replace Oma := own_past Oma h21; replace Omb := own_past Omb h21; replace Oml := own_past Oml h21; replace Ona := own_past Ona h21; replace Onb := own_past Onb h21; replace B0 := B0.past h21; replace B1 := B1.past h21; replace Sw := Sw.past h21; replace Sk := Sk.past h21; replace Sg := Sg.past h21; replace SX := SX.past h21; replace Hb := Lib.hid (thenB Hb.out h21); replace HW := Lib.hid (thenB HW.out h21); have t32 : (w20.alloc (.cells #[.slice none 0 0, .slice none 0 0, .int .i64 0] 35)).heap.size ≤ w21.heap.size := h21.size; have Lnl := own_lo Onl; have Unl := own_hi Onl; clear h21; clear B0c0 B0c1 B0c2 B1c0 B1c1 B1c2 Swc0 Swc1 Swc2 Skc0 Skc1 Skc2 Sgc0 Sgc1 Sgc2 SXc0 SXc1 SXc2; have B0c0 := B0.cell 0; have B0c1 := B0.cell 1; have B0c2 := B0.cell 2; have B1c0 := B1.cell 0; have B1c1 := B1.cell 1; have B1c2 := B1.cell 2; have Swc0 := Sw.cell 0; have Swc1 := Sw.cell 1; have Swc2 := Sw.cell 2; have Skc0 := Sk.cell 0; have Skc1 := Sk.cell 1; have Skc2 := Sk.cell 2; have Sgc0 := Sg.cell 0; have Sgc1 := Sg.cell 1; have Sgc2 := Sg.cell 2; have SXc0 := SX.cell 0; have SXc1 := SX.cell 1; have SXc2 := SX.cell 2; simp at B0c0 B0c1 B0c2 B1c0 B1c1 B1c2 Swc0 Swc1 Swc2 Skc0 Skc1 Skc2 Sgc0 Sgc1 Sgc2 SXc0 SXc1 SXc2))
        | (go_at_call 19; first | (replace SX := SX; have XL := SX.lt; clear B0c0 B0c1 B0c2 B1c0 B1c1 B1c2 Swc0 Swc1 Swc2 Skc0 Skc1 Skc2 Sgc0 Sgc1 Sgc2; have B0c0 := B0.cell 0; have B0c1 := B0.cell 1; have B0c2 := B0.cell 2; have B1c0 := B1.cell 0; have B1c1 := B1.cell 1; have B1c2 := B1.cell 2; have Swc0 := Sw.cell 0; have Swc1 := Sw.cell 1; have Swc2 := Sw.cell 2; have Skc0 := Sk.cell 0; have Skc1 := Sk.cell 1; have Skc2 := Sk.cell 2; have Sgc0 := Sg.cell 0; have Sgc1 := Sg.cell 1; have Sgc2 := Sg.cell 2; have SXc0 := SX.cell 0; have SXc1 := SX.cell 1; have SXc2 := SX.cell 2; simp at B0c0 B0c1 B0c2 B1c0 B1c1 B1c2 Swc0 Swc1 Swc2 Skc0 Skc1 Skc2 Sgc0 Sgc1 Sgc2 SXc0 SXc1 SXc2; refine (HG.out _ Ana cna Anb cnb Anl cnl (own_rd Ona) (own_rd Onb) (own_rd Onl)).mono ?_; rintro e w22 ⟨Azl, czl, Aza, cza, Azb, czb, rfl, Ozl, Oza, Ozb, Pzla, Pzlb, Pz, h22⟩; replace Owl := own_past Owl h22; replace Owa := own_past Owa h22; replace Owb := own_past Owb h22; replace Oka := own_past Oka h22; replace Okb := own_past Okb h22; replace Okl := own_past Okl h22; replace Ogl := own_past Ogl h22; replace Oga := own_past Oga h22; replace Ogb := own_past Ogb h22; replace Oma := own_past Oma h22; replace Omb := own_past Omb h22; replace Oml := own_past Oml h22; replace Ona := own_past Ona h22; replace Onb := own_past Onb h22; replace Onl := own_past Onl h22; replace B0 := B0.past h22; replace B1 := B1.past h22; replace Sw := Sw.past h22; replace Sk := Sk.past h22; replace Sg := Sg.past h22; replace SX := SX.past h22; replace Hb := Lib.hid (thenB Hb.out h22); replace HW := Lib.hid (thenB HW.out h22); have t33 : w21.heap.size ≤ w22.heap.size := h22.size; have Lzl := own_lo Ozl; have Uzl := own_hi Ozl; have Lza := own_lo Oza; have Uza := own_hi Oza; have Lzb := own_lo Ozb; have Uzb := own_hi Ozb; clear h22; clear B0c0 B0c1 B0c2 B1c0 B1c1 B1c2 Swc0 Swc1 Swc2 Skc0 Skc1 Skc2 Sgc0 Sgc1 Sgc2 SXc0 SXc1 SXc2; have B0c0 := B0.cell 0; have B0c1 := B0.cell 1; have B0c2 := B0.cell 2; have B1c0 := B1.cell 0; have B1c1 := B1.cell 1; have B1c2 := B1.cell 2; have Swc0 := Sw.cell 0; have Swc1 := Sw.cell 1; have Swc2 := Sw.cell 2; have Skc0 := Sk.cell 0; have Skc1 := Sk.cell 1; have Skc2 := Sk.cell 2; have Sgc0 := Sg.cell 0; have Sgc1 := Sg.cell 1; have Sgc2 := Sg.cell 2; have SXc0 := SX.cell 0; have SXc1 := SX.cell 1; have SXc2 := SX.cell 2; simp at B0c0 B0c1 B0c2 B1c0 B1c1 B1c2 Swc0 Swc1 Swc2 Skc0 Skc1 Skc2 Sgc0 Sgc1 Sgc2 SXc0 SXc1 SXc2; have SXf0 := SX.frozen 0; have SXf1 := SX.frozen 1; have SXf2 := SX.frozen 2; have M := Lib.hid (metrc_before (p := Y.2.1.phase) HW.out GX XL (by rfl) SX Ozl Oza Ozb Pzla Pzlb Pz)) | (clear B0c0 B0c1 B0c2 B1c0 B1c1 B1c2 Swc0 Swc1 Swc2 Skc0 Skc1 Skc2 Sgc0 Sgc1 Sgc2; have B0c0 := B0.cell 0; have B0c1 := B0.cell 1; have B0c2 := B0.cell 2; have B1c0 := B1.cell 0; have B1c1 := B1.cell 1; have B1c2 := B1.cell 2; have Swc0 := Sw.cell 0; have Swc1 := Sw.cell 1; have Swc2 := Sw.cell 2; have Skc0 := Sk.cell 0; have Skc1 := Sk.cell 1; have Skc2 := Sk.cell 2; have Sgc0 := Sg.cell 0; have Sgc1 := Sg.cell 1; have Sgc2 := Sg.cell 2; simp at B0c0 B0c1 B0c2 B1c0 B1c1 B1c2 Swc0 Swc1 Swc2 Skc0 Skc1 Skc2 Sgc0 Sgc1 Sgc2; refine (HG.out _ Ana cna Anb cnb Anl cnl (own_rd Ona) (own_rd Onb) (own_rd Onl)).mono ?_; rintro e w22 ⟨Azl, czl, Aza, cza, Azb, czb, rfl, Ozl, Oza, Ozb, Pzla, Pzlb, Pz, h22⟩; replace Owl := own_past Owl h22; replace Owa := own_past Owa h22; replace Owb := own_past Owb h22; replace Oka := own_past Oka h22; replace Okb := own_past Okb h22; replace Okl := own_past Okl h22; replace Ogl := own_past Ogl h22; replace Oga := own_past Oga h22; replace Ogb := own_past Ogb h22; replace Oma := own_past Oma h22; replace Omb := own_past Omb h22; replace Oml := own_past Oml h22; replace Ona := own_past Ona h22; replace Onb := own_past Onb h22; replace Onl := own_past Onl h22; replace B0 := B0.past h22; replace B1 := B1.past h22; replace Sw := Sw.past h22; replace Sk := Sk.past h22; replace Sg := Sg.past h22; replace Hb := Lib.hid (thenB Hb.out h22); replace HW := Lib.hid (thenB HW.out h22); have t33 : w21.heap.size ≤ w22.heap.size := h22.size; have Lzl := own_lo Ozl; have Uzl := own_hi Ozl; have Lza := own_lo Oza; have Uza := own_hi Oza; have Lzb := own_lo Ozb; have Uzb := own_hi Ozb; clear h22; clear B0c0 B0c1 B0c2 B1c0 B1c1 B1c2 Swc0 Swc1 Swc2 Skc0 Skc1 Skc2 Sgc0 Sgc1 Sgc2; have B0c0 := B0.cell 0; have B0c1 := B0.cell 1; have B0c2 := B0.cell 2; have B1c0 := B1.cell 0; have B1c1 := B1.cell 1; have B1c2 := B1.cell 2; have Swc0 := Sw.cell 0; have Swc1 := Sw.cell 1; have Swc2 := Sw.cell 2; have Skc0 := Sk.cell 0; have Skc1 := Sk.cell 1; have Skc2 := Sk.cell 2; have Sgc0 := Sg.cell 0; have Sgc1 := Sg.cell 1; have Sgc2 := Sg.cell 2; simp at B0c0 B0c1 B0c2 B1c0 B1c1 B1c2 Swc0 Swc1 Swc2 Skc0 Skc1 Skc2 Sgc0 Sgc1 Sgc2; have M := Lib.hid (metrc_after (p := Y.2.1.phase) HW.out (by omega) Ozl Oza Ozb Pzla Pzlb Pz)) | (have bx : Below w21.heap.size w21 (w21.alloc (.cells #[.slice none 0 0, .slice none 0 0, .int .i64 0] 35)) := (Below.refl _ _).alloc (Nat.le_refl _) _; have SX := Blk.new w21 35 #[.slice none 0 0, .slice none 0 0, .int .i64 0]; have VSX : w21.heap.size < (w21.alloc (.cells #[.slice none 0 0, .slice none 0 0, .int .i64 0] 35)).heap.size := (by simp); replace Owl := own_past Owl bx; replace Owa := own_past Owa bx; replace Owb := own_past Owb bx; replace Oka := own_past Oka bx; replace Okb := own_past Okb bx; replace Okl := own_past Okl bx; replace Ogl := own_past Ogl bx; replace Oga := own_past Oga bx; replace Ogb := own_past Ogb bx; replace Oma := own_past Oma bx; replace Omb := own_past Omb bx; replace Oml := own_past Oml bx; replace Ona := own_past Ona bx; replace Onb := own_past Onb bx; replace Onl := own_past Onl bx; replace B0 := B0.past bx; replace B1 := B1.past bx; replace Sw := Sw.past bx; replace Sk := Sk.past bx; replace Sg := Sg.past bx; replace Hb := Lib.hid (thenB Hb.out bx); replace HW := Lib.hid (thenB HW.out bx); clear bx; have GX : (w18.drew).heap.size ≤ w21.heap.size := (by first | omega | exact Nat.le_refl _); have nzx0 : ¬ (w.heap.size = w21.heap.size) := (by omega); have nzy0 : ¬ (w21.heap.size = w.heap.size) := (by omega); have nzx1 : ¬ (w.heap.size + 1 = w21.heap.size) := (by omega); have nzy1 : ¬ (w21.heap.size = w.heap.size + 1) := (by omega); have XL := SX.lt; clear B0c0 B0c1 B0c2 B1c0 B1c1 B1c2 Swc0 Swc1 Swc2 Skc0 Skc1 Skc2 Sgc0 Sgc1 Sgc2; have B0c0 := B0.cell 0; have B0c1 := B0.cell 1; have B0c2 := B0.cell 2; have B1c0 := B1.cell 0; have B1c1 := B1.cell 1; have B1c2 := B1.cell 2; have Swc0 := Sw.cell 0; have Swc1 := Sw.cell 1; have Swc2 := Sw.cell 2; have Skc0 := Sk.cell 0; have Skc1 := Sk.cell 1; have Skc2 := Sk.cell 2; have Sgc0 := Sg.cell 0; have Sgc1 := Sg.cell 1; have Sgc2 := Sg.cell 2; have SXc0 := SX.cell 0; have SXc1 := SX.cell 1; have SXc2 := SX.cell 2; simp at B0c0 B0c1 B0c2 B1c0 B1c1 B1c2 Swc0 Swc1 Swc2 Skc0 Skc1 Skc2 Sgc0 Sgc1 Sgc2 SXc0 SXc1 SXc2; refine (HG.out _ Ana cna Anb cnb Anl cnl (own_rd Ona) (own_rd Onb) (own_rd Onl)).mono ?_; rintro e w22 ⟨Azl, czl, Aza, cza, Azb, czb, rfl, Ozl, Oza, Ozb, Pzla, Pzlb, Pz, h22⟩; replace Owl := own_past Owl h22; replace Owa := own_past Owa h22; replace Owb := own_past Owb h22; replace Oka := own_past Oka h22; replace Okb := own_past Okb h22; replace Okl := own_past Okl h22; replace Ogl := own_past Ogl h22; replace Oga := own_past Oga h22; replace Ogb := own_past Ogb h22; replace Oma := own_past Oma h22; replace Omb := own_past Omb h22; replace Oml := own_past Oml h22; replace Ona := own_past Ona h22; replace Onb := own_past Onb h22; replace Onl := own_past Onl h22; replace B0 := B0.past h22; replace B1 := B1.past h22; replace Sw := Sw.past h22; replace Sk := Sk.past h22; replace Sg := Sg.past h22; replace SX := SX.past h22; replace Hb := Lib.hid (thenB Hb.out h22); replace HW := Lib.hid (thenB HW.out h22); have t33 : (w21.alloc (.cells #[.slice none 0 0, .slice none 0 0, .int .i64 0] 35)).heap.size ≤ w22.heap.size := h22.size; have Lzl := own_lo Ozl; have Uzl := own_hi Ozl; have Lza := own_lo Oza; have Uza := own_hi Oza; have Lzb := own_lo Ozb; have Uzb := own_hi Ozb; clear h22; clear B0c0 B0c1 B0c2 B1c0 B1c1 B1c2 Swc0 Swc1 Swc2 Skc0 Skc1 Skc2 Sgc0 Sgc1 Sgc2 SXc0 SXc1 SXc2; have B0c0 := B0.cell 0; have B0c1 := B0.cell 1; have B0c2 := B0.cell 2; have B1c0 := B1.cell 0; have B1c1 := B1.cell 1; have B1c2 := B1.cell 2; have Swc0 := Sw.cell 0; have Swc1 := Sw.cell 1; have Swc2 := Sw.cell 2; have Skc0 := Sk.cell 0; have Skc1 := Sk.cell 1; have Skc2 := Sk.cell 2; have Sgc0 := Sg.cell 0; have Sgc1 := Sg.cell 1; have Sgc2 := Sg.cell 2; have SXc0 := SX.cell 0; have SXc1 := SX.cell 1; have SXc2 := SX.cell 2; simp at B0c0 B0c1 B0c2 B1c0 B1c1 B1c2 Swc0 Swc1 Swc2 Skc0 Skc1 Skc2 Sgc0 Sgc1 Sgc2 SXc0 SXc1 SXc2; have SXf0 := SX.frozen 0; have SXf1 := SX.frozen 1; have SXf2 := SX.frozen 2; have M := Lib.hid (metrc_before (p := Y.2.1.phase) HW.out GX XL (by rfl) SX Ozl Oza Ozb Pzla Pzlb Pz))))
    all_goals (go_wp2_with fail; go_meet; exact ⟨_, _, _, _, _, _, _, rfl, rfl, rfl, M⟩)
  case rest =>
  obtain ⟨gh, Ahl, chl, Aha, cha, Ahb, chb, rfl, rfl, rfl, HM⟩ := hcut
  obtain ⟨⟨glh, Sh, Oha, Ohb, Ph, Nha, Nhb, bx⟩, Ohl, Phla, Phlb, Nhl⟩ := HM.out
  clear HM
  replace Owl := own_past Owl bx
  replace Owa := own_past Owa bx
  replace Owb := own_past Owb bx
  replace Oka := own_past Oka bx
  replace Okb := own_past Okb bx
  replace Okl := own_past Okl bx
  replace Ogl := own_past Ogl bx
  replace Oga := own_past Oga bx
  replace Ogb := own_past Ogb bx
  replace Oma := own_past Oma bx
  replace Omb := own_past Omb bx
  replace Oml := own_past Oml bx
  replace B0 := B0.past bx
  replace B1 := B1.past bx
  replace Sw := Sw.past bx
  replace Sk := Sk.past bx
  replace Sg := Sg.past bx
  replace Hb := Lib.hid (thenB Hb.out bx)
  have t30 : (w18.drew).heap.size ≤ wc.heap.size := bx.size
  have VSh := Sh.lt
  have Lhl := own_lo Ohl
  have Uhl := own_hi Ohl
  have Lha := own_lo Oha
  have Uha := own_hi Oha
  have Lhb := own_lo Ohb
  have Uhb := own_hi Ohb
  clear bx
  obtain ⟨w19, hwc⟩ : ∃ W, W = wc := ⟨_, rfl⟩
  subst hwc
  clear B0c0 B0c1 B0c2 B1c0 B1c1 B1c2 Swc0 Swc1 Swc2 Skc0 Skc1 Skc2 Sgc0 Sgc1 Sgc2
  have B0c0 := B0.cell 0
  have B0c1 := B0.cell 1
  have B0c2 := B0.cell 2
  have B1c0 := B1.cell 0
  have B1c1 := B1.cell 1
  have B1c2 := B1.cell 2
  have Swc0 := Sw.cell 0
  have Swc1 := Sw.cell 1
  have Swc2 := Sw.cell 2
  have Skc0 := Sk.cell 0
  have Skc1 := Sk.cell 1
  have Skc2 := Sk.cell 2
  have Sgc0 := Sg.cell 0
  have Sgc1 := Sg.cell 1
  have Sgc2 := Sg.cell 2
  have Shc0 := Sh.cell 0
  have Shc1 := Sh.cell 1
  have Shc2 := Sh.cell 2
  simp at B0c0 B0c1 B0c2 B1c0 B1c1 B1c2 Swc0 Swc1 Swc2 Skc0 Skc1 Skc2 Sgc0 Sgc1 Sgc2 Shc0 Shc1 Shc2
  go_wp2_with fail
  refine (eqIntS_same Ahl Awl chl cwl (Y.1) _ (own_rd Ohl) (own_rd Owl) (by omega)).mono ?_
  rintro e w20 ⟨rfl, h20⟩
  replace Owl := own_past Owl h20
  replace Owa := own_past Owa h20
  replace Owb := own_past Owb h20
  replace Oka := own_past Oka h20
  replace Okb := own_past Okb h20
  replace Okl := own_past Okl h20
  replace Ogl := own_past Ogl h20
  replace Oga := own_past Oga h20
  replace Ogb := own_past Ogb h20
  replace Oma := own_past Oma h20
  replace Omb := own_past Omb h20
  replace Oml := own_past Oml h20
  replace Ohl := own_past Ohl h20
  replace Oha := own_past Oha h20
  replace Ohb := own_past Ohb h20
  replace B0 := B0.past h20
  replace B1 := B1.past h20
  replace Sw := Sw.past h20
  replace Sk := Sk.past h20
  replace Sg := Sg.past h20
  replace Sh := Sh.past h20
  replace Hb := Lib.hid (thenB Hb.out h20)
  have t32 : w19.heap.size ≤ w20.heap.size := h20.size
  clear h20
  clear B0c0 B0c1 B0c2 B1c0 B1c1 B1c2 Swc0 Swc1 Swc2 Skc0 Skc1 Skc2 Sgc0 Sgc1 Sgc2 Shc0 Shc1 Shc2
  have B0c0 := B0.cell 0
  have B0c1 := B0.cell 1
  have B0c2 := B0.cell 2
  have B1c0 := B1.cell 0
  have B1c1 := B1.cell 1
  have B1c2 := B1.cell 2
  have Swc0 := Sw.cell 0
  have Swc1 := Sw.cell 1
  have Swc2 := Sw.cell 2
  have Skc0 := Sk.cell 0
  have Skc1 := Sk.cell 1
  have Skc2 := Sk.cell 2
  have Sgc0 := Sg.cell 0
  have Sgc1 := Sg.cell 1
  have Sgc2 := Sg.cell 2
  have Shc0 := Sh.cell 0
  have Shc1 := Sh.cell 1
  have Shc2 := Sh.cell 2
  simp at B0c0 B0c1 B0c2 B1c0 B1c1 B1c2 Swc0 Swc1 Swc2 Skc0 Skc1 Skc2 Sgc0 Sgc1 Sgc2 Shc0 Shc1 Shc2
  go_wp2_with fail
  refine (eqCombState_same Aha Ahb Awa Awb cha chb cwa cwb Y.2.1.sums Y.2.1.delays Y.2.1.phase _ (own_rd Oha) (own_rd Ohb) (own_rd Owa) (own_rd Owb) (by omega) (by omega)).mono ?_
  rintro e w21 ⟨rfl, h21⟩
  replace Owl := own_past Owl h21
  replace Owa := own_past Owa h21
  replace Owb := own_past Owb h21
  replace Oka := own_past Oka h21
  replace Okb := own_past Okb h21
  replace Okl := own_past Okl h21
  replace Ogl := own_past Ogl h21
  replace Oga := own_past Oga h21
  replace Ogb := own_past Ogb h21
  replace Oma := own_past Oma h21
  replace Omb := own_past Omb h21
  replace Oml := own_past Oml h21
  replace Ohl := own_past Ohl h21
  replace Oha := own_past Oha h21
  replace Ohb := own_past Ohb h21
  replace B0 := B0.past h21
  replace B1 := B1.past h21
  replace Sw := Sw.past h21
  replace Sk := Sk.past h21
  replace Sg := Sg.past h21
  replace Sh := Sh.past h21
  replace Hb := Lib.hid (thenB Hb.out h21)
  have t33 : w20.heap.size ≤ w21.heap.size := h21.size
  clear h21
  clear B0c0 B0c1 B0c2 B1c0 B1c1 B1c2 Swc0 Swc1 Swc2 Skc0 Skc1 Skc2 Sgc0 Sgc1 Sgc2 Shc0 Shc1 Shc2
  have B0c0 := B0.cell 0
  have B0c1 := B0.cell 1
  have B0c2 := B0.cell 2
  have B1c0 := B1.cell 0
  have B1c1 := B1.cell 1
  have B1c2 := B1.cell 2
  have Swc0 := Sw.cell 0
  have Swc1 := Sw.cell 1
  have Swc2 := Sw.cell 2
  have Skc0 := Sk.cell 0
  have Skc1 := Sk.cell 1
  have Skc2 := Sk.cell 2
  have Sgc0 := Sg.cell 0
  have Sgc1 := Sg.cell 1
  have Sgc2 := Sg.cell 2
  have Shc0 := Sh.cell 0
  have Shc1 := Sh.cell 1
  have Shc2 := Sh.cell 2
  simp at B0c0 B0c1 B0c2 B1c0 B1c1 B1c2 Swc0 Swc1 Swc2 Skc0 Skc1 Skc2 Sgc0 Sgc1 Sgc2 Shc0 Shc1 Shc2
  go_wp2_with fail
  refine (heldIntS_any Agl cgl _ (1) _ (own_rd Ogl) (by omega) (by omega) (by omega)).mono ?_
  rintro e w22 ⟨rfl, rfl⟩
  clear B0c0 B0c1 B0c2 B1c0 B1c1 B1c2 Swc0 Swc1 Swc2 Skc0 Skc1 Skc2 Sgc0 Sgc1 Sgc2 Shc0 Shc1 Shc2
  have B0c0 := B0.cell 0
  have B0c1 := B0.cell 1
  have B0c2 := B0.cell 2
  have B1c0 := B1.cell 0
  have B1c1 := B1.cell 1
  have B1c2 := B1.cell 2
  have Swc0 := Sw.cell 0
  have Swc1 := Sw.cell 1
  have Swc2 := Sw.cell 2
  have Skc0 := Sk.cell 0
  have Skc1 := Sk.cell 1
  have Skc2 := Sk.cell 2
  have Sgc0 := Sg.cell 0
  have Sgc1 := Sg.cell 1
  have Sgc2 := Sg.cell 2
  have Shc0 := Sh.cell 0
  have Shc1 := Sh.cell 1
  have Shc2 := Sh.cell 2
  simp at B0c0 B0c1 B0c2 B1c0 B1c1 B1c2 Swc0 Swc1 Swc2 Skc0 Skc1 Skc2 Sgc0 Sgc1 Sgc2 Shc0 Shc1 Shc2
  go_wp2_with fail
  refine (heldCombState_any Aga Agb cga cgb _ _ (Y.2.1.phase) (1 + (Y.1).length) _ (own_rd Oga) (own_rd Ogb) (by omega) (by omega) (by omega) (by omega)).mono ?_
  rintro e w22 ⟨rfl, h22⟩
  replace Owl := own_past Owl h22
  replace Owa := own_past Owa h22
  replace Owb := own_past Owb h22
  replace Oka := own_past Oka h22
  replace Okb := own_past Okb h22
  replace Okl := own_past Okl h22
  replace Ogl := own_past Ogl h22
  replace Oga := own_past Oga h22
  replace Ogb := own_past Ogb h22
  replace Oma := own_past Oma h22
  replace Omb := own_past Omb h22
  replace Oml := own_past Oml h22
  replace Ohl := own_past Ohl h22
  replace Oha := own_past Oha h22
  replace Ohb := own_past Ohb h22
  replace B0 := B0.past h22
  replace B1 := B1.past h22
  replace Sw := Sw.past h22
  replace Sk := Sk.past h22
  replace Sg := Sg.past h22
  replace Sh := Sh.past h22
  replace Hb := Lib.hid (thenB Hb.out h22)
  have t34 : w21.heap.size ≤ w22.heap.size := h22.size
  clear h22
  go_wp2_with fail
  go_ret
  exact ⟨rfl, Hb.out⟩
set_option maxRecDepth 100000 in
theorem lifted (os : Os) (started : os.Started) (H : Type) (enc : TypeId × Value → H) :
    ReturnsInHanded {} Try.checked os 12 .any (Rows.fnExactRunCombSpec.pre6 enc Try.prog Try.f12 Rows.fnExactRunCombRow.domain false) (Rows.fnExactRunCombSpec.post enc Try.prog Try.f12 false true false false) := by
  refine returnsInHanded_of_change (C := Try.checked) own started (by kernel_rfl) Try.func12
    (ChangeSpec.witness6 (enc := enc) (C := Try.checked) false ⟨#[], #[.agg #[.int .i64 0, .int .i64 0, .int .i64 0], .agg #[.slice none 0 0, .slice none 0 0, .int .i64 0], .slice none 0 0], []⟩ 8 (by kernel_rfl) (by kernel_rfl) (by kernel_rfl) (by kernel_rfl)) ?_
  intro W base args ds gs before hval0 hW hcnd _
  have hval : ∀ (j : Nat) t v, Try.f12.params[j]? = some t → args[j]? = some v → Value.okWide Try.prog W .any base t v := hval0
  have hW' := hW
  obtain ⟨p, q, hA0, hV, rfl, hfz, hnd⟩ := hW
  have hA : DataW.TrodAll enc Try.prog W 0 (fun _ => true) true Try.f12.params.toList args.toList ds p := hA0
  rw [Try.params12] at hA hval
  obtain ⟨v0, vs0, d0, ds0, p0, q0, hargs, rfl, rfl, h0, g0⟩ := trodAll_cons hA
  obtain ⟨v1, vs1, d1, ds1, p1, q1, rfl, rfl, rfl, h1, g1⟩ := trodAll_cons g0
  obtain ⟨v2, vs2, d2, ds2, p2, q2, rfl, rfl, rfl, h2, g2⟩ := trodAll_cons g1
  obtain ⟨rfl, rfl, rfl⟩ := trodAll_nil g2
  obtain rfl : args = #[v0, v1, v2] := by cases args; simp_all
  obtain ⟨rfl, rfl⟩ := trodVars_none hV
  have k0 := h0
  have lt0 : ∀ x ∈ p0, x.block < W.heap.size := by obtain ⟨m, hm⟩ := k0; exact DataW.trod_lt m _ _ _ hm
  have k1 := h1
  have lt1 : ∀ x ∈ p1, x.block < W.heap.size := by obtain ⟨m, hm⟩ := k1; exact DataW.trod_lt m _ _ _ hm
  have k2 := h2
  have lt2 : ∀ x ∈ p2, x.block < W.heap.size := by obtain ⟨m, hm⟩ := k2; exact DataW.trod_lt m _ _ _ hm
  obtain ⟨a0, b0, c0, rfl, x0⟩ := arg_s3 Try.underlying46 (by kernel_rfl) (by kernel_rfl) Try.underlying3 Try.underlying3 Try.underlying3 (hval 0 46 v0 rfl rfl) h0
  obtain ⟨A1, y1, c1, D1, u1, d1, q1, rfl, xa1, xb1, xc1, xd1, xe1, xf1, xg1, xh1⟩ := arg_cs Try.underlying47 (by kernel_rfl) (by kernel_rfl) Try.underlying31 Try.underlying31 Try.underlying3 Try.underlying3 (by kernel_rfl) (hval 1 47 v1 rfl rfl) h1
  obtain ⟨A2, z2, c2, rfl, l2, m2, r2, i2⟩ := arg_ints Try.underlying31 Try.underlying3 (by kernel_rfl) (hval 2 31 v2 rfl rfl) h2
  clear hA0 hval0
  refine (walkw W a0 b0 c0 x0 A1 y1 c1 D1 u1 d1 q1 xa1 xb1 xc1 xd1 xe1 xf1 xg1 xh1 A2 z2 c2 l2 m2 r2 i2).mono fun e W' ⟨he, bel⟩ => ?_
  subst he
  exact ⟨_, rfl, _, _, _, [], _, [], hW', trodAll_mk1 (shut_bool Try.underlying4 _), (trodAll_cons_mk (Below.trod laidOut (by kernel_rfl) (of_decide_eq_true (by kernel_rfl)) k0 bel lt0) (trodAll_cons_mk (Below.trod laidOut (by kernel_rfl) (of_decide_eq_true (by kernel_rfl)) k1 bel lt1) (trodAll_cons_mk (Below.trod laidOut (by kernel_rfl) (of_decide_eq_true (by kernel_rfl)) k2 bel lt2) trodAll_mk0))), rfl, bel.frame _, fun h => by cases h⟩
theorem over : Rows.fnExactRunCombRow.holds Try.pinned (OpenSpec.ofChange Rows.fnExactRunCombSpec) :=
  OpenClaim.holds_of_wide 12 Try.f12 rfl rfl rfl rfl rfl rfl rfl ⟨rfl, rfl, rfl, rfl, rfl⟩ rfl rfl rfl rfl rfl (by kernel_rfl) Try.func12 (by kernel_rfl)
    (of_decide_eq_true (by kernel_rfl)) (by unfold Func.isWrapper; first | (rw [if_pos (by decide +kernel)]; kernel_rfl) | (rw [if_neg (by decide +kernel)]; exact ⟨rfl, rfl⟩))
    (fun os started H enc _ => lifted os started H enc)
theorem proved : Rows.FnExactRunCombSaid := over

end Go.Proofs.Ytfplecbacgcjgaa.runComb
