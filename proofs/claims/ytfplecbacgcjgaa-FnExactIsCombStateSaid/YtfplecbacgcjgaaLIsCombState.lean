/- The program's IsCombState returns what the reference's returns, for all arguments, and leaves them as they were. No condition. -/
import Derived.Test.YtfplecbacgcjgaaCombArg
import Derived.Test.YtfplecbacgcjgaaCSt
import Derived.Test.YtfplecbacgcjgaaLawAcc
namespace Go.Proofs.Ytfplecbacgcjgaa.isCombState
open Go.ChangeShapes Go.WideShapes Go.ChangeAt Go.RowKit
set_option linter.unusedVariables false
set_option linter.unusedSimpArgs false
set_option maxRecDepth 100000 in
set_option maxHeartbeats 400000 in
theorem walkw (w : World) (a0 b0 c0 : Int) (x0 : -9223372036854775808 ≤ a0 ∧ a0 ≤ 9223372036854775807 ∧ -9223372036854775808 ≤ b0 ∧ b0 ≤ 9223372036854775807 ∧ -9223372036854775808 ≤ c0 ∧ c0 ≤ 9223372036854775807) (A1 : Option Addr) (x1 : List Int) (c1 : Nat) (D1 : Option Addr) (y1 : List Int) (d1 : Nat) (p1 : Int) (lx1 : x1.length ≤ c1) (mc1 : c1 ≤ maxLen) (ly1 : y1.length ≤ d1) (md1 : d1 ≤ maxLen) (rx1 : Rd w w.heap.size A1 x1) (ry1 : Rd w w.heap.size D1 y1) (pl1 : -9223372036854775808 ≤ p1) (ph1 : p1 ≤ 9223372036854775807) :
    Calls Try.prog 6 #[.agg #[.int .i64 a0, .int .i64 b0, .int .i64 c0], .agg #[.slice A1 x1.length c1, .slice D1 y1.length d1, .int .i64 p1]] w fun e w' => e = .returned (.bool true) ∧ Below w.heap.size w w' := by
  clear x0
  unfold maxLen at mc1 md1
  have lx1b : x1.length ≤ 9223372036854775807 := by omega
  have ly1b : y1.length ≤ 9223372036854775807 := by omega
  have Hb : Hid (Below w.heap.size w w) := Below.refl _ _
  have bx : Below w.heap.size w (w.alloc (.cells #[.int .i64 a0, .int .i64 b0, .int .i64 c0] 46)) := (Below.refl _ _).alloc (Nat.le_refl _) _
  have B0 := Blk.new w 46 #[.int .i64 a0, .int .i64 b0, .int .i64 c0]
  have VB0 : w.heap.size < (w.alloc (.cells #[.int .i64 a0, .int .i64 b0, .int .i64 c0] 46)).heap.size := by simp
  replace Hb := Lib.hid (thenB Hb.out bx)
  clear bx
  have bx : Below (w.alloc (.cells #[.int .i64 a0, .int .i64 b0, .int .i64 c0] 46)).heap.size (w.alloc (.cells #[.int .i64 a0, .int .i64 b0, .int .i64 c0] 46)) ((w.alloc (.cells #[.int .i64 a0, .int .i64 b0, .int .i64 c0] 46)).alloc (.cells #[.slice A1 x1.length c1, .slice D1 y1.length d1, .int .i64 p1] 47)) := (Below.refl _ _).alloc (Nat.le_refl _) _
  have B1 := Blk.new (w.alloc (.cells #[.int .i64 a0, .int .i64 b0, .int .i64 c0] 46)) 47 #[.slice A1 x1.length c1, .slice D1 y1.length d1, .int .i64 p1]
  have VB1 : (w.alloc (.cells #[.int .i64 a0, .int .i64 b0, .int .i64 c0] 46)).heap.size < ((w.alloc (.cells #[.int .i64 a0, .int .i64 b0, .int .i64 c0] 46)).alloc (.cells #[.slice A1 x1.length c1, .slice D1 y1.length d1, .int .i64 p1] 47)).heap.size := by simp
  replace B0 := B0.past bx
  replace Hb := Lib.hid (thenB Hb.out bx)
  clear bx
  go_enter Try.func6, Try.ntmps6
  have B0c0 := B0.cell 0
  have B0c1 := B0.cell 1
  have B0c2 := B0.cell 2
  have B1c0 := B1.cell 0
  have B1c1 := B1.cell 1
  have B1c2 := B1.cell 2
  simp at B0c0 B0c1 B0c2 B1c0 B1c1 B1c2
  go_wp2_with fail
  refine (szCombState_any A1 c1 x1.length D1 d1 y1.length p1 1048576 _ lx1b ly1b (by omega) (by omega)).mono ?_
  rintro e w1 ⟨⟨v1, rfl, hv1⟩, h1⟩
  replace B0 := B0.past h1
  replace B1 := B1.past h1
  replace Hb := Lib.hid (thenB Hb.out h1)
  have t3 : ((w.alloc (.cells #[.int .i64 a0, .int .i64 b0, .int .i64 c0] 46)).alloc (.cells #[.slice A1 x1.length c1, .slice D1 y1.length d1, .int .i64 p1] 47)).heap.size ≤ w1.heap.size := h1.size
  clear h1
  by_cases n1 : x1.length + y1.length ≤ 1048576
  case neg =>
    have v1n : v1 < 0 := by omega
    clear hv1
    go_wp2_with fail
    go_ret
    exact ⟨rfl, Hb.out⟩
  have v1n : 0 ≤ v1 := by omega
  have nx1 : x1.length ≤ 1048576 := by omega
  have ny1 : y1.length ≤ 1048576 := by omega
  clear hv1 n1 lx1b ly1b
  have bx : Below w1.heap.size w1 w1.drew := (Below.refl _ _).drew
  replace B0 := B0.past bx
  replace B1 := B1.past bx
  replace Hb := Lib.hid (thenB Hb.out bx)
  clear bx
  have t4 : w1.heap.size ≤ w1.drew.heap.size := Nat.le_refl _
  clear B0c0 B0c1 B0c2 B1c0 B1c1 B1c2
  have B0c0 := B0.cell 0
  have B0c1 := B0.cell 1
  have B0c2 := B0.cell 2
  have B1c0 := B1.cell 0
  have B1c1 := B1.cell 1
  have B1c2 := B1.cell 2
  simp at B0c0 B0c1 B0c2 B1c0 B1c1 B1c2
  go_wp2_with fail
  go_region_held3 (fun w' => w'.cell? ⟨w.heap.size, 0, none⟩ = some (.int .i64 a0) ∧ w'.cell? ⟨w.heap.size, 1, none⟩ = some (.int .i64 b0) ∧ w'.cell? ⟨w.heap.size, 2, none⟩ = some (.int .i64 c0) ∧ w'.cell? ⟨w.heap.size + 1, 0, none⟩ = some (.slice A1 x1.length c1) ∧ w'.cell? ⟨w.heap.size + 1, 1, none⟩ = some (.slice D1 y1.length d1) ∧ w'.cell? ⟨w.heap.size + 1, 2, none⟩ = some (.int .i64 p1)) (first | go_keep)
    (first
      | (go_at_call 32; clear B0c0 B0c1 B0c2 B1c0 B1c1 B1c2; have B0c0 := B0.cell 0; have B0c1 := B0.cell 1; have B0c2 := B0.cell 2; have B1c0 := B1.cell 0; have B1c1 := B1.cell 1; have B1c2 := B1.cell 2; simp at B0c0 B0c1 B0c2 B1c0 B1c1 B1c2; refine (toComb_any a0 b0 c0 _).mono ?_; rintro e w2 ⟨rfl, h2⟩; replace B0 := B0.past h2; replace B1 := B1.past h2; replace Hb := Lib.hid (thenB Hb.out h2); have t5 : w1.drew.heap.size ≤ w2.heap.size := h2.size; clear h2; clear B0c0 B0c1 B0c2 B1c0 B1c1 B1c2; have B0c0 := B0.cell 0; have B0c1 := B0.cell 1; have B0c2 := B0.cell 2; have B1c0 := B1.cell 0; have B1c1 := B1.cell 1; have B1c2 := B1.cell 2; simp at B0c0 B0c1 B0c2 B1c0 B1c1 B1c2)
      | (go_at_call 33; clear B0c0 B0c1 B0c2 B1c0 B1c1 B1c2; have B0c0 := B0.cell 0; have B0c1 := B0.cell 1; have B0c2 := B0.cell 2; have B1c0 := B1.cell 0; have B1c1 := B1.cell 1; have B1c2 := B1.cell 2; simp at B0c0 B0c1 B0c2 B1c0 B1c1 B1c2; refine (toCombState_any A1 c1 x1 D1 d1 y1 p1 _ (rx1.past Hb.out) (ry1.past Hb.out) nx1 ny1).mono ?_; rintro e w3 ⟨Awa, cwa, Awb, cwb, rfl, Owa, Owb, Pw, h3⟩; replace B0 := B0.past h3; replace B1 := B1.past h3; replace Hb := Lib.hid (thenB Hb.out h3); have t6 : w2.heap.size ≤ w3.heap.size := h3.size; have Lwa := own_lo Owa; have Uwa := own_hi Owa; have Lwb := own_lo Owb; have Uwb := own_hi Owb; clear h3; clear B0c0 B0c1 B0c2 B1c0 B1c1 B1c2; have B0c0 := B0.cell 0; have B0c1 := B0.cell 1; have B0c2 := B0.cell 2; have B1c0 := B1.cell 0; have B1c1 := B1.cell 1; have B1c2 := B1.cell 2; simp at B0c0 B0c1 B0c2 B1c0 B1c1 B1c2)
      | (go_at_call 31; clear B0c0 B0c1 B0c2 B1c0 B1c1 B1c2; have B0c0 := B0.cell 0; have B0c1 := B0.cell 1; have B0c2 := B0.cell 2; have B1c0 := B1.cell 0; have B1c1 := B1.cell 1; have B1c2 := B1.cell 2; simp at B0c0 B0c1 B0c2 B1c0 B1c1 B1c2; refine (specIsCombState_any a0 b0 c0 Awa cwa x1 Awb cwb y1 p1 _ (own_rd Owa) (own_rd Owb) nx1 ny1).mono ?_; rintro e w4 ⟨rfl, h4⟩; replace Owa := own_past Owa h4; replace Owb := own_past Owb h4; replace B0 := B0.past h4; replace B1 := B1.past h4; replace Hb := Lib.hid (thenB Hb.out h4); have t7 : w3.heap.size ≤ w4.heap.size := h4.size; clear h4; clear B0c0 B0c1 B0c2 B1c0 B1c1 B1c2; have B0c0 := B0.cell 0; have B0c1 := B0.cell 1; have B0c2 := B0.cell 2; have B1c0 := B1.cell 0; have B1c1 := B1.cell 1; have B1c2 := B1.cell 2; simp at B0c0 B0c1 B0c2 B1c0 B1c1 B1c2))
  clear B0c0 B0c1 B0c2 B1c0 B1c1 B1c2
  have B0c0 := B0.cell 0
  have B0c1 := B0.cell 1
  have B0c2 := B0.cell 2
  have B1c0 := B1.cell 0
  have B1c1 := B1.cell 1
  have B1c2 := B1.cell 2
  simp at B0c0 B0c1 B0c2 B1c0 B1c1 B1c2
  go_wp2_with fail
  refine (toCombState_any A1 c1 x1 D1 d1 y1 p1 _ (rx1.past Hb.out) (ry1.past Hb.out) nx1 ny1).mono ?_
  rintro e w5 ⟨Aka, cka, Akb, ckb, rfl, Oka, Okb, Pk, h5⟩
  replace Owa := own_past Owa h5
  replace Owb := own_past Owb h5
  replace B0 := B0.past h5
  replace B1 := B1.past h5
  replace Hb := Lib.hid (thenB Hb.out h5)
  have t8 : w4.heap.size ≤ w5.heap.size := h5.size
  have Lka := own_lo Oka
  have Uka := own_hi Oka
  have Lkb := own_lo Okb
  have Ukb := own_hi Okb
  clear h5
  have bx : Below w5.heap.size w5 (w5.alloc (.cells #[.slice Aka x1.length cka, .slice Akb y1.length ckb, .int .i64 p1] 35)) := (Below.refl _ _).alloc (Nat.le_refl _) _
  have Sk := Blk.new w5 35 #[.slice Aka x1.length cka, .slice Akb y1.length ckb, .int .i64 p1]
  have VSk : w5.heap.size < (w5.alloc (.cells #[.slice Aka x1.length cka, .slice Akb y1.length ckb, .int .i64 p1] 35)).heap.size := by simp
  replace Owa := own_past Owa bx
  replace Owb := own_past Owb bx
  replace Oka := own_past Oka bx
  replace Okb := own_past Okb bx
  replace B0 := B0.past bx
  replace B1 := B1.past bx
  replace Hb := Lib.hid (thenB Hb.out bx)
  clear bx
  have bx : Below (w5.alloc (.cells #[.slice Aka x1.length cka, .slice Akb y1.length ckb, .int .i64 p1] 35)).heap.size (w5.alloc (.cells #[.slice Aka x1.length cka, .slice Akb y1.length ckb, .int .i64 p1] 35)) (w5.alloc (.cells #[.slice Aka x1.length cka, .slice Akb y1.length ckb, .int .i64 p1] 35)).drew := (Below.refl _ _).drew
  replace Owa := own_past Owa bx
  replace Owb := own_past Owb bx
  replace Oka := own_past Oka bx
  replace Okb := own_past Okb bx
  replace B0 := B0.past bx
  replace B1 := B1.past bx
  replace Sk := Sk.past bx
  replace Hb := Lib.hid (thenB Hb.out bx)
  clear bx
  have t10 : (w5.alloc (.cells #[.slice Aka x1.length cka, .slice Akb y1.length ckb, .int .i64 p1] 35)).heap.size ≤ (w5.alloc (.cells #[.slice Aka x1.length cka, .slice Akb y1.length ckb, .int .i64 p1] 35)).drew.heap.size := Nat.le_refl _
  clear B0c0 B0c1 B0c2 B1c0 B1c1 B1c2
  have B0c0 := B0.cell 0
  have B0c1 := B0.cell 1
  have B0c2 := B0.cell 2
  have B1c0 := B1.cell 0
  have B1c1 := B1.cell 1
  have B1c2 := B1.cell 2
  have Skc0 := Sk.cell 0
  have Skc1 := Sk.cell 1
  have Skc2 := Sk.cell 2
  simp at B0c0 B0c1 B0c2 B1c0 B1c1 B1c2 Skc0 Skc1 Skc2
  go_wp2_with fail
  go_region_held3 (fun w' => w'.cell? ⟨w.heap.size, 0, none⟩ = some (.int .i64 a0) ∧ w'.cell? ⟨w.heap.size, 1, none⟩ = some (.int .i64 b0) ∧ w'.cell? ⟨w.heap.size, 2, none⟩ = some (.int .i64 c0) ∧ w'.cell? ⟨w5.heap.size, 0, none⟩ = some (.slice Aka x1.length cka) ∧ w'.cell? ⟨w5.heap.size, 1, none⟩ = some (.slice Akb y1.length ckb) ∧ w'.cell? ⟨w5.heap.size, 2, none⟩ = some (.int .i64 p1)) (first | go_keep)
    (first
      | (go_at_call 32; clear B0c0 B0c1 B0c2 B1c0 B1c1 B1c2 Skc0 Skc1 Skc2; have B0c0 := B0.cell 0; have B0c1 := B0.cell 1; have B0c2 := B0.cell 2; have B1c0 := B1.cell 0; have B1c1 := B1.cell 1; have B1c2 := B1.cell 2; have Skc0 := Sk.cell 0; have Skc1 := Sk.cell 1; have Skc2 := Sk.cell 2; simp at B0c0 B0c1 B0c2 B1c0 B1c1 B1c2 Skc0 Skc1 Skc2; refine (toComb_any a0 b0 c0 _).mono ?_; rintro e w6 ⟨rfl, h6⟩; replace Owa := own_past Owa h6; replace Owb := own_past Owb h6; replace Oka := own_past Oka h6; replace Okb := own_past Okb h6; replace B0 := B0.past h6; replace B1 := B1.past h6; replace Sk := Sk.past h6; replace Hb := Lib.hid (thenB Hb.out h6); have t11 : (w5.alloc (.cells #[.slice Aka x1.length cka, .slice Akb y1.length ckb, .int .i64 p1] 35)).drew.heap.size ≤ w6.heap.size := h6.size; clear h6; clear B0c0 B0c1 B0c2 B1c0 B1c1 B1c2 Skc0 Skc1 Skc2; have B0c0 := B0.cell 0; have B0c1 := B0.cell 1; have B0c2 := B0.cell 2; have B1c0 := B1.cell 0; have B1c1 := B1.cell 1; have B1c2 := B1.cell 2; have Skc0 := Sk.cell 0; have Skc1 := Sk.cell 1; have Skc2 := Sk.cell 2; simp at B0c0 B0c1 B0c2 B1c0 B1c1 B1c2 Skc0 Skc1 Skc2)
      | (go_at_call 34; clear B0c0 B0c1 B0c2 B1c0 B1c1 B1c2 Skc0 Skc1 Skc2; have B0c0 := B0.cell 0; have B0c1 := B0.cell 1; have B0c2 := B0.cell 2; have B1c0 := B1.cell 0; have B1c1 := B1.cell 1; have B1c2 := B1.cell 2; have Skc0 := Sk.cell 0; have Skc1 := Sk.cell 1; have Skc2 := Sk.cell 2; simp at B0c0 B0c1 B0c2 B1c0 B1c1 B1c2 Skc0 Skc1 Skc2; refine (implIsCombState_any a0 b0 c0 Aka cka x1 Akb ckb y1 p1 _ (own_rd Oka) (own_rd Okb) nx1 ny1).mono ?_; rintro e w7 ⟨rfl, h7⟩; replace Owa := own_past Owa h7; replace Owb := own_past Owb h7; replace Oka := own_past Oka h7; replace Okb := own_past Okb h7; replace B0 := B0.past h7; replace B1 := B1.past h7; replace Sk := Sk.past h7; replace Hb := Lib.hid (thenB Hb.out h7); have t12 : w6.heap.size ≤ w7.heap.size := h7.size; clear h7; clear B0c0 B0c1 B0c2 B1c0 B1c1 B1c2 Skc0 Skc1 Skc2; have B0c0 := B0.cell 0; have B0c1 := B0.cell 1; have B0c2 := B0.cell 2; have B1c0 := B1.cell 0; have B1c1 := B1.cell 1; have B1c2 := B1.cell 2; have Skc0 := Sk.cell 0; have Skc1 := Sk.cell 1; have Skc2 := Sk.cell 2; simp at B0c0 B0c1 B0c2 B1c0 B1c1 B1c2 Skc0 Skc1 Skc2))
  have tb : (stOk a0 b0 c0 ⟨x1, y1, p1⟩ != stOk a0 b0 c0 ⟨x1, y1, p1⟩) = false := by simp
  go_wp2_with fail
  have bx : Below w7.heap.size w7 w7.drew := (Below.refl _ _).drew
  replace Owa := own_past Owa bx
  replace Owb := own_past Owb bx
  replace Oka := own_past Oka bx
  replace Okb := own_past Okb bx
  replace B0 := B0.past bx
  replace B1 := B1.past bx
  replace Sk := Sk.past bx
  replace Hb := Lib.hid (thenB Hb.out bx)
  clear bx
  have t13 : w7.heap.size ≤ w7.drew.heap.size := Nat.le_refl _
  clear B0c0 B0c1 B0c2 B1c0 B1c1 B1c2 Skc0 Skc1 Skc2
  have B0c0 := B0.cell 0
  have B0c1 := B0.cell 1
  have B0c2 := B0.cell 2
  have B1c0 := B1.cell 0
  have B1c1 := B1.cell 1
  have B1c2 := B1.cell 2
  have Skc0 := Sk.cell 0
  have Skc1 := Sk.cell 1
  have Skc2 := Sk.cell 2
  simp at B0c0 B0c1 B0c2 B1c0 B1c1 B1c2 Skc0 Skc1 Skc2
  go_wp2_with fail
  go_region_held3 (fun w' => w'.cell? ⟨w5.heap.size, 0, none⟩ = some (.slice Aka x1.length cka) ∧ w'.cell? ⟨w5.heap.size, 1, none⟩ = some (.slice Akb y1.length ckb) ∧ w'.cell? ⟨w5.heap.size, 2, none⟩ = some (.int .i64 p1) ∧ w'.cell? ⟨w.heap.size + 1, 0, none⟩ = some (.slice A1 x1.length c1) ∧ w'.cell? ⟨w.heap.size + 1, 1, none⟩ = some (.slice D1 y1.length d1) ∧ w'.cell? ⟨w.heap.size + 1, 2, none⟩ = some (.int .i64 p1)) (first | go_keep)
    (first
      | (go_at_call 33; clear B0c0 B0c1 B0c2 B1c0 B1c1 B1c2 Skc0 Skc1 Skc2; have B0c0 := B0.cell 0; have B0c1 := B0.cell 1; have B0c2 := B0.cell 2; have B1c0 := B1.cell 0; have B1c1 := B1.cell 1; have B1c2 := B1.cell 2; have Skc0 := Sk.cell 0; have Skc1 := Sk.cell 1; have Skc2 := Sk.cell 2; simp at B0c0 B0c1 B0c2 B1c0 B1c1 B1c2 Skc0 Skc1 Skc2; refine (toCombState_any A1 c1 x1 D1 d1 y1 p1 _ (rx1.past Hb.out) (ry1.past Hb.out) nx1 ny1).mono ?_; rintro e w8 ⟨Ama, cma, Amb, cmb, rfl, Oma, Omb, Pm, h8⟩; replace Owa := own_past Owa h8; replace Owb := own_past Owb h8; replace Oka := own_past Oka h8; replace Okb := own_past Okb h8; replace B0 := B0.past h8; replace B1 := B1.past h8; replace Sk := Sk.past h8; replace Hb := Lib.hid (thenB Hb.out h8); have t14 : w7.drew.heap.size ≤ w8.heap.size := h8.size; have Lma := own_lo Oma; have Uma := own_hi Oma; have Lmb := own_lo Omb; have Umb := own_hi Omb; clear h8; clear B0c0 B0c1 B0c2 B1c0 B1c1 B1c2 Skc0 Skc1 Skc2; have B0c0 := B0.cell 0; have B0c1 := B0.cell 1; have B0c2 := B0.cell 2; have B1c0 := B1.cell 0; have B1c1 := B1.cell 1; have B1c2 := B1.cell 2; have Skc0 := Sk.cell 0; have Skc1 := Sk.cell 1; have Skc2 := Sk.cell 2; simp at B0c0 B0c1 B0c2 B1c0 B1c1 B1c2 Skc0 Skc1 Skc2)
      | (go_at_call 35; clear B0c0 B0c1 B0c2 B1c0 B1c1 B1c2 Skc0 Skc1 Skc2; have B0c0 := B0.cell 0; have B0c1 := B0.cell 1; have B0c2 := B0.cell 2; have B1c0 := B1.cell 0; have B1c1 := B1.cell 1; have B1c2 := B1.cell 2; have Skc0 := Sk.cell 0; have Skc1 := Sk.cell 1; have Skc2 := Sk.cell 2; simp at B0c0 B0c1 B0c2 B1c0 B1c1 B1c2 Skc0 Skc1 Skc2; refine (eqCombState_same Aka Akb Ama Amb cka ckb cma cmb x1 y1 p1 _ (own_rd Oka) (own_rd Okb) (own_rd Oma) (own_rd Omb) (by omega) (by omega)).mono ?_; rintro e w9 ⟨rfl, h9⟩; replace Owa := own_past Owa h9; replace Owb := own_past Owb h9; replace Oka := own_past Oka h9; replace Okb := own_past Okb h9; replace Oma := own_past Oma h9; replace Omb := own_past Omb h9; replace B0 := B0.past h9; replace B1 := B1.past h9; replace Sk := Sk.past h9; replace Hb := Lib.hid (thenB Hb.out h9); have t15 : w8.heap.size ≤ w9.heap.size := h9.size; clear h9; clear B0c0 B0c1 B0c2 B1c0 B1c1 B1c2 Skc0 Skc1 Skc2; have B0c0 := B0.cell 0; have B0c1 := B0.cell 1; have B0c2 := B0.cell 2; have B1c0 := B1.cell 0; have B1c1 := B1.cell 1; have B1c2 := B1.cell 2; have Skc0 := Sk.cell 0; have Skc1 := Sk.cell 1; have Skc2 := Sk.cell 2; simp at B0c0 B0c1 B0c2 B1c0 B1c1 B1c2 Skc0 Skc1 Skc2))
  go_wp2_with fail
  go_ret
  exact ⟨rfl, Hb.out⟩
set_option maxRecDepth 100000 in
theorem lifted (os : Os) (started : os.Started) (H : Type) (enc : TypeId × Value → H) :
    ReturnsInHanded {} Try.checked os 6 .any (Rows.fnExactIsCombStateSpec.pre6 enc Try.prog Try.f6 Rows.fnExactIsCombStateRow.domain false) (Rows.fnExactIsCombStateSpec.post enc Try.prog Try.f6 false true false false) := by
  refine returnsInHanded_of_change (C := Try.checked) own started (by kernel_rfl) Try.func6
    (ChangeSpec.witness6 (enc := enc) (C := Try.checked) false ⟨#[], #[.agg #[.int .i64 0, .int .i64 0, .int .i64 0], .agg #[.slice none 0 0, .slice none 0 0, .int .i64 0]], []⟩ 8 (by kernel_rfl) (by kernel_rfl) (by kernel_rfl) (by kernel_rfl)) ?_
  intro W base args ds gs before hval0 hW hcnd _
  have hval : ∀ (j : Nat) t v, Try.f6.params[j]? = some t → args[j]? = some v → Value.okWide Try.prog W .any base t v := hval0
  have hW' := hW
  obtain ⟨p, q, hA0, hV, rfl, hfz, hnd⟩ := hW
  have hA : DataW.TrodAll enc Try.prog W 0 (fun _ => true) true Try.f6.params.toList args.toList ds p := hA0
  rw [Try.params6] at hA hval
  obtain ⟨v0, vs0, d0, ds0, p0, q0, hargs, rfl, rfl, h0, g0⟩ := trodAll_cons hA
  obtain ⟨v1, vs1, d1, ds1, p1, q1, rfl, rfl, rfl, h1, g1⟩ := trodAll_cons g0
  obtain ⟨rfl, rfl, rfl⟩ := trodAll_nil g1
  obtain rfl : args = #[v0, v1] := by cases args; simp_all
  obtain ⟨rfl, rfl⟩ := trodVars_none hV
  have k0 := h0
  have lt0 : ∀ x ∈ p0, x.block < W.heap.size := by obtain ⟨m, hm⟩ := k0; exact DataW.trod_lt m _ _ _ hm
  have k1 := h1
  have lt1 : ∀ x ∈ p1, x.block < W.heap.size := by obtain ⟨m, hm⟩ := k1; exact DataW.trod_lt m _ _ _ hm
  obtain ⟨a0, b0, c0, rfl, x0⟩ := arg_s3 Try.underlying46 (by kernel_rfl) (by kernel_rfl) Try.underlying3 Try.underlying3 Try.underlying3 (hval 0 46 v0 rfl rfl) h0
  obtain ⟨A1, y1, c1, D1, u1, d1, q1, rfl, xa1, xb1, xc1, xd1, xe1, xf1, xg1, xh1⟩ := arg_cs Try.underlying47 (by kernel_rfl) (by kernel_rfl) Try.underlying31 Try.underlying31 Try.underlying3 Try.underlying3 (by kernel_rfl) (hval 1 47 v1 rfl rfl) h1
  clear hA0 hval0
  refine (walkw W a0 b0 c0 x0 A1 y1 c1 D1 u1 d1 q1 xa1 xb1 xc1 xd1 xe1 xf1 xg1 xh1).mono fun e W' ⟨he, bel⟩ => ?_
  subst he
  exact ⟨_, rfl, _, _, _, [], _, [], hW', trodAll_mk1 (shut_bool Try.underlying4 _), (trodAll_cons_mk (Below.trod laidOut (by kernel_rfl) (of_decide_eq_true (by kernel_rfl)) k0 bel lt0) (trodAll_cons_mk (Below.trod laidOut (by kernel_rfl) (of_decide_eq_true (by kernel_rfl)) k1 bel lt1) trodAll_mk0)), rfl, bel.frame _, fun h => by cases h⟩
theorem over : Rows.fnExactIsCombStateRow.holds Try.pinned (OpenSpec.ofChange Rows.fnExactIsCombStateSpec) :=
  OpenClaim.holds_of_wide 6 Try.f6 rfl rfl rfl rfl rfl rfl rfl ⟨rfl, rfl, rfl, rfl, rfl⟩ rfl rfl rfl rfl rfl (by kernel_rfl) Try.func6 (by kernel_rfl)
    (of_decide_eq_true (by kernel_rfl)) (by unfold Func.isWrapper; first | (rw [if_pos (by decide +kernel)]; kernel_rfl) | (rw [if_neg (by decide +kernel)]; exact ⟨rfl, rfl⟩))
    (fun os started H enc _ => lifted os started H enc)
theorem proved : Rows.FnExactIsCombStateSaid := over

end Go.Proofs.Ytfplecbacgcjgaa.isCombState
