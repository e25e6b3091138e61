/- The program's IsBench returns what the reference's returns, for all arguments. No condition. -/
import Derived.Test.YtinecppmnnkoeaaBenIs
namespace Go.Proofs.Ytinecppmnnkoeaa.isBenchLaw
open Go.ChangeShapes Go.WideShapes Go.ChangeAt Go.RowKit
set_option linter.unusedVariables false
set_option linter.unusedSimpArgs false
set_option maxRecDepth 100000 in
set_option maxHeartbeats 1000000 in
theorem walkw (w : World) (l s : Int) (A1 : Option Addr) (x1 : List Int) (c1 : Nat) (l1 : x1.length ≤ c1) (m1 : c1 ≤ maxLen) (r1 : Rd w w.heap.size A1 x1) (A2 : Option Addr) (x2 : List Int) (c2 : Nat) (l2 : x2.length ≤ c2) (m2 : c2 ≤ maxLen) (r2 : Rd w w.heap.size A2 x2) (A3 : Option Addr) (x3 : List Int) (c3 : Nat) (l3 : x3.length ≤ c3) (m3 : c3 ≤ maxLen) (r3 : Rd w w.heap.size A3 x3) (A4 : Option Addr) (x4 : List Int) (c4 : Nat) (l4 : x4.length ≤ c4) (m4 : c4 ≤ maxLen) (r4 : Rd w w.heap.size A4 x4) (A5 : Option Addr) (x5 : List Int) (c5 : Nat) (l5 : x5.length ≤ c5) (m5 : c5 ≤ maxLen) (r5 : Rd w w.heap.size A5 x5) :
    Calls Try.prog 3 #[.agg #[.int .i64 l, .int .i64 s, .slice A1 x1.length c1, .slice A2 x2.length c2, .slice A3 x3.length c3, .slice A4 x4.length c4, .slice A5 x5.length c5]] w fun e w' => e = .returned (.bool true) ∧ Below w.heap.size w w' := by
  unfold maxLen at m1 m2 m3 m4 m5
  have b1 : x1.length ≤ 9223372036854775807 := by omega
  have b2 : x2.length ≤ 9223372036854775807 := by omega
  have b3 : x3.length ≤ 9223372036854775807 := by omega
  have b4 : x4.length ≤ 9223372036854775807 := by omega
  have b5 : x5.length ≤ 9223372036854775807 := by omega
  have Hr1 := Lib.hid r1
  have Hr2 := Lib.hid r2
  have Hr3 := Lib.hid r3
  have Hr4 := Lib.hid r4
  have Hr5 := Lib.hid r5
  clear r1 r2 r3 r4 r5 l1 l2 l3 l4 l5 m1 m2 m3 m4 m5
  have Hb : Hid (Below w.heap.size w w) := Below.refl _ _
  have bx : Below w.heap.size w (w.alloc (.cells #[.int .i64 l, .int .i64 s, .slice A1 x1.length c1, .slice A2 x2.length c2, .slice A3 x3.length c3, .slice A4 x4.length c4, .slice A5 x5.length c5] 28)) := (Below.refl _ _).alloc (Nat.le_refl _) _
  have B0 := Blk.new w 28 #[.int .i64 l, .int .i64 s, .slice A1 x1.length c1, .slice A2 x2.length c2, .slice A3 x3.length c3, .slice A4 x4.length c4, .slice A5 x5.length c5]
  have VB0 : w.heap.size < (w.alloc (.cells #[.int .i64 l, .int .i64 s, .slice A1 x1.length c1, .slice A2 x2.length c2, .slice A3 x3.length c3, .slice A4 x4.length c4, .slice A5 x5.length c5] 28)).heap.size := by simp
  replace Hb := Lib.hid (thenB Hb.out bx)
  clear bx
  go_enter Try.func3, Try.ntmps3
  have B0c0 := B0.cell 0
  have B0c1 := B0.cell 1
  have B0c2 := B0.cell 2
  have B0c3 := B0.cell 3
  have B0c4 := B0.cell 4
  have B0c5 := B0.cell 5
  have B0c6 := B0.cell 6
  simp at B0c0 B0c1 B0c2 B0c3 B0c4 B0c5 B0c6
  go_wp2_with fail
  refine (szBench_any A1 A2 A3 A4 A5 c1 c2 c3 c4 c5 x1.length x2.length x3.length x4.length x5.length l s 1048576 _ b1 b2 b3 b4 b5 (by omega) (by omega)).mono ?_
  rintro e w1 ⟨⟨v1, rfl, hv1⟩, h1⟩
  replace B0 := B0.past h1
  replace Hb := Lib.hid (thenB Hb.out h1)
  have t2 : (w.alloc (.cells #[.int .i64 l, .int .i64 s, .slice A1 x1.length c1, .slice A2 x2.length c2, .slice A3 x3.length c3, .slice A4 x4.length c4, .slice A5 x5.length c5] 28)).heap.size ≤ w1.heap.size := h1.size
  clear h1
  by_cases n1 : x1.length + x2.length + x3.length + x4.length + x5.length ≤ 1048576
  case neg =>
    have v1n : v1 < 0 := by omega
    clear hv1
    go_wp2_with fail
    go_ret
    exact ⟨rfl, Hb.out⟩
  have v1n : 0 ≤ v1 := by omega
  have n1x : x1.length ≤ 1048576 := by omega
  have n2x : x2.length ≤ 1048576 := by omega
  have n3x : x3.length ≤ 1048576 := by omega
  have n4x : x4.length ≤ 1048576 := by omega
  have n5x : x5.length ≤ 1048576 := by omega
  clear hv1 n1 b1 b2 b3 b4 b5
  obtain ⟨Y, hY⟩ : ∃ Y, Y = benchOk l s x1 x2 x3 x4 x5 := ⟨_, rfl⟩
  have HS : Hid (∀ W A1 A2 A3 A4 A5 c1 c2 c3 c4 c5, Rd W W.heap.size A1 x1 → Rd W W.heap.size A2 x2 → Rd W W.heap.size A3 x3 → Rd W W.heap.size A4 x4 → Rd W W.heap.size A5 x5 → Calls Try.prog 6 #[.agg #[.int .i64 l, .int .i64 s, .slice A1 x1.length c1, .slice A2 x2.length c2, .slice A3 x3.length c3, .slice A4 x4.length c4, .slice A5 x5.length c5]] W fun e w' => e = .returned (.bool Y) ∧ Below W.heap.size W w') := fun W A1 A2 A3 A4 A5 c1 c2 c3 c4 c5 h1 h2 h3 h4 h5 => by rw [hY]; exact specIsBench_any l s A1 A2 A3 A4 A5 c1 c2 c3 c4 c5 x1 x2 x3 x4 x5 W h1 h2 h3 h4 h5 n1x n2x n3x n4x n5x
  have HG : Hid (∀ W A1 A2 A3 A4 A5 c1 c2 c3 c4 c5, Rd W W.heap.size A1 x1 → Rd W W.heap.size A2 x2 → Rd W W.heap.size A3 x3 → Rd W W.heap.size A4 x4 → Rd W W.heap.size A5 x5 → Calls Try.prog 8 #[.agg #[.int .i64 l, .int .i64 s, .slice A1 x1.length c1, .slice A2 x2.length c2, .slice A3 x3.length c3, .slice A4 x4.length c4, .slice A5 x5.length c5]] W fun e w' => e = .returned (.bool Y) ∧ Below W.heap.size W w') := fun W A1 A2 A3 A4 A5 c1 c2 c3 c4 c5 h1 h2 h3 h4 h5 => by rw [hY]; exact implIsBench_any l s A1 A2 A3 A4 A5 c1 c2 c3 c4 c5 x1 x2 x3 x4 x5 W h1 h2 h3 h4 h5 n1x n2x n3x n4x n5x
  clear hY
  clear B0c0 B0c1 B0c2 B0c3 B0c4 B0c5 B0c6
  have B0c0 := B0.cell 0
  have B0c1 := B0.cell 1
  have B0c2 := B0.cell 2
  have B0c3 := B0.cell 3
  have B0c4 := B0.cell 4
  have B0c5 := B0.cell 5
  have B0c6 := B0.cell 6
  simp at B0c0 B0c1 B0c2 B0c3 B0c4 B0c5 B0c6
  go_wp2_with fail
  refine (toBench_any l s A1 A2 A3 A4 A5 c1 c2 c3 c4 c5 x1 x2 x3 x4 x5 _ (Hr1.out.past Hb.out) (Hr2.out.past Hb.out) (Hr3.out.past Hb.out) (Hr4.out.past Hb.out) (Hr5.out.past Hb.out) n1x n2x n3x n4x n5x).mono ?_
  rintro e w2 ⟨Awa, cwa, Awb, cwb, Awc, cwc, Awd, cwd, Awe, cwe, rfl, Owa, Owb, Owc, Owd, Owe, Pwawb, Pwawc, Pwawd, Pwawe, Pwbwc, Pwbwd, Pwbwe, Pwcwd, Pwcwe, Pwdwe, h2⟩
  replace B0 := B0.past h2
  replace Hb := Lib.hid (thenB Hb.out h2)
  have t3 : w1.heap.size ≤ w2.heap.size := h2.size
  have Lwa := own_lo Owa
  have Uwa := own_hi Owa
  have Lwb := own_lo Owb
  have Uwb := own_hi Owb
  have Lwc := own_lo Owc
  have Uwc := own_hi Owc
  have Lwd := own_lo Owd
  have Uwd := own_hi Owd
  have Lwe := own_lo Owe
  have Uwe := own_hi Owe
  clear h2
  clear B0c0 B0c1 B0c2 B0c3 B0c4 B0c5 B0c6
  have B0c0 := B0.cell 0
  have B0c1 := B0.cell 1
  have B0c2 := B0.cell 2
  have B0c3 := B0.cell 3
  have B0c4 := B0.cell 4
  have B0c5 := B0.cell 5
  have B0c6 := B0.cell 6
  simp at B0c0 B0c1 B0c2 B0c3 B0c4 B0c5 B0c6
  go_wp2_with fail
  refine (HS.out _ Awa Awb Awc Awd Awe cwa cwb cwc cwd cwe (own_rd Owa) (own_rd Owb) (own_rd Owc) (own_rd Owd) (own_rd Owe)).mono ?_
  rintro e w3 ⟨rfl, h3⟩
  replace Owa := own_past Owa h3
  replace Owb := own_past Owb h3
  replace Owc := own_past Owc h3
  replace Owd := own_past Owd h3
  replace Owe := own_past Owe h3
  replace B0 := B0.past h3
  replace Hb := Lib.hid (thenB Hb.out h3)
  have t4 : w2.heap.size ≤ w3.heap.size := h3.size
  clear h3
  clear Owa Lwa Uwa
  clear Owb Lwb Uwb
  clear Owc Lwc Uwc
  clear Owd Lwd Uwd
  clear Owe Lwe Uwe
  clear B0c0 B0c1 B0c2 B0c3 B0c4 B0c5 B0c6
  have B0c0 := B0.cell 0
  have B0c1 := B0.cell 1
  have B0c2 := B0.cell 2
  have B0c3 := B0.cell 3
  have B0c4 := B0.cell 4
  have B0c5 := B0.cell 5
  have B0c6 := B0.cell 6
  simp at B0c0 B0c1 B0c2 B0c3 B0c4 B0c5 B0c6
  go_wp2_with fail
  refine (toBench_any l s A1 A2 A3 A4 A5 c1 c2 c3 c4 c5 x1 x2 x3 x4 x5 _ (Hr1.out.past Hb.out) (Hr2.out.past Hb.out) (Hr3.out.past Hb.out) (Hr4.out.past Hb.out) (Hr5.out.past Hb.out) n1x n2x n3x n4x n5x).mono ?_
  rintro e w4 ⟨Aka, cka, Akb, ckb, Akc, ckc, Akd, ckd, Ake, cke, rfl, Oka, Okb, Okc, Okd, Oke, Pkakb, Pkakc, Pkakd, Pkake, Pkbkc, Pkbkd, Pkbke, Pkckd, Pkcke, Pkdke, h4⟩
  replace B0 := B0.past h4
  replace Hb := Lib.hid (thenB Hb.out h4)
  have t5 : w3.heap.size ≤ w4.heap.size := h4.size
  have Lka := own_lo Oka
  have Uka := own_hi Oka
  have Lkb := own_lo Okb
  have Ukb := own_hi Okb
  have Lkc := own_lo Okc
  have Ukc := own_hi Okc
  have Lkd := own_lo Okd
  have Ukd := own_hi Okd
  have Lke := own_lo Oke
  have Uke := own_hi Oke
  clear h4
  have bx : Below w4.heap.size w4 (w4.alloc (.cells #[.int .i64 l, .int .i64 s, .slice Aka x1.length cka, .slice Akb x2.length ckb, .slice Akc x3.length ckc, .slice Akd x4.length ckd, .slice Ake x5.length cke] 35)) := (Below.refl _ _).alloc (Nat.le_refl _) _
  have Sk := Blk.new w4 35 #[.int .i64 l, .int .i64 s, .slice Aka x1.length cka, .slice Akb x2.length ckb, .slice Akc x3.length ckc, .slice Akd x4.length ckd, .slice Ake x5.length cke]
  have VSk : w4.heap.size < (w4.alloc (.cells #[.int .i64 l, .int .i64 s, .slice Aka x1.length cka, .slice Akb x2.length ckb, .slice Akc x3.length ckc, .slice Akd x4.length ckd, .slice Ake x5.length cke] 35)).heap.size := by simp
  replace Oka := own_past Oka bx
  replace Okb := own_past Okb bx
  replace Okc := own_past Okc bx
  replace Okd := own_past Okd bx
  replace Oke := own_past Oke bx
  replace B0 := B0.past bx
  replace Hb := Lib.hid (thenB Hb.out bx)
  clear bx
  clear B0c0 B0c1 B0c2 B0c3 B0c4 B0c5 B0c6
  have B0c0 := B0.cell 0
  have B0c1 := B0.cell 1
  have B0c2 := B0.cell 2
  have B0c3 := B0.cell 3
  have B0c4 := B0.cell 4
  have B0c5 := B0.cell 5
  have B0c6 := B0.cell 6
  have Skc0 := Sk.cell 0
  have Skc1 := Sk.cell 1
  have Skc2 := Sk.cell 2
  have Skc3 := Sk.cell 3
  have Skc4 := Sk.cell 4
  have Skc5 := Sk.cell 5
  have Skc6 := Sk.cell 6
  simp at B0c0 B0c1 B0c2 B0c3 B0c4 B0c5 B0c6 Skc0 Skc1 Skc2 Skc3 Skc4 Skc5 Skc6
  go_wp2_with fail
  refine (HG.out _ Aka Akb Akc Akd Ake cka ckb ckc ckd cke (own_rd Oka) (own_rd Okb) (own_rd Okc) (own_rd Okd) (own_rd Oke)).mono ?_
  rintro e w5 ⟨rfl, h5⟩
  replace Oka := own_past Oka h5
  replace Okb := own_past Okb h5
  replace Okc := own_past Okc h5
  replace Okd := own_past Okd h5
  replace Oke := own_past Oke h5
  replace B0 := B0.past h5
  replace Sk := Sk.past h5
  replace Hb := Lib.hid (thenB Hb.out h5)
  have t7 : (w4.alloc (.cells #[.int .i64 l, .int .i64 s, .slice Aka x1.length cka, .slice Akb x2.length ckb, .slice Akc x3.length ckc, .slice Akd x4.length ckd, .slice Ake x5.length cke] 35)).heap.size ≤ w5.heap.size := h5.size
  clear h5
  have tb : (Y != Y) = false := by simp
  go_wp2_with fail
  have bx : Below w5.heap.size w5 w5.drew := (Below.refl _ _).drew
  replace Oka := own_past Oka bx
  replace Okb := own_past Okb bx
  replace Okc := own_past Okc bx
  replace Okd := own_past Okd bx
  replace Oke := own_past Oke bx
  replace B0 := B0.past bx
  replace Sk := Sk.past bx
  replace Hb := Lib.hid (thenB Hb.out bx)
  clear bx
  have t8 : w5.heap.size ≤ w5.drew.heap.size := Nat.le_refl _
  clear B0c0 B0c1 B0c2 B0c3 B0c4 B0c5 B0c6 Skc0 Skc1 Skc2 Skc3 Skc4 Skc5 Skc6
  have B0c0 := B0.cell 0
  have B0c1 := B0.cell 1
  have B0c2 := B0.cell 2
  have B0c3 := B0.cell 3
  have B0c4 := B0.cell 4
  have B0c5 := B0.cell 5
  have B0c6 := B0.cell 6
  have Skc0 := Sk.cell 0
  have Skc1 := Sk.cell 1
  have Skc2 := Sk.cell 2
  have Skc3 := Sk.cell 3
  have Skc4 := Sk.cell 4
  have Skc5 := Sk.cell 5
  have Skc6 := Sk.cell 6
  simp at B0c0 B0c1 B0c2 B0c3 B0c4 B0c5 B0c6 Skc0 Skc1 Skc2 Skc3 Skc4 Skc5 Skc6
  go_wp2_with fail
  go_region_held3 (fun w' => w'.cell? ⟨w4.heap.size, 0, none⟩ = some (.int .i64 l) ∧ w'.cell? ⟨w4.heap.size, 1, none⟩ = some (.int .i64 s) ∧ w'.cell? ⟨w4.heap.size, 2, none⟩ = some (.slice Aka x1.length cka) ∧ w'.cell? ⟨w4.heap.size, 3, none⟩ = some (.slice Akb x2.length ckb) ∧ w'.cell? ⟨w4.heap.size, 4, none⟩ = some (.slice Akc x3.length ckc) ∧ w'.cell? ⟨w4.heap.size, 5, none⟩ = some (.slice Akd x4.length ckd) ∧ w'.cell? ⟨w4.heap.size, 6, none⟩ = some (.slice Ake x5.length cke) ∧ w'.cell? ⟨w.heap.size, 0, none⟩ = some (.int .i64 l) ∧ w'.cell? ⟨w.heap.size, 1, none⟩ = some (.int .i64 s) ∧ w'.cell? ⟨w.heap.size, 2, none⟩ = some (.slice A1 x1.length c1) ∧ w'.cell? ⟨w.heap.size, 3, none⟩ = some (.slice A2 x2.length c2) ∧ w'.cell? ⟨w.heap.size, 4, none⟩ = some (.slice A3 x3.length c3) ∧ w'.cell? ⟨w.heap.size, 5, none⟩ = some (.slice A4 x4.length c4) ∧ w'.cell? ⟨w.heap.size, 6, none⟩ = some (.slice A5 x5.length c5)) (first | go_keep)
    (first
      | (go_at_call 7; clear B0c0 B0c1 B0c2 B0c3 B0c4 B0c5 B0c6 Skc0 Skc1 Skc2 Skc3 Skc4 Skc5 Skc6; have B0c0 := B0.cell 0; have B0c1 := B0.cell 1; have B0c2 := B0.cell 2; have B0c3 := B0.cell 3; have B0c4 := B0.cell 4; have B0c5 := B0.cell 5; have B0c6 := B0.cell 6; have Skc0 := Sk.cell 0; have Skc1 := Sk.cell 1; have Skc2 := Sk.cell 2; have Skc3 := Sk.cell 3; have Skc4 := Sk.cell 4; have Skc5 := Sk.cell 5; have Skc6 := Sk.cell 6; simp at B0c0 B0c1 B0c2 B0c3 B0c4 B0c5 B0c6 Skc0 Skc1 Skc2 Skc3 Skc4 Skc5 Skc6; refine (toBench_any l s A1 A2 A3 A4 A5 c1 c2 c3 c4 c5 x1 x2 x3 x4 x5 _ (Hr1.out.past Hb.out) (Hr2.out.past Hb.out) (Hr3.out.past Hb.out) (Hr4.out.past Hb.out) (Hr5.out.past Hb.out) n1x n2x n3x n4x n5x).mono ?_; rintro e w6 ⟨Ama, cma, Amb, cmb, Amc, cmc, Amd, cmd, Ame, cme, rfl, Oma, Omb, Omc, Omd, Ome, Pmamb, Pmamc, Pmamd, Pmame, Pmbmc, Pmbmd, Pmbme, Pmcmd, Pmcme, Pmdme, h6⟩; replace Oka := own_past Oka h6; replace Okb := own_past Okb h6; replace Okc := own_past Okc h6; replace Okd := own_past Okd h6; replace Oke := own_past Oke h6; replace B0 := B0.past h6; replace Sk := Sk.past h6; replace Hb := Lib.hid (thenB Hb.out h6); have t9 : w5.drew.heap.size ≤ w6.heap.size := h6.size; have Lma := own_lo Oma; have Uma := own_hi Oma; have Lmb := own_lo Omb; have Umb := own_hi Omb; have Lmc := own_lo Omc; have Umc := own_hi Omc; have Lmd := own_lo Omd; have Umd := own_hi Omd; have Lme := own_lo Ome; have Ume := own_hi Ome; clear h6; clear B0c0 B0c1 B0c2 B0c3 B0c4 B0c5 B0c6 Skc0 Skc1 Skc2 Skc3 Skc4 Skc5 Skc6; have B0c0 := B0.cell 0; have B0c1 := B0.cell 1; have B0c2 := B0.cell 2; have B0c3 := B0.cell 3; have B0c4 := B0.cell 4; have B0c5 := B0.cell 5; have B0c6 := B0.cell 6; have Skc0 := Sk.cell 0; have Skc1 := Sk.cell 1; have Skc2 := Sk.cell 2; have Skc3 := Sk.cell 3; have Skc4 := Sk.cell 4; have Skc5 := Sk.cell 5; have Skc6 := Sk.cell 6; simp at B0c0 B0c1 B0c2 B0c3 B0c4 B0c5 B0c6 Skc0 Skc1 Skc2 Skc3 Skc4 Skc5 Skc6)
      | (go_at_call 9; clear B0c0 B0c1 B0c2 B0c3 B0c4 B0c5 B0c6 Skc0 Skc1 Skc2 Skc3 Skc4 Skc5 Skc6; have B0c0 := B0.cell 0; have B0c1 := B0.cell 1; have B0c2 := B0.cell 2; have B0c3 := B0.cell 3; have B0c4 := B0.cell 4; have B0c5 := B0.cell 5; have B0c6 := B0.cell 6; have Skc0 := Sk.cell 0; have Skc1 := Sk.cell 1; have Skc2 := Sk.cell 2; have Skc3 := Sk.cell 3; have Skc4 := Sk.cell 4; have Skc5 := Sk.cell 5; have Skc6 := Sk.cell 6; simp at B0c0 B0c1 B0c2 B0c3 B0c4 B0c5 B0c6 Skc0 Skc1 Skc2 Skc3 Skc4 Skc5 Skc6; refine (eqBench_same Aka Akb Akc Akd Ake Ama Amb Amc Amd Ame cka ckb ckc ckd cke cma cmb cmc cmd cme x1 x2 x3 x4 x5 l s _ (own_rd Oka) (own_rd Okb) (own_rd Okc) (own_rd Okd) (own_rd Oke) (own_rd Oma) (own_rd Omb) (own_rd Omc) (own_rd Omd) (own_rd Ome) n1x n2x n3x n4x n5x).mono ?_; rintro e w7 ⟨rfl, h7⟩; replace Oka := own_past Oka h7; replace Okb := own_past Okb h7; replace Okc := own_past Okc h7; replace Okd := own_past Okd h7; replace Oke := own_past Oke h7; replace Oma := own_past Oma h7; replace Omb := own_past Omb h7; replace Omc := own_past Omc h7; replace Omd := own_past Omd h7; replace Ome := own_past Ome h7; replace B0 := B0.past h7; replace Sk := Sk.past h7; replace Hb := Lib.hid (thenB Hb.out h7); have t10 : w6.heap.size ≤ w7.heap.size := h7.size; clear h7; clear B0c0 B0c1 B0c2 B0c3 B0c4 B0c5 B0c6 Skc0 Skc1 Skc2 Skc3 Skc4 Skc5 Skc6; have B0c0 := B0.cell 0; have B0c1 := B0.cell 1; have B0c2 := B0.cell 2; have B0c3 := B0.cell 3; have B0c4 := B0.cell 4; have B0c5 := B0.cell 5; have B0c6 := B0.cell 6; have Skc0 := Sk.cell 0; have Skc1 := Sk.cell 1; have Skc2 := Sk.cell 2; have Skc3 := Sk.cell 3; have Skc4 := Sk.cell 4; have Skc5 := Sk.cell 5; have Skc6 := Sk.cell 6; simp at B0c0 B0c1 B0c2 B0c3 B0c4 B0c5 B0c6 Skc0 Skc1 Skc2 Skc3 Skc4 Skc5 Skc6))
  go_wp2_with fail
  go_ret
  exact ⟨rfl, Hb.out⟩
set_option maxRecDepth 100000 in
theorem lifted (os : Os) (started : os.Started) (H : Type) (enc : TypeId × Value → H) :
    ReturnsInHanded {} Try.checked os 3 .any (Rows.fnExactIsBenchSpec.pre6 enc Try.prog Try.f3 Rows.fnExactIsBenchRow.domain false) (Rows.fnExactIsBenchSpec.post enc Try.prog Try.f3 false true false false) := by
  refine returnsInHanded_of_change (C := Try.checked) own started (by kernel_rfl) Try.func3
    (ChangeSpec.witness6 (enc := enc) (C := Try.checked) false ⟨#[], #[.agg #[.int .i64 0, .int .i64 0, .slice none 0 0, .slice none 0 0, .slice none 0 0, .slice none 0 0, .slice none 0 0]], []⟩ 8 (by kernel_rfl) (by kernel_rfl) (by kernel_rfl) (by kernel_rfl)) ?_
  intro W base args ds gs before hval0 hW hcnd _
  have hval : ∀ (j : Nat) t v, Try.f3.params[j]? = some t → args[j]? = some v → Value.okWide Try.prog W .any base t v := hval0
  have hW' := hW
  obtain ⟨p, q, hA0, hV, rfl, hfz, hnd⟩ := hW
  have hA : DataW.TrodAll enc Try.prog W 0 (fun _ => true) true Try.f3.params.toList args.toList ds p := hA0
  rw [Try.params3] at hA hval
  obtain ⟨v0, vs0, d0, ds0, p0, q0, hargs, rfl, rfl, h0, g0⟩ := trodAll_cons hA
  obtain ⟨rfl, rfl, rfl⟩ := trodAll_nil g0
  obtain rfl : args = #[v0] := by cases args; simp_all
  obtain ⟨rfl, rfl⟩ := trodVars_none hV
  have k0 := h0
  have lt0 : ∀ x ∈ p0, x.block < W.heap.size := by obtain ⟨m, hm⟩ := k0; exact DataW.trod_lt m _ _ _ hm
  obtain ⟨L0, S0, A0_1, X0_1, C0_1, A0_2, X0_2, C0_2, A0_3, X0_3, C0_3, A0_4, X0_4, C0_4, A0_5, X0_5, C0_5, rfl, la0_1, ma0_1, ra0_1, la0_2, ma0_2, ra0_2, la0_3, ma0_3, ra0_3, la0_4, ma0_4, ra0_4, la0_5, ma0_5, ra0_5⟩ := arg_be Try.underlying28 Try.underlying26 Try.underlying23 (by kernel_rfl) (by refine ⟨by kernel_rfl, by kernel_rfl, by kernel_rfl, by kernel_rfl, by kernel_rfl, by kernel_rfl, by kernel_rfl, by kernel_rfl, by kernel_rfl, by kernel_rfl⟩) (by refine ⟨by kernel_rfl, by kernel_rfl, by kernel_rfl, by kernel_rfl⟩) (by refine ⟨by kernel_rfl, by kernel_rfl, by kernel_rfl, by kernel_rfl⟩) Try.underlying3 Try.underlying3 Try.underlying24 Try.underlying24 Try.underlying24 Try.underlying24 Try.underlying24 Try.underlying3 (by kernel_rfl) (hval 0 28 v0 rfl rfl) h0
  clear hA0 hval0
  refine (walkw W L0 S0 A0_1 X0_1 C0_1 la0_1 ma0_1 ra0_1 A0_2 X0_2 C0_2 la0_2 ma0_2 ra0_2 A0_3 X0_3 C0_3 la0_3 ma0_3 ra0_3 A0_4 X0_4 C0_4 la0_4 ma0_4 ra0_4 A0_5 X0_5 C0_5 la0_5 ma0_5 ra0_5).mono fun e W' ⟨he, bel⟩ => ?_
  subst he
  exact ⟨_, rfl, _, _, _, [], _, [], hW', trodAll_mk1 (shut_bool Try.underlying4 _), (trodAll_cons_mk (Below.trod laidOut (by kernel_rfl) (of_decide_eq_true (by kernel_rfl)) k0 bel lt0) trodAll_mk0), rfl, bel.frame _, fun h => by cases h⟩
theorem over : Rows.fnExactIsBenchRow.holds Try.pinned (OpenSpec.ofChange Rows.fnExactIsBenchSpec) :=
  OpenClaim.holds_of_wide 3 Try.f3 rfl rfl rfl rfl rfl rfl rfl ⟨rfl, rfl, rfl, rfl, rfl⟩ rfl rfl rfl rfl rfl (by kernel_rfl) Try.func3 (by kernel_rfl)
    (of_decide_eq_true (by kernel_rfl)) (by unfold Func.isWrapper; first | (rw [if_pos (by decide +kernel)]; kernel_rfl) | (rw [if_neg (by decide +kernel)]; exact ⟨rfl, rfl⟩))
    (fun os started H enc _ => lifted os started H enc)
theorem proved : Rows.FnExactIsBenchSaid := over

end Go.Proofs.Ytinecppmnnkoeaa.isBenchLaw
