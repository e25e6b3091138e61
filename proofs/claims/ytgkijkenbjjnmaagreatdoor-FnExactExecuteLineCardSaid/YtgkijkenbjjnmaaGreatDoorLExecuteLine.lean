/- The program's ExecuteLine returns what the reference's returns, for all arguments, and leaves them as they were. No condition; what the listed variables of Go's library hold is tied to its text. -/
import Derived.Test.YtgkijkenbjjnmaaGreatDoorBExecS
import Derived.Test.YtgkijkenbjjnmaaGreatDoorStrArg
import Derived.Test.YtgkijkenbjjnmaaGreatDoorCards
import Derived.Test.YtgkijkenbjjnmaaGreatDoorTie
import Derived.Lay
import Derived.LaidOnce
import Derived.SevenTiedAt
namespace Go.Proofs.YtgkijkenbjjnmaaGreatDoor.executeLineLaw
open Go.ChangeShapes Go.WideShapes Go.ChangeAt Go.RowKit
set_option linter.unusedVariables false
set_option linter.unusedSimpArgs false
theorem exec_fit {X : Be} {l : List UInt8} (h : X.coefs.length ≤ 1048576 ∧ X.memory.length ≤ 1048576 ∧ X.input.length ≤ 1048576 ∧ X.output.length ≤ 1048576 ∧ X.errors.length ≤ 1048576) :
    (exec X l).1.coefs.length ≤ 1048576 ∧ (exec X l).1.memory.length ≤ 1048576 ∧ (exec X l).1.input.length ≤ 1048576 ∧ (exec X l).1.output.length ≤ 1048576 ∧ (exec X l).1.errors.length ≤ 1048576 := by
  rcases Bool.eq_false_or_eq_true X.ok with hX | hX
  · have := ok_lens (exec_ok (l := l) hX)
    omega
  · rw [exec_bad hX]; exact h
set_option maxRecDepth 100000 in
set_option maxHeartbeats 4000000 in
theorem walkw (w : World) (l s : Int) (A1 : Option Addr) (x1 : List Int) (c1 : Nat) (l1 : x1.length ≤ c1) (m1 : c1 ≤ maxLen) (r1 : Rd w w.heap.size A1 x1) (A2 : Option Addr) (x2 : List Int) (c2 : Nat) (l2 : x2.length ≤ c2) (m2 : c2 ≤ maxLen) (r2 : Rd w w.heap.size A2 x2) (A3 : Option Addr) (x3 : List Int) (c3 : Nat) (l3 : x3.length ≤ c3) (m3 : c3 ≤ maxLen) (r3 : Rd w w.heap.size A3 x3) (A4 : Option Addr) (x4 : List Int) (c4 : Nat) (l4 : x4.length ≤ c4) (m4 : c4 ≤ maxLen) (r4 : Rd w w.heap.size A4 x4) (A5 : Option Addr) (x5 : List Int) (c5 : Nat) (l5 : x5.length ≤ c5) (m5 : c5 ≤ maxLen) (r5 : Rd w w.heap.size A5 x5) (a0 : ByteArray) (w0 : a0.size ≤ maxLen) :
    Calls Tryz.prog 6 #[.agg #[.int .i64 l, .int .i64 s, .slice A1 x1.length c1, .slice A2 x2.length c2, .slice A3 x3.length c3, .slice A4 x4.length c4, .slice A5 x5.length c5], .string a0] w fun e w' => e = .returned (.bool true) ∧ Below w.heap.size w w' := by
  unfold maxLen at w0 m1 m2 m3 m4 m5
  have b1 : x1.length ≤ 9223372036854775807 := by omega
  have b2 : x2.length ≤ 9223372036854775807 := by omega
  have b3 : x3.length ≤ 9223372036854775807 := by omega
  have b4 : x4.length ≤ 9223372036854775807 := by omega
  have b5 : x5.length ≤ 9223372036854775807 := by omega
  have Hr1 := Lib.hid r1
  have Hr2 := Lib.hid r2
  have Hr3 := Lib.hid r3
  have Hr4 := Lib.hid r4
  have Hr5 := Lib.hid r5
  clear r1 r2 r3 r4 r5 l1 l2 l3 l4 l5 m1 m2 m3 m4 m5
  by_cases n0 : a0.size ≤ 1048576
  case neg =>
    have n0x : 1048576 < a0.size := by omega
    clear n0
    go_enter Tryz.func6, Tryz.ntmps6
    go_wp2
    go_ret
    exact ⟨rfl, (Below.refl _ _).alloc (by simp) _⟩
  clear w0
  have Hb : Hid (Below w.heap.size w w) := Below.refl _ _
  have bx : Below w.heap.size w (w.alloc (.cells #[.int .i64 l, .int .i64 s, .slice A1 x1.length c1, .slice A2 x2.length c2, .slice A3 x3.length c3, .slice A4 x4.length c4, .slice A5 x5.length c5] 60)) := (Below.refl _ _).alloc (Nat.le_refl _) _
  have B0 := Blk.new w 60 #[.int .i64 l, .int .i64 s, .slice A1 x1.length c1, .slice A2 x2.length c2, .slice A3 x3.length c3, .slice A4 x4.length c4, .slice A5 x5.length c5]
  have VB0 : w.heap.size < (w.alloc (.cells #[.int .i64 l, .int .i64 s, .slice A1 x1.length c1, .slice A2 x2.length c2, .slice A3 x3.length c3, .slice A4 x4.length c4, .slice A5 x5.length c5] 60)).heap.size := by simp
  replace Hb := Lib.hid (thenB Hb.out bx)
  clear bx
  go_enter Tryz.func6, Tryz.ntmps6
  have B0c0 := B0.cell 0
  have B0c1 := B0.cell 1
  have B0c2 := B0.cell 2
  have B0c3 := B0.cell 3
  have B0c4 := B0.cell 4
  have B0c5 := B0.cell 5
  have B0c6 := B0.cell 6
  simp at B0c0 B0c1 B0c2 B0c3 B0c4 B0c5 B0c6
  go_wp2_with fail
  refine (szBench_any A1 A2 A3 A4 A5 c1 c2 c3 c4 c5 x1.length x2.length x3.length x4.length x5.length l s 1048576 _ b1 b2 b3 b4 b5 (by omega) (by omega)).mono ?_
  rintro e w1 ⟨⟨v1, rfl, hv1⟩, h1⟩
  replace B0 := B0.past h1
  replace Hb := Lib.hid (thenB Hb.out h1)
  have t2 : (w.alloc (.cells #[.int .i64 l, .int .i64 s, .slice A1 x1.length c1, .slice A2 x2.length c2, .slice A3 x3.length c3, .slice A4 x4.length c4, .slice A5 x5.length c5] 60)).heap.size ≤ w1.heap.size := h1.size
  clear h1
  by_cases n1 : x1.length + x2.length + x3.length + x4.length + x5.length ≤ 1048576
  case neg =>
    have v1n : v1 < 0 := by omega
    clear hv1
    go_wp2_with fail
    go_ret
    exact ⟨rfl, Hb.out⟩
  have v1n : 0 ≤ v1 := by omega
  have n1x : x1.length ≤ 1048576 := by omega
  have n2x : x2.length ≤ 1048576 := by omega
  have n3x : x3.length ≤ 1048576 := by omega
  have n4x : x4.length ≤ 1048576 := by omega
  have n5x : x5.length ≤ 1048576 := by omega
  clear hv1 n1 b1 b2 b3 b4 b5
  have hfit := exec_fit (X := ⟨l, s, x1, x2, x3, x4, x5⟩) (l := a0.data.toList) ⟨n1x, n2x, n3x, n4x, n5x⟩
  obtain ⟨R, hR⟩ : ∃ R, R = exec ⟨l, s, x1, x2, x3, x4, x5⟩ a0.data.toList := ⟨_, rfl⟩
  rw [← hR] at hfit
  obtain ⟨⟨yl, ys, y1, y2, y3, y4, y5⟩, t⟩ := R
  have HS : Hid (∀ W B1 B2 B3 B4 B5 d1 d2 d3 d4 d5, Rd W W.heap.size B1 x1 → Rd W W.heap.size B2 x2 → Rd W W.heap.size B3 x3 → Rd W W.heap.size B4 x4 → Rd W W.heap.size B5 x5 → Calls Tryz.prog 31 #[.agg #[.int .i64 l, .int .i64 s, .slice B1 x1.length d1, .slice B2 x2.length d2, .slice B3 x3.length d3, .slice B4 x4.length d4, .slice B5 x5.length d5], .string a0] W (fun e w' => ∃ A1 c1 A2 c2 A3 c3 A4 c4 A5 c5, e = .returned (.tuple #[.agg #[.int .i64 yl, .int .i64 ys, .slice A1 y1.length c1, .slice A2 y2.length c2, .slice A3 y3.length c3, .slice A4 y4.length c4, .slice A5 y5.length c5], .string (bs t)]) ∧ Own w' W.heap.size A1 c1 y1 ∧ Own w' W.heap.size A2 c2 y2 ∧ Own w' W.heap.size A3 c3 y3 ∧ Own w' W.heap.size A4 c4 y4 ∧ Own w' W.heap.size A5 c5 y5 ∧ Apart A1 A2 ∧ Apart A1 A3 ∧ Apart A1 A4 ∧ Apart A1 A5 ∧ Apart A2 A3 ∧ Apart A2 A4 ∧ Apart A2 A5 ∧ Apart A3 A4 ∧ Apart A3 A5 ∧ Apart A4 A5 ∧ Below W.heap.size W w')) := fun W B1 B2 B3 B4 B5 d1 d2 d3 d4 d5 g1 g2 g3 g4 g5 => by have h := specExec_any l s B1 B2 B3 B4 B5 d1 d2 d3 d4 d5 x1 x2 x3 x4 x5 a0 W g1 g2 g3 g4 g5 n1x n2x n3x n4x n5x (by omega); rw [← hR] at h; exact h
  have HG : Hid (∀ W B1 B2 B3 B4 B5 d1 d2 d3 d4 d5, Rd W W.heap.size B1 x1 → Rd W W.heap.size B2 x2 → Rd W W.heap.size B3 x3 → Rd W W.heap.size B4 x4 → Rd W W.heap.size B5 x5 → Calls Tryz.prog 11 #[.agg #[.int .i64 l, .int .i64 s, .slice B1 x1.length d1, .slice B2 x2.length d2, .slice B3 x3.length d3, .slice B4 x4.length d4, .slice B5 x5.length d5], .string a0] W (fun e w' => ∃ A1 c1 A2 c2 A3 c3 A4 c4 A5 c5, e = .returned (.tuple #[.agg #[.int .i64 yl, .int .i64 ys, .slice A1 y1.length c1, .slice A2 y2.length c2, .slice A3 y3.length c3, .slice A4 y4.length c4, .slice A5 y5.length c5], .string (bs t)]) ∧ Own w' W.heap.size A1 c1 y1 ∧ Own w' W.heap.size A2 c2 y2 ∧ Own w' W.heap.size A3 c3 y3 ∧ Own w' W.heap.size A4 c4 y4 ∧ Own w' W.heap.size A5 c5 y5 ∧ Apart A1 A2 ∧ Apart A1 A3 ∧ Apart A1 A4 ∧ Apart A1 A5 ∧ Apart A2 A3 ∧ Apart A2 A4 ∧ Apart A2 A5 ∧ Apart A3 A4 ∧ Apart A3 A5 ∧ Apart A4 A5 ∧ Below W.heap.size W w')) := fun W B1 B2 B3 B4 B5 d1 d2 d3 d4 d5 g1 g2 g3 g4 g5 => by have h := implExec_any l s B1 B2 B3 B4 B5 d1 d2 d3 d4 d5 x1 x2 x3 x4 x5 a0 W g1 g2 g3 g4 g5 n1x n2x n3x n4x n5x (by omega); rw [← hR] at h; exact h
  clear hR
  have k1x : y1.length ≤ 1048576 := hfit.1
  have k2x : y2.length ≤ 1048576 := hfit.2.1
  have k3x : y3.length ≤ 1048576 := hfit.2.2.1
  have k4x : y4.length ≤ 1048576 := hfit.2.2.2.1
  have k5x : y5.length ≤ 1048576 := hfit.2.2.2.2
  clear hfit
  have ts : ((bs t).toList != (bs t).toList) = false := by simp
  clear B0c0 B0c1 B0c2 B0c3 B0c4 B0c5 B0c6
  have B0c0 := B0.cell 0
  have B0c1 := B0.cell 1
  have B0c2 := B0.cell 2
  have B0c3 := B0.cell 3
  have B0c4 := B0.cell 4
  have B0c5 := B0.cell 5
  have B0c6 := B0.cell 6
  simp at B0c0 B0c1 B0c2 B0c3 B0c4 B0c5 B0c6
  go_wp2_with fail
  refine (toBench_any l s A1 A2 A3 A4 A5 c1 c2 c3 c4 c5 x1 x2 x3 x4 x5 _ (Hr1.out.past Hb.out) (Hr2.out.past Hb.out) (Hr3.out.past Hb.out) (Hr4.out.past Hb.out) (Hr5.out.past Hb.out) n1x n2x n3x n4x n5x).mono ?_
  rintro e w2 ⟨Aka, cka, Akb, ckb, Akc, ckc, Akd, ckd, Ake, cke, rfl, Oka, Okb, Okc, Okd, Oke, Pkakb, Pkakc, Pkakd, Pkake, Pkbkc, Pkbkd, Pkbke, Pkckd, Pkcke, Pkdke, h2⟩
  replace B0 := B0.past h2
  replace Hb := Lib.hid (thenB Hb.out h2)
  have t3 : w1.heap.size ≤ w2.heap.size := h2.size
  have Lka := own_lo Oka
  have Uka := own_hi Oka
  have Lkb := own_lo Okb
  have Ukb := own_hi Okb
  have Lkc := own_lo Okc
  have Ukc := own_hi Okc
  have Lkd := own_lo Okd
  have Ukd := own_hi Okd
  have Lke := own_lo Oke
  have Uke := own_hi Oke
  clear h2
  clear B0c0 B0c1 B0c2 B0c3 B0c4 B0c5 B0c6
  have B0c0 := B0.cell 0
  have B0c1 := B0.cell 1
  have B0c2 := B0.cell 2
  have B0c3 := B0.cell 3
  have B0c4 := B0.cell 4
  have B0c5 := B0.cell 5
  have B0c6 := B0.cell 6
  simp at B0c0 B0c1 B0c2 B0c3 B0c4 B0c5 B0c6
  go_wp2_with fail
  refine (HS.out _ Aka Akb Akc Akd Ake cka ckb ckc ckd cke (own_rd Oka) (own_rd Okb) (own_rd Okc) (own_rd Okd) (own_rd Oke)).mono ?_
  rintro e w3 ⟨Awa, cwa, Awb, cwb, Awc, cwc, Awd, cwd, Awe, cwe, rfl, Owa, Owb, Owc, Owd, Owe, Pwawb, Pwawc, Pwawd, Pwawe, Pwbwc, Pwbwd, Pwbwe, Pwcwd, Pwcwe, Pwdwe, h3⟩
  replace Oka := own_past Oka h3
  replace Okb := own_past Okb h3
  replace Okc := own_past Okc h3
  replace Okd := own_past Okd h3
  replace Oke := own_past Oke h3
  replace B0 := B0.past h3
  replace Hb := Lib.hid (thenB Hb.out h3)
  have t4 : w2.heap.size ≤ w3.heap.size := h3.size
  have Lwa := own_lo Owa
  have Uwa := own_hi Owa
  have Lwb := own_lo Owb
  have Uwb := own_hi Owb
  have Lwc := own_lo Owc
  have Uwc := own_hi Owc
  have Lwd := own_lo Owd
  have Uwd := own_hi Owd
  have Lwe := own_lo Owe
  have Uwe := own_hi Owe
  clear h3
  have bx : Below w3.heap.size w3 (w3.alloc (.cells #[.int .i64 yl, .int .i64 ys, .slice Awa y1.length cwa, .slice Awb y2.length cwb, .slice Awc y3.length cwc, .slice Awd y4.length cwd, .slice Awe y5.length cwe] 33)) := (Below.refl _ _).alloc (Nat.le_refl _) _
  have Sw := Blk.new w3 33 #[.int .i64 yl, .int .i64 ys, .slice Awa y1.length cwa, .slice Awb y2.length cwb, .slice Awc y3.length cwc, .slice Awd y4.length cwd, .slice Awe y5.length cwe]
  have VSw : w3.heap.size < (w3.alloc (.cells #[.int .i64 yl, .int .i64 ys, .slice Awa y1.length cwa, .slice Awb y2.length cwb, .slice Awc y3.length cwc, .slice Awd y4.length cwd, .slice Awe y5.length cwe] 33)).heap.size := by simp
  replace Oka := own_past Oka bx
  replace Okb := own_past Okb bx
  replace Okc := own_past Okc bx
  replace Okd := own_past Okd bx
  replace Oke := own_past Oke bx
  replace Owa := own_past Owa bx
  replace Owb := own_past Owb bx
  replace Owc := own_past Owc bx
  replace Owd := own_past Owd bx
  replace Owe := own_past Owe bx
  replace B0 := B0.past bx
  replace Hb := Lib.hid (thenB Hb.out bx)
  clear bx
  clear Oka Lka Uka
  clear Okb Lkb Ukb
  clear Okc Lkc Ukc
  clear Okd Lkd Ukd
  clear Oke Lke Uke
  clear B0c0 B0c1 B0c2 B0c3 B0c4 B0c5 B0c6
  have B0c0 := B0.cell 0
  have B0c1 := B0.cell 1
  have B0c2 := B0.cell 2
  have B0c3 := B0.cell 3
  have B0c4 := B0.cell 4
  have B0c5 := B0.cell 5
  have B0c6 := B0.cell 6
  have Swc0 := Sw.cell 0
  have Swc1 := Sw.cell 1
  have Swc2 := Sw.cell 2
  have Swc3 := Sw.cell 3
  have Swc4 := Sw.cell 4
  have Swc5 := Sw.cell 5
  have Swc6 := Sw.cell 6
  simp at B0c0 B0c1 B0c2 B0c3 B0c4 B0c5 B0c6 Swc0 Swc1 Swc2 Swc3 Swc4 Swc5 Swc6
  go_wp2_with fail
  refine (toBench_any l s A1 A2 A3 A4 A5 c1 c2 c3 c4 c5 x1 x2 x3 x4 x5 _ (Hr1.out.past Hb.out) (Hr2.out.past Hb.out) (Hr3.out.past Hb.out) (Hr4.out.past Hb.out) (Hr5.out.past Hb.out) n1x n2x n3x n4x n5x).mono ?_
  rintro e w4 ⟨Aja, cja, Ajb, cjb, Ajc, cjc, Ajd, cjd, Aje, cje, rfl, Oja, Ojb, Ojc, Ojd, Oje, Pjajb, Pjajc, Pjajd, Pjaje, Pjbjc, Pjbjd, Pjbje, Pjcjd, Pjcje, Pjdje, h4⟩
  replace Owa := own_past Owa h4
  replace Owb := own_past Owb h4
  replace Owc := own_past Owc h4
  replace Owd := own_past Owd h4
  replace Owe := own_past Owe h4
  replace B0 := B0.past h4
  replace Sw := Sw.past h4
  replace Hb := Lib.hid (thenB Hb.out h4)
  have t6 : (w3.alloc (.cells #[.int .i64 yl, .int .i64 ys, .slice Awa y1.length cwa, .slice Awb y2.length cwb, .slice Awc y3.length cwc, .slice Awd y4.length cwd, .slice Awe y5.length cwe] 33)).heap.size ≤ w4.heap.size := h4.size
  have Lja := own_lo Oja
  have Uja := own_hi Oja
  have Ljb := own_lo Ojb
  have Ujb := own_hi Ojb
  have Ljc := own_lo Ojc
  have Ujc := own_hi Ojc
  have Ljd := own_lo Ojd
  have Ujd := own_hi Ojd
  have Lje := own_lo Oje
  have Uje := own_hi Oje
  clear h4
  have bx : Below w4.heap.size w4 (w4.alloc (.cells #[.int .i64 l, .int .i64 s, .slice Aja x1.length cja, .slice Ajb x2.length cjb, .slice Ajc x3.length cjc, .slice Ajd x4.length cjd, .slice Aje x5.length cje] 33)) := (Below.refl _ _).alloc (Nat.le_refl _) _
  have Sj := Blk.new w4 33 #[.int .i64 l, .int .i64 s, .slice Aja x1.length cja, .slice Ajb x2.length cjb, .slice Ajc x3.length cjc, .slice Ajd x4.length cjd, .slice Aje x5.length cje]
  have VSj : w4.heap.size < (w4.alloc (.cells #[.int .i64 l, .int .i64 s, .slice Aja x1.length cja, .slice Ajb x2.length cjb, .slice Ajc x3.length cjc, .slice Ajd x4.length cjd, .slice Aje x5.length cje] 33)).heap.size := by simp
  replace Owa := own_past Owa bx
  replace Owb := own_past Owb bx
  replace Owc := own_past Owc bx
  replace Owd := own_past Owd bx
  replace Owe := own_past Owe bx
  replace Oja := own_past Oja bx
  replace Ojb := own_past Ojb bx
  replace Ojc := own_past Ojc bx
  replace Ojd := own_past Ojd bx
  replace Oje := own_past Oje bx
  replace B0 := B0.past bx
  replace Sw := Sw.past bx
  replace Hb := Lib.hid (thenB Hb.out bx)
  clear bx
  clear B0c0 B0c1 B0c2 B0c3 B0c4 B0c5 B0c6 Swc0 Swc1 Swc2 Swc3 Swc4 Swc5 Swc6
  have B0c0 := B0.cell 0
  have B0c1 := B0.cell 1
  have B0c2 := B0.cell 2
  have B0c3 := B0.cell 3
  have B0c4 := B0.cell 4
  have B0c5 := B0.cell 5
  have B0c6 := B0.cell 6
  have Swc0 := Sw.cell 0
  have Swc1 := Sw.cell 1
  have Swc2 := Sw.cell 2
  have Swc3 := Sw.cell 3
  have Swc4 := Sw.cell 4
  have Swc5 := Sw.cell 5
  have Swc6 := Sw.cell 6
  have Sjc0 := Sj.cell 0
  have Sjc1 := Sj.cell 1
  have Sjc2 := Sj.cell 2
  have Sjc3 := Sj.cell 3
  have Sjc4 := Sj.cell 4
  have Sjc5 := Sj.cell 5
  have Sjc6 := Sj.cell 6
  simp at B0c0 B0c1 B0c2 B0c3 B0c4 B0c5 B0c6 Swc0 Swc1 Swc2 Swc3 Swc4 Swc5 Swc6 Sjc0 Sjc1 Sjc2 Sjc3 Sjc4 Sjc5 Sjc6
  go_wp2_with fail
  refine (HG.out _ Aja Ajb Ajc Ajd Aje cja cjb cjc cjd cje (own_rd Oja) (own_rd Ojb) (own_rd Ojc) (own_rd Ojd) (own_rd Oje)).mono ?_
  rintro e w5 ⟨Aga, cga, Agb, cgb, Agc, cgc, Agd, cgd, Age, cge, rfl, Oga, Ogb, Ogc, Ogd, Oge, Pgagb, Pgagc, Pgagd, Pgage, Pgbgc, Pgbgd, Pgbge, Pgcgd, Pgcge, Pgdge, h5⟩
  replace Owa := own_past Owa h5
  replace Owb := own_past Owb h5
  replace Owc := own_past Owc h5
  replace Owd := own_past Owd h5
  replace Owe := own_past Owe h5
  replace Oja := own_past Oja h5
  replace Ojb := own_past Ojb h5
  replace Ojc := own_past Ojc h5
  replace Ojd := own_past Ojd h5
  replace Oje := own_past Oje h5
  replace B0 := B0.past h5
  replace Sw := Sw.past h5
  replace Sj := Sj.past h5
  replace Hb := Lib.hid (thenB Hb.out h5)
  have t8 : (w4.alloc (.cells #[.int .i64 l, .int .i64 s, .slice Aja x1.length cja, .slice Ajb x2.length cjb, .slice Ajc x3.length cjc, .slice Ajd x4.length cjd, .slice Aje x5.length cje] 33)).heap.size ≤ w5.heap.size := h5.size
  have Lga := own_lo Oga
  have Uga := own_hi Oga
  have Lgb := own_lo Ogb
  have Ugb := own_hi Ogb
  have Lgc := own_lo Ogc
  have Ugc := own_hi Ogc
  have Lgd := own_lo Ogd
  have Ugd := own_hi Ogd
  have Lge := own_lo Oge
  have Uge := own_hi Oge
  clear h5
  have bx : Below w5.heap.size w5 (w5.alloc (.cells #[.int .i64 yl, .int .i64 ys, .slice Aga y1.length cga, .slice Agb y2.length cgb, .slice Agc y3.length cgc, .slice Agd y4.length cgd, .slice Age y5.length cge] 33)) := (Below.refl _ _).alloc (Nat.le_refl _) _
  have Sg := Blk.new w5 33 #[.int .i64 yl, .int .i64 ys, .slice Aga y1.length cga, .slice Agb y2.length cgb, .slice Agc y3.length cgc, .slice Agd y4.length cgd, .slice Age y5.length cge]
  have VSg : w5.heap.size < (w5.alloc (.cells #[.int .i64 yl, .int .i64 ys, .slice Aga y1.length cga, .slice Agb y2.length cgb, .slice Agc y3.length cgc, .slice Agd y4.length cgd, .slice Age y5.length cge] 33)).heap.size := by simp
  replace Owa := own_past Owa bx
  replace Owb := own_past Owb bx
  replace Owc := own_past Owc bx
  replace Owd := own_past Owd bx
  replace Owe := own_past Owe bx
  replace Oja := own_past Oja bx
  replace Ojb := own_past Ojb bx
  replace Ojc := own_past Ojc bx
  replace Ojd := own_past Ojd bx
  replace Oje := own_past Oje bx
  replace Oga := own_past Oga bx
  replace Ogb := own_past Ogb bx
  replace Ogc := own_past Ogc bx
  replace Ogd := own_past Ogd bx
  replace Oge := own_past Oge bx
  replace B0 := B0.past bx
  replace Sw := Sw.past bx
  replace Sj := Sj.past bx
  replace Hb := Lib.hid (thenB Hb.out bx)
  clear bx
  clear B0c0 B0c1 B0c2 B0c3 B0c4 B0c5 B0c6 Swc0 Swc1 Swc2 Swc3 Swc4 Swc5 Swc6 Sjc0 Sjc1 Sjc2 Sjc3 Sjc4 Sjc5 Sjc6
  have B0c0 := B0.cell 0
  have B0c1 := B0.cell 1
  have B0c2 := B0.cell 2
  have B0c3 := B0.cell 3
  have B0c4 := B0.cell 4
  have B0c5 := B0.cell 5
  have B0c6 := B0.cell 6
  have Swc0 := Sw.cell 0
  have Swc1 := Sw.cell 1
  have Swc2 := Sw.cell 2
  have Swc3 := Sw.cell 3
  have Swc4 := Sw.cell 4
  have Swc5 := Sw.cell 5
  have Swc6 := Sw.cell 6
  have Sjc0 := Sj.cell 0
  have Sjc1 := Sj.cell 1
  have Sjc2 := Sj.cell 2
  have Sjc3 := Sj.cell 3
  have Sjc4 := Sj.cell 4
  have Sjc5 := Sj.cell 5
  have Sjc6 := Sj.cell 6
  have Sgc0 := Sg.cell 0
  have Sgc1 := Sg.cell 1
  have Sgc2 := Sg.cell 2
  have Sgc3 := Sg.cell 3
  have Sgc4 := Sg.cell 4
  have Sgc5 := Sg.cell 5
  have Sgc6 := Sg.cell 6
  simp at B0c0 B0c1 B0c2 B0c3 B0c4 B0c5 B0c6 Swc0 Swc1 Swc2 Swc3 Swc4 Swc5 Swc6 Sjc0 Sjc1 Sjc2 Sjc3 Sjc4 Sjc5 Sjc6 Sgc0 Sgc1 Sgc2 Sgc3 Sgc4 Sgc5 Sgc6
  go_wp2_with fail
  refine (eqBench_same Aga Agb Agc Agd Age Awa Awb Awc Awd Awe cga cgb cgc cgd cge cwa cwb cwc cwd cwe y1 y2 y3 y4 y5 yl ys _ (own_rd Oga) (own_rd Ogb) (own_rd Ogc) (own_rd Ogd) (own_rd Oge) (own_rd Owa) (own_rd Owb) (own_rd Owc) (own_rd Owd) (own_rd Owe) k1x k2x k3x k4x k5x).mono ?_
  rintro e w6 ⟨rfl, h6⟩
  replace Owa := own_past Owa h6
  replace Owb := own_past Owb h6
  replace Owc := own_past Owc h6
  replace Owd := own_past Owd h6
  replace Owe := own_past Owe h6
  replace Oja := own_past Oja h6
  replace Ojb := own_past Ojb h6
  replace Ojc := own_past Ojc h6
  replace Ojd := own_past Ojd h6
  replace Oje := own_past Oje h6
  replace Oga := own_past Oga h6
  replace Ogb := own_past Ogb h6
  replace Ogc := own_past Ogc h6
  replace Ogd := own_past Ogd h6
  replace Oge := own_past Oge h6
  replace B0 := B0.past h6
  replace Sw := Sw.past h6
  replace Sj := Sj.past h6
  replace Sg := Sg.past h6
  replace Hb := Lib.hid (thenB Hb.out h6)
  have t10 : (w5.alloc (.cells #[.int .i64 yl, .int .i64 ys, .slice Aga y1.length cga, .slice Agb y2.length cgb, .slice Agc y3.length cgc, .slice Agd y4.length cgd, .slice Age y5.length cge] 33)).heap.size ≤ w6.heap.size := h6.size
  clear h6
  go_wp2_with fail
  have bx : Below w6.heap.size w6 w6.drew := (Below.refl _ _).drew
  replace Owa := own_past Owa bx
  replace Owb := own_past Owb bx
  replace Owc := own_past Owc bx
  replace Owd := own_past Owd bx
  replace Owe := own_past Owe bx
  replace Oja := own_past Oja bx
  replace Ojb := own_past Ojb bx
  replace Ojc := own_past Ojc bx
  replace Ojd := own_past Ojd bx
  replace Oje := own_past Oje bx
  replace Oga := own_past Oga bx
  replace Ogb := own_past Ogb bx
  replace Ogc := own_past Ogc bx
  replace Ogd := own_past Ogd bx
  replace Oge := own_past Oge bx
  replace B0 := B0.past bx
  replace Sw := Sw.past bx
  replace Sj := Sj.past bx
  replace Sg := Sg.past bx
  replace Hb := Lib.hid (thenB Hb.out bx)
  clear bx
  have t11 : w6.heap.size ≤ w6.drew.heap.size := Nat.le_refl _
  clear B0c0 B0c1 B0c2 B0c3 B0c4 B0c5 B0c6 Swc0 Swc1 Swc2 Swc3 Swc4 Swc5 Swc6 Sjc0 Sjc1 Sjc2 Sjc3 Sjc4 Sjc5 Sjc6 Sgc0 Sgc1 Sgc2 Sgc3 Sgc4 Sgc5 Sgc6
  have B0c0 := B0.cell 0
  have B0c1 := B0.cell 1
  have B0c2 := B0.cell 2
  have B0c3 := B0.cell 3
  have B0c4 := B0.cell 4
  have B0c5 := B0.cell 5
  have B0c6 := B0.cell 6
  have Swc0 := Sw.cell 0
  have Swc1 := Sw.cell 1
  have Swc2 := Sw.cell 2
  have Swc3 := Sw.cell 3
  have Swc4 := Sw.cell 4
  have Swc5 := Sw.cell 5
  have Swc6 := Sw.cell 6
  have Sjc0 := Sj.cell 0
  have Sjc1 := Sj.cell 1
  have Sjc2 := Sj.cell 2
  have Sjc3 := Sj.cell 3
  have Sjc4 := Sj.cell 4
  have Sjc5 := Sj.cell 5
  have Sjc6 := Sj.cell 6
  have Sgc0 := Sg.cell 0
  have Sgc1 := Sg.cell 1
  have Sgc2 := Sg.cell 2
  have Sgc3 := Sg.cell 3
  have Sgc4 := Sg.cell 4
  have Sgc5 := Sg.cell 5
  have Sgc6 := Sg.cell 6
  simp at B0c0 B0c1 B0c2 B0c3 B0c4 B0c5 B0c6 Swc0 Swc1 Swc2 Swc3 Swc4 Swc5 Swc6 Sjc0 Sjc1 Sjc2 Sjc3 Sjc4 Sjc5 Sjc6 Sgc0 Sgc1 Sgc2 Sgc3 Sgc4 Sgc5 Sgc6
  go_wp2_with fail
  go_region_held3 (fun w' => w'.cell? ⟨w4.heap.size, 0, none⟩ = some (.int .i64 l) ∧ w'.cell? ⟨w4.heap.size, 1, none⟩ = some (.int .i64 s) ∧ w'.cell? ⟨w4.heap.size, 2, none⟩ = some (.slice Aja x1.length cja) ∧ w'.cell? ⟨w4.heap.size, 3, none⟩ = some (.slice Ajb x2.length cjb) ∧ w'.cell? ⟨w4.heap.size, 4, none⟩ = some (.slice Ajc x3.length cjc) ∧ w'.cell? ⟨w4.heap.size, 5, none⟩ = some (.slice Ajd x4.length cjd) ∧ w'.cell? ⟨w4.heap.size, 6, none⟩ = some (.slice Aje x5.length cje) ∧ w'.cell? ⟨w.heap.size, 0, none⟩ = some (.int .i64 l) ∧ w'.cell? ⟨w.heap.size, 1, none⟩ = some (.int .i64 s) ∧ w'.cell? ⟨w.heap.size, 2, none⟩ = some (.slice A1 x1.length c1) ∧ w'.cell? ⟨w.heap.size, 3, none⟩ = some (.slice A2 x2.length c2) ∧ w'.cell? ⟨w.heap.size, 4, none⟩ = some (.slice A3 x3.length c3) ∧ w'.cell? ⟨w.heap.size, 5, none⟩ = some (.slice A4 x4.length c4) ∧ w'.cell? ⟨w.heap.size, 6, none⟩ = some (.slice A5 x5.length c5)) (first | go_keep)
    (first
      | (go_at_call 32; clear B0c0 B0c1 B0c2 B0c3 B0c4 B0c5 B0c6 Swc0 Swc1 Swc2 Swc3 Swc4 Swc5 Swc6 Sjc0 Sjc1 Sjc2 Sjc3 Sjc4 Sjc5 Sjc6 Sgc0 Sgc1 Sgc2 Sgc3 Sgc4 Sgc5 Sgc6; have B0c0 := B0.cell 0; have B0c1 := B0.cell 1; have B0c2 := B0.cell 2; have B0c3 := B0.cell 3; have B0c4 := B0.cell 4; have B0c5 := B0.cell 5; have B0c6 := B0.cell 6; have Swc0 := Sw.cell 0; have Swc1 := Sw.cell 1; have Swc2 := Sw.cell 2; have Swc3 := Sw.cell 3; have Swc4 := Sw.cell 4; have Swc5 := Sw.cell 5; have Swc6 := Sw.cell 6; have Sjc0 := Sj.cell 0; have Sjc1 := Sj.cell 1; have Sjc2 := Sj.cell 2; have Sjc3 := Sj.cell 3; have Sjc4 := Sj.cell 4; have Sjc5 := Sj.cell 5; have Sjc6 := Sj.cell 6; have Sgc0 := Sg.cell 0; have Sgc1 := Sg.cell 1; have Sgc2 := Sg.cell 2; have Sgc3 := Sg.cell 3; have Sgc4 := Sg.cell 4; have Sgc5 := Sg.cell 5; have Sgc6 := Sg.cell 6; simp at B0c0 B0c1 B0c2 B0c3 B0c4 B0c5 B0c6 Swc0 Swc1 Swc2 Swc3 Swc4 Swc5 Swc6 Sjc0 Sjc1 Sjc2 Sjc3 Sjc4 Sjc5 Sjc6 Sgc0 Sgc1 Sgc2 Sgc3 Sgc4 Sgc5 Sgc6; refine (toBench_any l s A1 A2 A3 A4 A5 c1 c2 c3 c4 c5 x1 x2 x3 x4 x5 _ (Hr1.out.past Hb.out) (Hr2.out.past Hb.out) (Hr3.out.past Hb.out) (Hr4.out.past Hb.out) (Hr5.out.past Hb.out) n1x n2x n3x n4x n5x).mono ?_; rintro e w7 ⟨Ama, cma, Amb, cmb, Amc, cmc, Amd, cmd, Ame, cme, rfl, Oma, Omb, Omc, Omd, Ome, Pmamb, Pmamc, Pmamd, Pmame, Pmbmc, Pmbmd, Pmbme, Pmcmd, Pmcme, Pmdme, h7⟩; replace Owa := own_past Owa h7; replace Owb := own_past Owb h7; replace Owc := own_past Owc h7; replace Owd := own_past Owd h7; replace Owe := own_past Owe h7; replace Oja := own_past Oja h7; replace Ojb := own_past Ojb h7; replace Ojc := own_past Ojc h7; replace Ojd := own_past Ojd h7; replace Oje := own_past Oje h7; replace Oga := own_past Oga h7; replace Ogb := own_past Ogb h7; replace Ogc := own_past Ogc h7; replace Ogd := own_past Ogd h7; replace Oge := own_past Oge h7; replace B0 := B0.past h7; replace Sw := Sw.past h7; replace Sj := Sj.past h7; replace Sg := Sg.past h7; replace Hb := Lib.hid (thenB Hb.out h7); have t12 : w6.drew.heap.size ≤ w7.heap.size := h7.size; have Lma := own_lo Oma; have Uma := own_hi Oma; have Lmb := own_lo Omb; have Umb := own_hi Omb; have Lmc := own_lo Omc; have Umc := own_hi Omc; have Lmd := own_lo Omd; have Umd := own_hi Omd; have Lme := own_lo Ome; have Ume := own_hi Ome; clear h7; clear B0c0 B0c1 B0c2 B0c3 B0c4 B0c5 B0c6 Swc0 Swc1 Swc2 Swc3 Swc4 Swc5 Swc6 Sjc0 Sjc1 Sjc2 Sjc3 Sjc4 Sjc5 Sjc6 Sgc0 Sgc1 Sgc2 Sgc3 Sgc4 Sgc5 Sgc6; have B0c0 := B0.cell 0; have B0c1 := B0.cell 1; have B0c2 := B0.cell 2; have B0c3 := B0.cell 3; have B0c4 := B0.cell 4; have B0c5 := B0.cell 5; have B0c6 := B0.cell 6; have Swc0 := Sw.cell 0; have Swc1 := Sw.cell 1; have Swc2 := Sw.cell 2; have Swc3 := Sw.cell 3; have Swc4 := Sw.cell 4; have Swc5 := Sw.cell 5; have Swc6 := Sw.cell 6; have Sjc0 := Sj.cell 0; have Sjc1 := Sj.cell 1; have Sjc2 := Sj.cell 2; have Sjc3 := Sj.cell 3; have Sjc4 := Sj.cell 4; have Sjc5 := Sj.cell 5; have Sjc6 := Sj.cell 6; have Sgc0 := Sg.cell 0; have Sgc1 := Sg.cell 1; have Sgc2 := Sg.cell 2; have Sgc3 := Sg.cell 3; have Sgc4 := Sg.cell 4; have Sgc5 := Sg.cell 5; have Sgc6 := Sg.cell 6; simp at B0c0 B0c1 B0c2 B0c3 B0c4 B0c5 B0c6 Swc0 Swc1 Swc2 Swc3 Swc4 Swc5 Swc6 Sjc0 Sjc1 Sjc2 Sjc3 Sjc4 Sjc5 Sjc6 Sgc0 Sgc1 Sgc2 Sgc3 Sgc4 Sgc5 Sgc6)
      | (go_at_call 33; clear B0c0 B0c1 B0c2 B0c3 B0c4 B0c5 B0c6 Swc0 Swc1 Swc2 Swc3 Swc4 Swc5 Swc6 Sjc0 Sjc1 Sjc2 Sjc3 Sjc4 Sjc5 Sjc6 Sgc0 Sgc1 Sgc2 Sgc3 Sgc4 Sgc5 Sgc6; have B0c0 := B0.cell 0; have B0c1 := B0.cell 1; have B0c2 := B0.cell 2; have B0c3 := B0.cell 3; have B0c4 := B0.cell 4; have B0c5 := B0.cell 5; have B0c6 := B0.cell 6; have Swc0 := Sw.cell 0; have Swc1 := Sw.cell 1; have Swc2 := Sw.cell 2; have Swc3 := Sw.cell 3; have Swc4 := Sw.cell 4; have Swc5 := Sw.cell 5; have Swc6 := Sw.cell 6; have Sjc0 := Sj.cell 0; have Sjc1 := Sj.cell 1; have Sjc2 := Sj.cell 2; have Sjc3 := Sj.cell 3; have Sjc4 := Sj.cell 4; have Sjc5 := Sj.cell 5; have Sjc6 := Sj.cell 6; have Sgc0 := Sg.cell 0; have Sgc1 := Sg.cell 1; have Sgc2 := Sg.cell 2; have Sgc3 := Sg.cell 3; have Sgc4 := Sg.cell 4; have Sgc5 := Sg.cell 5; have Sgc6 := Sg.cell 6; simp at B0c0 B0c1 B0c2 B0c3 B0c4 B0c5 B0c6 Swc0 Swc1 Swc2 Swc3 Swc4 Swc5 Swc6 Sjc0 Sjc1 Sjc2 Sjc3 Sjc4 Sjc5 Sjc6 Sgc0 Sgc1 Sgc2 Sgc3 Sgc4 Sgc5 Sgc6; refine (eqBench_same Aja Ajb Ajc Ajd Aje Ama Amb Amc Amd Ame cja cjb cjc cjd cje cma cmb cmc cmd cme x1 x2 x3 x4 x5 l s _ (own_rd Oja) (own_rd Ojb) (own_rd Ojc) (own_rd Ojd) (own_rd Oje) (own_rd Oma) (own_rd Omb) (own_rd Omc) (own_rd Omd) (own_rd Ome) n1x n2x n3x n4x n5x).mono ?_; rintro e w8 ⟨rfl, h8⟩; replace Owa := own_past Owa h8; replace Owb := own_past Owb h8; replace Owc := own_past Owc h8; replace Owd := own_past Owd h8; replace Owe := own_past Owe h8; replace Oja := own_past Oja h8; replace Ojb := own_past Ojb h8; replace Ojc := own_past Ojc h8; replace Ojd := own_past Ojd h8; replace Oje := own_past Oje h8; replace Oga := own_past Oga h8; replace Ogb := own_past Ogb h8; replace Ogc := own_past Ogc h8; replace Ogd := own_past Ogd h8; replace Oge := own_past Oge h8; replace Oma := own_past Oma h8; replace Omb := own_past Omb h8; replace Omc := own_past Omc h8; replace Omd := own_past Omd h8; replace Ome := own_past Ome h8; replace B0 := B0.past h8; replace Sw := Sw.past h8; replace Sj := Sj.past h8; replace Sg := Sg.past h8; replace Hb := Lib.hid (thenB Hb.out h8); have t13 : w7.heap.size ≤ w8.heap.size := h8.size; clear h8; clear B0c0 B0c1 B0c2 B0c3 B0c4 B0c5 B0c6 Swc0 Swc1 Swc2 Swc3 Swc4 Swc5 Swc6 Sjc0 Sjc1 Sjc2 Sjc3 Sjc4 Sjc5 Sjc6 Sgc0 Sgc1 Sgc2 Sgc3 Sgc4 Sgc5 Sgc6; have B0c0 := B0.cell 0; have B0c1 := B0.cell 1; have B0c2 := B0.cell 2; have B0c3 := B0.cell 3; have B0c4 := B0.cell 4; have B0c5 := B0.cell 5; have B0c6 := B0.cell 6; have Swc0 := Sw.cell 0; have Swc1 := Sw.cell 1; have Swc2 := Sw.cell 2; have Swc3 := Sw.cell 3; have Swc4 := Sw.cell 4; have Swc5 := Sw.cell 5; have Swc6 := Sw.cell 6; have Sjc0 := Sj.cell 0; have Sjc1 := Sj.cell 1; have Sjc2 := Sj.cell 2; have Sjc3 := Sj.cell 3; have Sjc4 := Sj.cell 4; have Sjc5 := Sj.cell 5; have Sjc6 := Sj.cell 6; have Sgc0 := Sg.cell 0; have Sgc1 := Sg.cell 1; have Sgc2 := Sg.cell 2; have Sgc3 := Sg.cell 3; have Sgc4 := Sg.cell 4; have Sgc5 := Sg.cell 5; have Sgc6 := Sg.cell 6; simp at B0c0 B0c1 B0c2 B0c3 B0c4 B0c5 B0c6 Swc0 Swc1 Swc2 Swc3 Swc4 Swc5 Swc6 Sjc0 Sjc1 Sjc2 Sjc3 Sjc4 Sjc5 Sjc6 Sgc0 Sgc1 Sgc2 Sgc3 Sgc4 Sgc5 Sgc6))
  clear Oma Lma Uma
  clear Omb Lmb Umb
  clear Omc Lmc Umc
  clear Omd Lmd Umd
  clear Ome Lme Ume
  clear B0c0 B0c1 B0c2 B0c3 B0c4 B0c5 B0c6 Swc0 Swc1 Swc2 Swc3 Swc4 Swc5 Swc6 Sjc0 Sjc1 Sjc2 Sjc3 Sjc4 Sjc5 Sjc6 Sgc0 Sgc1 Sgc2 Sgc3 Sgc4 Sgc5 Sgc6
  have B0c0 := B0.cell 0
  have B0c1 := B0.cell 1
  have B0c2 := B0.cell 2
  have B0c3 := B0.cell 3
  have B0c4 := B0.cell 4
  have B0c5 := B0.cell 5
  have B0c6 := B0.cell 6
  have Swc0 := Sw.cell 0
  have Swc1 := Sw.cell 1
  have Swc2 := Sw.cell 2
  have Swc3 := Sw.cell 3
  have Swc4 := Sw.cell 4
  have Swc5 := Sw.cell 5
  have Swc6 := Sw.cell 6
  have Sjc0 := Sj.cell 0
  have Sjc1 := Sj.cell 1
  have Sjc2 := Sj.cell 2
  have Sjc3 := Sj.cell 3
  have Sjc4 := Sj.cell 4
  have Sjc5 := Sj.cell 5
  have Sjc6 := Sj.cell 6
  have Sgc0 := Sg.cell 0
  have Sgc1 := Sg.cell 1
  have Sgc2 := Sg.cell 2
  have Sgc3 := Sg.cell 3
  have Sgc4 := Sg.cell 4
  have Sgc5 := Sg.cell 5
  have Sgc6 := Sg.cell 6
  simp at B0c0 B0c1 B0c2 B0c3 B0c4 B0c5 B0c6 Swc0 Swc1 Swc2 Swc3 Swc4 Swc5 Swc6 Sjc0 Sjc1 Sjc2 Sjc3 Sjc4 Sjc5 Sjc6 Sgc0 Sgc1 Sgc2 Sgc3 Sgc4 Sgc5 Sgc6
  go_wp2_with fail
  refine (markBench_any Aja Ajb Ajc Ajd Aje _ _ _ _ _ cja cjb cjc cjd cje x1 x2 x3 x4 x5 l s (1) _ Oja Ojb Ojc Ojd Oje (Pjajb) (Pjajc) (Pjajd) (Pjaje) (Pjbjc) (Pjbjd) (Pjbje) (Pjcjd) (Pjcje) (Pjdje) (by omega) (by omega) (by omega) (by omega) (by omega) (by omega) (by omega)).mono ?_
  rintro e w9 ⟨wm9a, wm9b, wm9c, wm9d, rfl, Oja, Ojb, Ojc, Ojd, Oje, h9a, h9b, h9c, h9d, h9e⟩
  replace Owa := own_wrote Owa h9a (apart_lt Uwa Lja (by omega))
  replace Owb := own_wrote Owb h9a (apart_lt Uwb Lja (by omega))
  replace Owc := own_wrote Owc h9a (apart_lt Uwc Lja (by omega))
  replace Owd := own_wrote Owd h9a (apart_lt Uwd Lja (by omega))
  replace Owe := own_wrote Owe h9a (apart_lt Uwe Lja (by omega))
  replace Oga := own_wrote Oga h9a (apart_gt Lga Uja (by omega))
  replace Ogb := own_wrote Ogb h9a (apart_gt Lgb Uja (by omega))
  replace Ogc := own_wrote Ogc h9a (apart_gt Lgc Uja (by omega))
  replace Ogd := own_wrote Ogd h9a (apart_gt Lgd Uja (by omega))
  replace Oge := own_wrote Oge h9a (apart_gt Lge Uja (by omega))
  replace B0 := blk_wrote B0 h9a Lja (by omega)
  replace Sw := blk_wrote Sw h9a Lja (by omega)
  replace Sj := blk_wrote_hi Sj h9a Uja (by omega)
  replace Sg := blk_wrote_hi Sg h9a Uja (by omega)
  replace Hb := Lib.hid (Hb.out.trans (below_wrote h9a Hb.out.size (lo_le Lja (by omega))))
  have t14 : w8.heap.size ≤ wm9a.heap.size := h9a.size
  replace Owa := own_wrote Owa h9b (apart_lt Uwa Ljb (by omega))
  replace Owb := own_wrote Owb h9b (apart_lt Uwb Ljb (by omega))
  replace Owc := own_wrote Owc h9b (apart_lt Uwc Ljb (by omega))
  replace Owd := own_wrote Owd h9b (apart_lt Uwd Ljb (by omega))
  replace Owe := own_wrote Owe h9b (apart_lt Uwe Ljb (by omega))
  replace Oga := own_wrote Oga h9b (apart_gt Lga Ujb (by omega))
  replace Ogb := own_wrote Ogb h9b (apart_gt Lgb Ujb (by omega))
  replace Ogc := own_wrote Ogc h9b (apart_gt Lgc Ujb (by omega))
  replace Ogd := own_wrote Ogd h9b (apart_gt Lgd Ujb (by omega))
  replace Oge := own_wrote Oge h9b (apart_gt Lge Ujb (by omega))
  replace B0 := blk_wrote B0 h9b Ljb (by omega)
  replace Sw := blk_wrote Sw h9b Ljb (by omega)
  replace Sj := blk_wrote_hi Sj h9b Ujb (by omega)
  replace Sg := blk_wrote_hi Sg h9b Ujb (by omega)
  replace Hb := Lib.hid (Hb.out.trans (below_wrote h9b Hb.out.size (lo_le Ljb (by omega))))
  have t15 : wm9a.heap.size ≤ wm9b.heap.size := h9b.size
  replace Owa := own_wrote Owa h9c (apart_lt Uwa Ljc (by omega))
  replace Owb := own_wrote Owb h9c (apart_lt Uwb Ljc (by omega))
  replace Owc := own_wrote Owc h9c (apart_lt Uwc Ljc (by omega))
  replace Owd := own_wrote Owd h9c (apart_lt Uwd Ljc (by omega))
  replace Owe := own_wrote Owe h9c (apart_lt Uwe Ljc (by omega))
  replace Oga := own_wrote Oga h9c (apart_gt Lga Ujc (by omega))
  replace Ogb := own_wrote Ogb h9c (apart_gt Lgb Ujc (by omega))
  replace Ogc := own_wrote Ogc h9c (apart_gt Lgc Ujc (by omega))
  replace Ogd := own_wrote Ogd h9c (apart_gt Lgd Ujc (by omega))
  replace Oge := own_wrote Oge h9c (apart_gt Lge Ujc (by omega))
  replace B0 := blk_wrote B0 h9c Ljc (by omega)
  replace Sw := blk_wrote Sw h9c Ljc (by omega)
  replace Sj := blk_wrote_hi Sj h9c Ujc (by omega)
  replace Sg := blk_wrote_hi Sg h9c Ujc (by omega)
  replace Hb := Lib.hid (Hb.out.trans (below_wrote h9c Hb.out.size (lo_le Ljc (by omega))))
  have t16 : wm9b.heap.size ≤ wm9c.heap.size := h9c.size
  replace Owa := own_wrote Owa h9d (apart_lt Uwa Ljd (by omega))
  replace Owb := own_wrote Owb h9d (apart_lt Uwb Ljd (by omega))
  replace Owc := own_wrote Owc h9d (apart_lt Uwc Ljd (by omega))
  replace Owd := own_wrote Owd h9d (apart_lt Uwd Ljd (by omega))
  replace Owe := own_wrote Owe h9d (apart_lt Uwe Ljd (by omega))
  replace Oga := own_wrote Oga h9d (apart_gt Lga Ujd (by omega))
  replace Ogb := own_wrote Ogb h9d (apart_gt Lgb Ujd (by omega))
  replace Ogc := own_wrote Ogc h9d (apart_gt Lgc Ujd (by omega))
  replace Ogd := own_wrote Ogd h9d (apart_gt Lgd Ujd (by omega))
  replace Oge := own_wrote Oge h9d (apart_gt Lge Ujd (by omega))
  replace B0 := blk_wrote B0 h9d Ljd (by omega)
  replace Sw := blk_wrote Sw h9d Ljd (by omega)
  replace Sj := blk_wrote_hi Sj h9d Ujd (by omega)
  replace Sg := blk_wrote_hi Sg h9d Ujd (by omega)
  replace Hb := Lib.hid (Hb.out.trans (below_wrote h9d Hb.out.size (lo_le Ljd (by omega))))
  have t17 : wm9c.heap.size ≤ wm9d.heap.size := h9d.size
  replace Owa := own_wrote Owa h9e (apart_lt Uwa Lje (by omega))
  replace Owb := own_wrote Owb h9e (apart_lt Uwb Lje (by omega))
  replace Owc := own_wrote Owc h9e (apart_lt Uwc Lje (by omega))
  replace Owd := own_wrote Owd h9e (apart_lt Uwd Lje (by omega))
  replace Owe := own_wrote Owe h9e (apart_lt Uwe Lje (by omega))
  replace Oga := own_wrote Oga h9e (apart_gt Lga Uje (by omega))
  replace Ogb := own_wrote Ogb h9e (apart_gt Lgb Uje (by omega))
  replace Ogc := own_wrote Ogc h9e (apart_gt Lgc Uje (by omega))
  replace Ogd := own_wrote Ogd h9e (apart_gt Lgd Uje (by omega))
  replace Oge := own_wrote Oge h9e (apart_gt Lge Uje (by omega))
  replace B0 := blk_wrote B0 h9e Lje (by omega)
  replace Sw := blk_wrote Sw h9e Lje (by omega)
  replace Sj := blk_wrote_hi Sj h9e Uje (by omega)
  replace Sg := blk_wrote_hi Sg h9e Uje (by omega)
  replace Hb := Lib.hid (Hb.out.trans (below_wrote h9e Hb.out.size (lo_le Lje (by omega))))
  have t18 : wm9d.heap.size ≤ w9.heap.size := h9e.size
  clear h9a h9b h9c h9d h9e
  have kpos : ¬ (1 + (x1).length + (x2).length + (x3).length + (x4).length + (x5).length : Int) < 0 := by omega
  clear B0c0 B0c1 B0c2 B0c3 B0c4 B0c5 B0c6 Swc0 Swc1 Swc2 Swc3 Swc4 Swc5 Swc6 Sjc0 Sjc1 Sjc2 Sjc3 Sjc4 Sjc5 Sjc6 Sgc0 Sgc1 Sgc2 Sgc3 Sgc4 Sgc5 Sgc6
  have B0c0 := B0.cell 0
  have B0c1 := B0.cell 1
  have B0c2 := B0.cell 2
  have B0c3 := B0.cell 3
  have B0c4 := B0.cell 4
  have B0c5 := B0.cell 5
  have B0c6 := B0.cell 6
  have Swc0 := Sw.cell 0
  have Swc1 := Sw.cell 1
  have Swc2 := Sw.cell 2
  have Swc3 := Sw.cell 3
  have Swc4 := Sw.cell 4
  have Swc5 := Sw.cell 5
  have Swc6 := Sw.cell 6
  have Sjc0 := Sj.cell 0
  have Sjc1 := Sj.cell 1
  have Sjc2 := Sj.cell 2
  have Sjc3 := Sj.cell 3
  have Sjc4 := Sj.cell 4
  have Sjc5 := Sj.cell 5
  have Sjc6 := Sj.cell 6
  have Sgc0 := Sg.cell 0
  have Sgc1 := Sg.cell 1
  have Sgc2 := Sg.cell 2
  have Sgc3 := Sg.cell 3
  have Sgc4 := Sg.cell 4
  have Sgc5 := Sg.cell 5
  have Sgc6 := Sg.cell 6
  simp at B0c0 B0c1 B0c2 B0c3 B0c4 B0c5 B0c6 Swc0 Swc1 Swc2 Swc3 Swc4 Swc5 Swc6 Sjc0 Sjc1 Sjc2 Sjc3 Sjc4 Sjc5 Sjc6 Sgc0 Sgc1 Sgc2 Sgc3 Sgc4 Sgc5 Sgc6
  go_wp2_with fail
  refine (eqBench_same Aga Agb Agc Agd Age Awa Awb Awc Awd Awe cga cgb cgc cgd cge cwa cwb cwc cwd cwe y1 y2 y3 y4 y5 yl ys _ (own_rd Oga) (own_rd Ogb) (own_rd Ogc) (own_rd Ogd) (own_rd Oge) (own_rd Owa) (own_rd Owb) (own_rd Owc) (own_rd Owd) (own_rd Owe) k1x k2x k3x k4x k5x).mono ?_
  rintro e w10 ⟨rfl, h10⟩
  replace Owa := own_past Owa h10
  replace Owb := own_past Owb h10
  replace Owc := own_past Owc h10
  replace Owd := own_past Owd h10
  replace Owe := own_past Owe h10
  replace Oja := own_past Oja h10
  replace Ojb := own_past Ojb h10
  replace Ojc := own_past Ojc h10
  replace Ojd := own_past Ojd h10
  replace Oje := own_past Oje h10
  replace Oga := own_past Oga h10
  replace Ogb := own_past Ogb h10
  replace Ogc := own_past Ogc h10
  replace Ogd := own_past Ogd h10
  replace Oge := own_past Oge h10
  replace B0 := B0.past h10
  replace Sw := Sw.past h10
  replace Sj := Sj.past h10
  replace Sg := Sg.past h10
  replace Hb := Lib.hid (thenB Hb.out h10)
  have t19 : w9.heap.size ≤ w10.heap.size := h10.size
  clear h10
  clear B0c0 B0c1 B0c2 B0c3 B0c4 B0c5 B0c6 Swc0 Swc1 Swc2 Swc3 Swc4 Swc5 Swc6 Sjc0 Sjc1 Sjc2 Sjc3 Sjc4 Sjc5 Sjc6 Sgc0 Sgc1 Sgc2 Sgc3 Sgc4 Sgc5 Sgc6
  have B0c0 := B0.cell 0
  have B0c1 := B0.cell 1
  have B0c2 := B0.cell 2
  have B0c3 := B0.cell 3
  have B0c4 := B0.cell 4
  have B0c5 := B0.cell 5
  have B0c6 := B0.cell 6
  have Swc0 := Sw.cell 0
  have Swc1 := Sw.cell 1
  have Swc2 := Sw.cell 2
  have Swc3 := Sw.cell 3
  have Swc4 := Sw.cell 4
  have Swc5 := Sw.cell 5
  have Swc6 := Sw.cell 6
  have Sjc0 := Sj.cell 0
  have Sjc1 := Sj.cell 1
  have Sjc2 := Sj.cell 2
  have Sjc3 := Sj.cell 3
  have Sjc4 := Sj.cell 4
  have Sjc5 := Sj.cell 5
  have Sjc6 := Sj.cell 6
  have Sgc0 := Sg.cell 0
  have Sgc1 := Sg.cell 1
  have Sgc2 := Sg.cell 2
  have Sgc3 := Sg.cell 3
  have Sgc4 := Sg.cell 4
  have Sgc5 := Sg.cell 5
  have Sgc6 := Sg.cell 6
  simp at B0c0 B0c1 B0c2 B0c3 B0c4 B0c5 B0c6 Swc0 Swc1 Swc2 Swc3 Swc4 Swc5 Swc6 Sjc0 Sjc1 Sjc2 Sjc3 Sjc4 Sjc5 Sjc6 Sgc0 Sgc1 Sgc2 Sgc3 Sgc4 Sgc5 Sgc6
  go_wp2_with fail
  refine (markBench_any Aga Agb Agc Agd Age _ _ _ _ _ cga cgb cgc cgd cge y1 y2 y3 y4 y5 yl ys (1) _ Oga Ogb Ogc Ogd Oge (Pgagb) (Pgagc) (Pgagd) (Pgage) (Pgbgc) (Pgbgd) (Pgbge) (Pgcgd) (Pgcge) (Pgdge) (by omega) (by omega) (by omega) (by omega) (by omega) (by omega) (by omega)).mono ?_
  rintro e w11 ⟨wm11a, wm11b, wm11c, wm11d, rfl, Oga, Ogb, Ogc, Ogd, Oge, h11a, h11b, h11c, h11d, h11e⟩
  replace Owa := own_wrote Owa h11a (apart_lt Uwa Lga (by omega))
  replace Owb := own_wrote Owb h11a (apart_lt Uwb Lga (by omega))
  replace Owc := own_wrote Owc h11a (apart_lt Uwc Lga (by omega))
  replace Owd := own_wrote Owd h11a (apart_lt Uwd Lga (by omega))
  replace Owe := own_wrote Owe h11a (apart_lt Uwe Lga (by omega))
  replace Oja := own_wrote Oja h11a (apart_lt Uja Lga (by omega))
  replace Ojb := own_wrote Ojb h11a (apart_lt Ujb Lga (by omega))
  replace Ojc := own_wrote Ojc h11a (apart_lt Ujc Lga (by omega))
  replace Ojd := own_wrote Ojd h11a (apart_lt Ujd Lga (by omega))
  replace Oje := own_wrote Oje h11a (apart_lt Uje Lga (by omega))
  replace B0 := blk_wrote B0 h11a Lga (by omega)
  replace Sw := blk_wrote Sw h11a Lga (by omega)
  replace Sj := blk_wrote Sj h11a Lga (by omega)
  replace Sg := blk_wrote_hi Sg h11a Uga (by omega)
  replace Hb := Lib.hid (Hb.out.trans (below_wrote h11a Hb.out.size (lo_le Lga (by omega))))
  have t20 : w10.heap.size ≤ wm11a.heap.size := h11a.size
  replace Owa := own_wrote Owa h11b (apart_lt Uwa Lgb (by omega))
  replace Owb := own_wrote Owb h11b (apart_lt Uwb Lgb (by omega))
  replace Owc := own_wrote Owc h11b (apart_lt Uwc Lgb (by omega))
  replace Owd := own_wrote Owd h11b (apart_lt Uwd Lgb (by omega))
  replace Owe := own_wrote Owe h11b (apart_lt Uwe Lgb (by omega))
  replace Oja := own_wrote Oja h11b (apart_lt Uja Lgb (by omega))
  replace Ojb := own_wrote Ojb h11b (apart_lt Ujb Lgb (by omega))
  replace Ojc := own_wrote Ojc h11b (apart_lt Ujc Lgb (by omega))
  replace Ojd := own_wrote Ojd h11b (apart_lt Ujd Lgb (by omega))
  replace Oje := own_wrote Oje h11b (apart_lt Uje Lgb (by omega))
  replace B0 := blk_wrote B0 h11b Lgb (by omega)
  replace Sw := blk_wrote Sw h11b Lgb (by omega)
  replace Sj := blk_wrote Sj h11b Lgb (by omega)
  replace Sg := blk_wrote_hi Sg h11b Ugb (by omega)
  replace Hb := Lib.hid (Hb.out.trans (below_wrote h11b Hb.out.size (lo_le Lgb (by omega))))
  have t21 : wm11a.heap.size ≤ wm11b.heap.size := h11b.size
  replace Owa := own_wrote Owa h11c (apart_lt Uwa Lgc (by omega))
  replace Owb := own_wrote Owb h11c (apart_lt Uwb Lgc (by omega))
  replace Owc := own_wrote Owc h11c (apart_lt Uwc Lgc (by omega))
  replace Owd := own_wrote Owd h11c (apart_lt Uwd Lgc (by omega))
  replace Owe := own_wrote Owe h11c (apart_lt Uwe Lgc (by omega))
  replace Oja := own_wrote Oja h11c (apart_lt Uja Lgc (by omega))
  replace Ojb := own_wrote Ojb h11c (apart_lt Ujb Lgc (by omega))
  replace Ojc := own_wrote Ojc h11c (apart_lt Ujc Lgc (by omega))
  replace Ojd := own_wrote Ojd h11c (apart_lt Ujd Lgc (by omega))
  replace Oje := own_wrote Oje h11c (apart_lt Uje Lgc (by omega))
  replace B0 := blk_wrote B0 h11c Lgc (by omega)
  replace Sw := blk_wrote Sw h11c Lgc (by omega)
  replace Sj := blk_wrote Sj h11c Lgc (by omega)
  replace Sg := blk_wrote_hi Sg h11c Ugc (by omega)
  replace Hb := Lib.hid (Hb.out.trans (below_wrote h11c Hb.out.size (lo_le Lgc (by omega))))
  have t22 : wm11b.heap.size ≤ wm11c.heap.size := h11c.size
  replace Owa := own_wrote Owa h11d (apart_lt Uwa Lgd (by omega))
  replace Owb := own_wrote Owb h11d (apart_lt Uwb Lgd (by omega))
  replace Owc := own_wrote Owc h11d (apart_lt Uwc Lgd (by omega))
  replace Owd := own_wrote Owd h11d (apart_lt Uwd Lgd (by omega))
  replace Owe := own_wrote Owe h11d (apart_lt Uwe Lgd (by omega))
  replace Oja := own_wrote Oja h11d (apart_lt Uja Lgd (by omega))
  replace Ojb := own_wrote Ojb h11d (apart_lt Ujb Lgd (by omega))
  replace Ojc := own_wrote Ojc h11d (apart_lt Ujc Lgd (by omega))
  replace Ojd := own_wrote Ojd h11d (apart_lt Ujd Lgd (by omega))
  replace Oje := own_wrote Oje h11d (apart_lt Uje Lgd (by omega))
  replace B0 := blk_wrote B0 h11d Lgd (by omega)
  replace Sw := blk_wrote Sw h11d Lgd (by omega)
  replace Sj := blk_wrote Sj h11d Lgd (by omega)
  replace Sg := blk_wrote_hi Sg h11d Ugd (by omega)
  replace Hb := Lib.hid (Hb.out.trans (below_wrote h11d Hb.out.size (lo_le Lgd (by omega))))
  have t23 : wm11c.heap.size ≤ wm11d.heap.size := h11d.size
  replace Owa := own_wrote Owa h11e (apart_lt Uwa Lge (by omega))
  replace Owb := own_wrote Owb h11e (apart_lt Uwb Lge (by omega))
  replace Owc := own_wrote Owc h11e (apart_lt Uwc Lge (by omega))
  replace Owd := own_wrote Owd h11e (apart_lt Uwd Lge (by omega))
  replace Owe := own_wrote Owe h11e (apart_lt Uwe Lge (by omega))
  replace Oja := own_wrote Oja h11e (apart_lt Uja Lge (by omega))
  replace Ojb := own_wrote Ojb h11e (apart_lt Ujb Lge (by omega))
  replace Ojc := own_wrote Ojc h11e (apart_lt Ujc Lge (by omega))
  replace Ojd := own_wrote Ojd h11e (apart_lt Ujd Lge (by omega))
  replace Oje := own_wrote Oje h11e (apart_lt Uje Lge (by omega))
  replace B0 := blk_wrote B0 h11e Lge (by omega)
  replace Sw := blk_wrote Sw h11e Lge (by omega)
  replace Sj := blk_wrote Sj h11e Lge (by omega)
  replace Sg := blk_wrote_hi Sg h11e Uge (by omega)
  replace Hb := Lib.hid (Hb.out.trans (below_wrote h11e Hb.out.size (lo_le Lge (by omega))))
  have t24 : wm11d.heap.size ≤ w11.heap.size := h11e.size
  clear h11a h11b h11c h11d h11e
  clear B0c0 B0c1 B0c2 B0c3 B0c4 B0c5 B0c6 Swc0 Swc1 Swc2 Swc3 Swc4 Swc5 Swc6 Sjc0 Sjc1 Sjc2 Sjc3 Sjc4 Sjc5 Sjc6 Sgc0 Sgc1 Sgc2 Sgc3 Sgc4 Sgc5 Sgc6
  have B0c0 := B0.cell 0
  have B0c1 := B0.cell 1
  have B0c2 := B0.cell 2
  have B0c3 := B0.cell 3
  have B0c4 := B0.cell 4
  have B0c5 := B0.cell 5
  have B0c6 := B0.cell 6
  have Swc0 := Sw.cell 0
  have Swc1 := Sw.cell 1
  have Swc2 := Sw.cell 2
  have Swc3 := Sw.cell 3
  have Swc4 := Sw.cell 4
  have Swc5 := Sw.cell 5
  have Swc6 := Sw.cell 6
  have Sjc0 := Sj.cell 0
  have Sjc1 := Sj.cell 1
  have Sjc2 := Sj.cell 2
  have Sjc3 := Sj.cell 3
  have Sjc4 := Sj.cell 4
  have Sjc5 := Sj.cell 5
  have Sjc6 := Sj.cell 6
  have Sgc0 := Sg.cell 0
  have Sgc1 := Sg.cell 1
  have Sgc2 := Sg.cell 2
  have Sgc3 := Sg.cell 3
  have Sgc4 := Sg.cell 4
  have Sgc5 := Sg.cell 5
  have Sgc6 := Sg.cell 6
  simp at B0c0 B0c1 B0c2 B0c3 B0c4 B0c5 B0c6 Swc0 Swc1 Swc2 Swc3 Swc4 Swc5 Swc6 Sjc0 Sjc1 Sjc2 Sjc3 Sjc4 Sjc5 Sjc6 Sgc0 Sgc1 Sgc2 Sgc3 Sgc4 Sgc5 Sgc6
  go_wp2_with fail
  refine (heldBench_any Aga Agb Agc Agd Age cga cgb cgc cgd cge _ _ _ _ _ yl ys (1) _ (own_rd Oga) (own_rd Ogb) (own_rd Ogc) (own_rd Ogd) (own_rd Oge) (by omega) (by omega) (by omega) (by omega) (by omega) (by omega) (by omega)).mono ?_
  rintro e w12 ⟨rfl, h12⟩
  replace Owa := own_past Owa h12
  replace Owb := own_past Owb h12
  replace Owc := own_past Owc h12
  replace Owd := own_past Owd h12
  replace Owe := own_past Owe h12
  replace Oja := own_past Oja h12
  replace Ojb := own_past Ojb h12
  replace Ojc := own_past Ojc h12
  replace Ojd := own_past Ojd h12
  replace Oje := own_past Oje h12
  replace Oga := own_past Oga h12
  replace Ogb := own_past Ogb h12
  replace Ogc := own_past Ogc h12
  replace Ogd := own_past Ogd h12
  replace Oge := own_past Oge h12
  replace B0 := B0.past h12
  replace Sw := Sw.past h12
  replace Sj := Sj.past h12
  replace Sg := Sg.past h12
  replace Hb := Lib.hid (thenB Hb.out h12)
  have t25 : w11.heap.size ≤ w12.heap.size := h12.size
  clear h12
  clear B0c0 B0c1 B0c2 B0c3 B0c4 B0c5 B0c6 Swc0 Swc1 Swc2 Swc3 Swc4 Swc5 Swc6 Sjc0 Sjc1 Sjc2 Sjc3 Sjc4 Sjc5 Sjc6 Sgc0 Sgc1 Sgc2 Sgc3 Sgc4 Sgc5 Sgc6
  have B0c0 := B0.cell 0
  have B0c1 := B0.cell 1
  have B0c2 := B0.cell 2
  have B0c3 := B0.cell 3
  have B0c4 := B0.cell 4
  have B0c5 := B0.cell 5
  have B0c6 := B0.cell 6
  have Swc0 := Sw.cell 0
  have Swc1 := Sw.cell 1
  have Swc2 := Sw.cell 2
  have Swc3 := Sw.cell 3
  have Swc4 := Sw.cell 4
  have Swc5 := Sw.cell 5
  have Swc6 := Sw.cell 6
  have Sjc0 := Sj.cell 0
  have Sjc1 := Sj.cell 1
  have Sjc2 := Sj.cell 2
  have Sjc3 := Sj.cell 3
  have Sjc4 := Sj.cell 4
  have Sjc5 := Sj.cell 5
  have Sjc6 := Sj.cell 6
  have Sgc0 := Sg.cell 0
  have Sgc1 := Sg.cell 1
  have Sgc2 := Sg.cell 2
  have Sgc3 := Sg.cell 3
  have Sgc4 := Sg.cell 4
  have Sgc5 := Sg.cell 5
  have Sgc6 := Sg.cell 6
  simp at B0c0 B0c1 B0c2 B0c3 B0c4 B0c5 B0c6 Swc0 Swc1 Swc2 Swc3 Swc4 Swc5 Swc6 Sjc0 Sjc1 Sjc2 Sjc3 Sjc4 Sjc5 Sjc6 Sgc0 Sgc1 Sgc2 Sgc3 Sgc4 Sgc5 Sgc6
  go_wp2_with fail
  refine (toBench_any l s A1 A2 A3 A4 A5 c1 c2 c3 c4 c5 x1 x2 x3 x4 x5 _ (Hr1.out.past Hb.out) (Hr2.out.past Hb.out) (Hr3.out.past Hb.out) (Hr4.out.past Hb.out) (Hr5.out.past Hb.out) n1x n2x n3x n4x n5x).mono ?_
  rintro e w13 ⟨Aua, cua, Aub, cub, Auc, cuc, Aud, cud, Aue, cue, rfl, Oua, Oub, Ouc, Oud, Oue, Puaub, Puauc, Puaud, Puaue, Pubuc, Pubud, Pubue, Pucud, Pucue, Pudue, h13⟩
  replace Owa := own_past Owa h13
  replace Owb := own_past Owb h13
  replace Owc := own_past Owc h13
  replace Owd := own_past Owd h13
  replace Owe := own_past Owe h13
  replace Oja := own_past Oja h13
  replace Ojb := own_past Ojb h13
  replace Ojc := own_past Ojc h13
  replace Ojd := own_past Ojd h13
  replace Oje := own_past Oje h13
  replace Oga := own_past Oga h13
  replace Ogb := own_past Ogb h13
  replace Ogc := own_past Ogc h13
  replace Ogd := own_past Ogd h13
  replace Oge := own_past Oge h13
  replace B0 := B0.past h13
  replace Sw := Sw.past h13
  replace Sj := Sj.past h13
  replace Sg := Sg.past h13
  replace Hb := Lib.hid (thenB Hb.out h13)
  have t26 : w12.heap.size ≤ w13.heap.size := h13.size
  have Lua := own_lo Oua
  have Uua := own_hi Oua
  have Lub := own_lo Oub
  have Uub := own_hi Oub
  have Luc := own_lo Ouc
  have Uuc := own_hi Ouc
  have Lud := own_lo Oud
  have Uud := own_hi Oud
  have Lue := own_lo Oue
  have Uue := own_hi Oue
  clear h13
  clear B0c0 B0c1 B0c2 B0c3 B0c4 B0c5 B0c6 Swc0 Swc1 Swc2 Swc3 Swc4 Swc5 Swc6 Sjc0 Sjc1 Sjc2 Sjc3 Sjc4 Sjc5 Sjc6 Sgc0 Sgc1 Sgc2 Sgc3 Sgc4 Sgc5 Sgc6
  have B0c0 := B0.cell 0
  have B0c1 := B0.cell 1
  have B0c2 := B0.cell 2
  have B0c3 := B0.cell 3
  have B0c4 := B0.cell 4
  have B0c5 := B0.cell 5
  have B0c6 := B0.cell 6
  have Swc0 := Sw.cell 0
  have Swc1 := Sw.cell 1
  have Swc2 := Sw.cell 2
  have Swc3 := Sw.cell 3
  have Swc4 := Sw.cell 4
  have Swc5 := Sw.cell 5
  have Swc6 := Sw.cell 6
  have Sjc0 := Sj.cell 0
  have Sjc1 := Sj.cell 1
  have Sjc2 := Sj.cell 2
  have Sjc3 := Sj.cell 3
  have Sjc4 := Sj.cell 4
  have Sjc5 := Sj.cell 5
  have Sjc6 := Sj.cell 6
  have Sgc0 := Sg.cell 0
  have Sgc1 := Sg.cell 1
  have Sgc2 := Sg.cell 2
  have Sgc3 := Sg.cell 3
  have Sgc4 := Sg.cell 4
  have Sgc5 := Sg.cell 5
  have Sgc6 := Sg.cell 6
  simp at B0c0 B0c1 B0c2 B0c3 B0c4 B0c5 B0c6 Swc0 Swc1 Swc2 Swc3 Swc4 Swc5 Swc6 Sjc0 Sjc1 Sjc2 Sjc3 Sjc4 Sjc5 Sjc6 Sgc0 Sgc1 Sgc2 Sgc3 Sgc4 Sgc5 Sgc6
  go_wp2_with fail
  refine (HG.out _ Aua Aub Auc Aud Aue cua cub cuc cud cue (own_rd Oua) (own_rd Oub) (own_rd Ouc) (own_rd Oud) (own_rd Oue)).mono ?_
  rintro e w14 ⟨Aha, cha, Ahb, chb, Ahc, chc, Ahd, chd, Ahe, che, rfl, Oha, Ohb, Ohc, Ohd, Ohe, Phahb, Phahc, Phahd, Phahe, Phbhc, Phbhd, Phbhe, Phchd, Phche, Phdhe, h14⟩
  replace Owa := own_past Owa h14
  replace Owb := own_past Owb h14
  replace Owc := own_past Owc h14
  replace Owd := own_past Owd h14
  replace Owe := own_past Owe h14
  replace Oja := own_past Oja h14
  replace Ojb := own_past Ojb h14
  replace Ojc := own_past Ojc h14
  replace Ojd := own_past Ojd h14
  replace Oje := own_past Oje h14
  replace Oga := own_past Oga h14
  replace Ogb := own_past Ogb h14
  replace Ogc := own_past Ogc h14
  replace Ogd := own_past Ogd h14
  replace Oge := own_past Oge h14
  replace Oua := own_past Oua h14
  replace Oub := own_past Oub h14
  replace Ouc := own_past Ouc h14
  replace Oud := own_past Oud h14
  replace Oue := own_past Oue h14
  replace B0 := B0.past h14
  replace Sw := Sw.past h14
  replace Sj := Sj.past h14
  replace Sg := Sg.past h14
  replace Hb := Lib.hid (thenB Hb.out h14)
  have t27 : w13.heap.size ≤ w14.heap.size := h14.size
  have Lha := own_lo Oha
  have Uha := own_hi Oha
  have Lhb := own_lo Ohb
  have Uhb := own_hi Ohb
  have Lhc := own_lo Ohc
  have Uhc := own_hi Ohc
  have Lhd := own_lo Ohd
  have Uhd := own_hi Ohd
  have Lhe := own_lo Ohe
  have Uhe := own_hi Ohe
  clear h14
  have bx : Below w14.heap.size w14 (w14.alloc (.cells #[.int .i64 yl, .int .i64 ys, .slice Aha y1.length cha, .slice Ahb y2.length chb, .slice Ahc y3.length chc, .slice Ahd y4.length chd, .slice Ahe y5.length che] 33)) := (Below.refl _ _).alloc (Nat.le_refl _) _
  have Sh := Blk.new w14 33 #[.int .i64 yl, .int .i64 ys, .slice Aha y1.length cha, .slice Ahb y2.length chb, .slice Ahc y3.length chc, .slice Ahd y4.length chd, .slice Ahe y5.length che]
  have VSh : w14.heap.size < (w14.alloc (.cells #[.int .i64 yl, .int .i64 ys, .slice Aha y1.length cha, .slice Ahb y2.length chb, .slice Ahc y3.length chc, .slice Ahd y4.length chd, .slice Ahe y5.length che] 33)).heap.size := by simp
  replace Owa := own_past Owa bx
  replace Owb := own_past Owb bx
  replace Owc := own_past Owc bx
  replace Owd := own_past Owd bx
  replace Owe := own_past Owe bx
  replace Oja := own_past Oja bx
  replace Ojb := own_past Ojb bx
  replace Ojc := own_past Ojc bx
  replace Ojd := own_past Ojd bx
  replace Oje := own_past Oje bx
  replace Oga := own_past Oga bx
  replace Ogb := own_past Ogb bx
  replace Ogc := own_past Ogc bx
  replace Ogd := own_past Ogd bx
  replace Oge := own_past Oge bx
  replace Oua := own_past Oua bx
  replace Oub := own_past Oub bx
  replace Ouc := own_past Ouc bx
  replace Oud := own_past Oud bx
  replace Oue := own_past Oue bx
  replace Oha := own_past Oha bx
  replace Ohb := own_past Ohb bx
  replace Ohc := own_past Ohc bx
  replace Ohd := own_past Ohd bx
  replace Ohe := own_past Ohe bx
  replace B0 := B0.past bx
  replace Sw := Sw.past bx
  replace Sj := Sj.past bx
  replace Sg := Sg.past bx
  replace Hb := Lib.hid (thenB Hb.out bx)
  clear bx
  clear B0c0 B0c1 B0c2 B0c3 B0c4 B0c5 B0c6 Swc0 Swc1 Swc2 Swc3 Swc4 Swc5 Swc6 Sjc0 Sjc1 Sjc2 Sjc3 Sjc4 Sjc5 Sjc6 Sgc0 Sgc1 Sgc2 Sgc3 Sgc4 Sgc5 Sgc6
  have B0c0 := B0.cell 0
  have B0c1 := B0.cell 1
  have B0c2 := B0.cell 2
  have B0c3 := B0.cell 3
  have B0c4 := B0.cell 4
  have B0c5 := B0.cell 5
  have B0c6 := B0.cell 6
  have Swc0 := Sw.cell 0
  have Swc1 := Sw.cell 1
  have Swc2 := Sw.cell 2
  have Swc3 := Sw.cell 3
  have Swc4 := Sw.cell 4
  have Swc5 := Sw.cell 5
  have Swc6 := Sw.cell 6
  have Sjc0 := Sj.cell 0
  have Sjc1 := Sj.cell 1
  have Sjc2 := Sj.cell 2
  have Sjc3 := Sj.cell 3
  have Sjc4 := Sj.cell 4
  have Sjc5 := Sj.cell 5
  have Sjc6 := Sj.cell 6
  have Sgc0 := Sg.cell 0
  have Sgc1 := Sg.cell 1
  have Sgc2 := Sg.cell 2
  have Sgc3 := Sg.cell 3
  have Sgc4 := Sg.cell 4
  have Sgc5 := Sg.cell 5
  have Sgc6 := Sg.cell 6
  have Shc0 := Sh.cell 0
  have Shc1 := Sh.cell 1
  have Shc2 := Sh.cell 2
  have Shc3 := Sh.cell 3
  have Shc4 := Sh.cell 4
  have Shc5 := Sh.cell 5
  have Shc6 := Sh.cell 6
  simp at B0c0 B0c1 B0c2 B0c3 B0c4 B0c5 B0c6 Swc0 Swc1 Swc2 Swc3 Swc4 Swc5 Swc6 Sjc0 Sjc1 Sjc2 Sjc3 Sjc4 Sjc5 Sjc6 Sgc0 Sgc1 Sgc2 Sgc3 Sgc4 Sgc5 Sgc6 Shc0 Shc1 Shc2 Shc3 Shc4 Shc5 Shc6
  go_wp2_with fail
  refine (eqBench_same Aha Ahb Ahc Ahd Ahe Awa Awb Awc Awd Awe cha chb chc chd che cwa cwb cwc cwd cwe y1 y2 y3 y4 y5 yl ys _ (own_rd Oha) (own_rd Ohb) (own_rd Ohc) (own_rd Ohd) (own_rd Ohe) (own_rd Owa) (own_rd Owb) (own_rd Owc) (own_rd Owd) (own_rd Owe) k1x k2x k3x k4x k5x).mono ?_
  rintro e w15 ⟨rfl, h15⟩
  replace Owa := own_past Owa h15
  replace Owb := own_past Owb h15
  replace Owc := own_past Owc h15
  replace Owd := own_past Owd h15
  replace Owe := own_past Owe h15
  replace Oja := own_past Oja h15
  replace Ojb := own_past Ojb h15
  replace Ojc := own_past Ojc h15
  replace Ojd := own_past Ojd h15
  replace Oje := own_past Oje h15
  replace Oga := own_past Oga h15
  replace Ogb := own_past Ogb h15
  replace Ogc := own_past Ogc h15
  replace Ogd := own_past Ogd h15
  replace Oge := own_past Oge h15
  replace Oua := own_past Oua h15
  replace Oub := own_past Oub h15
  replace Ouc := own_past Ouc h15
  replace Oud := own_past Oud h15
  replace Oue := own_past Oue h15
  replace Oha := own_past Oha h15
  replace Ohb := own_past Ohb h15
  replace Ohc := own_past Ohc h15
  replace Ohd := own_past Ohd h15
  replace Ohe := own_past Ohe h15
  replace B0 := B0.past h15
  replace Sw := Sw.past h15
  replace Sj := Sj.past h15
  replace Sg := Sg.past h15
  replace Sh := Sh.past h15
  replace Hb := Lib.hid (thenB Hb.out h15)
  have t29 : (w14.alloc (.cells #[.int .i64 yl, .int .i64 ys, .slice Aha y1.length cha, .slice Ahb y2.length chb, .slice Ahc y3.length chc, .slice Ahd y4.length chd, .slice Ahe y5.length che] 33)).heap.size ≤ w15.heap.size := h15.size
  clear h15
  clear B0c0 B0c1 B0c2 B0c3 B0c4 B0c5 B0c6 Swc0 Swc1 Swc2 Swc3 Swc4 Swc5 Swc6 Sjc0 Sjc1 Sjc2 Sjc3 Sjc4 Sjc5 Sjc6 Sgc0 Sgc1 Sgc2 Sgc3 Sgc4 Sgc5 Sgc6 Shc0 Shc1 Shc2 Shc3 Shc4 Shc5 Shc6
  have B0c0 := B0.cell 0
  have B0c1 := B0.cell 1
  have B0c2 := B0.cell 2
  have B0c3 := B0.cell 3
  have B0c4 := B0.cell 4
  have B0c5 := B0.cell 5
  have B0c6 := B0.cell 6
  have Swc0 := Sw.cell 0
  have Swc1 := Sw.cell 1
  have Swc2 := Sw.cell 2
  have Swc3 := Sw.cell 3
  have Swc4 := Sw.cell 4
  have Swc5 := Sw.cell 5
  have Swc6 := Sw.cell 6
  have Sjc0 := Sj.cell 0
  have Sjc1 := Sj.cell 1
  have Sjc2 := Sj.cell 2
  have Sjc3 := Sj.cell 3
  have Sjc4 := Sj.cell 4
  have Sjc5 := Sj.cell 5
  have Sjc6 := Sj.cell 6
  have Sgc0 := Sg.cell 0
  have Sgc1 := Sg.cell 1
  have Sgc2 := Sg.cell 2
  have Sgc3 := Sg.cell 3
  have Sgc4 := Sg.cell 4
  have Sgc5 := Sg.cell 5
  have Sgc6 := Sg.cell 6
  have Shc0 := Sh.cell 0
  have Shc1 := Sh.cell 1
  have Shc2 := Sh.cell 2
  have Shc3 := Sh.cell 3
  have Shc4 := Sh.cell 4
  have Shc5 := Sh.cell 5
  have Shc6 := Sh.cell 6
  simp at B0c0 B0c1 B0c2 B0c3 B0c4 B0c5 B0c6 Swc0 Swc1 Swc2 Swc3 Swc4 Swc5 Swc6 Sjc0 Sjc1 Sjc2 Sjc3 Sjc4 Sjc5 Sjc6 Sgc0 Sgc1 Sgc2 Sgc3 Sgc4 Sgc5 Sgc6 Shc0 Shc1 Shc2 Shc3 Shc4 Shc5 Shc6
  go_wp2_with fail
  refine (heldBench_any Aga Agb Agc Agd Age cga cgb cgc cgd cge _ _ _ _ _ yl ys (1) _ (own_rd Oga) (own_rd Ogb) (own_rd Ogc) (own_rd Ogd) (own_rd Oge) (by omega) (by omega) (by omega) (by omega) (by omega) (by omega) (by omega)).mono ?_
  rintro e w16 ⟨rfl, h16⟩
  replace Owa := own_past Owa h16
  replace Owb := own_past Owb h16
  replace Owc := own_past Owc h16
  replace Owd := own_past Owd h16
  replace Owe := own_past Owe h16
  replace Oja := own_past Oja h16
  replace Ojb := own_past Ojb h16
  replace Ojc := own_past Ojc h16
  replace Ojd := own_past Ojd h16
  replace Oje := own_past Oje h16
  replace Oga := own_past Oga h16
  replace Ogb := own_past Ogb h16
  replace Ogc := own_past Ogc h16
  replace Ogd := own_past Ogd h16
  replace Oge := own_past Oge h16
  replace Oua := own_past Oua h16
  replace Oub := own_past Oub h16
  replace Ouc := own_past Ouc h16
  replace Oud := own_past Oud h16
  replace Oue := own_past Oue h16
  replace Oha := own_past Oha h16
  replace Ohb := own_past Ohb h16
  replace Ohc := own_past Ohc h16
  replace Ohd := own_past Ohd h16
  replace Ohe := own_past Ohe h16
  replace B0 := B0.past h16
  replace Sw := Sw.past h16
  replace Sj := Sj.past h16
  replace Sg := Sg.past h16
  replace Sh := Sh.past h16
  replace Hb := Lib.hid (thenB Hb.out h16)
  have t30 : w15.heap.size ≤ w16.heap.size := h16.size
  clear h16
  go_wp2_with fail
  go_ret
  exact ⟨rfl, Hb.out⟩
set_option maxRecDepth 100000 in
theorem lifted (os : Os) (started : os.Started) (H : Type) (enc : TypeId × Value → H) :
    ReturnsInHanded {} Tryz.checked os 6 .any (fun w args => (Rows.fnExactExecuteLineSpec.pre enc Tryz.prog Tryz.f6 [] false w args ∧ laidMetH Tryz.prog Rows.fnExactExecuteLineRow.laid w) ∧ sizedMet enc Tryz.prog Tryz.f6 (OpenSpec.ofChange Rows.fnExactExecuteLineSpec) false w args) (Rows.fnExactExecuteLineSpec.post enc Tryz.prog Tryz.f6 false true false false) := by
  refine returnsInHanded_of_change_and (C := Tryz.checked) (X := fun w _ => laidMetH Tryz.prog Rows.fnExactExecuteLineRow.laid w) (fun _ _ _ hh h => h.of_heap hh) own started (by kernel_rfl) Tryz.func6
    (ChangeSpec.witness_shaped (enc := enc) (C := Tryz.checked) (os := os) (X := fun w _ => laidMetH Tryz.prog Rows.fnExactExecuteLineRow.laid w) false (World.laidAll Tryz.prog os Rows.fnExactExecuteLineRow.laid) #[.agg #[.int .i64 0, .int .i64 0, .slice none 0 0, .slice none 0 0, .slice none 0 0, .slice none 0 0, .slice none 0 0], .string ⟨#[]⟩] 8 (World.laidAll_os _ _ _)
      (World.shaped_of_ZipB (by kernel_rfl) (by kernel_rfl)) (by kernel_rfl) (by kernel_rfl) (by kernel_rfl)
      (by rw [MakeChecks.laidMetH_plain _ _ _ (by kernel_rfl)]; exact laidMet_laidAll _ (by kernel_rfl) (by kernel_rfl))) ?_
  intro W base args ds gs before hval0 hW hcnd _ hL _
  have hval : ∀ (j : Nat) t v, Tryz.f6.params[j]? = some t → args[j]? = some v → Value.okWide Tryz.prog W .any base t v := hval0
  have hW' := hW
  obtain ⟨p, q, hA0, hV, rfl, hfz, hnd⟩ := hW
  have hA : DataW.TrodAll enc Tryz.prog W 0 (fun _ => true) true Tryz.f6.params.toList args.toList ds p := hA0
  rw [Tryz.params6] at hA hval
  obtain ⟨v0, vs0, d0, ds0, p0, q0, hargs, rfl, rfl, h0, g0⟩ := trodAll_cons hA
  obtain ⟨v1, vs1, d1, ds1, p1, q1, rfl, rfl, rfl, h1, g1⟩ := trodAll_cons g0
  obtain ⟨rfl, rfl, rfl⟩ := trodAll_nil g1
  obtain rfl : args = #[v0, v1] := by cases args; simp_all
  obtain ⟨rfl, rfl⟩ := trodVars_none hV
  have k0 := h0
  have lt0 : ∀ x ∈ p0, x.block < W.heap.size := by obtain ⟨m, hm⟩ := k0; exact DataW.trod_lt m _ _ _ hm
  have k1 := h1
  have lt1 : ∀ x ∈ p1, x.block < W.heap.size := by obtain ⟨m, hm⟩ := k1; exact DataW.trod_lt m _ _ _ hm
  obtain ⟨L0, S0, A0_1, X0_1, C0_1, A0_2, X0_2, C0_2, A0_3, X0_3, C0_3, A0_4, X0_4, C0_4, A0_5, X0_5, C0_5, rfl, la0_1, ma0_1, ra0_1, la0_2, ma0_2, ra0_2, la0_3, ma0_3, ra0_3, la0_4, ma0_4, ra0_4, la0_5, ma0_5, ra0_5⟩ := arg_be Tryz.underlying60 Tryz.underlying58 Tryz.underlying56 (by kernel_rfl) (by refine ⟨by kernel_rfl, by kernel_rfl, by kernel_rfl, by kernel_rfl, by kernel_rfl, by kernel_rfl, by kernel_rfl, by kernel_rfl, by kernel_rfl, by kernel_rfl⟩) (by refine ⟨by kernel_rfl, by kernel_rfl, by kernel_rfl, by kernel_rfl⟩) (by refine ⟨by kernel_rfl, by kernel_rfl, by kernel_rfl, by kernel_rfl⟩) Tryz.underlying3 Tryz.underlying3 Tryz.underlying25 Tryz.underlying25 Tryz.underlying25 Tryz.underlying25 Tryz.underlying25 Tryz.underlying3 (by kernel_rfl) (hval 0 60 v0 rfl rfl) h0
  obtain ⟨s1, rfl, ws1⟩ := arg_str Tryz.underlying9 (hval 1 9 v1 rfl rfl) h1
  clear hA0 hval0
  refine (walkw W L0 S0 A0_1 X0_1 C0_1 la0_1 ma0_1 ra0_1 A0_2 X0_2 C0_2 la0_2 ma0_2 ra0_2 A0_3 X0_3 C0_3 la0_3 ma0_3 ra0_3 A0_4 X0_4 C0_4 la0_4 ma0_4 ra0_4 A0_5 X0_5 C0_5 la0_5 ma0_5 ra0_5 s1 ws1).mono fun e W' ⟨he, bel⟩ => ?_
  subst he
  exact ⟨_, rfl, _, _, _, [], _, [], hW', trodAll_mk1 (shut_bool Tryz.underlying4 _), (trodAll_cons_mk (Below.trod laidOut (by kernel_rfl) (of_decide_eq_true (by kernel_rfl)) k0 bel lt0) (trodAll_cons_mk (Below.trod laidOut (by kernel_rfl) (of_decide_eq_true (by kernel_rfl)) k1 bel lt1) trodAll_mk0)), rfl, bel.frame _, fun h => by cases h⟩
theorem over : Rows.fnExactExecuteLineRow.holds Tryz.pinned (OpenSpec.ofChange Rows.fnExactExecuteLineSpec) :=
  OpenClaim.holds_of_wide 6 Tryz.f6 rfl rfl rfl rfl rfl rfl rfl ⟨rfl, rfl, rfl, rfl, rfl⟩ rfl rfl rfl rfl rfl (by kernel_rfl) Tryz.func6 (by kernel_rfl)
    (of_decide_eq_true (by kernel_rfl)) (by unfold Func.isWrapper; first | (rw [if_pos (by decide +kernel)]; kernel_rfl) | (rw [if_neg (by decide +kernel)]; exact ⟨rfl, rfl⟩))
    (fun os started H enc _ => lifted os started H enc)
theorem proved : Rows.FnExactExecuteLineCardSaid :=
  Claim7.holds_tied_plain_at .later [] [.data, .pinned] true (true, "1e1d051e5047a546fec0260843cf2203a02e44aa68992d1d67ab16c862c3e664") false over (fun _ h => by cases h) (by kernel_rfl) (fun _ h => by cases h) fnExactExecuteLine_row_tie rfl ⟨rfl, rfl⟩ (by kernel_rfl) rfl
    (fun f fn hf hfn => by
      obtain rfl : f = 6 := Option.some.inj ((show Tryz.prog.funcNamed "loop.example/g03228/laws.FnExactExecuteLine" = some 6 by kernel_rfl).symm.trans hf) |>.symm
      obtain rfl : fn = Tryz.f6 := (Option.some.inj (Tryz.func6.symm.trans hfn)).symm
      exact ⟨by kernel_rfl, fun j t ht => by
        rw [Tryz.params6] at ht
        have hm : t ∈ [60, 9] := by simpa using Array.mem_of_getElem? ht
        have hall : ([60, 9].all fun u => !Tryz.prog.wantsStandIn u) = true := by kernel_rfl
        exact (show Tryz.prog.wantsStandIn t = false by simpa using List.all_eq_true.1 hall t hm)⟩)
    (by kernel_rfl)

end Go.Proofs.YtgkijkenbjjnmaaGreatDoor.executeLineLaw
