/- Generators under the cursor: any bench; a valid bench. (Printed by mkgenb8.py.) -/
import Derived.Test.YtgkijkenbjjnmaaGreatDoorGenB7
import Derived.Test.YtgkijkenbjjnmaaGreatDoorBench2
import Derived.Test.YtgkijkenbjjnmaaGreatDoorBenIs
namespace Go.Proofs.YtgkijkenbjjnmaaGreatDoor
open Go.RowKit
set_option linter.unusedVariables false
set_option linter.unusedSimpArgs false
theorem runAny_len (l s : Int) (cs mem xs : List Int) : (runAny l s cs mem xs).y.length ≤ xs.length ∧ (runAny l s cs mem xs).e.length ≤ xs.length := by
  unfold runAny runM
  split
  · split
    · simp [runY, runE, lst]
    · simp
  · simp
set_option maxRecDepth 100000 in
set_option maxHeartbeats 4000000 in
theorem l7Any_any (g : Nat) (w : World) (hc : Cur w g) : Calls Tryz.prog 66 #[.pointer (some ⟨g, 0, none⟩)] w (RetB7 g w) := by
  have hgl := hc.lt
  obtain ⟨w1, hw1⟩ : ∃ W, W = w.alloc (.cells #[.int .i64 0, .int .i64 0, .slice none 0 0, .slice none 0 0, .slice none 0 0, .slice none 0 0, .slice none 0 0] 33) := ⟨_, rfl⟩
  have z1 : w1.heap.size = w.heap.size + 1 := by rw [hw1]; simp
  have R1 : Blk w1 w.heap.size 33 #[.int .i64 0, .int .i64 0, .slice none 0 0, .slice none 0 0, .slice none 0 0, .slice none 0 0, .slice none 0 0] := by rw [hw1]; exact Blk.new w 33 #[.int .i64 0, .int .i64 0, .slice none 0 0, .slice none 0 0, .slice none 0 0, .slice none 0 0, .slice none 0 0]
  have G1 : Gs w g w1 := by rw [hw1]; exact (Gs.start hc).past ((Below.refl _ _).alloc (Nat.le_refl _) _)
  have HW := Lib.hid hw1
  have C1 := G1.cur
  clear hc hw1
  go_enter Tryz.func66, Tryz.ntmps66
  go_upto_region 1 with fail
  rw [← HW.out]
  go_wp2_with fail
  refine (l3Any_any g _ C1).mono ?_; rintro e w2 ⟨l, s, x1, A1, c1, rfl, hX1, O1, C2, T2⟩
  replace R1 := blk_turn R1 T2 (by omega)
  replace G1 := G1.turn C2 T2
  have bx : Below w2.heap.size w2 (w2.alloc (.cells #[.int .i64 l, .int .i64 s, .slice A1 x1.length c1] 27)) := (Below.refl _ _).alloc (Nat.le_refl _) _
  have PP : Hid (P7 w g w2.heap.size l s A1 c1 x1 (w2.alloc (.cells #[.int .i64 l, .int .i64 s, .slice A1 x1.length c1] 27))) := ⟨G1.past bx, R1.past bx, Blk.new _ _ _, R1.lt, own_past (own_mono O1 (by omega)) bx, own_hi O1⟩
  clear C1 C2 T2 O1 G1 R1 bx
  go_upto_region 2 with fail
  obtain ⟨b, hb⟩ : ∃ b, b = w2.heap.size := ⟨_, rfl⟩
  obtain ⟨w3, hw3⟩ : ∃ W, W = w2.alloc (.cells #[.int .i64 l, .int .i64 s, .slice A1 x1.length c1] 27) := ⟨_, rfl⟩
  rw [← hb, ← hw3] at PP ⊢
  have hbl : w.heap.size < b := PP.out.hb
  have hb3 : b < w3.heap.size := PP.out.m.lt
  clear hb hw3
  go_cut [4] from 11 to 18 (fun u4 wx => ∃ (b4 : Nat) (A2 : Option Addr) (c2 : Nat) (x2 : List Int) (A3 : Option Addr) (c3 : Nat) (x3 : List Int) (A4 : Option Addr) (c4 : Nat) (x4 : List Int) (A5 : Option Addr) (c5 : Nat) (x5 : List Int), u4 = .pointer (some ⟨b4, 0, none⟩) ∧ Hid (E7 w g b4 l s A1 c1 x1 A2 c2 x2 A3 c3 x3 A4 c4 x4 A5 c5 x5 wx) ∧ x2.length ≤ 1100 ∧ x3.length ≤ 1100 ∧ x4.length ≤ 1100 ∧ x5.length ≤ 1100)
  case first =>
    have bd := (Below.refl w3.heap.size w3).drew
    have PD := PP.out.past bd
    have HPD := Lib.hid PD
    have ba : Below w3.heap.size w3 (w3.alloc (.cells #[.int .i64 0, .int .i64 0, .slice none 0 0, .slice none 0 0, .slice none 0 0, .slice none 0 0, .slice none 0 0] 33)).drew := ((Below.refl _ _).alloc (Nat.le_refl _) _).drew
    have PA := PP.out.past ba
    have SA : Blk (w3.alloc (.cells #[.int .i64 0, .int .i64 0, .slice none 0 0, .slice none 0 0, .slice none 0 0, .slice none 0 0, .slice none 0 0] 33)).drew w3.heap.size 33 #[.int .i64 0, .int .i64 0, .slice none 0 0, .slice none 0 0, .slice none 0 0, .slice none 0 0, .slice none 0 0] := Blk.new w3 33 #[.int .i64 0, .int .i64 0, .slice none 0 0, .slice none 0 0, .slice none 0 0, .slice none 0 0, .slice none 0 0]
    have HCD := Lib.hid PD.g.cur
    have HCA := Lib.hid PA.g.cur
    have HSA := Lib.hid SA
    have HPA := Lib.hid PA
    have nAg : Hid (∀ a, A1 = some a → a.block ≠ g) := fun a e => by have := own_lo PD.o a e; omega
    have q0 := PD.m.cell 0
    have q1 := PD.m.cell 1
    have q2 := PD.m.cell 2
    simp at q0 q1 q2
    have p0 := PA.m.cell 0
    have p1 := PA.m.cell 1
    have p2 := PA.m.cell 2
    simp at p0 p1 p2
    have nz1 : ¬ (b = w3.heap.size) := by omega
    have nz2 : ¬ (w3.heap.size = b) := by omega
    clear bd PD ba PA SA PP
    go_region_held3 (fun w' => w'.cell? ⟨b, 0, none⟩ = some (.int .i64 l) ∧ w'.cell? ⟨b, 1, none⟩ = some (.int .i64 s) ∧ w'.cell? ⟨b, 2, none⟩ = some (.slice A1 x1.length c1)) (first | go_keep)
      (first
        | (go_at_call 112; first | (replace SX := SX; (with_reducible refine (l3Input_any g l s A1 c1 x1 _ Q.g.cur (own_rd Q.o) nAg.out (by omega)).mono ?_); rintro e w5 ⟨A3, c3, x3, rfl, hx3, O3, C5, T5⟩; have N3 : ∀ a, A3 = some a → a.block ≠ w3.heap.size := fun a e => Nat.ne_of_gt (Nat.lt_of_lt_of_le (by first | omega | simp) (own_lo O3 a e)); replace SX := blk_turn SX T5 (by omega); have O3m := own_mono O3 (show w.heap.size + 1 ≤ _ by first | omega | (simp; omega)); have O2m := own_turn OM T5 (by omega); replace Q := Q.turn C5 T5; clear q0 q1 q2; have q0 := Q.m.cell 0; have q1 := Q.m.cell 1; have q2 := Q.m.cell 2; simp at q0 q1 q2; clear k0 f0 k1 f1 k2 f2 k3 f3 k4 f4 k5 f5 k6 f6; have k0 := SX.cell 0; have f0 := SX.frozen 0; have k1 := SX.cell 1; have f1 := SX.frozen 1; have k2 := SX.cell 2; have f2 := SX.frozen 2; have k3 := SX.cell 3; have f3 := SX.frozen 3; have k4 := SX.cell 4; have f4 := SX.frozen 4; have k5 := SX.cell 5; have f5 := SX.frozen 5; have k6 := SX.cell 6; have f6 := SX.frozen 6; simp at k0 k1 k2 k3 k4 k5 k6; have M := Lib.hid (e7_before Q SX (by omega) O2m O3m N2 N3); have hx23 : x2.length ≤ 1100 ∧ x3.length ≤ 1100 := ⟨hx2, hx3⟩) | (clear HSA; (with_reducible refine (l3Input_any g l s A1 c1 x1 _ Q.g.cur (own_rd Q.o) nAg.out (by omega)).mono ?_); rintro e w5 ⟨A3, c3, x3, rfl, hx3, O3, C5, T5⟩; have O3m := own_mono O3 (show w.heap.size + 1 ≤ _ by first | omega | (simp; omega)); have O2m := own_turn OM T5 (by omega); replace Q := Q.turn C5 T5; clear q0 q1 q2; have q0 := Q.m.cell 0; have q1 := Q.m.cell 1; have q2 := Q.m.cell 2; simp at q0 q1 q2; have M := Lib.hid (e7_after Q O2m O3m); have hx23 : x2.length ≤ 1100 ∧ x3.length ≤ 1100 := ⟨hx2, hx3⟩) | (have nz3 : ¬ (b = w4.heap.size) := (by omega); have nz4 : ¬ (w4.heap.size = b) := (by omega); have by_ : Below w4.heap.size w4 (w4.alloc (.cells #[.int .i64 0, .int .i64 0, .slice none 0 0, .slice none 0 0, .slice none 0 0, .slice none 0 0, .slice none 0 0] 33)) := (Below.refl _ _).alloc (Nat.le_refl _) _; have SX : Blk (w4.alloc (.cells #[.int .i64 0, .int .i64 0, .slice none 0 0, .slice none 0 0, .slice none 0 0, .slice none 0 0, .slice none 0 0] 33)) w4.heap.size 33 #[.int .i64 0, .int .i64 0, .slice none 0 0, .slice none 0 0, .slice none 0 0, .slice none 0 0, .slice none 0 0] := Blk.new w4 33 #[.int .i64 0, .int .i64 0, .slice none 0 0, .slice none 0 0, .slice none 0 0, .slice none 0 0, .slice none 0 0]; replace Q := Q.past by_; replace OM := own_past OM by_; have N2 : ∀ a, A2 = some a → a.block ≠ w4.heap.size := fun a e => Nat.ne_of_lt (U2 a e); (with_reducible refine (l3Input_any g l s A1 c1 x1 _ Q.g.cur (own_rd Q.o) nAg.out (by omega)).mono ?_); rintro e w5 ⟨A3, c3, x3, rfl, hx3, O3, C5, T5⟩; have N3 : ∀ a, A3 = some a → a.block ≠ w4.heap.size := fun a e => Nat.ne_of_gt (Nat.lt_of_lt_of_le (by first | omega | simp) (own_lo O3 a e)); replace SX := blk_turn SX T5 (by omega); have O3m := own_mono O3 (show w.heap.size + 1 ≤ _ by first | omega | (simp; omega)); have O2m := own_turn OM T5 (by omega); replace Q := Q.turn C5 T5; clear q0 q1 q2; have q0 := Q.m.cell 0; have q1 := Q.m.cell 1; have q2 := Q.m.cell 2; simp at q0 q1 q2; have k0 := SX.cell 0; have f0 := SX.frozen 0; have k1 := SX.cell 1; have f1 := SX.frozen 1; have k2 := SX.cell 2; have f2 := SX.frozen 2; have k3 := SX.cell 3; have f3 := SX.frozen 3; have k4 := SX.cell 4; have f4 := SX.frozen 4; have k5 := SX.cell 5; have f5 := SX.frozen 5; have k6 := SX.cell 6; have f6 := SX.frozen 6; simp at k0 k1 k2 k3 k4 k5 k6; have M := Lib.hid (e7_before Q SX (by omega) O2m O3m N2 N3); have hx23 : x2.length ≤ 1100 ∧ x3.length ≤ 1100 := ⟨hx2, hx3⟩))
        | (go_at_call 111; first | ((with_reducible refine (l3Memory_any g l s A1 c1 x1.length _ HCD.out (by omega)).mono ?_); rintro e w4 ⟨A2, c2, x2, rfl, hx2, O2, C4, T4⟩; have Q := HPD.out.turn C4 T4; have z4 : w3.heap.size ≤ w4.heap.size := T4.size; have OM := own_mono O2 (show w.heap.size + 1 ≤ _ by first | omega | (simp; omega)); have U2 := own_hi O2; clear p0 p1 p2; clear q0 q1 q2; have q0 := Q.m.cell 0; have q1 := Q.m.cell 1; have q2 := Q.m.cell 2; simp at q0 q1 q2) | ((with_reducible refine (l3Memory_any g l s A1 c1 x1.length _ HCA.out (by omega)).mono ?_); rintro e w4 ⟨A2, c2, x2, rfl, hx2, O2, C4, T4⟩; have Q := HPA.out.turn C4 T4; have z4 : w3.heap.size + 1 ≤ w4.heap.size := (by have := T4.size; simpa using this); have N2 : ∀ a, A2 = some a → a.block ≠ w3.heap.size := fun a e => Nat.ne_of_gt (Nat.lt_of_lt_of_le (by first | omega | simp) (own_lo O2 a e)); have OM := own_mono O2 (show w.heap.size + 1 ≤ _ by first | omega | (simp; omega)); have SX := blk_turn HSA.out T4 (by omega); clear p0 p1 p2; clear q0 q1 q2; have q0 := Q.m.cell 0; have q1 := Q.m.cell 1; have q2 := Q.m.cell 2; simp at q0 q1 q2; have k0 := SX.cell 0; have f0 := SX.frozen 0; have k1 := SX.cell 1; have f1 := SX.frozen 1; have k2 := SX.cell 2; have f2 := SX.frozen 2; have k3 := SX.cell 3; have f3 := SX.frozen 3; have k4 := SX.cell 4; have f4 := SX.frozen 4; have k5 := SX.cell 5; have f5 := SX.frozen 5; have k6 := SX.cell 6; have f6 := SX.frozen 6; simp at k0 k1 k2 k3 k4 k5 k6)))
    all_goals (go_wp2_with fail; go_meet; exact ⟨_, A2, c2, x2, A3, c3, x3, none, 0, [], none, 0, [], rfl, M, hx23.1, hx23.2, by simp, by simp⟩)
  case rest =>
    obtain ⟨b4, A2, c2, x2, A3, c3, x3, A4, c4, x4, A5, c5, x5, rfl, HE, hx2, hx3, hx4, hx5⟩ := hcut
    clear PP
    have HX1 : x1.length ≤ 1100 := by omega
    clear hX1
    have hb4 : w.heap.size < b4 := HE.out.hb
    obtain ⟨q0, q1, q2, q3, q4, q5, q6⟩ := HE.out.get
    go_wp2_with fail
    refine (specIsBench_any l s A1 A2 A3 A4 A5 c1 c2 c3 c4 c5 x1 x2 x3 x4 x5 _ (own_rd HE.out.o1) (own_rd HE.out.o2) (own_rd HE.out.o3) (own_rd HE.out.o4) (own_rd HE.out.o5) (by omega) (by omega) (by omega) (by omega) (by omega)).mono ?_; rintro e w6 ⟨rfl, h6⟩
    replace HE := Lib.hid (HE.out.past h6)
    clear h6 q0 q1 q2 q3 q4 q5 q6
    obtain ⟨bo, hbo⟩ : ∃ bo, bo = benchOk l s x1 x2 x3 x4 x5 := ⟨_, rfl⟩
    rw [← hbo]
    clear hbo
    cases bo
    · skip
      have C := HE.out.g.cur
      go_wp2_with fail
      refine (l01Once_any g 6 _ C (by omega) (by omega)).mono ?_; rintro e w11 ⟨bb, rfl, C7, T7⟩
      replace HE := Lib.hid (HE.out.turn C7 T7)
      clear C C7 T7
      cases bb
      · skip
        have HN : Hid (∀ W, ∃ X, X = newBe ∧ Calls Tryz.prog 67 #[] W (RetBe W X)) := fun W => ⟨_, rfl, specNewBench_any W⟩
        have HN2 : Hid (∃ (nl ns : Int) (y1 y2 y3 y4 y5 : List Int), (y1.length ≤ 1100 ∧ y2.length ≤ 1100 ∧ y3.length ≤ 1100 ∧ y4.length ≤ 1100 ∧ y5.length ≤ 1100) ∧ ∀ W, Calls Tryz.prog 67 #[] W (fun e w' => ∃ B1 d1 B2 d2 B3 d3 B4 d4 B5 d5, e = .returned (.agg #[.int .i64 nl, .int .i64 ns, .slice B1 y1.length d1, .slice B2 y2.length d2, .slice B3 y3.length d3, .slice B4 y4.length d4, .slice B5 y5.length d5]) ∧ Own w' W.heap.size B1 d1 y1 ∧ Own w' W.heap.size B2 d2 y2 ∧ Own w' W.heap.size B3 d3 y3 ∧ Own w' W.heap.size B4 d4 y4 ∧ Own w' W.heap.size B5 d5 y5 ∧ Below W.heap.size W w')) := ⟨2, 16, [-1], [0], [], [], [], by simp, fun W => (specNewBench_any W).mono fun e w' h => by
          obtain ⟨A1, c1, A2, c2, A3, c3, A4, c4, A5, c5, he, o1, o2, o3, o4, o5, _, _, _, _, _, _, _, _, _, _, hb⟩ := h
          exact ⟨A1, c1, A2, c2, A3, c3, A4, c4, A5, c5, he, o1, o2, o3, o4, o5, hb⟩⟩
        clear HN
        obtain ⟨nl, ns, y1, y2, y3, y4, y5, ⟨hy1, hy2, hy3, hy4, hy5⟩, hNB⟩ := HN2.out
        have HNB := Lib.hid hNB
        clear hNB HN2
        go_wp2_with fail
        refine (HNB.out _).mono ?_; rintro e w12 ⟨B1, d1, B2, d2, B3, d3, B4, d4, B5, d5, rfl, u1, u2, u3, u4, u5, h⟩
        obtain ⟨o1, n1⟩ := HE.out.fresh u1
        obtain ⟨o2, n2⟩ := HE.out.fresh u2
        obtain ⟨o3, n3⟩ := HE.out.fresh u3
        obtain ⟨o4, n4⟩ := HE.out.fresh u4
        obtain ⟨o5, n5⟩ := HE.out.fresh u5
        replace HE := Lib.hid (HE.out.past h)
        clear h u1 u2 u3 u4 u5 HNB
        obtain ⟨q0, q1, q2, q3, q4, q5, q6⟩ := HE.out.get
        obtain ⟨f0, f1, f2, f3, f4, f5, f6⟩ := HE.out.getF
        have HE2 := Lib.hid (E7.setAll (l := nl) (s := ns) HE.out o1 o2 o3 o4 o5 n1 n2 n3 n4 n5)
        clear o1 o2 o3 o4 o5 n1 n2 n3 n4 n5 HE
        go_upto_region 5 with fail
        obtain ⟨w13, hw13⟩ : ∃ W, W = (((((((w12.setCell ⟨b4, 0, none⟩ (.int .i64 nl)).setCell ⟨b4, 1, none⟩ (.int .i64 ns)).setCell ⟨b4, 2, none⟩ (.slice B1 y1.length d1)).setCell ⟨b4, 3, none⟩ (.slice B2 y2.length d2)).setCell ⟨b4, 4, none⟩ (.slice B3 y3.length d3)).setCell ⟨b4, 5, none⟩ (.slice B4 y4.length d4)).setCell ⟨b4, 6, none⟩ (.slice B5 y5.length d5)) := ⟨_, rfl⟩
        rw [← hw13] at HE2 ⊢
        clear hw13 q0 q1 q2 q3 q4 q5 q6 f0 f1 f2 f3 f4 f5 f6
        have C := HE2.out.g.cur
        go_wp2_with fail
        refine (l1Small_any g 12 16 _ C (by omega) (by omega) (by omega) (by omega)).mono ?_; rintro e w14 ⟨B6, d6, y6, rfl, hS, O6, C7, T7⟩
        have hy6 : y6.length ≤ 1100 := by have := hS.1; omega
        obtain ⟨o6, n6⟩ := HE2.out.fresh O6
        have HE := Lib.hid (HE2.out.turn C7 T7)
        clear C C7 T7 hS HE2 O6
        obtain ⟨q0, q1, q2, q3, q4, q5, q6⟩ := HE.out.get
        obtain ⟨f0, f1, f2, f3, f4, f5, f6⟩ := HE.out.getF
        have HE2 := Lib.hid (HE.out.set3 o6 n6)
        clear o6 n6 HE
        go_upto_region 6 with fail
        obtain ⟨w15, hw15⟩ : ∃ W, W = w14.setCell ⟨b4, 4, none⟩ (.slice B6 y6.length d6) := ⟨_, rfl⟩
        rw [← hw15] at HE2 ⊢
        clear hw15 q0 q1 q2 q3 q4 q5 q6 f0 f1 f2 f3 f4 f5 f6
        clear HX1 hx2 hx3 hx4 hx5 hy3
        have HE := HE2
        clear HE2
        obtain ⟨q0, q1, q2, q3, q4, q5, q6⟩ := HE.out.get
        have HL := Lib.hid (runAny_len nl ns y1 y2 y6)
        have HS := Lib.hid (fun W a b c => specRunM_any nl ns B1 d1 y1 B2 d2 y2 B6 d6 y6 W a b c (by omega) (by omega) (by omega))
        obtain ⟨⟨ys, es, ms, ok⟩, hR⟩ : ∃ R, R = runAny nl ns y1 y2 y6 := ⟨_, rfl⟩
        rw [← hR] at HL HS
        have HS2 : Hid (∀ W, Rd W W.heap.size B1 y1 → Rd W W.heap.size B2 y2 → Rd W W.heap.size B6 y6 → Calls Tryz.prog 17 #[.agg #[.int .i64 nl, .int .i64 ns, .slice B1 y1.length d1], .slice B2 y2.length d2, .slice B6 y6.length d6] W (fun e w' => ∃ D0 e0 D1 e1 D2 e2, e = .returned (.tuple #[.slice D0 ys.length e0, .slice D1 es.length e1, .slice D2 ms.length e2, .bool ok]) ∧ Own w' W.heap.size D0 e0 ys ∧ Own w' W.heap.size D1 e1 es ∧ Own w' W.heap.size D2 e2 ms ∧ Apart D0 D1 ∧ Apart D0 D2 ∧ Apart D1 D2 ∧ Below W.heap.size W w')) := HS.out
        have hys : ys.length ≤ 1100 := Nat.le_trans HL.out.1 hy6
        have hes : es.length ≤ 1100 := Nat.le_trans HL.out.2 hy6
        clear HL HS hR
        have HF := Lib.hid HE.out.getF
        go_wp2_with fail
        refine (HS2.out _ (own_rd HE.out.o1) (own_rd HE.out.o2) (own_rd HE.out.o3)).mono ?_; rintro e w16 ⟨D0, e0, D1, e1, D2, e2, rfl, Oy, Oe, _, _, _, _, h⟩
        obtain ⟨Oy', ny⟩ := HE.out.fresh Oy
        obtain ⟨Oe', ne⟩ := HE.out.fresh Oe
        replace HE := Lib.hid (HE.out.past h)
        have HOy := Lib.hid Oy'
        have HOe := Lib.hid Oe'
        have HNy := Lib.hid ny
        have HNe := Lib.hid ne
        clear h Oy Oe Oy' Oe' ny ne q0 q1 q2 q3 q4 q5 q6 HS2 HF
        cases ok
        · skip
          obtain ⟨q0, q1, q2, q3, q4, q5, q6⟩ := HE.out.get
          obtain ⟨p0, p1, p2, p3, p4, p5, p6⟩ := HE.out.res
          obtain ⟨f0, f1, f2, f3, f4, f5, f6⟩ := HE.out.resF
          obtain ⟨d0, d1, d2, d3, d4, d5, d6, HR⟩ := HE.out.done ⟨hy1, hy2, hy6, hy4, hy5⟩
          have HQ := Lib.hid HR
          clear HE HR
          go_wp2_with fail
          refine bodyPost_ret (l7Any_res rfl d0 d1 d2 d3 d4 d5 d6) rfl ?_
          exact HQ.out
        · skip
          have C := HE.out.g.cur
          go_wp2_with fail
          refine (l01Once_any g 2 _ C (by omega) (by omega)).mono ?_; rintro e w17 ⟨bb, rfl, C7, T7⟩
          replace HE := Lib.hid (HE.out.turn C7 T7)
          replace HOy := Lib.hid (own_turn HOy.out T7 (show g < w.heap.size + 1 by omega))
          replace HOe := Lib.hid (own_turn HOe.out T7 (show g < w.heap.size + 1 by omega))
          clear C C7 T7
          cases bb
          · skip
            obtain ⟨q0, q1, q2, q3, q4, q5, q6⟩ := HE.out.get
            obtain ⟨p0, p1, p2, p3, p4, p5, p6⟩ := HE.out.res
            obtain ⟨f0, f1, f2, f3, f4, f5, f6⟩ := HE.out.resF
            obtain ⟨d0, d1, d2, d3, d4, d5, d6, HR⟩ := HE.out.done ⟨hy1, hy2, hy6, hy4, hy5⟩
            have HQ := Lib.hid HR
            clear HE HR
            go_wp2_with fail
            refine bodyPost_ret (l7Any_res rfl d0 d1 d2 d3 d4 d5 d6) rfl ?_
            exact HQ.out
          · skip
            obtain ⟨q0, q1, q2, q3, q4, q5, q6⟩ := HE.out.get
            obtain ⟨f0, f1, f2, f3, f4, f5, f6⟩ := HE.out.getF
            have HE2 := Lib.hid (HE.out.set4 HOy.out HNy.out)
            go_upto_region 9 with fail
            have HOe2 := Lib.hid (own_at HOe.out 5 (.slice D0 ys.length e0) HNe.out)
            obtain ⟨w18, hw18⟩ : ∃ W, W = w17.setCell ⟨b4, 5, none⟩ (.slice D0 ys.length e0) := ⟨_, rfl⟩
            rw [← hw18] at HE2 HOe2 ⊢
            clear hw18 q0 q1 q2 q3 q4 q5 q6 f0 f1 f2 f3 f4 f5 f6 HE HOe HOy HNy
            obtain ⟨q0, q1, q2, q3, q4, q5, q6⟩ := HE2.out.get
            obtain ⟨f0, f1, f2, f3, f4, f5, f6⟩ := HE2.out.getF
            have HE := Lib.hid (HE2.out.set5 HOe2.out HNe.out)
            go_upto_region 10 with fail
            obtain ⟨w19, hw19⟩ : ∃ W, W = w18.setCell ⟨b4, 6, none⟩ (.slice D1 es.length e1) := ⟨_, rfl⟩
            rw [← hw19] at HE ⊢
            clear hw19 q0 q1 q2 q3 q4 q5 q6 f0 f1 f2 f3 f4 f5 f6 HE2 HOe2 HNe
            clear hy4 hy5
            have hy4 := hys
            have hy5 := hes
            obtain ⟨q0, q1, q2, q3, q4, q5, q6⟩ := HE.out.get
            obtain ⟨p0, p1, p2, p3, p4, p5, p6⟩ := HE.out.res
            obtain ⟨f0, f1, f2, f3, f4, f5, f6⟩ := HE.out.resF
            obtain ⟨d0, d1, d2, d3, d4, d5, d6, HR⟩ := HE.out.done ⟨hy1, hy2, hy6, hy4, hy5⟩
            have HQ := Lib.hid HR
            clear HE HR
            go_wp2_with fail
            refine bodyPost_ret (l7Any_res rfl d0 d1 d2 d3 d4 d5 d6) rfl ?_
            exact HQ.out
      · skip
        obtain ⟨q0, q1, q2, q3, q4, q5, q6⟩ := HE.out.get
        have HL := Lib.hid (runAny_len l s x1 x2 x3)
        have HS := Lib.hid (fun W a b c => specRunM_any l s A1 c1 x1 A2 c2 x2 A3 c3 x3 W a b c (by omega) (by omega) (by omega))
        obtain ⟨⟨ys, es, ms, ok⟩, hR⟩ : ∃ R, R = runAny l s x1 x2 x3 := ⟨_, rfl⟩
        rw [← hR] at HL HS
        have HS2 : Hid (∀ W, Rd W W.heap.size A1 x1 → Rd W W.heap.size A2 x2 → Rd W W.heap.size A3 x3 → Calls Tryz.prog 17 #[.agg #[.int .i64 l, .int .i64 s, .slice A1 x1.length c1], .slice A2 x2.length c2, .slice A3 x3.length c3] W (fun e w' => ∃ B0 d0 B1 d1 B2 d2, e = .returned (.tuple #[.slice B0 ys.length d0, .slice B1 es.length d1, .slice B2 ms.length d2, .bool ok]) ∧ Own w' W.heap.size B0 d0 ys ∧ Own w' W.heap.size B1 d1 es ∧ Own w' W.heap.size B2 d2 ms ∧ Apart B0 B1 ∧ Apart B0 B2 ∧ Apart B1 B2 ∧ Below W.heap.size W w')) := HS.out
        have hys : ys.length ≤ 1100 := Nat.le_trans HL.out.1 hx3
        have hes : es.length ≤ 1100 := Nat.le_trans HL.out.2 hx3
        clear HL HS hR
        have HF := Lib.hid HE.out.getF
        go_wp2_with fail
        refine (HS2.out _ (own_rd HE.out.o1) (own_rd HE.out.o2) (own_rd HE.out.o3)).mono ?_; rintro e w20 ⟨B0, d0, B1, d1, B2, d2, rfl, Oy, Oe, _, _, _, _, h⟩
        obtain ⟨Oy', ny⟩ := HE.out.fresh Oy
        obtain ⟨Oe', ne⟩ := HE.out.fresh Oe
        replace HE := Lib.hid (HE.out.past h)
        have HOy := Lib.hid Oy'
        have HOe := Lib.hid Oe'
        have HNy := Lib.hid ny
        have HNe := Lib.hid ne
        clear h Oy Oe Oy' Oe' ny ne q0 q1 q2 q3 q4 q5 q6 HS2 HF
        cases ok
        · skip
          obtain ⟨q0, q1, q2, q3, q4, q5, q6⟩ := HE.out.get
          obtain ⟨p0, p1, p2, p3, p4, p5, p6⟩ := HE.out.res
          obtain ⟨f0, f1, f2, f3, f4, f5, f6⟩ := HE.out.resF
          obtain ⟨d0, d1, d2, d3, d4, d5, d6, HR⟩ := HE.out.done ⟨HX1, hx2, hx3, hx4, hx5⟩
          have HQ := Lib.hid HR
          clear HE HR
          go_wp2_with fail
          refine bodyPost_ret (l7Any_res rfl d0 d1 d2 d3 d4 d5 d6) rfl ?_
          exact HQ.out
        · skip
          have C := HE.out.g.cur
          go_wp2_with fail
          refine (l01Once_any g 2 _ C (by omega) (by omega)).mono ?_; rintro e w21 ⟨bb, rfl, C7, T7⟩
          replace HE := Lib.hid (HE.out.turn C7 T7)
          replace HOy := Lib.hid (own_turn HOy.out T7 (show g < w.heap.size + 1 by omega))
          replace HOe := Lib.hid (own_turn HOe.out T7 (show g < w.heap.size + 1 by omega))
          clear C C7 T7
          cases bb
          · skip
            obtain ⟨q0, q1, q2, q3, q4, q5, q6⟩ := HE.out.get
            obtain ⟨p0, p1, p2, p3, p4, p5, p6⟩ := HE.out.res
            obtain ⟨f0, f1, f2, f3, f4, f5, f6⟩ := HE.out.resF
            obtain ⟨d0, d1, d2, d3, d4, d5, d6, HR⟩ := HE.out.done ⟨HX1, hx2, hx3, hx4, hx5⟩
            have HQ := Lib.hid HR
            clear HE HR
            go_wp2_with fail
            refine bodyPost_ret (l7Any_res rfl d0 d1 d2 d3 d4 d5 d6) rfl ?_
            exact HQ.out
          · skip
            obtain ⟨q0, q1, q2, q3, q4, q5, q6⟩ := HE.out.get
            obtain ⟨f0, f1, f2, f3, f4, f5, f6⟩ := HE.out.getF
            have HE2 := Lib.hid (HE.out.set4 HOy.out HNy.out)
            go_upto_region 9 with fail
            have HOe2 := Lib.hid (own_at HOe.out 5 (.slice B0 ys.length d0) HNe.out)
            obtain ⟨w22, hw22⟩ : ∃ W, W = w21.setCell ⟨b4, 5, none⟩ (.slice B0 ys.length d0) := ⟨_, rfl⟩
            rw [← hw22] at HE2 HOe2 ⊢
            clear hw22 q0 q1 q2 q3 q4 q5 q6 f0 f1 f2 f3 f4 f5 f6 HE HOe HOy HNy
            obtain ⟨q0, q1, q2, q3, q4, q5, q6⟩ := HE2.out.get
            obtain ⟨f0, f1, f2, f3, f4, f5, f6⟩ := HE2.out.getF
            have HE := Lib.hid (HE2.out.set5 HOe2.out HNe.out)
            go_upto_region 10 with fail
            obtain ⟨w23, hw23⟩ : ∃ W, W = w22.setCell ⟨b4, 6, none⟩ (.slice B1 es.length d1) := ⟨_, rfl⟩
            rw [← hw23] at HE ⊢
            clear hw23 q0 q1 q2 q3 q4 q5 q6 f0 f1 f2 f3 f4 f5 f6 HE2 HOe2 HNe
            clear hx4 hx5
            have hx4 := hys
            have hx5 := hes
            obtain ⟨q0, q1, q2, q3, q4, q5, q6⟩ := HE.out.get
            obtain ⟨p0, p1, p2, p3, p4, p5, p6⟩ := HE.out.res
            obtain ⟨f0, f1, f2, f3, f4, f5, f6⟩ := HE.out.resF
            obtain ⟨d0, d1, d2, d3, d4, d5, d6, HR⟩ := HE.out.done ⟨HX1, hx2, hx3, hx4, hx5⟩
            have HQ := Lib.hid HR
            clear HE HR
            go_wp2_with fail
            refine bodyPost_ret (l7Any_res rfl d0 d1 d2 d3 d4 d5 d6) rfl ?_
            exact HQ.out
    · skip
      obtain ⟨q0, q1, q2, q3, q4, q5, q6⟩ := HE.out.get
      have HL := Lib.hid (runAny_len l s x1 x2 x3)
      have HS := Lib.hid (fun W a b c => specRunM_any l s A1 c1 x1 A2 c2 x2 A3 c3 x3 W a b c (by omega) (by omega) (by omega))
      obtain ⟨⟨ys, es, ms, ok⟩, hR⟩ : ∃ R, R = runAny l s x1 x2 x3 := ⟨_, rfl⟩
      rw [← hR] at HL HS
      have HS2 : Hid (∀ W, Rd W W.heap.size A1 x1 → Rd W W.heap.size A2 x2 → Rd W W.heap.size A3 x3 → Calls Tryz.prog 17 #[.agg #[.int .i64 l, .int .i64 s, .slice A1 x1.length c1], .slice A2 x2.length c2, .slice A3 x3.length c3] W (fun e w' => ∃ B0 d0 B1 d1 B2 d2, e = .returned (.tuple #[.slice B0 ys.length d0, .slice B1 es.length d1, .slice B2 ms.length d2, .bool ok]) ∧ Own w' W.heap.size B0 d0 ys ∧ Own w' W.heap.size B1 d1 es ∧ Own w' W.heap.size B2 d2 ms ∧ Apart B0 B1 ∧ Apart B0 B2 ∧ Apart B1 B2 ∧ Below W.heap.size W w')) := HS.out
      have hys : ys.length ≤ 1100 := Nat.le_trans HL.out.1 hx3
      have hes : es.length ≤ 1100 := Nat.le_trans HL.out.2 hx3
      clear HL HS hR
      have HF := Lib.hid HE.out.getF
      go_wp2_with fail
      refine (HS2.out _ (own_rd HE.out.o1) (own_rd HE.out.o2) (own_rd HE.out.o3)).mono ?_; rintro e w24 ⟨B0, d0, B1, d1, B2, d2, rfl, Oy, Oe, _, _, _, _, h⟩
      obtain ⟨Oy', ny⟩ := HE.out.fresh Oy
      obtain ⟨Oe', ne⟩ := HE.out.fresh Oe
      replace HE := Lib.hid (HE.out.past h)
      have HOy := Lib.hid Oy'
      have HOe := Lib.hid Oe'
      have HNy := Lib.hid ny
      have HNe := Lib.hid ne
      clear h Oy Oe Oy' Oe' ny ne q0 q1 q2 q3 q4 q5 q6 HS2 HF
      cases ok
      · skip
        obtain ⟨q0, q1, q2, q3, q4, q5, q6⟩ := HE.out.get
        obtain ⟨p0, p1, p2, p3, p4, p5, p6⟩ := HE.out.res
        obtain ⟨f0, f1, f2, f3, f4, f5, f6⟩ := HE.out.resF
        obtain ⟨d0, d1, d2, d3, d4, d5, d6, HR⟩ := HE.out.done ⟨HX1, hx2, hx3, hx4, hx5⟩
        have HQ := Lib.hid HR
        clear HE HR
        go_wp2_with fail
        refine bodyPost_ret (l7Any_res rfl d0 d1 d2 d3 d4 d5 d6) rfl ?_
        exact HQ.out
      · skip
        have C := HE.out.g.cur
        go_wp2_with fail
        refine (l01Once_any g 2 _ C (by omega) (by omega)).mono ?_; rintro e w25 ⟨bb, rfl, C7, T7⟩
        replace HE := Lib.hid (HE.out.turn C7 T7)
        replace HOy := Lib.hid (own_turn HOy.out T7 (show g < w.heap.size + 1 by omega))
        replace HOe := Lib.hid (own_turn HOe.out T7 (show g < w.heap.size + 1 by omega))
        clear C C7 T7
        cases bb
        · skip
          obtain ⟨q0, q1, q2, q3, q4, q5, q6⟩ := HE.out.get
          obtain ⟨p0, p1, p2, p3, p4, p5, p6⟩ := HE.out.res
          obtain ⟨f0, f1, f2, f3, f4, f5, f6⟩ := HE.out.resF
          obtain ⟨d0, d1, d2, d3, d4, d5, d6, HR⟩ := HE.out.done ⟨HX1, hx2, hx3, hx4, hx5⟩
          have HQ := Lib.hid HR
          clear HE HR
          go_wp2_with fail
          refine bodyPost_ret (l7Any_res rfl d0 d1 d2 d3 d4 d5 d6) rfl ?_
          exact HQ.out
        · skip
          obtain ⟨q0, q1, q2, q3, q4, q5, q6⟩ := HE.out.get
          obtain ⟨f0, f1, f2, f3, f4, f5, f6⟩ := HE.out.getF
          have HE2 := Lib.hid (HE.out.set4 HOy.out HNy.out)
          go_upto_region 9 with fail
          have HOe2 := Lib.hid (own_at HOe.out 5 (.slice B0 ys.length d0) HNe.out)
          obtain ⟨w26, hw26⟩ : ∃ W, W = w25.setCell ⟨b4, 5, none⟩ (.slice B0 ys.length d0) := ⟨_, rfl⟩
          rw [← hw26] at HE2 HOe2 ⊢
          clear hw26 q0 q1 q2 q3 q4 q5 q6 f0 f1 f2 f3 f4 f5 f6 HE HOe HOy HNy
          obtain ⟨q0, q1, q2, q3, q4, q5, q6⟩ := HE2.out.get
          obtain ⟨f0, f1, f2, f3, f4, f5, f6⟩ := HE2.out.getF
          have HE := Lib.hid (HE2.out.set5 HOe2.out HNe.out)
          go_upto_region 10 with fail
          obtain ⟨w27, hw27⟩ : ∃ W, W = w26.setCell ⟨b4, 6, none⟩ (.slice B1 es.length d1) := ⟨_, rfl⟩
          rw [← hw27] at HE ⊢
          clear hw27 q0 q1 q2 q3 q4 q5 q6 f0 f1 f2 f3 f4 f5 f6 HE2 HOe2 HNe
          clear hx4 hx5
          have hx4 := hys
          have hx5 := hes
          obtain ⟨q0, q1, q2, q3, q4, q5, q6⟩ := HE.out.get
          obtain ⟨p0, p1, p2, p3, p4, p5, p6⟩ := HE.out.res
          obtain ⟨f0, f1, f2, f3, f4, f5, f6⟩ := HE.out.resF
          obtain ⟨d0, d1, d2, d3, d4, d5, d6, HR⟩ := HE.out.done ⟨HX1, hx2, hx3, hx4, hx5⟩
          have HQ := Lib.hid HR
          clear HE HR
          go_wp2_with fail
          refine bodyPost_ret (l7Any_res rfl d0 d1 d2 d3 d4 d5 d6) rfl ?_
          exact HQ.out
/-- A valid bench. -/
def RetBk (w : World) (e : Ending) (w' : World) : Prop := ∃ (l s : Int) (A1 : Option Addr) (c1 : Nat) (x1 : List Int) (A2 : Option Addr) (c2 : Nat) (x2 : List Int) (A3 : Option Addr) (c3 : Nat) (x3 : List Int) (A4 : Option Addr) (c4 : Nat) (x4 : List Int) (A5 : Option Addr) (c5 : Nat) (x5 : List Int), e = .returned (.agg #[.int .i64 l, .int .i64 s, .slice A1 x1.length c1, .slice A2 x2.length c2, .slice A3 x3.length c3, .slice A4 x4.length c4, .slice A5 x5.length c5]) ∧ benchOk l s x1 x2 x3 x4 x5 = true ∧ Own w' w.heap.size A1 c1 x1 ∧ Own w' w.heap.size A2 c2 x2 ∧ Own w' w.heap.size A3 c3 x3 ∧ Own w' w.heap.size A4 c4 x4 ∧ Own w' w.heap.size A5 c5 x5 ∧ Below w.heap.size w w'
set_option maxRecDepth 100000 in
set_option maxHeartbeats 4000000 in
theorem MakeBench_any (A : Option Addr) (c n : Nat) (w : World) (hr : RdB w w.heap.size A n) (hn : n ≤ 4294967296) : Calls Tryz.prog 24 #[.slice A n c] w (RetBk w) := by
  obtain ⟨w1, hw1⟩ : ∃ W, W = w.alloc (.cells #[.int .i64 0, .int .i64 0, .slice none 0 0, .slice none 0 0, .slice none 0 0, .slice none 0 0, .slice none 0 0] 33) := ⟨_, rfl⟩
  have z1 : w1.heap.size = w.heap.size + 1 := by rw [hw1]; simp
  have R1 : Blk w1 w.heap.size 33 #[.int .i64 0, .int .i64 0, .slice none 0 0, .slice none 0 0, .slice none 0 0, .slice none 0 0, .slice none 0 0] := by rw [hw1]; exact Blk.new w 33 #[.int .i64 0, .int .i64 0, .slice none 0 0, .slice none 0 0, .slice none 0 0, .slice none 0 0, .slice none 0 0]
  have Hb : Hid (Below w.heap.size w w1) := by rw [hw1]; exact (Below.refl _ _).alloc (Nat.le_refl _) _
  have HW := Lib.hid hw1
  have r1 := hr.past Hb.out
  clear hr hw1
  go_enter Tryz.func24, Tryz.ntmps24
  go_upto_region 1 with fail
  rw [← HW.out]
  go_wp2_with fail
  refine (l01New_any A c n _ r1 hn).mono ?_; rintro e w2 ⟨g, rfl, hg, C2, h2⟩
  replace R1 := R1.past h2
  replace Hb := Lib.hid (thenB Hb.out h2)
  have hgl := C2.lt
  have z2 : w1.heap.size ≤ w2.heap.size := h2.size
  clear h2 r1
  go_wp2_with fail
  refine (l7Any_any g _ C2).mono ?_; rintro e w3 ⟨l, s, A1, c1, x1, A2, c2, x2, A3, c3, x3, A4, c4, x4, A5, c5, x5, rfl, ⟨hx1, hx2, hx3, hx4, hx5⟩, o1, o2, o3, o4, o5, C3, T3⟩
  replace R1 := blk_turn R1 T3 (by omega)
  replace Hb := Lib.hid (turn_past Hb.out T3 Hb.out.size (by omega))
  have z3 : w2.heap.size ≤ w3.heap.size := T3.size
  clear C2 C3 T3
  have bx : Below w3.heap.size w3 (w3.alloc (.cells #[.int .i64 l, .int .i64 s, .slice A1 x1.length c1, .slice A2 x2.length c2, .slice A3 x3.length c3, .slice A4 x4.length c4, .slice A5 x5.length c5] 33)) := (Below.refl _ _).alloc (Nat.le_refl _) _
  have BX := Lib.hid (Blk.new w3 33 #[.int .i64 l, .int .i64 s, .slice A1 x1.length c1, .slice A2 x2.length c2, .slice A3 x3.length c3, .slice A4 x4.length c4, .slice A5 x5.length c5])
  replace R1 := Lib.hid (R1.past bx)
  replace Hb := Lib.hid (thenB Hb.out bx)
  have O1 := Lib.hid (own_past o1 bx)
  have O2 := Lib.hid (own_past o2 bx)
  have O3 := Lib.hid (own_past o3 bx)
  have O4 := Lib.hid (own_past o4 bx)
  have O5 := Lib.hid (own_past o5 bx)
  clear o1 o2 o3 o4 o5 bx
  go_upto_region 2 with fail
  obtain ⟨b, hb⟩ : ∃ b, b = w3.heap.size := ⟨_, rfl⟩
  obtain ⟨w4, hw4⟩ : ∃ W, W = w3.alloc (.cells #[.int .i64 l, .int .i64 s, .slice A1 x1.length c1, .slice A2 x2.length c2, .slice A3 x3.length c3, .slice A4 x4.length c4, .slice A5 x5.length c5] 33) := ⟨_, rfl⟩
  rw [← hb, ← hw4] at BX
  rw [← hw4] at R1 Hb O1 O2 O3 O4 O5
  rw [← hb, ← hw4]
  have hbw : w.heap.size < b := by omega
  clear hb hw4
  have q0 := BX.out.cell 0
  have q1 := BX.out.cell 1
  have q2 := BX.out.cell 2
  have q3 := BX.out.cell 3
  have q4 := BX.out.cell 4
  have q5 := BX.out.cell 5
  have q6 := BX.out.cell 6
  simp at q0 q1 q2 q3 q4 q5 q6
  go_wp2_with fail
  refine (specIsBench_any l s A1 A2 A3 A4 A5 c1 c2 c3 c4 c5 x1 x2 x3 x4 x5 _ (own_rd O1.out) (own_rd O2.out) (own_rd O3.out) (own_rd O4.out) (own_rd O5.out) (by omega) (by omega) (by omega) (by omega) (by omega)).mono ?_; rintro e w5 ⟨rfl, h⟩
  replace R1 := Lib.hid (R1.out.past h)
  replace BX := Lib.hid (BX.out.past h)
  replace Hb := Lib.hid (thenB Hb.out h)
  replace O1 := Lib.hid (own_past O1.out h)
  replace O2 := Lib.hid (own_past O2.out h)
  replace O3 := Lib.hid (own_past O3.out h)
  replace O4 := Lib.hid (own_past O4.out h)
  replace O5 := Lib.hid (own_past O5.out h)
  clear q0 q1 q2 q3 q4 q5 q6 h
  have lo : w.heap.size + 1 ≤ w2.heap.size := by omega
  rcases Bool.eq_false_or_eq_true (benchOk l s x1 x2 x3 x4 x5) with hk | hk
  · rw [hk]
    have p0 := R1.out.cell 0
    have p1 := R1.out.cell 1
    have p2 := R1.out.cell 2
    have p3 := R1.out.cell 3
    have p4 := R1.out.cell 4
    have p5 := R1.out.cell 5
    have p6 := R1.out.cell 6
    simp at p0 p1 p2 p3 p4 p5 p6
    have f0 := R1.out.frozen 0
    have f1 := R1.out.frozen 1
    have f2 := R1.out.frozen 2
    have f3 := R1.out.frozen 3
    have f4 := R1.out.frozen 4
    have f5 := R1.out.frozen 5
    have f6 := R1.out.frozen 6
    have D := (((((((R1.out.set_ 0 (.int .i64 l)).set_ 1 (.int .i64 s)).set_ 2 (.slice A1 x1.length c1)).set_ 3 (.slice A2 x2.length c2)).set_ 4 (.slice A3 x3.length c3)).set_ 5 (.slice A4 x4.length c4)).set_ 6 (.slice A5 x5.length c5))
    have T := turn_set (turn_set (turn_set (turn_set (turn_set (turn_set (turn_set (turn_refl w5 w.heap.size) (p := ⟨w.heap.size, 0, none⟩) rfl (.int .i64 l)) (p := ⟨w.heap.size, 1, none⟩) rfl (.int .i64 s)) (p := ⟨w.heap.size, 2, none⟩) rfl (.slice A1 x1.length c1)) (p := ⟨w.heap.size, 3, none⟩) rfl (.slice A2 x2.length c2)) (p := ⟨w.heap.size, 4, none⟩) rfl (.slice A3 x3.length c3)) (p := ⟨w.heap.size, 5, none⟩) rfl (.slice A4 x4.length c4)) (p := ⟨w.heap.size, 6, none⟩) rfl (.slice A5 x5.length c5)
    have d0 := D.cell 0
    have d1 := D.cell 1
    have d2 := D.cell 2
    have d3 := D.cell 3
    have d4 := D.cell 4
    have d5 := D.cell 5
    have d6 := D.cell 6
    simp at d0 d1 d2 d3 d4 d5 d6
    have Q1 := Lib.hid (own_mono (own_grown O1.out T (fun a e e' => by have h1 := own_lo O1.out a e; have h2 := Option.some.inj e'; omega)) (show w.heap.size ≤ w2.heap.size by omega))
    have Q2 := Lib.hid (own_mono (own_grown O2.out T (fun a e e' => by have h1 := own_lo O2.out a e; have h2 := Option.some.inj e'; omega)) (show w.heap.size ≤ w2.heap.size by omega))
    have Q3 := Lib.hid (own_mono (own_grown O3.out T (fun a e e' => by have h1 := own_lo O3.out a e; have h2 := Option.some.inj e'; omega)) (show w.heap.size ≤ w2.heap.size by omega))
    have Q4 := Lib.hid (own_mono (own_grown O4.out T (fun a e e' => by have h1 := own_lo O4.out a e; have h2 := Option.some.inj e'; omega)) (show w.heap.size ≤ w2.heap.size by omega))
    have Q5 := Lib.hid (own_mono (own_grown O5.out T (fun a e e' => by have h1 := own_lo O5.out a e; have h2 := Option.some.inj e'; omega)) (show w.heap.size ≤ w2.heap.size by omega))
    have HB := Lib.hid ((((((((Hb.out.setCell (p := ⟨w.heap.size, 0, none⟩) (Nat.le_refl _) (.int .i64 l)).setCell (p := ⟨w.heap.size, 1, none⟩) (Nat.le_refl _) (.int .i64 s)).setCell (p := ⟨w.heap.size, 2, none⟩) (Nat.le_refl _) (.slice A1 x1.length c1)).setCell (p := ⟨w.heap.size, 3, none⟩) (Nat.le_refl _) (.slice A2 x2.length c2)).setCell (p := ⟨w.heap.size, 4, none⟩) (Nat.le_refl _) (.slice A3 x3.length c3)).setCell (p := ⟨w.heap.size, 5, none⟩) (Nat.le_refl _) (.slice A4 x4.length c4)).setCell (p := ⟨w.heap.size, 6, none⟩) (Nat.le_refl _) (.slice A5 x5.length c5)))
    have HK := Lib.hid hk
    clear D T
    have q0 := BX.out.cell 0
    have q1 := BX.out.cell 1
    have q2 := BX.out.cell 2
    have q3 := BX.out.cell 3
    have q4 := BX.out.cell 4
    have q5 := BX.out.cell 5
    have q6 := BX.out.cell 6
    simp at q0 q1 q2 q3 q4 q5 q6
    clear hk O1 O2 O3 O4 O5 BX R1 Hb
    go_wp2_with fail
    refine bodyPost_ret (MakeBench_res rfl d0 d1 d2 d3 d4 d5 d6) rfl ?_
    exact ⟨l, s, A1, c1, x1, A2, c2, x2, A3, c3, x3, A4, c4, x4, A5, c5, x5, rfl, HK.out, Q1.out, Q2.out, Q3.out, Q4.out, Q5.out, HB.out⟩
  · rw [hk]
    clear hk O1 O2 O3 O4 O5 BX
    have HN2 : Hid (∃ (nl ns : Int) (y1 y2 y3 y4 y5 : List Int), benchOk nl ns y1 y2 y3 y4 y5 = true ∧ ∀ W, Calls Tryz.prog 67 #[] W (fun e w' => ∃ B1 d1 B2 d2 B3 d3 B4 d4 B5 d5, e = .returned (.agg #[.int .i64 nl, .int .i64 ns, .slice B1 y1.length d1, .slice B2 y2.length d2, .slice B3 y3.length d3, .slice B4 y4.length d4, .slice B5 y5.length d5]) ∧ Own w' W.heap.size B1 d1 y1 ∧ Own w' W.heap.size B2 d2 y2 ∧ Own w' W.heap.size B3 d3 y3 ∧ Own w' W.heap.size B4 d4 y4 ∧ Own w' W.heap.size B5 d5 y5 ∧ Below W.heap.size W w')) := ⟨2, 16, [-1], [0], [], [], [], by decide, fun W => (specNewBench_any W).mono fun e w' h => by
      obtain ⟨A1, c1, A2, c2, A3, c3, A4, c4, A5, c5, he, o1, o2, o3, o4, o5, _, _, _, _, _, _, _, _, _, _, hb⟩ := h
      exact ⟨A1, c1, A2, c2, A3, c3, A4, c4, A5, c5, he, o1, o2, o3, o4, o5, hb⟩⟩
    obtain ⟨nl, ns, y1, y2, y3, y4, y5, hk, hNB⟩ := HN2.out
    have HNB := Lib.hid hNB
    clear hNB HN2
    go_wp2_with fail
    refine (HNB.out _).mono ?_; rintro e w6 ⟨B1, e1, B2, e2, B3, e3, B4, e4, B5, e5, rfl, u1, u2, u3, u4, u5, h⟩
    have z5 : w.heap.size < w5.heap.size := R1.out.lt
    replace R1 := Lib.hid (R1.out.past h)
    replace Hb := Lib.hid (thenB Hb.out h)
    have O1 := Lib.hid u1
    have O2 := Lib.hid u2
    have O3 := Lib.hid u3
    have O4 := Lib.hid u4
    have O5 := Lib.hid u5
    clear h u1 u2 u3 u4 u5 HNB
    have p0 := R1.out.cell 0
    have p1 := R1.out.cell 1
    have p2 := R1.out.cell 2
    have p3 := R1.out.cell 3
    have p4 := R1.out.cell 4
    have p5 := R1.out.cell 5
    have p6 := R1.out.cell 6
    simp at p0 p1 p2 p3 p4 p5 p6
    have f0 := R1.out.frozen 0
    have f1 := R1.out.frozen 1
    have f2 := R1.out.frozen 2
    have f3 := R1.out.frozen 3
    have f4 := R1.out.frozen 4
    have f5 := R1.out.frozen 5
    have f6 := R1.out.frozen 6
    have D := (((((((R1.out.set_ 0 (.int .i64 nl)).set_ 1 (.int .i64 ns)).set_ 2 (.slice B1 y1.length e1)).set_ 3 (.slice B2 y2.length e2)).set_ 4 (.slice B3 y3.length e3)).set_ 5 (.slice B4 y4.length e4)).set_ 6 (.slice B5 y5.length e5))
    have T := turn_set (turn_set (turn_set (turn_set (turn_set (turn_set (turn_set (turn_refl w6 w.heap.size) (p := ⟨w.heap.size, 0, none⟩) rfl (.int .i64 nl)) (p := ⟨w.heap.size, 1, none⟩) rfl (.int .i64 ns)) (p := ⟨w.heap.size, 2, none⟩) rfl (.slice B1 y1.length e1)) (p := ⟨w.heap.size, 3, none⟩) rfl (.slice B2 y2.length e2)) (p := ⟨w.heap.size, 4, none⟩) rfl (.slice B3 y3.length e3)) (p := ⟨w.heap.size, 5, none⟩) rfl (.slice B4 y4.length e4)) (p := ⟨w.heap.size, 6, none⟩) rfl (.slice B5 y5.length e5)
    have d0 := D.cell 0
    have d1 := D.cell 1
    have d2 := D.cell 2
    have d3 := D.cell 3
    have d4 := D.cell 4
    have d5 := D.cell 5
    have d6 := D.cell 6
    simp at d0 d1 d2 d3 d4 d5 d6
    have Q1 := Lib.hid (own_mono (own_grown O1.out T (fun a e e' => by have h1 := own_lo O1.out a e; have h2 := Option.some.inj e'; omega)) (show w.heap.size ≤ w5.heap.size by omega))
    have Q2 := Lib.hid (own_mono (own_grown O2.out T (fun a e e' => by have h1 := own_lo O2.out a e; have h2 := Option.some.inj e'; omega)) (show w.heap.size ≤ w5.heap.size by omega))
    have Q3 := Lib.hid (own_mono (own_grown O3.out T (fun a e e' => by have h1 := own_lo O3.out a e; have h2 := Option.some.inj e'; omega)) (show w.heap.size ≤ w5.heap.size by omega))
    have Q4 := Lib.hid (own_mono (own_grown O4.out T (fun a e e' => by have h1 := own_lo O4.out a e; have h2 := Option.some.inj e'; omega)) (show w.heap.size ≤ w5.heap.size by omega))
    have Q5 := Lib.hid (own_mono (own_grown O5.out T (fun a e e' => by have h1 := own_lo O5.out a e; have h2 := Option.some.inj e'; omega)) (show w.heap.size ≤ w5.heap.size by omega))
    have HB := Lib.hid ((((((((Hb.out.setCell (p := ⟨w.heap.size, 0, none⟩) (Nat.le_refl _) (.int .i64 nl)).setCell (p := ⟨w.heap.size, 1, none⟩) (Nat.le_refl _) (.int .i64 ns)).setCell (p := ⟨w.heap.size, 2, none⟩) (Nat.le_refl _) (.slice B1 y1.length e1)).setCell (p := ⟨w.heap.size, 3, none⟩) (Nat.le_refl _) (.slice B2 y2.length e2)).setCell (p := ⟨w.heap.size, 4, none⟩) (Nat.le_refl _) (.slice B3 y3.length e3)).setCell (p := ⟨w.heap.size, 5, none⟩) (Nat.le_refl _) (.slice B4 y4.length e4)).setCell (p := ⟨w.heap.size, 6, none⟩) (Nat.le_refl _) (.slice B5 y5.length e5)))
    have HK := Lib.hid hk
    clear D T
    clear hk O1 O2 O3 O4 O5 R1 Hb
    go_wp2_with fail
    refine bodyPost_ret (MakeBench_res rfl d0 d1 d2 d3 d4 d5 d6) rfl ?_
    exact ⟨nl, ns, B1, e1, y1, B2, e2, y2, B3, e3, y3, B4, e4, y4, B5, e5, y5, rfl, HK.out, Q1.out, Q2.out, Q3.out, Q4.out, Q5.out, HB.out⟩
end Go.Proofs.YtgkijkenbjjnmaaGreatDoor
