/- Contracts of PlainMemory and of the two NewBench. (Printed by mkbench.py.) -/
import Derived.Test.YtgkijkenbjjnmaaGreatDoorBench
namespace Go.Proofs.YtgkijkenbjjnmaaGreatDoor
open Go.RowKit
set_option linter.unusedVariables false
set_option linter.unusedSimpArgs false
theorem apart_none (A : Option Addr) : Apart A none := fun a b _ e => by cases e
theorem implPlain_yes (l s : Int) (A : Option Addr) (c : Nat) (cs : List Int) (w : World) (hr : Rd w w.heap.size A cs) (h : modOk l s cs = true) :
    Calls Tryz.prog 45 #[.agg #[.int .i64 l, .int .i64 s, .slice A cs.length c]] w (RetSl w (List.replicate cs.length 0)) := by
  obtain ⟨hc, hq, c1, c2⟩ := mod_parts h
  have hb0 : Below w.heap.size w (w.alloc (.cells #[.int .i64 l, .int .i64 s, .slice A cs.length c] 27)) := (Below.refl _ _).alloc (Nat.le_refl _) _
  have hcall := implIsModulator_any l s A c cs (w.alloc (.cells #[.int .i64 l, .int .i64 s, .slice A cs.length c] 27)) (hr.past hb0) (by omega)
  rw [h] at hcall
  have B0 := Blk.new w 27 #[.int .i64 l, .int .i64 s, .slice A cs.length c]
  have Hb := Lib.hid hb0
  have Hc := Lib.hid hcall
  have hmk := make_ints cs.length (by omega)
  clear hb0 hcall hr hc hq h
  go_enter Tryz.func45, Tryz.ntmps45
  go_wp2_with fail
  refine Hc.out.mono ?_; rintro e w1 ⟨rfl, h1⟩
  have B1 := B0.past h1
  replace Hb := Lib.hid (thenB Hb.out h1)
  have q2 := B1.cell 2
  simp at q2
  clear B0 Hc h1 B1
  go_wp2_with fail
  go_ret
  have bx : Below w1.heap.size w1 (w1.alloc (.cells (madeCells #[.int .i64 0] cs.length) 3)) := (Below.refl _ _).alloc (Nat.le_refl _) _
  exact ⟨_, _, by rw [List.length_replicate]; rfl, own_mono (own_made (B := w.heap.size) w1 cs.length Hb.out.size (by simp only [maxLen]; omega)) (Nat.le_refl _), thenB Hb.out bx⟩
def newBe : Be := ⟨2, 16, [-1], [0], [], [], []⟩
def RetBe (w : World) (X : Be) (e : Ending) (w' : World) : Prop :=
  ∃ A1 c1 A2 c2 A3 c3 A4 c4 A5 c5, e = .returned (.agg #[.int .i64 X.levels, .int .i64 X.step, .slice A1 X.coefs.length c1, .slice A2 X.memory.length c2, .slice A3 X.input.length c3, .slice A4 X.output.length c4, .slice A5 X.errors.length c5]) ∧ Own w' w.heap.size A1 c1 X.coefs ∧ Own w' w.heap.size A2 c2 X.memory ∧ Own w' w.heap.size A3 c3 X.input ∧ Own w' w.heap.size A4 c4 X.output ∧ Own w' w.heap.size A5 c5 X.errors ∧ Apart A1 A2 ∧ Apart A1 A3 ∧ Apart A1 A4 ∧ Apart A1 A5 ∧ Apart A2 A3 ∧ Apart A2 A4 ∧ Apart A2 A5 ∧ Apart A3 A4 ∧ Apart A3 A5 ∧ Apart A4 A5 ∧ Below w.heap.size w w'
theorem implNewBench_res {tmps : Array Value} {g : Nat} {w : World} {v0 v1 v2 v3 v4 v5 v6 : Value} (hp : tmps.getD 0 undef = .pointer (some ⟨g, 0, none⟩)) (c0 : w.cell? ⟨g, 0, none⟩ = some v0) (c1 : w.cell? ⟨g, 1, none⟩ = some v1) (c2 : w.cell? ⟨g, 2, none⟩ = some v2) (c3 : w.cell? ⟨g, 3, none⟩ = some v3) (c4 : w.cell? ⟨g, 4, none⟩ = some v4) (c5 : w.cell? ⟨g, 5, none⟩ = some v5) (c6 : w.cell? ⟨g, 6, none⟩ = some v6) :
    (results Tryz.f12 tmps).run Tryz.prog w = .ok (.agg #[v0, v1, v2, v3, v4, v5, v6]) w := by
  have hp' := hp
  simp at hp'
  simp only [results, Tryz.results12]
  simp [go_sem, hp', c0, c1, c2, c3, c4, c5, c6]
theorem specNewBench_res {tmps : Array Value} {g : Nat} {w : World} {v0 v1 v2 v3 v4 v5 v6 : Value} (hp : tmps.getD 0 undef = .pointer (some ⟨g, 0, none⟩)) (c0 : w.cell? ⟨g, 0, none⟩ = some v0) (c1 : w.cell? ⟨g, 1, none⟩ = some v1) (c2 : w.cell? ⟨g, 2, none⟩ = some v2) (c3 : w.cell? ⟨g, 3, none⟩ = some v3) (c4 : w.cell? ⟨g, 4, none⟩ = some v4) (c5 : w.cell? ⟨g, 5, none⟩ = some v5) (c6 : w.cell? ⟨g, 6, none⟩ = some v6) :
    (results Tryz.f67 tmps).run Tryz.prog w = .ok (.agg #[v0, v1, v2, v3, v4, v5, v6]) w := by
  have hp' := hp
  simp at hp'
  simp only [results, Tryz.results67]
  simp [go_sem, hp', c0, c1, c2, c3, c4, c5, c6]
set_option maxRecDepth 100000 in
set_option maxHeartbeats 1000000 in
theorem implNewBench_any (w : World) : Calls Tryz.prog 12 #[] w (RetBe w newBe) := by
  have hcf : (coefs 1).drop 1 = [-1] := by decide
  have hm : modOk 2 16 [-1] = true := by decide
  have HO : Hid (∀ W, Calls Tryz.prog 53 #[.agg #[.int .i64 2, .int .i64 16], .int .i64 1] W (fun e w' => ∃ A c, e = .returned (.tuple #[.agg #[.int .i64 2, .int .i64 16, .slice A 1 c], .bool true]) ∧ Own w' W.heap.size A c [-1] ∧ Below W.heap.size W w')) := fun W => by
    have h := implOrder_yes 2 16 1 W (by decide) (by omega) (by omega) (by rw [hcf]; exact hm)
    rw [hcf] at h
    exact h
  have HP : Hid (∀ W A c, Rd W W.heap.size A [-1] → Calls Tryz.prog 45 #[.agg #[.int .i64 2, .int .i64 16, .slice A 1 c]] W (RetSl W [0])) := fun W A c h => implPlain_yes 2 16 A c [-1] W h hm
  have hb0 : Below w.heap.size w (w.alloc (.cells #[.int .i64 0, .int .i64 0, .slice none 0 0, .slice none 0 0, .slice none 0 0, .slice none 0 0, .slice none 0 0] 33)) := (Below.refl _ _).alloc (Nat.le_refl _) _
  have B := Blk.new w 33 #[.int .i64 0, .int .i64 0, .slice none 0 0, .slice none 0 0, .slice none 0 0, .slice none 0 0, .slice none 0 0]
  have Hb := Lib.hid hb0
  have z0 : w.heap.size < (w.alloc (.cells #[.int .i64 0, .int .i64 0, .slice none 0 0, .slice none 0 0, .slice none 0 0, .slice none 0 0, .slice none 0 0] 33)).heap.size := by simp
  clear hb0 hcf hm
  go_enter Tryz.func12, Tryz.ntmps12
  go_wp2_with fail
  refine (HO.out _).mono ?_; rintro e w1 ⟨A1, c1, rfl, O1, h1⟩
  replace B := B.past h1
  replace Hb := Lib.hid (thenB Hb.out h1)
  have L1 := own_lo O1
  have U1 := own_hi O1
  have z1 : w.heap.size < w1.heap.size := Nat.lt_of_lt_of_le z0 h1.size
  clear h1
  have bx : Below w1.heap.size w1 (w1.alloc (.cells #[.int .i64 2, .int .i64 16, .slice A1 1 c1] 27)).drew := ((Below.refl _ _).alloc (Nat.le_refl _) _).drew
  have BM : Blk (w1.alloc (.cells #[.int .i64 2, .int .i64 16, .slice A1 1 c1] 27)).drew w1.heap.size 27 #[.int .i64 2, .int .i64 16, .slice A1 1 c1] := Blk.new w1 27 #[.int .i64 2, .int .i64 16, .slice A1 1 c1]
  replace B := B.past bx
  replace Hb := Lib.hid (thenB Hb.out bx)
  have O := own_past O1 bx
  have R1 := Lib.hid (own_rd O)
  have z2 : w1.heap.size < (w1.alloc (.cells #[.int .i64 2, .int .i64 16, .slice A1 1 c1] 27)).drew.heap.size := by simp
  clear bx O1
  go_wp2_with fail
  go_region_law
    (first
      | (go_simp; go_at_call 45; refine (HP.out _ A1 c1 R1.out).mono ?_; rintro e w3 ⟨A2, c2, rfl, O2, h2⟩; have B3 := B.past h2; have BM3 := BM.past h2; have Hb3 := Lib.hid (thenB Hb.out h2); have O3 := own_past O h2; have L2 := own_lo O2; have m0 := BM3.cell 0; have m1 := BM3.cell 1; have m2 := BM3.cell 2; have p0 := B3.cell 0; have f0 := B3.frozen 0; have p1 := B3.cell 1; have f1 := B3.frozen 1; have p2 := B3.cell 2; have f2 := B3.frozen 2; have p3 := B3.cell 3; have f3 := B3.frozen 3; have p4 := B3.cell 4; have f4 := B3.frozen 4; have p5 := B3.cell 5; have f5 := B3.frozen 5; have p6 := B3.cell 6; have f6 := B3.frozen 6; simp at m0 m1 m2 p0 p1 p2 p3 p4 p5 p6))
  all_goals
    have D0 := (((((((B3.set_ 0 (.int .i64 2)).set_ 1 (.int .i64 16)).set_ 2 (.slice A1 1 c1)).set_ 3 (.slice A2 1 c2)).set_ 4 (.slice none 0 0)).set_ 5 (.slice none 0 0)).set_ 6 (.slice none 0 0))
    have d0 := D0.cell 0
    have d1 := D0.cell 1
    have d2 := D0.cell 2
    have d3 := D0.cell 3
    have d4 := D0.cell 4
    have d5 := D0.cell 5
    have d6 := D0.cell 6
    simp at d0 d1 d2 d3 d4 d5 d6
    have T0 := turn_set (turn_refl w3 w.heap.size) (p := ⟨w.heap.size, 0, none⟩) rfl (.int .i64 2)
    have T1 := turn_set T0 (p := ⟨w.heap.size, 1, none⟩) rfl (.int .i64 16)
    have T2 := turn_set T1 (p := ⟨w.heap.size, 2, none⟩) rfl (.slice A1 1 c1)
    have T3 := turn_set T2 (p := ⟨w.heap.size, 3, none⟩) rfl (.slice A2 1 c2)
    have T4 := turn_set T3 (p := ⟨w.heap.size, 4, none⟩) rfl (.slice none 0 0)
    have T5 := turn_set T4 (p := ⟨w.heap.size, 5, none⟩) rfl (.slice none 0 0)
    have T6 := turn_set T5 (p := ⟨w.heap.size, 6, none⟩) rfl (.slice none 0 0)
    have Q1 := Lib.hid (own_mono (own_grown O3 T6 (fun a e e' => by have h1 := L1 a e; have h2 := Option.some.inj e'; omega)) (Nat.le_of_lt z0))
    have Q2 := Lib.hid (own_mono (own_grown O2 T6 (fun a e e' => by have h1 := L2 a e; have h2 := Option.some.inj e'; (try simp at h1); omega)) (show w.heap.size ≤ _ by first | omega | (simp; omega)))
    have HP12 : Hid (Apart A1 A2) := apart_lt U1 L2 (by simp)
    have HB := Lib.hid ((((((((Hb3.out.setCell (p := ⟨w.heap.size, 0, none⟩) (Nat.le_refl _) (.int .i64 2)).setCell (p := ⟨w.heap.size, 1, none⟩) (Nat.le_refl _) (.int .i64 16)).setCell (p := ⟨w.heap.size, 2, none⟩) (Nat.le_refl _) (.slice A1 1 c1)).setCell (p := ⟨w.heap.size, 3, none⟩) (Nat.le_refl _) (.slice A2 1 c2)).setCell (p := ⟨w.heap.size, 4, none⟩) (Nat.le_refl _) (.slice none 0 0)).setCell (p := ⟨w.heap.size, 5, none⟩) (Nat.le_refl _) (.slice none 0 0)).setCell (p := ⟨w.heap.size, 6, none⟩) (Nat.le_refl _) (.slice none 0 0)))
    clear p0 f0 p1 f1 p2 f2 p3 f3 p4 f4 p5 f5 p6 f6 T0 T1 T2 T3 T4 T5 T6 D0
    have HD0 := Lib.hid d0
    have HD1 := Lib.hid d1
    have HD2 := Lib.hid d2
    have HD3 := Lib.hid d3
    have HD4 := Lib.hid d4
    have HD5 := Lib.hid d5
    have HD6 := Lib.hid d6
    clear d0 d1 d2 d3 d4 d5 d6
    go_wp2
    refine bodyPost_ret (implNewBench_res rfl HD0.out HD1.out HD2.out HD3.out HD4.out HD5.out HD6.out) rfl ?_
    exact ⟨A1, c1, A2, c2, none, 0, none, 0, none, 0, rfl, Q1.out, Q2.out, own_nil _ _, own_nil _ _, own_nil _ _, HP12.out, apart_none _, apart_none _, apart_none _, apart_none _, apart_none _, apart_none _, apart_none _, apart_none _, apart_none _, HB.out⟩
set_option maxRecDepth 100000 in
set_option maxHeartbeats 1000000 in
theorem specNewBench_any (w : World) : Calls Tryz.prog 67 #[] w (RetBe w newBe) := by
  have hcf : (coefs 1).drop 1 = [-1] := by decide
  have HO : Hid (∀ W, Calls Tryz.prog 39 #[.agg #[.int .i64 2, .int .i64 16], .int .i64 1] W (fun e w' => ∃ A c, e = .returned (.tuple #[.agg #[.int .i64 2, .int .i64 16, .slice A 1 c], .bool true]) ∧ Own w' W.heap.size A c [-1] ∧ Below W.heap.size W w')) := fun W => by
    have h := specOrder_yes 2 16 1 W (by decide) (by omega) (by omega)
    rw [hcf] at h
    exact h
  have hb0 : Below w.heap.size w (w.alloc (.cells #[.int .i64 0, .int .i64 0, .slice none 0 0, .slice none 0 0, .slice none 0 0, .slice none 0 0, .slice none 0 0] 33)) := (Below.refl _ _).alloc (Nat.le_refl _) _
  have B := Blk.new w 33 #[.int .i64 0, .int .i64 0, .slice none 0 0, .slice none 0 0, .slice none 0 0, .slice none 0 0, .slice none 0 0]
  have Hb := Lib.hid hb0
  have z0 : w.heap.size < (w.alloc (.cells #[.int .i64 0, .int .i64 0, .slice none 0 0, .slice none 0 0, .slice none 0 0, .slice none 0 0, .slice none 0 0] 33)).heap.size := by simp
  clear hb0 hcf
  go_enter Tryz.func67, Tryz.ntmps67
  go_wp2_with fail
  refine (HO.out _).mono ?_; rintro e w1 ⟨A1, c1, rfl, O1, h1⟩
  replace B := B.past h1
  replace Hb := Lib.hid (thenB Hb.out h1)
  have L1 := own_lo O1
  have U1 := own_hi O1
  have z1 : w.heap.size < w1.heap.size := Nat.lt_of_lt_of_le z0 h1.size
  clear h1
  have bm : Below w1.heap.size w1 (w1.alloc (.cells #[.int .i64 2, .int .i64 16, .slice A1 1 c1] 27)) := (Below.refl _ _).alloc (Nat.le_refl _) _
  have BM := Blk.new w1 27 #[.int .i64 2, .int .i64 16, .slice A1 1 c1]
  replace B := B.past bm
  replace Hb := Lib.hid (thenB Hb.out bm)
  replace O1 := own_past O1 bm
  have zm : (w1.alloc (.cells #[.int .i64 2, .int .i64 16, .slice A1 1 c1] 27)).heap.size = w1.heap.size + 1 := by simp
  go_upto_region 2 with fail
  obtain ⟨w2, hw2⟩ : ∃ W, W = w1.alloc (.cells #[.int .i64 2, .int .i64 16, .slice A1 1 c1] 27) := ⟨_, rfl⟩
  rw [← hw2] at B BM Hb O1 zm ⊢
  clear hw2 bm
  have bx : Below w2.heap.size w2 (w2.alloc (.cells #[.int .i64 0] 3)) := (Below.refl _ _).alloc (Nat.le_refl _) _
  have O2 := own_cells (xs := [0]) w2 #[.int .i64 0] (Nat.le_refl _) rfl (by simp [maxLen])
  have L2 := own_lo O2
  have B3 := B.past bx
  have Hb3 := Lib.hid (thenB Hb.out bx)
  have O3 := own_past O1 bx
  have m0 := BM.cell 0; have m1 := BM.cell 1; have m2 := BM.cell 2
  simp at m0 m1 m2
  have p0 : (w2.alloc (.cells #[.int .i64 0] 3)).cell? ⟨w.heap.size, 0, none⟩ = some (.int .i64 0) := B3.cell 0
  have f0 := B3.frozen 0
  have p1 : (w2.alloc (.cells #[.int .i64 0] 3)).cell? ⟨w.heap.size, 1, none⟩ = some (.int .i64 0) := B3.cell 1
  have f1 := B3.frozen 1
  have p2 : (w2.alloc (.cells #[.int .i64 0] 3)).cell? ⟨w.heap.size, 2, none⟩ = some (.slice none 0 0) := B3.cell 2
  have f2 := B3.frozen 2
  have p3 : (w2.alloc (.cells #[.int .i64 0] 3)).cell? ⟨w.heap.size, 3, none⟩ = some (.slice none 0 0) := B3.cell 3
  have f3 := B3.frozen 3
  have p4 : (w2.alloc (.cells #[.int .i64 0] 3)).cell? ⟨w.heap.size, 4, none⟩ = some (.slice none 0 0) := B3.cell 4
  have f4 := B3.frozen 4
  have p5 : (w2.alloc (.cells #[.int .i64 0] 3)).cell? ⟨w.heap.size, 5, none⟩ = some (.slice none 0 0) := B3.cell 5
  have f5 := B3.frozen 5
  have p6 : (w2.alloc (.cells #[.int .i64 0] 3)).cell? ⟨w.heap.size, 6, none⟩ = some (.slice none 0 0) := B3.cell 6
  have f6 := B3.frozen 6
  clear bx O1 B Hb BM
  have D0 := (((((((B3.set_ 0 (.int .i64 2)).set_ 1 (.int .i64 16)).set_ 2 (.slice A1 1 c1)).set_ 3 (.slice (some ⟨w2.heap.size, 0, none⟩) 1 1)).set_ 4 (.slice none 0 0)).set_ 5 (.slice none 0 0)).set_ 6 (.slice none 0 0))
  have d0 := D0.cell 0
  have d1 := D0.cell 1
  have d2 := D0.cell 2
  have d3 := D0.cell 3
  have d4 := D0.cell 4
  have d5 := D0.cell 5
  have d6 := D0.cell 6
  simp at d0 d1 d2 d3 d4 d5 d6
  have T0 := turn_set (turn_refl (w2.alloc (.cells #[.int .i64 0] 3)) w.heap.size) (p := ⟨w.heap.size, 0, none⟩) rfl (.int .i64 2)
  have T1 := turn_set T0 (p := ⟨w.heap.size, 1, none⟩) rfl (.int .i64 16)
  have T2 := turn_set T1 (p := ⟨w.heap.size, 2, none⟩) rfl (.slice A1 1 c1)
  have T3 := turn_set T2 (p := ⟨w.heap.size, 3, none⟩) rfl (.slice (some ⟨w2.heap.size, 0, none⟩) 1 1)
  have T4 := turn_set T3 (p := ⟨w.heap.size, 4, none⟩) rfl (.slice none 0 0)
  have T5 := turn_set T4 (p := ⟨w.heap.size, 5, none⟩) rfl (.slice none 0 0)
  have T6 := turn_set T5 (p := ⟨w.heap.size, 6, none⟩) rfl (.slice none 0 0)
  have Q1 := Lib.hid (own_mono (own_grown O3 T6 (fun a e e' => by have h1 := L1 a e; have h2 := Option.some.inj e'; omega)) (Nat.le_of_lt z0))
  have Q2 := Lib.hid (own_mono (own_grown O2 T6 (fun a e e' => by have h1 := L2 a e; have h2 := Option.some.inj e'; (try simp at h1); omega)) (show w.heap.size ≤ _ by first | omega | (simp; omega)))
  have HP12 : Hid (Apart A1 (some ⟨w2.heap.size, 0, none⟩)) := apart_lt U1 L2 (by omega)
  have HB := Lib.hid ((((((((Hb3.out.setCell (p := ⟨w.heap.size, 0, none⟩) (Nat.le_refl _) (.int .i64 2)).setCell (p := ⟨w.heap.size, 1, none⟩) (Nat.le_refl _) (.int .i64 16)).setCell (p := ⟨w.heap.size, 2, none⟩) (Nat.le_refl _) (.slice A1 1 c1)).setCell (p := ⟨w.heap.size, 3, none⟩) (Nat.le_refl _) (.slice (some ⟨w2.heap.size, 0, none⟩) 1 1)).setCell (p := ⟨w.heap.size, 4, none⟩) (Nat.le_refl _) (.slice none 0 0)).setCell (p := ⟨w.heap.size, 5, none⟩) (Nat.le_refl _) (.slice none 0 0)).setCell (p := ⟨w.heap.size, 6, none⟩) (Nat.le_refl _) (.slice none 0 0)))
  clear B3 O3 O2 Hb3 T0 T1 T2 T3 T4 T5 T6 D0
  have HD0 := Lib.hid d0
  have HD1 := Lib.hid d1
  have HD2 := Lib.hid d2
  have HD3 := Lib.hid d3
  have HD4 := Lib.hid d4
  have HD5 := Lib.hid d5
  have HD6 := Lib.hid d6
  clear d0 d1 d2 d3 d4 d5 d6 zm
  go_wp2
  refine bodyPost_ret (specNewBench_res rfl HD0.out HD1.out HD2.out HD3.out HD4.out HD5.out HD6.out) rfl ?_
  exact ⟨A1, c1, some ⟨w2.heap.size, 0, none⟩, 1, none, 0, none, 0, none, 0, rfl, Q1.out, Q2.out, own_nil _ _, own_nil _ _, own_nil _ _, HP12.out, apart_none _, apart_none _, apart_none _, apart_none _, apart_none _, apart_none _, apart_none _, apart_none _, apart_none _, HB.out⟩
end Go.Proofs.YtgkijkenbjjnmaaGreatDoor
