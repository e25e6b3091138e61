/- Contracts of the two copies of a bench. (Printed by mkbcopy.py.) -/
import Derived.Test.YtgkijkenbjjnmaaGreatDoorBx
import Derived.Test.YtgkijkenbjjnmaaGreatDoorCopy
import Derived.Deep.CutRange
namespace Go.Proofs.YtgkijkenbjjnmaaGreatDoor
open Go.RowKit
set_option linter.unusedVariables false
set_option linter.unusedSimpArgs false
theorem implCopy_res {tmps : Array Value} {g : Nat} {w : World} {v0 v1 v2 v3 v4 v5 v6 : Value} (hp : tmps.getD 2 undef = .pointer (some ⟨g, 0, none⟩)) (c0 : w.cell? ⟨g, 0, none⟩ = some v0) (c1 : w.cell? ⟨g, 1, none⟩ = some v1) (c2 : w.cell? ⟨g, 2, none⟩ = some v2) (c3 : w.cell? ⟨g, 3, none⟩ = some v3) (c4 : w.cell? ⟨g, 4, none⟩ = some v4) (c5 : w.cell? ⟨g, 5, none⟩ = some v5) (c6 : w.cell? ⟨g, 6, none⟩ = some v6) :
    (results Tryz.f42 tmps).run Tryz.prog w = .ok (.agg #[v0, v1, v2, v3, v4, v5, v6]) w := by
  have hp' := hp
  simp at hp'
  simp only [results, Tryz.results42]
  simp [go_sem, hp', c0, c1, c2, c3, c4, c5, c6]
set_option maxRecDepth 100000 in
set_option maxHeartbeats 4000000 in
theorem implCopyB_any (l s : Int) (B1 B2 B3 B4 B5 : Option Addr) (d1 d2 d3 d4 d5 : Nat) (x1 x2 x3 x4 x5 : List Int) (w : World) (hr1 : Rd w w.heap.size B1 x1) (hr2 : Rd w w.heap.size B2 x2) (hr3 : Rd w w.heap.size B3 x3) (hr4 : Rd w w.heap.size B4 x4) (hr5 : Rd w w.heap.size B5 x5) (hn1 : x1.length ≤ 1048576) (hn2 : x2.length ≤ 1048576) (hn3 : x3.length ≤ 1048576) (hn4 : x4.length ≤ 1048576) (hn5 : x5.length ≤ 1048576) :
    Calls Tryz.prog 42 #[.agg #[.int .i64 l, .int .i64 s, .slice B1 x1.length d1, .slice B2 x2.length d2, .slice B3 x3.length d3, .slice B4 x4.length d4, .slice B5 x5.length d5]] w (RetBe5 w l s x1 x2 x3 x4 x5) := by
  obtain ⟨W, hW⟩ : ∃ W, W = (w.alloc (.cells #[.int .i64 l, .int .i64 s, .slice B1 x1.length d1, .slice B2 x2.length d2, .slice B3 x3.length d3, .slice B4 x4.length d4, .slice B5 x5.length d5] 33)).alloc (.cells #[.int .i64 0, .int .i64 0, .slice none 0 0, .slice none 0 0, .slice none 0 0, .slice none 0 0, .slice none 0 0] 33) := ⟨_, rfl⟩
  have Hb : Hid (Below w.heap.size w W) := by rw [hW]; exact ((Below.refl _ _).alloc (Nat.le_refl _) _).alloc (by simp) _
  have BB : Blk W w.heap.size 33 #[.int .i64 l, .int .i64 s, .slice B1 x1.length d1, .slice B2 x2.length d2, .slice B3 x3.length d3, .slice B4 x4.length d4, .slice B5 x5.length d5] := by rw [hW]; exact (Blk.new w 33 #[.int .i64 l, .int .i64 s, .slice B1 x1.length d1, .slice B2 x2.length d2, .slice B3 x3.length d3, .slice B4 x4.length d4, .slice B5 x5.length d5]).alloc _
  have BR : Blk W (w.heap.size + 1) 33 #[.int .i64 0, .int .i64 0, .slice none 0 0, .slice none 0 0, .slice none 0 0, .slice none 0 0, .slice none 0 0] := by rw [hW]; have := Blk.new (w.alloc (.cells #[.int .i64 l, .int .i64 s, .slice B1 x1.length d1, .slice B2 x2.length d2, .slice B3 x3.length d3, .slice B4 x4.length d4, .slice B5 x5.length d5] 33)) 33 #[.int .i64 0, .int .i64 0, .slice none 0 0, .slice none 0 0, .slice none 0 0, .slice none 0 0, .slice none 0 0]; simpa using this
  have z0 : w.heap.size + 1 < W.heap.size := BR.lt
  have Hr1 := Lib.hid hr1
  have Hr2 := Lib.hid hr2
  have Hr3 := Lib.hid hr3
  have Hr4 := Lib.hid hr4
  have Hr5 := Lib.hid hr5
  have Hn1 := Lib.hid hn1
  have Hn2 := Lib.hid hn2
  have Hn3 := Lib.hid hn3
  have Hn4 := Lib.hid hn4
  have Hn5 := Lib.hid hn5
  clear hr1 hr2 hr3 hr4 hr5 hn1 hn2 hn3 hn4 hn5
  go_enter Tryz.func42, Tryz.ntmps42
  go_upto_region 1 with fail
  rw [← hW]
  clear hW
  have bx := (Below.refl W.heap.size W).drew
  replace BB := BB.past bx
  replace BR := BR.past bx
  replace Hb := Lib.hid (thenB Hb.out bx)
  have z1 : w.heap.size + 1 < W.drew.heap.size := z0
  clear bx
  have q0 := BB.cell 0; have q1 := BB.cell 1; have q2 := BB.cell 2; have q3 := BB.cell 3; have q4 := BB.cell 4; have q5 := BB.cell 5; have q6 := BB.cell 6; simp at q0 q1 q2 q3 q4 q5 q6
  go_wp2_with fail
  go_region_held3 (fun w' => w'.cell? ⟨w.heap.size, 0, none⟩ = some (.int .i64 l) ∧ w'.cell? ⟨w.heap.size, 1, none⟩ = some (.int .i64 s) ∧ w'.cell? ⟨w.heap.size, 2, none⟩ = some (.slice B1 x1.length d1) ∧ w'.cell? ⟨w.heap.size, 3, none⟩ = some (.slice B2 x2.length d2) ∧ w'.cell? ⟨w.heap.size, 4, none⟩ = some (.slice B3 x3.length d3) ∧ w'.cell? ⟨w.heap.size, 5, none⟩ = some (.slice B4 x4.length d4) ∧ w'.cell? ⟨w.heap.size, 6, none⟩ = some (.slice B5 x5.length d5)) (first | go_keep)
    (first
      | (go_at_call 48; (with_reducible refine (clone_any B1 d1 x1 _ (Hr1.out.past Hb.out) (by have := Hn1.out; omega)).mono ?_); rintro e w1 ⟨A1, c1, rfl, O1, h⟩; replace BB := BB.past h; replace BR := BR.past h; replace Hb := Lib.hid (thenB Hb.out h); have y1 : W.drew.heap.size ≤ w1.heap.size := h.size; have N1 : ∀ a, A1 = some a → w.heap.size + 1 < a.block := fun a e => Nat.lt_of_lt_of_le (show w.heap.size + 1 < W.drew.heap.size by omega) (own_lo O1 a e); have U1 := own_hi O1; have L1 := own_lo O1; replace O1 := own_mono O1 (show w.heap.size ≤ W.drew.heap.size by omega); clear h q0 q1 q2 q3 q4 q5 q6; have q0 := BB.cell 0; have q1 := BB.cell 1; have q2 := BB.cell 2; have q3 := BB.cell 3; have q4 := BB.cell 4; have q5 := BB.cell 5; have q6 := BB.cell 6; simp at q0 q1 q2 q3 q4 q5 q6)
      | (go_at_call 48; (with_reducible refine (clone_any B2 d2 x2 _ (Hr2.out.past Hb.out) (by have := Hn2.out; omega)).mono ?_); rintro e w2 ⟨A2, c2, rfl, O2, h⟩; replace BB := BB.past h; replace BR := BR.past h; replace Hb := Lib.hid (thenB Hb.out h); replace O1 := own_past O1 h; have y2 : w1.heap.size ≤ w2.heap.size := h.size; have N2 : ∀ a, A2 = some a → w.heap.size + 1 < a.block := fun a e => Nat.lt_of_lt_of_le (show w.heap.size + 1 < w1.heap.size by omega) (own_lo O2 a e); have U2 := own_hi O2; have L2 := own_lo O2; replace O2 := own_mono O2 (show w.heap.size ≤ w1.heap.size by omega); clear h q0 q1 q2 q3 q4 q5 q6; have q0 := BB.cell 0; have q1 := BB.cell 1; have q2 := BB.cell 2; have q3 := BB.cell 3; have q4 := BB.cell 4; have q5 := BB.cell 5; have q6 := BB.cell 6; simp at q0 q1 q2 q3 q4 q5 q6)
      | (go_at_call 48; (with_reducible refine (clone_any B3 d3 x3 _ (Hr3.out.past Hb.out) (by have := Hn3.out; omega)).mono ?_); rintro e w3 ⟨A3, c3, rfl, O3, h⟩; replace BB := BB.past h; replace BR := BR.past h; replace Hb := Lib.hid (thenB Hb.out h); replace O1 := own_past O1 h; replace O2 := own_past O2 h; have y3 : w2.heap.size ≤ w3.heap.size := h.size; have N3 : ∀ a, A3 = some a → w.heap.size + 1 < a.block := fun a e => Nat.lt_of_lt_of_le (show w.heap.size + 1 < w2.heap.size by omega) (own_lo O3 a e); have U3 := own_hi O3; have L3 := own_lo O3; replace O3 := own_mono O3 (show w.heap.size ≤ w2.heap.size by omega); clear h q0 q1 q2 q3 q4 q5 q6; have q0 := BB.cell 0; have q1 := BB.cell 1; have q2 := BB.cell 2; have q3 := BB.cell 3; have q4 := BB.cell 4; have q5 := BB.cell 5; have q6 := BB.cell 6; simp at q0 q1 q2 q3 q4 q5 q6)
      | (go_at_call 48; (with_reducible refine (clone_any B4 d4 x4 _ (Hr4.out.past Hb.out) (by have := Hn4.out; omega)).mono ?_); rintro e w4 ⟨A4, c4, rfl, O4, h⟩; replace BB := BB.past h; replace BR := BR.past h; replace Hb := Lib.hid (thenB Hb.out h); replace O1 := own_past O1 h; replace O2 := own_past O2 h; replace O3 := own_past O3 h; have y4 : w3.heap.size ≤ w4.heap.size := h.size; have N4 : ∀ a, A4 = some a → w.heap.size + 1 < a.block := fun a e => Nat.lt_of_lt_of_le (show w.heap.size + 1 < w3.heap.size by omega) (own_lo O4 a e); have U4 := own_hi O4; have L4 := own_lo O4; replace O4 := own_mono O4 (show w.heap.size ≤ w3.heap.size by omega); clear h q0 q1 q2 q3 q4 q5 q6; have q0 := BB.cell 0; have q1 := BB.cell 1; have q2 := BB.cell 2; have q3 := BB.cell 3; have q4 := BB.cell 4; have q5 := BB.cell 5; have q6 := BB.cell 6; simp at q0 q1 q2 q3 q4 q5 q6)
      | (go_at_call 48; (with_reducible refine (clone_any B5 d5 x5 _ (Hr5.out.past Hb.out) (by have := Hn5.out; omega)).mono ?_); rintro e w5 ⟨A5, c5, rfl, O5, h⟩; replace BB := BB.past h; replace BR := BR.past h; replace Hb := Lib.hid (thenB Hb.out h); replace O1 := own_past O1 h; replace O2 := own_past O2 h; replace O3 := own_past O3 h; replace O4 := own_past O4 h; have y5 : w4.heap.size ≤ w5.heap.size := h.size; have N5 : ∀ a, A5 = some a → w.heap.size + 1 < a.block := fun a e => Nat.lt_of_lt_of_le (show w.heap.size + 1 < w4.heap.size by omega) (own_lo O5 a e); have U5 := own_hi O5; have L5 := own_lo O5; replace O5 := own_mono O5 (show w.heap.size ≤ w4.heap.size by omega); clear h q0 q1 q2 q3 q4 q5 q6; have q0 := BB.cell 0; have q1 := BB.cell 1; have q2 := BB.cell 2; have q3 := BB.cell 3; have q4 := BB.cell 4; have q5 := BB.cell 5; have q6 := BB.cell 6; simp at q0 q1 q2 q3 q4 q5 q6; have p0 := BR.cell 0; have f0 := BR.frozen 0; have p1 := BR.cell 1; have f1 := BR.frozen 1; have p2 := BR.cell 2; have f2 := BR.frozen 2; have p3 := BR.cell 3; have f3 := BR.frozen 3; have p4 := BR.cell 4; have f4 := BR.frozen 4; have p5 := BR.cell 5; have f5 := BR.frozen 5; have p6 := BR.cell 6; have f6 := BR.frozen 6; simp at p0 p1 p2 p3 p4 p5 p6))
  have DD := (((((((BR.set_ 0 (.int .i64 l)).set_ 1 (.int .i64 s)).set_ 2 (.slice A1 x1.length c1)).set_ 3 (.slice A2 x2.length c2)).set_ 4 (.slice A3 x3.length c3)).set_ 5 (.slice A4 x4.length c4)).set_ 6 (.slice A5 x5.length c5))
  have d0 := DD.cell 0
  have d1 := DD.cell 1
  have d2 := DD.cell 2
  have d3 := DD.cell 3
  have d4 := DD.cell 4
  have d5 := DD.cell 5
  have d6 := DD.cell 6
  simp at d0 d1 d2 d3 d4 d5 d6
  have T := (turn_set (turn_set (turn_set (turn_set (turn_set (turn_set (turn_set (turn_refl w5 (w.heap.size + 1)) (p := ⟨w.heap.size + 1, 0, none⟩) rfl (.int .i64 l)) (p := ⟨w.heap.size + 1, 1, none⟩) rfl (.int .i64 s)) (p := ⟨w.heap.size + 1, 2, none⟩) rfl (.slice A1 x1.length c1)) (p := ⟨w.heap.size + 1, 3, none⟩) rfl (.slice A2 x2.length c2)) (p := ⟨w.heap.size + 1, 4, none⟩) rfl (.slice A3 x3.length c3)) (p := ⟨w.heap.size + 1, 5, none⟩) rfl (.slice A4 x4.length c4)) (p := ⟨w.heap.size + 1, 6, none⟩) rfl (.slice A5 x5.length c5))
  have Q1 := Lib.hid (own_grown O1 T (fun a e e' => by have h1 := N1 a e; have h2 := Option.some.inj e'; omega))
  have Q2 := Lib.hid (own_grown O2 T (fun a e e' => by have h1 := N2 a e; have h2 := Option.some.inj e'; omega))
  have Q3 := Lib.hid (own_grown O3 T (fun a e e' => by have h1 := N3 a e; have h2 := Option.some.inj e'; omega))
  have Q4 := Lib.hid (own_grown O4 T (fun a e e' => by have h1 := N4 a e; have h2 := Option.some.inj e'; omega))
  have Q5 := Lib.hid (own_grown O5 T (fun a e e' => by have h1 := N5 a e; have h2 := Option.some.inj e'; omega))
  have HB := Lib.hid ((((((((Hb.out.setCell (p := ⟨w.heap.size + 1, 0, none⟩) (show w.heap.size ≤ w.heap.size + 1 by omega) (.int .i64 l)).setCell (p := ⟨w.heap.size + 1, 1, none⟩) (show w.heap.size ≤ w.heap.size + 1 by omega) (.int .i64 s)).setCell (p := ⟨w.heap.size + 1, 2, none⟩) (show w.heap.size ≤ w.heap.size + 1 by omega) (.slice A1 x1.length c1)).setCell (p := ⟨w.heap.size + 1, 3, none⟩) (show w.heap.size ≤ w.heap.size + 1 by omega) (.slice A2 x2.length c2)).setCell (p := ⟨w.heap.size + 1, 4, none⟩) (show w.heap.size ≤ w.heap.size + 1 by omega) (.slice A3 x3.length c3)).setCell (p := ⟨w.heap.size + 1, 5, none⟩) (show w.heap.size ≤ w.heap.size + 1 by omega) (.slice A4 x4.length c4)).setCell (p := ⟨w.heap.size + 1, 6, none⟩) (show w.heap.size ≤ w.heap.size + 1 by omega) (.slice A5 x5.length c5)))
  have P12 : Hid (Apart A1 A2) := apart_lt U1 L2 (by omega)
  have P13 : Hid (Apart A1 A3) := apart_lt U1 L3 (by omega)
  have P14 : Hid (Apart A1 A4) := apart_lt U1 L4 (by omega)
  have P15 : Hid (Apart A1 A5) := apart_lt U1 L5 (by omega)
  have P23 : Hid (Apart A2 A3) := apart_lt U2 L3 (by omega)
  have P24 : Hid (Apart A2 A4) := apart_lt U2 L4 (by omega)
  have P25 : Hid (Apart A2 A5) := apart_lt U2 L5 (by omega)
  have P34 : Hid (Apart A3 A4) := apart_lt U3 L4 (by omega)
  have P35 : Hid (Apart A3 A5) := apart_lt U3 L5 (by omega)
  have P45 : Hid (Apart A4 A5) := apart_lt U4 L5 (by omega)
  clear p0 f0 p1 f1 p2 f2 p3 f3 p4 f4 p5 f5 p6 f6 T DD
  have HD0 := Lib.hid d0
  have HD1 := Lib.hid d1
  have HD2 := Lib.hid d2
  have HD3 := Lib.hid d3
  have HD4 := Lib.hid d4
  have HD5 := Lib.hid d5
  have HD6 := Lib.hid d6
  clear d0 d1 d2 d3 d4 d5 d6
  go_wp2
  refine bodyPost_ret (implCopy_res rfl HD0.out HD1.out HD2.out HD3.out HD4.out HD5.out HD6.out) rfl ?_
  exact ⟨A1, c1, A2, c2, A3, c3, A4, c4, A5, c5, rfl, Q1.out, Q2.out, Q3.out, Q4.out, Q5.out, P12.out, P13.out, P14.out, P15.out, P23.out, P24.out, P25.out, P34.out, P35.out, P45.out, HB.out⟩
theorem specCopy_res {tmps : Array Value} {g : Nat} {w : World} {v0 v1 v2 v3 v4 v5 v6 : Value} (hp : tmps.getD 2 undef = .pointer (some ⟨g, 0, none⟩)) (c0 : w.cell? ⟨g, 0, none⟩ = some v0) (c1 : w.cell? ⟨g, 1, none⟩ = some v1) (c2 : w.cell? ⟨g, 2, none⟩ = some v2) (c3 : w.cell? ⟨g, 3, none⟩ = some v3) (c4 : w.cell? ⟨g, 4, none⟩ = some v4) (c5 : w.cell? ⟨g, 5, none⟩ = some v5) (c6 : w.cell? ⟨g, 6, none⟩ = some v6) :
    (results Tryz.f73 tmps).run Tryz.prog w = .ok (.agg #[v0, v1, v2, v3, v4, v5, v6]) w := by
  have hp' := hp
  simp at hp'
  simp only [results, Tryz.results73]
  simp [go_sem, hp', c0, c1, c2, c3, c4, c5, c6]
set_option maxRecDepth 100000 in
set_option maxHeartbeats 4000000 in
theorem specCopyB_any (l s : Int) (B1 B2 B3 B4 B5 : Option Addr) (d1 d2 d3 d4 d5 : Nat) (x1 x2 x3 x4 x5 : List Int) (w : World) (hr1 : Rd w w.heap.size B1 x1) (hr2 : Rd w w.heap.size B2 x2) (hr3 : Rd w w.heap.size B3 x3) (hr4 : Rd w w.heap.size B4 x4) (hr5 : Rd w w.heap.size B5 x5) (hn1 : x1.length ≤ 1048576) (hn2 : x2.length ≤ 1048576) (hn3 : x3.length ≤ 1048576) (hn4 : x4.length ≤ 1048576) (hn5 : x5.length ≤ 1048576) :
    Calls Tryz.prog 73 #[.agg #[.int .i64 l, .int .i64 s, .slice B1 x1.length d1, .slice B2 x2.length d2, .slice B3 x3.length d3, .slice B4 x4.length d4, .slice B5 x5.length d5]] w (RetBe5 w l s x1 x2 x3 x4 x5) := by
  obtain ⟨W, hW⟩ : ∃ W, W = (w.alloc (.cells #[.int .i64 l, .int .i64 s, .slice B1 x1.length d1, .slice B2 x2.length d2, .slice B3 x3.length d3, .slice B4 x4.length d4, .slice B5 x5.length d5] 33)).alloc (.cells #[.int .i64 0, .int .i64 0, .slice none 0 0, .slice none 0 0, .slice none 0 0, .slice none 0 0, .slice none 0 0] 33) := ⟨_, rfl⟩
  have Hb : Hid (Below w.heap.size w W) := by rw [hW]; exact ((Below.refl _ _).alloc (Nat.le_refl _) _).alloc (by simp) _
  have BB : Blk W w.heap.size 33 #[.int .i64 l, .int .i64 s, .slice B1 x1.length d1, .slice B2 x2.length d2, .slice B3 x3.length d3, .slice B4 x4.length d4, .slice B5 x5.length d5] := by rw [hW]; exact (Blk.new w 33 #[.int .i64 l, .int .i64 s, .slice B1 x1.length d1, .slice B2 x2.length d2, .slice B3 x3.length d3, .slice B4 x4.length d4, .slice B5 x5.length d5]).alloc _
  have BR : Blk W (w.heap.size + 1) 33 #[.int .i64 0, .int .i64 0, .slice none 0 0, .slice none 0 0, .slice none 0 0, .slice none 0 0, .slice none 0 0] := by rw [hW]; have := Blk.new (w.alloc (.cells #[.int .i64 l, .int .i64 s, .slice B1 x1.length d1, .slice B2 x2.length d2, .slice B3 x3.length d3, .slice B4 x4.length d4, .slice B5 x5.length d5] 33)) 33 #[.int .i64 0, .int .i64 0, .slice none 0 0, .slice none 0 0, .slice none 0 0, .slice none 0 0, .slice none 0 0]; simpa using this
  have z0 : w.heap.size + 1 < W.heap.size := BR.lt
  have Hr1 := Lib.hid hr1
  have Hr2 := Lib.hid hr2
  have Hr3 := Lib.hid hr3
  have Hr4 := Lib.hid hr4
  have Hr5 := Lib.hid hr5
  have Hn1 := Lib.hid hn1
  have Hn2 := Lib.hid hn2
  have Hn3 := Lib.hid hn3
  have Hn4 := Lib.hid hn4
  have Hn5 := Lib.hid hn5
  clear hr1 hr2 hr3 hr4 hr5 hn1 hn2 hn3 hn4 hn5
  go_enter Tryz.func73, Tryz.ntmps73
  go_upto_region 1 with fail
  rw [← hW]
  clear hW
  have nz1 : ¬ (w.heap.size = W.heap.size) := (by omega)
  have nz2 : ¬ (W.heap.size = w.heap.size) := (by omega)
  have HBz := Hb
  have bx := (Below.refl W.heap.size W).drew
  have by_ : Below W.heap.size W (W.alloc (.cells #[.int .i64 0, .int .i64 0, .slice none 0 0] 27)).drew := ((Below.refl _ _).alloc (Nat.le_refl _) _).drew
  have BBb := BB.past by_
  have BRb := BR.past by_
  have Hbb := Lib.hid (thenB Hb.out by_)
  have BMb : Blk (W.alloc (.cells #[.int .i64 0, .int .i64 0, .slice none 0 0] 27)).drew W.heap.size 27 #[.int .i64 0, .int .i64 0, .slice none 0 0] := Blk.new W 27 #[.int .i64 0, .int .i64 0, .slice none 0 0]
  have zb : W.heap.size < (W.alloc (.cells #[.int .i64 0, .int .i64 0, .slice none 0 0] 27)).drew.heap.size := by simp
  have za : W.heap.size ≤ W.drew.heap.size := Nat.le_refl _
  replace BB := BB.past bx
  replace BR := BR.past bx
  replace Hb := Lib.hid (thenB Hb.out bx)
  have HB0 := HBz
  clear HBz
  have HW := Lib.hid bx
  have HV := Lib.hid by_
  clear bx by_
  have q0 := BB.cell 0; have q1 := BB.cell 1; have q2 := BB.cell 2; have k0 := BBb.cell 0; have k1 := BBb.cell 1; have k2 := BBb.cell 2; simp at q0 q1 q2 k0 k1 k2
  go_wp2_with fail
  go_region_held3 (fun w' => w'.cell? ⟨w.heap.size, 0, none⟩ = some (.int .i64 l) ∧ w'.cell? ⟨w.heap.size, 1, none⟩ = some (.int .i64 s) ∧ w'.cell? ⟨w.heap.size, 2, none⟩ = some (.slice B1 x1.length d1)) (first | go_keep)
    (first
      | (go_at_call 59; (with_reducible refine (l1Copy_any B1 d1 x1 W.drew (Hr1.out.past Hb.out) (by have := Hn1.out; omega)).mono ?_); rintro e w1 ⟨A1, c1, rfl, O1, h⟩; have BB1 := BB.past h; have BR1 := BR.past h; have H1 := Lib.hid (thenB HW.out h); have Hb1 := Lib.hid (thenB Hb.out h); have y1 : W.heap.size ≤ w1.heap.size := h.size; clear h q0 q1 q2 k0 k1 k2; have q0 := BB1.cell 0; have q1 := BB1.cell 1; have q2 := BB1.cell 2; simp at q0 q1 q2)
      | (go_at_call 59; (with_reducible refine (l1Copy_any B1 d1 x1 (W.alloc (.cells #[.int .i64 0, .int .i64 0, .slice none 0 0] 27)).drew (Hr1.out.past Hbb.out) (by have := Hn1.out; omega)).mono ?_); rintro e w1 ⟨A1, c1, rfl, O1, h⟩; have BB1 := BBb.past h; have BR1 := BRb.past h; have BM1 := BMb.past h; have H1 := Lib.hid (thenB HV.out h); have Hb1 := Lib.hid (thenB Hbb.out h); have y1 : W.heap.size < w1.heap.size := Nat.lt_of_lt_of_le zb h.size; clear h q0 q1 q2 k0 k1 k2; have q0 := BB1.cell 0; have q1 := BB1.cell 1; have q2 := BB1.cell 2; have p0 := BM1.cell 0; have p1 := BM1.cell 1; have p2 := BM1.cell 2; have f0 := BM1.frozen 0; have f1 := BM1.frozen 1; have f2 := BM1.frozen 2; simp at q0 q1 q2 p0 p1 p2))
  (have M := metMo_after (l := l) (s := s) H1.out za O1; have BB2 := BB1.alloc (.cells #[.int .i64 l, .int .i64 s, .slice A1 x1.length c1] 27); have BR2 := BR1.alloc (.cells #[.int .i64 l, .int .i64 s, .slice A1 x1.length c1] 27); obtain ⟨g, hg⟩ : ∃ g, g = w1.heap.size := ⟨_, rfl⟩; obtain ⟨wx, hwx⟩ : ∃ V, V = (w1.alloc (.cells #[.int .i64 l, .int .i64 s, .slice A1 x1.length c1] 27)) := ⟨_, rfl⟩; rw [← hwx] at M BB2 BR2 ⊢; rw [← hg] at M y1 ⊢; clear hwx hg)
  rotate_left
  (have M := metMo_before (l := l) (s := s) H1.out (Nat.le_refl _) zb rfl BM1 O1; have nd : w.heap.size ≠ W.heap.size := (by omega); have nd2 : w.heap.size + 1 ≠ W.heap.size := (by omega); have BB2 := ((BB1.far (p := ⟨W.heap.size, 0, none⟩) nd (.int .i64 l)).far (p := ⟨W.heap.size, 1, none⟩) nd (.int .i64 s)).far (p := ⟨W.heap.size, 2, none⟩) nd (.slice A1 x1.length c1); have BR2 := ((BR1.far (p := ⟨W.heap.size, 0, none⟩) nd2 (.int .i64 l)).far (p := ⟨W.heap.size, 1, none⟩) nd2 (.int .i64 s)).far (p := ⟨W.heap.size, 2, none⟩) nd2 (.slice A1 x1.length c1); clear BM1 p0 p1 p2 f0 f1 f2; obtain ⟨g, hg⟩ : ∃ g, g = W.heap.size := ⟨_, rfl⟩; obtain ⟨wx, hwx⟩ : ∃ V, V = (((w1.setCell ⟨W.heap.size, 0, none⟩ (.int .i64 l)).setCell ⟨W.heap.size, 1, none⟩ (.int .i64 s)).setCell ⟨W.heap.size, 2, none⟩ (.slice A1 x1.length c1)) := ⟨_, rfl⟩; rw [← hwx] at M BB2 BR2 ⊢; rw [← hg] at M y1 ⊢; clear hwx hg)
  rotate_left
  all_goals
    have nzg1 : ¬ (g = w.heap.size + 1) := (by have := M.1; omega)
    have nzg2 : ¬ (w.heap.size + 1 = g) := (by have := M.1; omega)
    obtain ⟨mg, BM, O1, nb1, Hw⟩ := M
    replace BB := BB2
    replace BR := BR2
    clear BB2 BR2 BBb BRb BMb BB1 BR1 Hb Hbb Hb1 H1 HW HV
    have zx : W.heap.size ≤ wx.heap.size := Hw.size
    have N1 : ∀ a, A1 = some a → w.heap.size + 1 < a.block := fun a e => Nat.lt_of_lt_of_le z0 (own_lo O1 a e)
    have Hb := Lib.hid (thenB HB0.out Hw)
    have bx := (Below.refl wx.heap.size wx).drew
    replace BB := BB.past bx
    replace BR := BR.past bx
    replace BM := BM.past bx
    replace Hb := Lib.hid (thenB Hb.out bx)
    replace O1 := own_past O1 bx
    have U1 := own_hi O1
    have L1 := own_lo O1
    replace O1 := own_mono O1 (show w.heap.size ≤ W.heap.size by omega)
    have zy : wx.heap.size ≤ wx.drew.heap.size := Nat.le_refl _
    clear bx Hw
    have gm : ∀ a, A1 = some a → a.block ≠ g := nb1
    have q0 := BB.cell 0; have q1 := BB.cell 1; have q2 := BB.cell 2; have q3 := BB.cell 3; have q4 := BB.cell 4; have q5 := BB.cell 5; have q6 := BB.cell 6; have k0 := BM.cell 0; have k1 := BM.cell 1; have k2 := BM.cell 2; simp at q0 q1 q2 q3 q4 q5 q6 k0 k1 k2
    go_wp2_with fail
    go_region_held3 (fun w' => w'.cell? ⟨w.heap.size, 3, none⟩ = some (.slice B2 x2.length d2) ∧ w'.cell? ⟨w.heap.size, 4, none⟩ = some (.slice B3 x3.length d3) ∧ w'.cell? ⟨w.heap.size, 5, none⟩ = some (.slice B4 x4.length d4) ∧ w'.cell? ⟨w.heap.size, 6, none⟩ = some (.slice B5 x5.length d5) ∧ w'.cell? ⟨g, 0, none⟩ = some (.int .i64 l) ∧ w'.cell? ⟨g, 1, none⟩ = some (.int .i64 s) ∧ w'.cell? ⟨g, 2, none⟩ = some (.slice A1 x1.length c1)) (first | go_keep)
      (first
        | (go_at_call 59; (with_reducible refine (l1Copy_any B2 d2 x2 _ (Hr2.out.past Hb.out) (by have := Hn2.out; omega)).mono ?_); rintro e w2 ⟨A2, c2, rfl, O2, h⟩; replace BB := BB.past h; replace BR := BR.past h; replace BM := BM.past h; replace Hb := Lib.hid (thenB Hb.out h); replace O1 := own_past O1 h; have y2 : wx.drew.heap.size ≤ w2.heap.size := h.size; have N2 : ∀ a, A2 = some a → w.heap.size + 1 < a.block := fun a e => Nat.lt_of_lt_of_le (show w.heap.size + 1 < wx.drew.heap.size by omega) (own_lo O2 a e); have U2 := own_hi O2; have L2 := own_lo O2; replace O2 := own_mono O2 (show w.heap.size ≤ wx.drew.heap.size by omega); clear h q0 q1 q2 q3 q4 q5 q6; have q0 := BB.cell 0; have q1 := BB.cell 1; have q2 := BB.cell 2; have q3 := BB.cell 3; have q4 := BB.cell 4; have q5 := BB.cell 5; have q6 := BB.cell 6; simp at q0 q1 q2 q3 q4 q5 q6; clear k0 k1 k2; have k0 := BM.cell 0; have k1 := BM.cell 1; have k2 := BM.cell 2; simp at k0 k1 k2)
        | (go_at_call 59; (with_reducible refine (l1Copy_any B3 d3 x3 _ (Hr3.out.past Hb.out) (by have := Hn3.out; omega)).mono ?_); rintro e w3 ⟨A3, c3, rfl, O3, h⟩; replace BB := BB.past h; replace BR := BR.past h; replace BM := BM.past h; replace Hb := Lib.hid (thenB Hb.out h); replace O1 := own_past O1 h; replace O2 := own_past O2 h; have y3 : w2.heap.size ≤ w3.heap.size := h.size; have N3 : ∀ a, A3 = some a → w.heap.size + 1 < a.block := fun a e => Nat.lt_of_lt_of_le (show w.heap.size + 1 < w2.heap.size by omega) (own_lo O3 a e); have U3 := own_hi O3; have L3 := own_lo O3; replace O3 := own_mono O3 (show w.heap.size ≤ w2.heap.size by omega); clear h q0 q1 q2 q3 q4 q5 q6; have q0 := BB.cell 0; have q1 := BB.cell 1; have q2 := BB.cell 2; have q3 := BB.cell 3; have q4 := BB.cell 4; have q5 := BB.cell 5; have q6 := BB.cell 6; simp at q0 q1 q2 q3 q4 q5 q6; clear k0 k1 k2; have k0 := BM.cell 0; have k1 := BM.cell 1; have k2 := BM.cell 2; simp at k0 k1 k2)
        | (go_at_call 59; (with_reducible refine (l1Copy_any B4 d4 x4 _ (Hr4.out.past Hb.out) (by have := Hn4.out; omega)).mono ?_); rintro e w4 ⟨A4, c4, rfl, O4, h⟩; replace BB := BB.past h; replace BR := BR.past h; replace BM := BM.past h; replace Hb := Lib.hid (thenB Hb.out h); replace O1 := own_past O1 h; replace O2 := own_past O2 h; replace O3 := own_past O3 h; have y4 : w3.heap.size ≤ w4.heap.size := h.size; have N4 : ∀ a, A4 = some a → w.heap.size + 1 < a.block := fun a e => Nat.lt_of_lt_of_le (show w.heap.size + 1 < w3.heap.size by omega) (own_lo O4 a e); have U4 := own_hi O4; have L4 := own_lo O4; replace O4 := own_mono O4 (show w.heap.size ≤ w3.heap.size by omega); clear h q0 q1 q2 q3 q4 q5 q6; have q0 := BB.cell 0; have q1 := BB.cell 1; have q2 := BB.cell 2; have q3 := BB.cell 3; have q4 := BB.cell 4; have q5 := BB.cell 5; have q6 := BB.cell 6; simp at q0 q1 q2 q3 q4 q5 q6; clear k0 k1 k2; have k0 := BM.cell 0; have k1 := BM.cell 1; have k2 := BM.cell 2; simp at k0 k1 k2)
        | (go_at_call 59; (with_reducible refine (l1Copy_any B5 d5 x5 _ (Hr5.out.past Hb.out) (by have := Hn5.out; omega)).mono ?_); rintro e w5 ⟨A5, c5, rfl, O5, h⟩; replace BB := BB.past h; replace BR := BR.past h; replace BM := BM.past h; replace Hb := Lib.hid (thenB Hb.out h); replace O1 := own_past O1 h; replace O2 := own_past O2 h; replace O3 := own_past O3 h; replace O4 := own_past O4 h; have y5 : w4.heap.size ≤ w5.heap.size := h.size; have N5 : ∀ a, A5 = some a → w.heap.size + 1 < a.block := fun a e => Nat.lt_of_lt_of_le (show w.heap.size + 1 < w4.heap.size by omega) (own_lo O5 a e); have U5 := own_hi O5; have L5 := own_lo O5; replace O5 := own_mono O5 (show w.heap.size ≤ w4.heap.size by omega); clear h q0 q1 q2 q3 q4 q5 q6; have q0 := BB.cell 0; have q1 := BB.cell 1; have q2 := BB.cell 2; have q3 := BB.cell 3; have q4 := BB.cell 4; have q5 := BB.cell 5; have q6 := BB.cell 6; simp at q0 q1 q2 q3 q4 q5 q6; clear k0 k1 k2; have k0 := BM.cell 0; have k1 := BM.cell 1; have k2 := BM.cell 2; simp at k0 k1 k2; have p0 := BR.cell 0; have f0 := BR.frozen 0; have p1 := BR.cell 1; have f1 := BR.frozen 1; have p2 := BR.cell 2; have f2 := BR.frozen 2; have p3 := BR.cell 3; have f3 := BR.frozen 3; have p4 := BR.cell 4; have f4 := BR.frozen 4; have p5 := BR.cell 5; have f5 := BR.frozen 5; have p6 := BR.cell 6; have f6 := BR.frozen 6; simp at p0 p1 p2 p3 p4 p5 p6))
    have DD := (((((((BR.set_ 0 (.int .i64 l)).set_ 1 (.int .i64 s)).set_ 2 (.slice A1 x1.length c1)).set_ 3 (.slice A2 x2.length c2)).set_ 4 (.slice A3 x3.length c3)).set_ 5 (.slice A4 x4.length c4)).set_ 6 (.slice A5 x5.length c5))
    have d0 := DD.cell 0
    have d1 := DD.cell 1
    have d2 := DD.cell 2
    have d3 := DD.cell 3
    have d4 := DD.cell 4
    have d5 := DD.cell 5
    have d6 := DD.cell 6
    simp at d0 d1 d2 d3 d4 d5 d6
    have T := (turn_set (turn_set (turn_set (turn_set (turn_set (turn_set (turn_set (turn_refl w5 (w.heap.size + 1)) (p := ⟨w.heap.size + 1, 0, none⟩) rfl (.int .i64 l)) (p := ⟨w.heap.size + 1, 1, none⟩) rfl (.int .i64 s)) (p := ⟨w.heap.size + 1, 2, none⟩) rfl (.slice A1 x1.length c1)) (p := ⟨w.heap.size + 1, 3, none⟩) rfl (.slice A2 x2.length c2)) (p := ⟨w.heap.size + 1, 4, none⟩) rfl (.slice A3 x3.length c3)) (p := ⟨w.heap.size + 1, 5, none⟩) rfl (.slice A4 x4.length c4)) (p := ⟨w.heap.size + 1, 6, none⟩) rfl (.slice A5 x5.length c5))
    have Q1 := Lib.hid (own_grown O1 T (fun a e e' => by have h1 := N1 a e; have h2 := Option.some.inj e'; omega))
    have Q2 := Lib.hid (own_grown O2 T (fun a e e' => by have h1 := N2 a e; have h2 := Option.some.inj e'; omega))
    have Q3 := Lib.hid (own_grown O3 T (fun a e e' => by have h1 := N3 a e; have h2 := Option.some.inj e'; omega))
    have Q4 := Lib.hid (own_grown O4 T (fun a e e' => by have h1 := N4 a e; have h2 := Option.some.inj e'; omega))
    have Q5 := Lib.hid (own_grown O5 T (fun a e e' => by have h1 := N5 a e; have h2 := Option.some.inj e'; omega))
    have HB := Lib.hid ((((((((Hb.out.setCell (p := ⟨w.heap.size + 1, 0, none⟩) (show w.heap.size ≤ w.heap.size + 1 by omega) (.int .i64 l)).setCell (p := ⟨w.heap.size + 1, 1, none⟩) (show w.heap.size ≤ w.heap.size + 1 by omega) (.int .i64 s)).setCell (p := ⟨w.heap.size + 1, 2, none⟩) (show w.heap.size ≤ w.heap.size + 1 by omega) (.slice A1 x1.length c1)).setCell (p := ⟨w.heap.size + 1, 3, none⟩) (show w.heap.size ≤ w.heap.size + 1 by omega) (.slice A2 x2.length c2)).setCell (p := ⟨w.heap.size + 1, 4, none⟩) (show w.heap.size ≤ w.heap.size + 1 by omega) (.slice A3 x3.length c3)).setCell (p := ⟨w.heap.size + 1, 5, none⟩) (show w.heap.size ≤ w.heap.size + 1 by omega) (.slice A4 x4.length c4)).setCell (p := ⟨w.heap.size + 1, 6, none⟩) (show w.heap.size ≤ w.heap.size + 1 by omega) (.slice A5 x5.length c5)))
    have P12 : Hid (Apart A1 A2) := apart_lt U1 L2 (by omega)
    have P13 : Hid (Apart A1 A3) := apart_lt U1 L3 (by omega)
    have P14 : Hid (Apart A1 A4) := apart_lt U1 L4 (by omega)
    have P15 : Hid (Apart A1 A5) := apart_lt U1 L5 (by omega)
    have P23 : Hid (Apart A2 A3) := apart_lt U2 L3 (by omega)
    have P24 : Hid (Apart A2 A4) := apart_lt U2 L4 (by omega)
    have P25 : Hid (Apart A2 A5) := apart_lt U2 L5 (by omega)
    have P34 : Hid (Apart A3 A4) := apart_lt U3 L4 (by omega)
    have P35 : Hid (Apart A3 A5) := apart_lt U3 L5 (by omega)
    have P45 : Hid (Apart A4 A5) := apart_lt U4 L5 (by omega)
    clear p0 f0 p1 f1 p2 f2 p3 f3 p4 f4 p5 f5 p6 f6 T DD
    have HD0 := Lib.hid d0
    have HD1 := Lib.hid d1
    have HD2 := Lib.hid d2
    have HD3 := Lib.hid d3
    have HD4 := Lib.hid d4
    have HD5 := Lib.hid d5
    have HD6 := Lib.hid d6
    clear d0 d1 d2 d3 d4 d5 d6
    go_wp2
    refine bodyPost_ret (specCopy_res rfl HD0.out HD1.out HD2.out HD3.out HD4.out HD5.out HD6.out) rfl ?_
    exact ⟨A1, c1, A2, c2, A3, c3, A4, c4, A5, c5, rfl, Q1.out, Q2.out, Q3.out, Q4.out, Q5.out, P12.out, P13.out, P14.out, P15.out, P23.out, P24.out, P25.out, P34.out, P35.out, P45.out, HB.out⟩
end Go.Proofs.YtgkijkenbjjnmaaGreatDoor
