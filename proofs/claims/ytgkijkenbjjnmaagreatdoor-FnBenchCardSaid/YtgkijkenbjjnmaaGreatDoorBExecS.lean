/- Contract of the reference's ExecuteLine. (Printed by mkexec.py.) -/
import Derived.Test.YtgkijkenbjjnmaaGreatDoorBExec
namespace Go.Proofs.YtgkijkenbjjnmaaGreatDoor
open Go.RowKit
set_option linter.unusedVariables false
set_option linter.unusedSimpArgs false
theorem done7 {w W : World} {l s : Int} {A1 : Option Addr} {c1 : Nat} {x1 : List Int} {A2 : Option Addr} {c2 : Nat} {x2 : List Int} {A3 : Option Addr} {c3 : Nat} {x3 : List Int} {A4 : Option Addr} {c4 : Nat} {x4 : List Int} {A5 : Option Addr} {c5 : Nat} {x5 : List Int} (b1 : Blk W (w.heap.size + 1) 33 #[.int .i64 0, .int .i64 0, .slice none 0 0, .slice none 0 0, .slice none 0 0, .slice none 0 0, .slice none 0 0]) (o1 : Own W w.heap.size A1 c1 x1) (o2 : Own W w.heap.size A2 c2 x2) (o3 : Own W w.heap.size A3 c3 x3) (o4 : Own W w.heap.size A4 c4 x4) (o5 : Own W w.heap.size A5 c5 x5) (n1 : ∀ a, A1 = some a → w.heap.size + 1 < a.block) (n2 : ∀ a, A2 = some a → w.heap.size + 1 < a.block) (n3 : ∀ a, A3 = some a → w.heap.size + 1 < a.block) (n4 : ∀ a, A4 = some a → w.heap.size + 1 < a.block) (n5 : ∀ a, A5 = some a → w.heap.size + 1 < a.block) (p12 : Apart A1 A2) (p13 : Apart A1 A3) (p14 : Apart A1 A4) (p15 : Apart A1 A5) (p23 : Apart A2 A3) (p24 : Apart A2 A4) (p25 : Apart A2 A5) (p34 : Apart A3 A4) (p35 : Apart A3 A5) (p45 : Apart A4 A5) (hb : Below w.heap.size w W) (t : List UInt8) : (((((((W.setCell ⟨w.heap.size + 1, 0, none⟩ (.int .i64 l)).setCell ⟨w.heap.size + 1, 1, none⟩ (.int .i64 s)).setCell ⟨w.heap.size + 1, 2, none⟩ (.slice A1 x1.length c1)).setCell ⟨w.heap.size + 1, 3, none⟩ (.slice A2 x2.length c2)).setCell ⟨w.heap.size + 1, 4, none⟩ (.slice A3 x3.length c3)).setCell ⟨w.heap.size + 1, 5, none⟩ (.slice A4 x4.length c4)).setCell ⟨w.heap.size + 1, 6, none⟩ (.slice A5 x5.length c5)).cell? ⟨w.heap.size + 1, 0, none⟩ = some (.int .i64 l) ∧ (((((((W.setCell ⟨w.heap.size + 1, 0, none⟩ (.int .i64 l)).setCell ⟨w.heap.size + 1, 1, none⟩ (.int .i64 s)).setCell ⟨w.heap.size + 1, 2, none⟩ (.slice A1 x1.length c1)).setCell ⟨w.heap.size + 1, 3, none⟩ (.slice A2 x2.length c2)).setCell ⟨w.heap.size + 1, 4, none⟩ (.slice A3 x3.length c3)).setCell ⟨w.heap.size + 1, 5, none⟩ (.slice A4 x4.length c4)).setCell ⟨w.heap.size + 1, 6, none⟩ (.slice A5 x5.length c5)).cell? ⟨w.heap.size + 1, 1, none⟩ = some (.int .i64 s) ∧ (((((((W.setCell ⟨w.heap.size + 1, 0, none⟩ (.int .i64 l)).setCell ⟨w.heap.size + 1, 1, none⟩ (.int .i64 s)).setCell ⟨w.heap.size + 1, 2, none⟩ (.slice A1 x1.length c1)).setCell ⟨w.heap.size + 1, 3, none⟩ (.slice A2 x2.length c2)).setCell ⟨w.heap.size + 1, 4, none⟩ (.slice A3 x3.length c3)).setCell ⟨w.heap.size + 1, 5, none⟩ (.slice A4 x4.length c4)).setCell ⟨w.heap.size + 1, 6, none⟩ (.slice A5 x5.length c5)).cell? ⟨w.heap.size + 1, 2, none⟩ = some (.slice A1 x1.length c1) ∧ (((((((W.setCell ⟨w.heap.size + 1, 0, none⟩ (.int .i64 l)).setCell ⟨w.heap.size + 1, 1, none⟩ (.int .i64 s)).setCell ⟨w.heap.size + 1, 2, none⟩ (.slice A1 x1.length c1)).setCell ⟨w.heap.size + 1, 3, none⟩ (.slice A2 x2.length c2)).setCell ⟨w.heap.size + 1, 4, none⟩ (.slice A3 x3.length c3)).setCell ⟨w.heap.size + 1, 5, none⟩ (.slice A4 x4.length c4)).setCell ⟨w.heap.size + 1, 6, none⟩ (.slice A5 x5.length c5)).cell? ⟨w.heap.size + 1, 3, none⟩ = some (.slice A2 x2.length c2) ∧ (((((((W.setCell ⟨w.heap.size + 1, 0, none⟩ (.int .i64 l)).setCell ⟨w.heap.size + 1, 1, none⟩ (.int .i64 s)).setCell ⟨w.heap.size + 1, 2, none⟩ (.slice A1 x1.length c1)).setCell ⟨w.heap.size + 1, 3, none⟩ (.slice A2 x2.length c2)).setCell ⟨w.heap.size + 1, 4, none⟩ (.slice A3 x3.length c3)).setCell ⟨w.heap.size + 1, 5, none⟩ (.slice A4 x4.length c4)).setCell ⟨w.heap.size + 1, 6, none⟩ (.slice A5 x5.length c5)).cell? ⟨w.heap.size + 1, 4, none⟩ = some (.slice A3 x3.length c3) ∧ (((((((W.setCell ⟨w.heap.size + 1, 0, none⟩ (.int .i64 l)).setCell ⟨w.heap.size + 1, 1, none⟩ (.int .i64 s)).setCell ⟨w.heap.size + 1, 2, none⟩ (.slice A1 x1.length c1)).setCell ⟨w.heap.size + 1, 3, none⟩ (.slice A2 x2.length c2)).setCell ⟨w.heap.size + 1, 4, none⟩ (.slice A3 x3.length c3)).setCell ⟨w.heap.size + 1, 5, none⟩ (.slice A4 x4.length c4)).setCell ⟨w.heap.size + 1, 6, none⟩ (.slice A5 x5.length c5)).cell? ⟨w.heap.size + 1, 5, none⟩ = some (.slice A4 x4.length c4) ∧ (((((((W.setCell ⟨w.heap.size + 1, 0, none⟩ (.int .i64 l)).setCell ⟨w.heap.size + 1, 1, none⟩ (.int .i64 s)).setCell ⟨w.heap.size + 1, 2, none⟩ (.slice A1 x1.length c1)).setCell ⟨w.heap.size + 1, 3, none⟩ (.slice A2 x2.length c2)).setCell ⟨w.heap.size + 1, 4, none⟩ (.slice A3 x3.length c3)).setCell ⟨w.heap.size + 1, 5, none⟩ (.slice A4 x4.length c4)).setCell ⟨w.heap.size + 1, 6, none⟩ (.slice A5 x5.length c5)).cell? ⟨w.heap.size + 1, 6, none⟩ = some (.slice A5 x5.length c5) ∧ RetBS w (⟨l, s, x1, x2, x3, x4, x5⟩, t) (.returned (.tuple #[.agg #[.int .i64 l, .int .i64 s, .slice A1 x1.length c1, .slice A2 x2.length c2, .slice A3 x3.length c3, .slice A4 x4.length c4, .slice A5 x5.length c5], .string (bs t)])) (((((((W.setCell ⟨w.heap.size + 1, 0, none⟩ (.int .i64 l)).setCell ⟨w.heap.size + 1, 1, none⟩ (.int .i64 s)).setCell ⟨w.heap.size + 1, 2, none⟩ (.slice A1 x1.length c1)).setCell ⟨w.heap.size + 1, 3, none⟩ (.slice A2 x2.length c2)).setCell ⟨w.heap.size + 1, 4, none⟩ (.slice A3 x3.length c3)).setCell ⟨w.heap.size + 1, 5, none⟩ (.slice A4 x4.length c4)).setCell ⟨w.heap.size + 1, 6, none⟩ (.slice A5 x5.length c5)) := by
  have D := (((((((b1.set_ 0 (.int .i64 l)).set_ 1 (.int .i64 s)).set_ 2 (.slice A1 x1.length c1)).set_ 3 (.slice A2 x2.length c2)).set_ 4 (.slice A3 x3.length c3)).set_ 5 (.slice A4 x4.length c4)).set_ 6 (.slice A5 x5.length c5))
  have T := (turn_set (turn_set (turn_set (turn_set (turn_set (turn_set (turn_set (turn_refl W (w.heap.size + 1)) (p := ⟨w.heap.size + 1, 0, none⟩) rfl (.int .i64 l)) (p := ⟨w.heap.size + 1, 1, none⟩) rfl (.int .i64 s)) (p := ⟨w.heap.size + 1, 2, none⟩) rfl (.slice A1 x1.length c1)) (p := ⟨w.heap.size + 1, 3, none⟩) rfl (.slice A2 x2.length c2)) (p := ⟨w.heap.size + 1, 4, none⟩) rfl (.slice A3 x3.length c3)) (p := ⟨w.heap.size + 1, 5, none⟩) rfl (.slice A4 x4.length c4)) (p := ⟨w.heap.size + 1, 6, none⟩) rfl (.slice A5 x5.length c5))
  have d0 := D.cell 0
  have d1 := D.cell 1
  have d2 := D.cell 2
  have d3 := D.cell 3
  have d4 := D.cell 4
  have d5 := D.cell 5
  have d6 := D.cell 6
  simp at d0 d1 d2 d3 d4 d5 d6
  refine ⟨d0, d1, d2, d3, d4, d5, d6, A1, c1, A2, c2, A3, c3, A4, c4, A5, c5, rfl, own_grown o1 T (fun a e e' => by have h1 := n1 a e; have h2 := Option.some.inj e'; omega), own_grown o2 T (fun a e e' => by have h1 := n2 a e; have h2 := Option.some.inj e'; omega), own_grown o3 T (fun a e e' => by have h1 := n3 a e; have h2 := Option.some.inj e'; omega), own_grown o4 T (fun a e e' => by have h1 := n4 a e; have h2 := Option.some.inj e'; omega), own_grown o5 T (fun a e e' => by have h1 := n5 a e; have h2 := Option.some.inj e'; omega), p12, p13, p14, p15, p23, p24, p25, p34, p35, p45, ?_⟩
  exact (((((((hb.setCell (p := ⟨w.heap.size + 1, 0, none⟩) (show w.heap.size ≤ w.heap.size + 1 by omega) (.int .i64 l)).setCell (p := ⟨w.heap.size + 1, 1, none⟩) (show w.heap.size ≤ w.heap.size + 1 by omega) (.int .i64 s)).setCell (p := ⟨w.heap.size + 1, 2, none⟩) (show w.heap.size ≤ w.heap.size + 1 by omega) (.slice A1 x1.length c1)).setCell (p := ⟨w.heap.size + 1, 3, none⟩) (show w.heap.size ≤ w.heap.size + 1 by omega) (.slice A2 x2.length c2)).setCell (p := ⟨w.heap.size + 1, 4, none⟩) (show w.heap.size ≤ w.heap.size + 1 by omega) (.slice A3 x3.length c3)).setCell (p := ⟨w.heap.size + 1, 5, none⟩) (show w.heap.size ≤ w.heap.size + 1 by omega) (.slice A4 x4.length c4)).setCell (p := ⟨w.heap.size + 1, 6, none⟩) (show w.heap.size ≤ w.heap.size + 1 by omega) (.slice A5 x5.length c5))
theorem specExec_res {tmps : Array Value} {g : Nat} {w : World} {v0 v1 v2 v3 v4 v5 v6 t : Value} (hp : tmps.getD 4 undef = .pointer (some ⟨g, 0, none⟩)) (hb : tmps.getD 5 undef = t) (c0 : w.cell? ⟨g, 0, none⟩ = some v0) (c1 : w.cell? ⟨g, 1, none⟩ = some v1) (c2 : w.cell? ⟨g, 2, none⟩ = some v2) (c3 : w.cell? ⟨g, 3, none⟩ = some v3) (c4 : w.cell? ⟨g, 4, none⟩ = some v4) (c5 : w.cell? ⟨g, 5, none⟩ = some v5) (c6 : w.cell? ⟨g, 6, none⟩ = some v6) :
    (results Tryz.f31 tmps).run Tryz.prog w = .ok (.tuple #[.agg #[v0, v1, v2, v3, v4, v5, v6], t]) w := by
  have hp' := hp
  have hb' := hb
  simp at hp' hb'
  simp only [results, Tryz.results31]
  simp [go_sem, hp', hb', c0, c1, c2, c3, c4, c5, c6]
set_option maxRecDepth 100000 in
set_option maxHeartbeats 16000000 in
theorem specExec_any (l s : Int) (B1 B2 B3 B4 B5 : Option Addr) (d1 d2 d3 d4 d5 : Nat) (x1 x2 x3 x4 x5 : List Int) (ln : ByteArray) (w : World) (hr1 : Rd w w.heap.size B1 x1) (hr2 : Rd w w.heap.size B2 x2) (hr3 : Rd w w.heap.size B3 x3) (hr4 : Rd w w.heap.size B4 x4) (hr5 : Rd w w.heap.size B5 x5) (hn1 : x1.length ≤ 1048576) (hn2 : x2.length ≤ 1048576) (hn3 : x3.length ≤ 1048576) (hn4 : x4.length ≤ 1048576) (hn5 : x5.length ≤ 1048576) (hln : ln.size ≤ 4000000000) :
    Calls Tryz.prog 31 #[.agg #[.int .i64 l, .int .i64 s, .slice B1 x1.length d1, .slice B2 x2.length d2, .slice B3 x3.length d3, .slice B4 x4.length d4, .slice B5 x5.length d5], .string ln] w (RetBS w (exec ⟨l, s, x1, x2, x3, x4, x5⟩ ln.data.toList)) := by
  obtain ⟨W, hW⟩ : ∃ W, W = (w.alloc (.cells #[.int .i64 l, .int .i64 s, .slice B1 x1.length d1, .slice B2 x2.length d2, .slice B3 x3.length d3, .slice B4 x4.length d4, .slice B5 x5.length d5] 33)).alloc (.cells #[.int .i64 0, .int .i64 0, .slice none 0 0, .slice none 0 0, .slice none 0 0, .slice none 0 0, .slice none 0 0] 33) := ⟨_, rfl⟩
  have Hb : Hid (Below w.heap.size w W) := by rw [hW]; exact ((Below.refl _ _).alloc (Nat.le_refl _) _).alloc (by simp) _
  have BB : Blk W w.heap.size 33 #[.int .i64 l, .int .i64 s, .slice B1 x1.length d1, .slice B2 x2.length d2, .slice B3 x3.length d3, .slice B4 x4.length d4, .slice B5 x5.length d5] := by rw [hW]; exact (Blk.new w 33 #[.int .i64 l, .int .i64 s, .slice B1 x1.length d1, .slice B2 x2.length d2, .slice B3 x3.length d3, .slice B4 x4.length d4, .slice B5 x5.length d5]).alloc _
  have BR : Blk W (w.heap.size + 1) 33 #[.int .i64 0, .int .i64 0, .slice none 0 0, .slice none 0 0, .slice none 0 0, .slice none 0 0, .slice none 0 0] := by rw [hW]; have := Blk.new (w.alloc (.cells #[.int .i64 l, .int .i64 s, .slice B1 x1.length d1, .slice B2 x2.length d2, .slice B3 x3.length d3, .slice B4 x4.length d4, .slice B5 x5.length d5] 33)) 33 #[.int .i64 0, .int .i64 0, .slice none 0 0, .slice none 0 0, .slice none 0 0, .slice none 0 0, .slice none 0 0]; simpa using this
  have z0 : w.heap.size + 1 < W.heap.size := BR.lt
  have Hr1 := Lib.hid hr1
  have Hr2 := Lib.hid hr2
  have Hr3 := Lib.hid hr3
  have Hr4 := Lib.hid hr4
  have Hr5 := Lib.hid hr5
  have Hn1 := Lib.hid hn1
  have Hn2 := Lib.hid hn2
  have Hn3 := Lib.hid hn3
  have Hn4 := Lib.hid hn4
  have Hn5 := Lib.hid hn5
  have HL := Lib.hid hln
  clear hr1 hr2 hr3 hr4 hr5 hn1 hn2 hn3 hn4 hn5 hln
  go_enter Tryz.func31, Tryz.ntmps31
  go_upto_region 1 with fail
  rw [← hW]
  clear hW
  have q0 := BB.cell 0; have q1 := BB.cell 1; have q2 := BB.cell 2; have q3 := BB.cell 3; have q4 := BB.cell 4; have q5 := BB.cell 5; have q6 := BB.cell 6; simp at q0 q1 q2 q3 q4 q5 q6
  go_wp2_with fail
  refine (specCopyB_any l s B1 B2 B3 B4 B5 d1 d2 d3 d4 d5 x1 x2 x3 x4 x5 _ (Hr1.out.past Hb.out) (Hr2.out.past Hb.out) (Hr3.out.past Hb.out) (Hr4.out.past Hb.out) (Hr5.out.past Hb.out) Hn1.out Hn2.out Hn3.out Hn4.out Hn5.out).mono ?_
  rintro e w1 ⟨A1, c1, A2, c2, A3, c3, A4, c4, A5, c5, rfl, O1, O2, O3, O4, O5, P12, P13, P14, P15, P23, P24, P25, P34, P35, P45, h⟩
  replace BB := BB.past h
  replace BR := BR.past h
  replace Hb := Lib.hid (thenB Hb.out h)
  clear h q0 q1 q2 q3 q4 q5 q6
  have q0 := BB.cell 0; have g0 := BB.frozen 0; have q1 := BB.cell 1; have g1 := BB.frozen 1; have q2 := BB.cell 2; have g2 := BB.frozen 2; have q3 := BB.cell 3; have g3 := BB.frozen 3; have q4 := BB.cell 4; have g4 := BB.frozen 4; have q5 := BB.cell 5; have g5 := BB.frozen 5; have q6 := BB.cell 6; have g6 := BB.frozen 6; simp at q0 q1 q2 q3 q4 q5 q6
  go_upto_region 2 with fail
  have HX := Bx.start (l := l) (s := s) BB BR z0 O1 O2 O3 O4 O5 P12 P13 P14 P15 P23 P24 P25 P34 P35 P45 Hb.out
  obtain ⟨v1, hw⟩ : ∃ V, V = (((((((w1.setCell ⟨w.heap.size, 0, none⟩ (.int .i64 (l))).setCell ⟨w.heap.size, 1, none⟩ (.int .i64 (s))).setCell ⟨w.heap.size, 2, none⟩ (.slice A1 (x1).length c1)).setCell ⟨w.heap.size, 3, none⟩ (.slice A2 (x2).length c2)).setCell ⟨w.heap.size, 4, none⟩ (.slice A3 (x3).length c3)).setCell ⟨w.heap.size, 5, none⟩ (.slice A4 (x4).length c4)).setCell ⟨w.heap.size, 6, none⟩ (.slice A5 (x5).length c5)) := ⟨_, rfl⟩
  rw [← hw] at HX ⊢
  clear hw BB BR Hb O1 O2 O3 O4 O5 P12 P13 P14 P15 P23 P24 P25 P34 P35 P45
  clear q0 q1 q2 q3 q4 q5 q6 g0 g1 g2 g3 g4 g5 g6
  obtain ⟨q0, q1, q2, q3, q4, q5, q6⟩ := HX.get
  go_wp2_with fail
  refine (specIsBench_any l s A1 A2 A3 A4 A5 c1 c2 c3 c4 c5 x1 x2 x3 x4 x5 _ (own_rd HX.o1) (own_rd HX.o2) (own_rd HX.o3) (own_rd HX.o4) (own_rd HX.o5) Hn1.out Hn2.out Hn3.out Hn4.out Hn5.out).mono ?_; rintro e v2 ⟨rfl, h⟩
  replace HX := HX.past h
  clear h
  clear q0 q1 q2 q3 q4 q5 q6
  rcases Bool.eq_false_or_eq_true (benchOk l s x1 x2 x3 x4 x5) with hok | hok
  rotate_left
  · rw [hok]
    have HE := Lib.hid (exec_bad (X := ⟨l, s, x1, x2, x3, x4, x5⟩) (l := ln.data.toList) hok)
    clear hok
    obtain ⟨q0, q1, q2, q3, q4, q5, q6⟩ := HX.get
    obtain ⟨p0, p1, p2, p3, p4, p5, p6⟩ := HX.res
    obtain ⟨f0, f1, f2, f3, f4, f5, f6⟩ := HX.resF
    obtain ⟨d0, d1, d2, d3, d4, d5, d6, hd⟩ := HX.done (noT)
    have D0 := Lib.hid d0
    have D1 := Lib.hid d1
    have D2 := Lib.hid d2
    have D3 := Lib.hid d3
    have D4 := Lib.hid d4
    have D5 := Lib.hid d5
    have D6 := Lib.hid d6
    have HF := Lib.hid hd
    clear hd d0 d1 d2 d3 d4 d5 d6
    go_wp2
    refine bodyPost_ret (specExec_res rfl rfl D0.out D1.out D2.out D3.out D4.out D5.out D6.out) rfl ?_
    rw [HE.out]
    exact HF.out
  rw [hok]
  have HOK : Hid (Be.ok ⟨l, s, x1, x2, x3, x4, x5⟩ = true) := hok
  obtain ⟨hm, hs3, hs4, hs5⟩ : memOk l s x1 x2 = true ∧ seqOk x3 = true ∧ seqOk x4 = true ∧ seqOk x5 = true := ok_parts HOK.out
  have HM := Lib.hid hm
  have HMo := Lib.hid (mem_parts hm).1
  have HS3 := Lib.hid hs3
  have HS4 := Lib.hid hs4
  have HS5 := Lib.hid hs5
  have HB := Lib.hid hok
  clear hm hs3 hs4 hs5 hok
  have HAs := Lib.hid (specAsk_any l s A1 c1 x1 A2 c2 x2 A3 c3 x3 A4 c4 x4 A5 c5 x5 v2 (own_rd HX.o1) (own_rd HX.o2) (own_rd HX.o3) (own_rd HX.o4) (own_rd HX.o5) (own_cap HX.o1) (own_cap HX.o2) (own_cap HX.o3) (own_cap HX.o4) (own_cap HX.o5) HB.out ln)
  have HEa := Lib.hid (fun t h => exec_ask (X := ⟨l, s, x1, x2, x3, x4, x5⟩) (l := ln.data.toList) (t := t) HOK.out h)
  rcases ha : askT ⟨l, s, x1, x2, x3, x4, x5⟩ ln.data.toList with _ | t
  rotate_left
  · have hE := HEa.out t ha
    have hne := ask_ne ha
    rw [ha] at HAs
    have HE := Lib.hid hE
    clear ha hE HEa
    have t0 : (bs t).toList.isEmpty = false := by rw [ByteArray.toList_eq]; cases t with | nil => exact absurd rfl hne | cons a r => rfl
    have t1 : (bs t).toList ≠ [] := by rw [ByteArray.toList_eq]; exact hne
    clear hne
    obtain ⟨q0, q1, q2, q3, q4, q5, q6⟩ := HX.get
    go_wp2_with fail
    refine HAs.out.mono ?_; rintro e v3 ⟨rfl, h⟩
    dsimp only [Option.getD]
    replace HX := HX.past h
    clear h HAs
    clear q0 q1 q2 q3 q4 q5 q6
    obtain ⟨q0, q1, q2, q3, q4, q5, q6⟩ := HX.get
    obtain ⟨p0, p1, p2, p3, p4, p5, p6⟩ := HX.res
    obtain ⟨f0, f1, f2, f3, f4, f5, f6⟩ := HX.resF
    obtain ⟨d0, d1, d2, d3, d4, d5, d6, hd⟩ := HX.done (t)
    have D0 := Lib.hid d0
    have D1 := Lib.hid d1
    have D2 := Lib.hid d2
    have D3 := Lib.hid d3
    have D4 := Lib.hid d4
    have D5 := Lib.hid d5
    have D6 := Lib.hid d6
    have HF := Lib.hid hd
    clear hd d0 d1 d2 d3 d4 d5 d6
    go_wp2
    refine bodyPost_ret (specExec_res rfl rfl D0.out D1.out D2.out D3.out D4.out D5.out D6.out) rfl ?_
    rw [HE.out]
    exact HF.out
  have HNa := Lib.hid ha
  rw [ha] at HAs
  clear ha HEa
  obtain ⟨q0, q1, q2, q3, q4, q5, q6⟩ := HX.get
  go_wp2_with fail
  refine HAs.out.mono ?_; rintro e v3 ⟨rfl, h⟩
  dsimp only [Option.getD]
  have eb0 : bs ([] : List UInt8) = ⟨#[]⟩ := rfl
  rw [eb0]
  clear eb0
  replace HX := HX.past h
  clear h HAs
  clear q0 q1 q2 q3 q4 q5 q6
  have hl := sizeL ln
  have hsp := spl_len 32 ln.data.toList
  have HC : Hid (∀ V, Calls Tryz.prog 69 #[.string ln, .int .u8 32] V (RetSS V ((spl 32 ln.data.toList).map bs))) := fun V => l7Split_any ln 32 V (by have := HL.out; omega)
  obtain ⟨pr, hpr⟩ := spl_head ln.data.toList
  have HPM : Hid (∀ p ∈ spl 32 ln.data.toList, p.length ≤ 4000000000) := fun p hp => by have h1 := (spl_mem hp).2; have h2 := HL.out; omega
  have HPr := Lib.hid hpr
  obtain ⟨ps, hps⟩ : ∃ ps, ps = spl 32 ln.data.toList := ⟨_, rfl⟩
  have HPs := Lib.hid hps
  rw [← hps] at HC hsp HPr HPM
  obtain ⟨wd, hwd⟩ : ∃ t, t = cutW ln.data.toList := ⟨_, rfl⟩
  have HWd := Lib.hid hwd
  rw [← hwd] at HPr
  have hn1 : ps.length ≤ 5000000000 := by have := HL.out; omega
  have hn2 : 1 ≤ ps.length := hsp.2
  have HN : Hid ((ps.map bs).length = ps.length) := by show _ = _; rw [List.length_map]
  clear hl hsp hpr hps hwd
  have HXl := Lib.hid HX.lt
  go_wp2_with fail
  refine (HC.out _).mono ?_; rintro e v4 ⟨Ap, cp, rfl, Op, h⟩
  have hn3 := HN.out
  rw [hn3]
  obtain ⟨gp, rfl, hgl, _⟩ := ownS_head Op (by rw [HN.out]; omega)
  have HOp := Lib.hid Op
  replace HX := HX.past h
  clear h Op hn3 HC
  have hc0 := ownS_cell HOp.out (k := 0) (by omega)
  have hp0 : ps[0] = wd := by have h := HPr.out; subst h; rfl
  rw [hp0] at hc0
  clear hp0
  have ebs : ∀ l : List UInt8, (bs l).data.toList = l := fun l => by simp [bs]
  have HBs := Lib.hid ebs
  clear ebs
  by_cases hmod : wd = modT
  · skip
    have t1 : ((bs wd).toList == [109, 111, 100]) = true := by rw [ByteArray.toList_eq, HBs.out, hmod]; rfl
    have HP := Lib.hid (fun V => specParM_any ln V HL.out)
    have HE0 := Lib.hid (fun h => exec_mod (X := ⟨l, s, x1, x2, x3, x4, x5⟩) (l := ln.data.toList) HOK.out h)
    have HE1 := Lib.hid (fun h => exec_modNo (X := ⟨l, s, x1, x2, x3, x4, x5⟩) (l := ln.data.toList) HOK.out HNa.out (HWd.out.symm.trans hmod) h)
    have HQ := Lib.hid (fun h => (parm_ok (l := ln.data.toList) h).1)
    clear hmod
    obtain ⟨M, hM⟩ : ∃ M, M = parm ln.data.toList := ⟨_, rfl⟩
    rw [← hM] at HP HE0 HE1 HQ
    clear hM
    obtain ⟨ml, ms, mc, mo⟩ := M
    go_wp2_with fail
    refine (HP.out _).mono ?_; rintro e v5 ⟨Am, cm, rfl, Om, h⟩
    dsimp only at Om ⊢
    obtain ⟨om, nm, am1, am2, am3, am4, am5⟩ := HX.fresh h Om
    replace HX := HX.past h
    clear h Om HP hc0 hgl HOp HPr HPM HN
    have bx : Below v5.heap.size v5 (v5.alloc (.cells #[.int .i64 ml, .int .i64 ms, .slice Am mc.length cm] 27)) := (Below.refl _ _).alloc (Nat.le_refl _) _
    have BM := Blk.new v5 27 #[.int .i64 ml, .int .i64 ms, .slice Am mc.length cm]
    have zm : w.heap.size < v5.heap.size := by have := HX.lt; omega
    replace HX := HX.past bx
    replace om := own_past om bx
    clear bx
    go_upto_region 10 with fail
    obtain ⟨v6, hw⟩ : ∃ V, V = (v5.alloc (.cells #[.int .i64 ml, .int .i64 ms, .slice Am mc.length cm] 27)) := ⟨_, rfl⟩
    rw [← hw] at HX BM om ⊢
    clear hw
    obtain ⟨g, hg⟩ : ∃ g, g = v5.heap.size := ⟨_, rfl⟩
    rw [← hg] at BM zm ⊢
    clear hg
    cases mo
    · have HE : Hid (exec ⟨l, s, x1, x2, x3, x4, x5⟩ ln.data.toList = (⟨l, s, x1, x2, x3, x4, x5⟩, noT)) := HE1.out rfl
      clear HE0 HE1 HQ om nm am1 am2 am3 am4 am5 zm BM
      obtain ⟨q0, q1, q2, q3, q4, q5, q6⟩ := HX.get
      obtain ⟨p0, p1, p2, p3, p4, p5, p6⟩ := HX.res
      obtain ⟨f0, f1, f2, f3, f4, f5, f6⟩ := HX.resF
      obtain ⟨d0, d1, d2, d3, d4, d5, d6, hd⟩ := HX.done (noT)
      have D0 := Lib.hid d0
      have D1 := Lib.hid d1
      have D2 := Lib.hid d2
      have D3 := Lib.hid d3
      have D4 := Lib.hid d4
      have D5 := Lib.hid d5
      have D6 := Lib.hid d6
      have HF := Lib.hid hd
      clear hd d0 d1 d2 d3 d4 d5 d6
      go_wp2
      refine bodyPost_ret (specExec_res rfl rfl D0.out D1.out D2.out D3.out D4.out D5.out D6.out) rfl ?_
      rw [HE.out]
      exact HF.out
    · have HE := Lib.hid (HE0.out rfl)
      have HMm : Hid (modOk ml ms mc = true) := HQ.out rfl
      clear HE0 HE1 HQ
      have b0 := BM.cell 0; have b1 := BM.cell 1; have b2 := BM.cell 2; simp at b0 b1 b2
      obtain ⟨q0, q1, q2, q3, q4, q5, q6⟩ := HX.get
      obtain ⟨g0, g1, g2, g3, g4, g5, g6⟩ := HX.getF
      go_upto_region 12 with fail
      replace HX := HX.setM (l' := ml) (s' := ms) om nm am2 am3 am4 am5
      replace BM := BM.far (p := ⟨w.heap.size, 0, none⟩) (Nat.ne_of_gt zm) (.int .i64 ml)
      replace BM := BM.far (p := ⟨w.heap.size, 1, none⟩) (Nat.ne_of_gt zm) (.int .i64 ms)
      replace BM := BM.far (p := ⟨w.heap.size, 2, none⟩) (Nat.ne_of_gt zm) (.slice Am mc.length cm)
      clear b0 b1 b2 om nm am1 am2 am3 am4 am5
      clear q0 q1 q2 q3 q4 q5 q6 g0 g1 g2 g3 g4 g5 g6
      obtain ⟨v7, hw⟩ : ∃ V, V = (((v6.setCell ⟨w.heap.size, 0, none⟩ (.int .i64 ml)).setCell ⟨w.heap.size, 1, none⟩ (.int .i64 ms)).setCell ⟨w.heap.size, 2, none⟩ (.slice Am mc.length cm)) := ⟨_, rfl⟩
      rw [← hw] at HX BM ⊢
      clear hw
      have b0 := BM.cell 0; have b1 := BM.cell 1; have b2 := BM.cell 2; simp at b0 b1 b2
      obtain ⟨q0, q1, q2, q3, q4, q5, q6⟩ := HX.get
      go_wp2_with fail
      refine (specPlain_yes (ml) (ms) Am cm (mc) _ (own_rd HX.o1) HMm.out).mono ?_; rintro e v8 ⟨Ac, cc, rfl, Oc, h⟩
      obtain ⟨op, np, ap1, ap2, ap3, ap4, ap5⟩ := HX.fresh h Oc
      replace HX := HX.past h
      clear h Oc BM b0 b1 b2
      clear q0 q1 q2 q3 q4 q5 q6
      obtain ⟨q0, q1, q2, q3, q4, q5, q6⟩ := HX.get
      obtain ⟨g0, g1, g2, g3, g4, g5, g6⟩ := HX.getF
      rw [List.length_replicate]
      have hrl : (List.replicate mc.length (0 : Int)).length = mc.length := List.length_replicate
      obtain ⟨zr, hzr⟩ : ∃ zr : List Int, zr = List.replicate mc.length 0 := ⟨_, rfl⟩
      rw [← hzr] at op hrl
      have HZ := Lib.hid hzr
      clear hzr
      go_upto_region 13 with fail
      replace HX := HX.set2 op np ap1 ap3 ap4 ap5
      rw [hrl] at HX
      obtain ⟨v9, hw⟩ : ∃ V, V = (v8.setCell ⟨w.heap.size, 3, none⟩ (.slice Ac mc.length cc)) := ⟨_, rfl⟩
      rw [← hw] at HX ⊢
      clear hw op np ap1 ap2 ap3 ap4 ap5
      clear q0 q1 q2 q3 q4 q5 q6 g0 g1 g2 g3 g4 g5 g6
      have HE2 : Hid (exec ⟨l, s, x1, x2, x3, x4, x5⟩ ln.data.toList = (⟨ml, ms, mc, zr, x3, x4, x5⟩, okT)) := by show _ = _; rw [HE.out, HZ.out]; rfl
      have HRl := Lib.hid hrl
      clear hrl
      obtain ⟨q0, q1, q2, q3, q4, q5, q6⟩ := HX.get
      obtain ⟨p0, p1, p2, p3, p4, p5, p6⟩ := HX.res
      obtain ⟨f0, f1, f2, f3, f4, f5, f6⟩ := HX.resF
      obtain ⟨d0, d1, d2, d3, d4, d5, d6, hd⟩ := HX.done (okT)
      have D0 := Lib.hid d0
      have D1 := Lib.hid d1
      have D2 := Lib.hid d2
      have D3 := Lib.hid d3
      have D4 := Lib.hid d4
      have D5 := Lib.hid d5
      have D6 := Lib.hid d6
      have HF := Lib.hid hd
      clear hd d0 d1 d2 d3 d4 d5 d6
      go_wp2
      refine bodyPost_ret (specExec_res rfl rfl D0.out D1.out D2.out D3.out D4.out D5.out D6.out) rfl ?_
      rw [HE2.out]
      exact HF.out
  have t1 : ((bs wd).toList == [109, 111, 100]) = false := str_ne _ _ (by rw [HBs.out]; exact hmod)
  have HMd : Hid (cutW ln.data.toList ≠ modT) := fun h => hmod (HWd.out.trans h)
  clear hmod
  by_cases hfd : ps.length = 2 ∧ (wd = tIn ∨ wd = tMore)
  · skip
    obtain ⟨h2, hio⟩ := hfd
    have hc1 := ownS_cell HOp.out (k := 1) (by omega)
    obtain ⟨tx, htx⟩ : ∃ t, ps[1]'(by omega) = t := ⟨_, rfl⟩
    rw [htx] at hc1
    have HTl : Hid (tx.length ≤ 4000000000) := by show _ ≤ _; rw [← htx]; exact HPM.out _ (List.getElem_mem _)
    have hpp : ps = [wd, tx] := by have h := HPr.out; subst h; match pr, h2, htx with | [y], _, htx => (have : y = tx := htx); rw [this]
    have HPP : Hid (spl 32 ln.data.toList = [wd, tx]) := by show _ = _; rw [← HPs.out]; exact hpp
    have tL : (((ps.length : Nat) : Int) == 2) = true := by rw [h2]; rfl
    have lz : 0 < ps.length := by omega
    have lo : 1 < ps.length := by omega
    have li : (1 : Int) < (ps.length : Int) := by omega
    clear hpp htx HPr HPM h2
    have HSz : Hid ((bs tx).size ≤ 4000000000) := by show _ ≤ _; rw [bs_size]; exact HTl.out
    have bx := (Below.refl v4.heap.size v4).drew
    have HX2 := HX.past bx
    have k0 : v4.drew.cell? ⟨gp, 0, none⟩ = some (.string (bs wd)) := hc0
    have k1 : v4.drew.cell? ⟨gp, 1, none⟩ = some (.string (bs tx)) := hc1
    clear bx
    have HGL := Lib.hid hgl
    rcases hio with hio | hio
    · have t2 : ((bs wd).toList == [105, 110]) = true := by rw [ByteArray.toList_eq, HBs.out, hio]; rfl
      have t3 : ((bs wd).toList == [109, 111, 114, 101]) = false := str_ne _ _ (by rw [HBs.out, hio]; decide)
      have hEE := exec_in (X := ⟨l, s, x1, x2, x3, x4, x5⟩) (t := tx) HOK.out (by rw [HPP.out, hio])
      have ewd : bs wd = ⟨#[105, 110]⟩ := by rw [hio]; rfl
      have ebt : (bs tx).data.toList = tx := HBs.out tx
      obtain ⟨b, hb⟩ : ∃ b, ((pars tx).2) = b := ⟨_, rfl⟩
      have HF0 := Lib.hid (l7Feed_in l s A1 c1 x1 A2 c2 x2 A3 c3 x3 A4 c4 x4 A5 c5 x5 (bs tx) v4.drew HSz.out b (by rw [ebt]; exact hb))
      rw [ebt, ← ewd] at HF0
      have hE2 : exec ⟨l, s, x1, x2, x3, x4, x5⟩ ln.data.toList = if b then (fedIn ⟨l, s, x1, x2, x3, x4, x5⟩ (pars tx).1, okT) else (⟨l, s, x1, x2, x3, x4, x5⟩, noT) := by rw [hEE, ← hb]
      have HE := Lib.hid hE2
      clear hE2 hb hEE ewd ebt hio
      obtain ⟨ys, hys⟩ : ∃ t, t = (pars tx).1 := ⟨_, rfl⟩
      have HE2 : Hid (exec ⟨l, s, x1, x2, x3, x4, x5⟩ ln.data.toList = if b then (⟨l, s, x1, x2, ys, [], []⟩, okT) else (⟨l, s, x1, x2, x3, x4, x5⟩, noT)) := by show _ = _; rw [HE.out, hys]; rfl
      rw [← hys] at HF0
      clear hys HE
      obtain ⟨q0, q1, q2, q3, q4, q5, q6⟩ := HX.get
      have HXs := HX2
      obtain ⟨r0, r1, r2, r3, r4, r5, r6⟩ := HX2.get
      cases b
      · go_wp2_with fail
        have ngp1 : ¬ (gp = w.heap.size + 1) := by have h1 := (ownS_lt HOp.out _ rfl).1; have h2 := HXl.out; simp at h1; omega
        have ngp2 : ¬ (w.heap.size + 1 = gp) := fun h => ngp1 h.symm
        go_region_held3 (fun w' => w'.cell? ⟨w.heap.size, 0, none⟩ = some (.int .i64 (l)) ∧ w'.cell? ⟨w.heap.size, 1, none⟩ = some (.int .i64 (s)) ∧ w'.cell? ⟨w.heap.size, 2, none⟩ = some (.slice A1 (x1).length c1) ∧ w'.cell? ⟨w.heap.size, 3, none⟩ = some (.slice A2 (x2).length c2) ∧ w'.cell? ⟨w.heap.size, 4, none⟩ = some (.slice A3 (x3).length c3) ∧ w'.cell? ⟨w.heap.size, 5, none⟩ = some (.slice A4 (x4).length c4) ∧ w'.cell? ⟨w.heap.size, 6, none⟩ = some (.slice A5 (x5).length c5) ∧ w'.cell? ⟨gp, 0, none⟩ = some (.string (bs wd)) ∧ w'.cell? ⟨gp, 1, none⟩ = some (.string (bs tx))) (first | go_keep)
          (first | (go_at_call 76; refine HF0.out.mono ?_; rintro e v5 ⟨rfl, h⟩; have k2 := (h.cell (p := ⟨gp, 0, none⟩) HGL.out).trans k0; have k3 := (h.cell (p := ⟨gp, 1, none⟩) HGL.out).trans k1; have HX3 := HXs.past h; clear h q0 q1 q2 q3 q4 q5 q6 r0 r1 r2 r3 r4 r5 r6; obtain ⟨q0, q1, q2, q3, q4, q5, q6⟩ := HX3.get; obtain ⟨p0, p1, p2, p3, p4, p5, p6⟩ := HX3.res; obtain ⟨f0, f1, f2, f3, f4, f5, f6⟩ := HX3.resF))
        have HE3 : Hid (exec ⟨l, s, x1, x2, x3, x4, x5⟩ ln.data.toList = (⟨l, s, x1, x2, x3, x4, x5⟩, noT)) := HE2.out
        obtain ⟨d0, d1, d2, d3, d4, d5, d6, hd⟩ := HX3.done noT
        have D0 := Lib.hid d0
        have D1 := Lib.hid d1
        have D2 := Lib.hid d2
        have D3 := Lib.hid d3
        have D4 := Lib.hid d4
        have D5 := Lib.hid d5
        have D6 := Lib.hid d6
        have HF := Lib.hid hd
        clear hd d0 d1 d2 d3 d4 d5 d6
        clear q0 q1 q2 q3 q4 q5 q6 p0 p1 p2 p3 p4 p5 p6 f0 f1 f2 f3 f4 f5 f6
        go_wp2
        refine bodyPost_ret (specExec_res rfl rfl D0.out D1.out D2.out D3.out D4.out D5.out D6.out) rfl ?_
        rw [HE3.out]
        exact HF.out
      · go_wp2_with fail
        have ngp1 : ¬ (gp = w.heap.size + 1) := by have h1 := (ownS_lt HOp.out _ rfl).1; have h2 := HXl.out; simp at h1; omega
        have ngp2 : ¬ (w.heap.size + 1 = gp) := fun h => ngp1 h.symm
        go_region_held3 (fun w' => w'.cell? ⟨w.heap.size, 0, none⟩ = some (.int .i64 (l)) ∧ w'.cell? ⟨w.heap.size, 1, none⟩ = some (.int .i64 (s)) ∧ w'.cell? ⟨w.heap.size, 2, none⟩ = some (.slice A1 (x1).length c1) ∧ w'.cell? ⟨w.heap.size, 3, none⟩ = some (.slice A2 (x2).length c2) ∧ w'.cell? ⟨w.heap.size, 4, none⟩ = some (.slice A3 (x3).length c3) ∧ w'.cell? ⟨w.heap.size, 5, none⟩ = some (.slice A4 (x4).length c4) ∧ w'.cell? ⟨w.heap.size, 6, none⟩ = some (.slice A5 (x5).length c5) ∧ w'.cell? ⟨gp, 0, none⟩ = some (.string (bs wd)) ∧ w'.cell? ⟨gp, 1, none⟩ = some (.string (bs tx))) (first | go_keep)
          (first | (go_at_call 76; refine HF0.out.mono ?_; rintro e v5 ⟨⟨An, cn, rfl, On⟩, h⟩; have k2 := (h.cell (p := ⟨gp, 0, none⟩) HGL.out).trans k0; have k3 := (h.cell (p := ⟨gp, 1, none⟩) HGL.out).trans k1; obtain ⟨on, nn, an1, an2, an3, an4, an5⟩ := HXs.fresh h On; have HX3 := HXs.past h; clear h q0 q1 q2 q3 q4 q5 q6 r0 r1 r2 r3 r4 r5 r6; obtain ⟨q0, q1, q2, q3, q4, q5, q6⟩ := HX3.get; obtain ⟨p0, p1, p2, p3, p4, p5, p6⟩ := HX3.res; obtain ⟨f0, f1, f2, f3, f4, f5, f6⟩ := HX3.resF))
        have HE3 : Hid (exec ⟨l, s, x1, x2, x3, x4, x5⟩ ln.data.toList = (⟨l, s, x1, x2, ys, [], []⟩, okT)) := HE2.out
        obtain ⟨d0, d1, d2, d3, d4, d5, d6, hd⟩ := done7 (l := l) (s := s) (x4 := []) (x5 := []) HX3.b1 HX3.o1 HX3.o2 on (own_nil _ _) (own_nil _ _) HX3.n1 HX3.n2 nn (fun a e => by cases e) (fun a e => by cases e) HX3.p12 an1 (apart_none _) (apart_none _) an2 (apart_none _) (apart_none _) (apart_none _) (apart_none _) (apart_none _) HX3.hb okT
        have D0 := Lib.hid d0
        have D1 := Lib.hid d1
        have D2 := Lib.hid d2
        have D3 := Lib.hid d3
        have D4 := Lib.hid d4
        have D5 := Lib.hid d5
        have D6 := Lib.hid d6
        have HF := Lib.hid hd
        clear hd d0 d1 d2 d3 d4 d5 d6
        clear q0 q1 q2 q3 q4 q5 q6 p0 p1 p2 p3 p4 p5 p6 f0 f1 f2 f3 f4 f5 f6
        go_wp2
        refine bodyPost_ret (specExec_res rfl rfl D0.out D1.out D2.out D3.out D4.out D5.out D6.out) rfl ?_
        rw [HE3.out]
        exact HF.out
    · have t2 : ((bs wd).toList == [105, 110]) = false := str_ne _ _ (by rw [HBs.out, hio]; decide)
      have t3 : ((bs wd).toList == [109, 111, 114, 101]) = true := by rw [ByteArray.toList_eq, HBs.out, hio]; rfl
      have hEE := exec_more (X := ⟨l, s, x1, x2, x3, x4, x5⟩) (t := tx) HOK.out (by rw [HPP.out, hio])
      have ewd : bs wd = ⟨#[109, 111, 114, 101]⟩ := by rw [hio]; rfl
      have ebt : (bs tx).data.toList = tx := HBs.out tx
      obtain ⟨b, hb⟩ : ∃ b, ((pars tx).2 && seqOk (x3 ++ (pars tx).1)) = b := ⟨_, rfl⟩
      have HF0 := Lib.hid (l7Feed_more l s A1 c1 x1 A2 c2 x2 A3 c3 x3 A4 c4 x4 A5 c5 x5 (bs tx) v4.drew (own_rd HX2.o3) (seqOk_len HS3.out) HSz.out b (by rw [ebt]; exact hb))
      rw [ebt, ← ewd] at HF0
      have hE2 : exec ⟨l, s, x1, x2, x3, x4, x5⟩ ln.data.toList = if b then (fedMore ⟨l, s, x1, x2, x3, x4, x5⟩ (pars tx).1, okT) else (⟨l, s, x1, x2, x3, x4, x5⟩, noT) := by rw [hEE, ← hb]
      have HE := Lib.hid hE2
      clear hE2 hb hEE ewd ebt hio
      obtain ⟨ys, hys⟩ : ∃ t, t = x3 ++ (pars tx).1 := ⟨_, rfl⟩
      have HE2 : Hid (exec ⟨l, s, x1, x2, x3, x4, x5⟩ ln.data.toList = if b then (⟨l, s, x1, x2, ys, x4, x5⟩, okT) else (⟨l, s, x1, x2, x3, x4, x5⟩, noT)) := by show _ = _; rw [HE.out, hys]; rfl
      rw [← hys] at HF0
      clear hys HE
      obtain ⟨q0, q1, q2, q3, q4, q5, q6⟩ := HX.get
      have HXs := HX2
      obtain ⟨r0, r1, r2, r3, r4, r5, r6⟩ := HX2.get
      cases b
      · go_wp2_with fail
        have ngp1 : ¬ (gp = w.heap.size + 1) := by have h1 := (ownS_lt HOp.out _ rfl).1; have h2 := HXl.out; simp at h1; omega
        have ngp2 : ¬ (w.heap.size + 1 = gp) := fun h => ngp1 h.symm
        go_region_held3 (fun w' => w'.cell? ⟨w.heap.size, 0, none⟩ = some (.int .i64 (l)) ∧ w'.cell? ⟨w.heap.size, 1, none⟩ = some (.int .i64 (s)) ∧ w'.cell? ⟨w.heap.size, 2, none⟩ = some (.slice A1 (x1).length c1) ∧ w'.cell? ⟨w.heap.size, 3, none⟩ = some (.slice A2 (x2).length c2) ∧ w'.cell? ⟨w.heap.size, 4, none⟩ = some (.slice A3 (x3).length c3) ∧ w'.cell? ⟨w.heap.size, 5, none⟩ = some (.slice A4 (x4).length c4) ∧ w'.cell? ⟨w.heap.size, 6, none⟩ = some (.slice A5 (x5).length c5) ∧ w'.cell? ⟨gp, 0, none⟩ = some (.string (bs wd)) ∧ w'.cell? ⟨gp, 1, none⟩ = some (.string (bs tx))) (first | go_keep)
          (first | (go_at_call 76; refine HF0.out.mono ?_; rintro e v5 ⟨rfl, h⟩; have k2 := (h.cell (p := ⟨gp, 0, none⟩) HGL.out).trans k0; have k3 := (h.cell (p := ⟨gp, 1, none⟩) HGL.out).trans k1; have HX3 := HXs.past h; clear h q0 q1 q2 q3 q4 q5 q6 r0 r1 r2 r3 r4 r5 r6; obtain ⟨q0, q1, q2, q3, q4, q5, q6⟩ := HX3.get; obtain ⟨p0, p1, p2, p3, p4, p5, p6⟩ := HX3.res; obtain ⟨f0, f1, f2, f3, f4, f5, f6⟩ := HX3.resF))
        have HE3 : Hid (exec ⟨l, s, x1, x2, x3, x4, x5⟩ ln.data.toList = (⟨l, s, x1, x2, x3, x4, x5⟩, noT)) := HE2.out
        obtain ⟨d0, d1, d2, d3, d4, d5, d6, hd⟩ := HX3.done noT
        have D0 := Lib.hid d0
        have D1 := Lib.hid d1
        have D2 := Lib.hid d2
        have D3 := Lib.hid d3
        have D4 := Lib.hid d4
        have D5 := Lib.hid d5
        have D6 := Lib.hid d6
        have HF := Lib.hid hd
        clear hd d0 d1 d2 d3 d4 d5 d6
        clear q0 q1 q2 q3 q4 q5 q6 p0 p1 p2 p3 p4 p5 p6 f0 f1 f2 f3 f4 f5 f6
        go_wp2
        refine bodyPost_ret (specExec_res rfl rfl D0.out D1.out D2.out D3.out D4.out D5.out D6.out) rfl ?_
        rw [HE3.out]
        exact HF.out
      · go_wp2_with fail
        have ngp1 : ¬ (gp = w.heap.size + 1) := by have h1 := (ownS_lt HOp.out _ rfl).1; have h2 := HXl.out; simp at h1; omega
        have ngp2 : ¬ (w.heap.size + 1 = gp) := fun h => ngp1 h.symm
        go_region_held3 (fun w' => w'.cell? ⟨w.heap.size, 0, none⟩ = some (.int .i64 (l)) ∧ w'.cell? ⟨w.heap.size, 1, none⟩ = some (.int .i64 (s)) ∧ w'.cell? ⟨w.heap.size, 2, none⟩ = some (.slice A1 (x1).length c1) ∧ w'.cell? ⟨w.heap.size, 3, none⟩ = some (.slice A2 (x2).length c2) ∧ w'.cell? ⟨w.heap.size, 4, none⟩ = some (.slice A3 (x3).length c3) ∧ w'.cell? ⟨w.heap.size, 5, none⟩ = some (.slice A4 (x4).length c4) ∧ w'.cell? ⟨w.heap.size, 6, none⟩ = some (.slice A5 (x5).length c5) ∧ w'.cell? ⟨gp, 0, none⟩ = some (.string (bs wd)) ∧ w'.cell? ⟨gp, 1, none⟩ = some (.string (bs tx))) (first | go_keep)
          (first | (go_at_call 76; refine HF0.out.mono ?_; rintro e v5 ⟨⟨An, cn, rfl, On⟩, h⟩; have k2 := (h.cell (p := ⟨gp, 0, none⟩) HGL.out).trans k0; have k3 := (h.cell (p := ⟨gp, 1, none⟩) HGL.out).trans k1; obtain ⟨on, nn, an1, an2, an3, an4, an5⟩ := HXs.fresh h On; have HX3 := HXs.past h; clear h q0 q1 q2 q3 q4 q5 q6 r0 r1 r2 r3 r4 r5 r6; obtain ⟨q0, q1, q2, q3, q4, q5, q6⟩ := HX3.get; obtain ⟨p0, p1, p2, p3, p4, p5, p6⟩ := HX3.res; obtain ⟨f0, f1, f2, f3, f4, f5, f6⟩ := HX3.resF))
        have HE3 : Hid (exec ⟨l, s, x1, x2, x3, x4, x5⟩ ln.data.toList = (⟨l, s, x1, x2, ys, x4, x5⟩, okT)) := HE2.out
        obtain ⟨d0, d1, d2, d3, d4, d5, d6, hd⟩ := done7 (l := l) (s := s) HX3.b1 HX3.o1 HX3.o2 on HX3.o4 HX3.o5 HX3.n1 HX3.n2 nn HX3.n4 HX3.n5 HX3.p12 an1 HX3.p14 HX3.p15 an2 HX3.p24 HX3.p25 (apart_symm an4) (apart_symm an5) HX3.p45 HX3.hb okT
        have D0 := Lib.hid d0
        have D1 := Lib.hid d1
        have D2 := Lib.hid d2
        have D3 := Lib.hid d3
        have D4 := Lib.hid d4
        have D5 := Lib.hid d5
        have D6 := Lib.hid d6
        have HF := Lib.hid hd
        clear hd d0 d1 d2 d3 d4 d5 d6
        clear q0 q1 q2 q3 q4 q5 q6 p0 p1 p2 p3 p4 p5 p6 f0 f1 f2 f3 f4 f5 f6
        go_wp2
        refine bodyPost_ret (specExec_res rfl rfl D0.out D1.out D2.out D3.out D4.out D5.out D6.out) rfl ?_
        rw [HE3.out]
        exact HF.out
  have HRs := Lib.hid (exec_rest (X := ⟨l, s, x1, x2, x3, x4, x5⟩) (l := ln.data.toList) HOK.out HMd.out (by rw [← HPs.out, ← HWd.out]; by_cases q : ps.length = 2; exact .inr ⟨fun h => hfd ⟨q, .inl h⟩, fun h => hfd ⟨q, .inr h⟩⟩; exact .inl q) HNa.out)
  by_cases h2 : ps.length = 2
  rotate_left
  · have tL : (((ps.length : Nat) : Int) == 2) = false := by rw [beq_eq_false_iff_ne]; omega
    have lz : 0 < ps.length := by omega
    clear hfd h2 HPr HPM
    by_cases hcl : ln.data.toList = tClear
    · skip
      have t4 : (ln.toList == [99, 108, 101, 97, 114]) = true := by rw [ByteArray.toList_eq, hcl]; rfl
      have HE4 := HRs.out
      rw [if_pos hcl] at HE4
      have HE5 : Hid (exec ⟨l, s, x1, x2, x3, x4, x5⟩ ln.data.toList = (⟨l, s, x1, zers x1.length, x3, x4, x5⟩, okT)) := HE4
      clear HE4 HRs hcl
      have HMm := HMo
      obtain ⟨q0, q1, q2, q3, q4, q5, q6⟩ := HX.get
      go_wp2_with fail
      refine (specPlain_yes (l) (s) A1 c1 (x1) _ (own_rd HX.o1) HMm.out).mono ?_; rintro e v5 ⟨Ac, cc, rfl, Oc, h⟩
      obtain ⟨op, np, ap1, ap2, ap3, ap4, ap5⟩ := HX.fresh h Oc
      replace HX := HX.past h
      clear h Oc hc0
      clear q0 q1 q2 q3 q4 q5 q6
      have hrl : (List.replicate x1.length (0 : Int)).length = x1.length := List.length_replicate
      obtain ⟨zr, hzr⟩ : ∃ zr : List Int, zr = List.replicate x1.length 0 := ⟨_, rfl⟩
      rw [hrl]
      rw [← hzr] at op hrl
      have HE6 : Hid (exec ⟨l, s, x1, x2, x3, x4, x5⟩ ln.data.toList = (⟨l, s, x1, zr, x3, x4, x5⟩, okT)) := by show _ = _; rw [HE5.out, hzr]; rfl
      clear hzr HE5
      obtain ⟨q0, q1, q2, q3, q4, q5, q6⟩ := HX.get
      obtain ⟨g0, g1, g2, g3, g4, g5, g6⟩ := HX.getF
      have HRl := Lib.hid hrl
      clear hrl
      go_upto_region 18 with fail
      replace HX := HX.set2 op np ap1 ap3 ap4 ap5
      rw [HRl.out] at HX
      obtain ⟨v6, hw⟩ : ∃ V, V = (v5.setCell ⟨w.heap.size, 3, none⟩ (.slice Ac x1.length cc)) := ⟨_, rfl⟩
      rw [← hw] at HX ⊢
      clear hw op np ap1 ap2 ap3 ap4 ap5
      clear q0 q1 q2 q3 q4 q5 q6 g0 g1 g2 g3 g4 g5 g6
      obtain ⟨q0, q1, q2, q3, q4, q5, q6⟩ := HX.get
      obtain ⟨p0, p1, p2, p3, p4, p5, p6⟩ := HX.res
      obtain ⟨f0, f1, f2, f3, f4, f5, f6⟩ := HX.resF
      obtain ⟨d0, d1, d2, d3, d4, d5, d6, hd⟩ := HX.done (okT)
      have D0 := Lib.hid d0
      have D1 := Lib.hid d1
      have D2 := Lib.hid d2
      have D3 := Lib.hid d3
      have D4 := Lib.hid d4
      have D5 := Lib.hid d5
      have D6 := Lib.hid d6
      have HF := Lib.hid hd
      clear hd d0 d1 d2 d3 d4 d5 d6
      go_wp2
      refine bodyPost_ret (specExec_res rfl rfl D0.out D1.out D2.out D3.out D4.out D5.out D6.out) rfl ?_
      rw [HE6.out]
      exact HF.out
    have t4 : (ln.toList == [99, 108, 101, 97, 114]) = false := str_ne _ _ hcl
    by_cases hru : ln.data.toList = tRun
    · skip
      have HE3 := HRs
      have hE3 := HE3.out
      rw [if_neg hcl, if_pos hru] at hE3
      have HE9 : Hid (exec ⟨l, s, x1, x2, x3, x4, x5⟩ ln.data.toList = (if (runX ⟨l, s, x1, x2, x3, x4, x5⟩).ok then (runBe ⟨l, s, x1, x2, x3, x4, x5⟩, fmtL (runX ⟨l, s, x1, x2, x3, x4, x5⟩).y) else (⟨l, s, x1, x2, x3, x4, x5⟩, noT))) := hE3
      clear hE3 HE3
      have t3x : (ln.toList == [114, 117, 110]) = true := by rw [ByteArray.toList_eq, hru]; rfl
      clear hru hcl HRs
      have HRM := Lib.hid (fun V a b c => specRunM_yes l s A1 c1 x1 A2 c2 x2 A3 c3 x3 V a b c HM.out HS3.out)
      have HRS : Hid ((runX ⟨l, s, x1, x2, x3, x4, x5⟩).ok = true → seqOk (runX ⟨l, s, x1, x2, x3, x4, x5⟩).y = true) := fun h => by obtain ⟨r1, r2⟩ := run_parts h; rw [r2]; exact runY_seq r1
      have HRE : Hid (runX ⟨l, s, x1, x2, x3, x4, x5⟩ = runM l s x1 x2 x3) := rfl
      rw [← HRE.out] at HRM
      have HE6 : Hid (exec ⟨l, s, x1, x2, x3, x4, x5⟩ ln.data.toList = (if (runX ⟨l, s, x1, x2, x3, x4, x5⟩).ok then (⟨l, s, x1, (runX ⟨l, s, x1, x2, x3, x4, x5⟩).m, [], (runX ⟨l, s, x1, x2, x3, x4, x5⟩).y, (runX ⟨l, s, x1, x2, x3, x4, x5⟩).e⟩, fmtL (runX ⟨l, s, x1, x2, x3, x4, x5⟩).y) else (⟨l, s, x1, x2, x3, x4, x5⟩, noT))) := HE9.out
      obtain ⟨Q, hQ⟩ : ∃ Q, Q = runX ⟨l, s, x1, x2, x3, x4, x5⟩ := ⟨_, rfl⟩
      rw [← hQ] at HRM HRS HE6
      clear hQ HRE HE9
      obtain ⟨qy, qe, qm, qo⟩ := Q
      have HRS2 : Hid (qo = true → seqOk qy = true) := HRS.out
      have HE7 : Hid (exec ⟨l, s, x1, x2, x3, x4, x5⟩ ln.data.toList = (if qo then (⟨l, s, x1, qm, [], qy, qe⟩, fmtL qy) else (⟨l, s, x1, x2, x3, x4, x5⟩, noT))) := HE6.out
      clear HRS HE6
      obtain ⟨q0, q1, q2, q3, q4, q5, q6⟩ := HX.get
      go_wp2_with fail
      refine (HRM.out _ (own_rd HX.o1) (own_rd HX.o2) (own_rd HX.o3)).mono ?_; rintro e v5 ⟨Ay, cy, Ae, ce, Am, cm, rfl, Oy, Oe, Om, aye, aym, aem, h⟩
      dsimp only at Oy Oe Om ⊢
      obtain ⟨oy, ny, ay1, ay2, ay3, ay4, ay5⟩ := HX.fresh h Oy
      obtain ⟨oe, ne, ae1, ae2, ae3, ae4, ae5⟩ := HX.fresh h Oe
      obtain ⟨om, nm, am1, am2, am3, am4, am5⟩ := HX.fresh h Om
      have HCy := Lib.hid (own_cap oy)
      replace HX := HX.past h
      clear h HRM Oy Oe Om hc0
      clear q0 q1 q2 q3 q4 q5 q6
      cases qo
      · have HE8 : Hid (exec ⟨l, s, x1, x2, x3, x4, x5⟩ ln.data.toList = (⟨l, s, x1, x2, x3, x4, x5⟩, noT)) := HE7.out
        obtain ⟨q0, q1, q2, q3, q4, q5, q6⟩ := HX.get
        obtain ⟨p0, p1, p2, p3, p4, p5, p6⟩ := HX.res
        obtain ⟨f0, f1, f2, f3, f4, f5, f6⟩ := HX.resF
        obtain ⟨d0, d1, d2, d3, d4, d5, d6, hd⟩ := HX.done (noT)
        have D0 := Lib.hid d0
        have D1 := Lib.hid d1
        have D2 := Lib.hid d2
        have D3 := Lib.hid d3
        have D4 := Lib.hid d4
        have D5 := Lib.hid d5
        have D6 := Lib.hid d6
        have HF := Lib.hid hd
        clear hd d0 d1 d2 d3 d4 d5 d6
        go_wp2
        refine bodyPost_ret (specExec_res rfl rfl D0.out D1.out D2.out D3.out D4.out D5.out D6.out) rfl ?_
        rw [HE8.out]
        exact HF.out
      · have HE8 : Hid (exec ⟨l, s, x1, x2, x3, x4, x5⟩ ln.data.toList = (⟨l, s, x1, qm, [], qy, qe⟩, fmtL qy)) := HE7.out
        have HSY : Hid (seqOk qy = true) := HRS2.out rfl
        clear HE7 HRS2
        obtain ⟨q0, q1, q2, q3, q4, q5, q6⟩ := HX.get
        obtain ⟨g0, g1, g2, g3, g4, g5, g6⟩ := HX.getF
        go_upto_region 26 with fail
        replace HX := HX.set2 om nm am1 am3 am4 am5
        replace oy := own_set1 oy ny 3 (.slice Am qm.length cm)
        replace oe := own_set1 oe ne 3 (.slice Am qm.length cm)
        replace HX := HX.set4 oy ny ay1 (apart_symm aym) ay3 ay5
        replace oe := own_set1 oe ne 5 (.slice Ay qy.length cy)
        replace HX := HX.set5 oe ne ae1 (apart_symm aem) ae3 aye
        replace HX := HX.nil3 
        obtain ⟨v6, hw⟩ : ∃ V, V = ((((v5.setCell ⟨w.heap.size, 3, none⟩ (.slice Am qm.length cm)).setCell ⟨w.heap.size, 5, none⟩ (.slice Ay qy.length cy)).setCell ⟨w.heap.size, 6, none⟩ (.slice Ae qe.length ce)).setCell ⟨w.heap.size, 4, none⟩ (.slice none 0 0)) := ⟨_, rfl⟩
        rw [← hw] at HX  ⊢
        clear hw
        clear oy ny oe ne om nm aye aym aem ay1 ay2 ay3 ay4 ay5 ae1 ae2 ae3 ae4 ae5 am1 am2 am3 am4 am5
        clear q0 q1 q2 q3 q4 q5 q6 g0 g1 g2 g3 g4 g5 g6
        have bx := (Below.refl v6.heap.size v6).drew
        replace HX := HX.past bx
        clear bx
        obtain ⟨q0, q1, q2, q3, q4, q5, q6⟩ := HX.get
        go_wp2_with fail
        go_region_held3 (fun w' => w'.cell? ⟨w.heap.size, 0, none⟩ = some (.int .i64 (l)) ∧ w'.cell? ⟨w.heap.size, 1, none⟩ = some (.int .i64 (s)) ∧ w'.cell? ⟨w.heap.size, 2, none⟩ = some (.slice A1 (x1).length c1) ∧ w'.cell? ⟨w.heap.size, 3, none⟩ = some (.slice Am (qm).length cm) ∧ w'.cell? ⟨w.heap.size, 4, none⟩ = some (.slice none 0 0) ∧ w'.cell? ⟨w.heap.size, 5, none⟩ = some (.slice Ay (qy).length cy) ∧ w'.cell? ⟨w.heap.size, 6, none⟩ = some (.slice Ae (qe).length ce)) (first | go_keep)
          (first | (go_at_call 56; refine (l7Text_ok Ay cy qy _ (own_rd HX.o4) HSY.out HCy.out).mono ?_; rintro e v7 ⟨rfl, h⟩; replace HX := HX.past h; clear h q0 q1 q2 q3 q4 q5 q6; obtain ⟨q0, q1, q2, q3, q4, q5, q6⟩ := HX.get; obtain ⟨p0, p1, p2, p3, p4, p5, p6⟩ := HX.res; obtain ⟨f0, f1, f2, f3, f4, f5, f6⟩ := HX.resF))
        obtain ⟨d0, d1, d2, d3, d4, d5, d6, hd⟩ := HX.done (fmtL qy)
        have D0 := Lib.hid d0
        have D1 := Lib.hid d1
        have D2 := Lib.hid d2
        have D3 := Lib.hid d3
        have D4 := Lib.hid d4
        have D5 := Lib.hid d5
        have D6 := Lib.hid d6
        have HF := Lib.hid hd
        clear hd d0 d1 d2 d3 d4 d5 d6
        clear q0 q1 q2 q3 q4 q5 q6 p0 p1 p2 p3 p4 p5 p6 f0 f1 f2 f3 f4 f5 f6
        go_wp2
        refine bodyPost_ret (specExec_res rfl rfl D0.out D1.out D2.out D3.out D4.out D5.out D6.out) rfl ?_
        rw [HE8.out]
        exact HF.out
    have t3x : (ln.toList == [114, 117, 110]) = false := str_ne _ _ hru
    have hE3 := HRs.out
    rw [if_neg hcl, if_neg hru] at hE3
    have HE9 := Lib.hid hE3
    clear hE3 HRs hcl hru
    obtain ⟨q0, q1, q2, q3, q4, q5, q6⟩ := HX.get
    obtain ⟨p0, p1, p2, p3, p4, p5, p6⟩ := HX.res
    obtain ⟨f0, f1, f2, f3, f4, f5, f6⟩ := HX.resF
    obtain ⟨d0, d1, d2, d3, d4, d5, d6, hd⟩ := HX.done (noT)
    have D0 := Lib.hid d0
    have D1 := Lib.hid d1
    have D2 := Lib.hid d2
    have D3 := Lib.hid d3
    have D4 := Lib.hid d4
    have D5 := Lib.hid d5
    have D6 := Lib.hid d6
    have HF := Lib.hid hd
    clear hd d0 d1 d2 d3 d4 d5 d6
    go_wp2
    refine bodyPost_ret (specExec_res rfl rfl D0.out D1.out D2.out D3.out D4.out D5.out D6.out) rfl ?_
    rw [HE9.out]
    exact HF.out
  · have tL : (((ps.length : Nat) : Int) == 2) = true := by rw [h2]; rfl
    have lz : 0 < ps.length := by omega
    have t2 : ((bs wd).toList == [105, 110]) = false := str_ne _ _ (by rw [HBs.out]; exact fun h => hfd ⟨h2, .inl h⟩)
    have t3 : ((bs wd).toList == [109, 111, 114, 101]) = false := str_ne _ _ (by rw [HBs.out]; exact fun h => hfd ⟨h2, .inr h⟩)
    clear hfd h2 HPr HPM
    by_cases hcl : ln.data.toList = tClear
    · skip
      have t4 : (ln.toList == [99, 108, 101, 97, 114]) = true := by rw [ByteArray.toList_eq, hcl]; rfl
      have HE4 := HRs.out
      rw [if_pos hcl] at HE4
      have HE5 : Hid (exec ⟨l, s, x1, x2, x3, x4, x5⟩ ln.data.toList = (⟨l, s, x1, zers x1.length, x3, x4, x5⟩, okT)) := HE4
      clear HE4 HRs hcl
      have HMm := HMo
      obtain ⟨q0, q1, q2, q3, q4, q5, q6⟩ := HX.get
      go_wp2_with fail
      refine (specPlain_yes (l) (s) A1 c1 (x1) _ (own_rd HX.o1) HMm.out).mono ?_; rintro e v5 ⟨Ac, cc, rfl, Oc, h⟩
      obtain ⟨op, np, ap1, ap2, ap3, ap4, ap5⟩ := HX.fresh h Oc
      replace HX := HX.past h
      clear h Oc hc0
      clear q0 q1 q2 q3 q4 q5 q6
      have hrl : (List.replicate x1.length (0 : Int)).length = x1.length := List.length_replicate
      obtain ⟨zr, hzr⟩ : ∃ zr : List Int, zr = List.replicate x1.length 0 := ⟨_, rfl⟩
      rw [hrl]
      rw [← hzr] at op hrl
      have HE6 : Hid (exec ⟨l, s, x1, x2, x3, x4, x5⟩ ln.data.toList = (⟨l, s, x1, zr, x3, x4, x5⟩, okT)) := by show _ = _; rw [HE5.out, hzr]; rfl
      clear hzr HE5
      obtain ⟨q0, q1, q2, q3, q4, q5, q6⟩ := HX.get
      obtain ⟨g0, g1, g2, g3, g4, g5, g6⟩ := HX.getF
      have HRl := Lib.hid hrl
      clear hrl
      go_upto_region 18 with fail
      replace HX := HX.set2 op np ap1 ap3 ap4 ap5
      rw [HRl.out] at HX
      obtain ⟨v6, hw⟩ : ∃ V, V = (v5.setCell ⟨w.heap.size, 3, none⟩ (.slice Ac x1.length cc)) := ⟨_, rfl⟩
      rw [← hw] at HX ⊢
      clear hw op np ap1 ap2 ap3 ap4 ap5
      clear q0 q1 q2 q3 q4 q5 q6 g0 g1 g2 g3 g4 g5 g6
      obtain ⟨q0, q1, q2, q3, q4, q5, q6⟩ := HX.get
      obtain ⟨p0, p1, p2, p3, p4, p5, p6⟩ := HX.res
      obtain ⟨f0, f1, f2, f3, f4, f5, f6⟩ := HX.resF
      obtain ⟨d0, d1, d2, d3, d4, d5, d6, hd⟩ := HX.done (okT)
      have D0 := Lib.hid d0
      have D1 := Lib.hid d1
      have D2 := Lib.hid d2
      have D3 := Lib.hid d3
      have D4 := Lib.hid d4
      have D5 := Lib.hid d5
      have D6 := Lib.hid d6
      have HF := Lib.hid hd
      clear hd d0 d1 d2 d3 d4 d5 d6
      go_wp2
      refine bodyPost_ret (specExec_res rfl rfl D0.out D1.out D2.out D3.out D4.out D5.out D6.out) rfl ?_
      rw [HE6.out]
      exact HF.out
    have t4 : (ln.toList == [99, 108, 101, 97, 114]) = false := str_ne _ _ hcl
    by_cases hru : ln.data.toList = tRun
    · skip
      have HE3 := HRs
      have hE3 := HE3.out
      rw [if_neg hcl, if_pos hru] at hE3
      have HE9 : Hid (exec ⟨l, s, x1, x2, x3, x4, x5⟩ ln.data.toList = (if (runX ⟨l, s, x1, x2, x3, x4, x5⟩).ok then (runBe ⟨l, s, x1, x2, x3, x4, x5⟩, fmtL (runX ⟨l, s, x1, x2, x3, x4, x5⟩).y) else (⟨l, s, x1, x2, x3, x4, x5⟩, noT))) := hE3
      clear hE3 HE3
      have t3x : (ln.toList == [114, 117, 110]) = true := by rw [ByteArray.toList_eq, hru]; rfl
      clear hru hcl HRs
      have HRM := Lib.hid (fun V a b c => specRunM_yes l s A1 c1 x1 A2 c2 x2 A3 c3 x3 V a b c HM.out HS3.out)
      have HRS : Hid ((runX ⟨l, s, x1, x2, x3, x4, x5⟩).ok = true → seqOk (runX ⟨l, s, x1, x2, x3, x4, x5⟩).y = true) := fun h => by obtain ⟨r1, r2⟩ := run_parts h; rw [r2]; exact runY_seq r1
      have HRE : Hid (runX ⟨l, s, x1, x2, x3, x4, x5⟩ = runM l s x1 x2 x3) := rfl
      rw [← HRE.out] at HRM
      have HE6 : Hid (exec ⟨l, s, x1, x2, x3, x4, x5⟩ ln.data.toList = (if (runX ⟨l, s, x1, x2, x3, x4, x5⟩).ok then (⟨l, s, x1, (runX ⟨l, s, x1, x2, x3, x4, x5⟩).m, [], (runX ⟨l, s, x1, x2, x3, x4, x5⟩).y, (runX ⟨l, s, x1, x2, x3, x4, x5⟩).e⟩, fmtL (runX ⟨l, s, x1, x2, x3, x4, x5⟩).y) else (⟨l, s, x1, x2, x3, x4, x5⟩, noT))) := HE9.out
      obtain ⟨Q, hQ⟩ : ∃ Q, Q = runX ⟨l, s, x1, x2, x3, x4, x5⟩ := ⟨_, rfl⟩
      rw [← hQ] at HRM HRS HE6
      clear hQ HRE HE9
      obtain ⟨qy, qe, qm, qo⟩ := Q
      have HRS2 : Hid (qo = true → seqOk qy = true) := HRS.out
      have HE7 : Hid (exec ⟨l, s, x1, x2, x3, x4, x5⟩ ln.data.toList = (if qo then (⟨l, s, x1, qm, [], qy, qe⟩, fmtL qy) else (⟨l, s, x1, x2, x3, x4, x5⟩, noT))) := HE6.out
      clear HRS HE6
      obtain ⟨q0, q1, q2, q3, q4, q5, q6⟩ := HX.get
      go_wp2_with fail
      refine (HRM.out _ (own_rd HX.o1) (own_rd HX.o2) (own_rd HX.o3)).mono ?_; rintro e v5 ⟨Ay, cy, Ae, ce, Am, cm, rfl, Oy, Oe, Om, aye, aym, aem, h⟩
      dsimp only at Oy Oe Om ⊢
      obtain ⟨oy, ny, ay1, ay2, ay3, ay4, ay5⟩ := HX.fresh h Oy
      obtain ⟨oe, ne, ae1, ae2, ae3, ae4, ae5⟩ := HX.fresh h Oe
      obtain ⟨om, nm, am1, am2, am3, am4, am5⟩ := HX.fresh h Om
      have HCy := Lib.hid (own_cap oy)
      replace HX := HX.past h
      clear h HRM Oy Oe Om hc0
      clear q0 q1 q2 q3 q4 q5 q6
      cases qo
      · have HE8 : Hid (exec ⟨l, s, x1, x2, x3, x4, x5⟩ ln.data.toList = (⟨l, s, x1, x2, x3, x4, x5⟩, noT)) := HE7.out
        obtain ⟨q0, q1, q2, q3, q4, q5, q6⟩ := HX.get
        obtain ⟨p0, p1, p2, p3, p4, p5, p6⟩ := HX.res
        obtain ⟨f0, f1, f2, f3, f4, f5, f6⟩ := HX.resF
        obtain ⟨d0, d1, d2, d3, d4, d5, d6, hd⟩ := HX.done (noT)
        have D0 := Lib.hid d0
        have D1 := Lib.hid d1
        have D2 := Lib.hid d2
        have D3 := Lib.hid d3
        have D4 := Lib.hid d4
        have D5 := Lib.hid d5
        have D6 := Lib.hid d6
        have HF := Lib.hid hd
        clear hd d0 d1 d2 d3 d4 d5 d6
        go_wp2
        refine bodyPost_ret (specExec_res rfl rfl D0.out D1.out D2.out D3.out D4.out D5.out D6.out) rfl ?_
        rw [HE8.out]
        exact HF.out
      · have HE8 : Hid (exec ⟨l, s, x1, x2, x3, x4, x5⟩ ln.data.toList = (⟨l, s, x1, qm, [], qy, qe⟩, fmtL qy)) := HE7.out
        have HSY : Hid (seqOk qy = true) := HRS2.out rfl
        clear HE7 HRS2
        obtain ⟨q0, q1, q2, q3, q4, q5, q6⟩ := HX.get
        obtain ⟨g0, g1, g2, g3, g4, g5, g6⟩ := HX.getF
        go_upto_region 26 with fail
        replace HX := HX.set2 om nm am1 am3 am4 am5
        replace oy := own_set1 oy ny 3 (.slice Am qm.length cm)
        replace oe := own_set1 oe ne 3 (.slice Am qm.length cm)
        replace HX := HX.set4 oy ny ay1 (apart_symm aym) ay3 ay5
        replace oe := own_set1 oe ne 5 (.slice Ay qy.length cy)
        replace HX := HX.set5 oe ne ae1 (apart_symm aem) ae3 aye
        replace HX := HX.nil3 
        obtain ⟨v6, hw⟩ : ∃ V, V = ((((v5.setCell ⟨w.heap.size, 3, none⟩ (.slice Am qm.length cm)).setCell ⟨w.heap.size, 5, none⟩ (.slice Ay qy.length cy)).setCell ⟨w.heap.size, 6, none⟩ (.slice Ae qe.length ce)).setCell ⟨w.heap.size, 4, none⟩ (.slice none 0 0)) := ⟨_, rfl⟩
        rw [← hw] at HX  ⊢
        clear hw
        clear oy ny oe ne om nm aye aym aem ay1 ay2 ay3 ay4 ay5 ae1 ae2 ae3 ae4 ae5 am1 am2 am3 am4 am5
        clear q0 q1 q2 q3 q4 q5 q6 g0 g1 g2 g3 g4 g5 g6
        have bx := (Below.refl v6.heap.size v6).drew
        replace HX := HX.past bx
        clear bx
        obtain ⟨q0, q1, q2, q3, q4, q5, q6⟩ := HX.get
        go_wp2_with fail
        go_region_held3 (fun w' => w'.cell? ⟨w.heap.size, 0, none⟩ = some (.int .i64 (l)) ∧ w'.cell? ⟨w.heap.size, 1, none⟩ = some (.int .i64 (s)) ∧ w'.cell? ⟨w.heap.size, 2, none⟩ = some (.slice A1 (x1).length c1) ∧ w'.cell? ⟨w.heap.size, 3, none⟩ = some (.slice Am (qm).length cm) ∧ w'.cell? ⟨w.heap.size, 4, none⟩ = some (.slice none 0 0) ∧ w'.cell? ⟨w.heap.size, 5, none⟩ = some (.slice Ay (qy).length cy) ∧ w'.cell? ⟨w.heap.size, 6, none⟩ = some (.slice Ae (qe).length ce)) (first | go_keep)
          (first | (go_at_call 56; refine (l7Text_ok Ay cy qy _ (own_rd HX.o4) HSY.out HCy.out).mono ?_; rintro e v7 ⟨rfl, h⟩; replace HX := HX.past h; clear h q0 q1 q2 q3 q4 q5 q6; obtain ⟨q0, q1, q2, q3, q4, q5, q6⟩ := HX.get; obtain ⟨p0, p1, p2, p3, p4, p5, p6⟩ := HX.res; obtain ⟨f0, f1, f2, f3, f4, f5, f6⟩ := HX.resF))
        obtain ⟨d0, d1, d2, d3, d4, d5, d6, hd⟩ := HX.done (fmtL qy)
        have D0 := Lib.hid d0
        have D1 := Lib.hid d1
        have D2 := Lib.hid d2
        have D3 := Lib.hid d3
        have D4 := Lib.hid d4
        have D5 := Lib.hid d5
        have D6 := Lib.hid d6
        have HF := Lib.hid hd
        clear hd d0 d1 d2 d3 d4 d5 d6
        clear q0 q1 q2 q3 q4 q5 q6 p0 p1 p2 p3 p4 p5 p6 f0 f1 f2 f3 f4 f5 f6
        go_wp2
        refine bodyPost_ret (specExec_res rfl rfl D0.out D1.out D2.out D3.out D4.out D5.out D6.out) rfl ?_
        rw [HE8.out]
        exact HF.out
    have t3x : (ln.toList == [114, 117, 110]) = false := str_ne _ _ hru
    have hE3 := HRs.out
    rw [if_neg hcl, if_neg hru] at hE3
    have HE9 := Lib.hid hE3
    clear hE3 HRs hcl hru
    obtain ⟨q0, q1, q2, q3, q4, q5, q6⟩ := HX.get
    obtain ⟨p0, p1, p2, p3, p4, p5, p6⟩ := HX.res
    obtain ⟨f0, f1, f2, f3, f4, f5, f6⟩ := HX.resF
    obtain ⟨d0, d1, d2, d3, d4, d5, d6, hd⟩ := HX.done (noT)
    have D0 := Lib.hid d0
    have D1 := Lib.hid d1
    have D2 := Lib.hid d2
    have D3 := Lib.hid d3
    have D4 := Lib.hid d4
    have D5 := Lib.hid d5
    have D6 := Lib.hid d6
    have HF := Lib.hid hd
    clear hd d0 d1 d2 d3 d4 d5 d6
    go_wp2
    refine bodyPost_ret (specExec_res rfl rfl D0.out D1.out D2.out D3.out D4.out D5.out D6.out) rfl ?_
    rw [HE9.out]
    exact HF.out
end Go.Proofs.YtgkijkenbjjnmaaGreatDoor
