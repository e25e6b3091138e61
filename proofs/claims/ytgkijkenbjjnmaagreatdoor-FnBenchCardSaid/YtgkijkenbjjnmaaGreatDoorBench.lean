/- Contracts of the laws' own helpers on modulators and benches, of PlainMemory and of the two NewBench. (Printed by mkbench.py.) -/
import Derived.Test.YtgkijkenbjjnmaaGreatDoorOrdM
import Derived.Test.YtgkijkenbjjnmaaGreatDoorMkMod
import Derived.Deep.CutRange
namespace Go.Proofs.YtgkijkenbjjnmaaGreatDoor
open Go.RowKit
set_option linter.unusedVariables false
set_option linter.unusedSimpArgs false
structure Be where
  levels : Int
  step : Int
  coefs : List Int
  memory : List Int
  input : List Int
  output : List Int
  errors : List Int
theorem wrote_alloc' {w w' : World} {o : Obj} {A : Option Addr} (h : Wrote (w.alloc o) w' A) : Wrote w w' A := (World.grownBy_alloc w o _).trans h
theorem blk_hi {w w' : World} {g n : Nat} {t : TypeId} {cs : Array Value} {A : Option Addr} (h : Blk w g t cs) (hw : Wrote w w' A) (hl : Hi A n) (hg : n ≤ g) : Blk w' g t cs := blk_wrote_hi h hw hl hg
theorem eqQuantiser_same (l s : Int) (w : World) : Calls Tryz.prog 123 #[.agg #[.int .i64 l, .int .i64 s], .agg #[.int .i64 l, .int .i64 s]] w fun e w' => e = .returned (.bool true) ∧ Below w.heap.size w w' := by
  have t0 : (l != l) = false := by simp
  have t1 : (s != s) = false := by simp
  go_enter Tryz.func123, Tryz.ntmps123
  go_wp2
  go_ret
  exact ⟨rfl, ((Below.refl _ _).alloc (Nat.le_refl _) _).alloc (by simp) _⟩
theorem eqModulator_same (A D : Option Addr) (c d : Nat) (xs : List Int) (l s : Int) (w : World) (h1 : Rd w w.heap.size A xs) (h2 : Rd w w.heap.size D xs) (hn : xs.length ≤ 1099511627776) :
    Calls Tryz.prog 79 #[.agg #[.int .i64 l, .int .i64 s, .slice A xs.length c], .agg #[.int .i64 l, .int .i64 s, .slice D xs.length d]] w fun e w' => e = .returned (.bool true) ∧ Below w.heap.size w w' := by
  have Hb : Hid (Below w.heap.size w ((w.alloc (.cells #[.int .i64 l, .int .i64 s, .slice A xs.length c] 27)).alloc (.cells #[.int .i64 l, .int .i64 s, .slice D xs.length d] 27))) := ((Below.refl _ _).alloc (Nat.le_refl _) _).alloc (by simp) _
  have B0 := (Blk.new w 27 #[.int .i64 l, .int .i64 s, .slice A xs.length c]).alloc (.cells #[.int .i64 l, .int .i64 s, .slice D xs.length d] 27)
  have D0 := Blk.new (w.alloc (.cells #[.int .i64 l, .int .i64 s, .slice A xs.length c] 27)) 27 #[.int .i64 l, .int .i64 s, .slice D xs.length d]
  simp only [World.size_alloc] at D0
  go_enter Tryz.func79, Tryz.ntmps79
  go_wp2_with fail
  refine (eqQuantiser_same l s _).mono ?_; rintro e w1 ⟨rfl, k1⟩
  have B1 := B0.past k1
  have D1 := D0.past k1
  replace Hb := Lib.hid (thenB Hb.out k1)
  have c1 := B1.cell 2
  have e1 := D1.cell 2
  simp at c1 e1
  clear B0 D0 k1
  go_wp2_with fail
  refine (eqIntS_same A D c d xs _ (h1.past Hb.out) (h2.past Hb.out) hn).mono ?_; rintro e w2 ⟨rfl, k2⟩
  replace Hb := Lib.hid (thenB Hb.out k2)
  clear B1 D1 c1 e1 k2
  go_wp2_with fail
  go_ret
  exact ⟨rfl, Hb.out⟩
theorem markModulator_any (A : Option Addr) (B c : Nat) (xs : List Int) (l s k : Int) (w : World) (h1 : Own w B A c xs) (hn : xs.length ≤ 1048576) (k1 : 0 ≤ k) (k2 : k ≤ 1099511627776) :
    Calls Tryz.prog 81 #[.agg #[.int .i64 l, .int .i64 s, .slice A xs.length c], .int .i64 k] w (RetMark w A c xs.length k) := by
  have Hb : Below w.heap.size w (w.alloc (.cells #[.int .i64 l, .int .i64 s, .slice A xs.length c] 27)) := (Below.refl _ _).alloc (Nat.le_refl _) _
  have O1 := own_past h1 Hb
  clear h1 Hb
  go_enter Tryz.func81, Tryz.ntmps81
  go_wp2_with fail
  refine (markIntS_any A _ c xs k _ O1 (by omega) (by omega) (by omega)).mono ?_; rintro e w1 ⟨rfl, O1', k1⟩
  go_wp2_with fail
  go_ret
  exact ⟨rfl, O1', wrote_alloc' k1⟩
theorem heldModulator_any (A : Option Addr) (c n : Nat) (l s k : Int) (w : World) (h1 : Rd w w.heap.size A (marks k n)) (hn : n ≤ 1048576) (k1 : 0 ≤ k) (k2 : k ≤ 1099511627776) :
    Calls Tryz.prog 83 #[.agg #[.int .i64 l, .int .i64 s, .slice A n c], .int .i64 k] w fun e w' => e = .returned (.int .i64 (k + n)) ∧ Below w.heap.size w w' := by
  have Hb : Below w.heap.size w (w.alloc (.cells #[.int .i64 l, .int .i64 s, .slice A n c] 27)) := (Below.refl _ _).alloc (Nat.le_refl _) _
  have R1 := h1.past Hb
  have HB := Lib.hid Hb
  clear h1 Hb
  go_enter Tryz.func83, Tryz.ntmps83
  go_wp2_with fail
  refine (heldIntS_any A c n k _ R1 (by omega) (by omega) (by omega)).mono ?_; rintro e w1 ⟨rfl, rfl⟩
  go_wp2_with fail
  go_ret
  exact ⟨rfl, HB.out⟩
set_option maxHeartbeats 1000000 in
theorem eqBench_same (A1 A2 A3 A4 A5 D1 D2 D3 D4 D5 : Option Addr) (c1 c2 c3 c4 c5 d1 d2 d3 d4 d5 : Nat) (x1 x2 x3 x4 x5 : List Int) (l s : Int) (w : World) (h1 : Rd w w.heap.size A1 x1) (h2 : Rd w w.heap.size A2 x2) (h3 : Rd w w.heap.size A3 x3) (h4 : Rd w w.heap.size A4 x4) (h5 : Rd w w.heap.size A5 x5) (g1 : Rd w w.heap.size D1 x1) (g2 : Rd w w.heap.size D2 x2) (g3 : Rd w w.heap.size D3 x3) (g4 : Rd w w.heap.size D4 x4) (g5 : Rd w w.heap.size D5 x5) (n1 : x1.length ≤ 1048576) (n2 : x2.length ≤ 1048576) (n3 : x3.length ≤ 1048576) (n4 : x4.length ≤ 1048576) (n5 : x5.length ≤ 1048576) :
    Calls Tryz.prog 33 #[.agg #[.int .i64 l, .int .i64 s, .slice A1 x1.length c1, .slice A2 x2.length c2, .slice A3 x3.length c3, .slice A4 x4.length c4, .slice A5 x5.length c5], .agg #[.int .i64 l, .int .i64 s, .slice D1 x1.length d1, .slice D2 x2.length d2, .slice D3 x3.length d3, .slice D4 x4.length d4, .slice D5 x5.length d5]] w fun e w' => e = .returned (.bool true) ∧ Below w.heap.size w w' := by
  have Hb : Hid (Below w.heap.size w ((w.alloc (.cells #[.int .i64 l, .int .i64 s, .slice A1 x1.length c1, .slice A2 x2.length c2, .slice A3 x3.length c3, .slice A4 x4.length c4, .slice A5 x5.length c5] 33)).alloc (.cells #[.int .i64 l, .int .i64 s, .slice D1 x1.length d1, .slice D2 x2.length d2, .slice D3 x3.length d3, .slice D4 x4.length d4, .slice D5 x5.length d5] 33))) := ((Below.refl _ _).alloc (Nat.le_refl _) _).alloc (by simp) _
  have B := (Blk.new w 33 #[.int .i64 l, .int .i64 s, .slice A1 x1.length c1, .slice A2 x2.length c2, .slice A3 x3.length c3, .slice A4 x4.length c4, .slice A5 x5.length c5]).alloc (.cells #[.int .i64 l, .int .i64 s, .slice D1 x1.length d1, .slice D2 x2.length d2, .slice D3 x3.length d3, .slice D4 x4.length d4, .slice D5 x5.length d5] 33)
  have D := Blk.new (w.alloc (.cells #[.int .i64 l, .int .i64 s, .slice A1 x1.length c1, .slice A2 x2.length c2, .slice A3 x3.length c3, .slice A4 x4.length c4, .slice A5 x5.length c5] 33)) 33 #[.int .i64 l, .int .i64 s, .slice D1 x1.length d1, .slice D2 x2.length d2, .slice D3 x3.length d3, .slice D4 x4.length d4, .slice D5 x5.length d5]
  simp only [World.size_alloc] at D
  have H1 := Lib.hid h1
  have G1 := Lib.hid g1
  have H2 := Lib.hid h2
  have G2 := Lib.hid g2
  have H3 := Lib.hid h3
  have G3 := Lib.hid g3
  have H4 := Lib.hid h4
  have G4 := Lib.hid g4
  have H5 := Lib.hid h5
  have G5 := Lib.hid g5
  clear h1 h2 h3 h4 h5 g1 g2 g3 g4 g5
  go_enter Tryz.func33, Tryz.ntmps33
  go_wp2_with fail
  refine (eqModulator_same A1 D1 c1 d1 x1 l s _ (H1.out.past Hb.out) (G1.out.past Hb.out) (by omega)).mono ?_; rintro e w1 ⟨rfl, k1⟩
  replace Hb := Lib.hid (thenB Hb.out k1)
  replace B := B.past k1
  replace D := D.past k1
  have q1 := B.cell 3
  have q2 := D.cell 3
  simp at q1 q2
  clear k1
  go_wp2_with fail
  refine (eqIntS_same A2 D2 c2 d2 x2 _ (H2.out.past Hb.out) (G2.out.past Hb.out) (by omega)).mono ?_; rintro e w2 ⟨rfl, k1⟩
  replace Hb := Lib.hid (thenB Hb.out k1)
  clear q1 q2
  replace B := B.past k1
  replace D := D.past k1
  have q1 := B.cell 4
  have q2 := D.cell 4
  simp at q1 q2
  clear k1
  go_wp2_with fail
  refine (eqIntS_same A3 D3 c3 d3 x3 _ (H3.out.past Hb.out) (G3.out.past Hb.out) (by omega)).mono ?_; rintro e w3 ⟨rfl, k1⟩
  replace Hb := Lib.hid (thenB Hb.out k1)
  clear q1 q2
  replace B := B.past k1
  replace D := D.past k1
  have q1 := B.cell 5
  have q2 := D.cell 5
  simp at q1 q2
  clear k1
  go_wp2_with fail
  refine (eqIntS_same A4 D4 c4 d4 x4 _ (H4.out.past Hb.out) (G4.out.past Hb.out) (by omega)).mono ?_; rintro e w4 ⟨rfl, k1⟩
  replace Hb := Lib.hid (thenB Hb.out k1)
  clear q1 q2
  replace B := B.past k1
  replace D := D.past k1
  have q1 := B.cell 6
  have q2 := D.cell 6
  simp at q1 q2
  clear k1
  go_wp2_with fail
  refine (eqIntS_same A5 D5 c5 d5 x5 _ (H5.out.past Hb.out) (G5.out.past Hb.out) (by omega)).mono ?_; rintro e w5 ⟨rfl, k1⟩
  replace Hb := Lib.hid (thenB Hb.out k1)
  clear q1 q2
  clear B D k1
  go_wp2_with fail
  go_ret
  exact ⟨rfl, Hb.out⟩
def RetMark5 (w : World) (A1 A2 A3 A4 A5 : Option Addr) (c1 c2 c3 c4 c5 n1 n2 n3 n4 n5 : Nat) (k : Int) (e : Ending) (w' : World) : Prop :=
  ∃ wa wb wc wd, e = .returned (.int .i64 (k + n1 + n2 + n3 + n4 + n5)) ∧ Own w' 0 A1 c1 (marks (k) n1) ∧ Own w' 0 A2 c2 (marks (k + n1) n2) ∧ Own w' 0 A3 c3 (marks (k + n1 + n2) n3) ∧ Own w' 0 A4 c4 (marks (k + n1 + n2 + n3) n4) ∧ Own w' 0 A5 c5 (marks (k + n1 + n2 + n3 + n4) n5) ∧ Wrote w wa A1 ∧ Wrote wa wb A2 ∧ Wrote wb wc A3 ∧ Wrote wc wd A4 ∧ Wrote wd w' A5
set_option maxHeartbeats 1000000 in
theorem markBench_any (A1 A2 A3 A4 A5 : Option Addr) (B1 B2 B3 B4 B5 c1 c2 c3 c4 c5 : Nat) (x1 x2 x3 x4 x5 : List Int) (l s k : Int) (w : World) (h1 : Own w B1 A1 c1 x1) (h2 : Own w B2 A2 c2 x2) (h3 : Own w B3 A3 c3 x3) (h4 : Own w B4 A4 c4 x4) (h5 : Own w B5 A5 c5 x5) (p12 : Apart A1 A2) (p13 : Apart A1 A3) (p14 : Apart A1 A4) (p15 : Apart A1 A5) (p23 : Apart A2 A3) (p24 : Apart A2 A4) (p25 : Apart A2 A5) (p34 : Apart A3 A4) (p35 : Apart A3 A5) (p45 : Apart A4 A5) (n1 : x1.length ≤ 1048576) (n2 : x2.length ≤ 1048576) (n3 : x3.length ≤ 1048576) (n4 : x4.length ≤ 1048576) (n5 : x5.length ≤ 1048576) (k1 : 0 ≤ k) (k2 : k ≤ 1099511627776) :
    Calls Tryz.prog 34 #[.agg #[.int .i64 l, .int .i64 s, .slice A1 x1.length c1, .slice A2 x2.length c2, .slice A3 x3.length c3, .slice A4 x4.length c4, .slice A5 x5.length c5], .int .i64 k] w (RetMark5 w A1 A2 A3 A4 A5 c1 c2 c3 c4 c5 x1.length x2.length x3.length x4.length x5.length k) := by
  have Hb : Below w.heap.size w (w.alloc (.cells #[.int .i64 l, .int .i64 s, .slice A1 x1.length c1, .slice A2 x2.length c2, .slice A3 x3.length c3, .slice A4 x4.length c4, .slice A5 x5.length c5] 33)) := (Below.refl _ _).alloc (Nat.le_refl _) _
  have B := Blk.new w 33 #[.int .i64 l, .int .i64 s, .slice A1 x1.length c1, .slice A2 x2.length c2, .slice A3 x3.length c3, .slice A4 x4.length c4, .slice A5 x5.length c5]
  have L1 := own_hi h1
  have O1 := own_past h1 Hb
  have L2 := own_hi h2
  have O2 := own_past h2 Hb
  have L3 := own_hi h3
  have O3 := own_past h3 Hb
  have L4 := own_hi h4
  have O4 := own_past h4 Hb
  have L5 := own_hi h5
  have O5 := own_past h5 Hb
  clear Hb h1 h2 h3 h4 h5
  go_enter Tryz.func34, Tryz.ntmps34
  go_wp2_with fail
  refine (markModulator_any A1 _ c1 x1 l s k _ O1 (by omega) (by omega) (by omega)).mono ?_; rintro e w1 ⟨rfl, O1', k1'⟩
  replace O2 := own_wrote O2 k1' (apart_symm p12)
  replace O3 := own_wrote O3 k1' (apart_symm p13)
  replace O4 := own_wrote O4 k1' (apart_symm p14)
  replace O5 := own_wrote O5 k1' (apart_symm p15)
  replace B := blk_hi B k1' L1 (Nat.le_refl _)
  have q1 := B.cell 3
  simp at q1
  clear O1
  go_wp2_with fail
  refine (markIntS_any A2 _ c2 x2 _ _ O2 (by omega) (by omega) (by omega)).mono ?_; rintro e w2 ⟨rfl, O2', k2'⟩
  replace O1' := own_wrote O1' k2' p12
  replace O3 := own_wrote O3 k2' (apart_symm p23)
  replace O4 := own_wrote O4 k2' (apart_symm p24)
  replace O5 := own_wrote O5 k2' (apart_symm p25)
  clear q1
  replace B := blk_hi B k2' L2 (Nat.le_refl _)
  have q1 := B.cell 4
  simp at q1
  clear O2
  go_wp2_with fail
  refine (markIntS_any A3 _ c3 x3 _ _ O3 (by omega) (by omega) (by omega)).mono ?_; rintro e w3 ⟨rfl, O3', k3'⟩
  replace O1' := own_wrote O1' k3' p13
  replace O2' := own_wrote O2' k3' p23
  replace O4 := own_wrote O4 k3' (apart_symm p34)
  replace O5 := own_wrote O5 k3' (apart_symm p35)
  clear q1
  replace B := blk_hi B k3' L3 (Nat.le_refl _)
  have q1 := B.cell 5
  simp at q1
  clear O3
  go_wp2_with fail
  refine (markIntS_any A4 _ c4 x4 _ _ O4 (by omega) (by omega) (by omega)).mono ?_; rintro e w4 ⟨rfl, O4', k4'⟩
  replace O1' := own_wrote O1' k4' p14
  replace O2' := own_wrote O2' k4' p24
  replace O3' := own_wrote O3' k4' p34
  replace O5 := own_wrote O5 k4' (apart_symm p45)
  clear q1
  replace B := blk_hi B k4' L4 (Nat.le_refl _)
  have q1 := B.cell 6
  simp at q1
  clear O4
  go_wp2_with fail
  refine (markIntS_any A5 _ c5 x5 _ _ O5 (by omega) (by omega) (by omega)).mono ?_; rintro e w5 ⟨rfl, O5', k5'⟩
  replace O1' := own_wrote O1' k5' p15
  replace O2' := own_wrote O2' k5' p25
  replace O3' := own_wrote O3' k5' p35
  replace O4' := own_wrote O4' k5' p45
  clear q1
  clear B
  go_wp2_with fail
  go_ret
  exact ⟨w1, w2, w3, w4, rfl, O1', O2', O3', O4', O5', wrote_alloc' k1', k2', k3', k4', k5'⟩
set_option maxHeartbeats 1000000 in
theorem heldBench_any (A1 A2 A3 A4 A5 : Option Addr) (c1 c2 c3 c4 c5 n1 n2 n3 n4 n5 : Nat) (l s k : Int) (w : World) (h1 : Rd w w.heap.size A1 (marks (k) n1)) (h2 : Rd w w.heap.size A2 (marks (k + n1) n2)) (h3 : Rd w w.heap.size A3 (marks (k + n1 + n2) n3)) (h4 : Rd w w.heap.size A4 (marks (k + n1 + n2 + n3) n4)) (h5 : Rd w w.heap.size A5 (marks (k + n1 + n2 + n3 + n4) n5)) (m1 : n1 ≤ 1048576) (m2 : n2 ≤ 1048576) (m3 : n3 ≤ 1048576) (m4 : n4 ≤ 1048576) (m5 : n5 ≤ 1048576) (k1 : 0 ≤ k) (k2 : k ≤ 1099511627776) :
    Calls Tryz.prog 35 #[.agg #[.int .i64 l, .int .i64 s, .slice A1 n1 c1, .slice A2 n2 c2, .slice A3 n3 c3, .slice A4 n4 c4, .slice A5 n5 c5], .int .i64 k] w fun e w' => e = .returned (.int .i64 (k + n1 + n2 + n3 + n4 + n5)) ∧ Below w.heap.size w w' := by
  have Hb : Hid (Below w.heap.size w (w.alloc (.cells #[.int .i64 l, .int .i64 s, .slice A1 n1 c1, .slice A2 n2 c2, .slice A3 n3 c3, .slice A4 n4 c4, .slice A5 n5 c5] 33))) := (Below.refl _ _).alloc (Nat.le_refl _) _
  have B := Blk.new w 33 #[.int .i64 l, .int .i64 s, .slice A1 n1 c1, .slice A2 n2 c2, .slice A3 n3 c3, .slice A4 n4 c4, .slice A5 n5 c5]
  have H1 := Lib.hid h1
  have H2 := Lib.hid h2
  have H3 := Lib.hid h3
  have H4 := Lib.hid h4
  have H5 := Lib.hid h5
  clear h1 h2 h3 h4 h5
  go_enter Tryz.func35, Tryz.ntmps35
  go_wp2_with fail
  refine (heldModulator_any A1 c1 n1 l s k _ (H1.out.past Hb.out) (by omega) (by omega) (by omega)).mono ?_; rintro e w1 ⟨rfl, k1'⟩
  replace Hb := Lib.hid (thenB Hb.out k1')
  replace B := B.past k1'



  have q2 := B.cell 3
  have q3 := B.cell 4
  have q4 := B.cell 5
  have q5 := B.cell 6
  simp at q2 q3 q4 q5
  clear B k1'
  go_wp2_with fail
  refine (heldIntS_any A2 c2 n2 _ _ (H2.out.past Hb.out) (by omega) (by omega) (by omega)).mono ?_; rintro e w' ⟨rfl, rfl⟩
  go_wp2_with fail
  refine (heldIntS_any A3 c3 n3 _ _ (H3.out.past Hb.out) (by omega) (by omega) (by omega)).mono ?_; rintro e w' ⟨rfl, rfl⟩
  go_wp2_with fail
  refine (heldIntS_any A4 c4 n4 _ _ (H4.out.past Hb.out) (by omega) (by omega) (by omega)).mono ?_; rintro e w' ⟨rfl, rfl⟩
  go_wp2_with fail
  refine (heldIntS_any A5 c5 n5 _ _ (H5.out.past Hb.out) (by omega) (by omega) (by omega)).mono ?_; rintro e w' ⟨rfl, rfl⟩
  go_wp2_with fail
  go_ret
  exact ⟨rfl, Hb.out⟩
end Go.Proofs.YtgkijkenbjjnmaaGreatDoor
