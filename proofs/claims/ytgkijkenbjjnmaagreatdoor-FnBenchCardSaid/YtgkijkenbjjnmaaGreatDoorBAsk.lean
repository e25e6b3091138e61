/- Contracts of the two answers to a question. (Printed by mkbask.py.) -/
import Derived.Test.YtgkijkenbjjnmaaGreatDoorBx
import Derived.Test.YtgkijkenbjjnmaaGreatDoorSpecM2
import Derived.Test.YtgkijkenbjjnmaaGreatDoorParS
namespace Go.Proofs.YtgkijkenbjjnmaaGreatDoor
open Go.RowKit
set_option linter.unusedVariables false
set_option linter.unusedSimpArgs false
def RetStr (w : World) (t : List UInt8) (e : Ending) (w' : World) : Prop := e = .returned (.string (bs t)) ∧ Below w.heap.size w w'
theorem number_yes (n : Int) (w : World) (h1 : -4611686018427387904 ≤ n) (h2 : n ≤ 4611686018427387904) : Calls Tryz.prog 96 #[.int .i64 n, .bool true] w (RetStr w (decI n)) := by
  go_enter Tryz.func96, Tryz.ntmps96
  go_wp2_with (go_at_call 55; refine (implDec_any n _ h1 h2).mono ?_; rintro e w' ⟨rfl, rfl⟩)
  go_ret
  exact ⟨rfl, Below.refl _ _⟩
theorem number_no (n : Int) (w : World) : Calls Tryz.prog 96 #[.int .i64 n, .bool false] w (RetStr w noT) := by
  go_enter Tryz.func96, Tryz.ntmps96
  go_wp2
  go_ret
  exact ⟨rfl, Below.refl _ _⟩
theorem implFmt_ok (A : Option Addr) (c : Nat) (xs : List Int) (w : World) (hr : Rd w w.heap.size A xs) (h : seqOk xs = true) : Calls Tryz.prog 51 #[.slice A xs.length c] w (RetStr w (fmtL xs)) := by
  have e : fmtI xs = fmtL xs := by unfold fmtI; rw [if_pos h]
  have := implFormat_any A c xs w hr (by have := seqOk_len h; omega)
  rw [e] at this
  exact this
theorem l7Text_ok (A : Option Addr) (c : Nat) (xs : List Int) (w : World) (hr : Rd w w.heap.size A xs) (h : seqOk xs = true) (hc : xs.length ≤ c ∧ c ≤ maxLen) : Calls Tryz.prog 56 #[.slice A xs.length c] w (RetStr w (fmtL xs)) :=
  l7Text_any A c xs w hr hc.1 (by have := hc.2; unfold maxLen at this; exact this) h
set_option maxHeartbeats 400000 in
theorem specSumOf_b (A : Option Addr) (c : Nat) (xs : List Int) (w : World) (hr : Rd w w.heap.size A xs) (hn : xs.length ≤ 9223372036854775807) :
    Calls Tryz.prog 22 #[.slice A xs.length c] w fun e w' => e = .returned (.int .i64 (seqSum xs)) ∧ w = w' := by
  rcases Bool.eq_false_or_eq_true (seqOk xs) with hs | hs
  · have hlen := seqOk_len hs
    go_enter Tryz.func22, Tryz.ntmps22
    go_wp2_with (go_at_call 58; refine (specIsSequence_any _ _ _ _ hr hn).mono ?_; rintro e w' ⟨rfl, rfl⟩)
    go_loop [3, 11] (fun q i => ∃ k : Nat, k ≤ xs.length ∧ i = .int .i64 k ∧ q = .int .i64 (sumTo (fun v => v) xs k)) (fun _ i => xs.length - (intOf i).toNat)
    case atStart => exact ⟨0, by omega, rfl, by simp [sumTo_zero]⟩
    case round =>
      obtain ⟨k, hk, rfl, rfl⟩ := hrel
      by_cases hlt : k < xs.length
      · obtain ⟨ad, rfl, hbl, hcell⟩ := hr.at_ hlt
        have hc1 := hcell k hlt
        have b1 := sumTo_bd (fun v => v) xs (-1099511627776) 1099511627776 (seqOk_mem hs) k hk
        have b2 := seqOk_at hs hlt
        clear hr hcell
        have hsn := Lib.hid (sumTo_succ (fun v => v) xs hlt)
        go_wp2
        go_round
        case rel => exact ⟨k + 1, by omega, by go_num, by rw [hsn.out]⟩
        case measure => simp [intOf]; omega
      · obtain rfl : k = xs.length := by omega
        have E := Lib.hid (show seqSum xs = sumTo (fun v => v) xs xs.length by rw [sum_id]; simp [seqSum, hs])
        go_wp2
        go_ret
        exact ⟨by rw [E.out]; rfl, rfl⟩
  · go_enter Tryz.func22, Tryz.ntmps22
    go_wp2_with (go_at_call 58; refine (specIsSequence_any _ _ _ _ hr hn).mono ?_; rintro e w' ⟨rfl, rfl⟩)
    go_ret
    exact ⟨ret_int (by simp [seqSum, hs]), rfl⟩
def RetIIB2 (w : World) (x : (Int × Int) × Bool) (e : Ending) (w' : World) : Prop := e = .returned (.tuple #[.int .i64 x.1.1, .int .i64 x.1.2, .bool x.2]) ∧ Below w.heap.size w w'
def slopeG (xs : List Int) : Nat := Nat.gcd xs.sum.toNat xs.length
def slope (xs : List Int) : (Int × Int) × Bool := if wordOk xs && decide (xs.length ≠ 0) then ((((xs.sum.toNat / slopeG xs : Nat) : Int), ((xs.length / slopeG xs : Nat) : Int)), true) else ((0, 0), false)
set_option maxRecDepth 100000 in
set_option maxHeartbeats 1000000 in
theorem implAsk_shape (l s : Int) (A1 : Option Addr) (c1 : Nat) (x1 : List Int) (A2 : Option Addr) (c2 : Nat) (x2 : List Int) (A3 : Option Addr) (c3 : Nat) (x3 : List Int) (A4 : Option Addr) (c4 : Nat) (x4 : List Int) (A5 : Option Addr) (c5 : Nat) (x5 : List Int) (w : World) (hr1 : Rd w w.heap.size A1 x1) (hr2 : Rd w w.heap.size A2 x2) (hr3 : Rd w w.heap.size A3 x3) (hr4 : Rd w w.heap.size A4 x4) (hr5 : Rd w w.heap.size A5 x5) (hok : benchOk l s x1 x2 x3 x4 x5 = true) :
    Calls Tryz.prog 52 #[.agg #[.int .i64 l, .int .i64 s, .slice A1 x1.length c1, .slice A2 x2.length c2, .slice A3 x3.length c3, .slice A4 x4.length c4, .slice A5 x5.length c5], .string ⟨#[115, 104, 97, 112, 101]⟩] w (RetStr w (fmtL (1 :: x1))) := by
  obtain ⟨hm, hs3, hs4, hs5⟩ : memOk l s x1 x2 = true ∧ seqOk x3 = true ∧ seqOk x4 = true ∧ seqOk x5 = true := ok_parts (X := ⟨l, s, x1, x2, x3, x4, x5⟩) hok
  obtain ⟨h1, h2, h3⟩ := mem_parts hm
  have hb0 : Below w.heap.size w (w.alloc (.cells #[.int .i64 l, .int .i64 s, .slice A1 x1.length c1, .slice A2 x2.length c2, .slice A3 x3.length c3, .slice A4 x4.length c4, .slice A5 x5.length c5] 33)) := (Below.refl _ _).alloc (Nat.le_refl _) _
  have B0 := Blk.new w 33 #[.int .i64 l, .int .i64 s, .slice A1 x1.length c1, .slice A2 x2.length c2, .slice A3 x3.length c3, .slice A4 x4.length c4, .slice A5 x5.length c5]
  have Hb0 := Lib.hid hb0
  have R1 := Lib.hid (hr1.past hb0)
  have R2 := Lib.hid (hr2.past hb0)
  have R3 := Lib.hid (hr3.past hb0)
  have R4 := Lib.hid (hr4.past hb0)
  have R5 := Lib.hid (hr5.past hb0)
  have q0 := B0.cell 0; have q1 := B0.cell 1; have q2 := B0.cell 2; have q3 := B0.cell 3; have q4 := B0.cell 4; have q5 := B0.cell 5; have q6 := B0.cell 6; simp at q0 q1 q2 q3 q4 q5 q6
  have HC := Lib.hid (fun W h => implShape_yes l s A1 c1 x1 W h h1)
  have HS := Lib.hid (shape_ok h1)
  clear hb0 hr1 hr2 hr3 hr4 hr5 B0 hm hs3 hs4 hs5 h1 h2 h3 hok
  go_enter Tryz.func52, Tryz.ntmps52
  go_wp2_with fail
  refine (HC.out _ R1.out).mono ?_; rintro e w1 ⟨Aq, cq, rfl, Oq, k1⟩
  have HF := Lib.hid (implFmt_ok Aq cq (1 :: x1) w1 (own_rd Oq) HS.out)
  have Hb1 := Lib.hid (thenB Hb0.out k1)
  clear k1 Oq q0 q1 q2 q3 q4 q5 q6
  go_wp2_with fail
  refine HF.out.mono ?_; rintro e w2 ⟨rfl, k2⟩
  go_wp2
  go_ret
  exact ⟨rfl, thenB Hb1.out k2⟩
set_option maxRecDepth 100000 in
set_option maxHeartbeats 1000000 in
theorem implAsk_memory (l s : Int) (A1 : Option Addr) (c1 : Nat) (x1 : List Int) (A2 : Option Addr) (c2 : Nat) (x2 : List Int) (A3 : Option Addr) (c3 : Nat) (x3 : List Int) (A4 : Option Addr) (c4 : Nat) (x4 : List Int) (A5 : Option Addr) (c5 : Nat) (x5 : List Int) (w : World) (hr1 : Rd w w.heap.size A1 x1) (hr2 : Rd w w.heap.size A2 x2) (hr3 : Rd w w.heap.size A3 x3) (hr4 : Rd w w.heap.size A4 x4) (hr5 : Rd w w.heap.size A5 x5) (hok : benchOk l s x1 x2 x3 x4 x5 = true) :
    Calls Tryz.prog 52 #[.agg #[.int .i64 l, .int .i64 s, .slice A1 x1.length c1, .slice A2 x2.length c2, .slice A3 x3.length c3, .slice A4 x4.length c4, .slice A5 x5.length c5], .string ⟨#[109, 101, 109, 111, 114, 121]⟩] w (RetStr w (fmtL x2)) := by
  obtain ⟨hm, hs3, hs4, hs5⟩ : memOk l s x1 x2 = true ∧ seqOk x3 = true ∧ seqOk x4 = true ∧ seqOk x5 = true := ok_parts (X := ⟨l, s, x1, x2, x3, x4, x5⟩) hok
  obtain ⟨h1, h2, h3⟩ := mem_parts hm
  have hb0 : Below w.heap.size w (w.alloc (.cells #[.int .i64 l, .int .i64 s, .slice A1 x1.length c1, .slice A2 x2.length c2, .slice A3 x3.length c3, .slice A4 x4.length c4, .slice A5 x5.length c5] 33)) := (Below.refl _ _).alloc (Nat.le_refl _) _
  have B0 := Blk.new w 33 #[.int .i64 l, .int .i64 s, .slice A1 x1.length c1, .slice A2 x2.length c2, .slice A3 x3.length c3, .slice A4 x4.length c4, .slice A5 x5.length c5]
  have Hb0 := Lib.hid hb0
  have R1 := Lib.hid (hr1.past hb0)
  have R2 := Lib.hid (hr2.past hb0)
  have R3 := Lib.hid (hr3.past hb0)
  have R4 := Lib.hid (hr4.past hb0)
  have R5 := Lib.hid (hr5.past hb0)
  have q0 := B0.cell 0; have q1 := B0.cell 1; have q2 := B0.cell 2; have q3 := B0.cell 3; have q4 := B0.cell 4; have q5 := B0.cell 5; have q6 := B0.cell 6; simp at q0 q1 q2 q3 q4 q5 q6
  have HF := Lib.hid (implFmt_ok A2 c2 x2 _ R2.out h3)
  clear hb0 hr1 hr2 hr3 hr4 hr5 B0 hm hs3 hs4 hs5 h1 h2 h3 hok
  go_enter Tryz.func52, Tryz.ntmps52
  go_wp2_with fail
  refine HF.out.mono ?_; rintro e w1 ⟨rfl, k1⟩
  go_wp2
  go_ret
  exact ⟨rfl, thenB Hb0.out k1⟩
set_option maxRecDepth 100000 in
set_option maxHeartbeats 1000000 in
theorem implAsk_output (l s : Int) (A1 : Option Addr) (c1 : Nat) (x1 : List Int) (A2 : Option Addr) (c2 : Nat) (x2 : List Int) (A3 : Option Addr) (c3 : Nat) (x3 : List Int) (A4 : Option Addr) (c4 : Nat) (x4 : List Int) (A5 : Option Addr) (c5 : Nat) (x5 : List Int) (w : World) (hr1 : Rd w w.heap.size A1 x1) (hr2 : Rd w w.heap.size A2 x2) (hr3 : Rd w w.heap.size A3 x3) (hr4 : Rd w w.heap.size A4 x4) (hr5 : Rd w w.heap.size A5 x5) (hok : benchOk l s x1 x2 x3 x4 x5 = true) :
    Calls Tryz.prog 52 #[.agg #[.int .i64 l, .int .i64 s, .slice A1 x1.length c1, .slice A2 x2.length c2, .slice A3 x3.length c3, .slice A4 x4.length c4, .slice A5 x5.length c5], .string ⟨#[111, 117, 116, 112, 117, 116]⟩] w (RetStr w (fmtL x4)) := by
  obtain ⟨hm, hs3, hs4, hs5⟩ : memOk l s x1 x2 = true ∧ seqOk x3 = true ∧ seqOk x4 = true ∧ seqOk x5 = true := ok_parts (X := ⟨l, s, x1, x2, x3, x4, x5⟩) hok
  obtain ⟨h1, h2, h3⟩ := mem_parts hm
  have hb0 : Below w.heap.size w (w.alloc (.cells #[.int .i64 l, .int .i64 s, .slice A1 x1.length c1, .slice A2 x2.length c2, .slice A3 x3.length c3, .slice A4 x4.length c4, .slice A5 x5.length c5] 33)) := (Below.refl _ _).alloc (Nat.le_refl _) _
  have B0 := Blk.new w 33 #[.int .i64 l, .int .i64 s, .slice A1 x1.length c1, .slice A2 x2.length c2, .slice A3 x3.length c3, .slice A4 x4.length c4, .slice A5 x5.length c5]
  have Hb0 := Lib.hid hb0
  have R1 := Lib.hid (hr1.past hb0)
  have R2 := Lib.hid (hr2.past hb0)
  have R3 := Lib.hid (hr3.past hb0)
  have R4 := Lib.hid (hr4.past hb0)
  have R5 := Lib.hid (hr5.past hb0)
  have q0 := B0.cell 0; have q1 := B0.cell 1; have q2 := B0.cell 2; have q3 := B0.cell 3; have q4 := B0.cell 4; have q5 := B0.cell 5; have q6 := B0.cell 6; simp at q0 q1 q2 q3 q4 q5 q6
  have HF := Lib.hid (implFmt_ok A4 c4 x4 _ R4.out hs4)
  clear hb0 hr1 hr2 hr3 hr4 hr5 B0 hm hs3 hs4 hs5 h1 h2 h3 hok
  go_enter Tryz.func52, Tryz.ntmps52
  go_wp2_with fail
  refine HF.out.mono ?_; rintro e w1 ⟨rfl, k1⟩
  go_wp2
  go_ret
  exact ⟨rfl, thenB Hb0.out k1⟩
set_option maxRecDepth 100000 in
set_option maxHeartbeats 1000000 in
theorem implAsk_errors (l s : Int) (A1 : Option Addr) (c1 : Nat) (x1 : List Int) (A2 : Option Addr) (c2 : Nat) (x2 : List Int) (A3 : Option Addr) (c3 : Nat) (x3 : List Int) (A4 : Option Addr) (c4 : Nat) (x4 : List Int) (A5 : Option Addr) (c5 : Nat) (x5 : List Int) (w : World) (hr1 : Rd w w.heap.size A1 x1) (hr2 : Rd w w.heap.size A2 x2) (hr3 : Rd w w.heap.size A3 x3) (hr4 : Rd w w.heap.size A4 x4) (hr5 : Rd w w.heap.size A5 x5) (hok : benchOk l s x1 x2 x3 x4 x5 = true) :
    Calls Tryz.prog 52 #[.agg #[.int .i64 l, .int .i64 s, .slice A1 x1.length c1, .slice A2 x2.length c2, .slice A3 x3.length c3, .slice A4 x4.length c4, .slice A5 x5.length c5], .string ⟨#[101, 114, 114, 111, 114, 115]⟩] w (RetStr w (fmtL x5)) := by
  obtain ⟨hm, hs3, hs4, hs5⟩ : memOk l s x1 x2 = true ∧ seqOk x3 = true ∧ seqOk x4 = true ∧ seqOk x5 = true := ok_parts (X := ⟨l, s, x1, x2, x3, x4, x5⟩) hok
  obtain ⟨h1, h2, h3⟩ := mem_parts hm
  have hb0 : Below w.heap.size w (w.alloc (.cells #[.int .i64 l, .int .i64 s, .slice A1 x1.length c1, .slice A2 x2.length c2, .slice A3 x3.length c3, .slice A4 x4.length c4, .slice A5 x5.length c5] 33)) := (Below.refl _ _).alloc (Nat.le_refl _) _
  have B0 := Blk.new w 33 #[.int .i64 l, .int .i64 s, .slice A1 x1.length c1, .slice A2 x2.length c2, .slice A3 x3.length c3, .slice A4 x4.length c4, .slice A5 x5.length c5]
  have Hb0 := Lib.hid hb0
  have R1 := Lib.hid (hr1.past hb0)
  have R2 := Lib.hid (hr2.past hb0)
  have R3 := Lib.hid (hr3.past hb0)
  have R4 := Lib.hid (hr4.past hb0)
  have R5 := Lib.hid (hr5.past hb0)
  have q0 := B0.cell 0; have q1 := B0.cell 1; have q2 := B0.cell 2; have q3 := B0.cell 3; have q4 := B0.cell 4; have q5 := B0.cell 5; have q6 := B0.cell 6; simp at q0 q1 q2 q3 q4 q5 q6
  have HF := Lib.hid (implFmt_ok A5 c5 x5 _ R5.out hs5)
  clear hb0 hr1 hr2 hr3 hr4 hr5 B0 hm hs3 hs4 hs5 h1 h2 h3 hok
  go_enter Tryz.func52, Tryz.ntmps52
  go_wp2_with fail
  refine HF.out.mono ?_; rintro e w1 ⟨rfl, k1⟩
  go_wp2
  go_ret
  exact ⟨rfl, thenB Hb0.out k1⟩
set_option maxRecDepth 100000 in
set_option maxHeartbeats 1000000 in
theorem implAsk_input (l s : Int) (A1 : Option Addr) (c1 : Nat) (x1 : List Int) (A2 : Option Addr) (c2 : Nat) (x2 : List Int) (A3 : Option Addr) (c3 : Nat) (x3 : List Int) (A4 : Option Addr) (c4 : Nat) (x4 : List Int) (A5 : Option Addr) (c5 : Nat) (x5 : List Int) (w : World) (hr1 : Rd w w.heap.size A1 x1) (hr2 : Rd w w.heap.size A2 x2) (hr3 : Rd w w.heap.size A3 x3) (hr4 : Rd w w.heap.size A4 x4) (hr5 : Rd w w.heap.size A5 x5) (hok : benchOk l s x1 x2 x3 x4 x5 = true) :
    Calls Tryz.prog 52 #[.agg #[.int .i64 l, .int .i64 s, .slice A1 x1.length c1, .slice A2 x2.length c2, .slice A3 x3.length c3, .slice A4 x4.length c4, .slice A5 x5.length c5], .string ⟨#[105, 110, 112, 117, 116]⟩] w (RetStr w (fmtL x3)) := by
  obtain ⟨hm, hs3, hs4, hs5⟩ : memOk l s x1 x2 = true ∧ seqOk x3 = true ∧ seqOk x4 = true ∧ seqOk x5 = true := ok_parts (X := ⟨l, s, x1, x2, x3, x4, x5⟩) hok
  obtain ⟨h1, h2, h3⟩ := mem_parts hm
  have hb0 : Below w.heap.size w (w.alloc (.cells #[.int .i64 l, .int .i64 s, .slice A1 x1.length c1, .slice A2 x2.length c2, .slice A3 x3.length c3, .slice A4 x4.length c4, .slice A5 x5.length c5] 33)) := (Below.refl _ _).alloc (Nat.le_refl _) _
  have B0 := Blk.new w 33 #[.int .i64 l, .int .i64 s, .slice A1 x1.length c1, .slice A2 x2.length c2, .slice A3 x3.length c3, .slice A4 x4.length c4, .slice A5 x5.length c5]
  have Hb0 := Lib.hid hb0
  have R1 := Lib.hid (hr1.past hb0)
  have R2 := Lib.hid (hr2.past hb0)
  have R3 := Lib.hid (hr3.past hb0)
  have R4 := Lib.hid (hr4.past hb0)
  have R5 := Lib.hid (hr5.past hb0)
  have q0 := B0.cell 0; have q1 := B0.cell 1; have q2 := B0.cell 2; have q3 := B0.cell 3; have q4 := B0.cell 4; have q5 := B0.cell 5; have q6 := B0.cell 6; simp at q0 q1 q2 q3 q4 q5 q6
  have HF := Lib.hid (implFmt_ok A3 c3 x3 _ R3.out hs3)
  clear hb0 hr1 hr2 hr3 hr4 hr5 B0 hm hs3 hs4 hs5 h1 h2 h3 hok
  go_enter Tryz.func52, Tryz.ntmps52
  go_wp2_with fail
  refine HF.out.mono ?_; rintro e w1 ⟨rfl, k1⟩
  go_wp2
  go_ret
  exact ⟨rfl, thenB Hb0.out k1⟩
set_option maxRecDepth 100000 in
set_option maxHeartbeats 1000000 in
theorem implAsk_safe (l s : Int) (A1 : Option Addr) (c1 : Nat) (x1 : List Int) (A2 : Option Addr) (c2 : Nat) (x2 : List Int) (A3 : Option Addr) (c3 : Nat) (x3 : List Int) (A4 : Option Addr) (c4 : Nat) (x4 : List Int) (A5 : Option Addr) (c5 : Nat) (x5 : List Int) (w : World) (hr1 : Rd w w.heap.size A1 x1) (hr2 : Rd w w.heap.size A2 x2) (hr3 : Rd w w.heap.size A3 x3) (hr4 : Rd w w.heap.size A4 x4) (hr5 : Rd w w.heap.size A5 x5) (hok : benchOk l s x1 x2 x3 x4 x5 = true) :
    Calls Tryz.prog 52 #[.agg #[.int .i64 l, .int .i64 s, .slice A1 x1.length c1, .slice A2 x2.length c2, .slice A3 x3.length c3, .slice A4 x4.length c4, .slice A5 x5.length c5], .string ⟨#[115, 97, 102, 101]⟩] w (RetStr w (decI (safeW l s x1))) := by
  obtain ⟨hm, hs3, hs4, hs5⟩ : memOk l s x1 x2 = true ∧ seqOk x3 = true ∧ seqOk x4 = true ∧ seqOk x5 = true := ok_parts (X := ⟨l, s, x1, x2, x3, x4, x5⟩) hok
  obtain ⟨h1, h2, h3⟩ := mem_parts hm
  have hb0 : Below w.heap.size w (w.alloc (.cells #[.int .i64 l, .int .i64 s, .slice A1 x1.length c1, .slice A2 x2.length c2, .slice A3 x3.length c3, .slice A4 x4.length c4, .slice A5 x5.length c5] 33)) := (Below.refl _ _).alloc (Nat.le_refl _) _
  have B0 := Blk.new w 33 #[.int .i64 l, .int .i64 s, .slice A1 x1.length c1, .slice A2 x2.length c2, .slice A3 x3.length c3, .slice A4 x4.length c4, .slice A5 x5.length c5]
  have Hb0 := Lib.hid hb0
  have R1 := Lib.hid (hr1.past hb0)
  have R2 := Lib.hid (hr2.past hb0)
  have R3 := Lib.hid (hr3.past hb0)
  have R4 := Lib.hid (hr4.past hb0)
  have R5 := Lib.hid (hr5.past hb0)
  have q0 := B0.cell 0; have q1 := B0.cell 1; have q2 := B0.cell 2; have q3 := B0.cell 3; have q4 := B0.cell 4; have q5 := B0.cell 5; have q6 := B0.cell 6; simp at q0 q1 q2 q3 q4 q5 q6
  have bd := safe_bd h1
  have HC := Lib.hid (fun W h => implSafe_yes l s A1 c1 x1 W h h1)
  obtain ⟨Y, hY⟩ : ∃ Y, Y = safeW l s x1 := ⟨_, rfl⟩
  rw [← hY] at bd HC ⊢
  clear hb0 hr1 hr2 hr3 hr4 hr5 B0 hm hs3 hs4 hs5 h1 h2 h3 hok hY
  go_enter Tryz.func52, Tryz.ntmps52
  go_wp2_with fail
  refine (HC.out _ R1.out).mono ?_; rintro e w1 ⟨rfl, k1⟩
  have Hb1 := Lib.hid (thenB Hb0.out k1)
  clear k1 q0 q1 q2 q3 q4 q5 q6
  go_wp2_with fail
  refine (number_yes Y _ (by omega) (by omega)).mono ?_; rintro e w2 ⟨rfl, k2⟩
  go_wp2
  go_ret
  exact ⟨rfl, thenB Hb1.out k2⟩
set_option maxRecDepth 100000 in
set_option maxHeartbeats 1000000 in
theorem implAsk_sum (l s : Int) (A1 : Option Addr) (c1 : Nat) (x1 : List Int) (A2 : Option Addr) (c2 : Nat) (x2 : List Int) (A3 : Option Addr) (c3 : Nat) (x3 : List Int) (A4 : Option Addr) (c4 : Nat) (x4 : List Int) (A5 : Option Addr) (c5 : Nat) (x5 : List Int) (w : World) (hr1 : Rd w w.heap.size A1 x1) (hr2 : Rd w w.heap.size A2 x2) (hr3 : Rd w w.heap.size A3 x3) (hr4 : Rd w w.heap.size A4 x4) (hr5 : Rd w w.heap.size A5 x5) (hok : benchOk l s x1 x2 x3 x4 x5 = true) :
    Calls Tryz.prog 52 #[.agg #[.int .i64 l, .int .i64 s, .slice A1 x1.length c1, .slice A2 x2.length c2, .slice A3 x3.length c3, .slice A4 x4.length c4, .slice A5 x5.length c5], .string ⟨#[115, 117, 109]⟩] w (RetStr w (decI (seqSum x4))) := by
  obtain ⟨hm, hs3, hs4, hs5⟩ : memOk l s x1 x2 = true ∧ seqOk x3 = true ∧ seqOk x4 = true ∧ seqOk x5 = true := ok_parts (X := ⟨l, s, x1, x2, x3, x4, x5⟩) hok
  obtain ⟨h1, h2, h3⟩ := mem_parts hm
  have hb0 : Below w.heap.size w (w.alloc (.cells #[.int .i64 l, .int .i64 s, .slice A1 x1.length c1, .slice A2 x2.length c2, .slice A3 x3.length c3, .slice A4 x4.length c4, .slice A5 x5.length c5] 33)) := (Below.refl _ _).alloc (Nat.le_refl _) _
  have B0 := Blk.new w 33 #[.int .i64 l, .int .i64 s, .slice A1 x1.length c1, .slice A2 x2.length c2, .slice A3 x3.length c3, .slice A4 x4.length c4, .slice A5 x5.length c5]
  have Hb0 := Lib.hid hb0
  have R1 := Lib.hid (hr1.past hb0)
  have R2 := Lib.hid (hr2.past hb0)
  have R3 := Lib.hid (hr3.past hb0)
  have R4 := Lib.hid (hr4.past hb0)
  have R5 := Lib.hid (hr5.past hb0)
  have q0 := B0.cell 0; have q1 := B0.cell 1; have q2 := B0.cell 2; have q3 := B0.cell 3; have q4 := B0.cell 4; have q5 := B0.cell 5; have q6 := B0.cell 6; simp at q0 q1 q2 q3 q4 q5 q6
  have bd := seqSum_bd hs4
  have HC := Lib.hid (fun W h => implSumOf_any A4 c4 x4 W h (by have := seqOk_len hs4; omega))
  obtain ⟨Y, hY⟩ : ∃ Y, Y = seqSum x4 := ⟨_, rfl⟩
  rw [← hY] at bd HC ⊢
  clear hb0 hr1 hr2 hr3 hr4 hr5 B0 hm hs3 hs4 hs5 h1 h2 h3 hok hY
  go_enter Tryz.func52, Tryz.ntmps52
  go_wp2_with fail
  refine (HC.out _ R4.out).mono ?_; rintro e w1 ⟨rfl, rfl⟩
  clear q0 q1 q2 q3 q4 q5 q6
  go_wp2_with fail
  refine (number_yes Y _ (by omega) (by omega)).mono ?_; rintro e w2 ⟨rfl, k2⟩
  go_wp2
  go_ret
  exact ⟨rfl, thenB Hb0.out k2⟩
set_option maxRecDepth 100000 in
set_option maxHeartbeats 1000000 in
theorem implAsk_power (l s : Int) (A1 : Option Addr) (c1 : Nat) (x1 : List Int) (A2 : Option Addr) (c2 : Nat) (x2 : List Int) (A3 : Option Addr) (c3 : Nat) (x3 : List Int) (A4 : Option Addr) (c4 : Nat) (x4 : List Int) (A5 : Option Addr) (c5 : Nat) (x5 : List Int) (w : World) (hr1 : Rd w w.heap.size A1 x1) (hr2 : Rd w w.heap.size A2 x2) (hr3 : Rd w w.heap.size A3 x3) (hr4 : Rd w w.heap.size A4 x4) (hr5 : Rd w w.heap.size A5 x5) (hok : benchOk l s x1 x2 x3 x4 x5 = true) :
    Calls Tryz.prog 52 #[.agg #[.int .i64 l, .int .i64 s, .slice A1 x1.length c1, .slice A2 x2.length c2, .slice A3 x3.length c3, .slice A4 x4.length c4, .slice A5 x5.length c5], .string ⟨#[112, 111, 119, 101, 114]⟩] w (RetStr w (if (power x5).2 then decI (power x5).1 else noT)) := by
  obtain ⟨hm, hs3, hs4, hs5⟩ : memOk l s x1 x2 = true ∧ seqOk x3 = true ∧ seqOk x4 = true ∧ seqOk x5 = true := ok_parts (X := ⟨l, s, x1, x2, x3, x4, x5⟩) hok
  obtain ⟨h1, h2, h3⟩ := mem_parts hm
  have hb0 : Below w.heap.size w (w.alloc (.cells #[.int .i64 l, .int .i64 s, .slice A1 x1.length c1, .slice A2 x2.length c2, .slice A3 x3.length c3, .slice A4 x4.length c4, .slice A5 x5.length c5] 33)) := (Below.refl _ _).alloc (Nat.le_refl _) _
  have B0 := Blk.new w 33 #[.int .i64 l, .int .i64 s, .slice A1 x1.length c1, .slice A2 x2.length c2, .slice A3 x3.length c3, .slice A4 x4.length c4, .slice A5 x5.length c5]
  have Hb0 := Lib.hid hb0
  have R1 := Lib.hid (hr1.past hb0)
  have R2 := Lib.hid (hr2.past hb0)
  have R3 := Lib.hid (hr3.past hb0)
  have R4 := Lib.hid (hr4.past hb0)
  have R5 := Lib.hid (hr5.past hb0)
  have q0 := B0.cell 0; have q1 := B0.cell 1; have q2 := B0.cell 2; have q3 := B0.cell 3; have q4 := B0.cell 4; have q5 := B0.cell 5; have q6 := B0.cell 6; simp at q0 q1 q2 q3 q4 q5 q6
  have bd := power_bd x5
  have HC := Lib.hid (fun W h => implPowerOf_any A5 c5 x5 W h (by have := seqOk_len hs5; omega))
  obtain ⟨Y, hY⟩ : ∃ Y, Y = power x5 := ⟨_, rfl⟩
  rw [← hY] at bd HC ⊢
  obtain ⟨Y1, Y2⟩ := Y
  obtain ⟨T, hT⟩ : ∃ T : List UInt8, T = (if (Y1, Y2).2 then decI (Y1, Y2).1 else noT) := ⟨_, rfl⟩
  rw [← hT]
  have HT := Lib.hid hT
  clear hT
  clear hb0 hr1 hr2 hr3 hr4 hr5 B0 hm hs3 hs4 hs5 h1 h2 h3 hok hY
  go_enter Tryz.func52, Tryz.ntmps52
  go_wp2_with fail
  refine (HC.out _ R5.out).mono ?_; rintro e w1 ⟨rfl, k1⟩
  have Hb1 := Lib.hid (thenB Hb0.out k1)
  clear k1 q0 q1 q2 q3 q4 q5 q6 HC
  cases Y2
  · go_wp2_with fail
    refine (number_no Y1 _).mono ?_; rintro e w2 ⟨rfl, k2⟩
    go_wp2
    go_ret
    rw [HT.out]
    exact ⟨rfl, thenB Hb1.out k2⟩
  · go_wp2_with fail
    refine (number_yes Y1 _ (by have : 0 ≤ Y1 := bd.1; omega) (by have : Y1 ≤ 100000000000000000 := bd.2; omega)).mono ?_; rintro e w2 ⟨rfl, k2⟩
    go_wp2
    go_ret
    rw [HT.out]
    exact ⟨rfl, thenB Hb1.out k2⟩
set_option maxRecDepth 100000 in
set_option maxHeartbeats 1000000 in
theorem implAsk_bits (l s : Int) (A1 : Option Addr) (c1 : Nat) (x1 : List Int) (A2 : Option Addr) (c2 : Nat) (x2 : List Int) (A3 : Option Addr) (c3 : Nat) (x3 : List Int) (A4 : Option Addr) (c4 : Nat) (x4 : List Int) (A5 : Option Addr) (c5 : Nat) (x5 : List Int) (w : World) (hr1 : Rd w w.heap.size A1 x1) (hr2 : Rd w w.heap.size A2 x2) (hr3 : Rd w w.heap.size A3 x3) (hr4 : Rd w w.heap.size A4 x4) (hr5 : Rd w w.heap.size A5 x5) (hok : benchOk l s x1 x2 x3 x4 x5 = true) :
    Calls Tryz.prog 52 #[.agg #[.int .i64 l, .int .i64 s, .slice A1 x1.length c1, .slice A2 x2.length c2, .slice A3 x3.length c3, .slice A4 x4.length c4, .slice A5 x5.length c5], .string ⟨#[98, 105, 116, 115]⟩] w (RetStr w (if (bitsW l s x4).2 then fmtL (bitsW l s x4).1 else noT)) := by
  obtain ⟨hm, hs3, hs4, hs5⟩ : memOk l s x1 x2 = true ∧ seqOk x3 = true ∧ seqOk x4 = true ∧ seqOk x5 = true := ok_parts (X := ⟨l, s, x1, x2, x3, x4, x5⟩) hok
  obtain ⟨h1, h2, h3⟩ := mem_parts hm
  have hb0 : Below w.heap.size w (w.alloc (.cells #[.int .i64 l, .int .i64 s, .slice A1 x1.length c1, .slice A2 x2.length c2, .slice A3 x3.length c3, .slice A4 x4.length c4, .slice A5 x5.length c5] 33)) := (Below.refl _ _).alloc (Nat.le_refl _) _
  have B0 := Blk.new w 33 #[.int .i64 l, .int .i64 s, .slice A1 x1.length c1, .slice A2 x2.length c2, .slice A3 x3.length c3, .slice A4 x4.length c4, .slice A5 x5.length c5]
  have Hb0 := Lib.hid hb0
  have R1 := Lib.hid (hr1.past hb0)
  have R2 := Lib.hid (hr2.past hb0)
  have R3 := Lib.hid (hr3.past hb0)
  have R4 := Lib.hid (hr4.past hb0)
  have R5 := Lib.hid (hr5.past hb0)
  have q0 := B0.cell 0; have q1 := B0.cell 1; have q2 := B0.cell 2; have q3 := B0.cell 3; have q4 := B0.cell 4; have q5 := B0.cell 5; have q6 := B0.cell 6; simp at q0 q1 q2 q3 q4 q5 q6
  have bd := bitsW_seq (mod_parts h1).2.1 hs4
  have HC := Lib.hid (fun W h => implBits_any l s A4 c4 x4 W h (mod_parts h1).2.1 hs4)
  obtain ⟨Y, hY⟩ : ∃ Y, Y = bitsW l s x4 := ⟨_, rfl⟩
  rw [← hY] at bd HC ⊢
  obtain ⟨Y1, Y2⟩ := Y
  obtain ⟨T, hT⟩ : ∃ T : List UInt8, T = (if (Y1, Y2).2 then fmtL (Y1, Y2).1 else noT) := ⟨_, rfl⟩
  rw [← hT]
  have HT := Lib.hid hT
  clear hT
  have HS : Hid (seqOk Y1 = true) := bd.1
  clear hb0 hr1 hr2 hr3 hr4 hr5 B0 hm hs3 hs4 hs5 h1 h2 h3 hok hY bd
  go_enter Tryz.func52, Tryz.ntmps52
  go_wp2_with fail
  refine (HC.out _ R4.out).mono ?_; rintro e w1 ⟨Aq, cq, rfl, Oq, k1⟩
  have Hb1 := Lib.hid (thenB Hb0.out k1)
  have HF := Lib.hid (implFmt_ok Aq cq Y1 w1 (own_rd Oq) HS.out)
  clear k1 Oq q0 q1 q2 q3 q4 q5 q6 HC
  cases Y2
  · go_wp2
    go_ret
    rw [HT.out]
    exact ⟨rfl, Hb1.out⟩
  · go_wp2_with fail
    refine HF.out.mono ?_; rintro e w2 ⟨rfl, k2⟩
    go_wp2
    go_ret
    rw [HT.out]
    exact ⟨rfl, thenB Hb1.out k2⟩
set_option maxRecDepth 100000 in
set_option maxHeartbeats 1000000 in
theorem implAsk_none (l s : Int) (A1 : Option Addr) (c1 : Nat) (x1 : List Int) (A2 : Option Addr) (c2 : Nat) (x2 : List Int) (A3 : Option Addr) (c3 : Nat) (x3 : List Int) (A4 : Option Addr) (c4 : Nat) (x4 : List Int) (A5 : Option Addr) (c5 : Nat) (x5 : List Int) (w : World) (hr1 : Rd w w.heap.size A1 x1) (hr2 : Rd w w.heap.size A2 x2) (hr3 : Rd w w.heap.size A3 x3) (hr4 : Rd w w.heap.size A4 x4) (hr5 : Rd w w.heap.size A5 x5) (ln : ByteArray) (hl : ln.data.toList ∉ askWords) :
    Calls Tryz.prog 52 #[.agg #[.int .i64 l, .int .i64 s, .slice A1 x1.length c1, .slice A2 x2.length c2, .slice A3 x3.length c3, .slice A4 x4.length c4, .slice A5 x5.length c5], .string ln] w (RetStr w noT) := by
  have hb0 : Below w.heap.size w (w.alloc (.cells #[.int .i64 l, .int .i64 s, .slice A1 x1.length c1, .slice A2 x2.length c2, .slice A3 x3.length c3, .slice A4 x4.length c4, .slice A5 x5.length c5] 33)) := (Below.refl _ _).alloc (Nat.le_refl _) _
  simp only [askWords, List.mem_cons, not_or, List.not_mem_nil, not_false_eq_true, and_true] at hl
  obtain ⟨u0, u1, u2, u3, u4, u5, u6, u7, u8⟩ := hl
  have t0 := str_ne ln [115, 104, 97, 112, 101] u0
  have t1 := str_ne ln [109, 101, 109, 111, 114, 121] u1
  have t2 := str_ne ln [111, 117, 116, 112, 117, 116] u2
  have t3 := str_ne ln [101, 114, 114, 111, 114, 115] u3
  have t4 := str_ne ln [105, 110, 112, 117, 116] u4
  have t5 := str_ne ln [115, 97, 102, 101] u5
  have t6 := str_ne ln [115, 117, 109] u6
  have t7 := str_ne ln [112, 111, 119, 101, 114] u7
  have t8 := str_ne ln [98, 105, 116, 115] u8
  have Hb0 := Lib.hid hb0
  clear hb0 hr1 hr2 hr3 hr4 hr5 u0 u1 u2 u3 u4 u5 u6 u7 u8
  go_enter Tryz.func52, Tryz.ntmps52
  go_wp2
  go_ret
  exact ⟨rfl, Hb0.out⟩
theorem implAsk_any (l s : Int) (A1 : Option Addr) (c1 : Nat) (x1 : List Int) (A2 : Option Addr) (c2 : Nat) (x2 : List Int) (A3 : Option Addr) (c3 : Nat) (x3 : List Int) (A4 : Option Addr) (c4 : Nat) (x4 : List Int) (A5 : Option Addr) (c5 : Nat) (x5 : List Int) (w : World) (hr1 : Rd w w.heap.size A1 x1) (hr2 : Rd w w.heap.size A2 x2) (hr3 : Rd w w.heap.size A3 x3) (hr4 : Rd w w.heap.size A4 x4) (hr5 : Rd w w.heap.size A5 x5) (hok : benchOk l s x1 x2 x3 x4 x5 = true) (ln : ByteArray) :
    Calls Tryz.prog 52 #[.agg #[.int .i64 l, .int .i64 s, .slice A1 x1.length c1, .slice A2 x2.length c2, .slice A3 x3.length c3, .slice A4 x4.length c4, .slice A5 x5.length c5], .string ln] w (RetStr w ((askT ⟨l, s, x1, x2, x3, x4, x5⟩ ln.data.toList).getD noT)) := by
  by_cases u0 : ln.data.toList = tShape
  · have e : ln = ⟨#[115, 104, 97, 112, 101]⟩ := by rw [← bs_list ln, u0]; rfl
    subst e
    have ea : askT ⟨l, s, x1, x2, x3, x4, x5⟩ tShape = some (fmtL (1 :: x1)) := by unfold askT; rw [if_pos rfl]
    rw [u0, ea]
    exact implAsk_shape l s A1 c1 x1 A2 c2 x2 A3 c3 x3 A4 c4 x4 A5 c5 x5 w hr1 hr2 hr3 hr4 hr5 hok
  by_cases u1 : ln.data.toList = tMemory
  · have e : ln = ⟨#[109, 101, 109, 111, 114, 121]⟩ := by rw [← bs_list ln, u1]; rfl
    subst e
    have ea : askT ⟨l, s, x1, x2, x3, x4, x5⟩ tMemory = some (fmtL x2) := by unfold askT; rw [if_neg (by decide), if_pos rfl]
    rw [u1, ea]
    exact implAsk_memory l s A1 c1 x1 A2 c2 x2 A3 c3 x3 A4 c4 x4 A5 c5 x5 w hr1 hr2 hr3 hr4 hr5 hok
  by_cases u2 : ln.data.toList = tOutput
  · have e : ln = ⟨#[111, 117, 116, 112, 117, 116]⟩ := by rw [← bs_list ln, u2]; rfl
    subst e
    have ea : askT ⟨l, s, x1, x2, x3, x4, x5⟩ tOutput = some (fmtL x4) := by unfold askT; rw [if_neg (by decide), if_neg (by decide), if_pos rfl]
    rw [u2, ea]
    exact implAsk_output l s A1 c1 x1 A2 c2 x2 A3 c3 x3 A4 c4 x4 A5 c5 x5 w hr1 hr2 hr3 hr4 hr5 hok
  by_cases u3 : ln.data.toList = tErrors
  · have e : ln = ⟨#[101, 114, 114, 111, 114, 115]⟩ := by rw [← bs_list ln, u3]; rfl
    subst e
    have ea : askT ⟨l, s, x1, x2, x3, x4, x5⟩ tErrors = some (fmtL x5) := by unfold askT; rw [if_neg (by decide), if_neg (by decide), if_neg (by decide), if_pos rfl]
    rw [u3, ea]
    exact implAsk_errors l s A1 c1 x1 A2 c2 x2 A3 c3 x3 A4 c4 x4 A5 c5 x5 w hr1 hr2 hr3 hr4 hr5 hok
  by_cases u4 : ln.data.toList = tInput
  · have e : ln = ⟨#[105, 110, 112, 117, 116]⟩ := by rw [← bs_list ln, u4]; rfl
    subst e
    have ea : askT ⟨l, s, x1, x2, x3, x4, x5⟩ tInput = some (fmtL x3) := by unfold askT; rw [if_neg (by decide), if_neg (by decide), if_neg (by decide), if_neg (by decide), if_pos rfl]
    rw [u4, ea]
    exact implAsk_input l s A1 c1 x1 A2 c2 x2 A3 c3 x3 A4 c4 x4 A5 c5 x5 w hr1 hr2 hr3 hr4 hr5 hok
  by_cases u5 : ln.data.toList = tSafe
  · have e : ln = ⟨#[115, 97, 102, 101]⟩ := by rw [← bs_list ln, u5]; rfl
    subst e
    have ea : askT ⟨l, s, x1, x2, x3, x4, x5⟩ tSafe = some (decI (safeW l s x1)) := by unfold askT; rw [if_neg (by decide), if_neg (by decide), if_neg (by decide), if_neg (by decide), if_neg (by decide), if_pos rfl]
    rw [u5, ea]
    exact implAsk_safe l s A1 c1 x1 A2 c2 x2 A3 c3 x3 A4 c4 x4 A5 c5 x5 w hr1 hr2 hr3 hr4 hr5 hok
  by_cases u6 : ln.data.toList = tSum
  · have e : ln = ⟨#[115, 117, 109]⟩ := by rw [← bs_list ln, u6]; rfl
    subst e
    have ea : askT ⟨l, s, x1, x2, x3, x4, x5⟩ tSum = some (decI (seqSum x4)) := by unfold askT; rw [if_neg (by decide), if_neg (by decide), if_neg (by decide), if_neg (by decide), if_neg (by decide), if_neg (by decide), if_pos rfl]
    rw [u6, ea]
    exact implAsk_sum l s A1 c1 x1 A2 c2 x2 A3 c3 x3 A4 c4 x4 A5 c5 x5 w hr1 hr2 hr3 hr4 hr5 hok
  by_cases u7 : ln.data.toList = tPower
  · have e : ln = ⟨#[112, 111, 119, 101, 114]⟩ := by rw [← bs_list ln, u7]; rfl
    subst e
    have ea : askT ⟨l, s, x1, x2, x3, x4, x5⟩ tPower = if (power x5).2 then some (decI (power x5).1) else none := by unfold askT; rw [if_neg (by decide), if_neg (by decide), if_neg (by decide), if_neg (by decide), if_neg (by decide), if_neg (by decide), if_neg (by decide), if_pos rfl]
    rw [u7, ea]
    have := implAsk_power l s A1 c1 x1 A2 c2 x2 A3 c3 x3 A4 c4 x4 A5 c5 x5 w hr1 hr2 hr3 hr4 hr5 hok
    split
    · rw [if_pos ‹_›] at this; exact this
    · rw [if_neg ‹_›] at this; exact this
  by_cases u8 : ln.data.toList = tBits
  · have e : ln = ⟨#[98, 105, 116, 115]⟩ := by rw [← bs_list ln, u8]; rfl
    subst e
    have ea : askT ⟨l, s, x1, x2, x3, x4, x5⟩ tBits = if (bitsW l s x4).2 then some (fmtL (bitsW l s x4).1) else none := by unfold askT; rw [if_neg (by decide), if_neg (by decide), if_neg (by decide), if_neg (by decide), if_neg (by decide), if_neg (by decide), if_neg (by decide), if_neg (by decide), if_pos rfl]
    rw [u8, ea]
    have := implAsk_bits l s A1 c1 x1 A2 c2 x2 A3 c3 x3 A4 c4 x4 A5 c5 x5 w hr1 hr2 hr3 hr4 hr5 hok
    split
    · rw [if_pos ‹_›] at this; exact this
    · rw [if_neg ‹_›] at this; exact this
  have hl : ln.data.toList ∉ askWords := by
    simp only [askWords, List.mem_cons, not_or, List.not_mem_nil, not_false_eq_true, and_true]
    exact ⟨u0, u1, u2, u3, u4, u5, u6, u7, u8⟩
  rw [ask_word hl]
  exact implAsk_none l s A1 c1 x1 A2 c2 x2 A3 c3 x3 A4 c4 x4 A5 c5 x5 w hr1 hr2 hr3 hr4 hr5 ln hl
set_option maxRecDepth 100000 in
set_option maxHeartbeats 1000000 in
theorem specAsk_shape (l s : Int) (A1 : Option Addr) (c1 : Nat) (x1 : List Int) (A2 : Option Addr) (c2 : Nat) (x2 : List Int) (A3 : Option Addr) (c3 : Nat) (x3 : List Int) (A4 : Option Addr) (c4 : Nat) (x4 : List Int) (A5 : Option Addr) (c5 : Nat) (x5 : List Int) (w : World) (hr1 : Rd w w.heap.size A1 x1) (hr2 : Rd w w.heap.size A2 x2) (hr3 : Rd w w.heap.size A3 x3) (hr4 : Rd w w.heap.size A4 x4) (hr5 : Rd w w.heap.size A5 x5) (hc1 : x1.length ≤ c1 ∧ c1 ≤ maxLen) (hc2 : x2.length ≤ c2 ∧ c2 ≤ maxLen) (hc3 : x3.length ≤ c3 ∧ c3 ≤ maxLen) (hc4 : x4.length ≤ c4 ∧ c4 ≤ maxLen) (hc5 : x5.length ≤ c5 ∧ c5 ≤ maxLen) (hok : benchOk l s x1 x2 x3 x4 x5 = true) :
    Calls Tryz.prog 74 #[.agg #[.int .i64 l, .int .i64 s, .slice A1 x1.length c1, .slice A2 x2.length c2, .slice A3 x3.length c3, .slice A4 x4.length c4, .slice A5 x5.length c5], .string ⟨#[115, 104, 97, 112, 101]⟩] w (RetStr w (fmtL (1 :: x1))) := by
  obtain ⟨hm, hs3, hs4, hs5⟩ : memOk l s x1 x2 = true ∧ seqOk x3 = true ∧ seqOk x4 = true ∧ seqOk x5 = true := ok_parts (X := ⟨l, s, x1, x2, x3, x4, x5⟩) hok
  obtain ⟨h1, h2, h3⟩ := mem_parts hm
  have hb0 : Below w.heap.size w (w.alloc (.cells #[.int .i64 l, .int .i64 s, .slice A1 x1.length c1, .slice A2 x2.length c2, .slice A3 x3.length c3, .slice A4 x4.length c4, .slice A5 x5.length c5] 33)) := (Below.refl _ _).alloc (Nat.le_refl _) _
  have B0 := Blk.new w 33 #[.int .i64 l, .int .i64 s, .slice A1 x1.length c1, .slice A2 x2.length c2, .slice A3 x3.length c3, .slice A4 x4.length c4, .slice A5 x5.length c5]
  have Hb0 := Lib.hid hb0
  have R1 := Lib.hid (hr1.past hb0)
  have R2 := Lib.hid (hr2.past hb0)
  have R3 := Lib.hid (hr3.past hb0)
  have R4 := Lib.hid (hr4.past hb0)
  have R5 := Lib.hid (hr5.past hb0)
  have q0 := B0.cell 0; have q1 := B0.cell 1; have q2 := B0.cell 2; have q3 := B0.cell 3; have q4 := B0.cell 4; have q5 := B0.cell 5; have q6 := B0.cell 6; simp at q0 q1 q2 q3 q4 q5 q6
  have HC := Lib.hid (fun W h => specShape_yes l s A1 c1 x1 W h h1)
  have HS := Lib.hid (shape_ok h1)
  clear hb0 hr1 hr2 hr3 hr4 hr5 B0 hm hs3 hs4 hs5 h1 h2 h3 hok
  go_enter Tryz.func74, Tryz.ntmps74
  go_wp2_with fail
  refine (HC.out _ R1.out).mono ?_; rintro e w1 ⟨Aq, cq, rfl, Oq, k1⟩
  have HF := Lib.hid (l7Text_ok Aq cq (1 :: x1) w1 (own_rd Oq) HS.out (own_cap Oq))
  have Hb1 := Lib.hid (thenB Hb0.out k1)
  clear k1 Oq q0 q1 q2 q3 q4 q5 q6
  go_wp2_with fail
  refine HF.out.mono ?_; rintro e w2 ⟨rfl, k2⟩
  go_wp2
  go_ret
  exact ⟨rfl, thenB Hb1.out k2⟩
set_option maxRecDepth 100000 in
set_option maxHeartbeats 1000000 in
theorem specAsk_memory (l s : Int) (A1 : Option Addr) (c1 : Nat) (x1 : List Int) (A2 : Option Addr) (c2 : Nat) (x2 : List Int) (A3 : Option Addr) (c3 : Nat) (x3 : List Int) (A4 : Option Addr) (c4 : Nat) (x4 : List Int) (A5 : Option Addr) (c5 : Nat) (x5 : List Int) (w : World) (hr1 : Rd w w.heap.size A1 x1) (hr2 : Rd w w.heap.size A2 x2) (hr3 : Rd w w.heap.size A3 x3) (hr4 : Rd w w.heap.size A4 x4) (hr5 : Rd w w.heap.size A5 x5) (hc1 : x1.length ≤ c1 ∧ c1 ≤ maxLen) (hc2 : x2.length ≤ c2 ∧ c2 ≤ maxLen) (hc3 : x3.length ≤ c3 ∧ c3 ≤ maxLen) (hc4 : x4.length ≤ c4 ∧ c4 ≤ maxLen) (hc5 : x5.length ≤ c5 ∧ c5 ≤ maxLen) (hok : benchOk l s x1 x2 x3 x4 x5 = true) :
    Calls Tryz.prog 74 #[.agg #[.int .i64 l, .int .i64 s, .slice A1 x1.length c1, .slice A2 x2.length c2, .slice A3 x3.length c3, .slice A4 x4.length c4, .slice A5 x5.length c5], .string ⟨#[109, 101, 109, 111, 114, 121]⟩] w (RetStr w (fmtL x2)) := by
  obtain ⟨hm, hs3, hs4, hs5⟩ : memOk l s x1 x2 = true ∧ seqOk x3 = true ∧ seqOk x4 = true ∧ seqOk x5 = true := ok_parts (X := ⟨l, s, x1, x2, x3, x4, x5⟩) hok
  obtain ⟨h1, h2, h3⟩ := mem_parts hm
  have hb0 : Below w.heap.size w (w.alloc (.cells #[.int .i64 l, .int .i64 s, .slice A1 x1.length c1, .slice A2 x2.length c2, .slice A3 x3.length c3, .slice A4 x4.length c4, .slice A5 x5.length c5] 33)) := (Below.refl _ _).alloc (Nat.le_refl _) _
  have B0 := Blk.new w 33 #[.int .i64 l, .int .i64 s, .slice A1 x1.length c1, .slice A2 x2.length c2, .slice A3 x3.length c3, .slice A4 x4.length c4, .slice A5 x5.length c5]
  have Hb0 := Lib.hid hb0
  have R1 := Lib.hid (hr1.past hb0)
  have R2 := Lib.hid (hr2.past hb0)
  have R3 := Lib.hid (hr3.past hb0)
  have R4 := Lib.hid (hr4.past hb0)
  have R5 := Lib.hid (hr5.past hb0)
  have q0 := B0.cell 0; have q1 := B0.cell 1; have q2 := B0.cell 2; have q3 := B0.cell 3; have q4 := B0.cell 4; have q5 := B0.cell 5; have q6 := B0.cell 6; simp at q0 q1 q2 q3 q4 q5 q6
  have HF := Lib.hid (l7Text_ok A2 c2 x2 _ R2.out h3 hc2)
  clear hb0 hr1 hr2 hr3 hr4 hr5 B0 hm hs3 hs4 hs5 h1 h2 h3 hok
  go_enter Tryz.func74, Tryz.ntmps74
  go_wp2_with fail
  refine HF.out.mono ?_; rintro e w1 ⟨rfl, k1⟩
  go_wp2
  go_ret
  exact ⟨rfl, thenB Hb0.out k1⟩
set_option maxRecDepth 100000 in
set_option maxHeartbeats 1000000 in
theorem specAsk_output (l s : Int) (A1 : Option Addr) (c1 : Nat) (x1 : List Int) (A2 : Option Addr) (c2 : Nat) (x2 : List Int) (A3 : Option Addr) (c3 : Nat) (x3 : List Int) (A4 : Option Addr) (c4 : Nat) (x4 : List Int) (A5 : Option Addr) (c5 : Nat) (x5 : List Int) (w : World) (hr1 : Rd w w.heap.size A1 x1) (hr2 : Rd w w.heap.size A2 x2) (hr3 : Rd w w.heap.size A3 x3) (hr4 : Rd w w.heap.size A4 x4) (hr5 : Rd w w.heap.size A5 x5) (hc1 : x1.length ≤ c1 ∧ c1 ≤ maxLen) (hc2 : x2.length ≤ c2 ∧ c2 ≤ maxLen) (hc3 : x3.length ≤ c3 ∧ c3 ≤ maxLen) (hc4 : x4.length ≤ c4 ∧ c4 ≤ maxLen) (hc5 : x5.length ≤ c5 ∧ c5 ≤ maxLen) (hok : benchOk l s x1 x2 x3 x4 x5 = true) :
    Calls Tryz.prog 74 #[.agg #[.int .i64 l, .int .i64 s, .slice A1 x1.length c1, .slice A2 x2.length c2, .slice A3 x3.length c3, .slice A4 x4.length c4, .slice A5 x5.length c5], .string ⟨#[111, 117, 116, 112, 117, 116]⟩] w (RetStr w (fmtL x4)) := by
  obtain ⟨hm, hs3, hs4, hs5⟩ : memOk l s x1 x2 = true ∧ seqOk x3 = true ∧ seqOk x4 = true ∧ seqOk x5 = true := ok_parts (X := ⟨l, s, x1, x2, x3, x4, x5⟩) hok
  obtain ⟨h1, h2, h3⟩ := mem_parts hm
  have hb0 : Below w.heap.size w (w.alloc (.cells #[.int .i64 l, .int .i64 s, .slice A1 x1.length c1, .slice A2 x2.length c2, .slice A3 x3.length c3, .slice A4 x4.length c4, .slice A5 x5.length c5] 33)) := (Below.refl _ _).alloc (Nat.le_refl _) _
  have B0 := Blk.new w 33 #[.int .i64 l, .int .i64 s, .slice A1 x1.length c1, .slice A2 x2.length c2, .slice A3 x3.length c3, .slice A4 x4.length c4, .slice A5 x5.length c5]
  have Hb0 := Lib.hid hb0
  have R1 := Lib.hid (hr1.past hb0)
  have R2 := Lib.hid (hr2.past hb0)
  have R3 := Lib.hid (hr3.past hb0)
  have R4 := Lib.hid (hr4.past hb0)
  have R5 := Lib.hid (hr5.past hb0)
  have q0 := B0.cell 0; have q1 := B0.cell 1; have q2 := B0.cell 2; have q3 := B0.cell 3; have q4 := B0.cell 4; have q5 := B0.cell 5; have q6 := B0.cell 6; simp at q0 q1 q2 q3 q4 q5 q6
  have HF := Lib.hid (l7Text_ok A4 c4 x4 _ R4.out hs4 hc4)
  clear hb0 hr1 hr2 hr3 hr4 hr5 B0 hm hs3 hs4 hs5 h1 h2 h3 hok
  go_enter Tryz.func74, Tryz.ntmps74
  go_wp2_with fail
  refine HF.out.mono ?_; rintro e w1 ⟨rfl, k1⟩
  go_wp2
  go_ret
  exact ⟨rfl, thenB Hb0.out k1⟩
set_option maxRecDepth 100000 in
set_option maxHeartbeats 1000000 in
theorem specAsk_errors (l s : Int) (A1 : Option Addr) (c1 : Nat) (x1 : List Int) (A2 : Option Addr) (c2 : Nat) (x2 : List Int) (A3 : Option Addr) (c3 : Nat) (x3 : List Int) (A4 : Option Addr) (c4 : Nat) (x4 : List Int) (A5 : Option Addr) (c5 : Nat) (x5 : List Int) (w : World) (hr1 : Rd w w.heap.size A1 x1) (hr2 : Rd w w.heap.size A2 x2) (hr3 : Rd w w.heap.size A3 x3) (hr4 : Rd w w.heap.size A4 x4) (hr5 : Rd w w.heap.size A5 x5) (hc1 : x1.length ≤ c1 ∧ c1 ≤ maxLen) (hc2 : x2.length ≤ c2 ∧ c2 ≤ maxLen) (hc3 : x3.length ≤ c3 ∧ c3 ≤ maxLen) (hc4 : x4.length ≤ c4 ∧ c4 ≤ maxLen) (hc5 : x5.length ≤ c5 ∧ c5 ≤ maxLen) (hok : benchOk l s x1 x2 x3 x4 x5 = true) :
    Calls Tryz.prog 74 #[.agg #[.int .i64 l, .int .i64 s, .slice A1 x1.length c1, .slice A2 x2.length c2, .slice A3 x3.length c3, .slice A4 x4.length c4, .slice A5 x5.length c5], .string ⟨#[101, 114, 114, 111, 114, 115]⟩] w (RetStr w (fmtL x5)) := by
  obtain ⟨hm, hs3, hs4, hs5⟩ : memOk l s x1 x2 = true ∧ seqOk x3 = true ∧ seqOk x4 = true ∧ seqOk x5 = true := ok_parts (X := ⟨l, s, x1, x2, x3, x4, x5⟩) hok
  obtain ⟨h1, h2, h3⟩ := mem_parts hm
  have hb0 : Below w.heap.size w (w.alloc (.cells #[.int .i64 l, .int .i64 s, .slice A1 x1.length c1, .slice A2 x2.length c2, .slice A3 x3.length c3, .slice A4 x4.length c4, .slice A5 x5.length c5] 33)) := (Below.refl _ _).alloc (Nat.le_refl _) _
  have B0 := Blk.new w 33 #[.int .i64 l, .int .i64 s, .slice A1 x1.length c1, .slice A2 x2.length c2, .slice A3 x3.length c3, .slice A4 x4.length c4, .slice A5 x5.length c5]
  have Hb0 := Lib.hid hb0
  have R1 := Lib.hid (hr1.past hb0)
  have R2 := Lib.hid (hr2.past hb0)
  have R3 := Lib.hid (hr3.past hb0)
  have R4 := Lib.hid (hr4.past hb0)
  have R5 := Lib.hid (hr5.past hb0)
  have q0 := B0.cell 0; have q1 := B0.cell 1; have q2 := B0.cell 2; have q3 := B0.cell 3; have q4 := B0.cell 4; have q5 := B0.cell 5; have q6 := B0.cell 6; simp at q0 q1 q2 q3 q4 q5 q6
  have HF := Lib.hid (l7Text_ok A5 c5 x5 _ R5.out hs5 hc5)
  clear hb0 hr1 hr2 hr3 hr4 hr5 B0 hm hs3 hs4 hs5 h1 h2 h3 hok
  go_enter Tryz.func74, Tryz.ntmps74
  go_wp2_with fail
  refine HF.out.mono ?_; rintro e w1 ⟨rfl, k1⟩
  go_wp2
  go_ret
  exact ⟨rfl, thenB Hb0.out k1⟩
set_option maxRecDepth 100000 in
set_option maxHeartbeats 1000000 in
theorem specAsk_input (l s : Int) (A1 : Option Addr) (c1 : Nat) (x1 : List Int) (A2 : Option Addr) (c2 : Nat) (x2 : List Int) (A3 : Option Addr) (c3 : Nat) (x3 : List Int) (A4 : Option Addr) (c4 : Nat) (x4 : List Int) (A5 : Option Addr) (c5 : Nat) (x5 : List Int) (w : World) (hr1 : Rd w w.heap.size A1 x1) (hr2 : Rd w w.heap.size A2 x2) (hr3 : Rd w w.heap.size A3 x3) (hr4 : Rd w w.heap.size A4 x4) (hr5 : Rd w w.heap.size A5 x5) (hc1 : x1.length ≤ c1 ∧ c1 ≤ maxLen) (hc2 : x2.length ≤ c2 ∧ c2 ≤ maxLen) (hc3 : x3.length ≤ c3 ∧ c3 ≤ maxLen) (hc4 : x4.length ≤ c4 ∧ c4 ≤ maxLen) (hc5 : x5.length ≤ c5 ∧ c5 ≤ maxLen) (hok : benchOk l s x1 x2 x3 x4 x5 = true) :
    Calls Tryz.prog 74 #[.agg #[.int .i64 l, .int .i64 s, .slice A1 x1.length c1, .slice A2 x2.length c2, .slice A3 x3.length c3, .slice A4 x4.length c4, .slice A5 x5.length c5], .string ⟨#[105, 110, 112, 117, 116]⟩] w (RetStr w (fmtL x3)) := by
  obtain ⟨hm, hs3, hs4, hs5⟩ : memOk l s x1 x2 = true ∧ seqOk x3 = true ∧ seqOk x4 = true ∧ seqOk x5 = true := ok_parts (X := ⟨l, s, x1, x2, x3, x4, x5⟩) hok
  obtain ⟨h1, h2, h3⟩ := mem_parts hm
  have hb0 : Below w.heap.size w (w.alloc (.cells #[.int .i64 l, .int .i64 s, .slice A1 x1.length c1, .slice A2 x2.length c2, .slice A3 x3.length c3, .slice A4 x4.length c4, .slice A5 x5.length c5] 33)) := (Below.refl _ _).alloc (Nat.le_refl _) _
  have B0 := Blk.new w 33 #[.int .i64 l, .int .i64 s, .slice A1 x1.length c1, .slice A2 x2.length c2, .slice A3 x3.length c3, .slice A4 x4.length c4, .slice A5 x5.length c5]
  have Hb0 := Lib.hid hb0
  have R1 := Lib.hid (hr1.past hb0)
  have R2 := Lib.hid (hr2.past hb0)
  have R3 := Lib.hid (hr3.past hb0)
  have R4 := Lib.hid (hr4.past hb0)
  have R5 := Lib.hid (hr5.past hb0)
  have q0 := B0.cell 0; have q1 := B0.cell 1; have q2 := B0.cell 2; have q3 := B0.cell 3; have q4 := B0.cell 4; have q5 := B0.cell 5; have q6 := B0.cell 6; simp at q0 q1 q2 q3 q4 q5 q6
  have HF := Lib.hid (l7Text_ok A3 c3 x3 _ R3.out hs3 hc3)
  clear hb0 hr1 hr2 hr3 hr4 hr5 B0 hm hs3 hs4 hs5 h1 h2 h3 hok
  go_enter Tryz.func74, Tryz.ntmps74
  go_wp2_with fail
  refine HF.out.mono ?_; rintro e w1 ⟨rfl, k1⟩
  go_wp2
  go_ret
  exact ⟨rfl, thenB Hb0.out k1⟩
set_option maxRecDepth 100000 in
set_option maxHeartbeats 1000000 in
theorem specAsk_safe (l s : Int) (A1 : Option Addr) (c1 : Nat) (x1 : List Int) (A2 : Option Addr) (c2 : Nat) (x2 : List Int) (A3 : Option Addr) (c3 : Nat) (x3 : List Int) (A4 : Option Addr) (c4 : Nat) (x4 : List Int) (A5 : Option Addr) (c5 : Nat) (x5 : List Int) (w : World) (hr1 : Rd w w.heap.size A1 x1) (hr2 : Rd w w.heap.size A2 x2) (hr3 : Rd w w.heap.size A3 x3) (hr4 : Rd w w.heap.size A4 x4) (hr5 : Rd w w.heap.size A5 x5) (hc1 : x1.length ≤ c1 ∧ c1 ≤ maxLen) (hc2 : x2.length ≤ c2 ∧ c2 ≤ maxLen) (hc3 : x3.length ≤ c3 ∧ c3 ≤ maxLen) (hc4 : x4.length ≤ c4 ∧ c4 ≤ maxLen) (hc5 : x5.length ≤ c5 ∧ c5 ≤ maxLen) (hok : benchOk l s x1 x2 x3 x4 x5 = true) :
    Calls Tryz.prog 74 #[.agg #[.int .i64 l, .int .i64 s, .slice A1 x1.length c1, .slice A2 x2.length c2, .slice A3 x3.length c3, .slice A4 x4.length c4, .slice A5 x5.length c5], .string ⟨#[115, 97, 102, 101]⟩] w (RetStr w (decI (safeW l s x1))) := by
  obtain ⟨hm, hs3, hs4, hs5⟩ : memOk l s x1 x2 = true ∧ seqOk x3 = true ∧ seqOk x4 = true ∧ seqOk x5 = true := ok_parts (X := ⟨l, s, x1, x2, x3, x4, x5⟩) hok
  obtain ⟨h1, h2, h3⟩ := mem_parts hm
  have hb0 : Below w.heap.size w (w.alloc (.cells #[.int .i64 l, .int .i64 s, .slice A1 x1.length c1, .slice A2 x2.length c2, .slice A3 x3.length c3, .slice A4 x4.length c4, .slice A5 x5.length c5] 33)) := (Below.refl _ _).alloc (Nat.le_refl _) _
  have B0 := Blk.new w 33 #[.int .i64 l, .int .i64 s, .slice A1 x1.length c1, .slice A2 x2.length c2, .slice A3 x3.length c3, .slice A4 x4.length c4, .slice A5 x5.length c5]
  have Hb0 := Lib.hid hb0
  have R1 := Lib.hid (hr1.past hb0)
  have R2 := Lib.hid (hr2.past hb0)
  have R3 := Lib.hid (hr3.past hb0)
  have R4 := Lib.hid (hr4.past hb0)
  have R5 := Lib.hid (hr5.past hb0)
  have q0 := B0.cell 0; have q1 := B0.cell 1; have q2 := B0.cell 2; have q3 := B0.cell 3; have q4 := B0.cell 4; have q5 := B0.cell 5; have q6 := B0.cell 6; simp at q0 q1 q2 q3 q4 q5 q6
  have bd := safe_bd h1
  have HC := Lib.hid (fun W h => specSafe_yes l s A1 c1 x1 W h h1)
  obtain ⟨Y, hY⟩ : ∃ Y, Y = safeW l s x1 := ⟨_, rfl⟩
  rw [← hY] at bd HC ⊢
  clear hb0 hr1 hr2 hr3 hr4 hr5 B0 hm hs3 hs4 hs5 h1 h2 h3 hok hY
  go_enter Tryz.func74, Tryz.ntmps74
  go_wp2_with fail
  refine (HC.out _ R1.out).mono ?_; rintro e w1 ⟨rfl, k1⟩
  have Hb1 := Lib.hid (thenB Hb0.out k1)
  clear k1 q0 q1 q2 q3 q4 q5 q6
  go_wp2_with fail
  refine (l7Number_any Y _ (by omega) (by omega)).mono ?_; rintro e w2 ⟨rfl, k2⟩
  go_wp2
  go_ret
  exact ⟨rfl, thenB Hb1.out k2⟩
set_option maxRecDepth 100000 in
set_option maxHeartbeats 1000000 in
theorem specAsk_sum (l s : Int) (A1 : Option Addr) (c1 : Nat) (x1 : List Int) (A2 : Option Addr) (c2 : Nat) (x2 : List Int) (A3 : Option Addr) (c3 : Nat) (x3 : List Int) (A4 : Option Addr) (c4 : Nat) (x4 : List Int) (A5 : Option Addr) (c5 : Nat) (x5 : List Int) (w : World) (hr1 : Rd w w.heap.size A1 x1) (hr2 : Rd w w.heap.size A2 x2) (hr3 : Rd w w.heap.size A3 x3) (hr4 : Rd w w.heap.size A4 x4) (hr5 : Rd w w.heap.size A5 x5) (hc1 : x1.length ≤ c1 ∧ c1 ≤ maxLen) (hc2 : x2.length ≤ c2 ∧ c2 ≤ maxLen) (hc3 : x3.length ≤ c3 ∧ c3 ≤ maxLen) (hc4 : x4.length ≤ c4 ∧ c4 ≤ maxLen) (hc5 : x5.length ≤ c5 ∧ c5 ≤ maxLen) (hok : benchOk l s x1 x2 x3 x4 x5 = true) :
    Calls Tryz.prog 74 #[.agg #[.int .i64 l, .int .i64 s, .slice A1 x1.length c1, .slice A2 x2.length c2, .slice A3 x3.length c3, .slice A4 x4.length c4, .slice A5 x5.length c5], .string ⟨#[115, 117, 109]⟩] w (RetStr w (decI (seqSum x4))) := by
  obtain ⟨hm, hs3, hs4, hs5⟩ : memOk l s x1 x2 = true ∧ seqOk x3 = true ∧ seqOk x4 = true ∧ seqOk x5 = true := ok_parts (X := ⟨l, s, x1, x2, x3, x4, x5⟩) hok
  obtain ⟨h1, h2, h3⟩ := mem_parts hm
  have hb0 : Below w.heap.size w (w.alloc (.cells #[.int .i64 l, .int .i64 s, .slice A1 x1.length c1, .slice A2 x2.length c2, .slice A3 x3.length c3, .slice A4 x4.length c4, .slice A5 x5.length c5] 33)) := (Below.refl _ _).alloc (Nat.le_refl _) _
  have B0 := Blk.new w 33 #[.int .i64 l, .int .i64 s, .slice A1 x1.length c1, .slice A2 x2.length c2, .slice A3 x3.length c3, .slice A4 x4.length c4, .slice A5 x5.length c5]
  have Hb0 := Lib.hid hb0
  have R1 := Lib.hid (hr1.past hb0)
  have R2 := Lib.hid (hr2.past hb0)
  have R3 := Lib.hid (hr3.past hb0)
  have R4 := Lib.hid (hr4.past hb0)
  have R5 := Lib.hid (hr5.past hb0)
  have q0 := B0.cell 0; have q1 := B0.cell 1; have q2 := B0.cell 2; have q3 := B0.cell 3; have q4 := B0.cell 4; have q5 := B0.cell 5; have q6 := B0.cell 6; simp at q0 q1 q2 q3 q4 q5 q6
  have bd := seqSum_bd hs4
  have HC := Lib.hid (fun W h => specSumOf_b A4 c4 x4 W h (by have := seqOk_len hs4; omega))
  obtain ⟨Y, hY⟩ : ∃ Y, Y = seqSum x4 := ⟨_, rfl⟩
  rw [← hY] at bd HC ⊢
  clear hb0 hr1 hr2 hr3 hr4 hr5 B0 hm hs3 hs4 hs5 h1 h2 h3 hok hY
  go_enter Tryz.func74, Tryz.ntmps74
  go_wp2_with fail
  refine (HC.out _ R4.out).mono ?_; rintro e w1 ⟨rfl, rfl⟩
  clear q0 q1 q2 q3 q4 q5 q6
  go_wp2_with fail
  refine (l7Number_any Y _ (by omega) (by omega)).mono ?_; rintro e w2 ⟨rfl, k2⟩
  go_wp2
  go_ret
  exact ⟨rfl, thenB Hb0.out k2⟩
set_option maxRecDepth 100000 in
set_option maxHeartbeats 1000000 in
theorem specAsk_power (l s : Int) (A1 : Option Addr) (c1 : Nat) (x1 : List Int) (A2 : Option Addr) (c2 : Nat) (x2 : List Int) (A3 : Option Addr) (c3 : Nat) (x3 : List Int) (A4 : Option Addr) (c4 : Nat) (x4 : List Int) (A5 : Option Addr) (c5 : Nat) (x5 : List Int) (w : World) (hr1 : Rd w w.heap.size A1 x1) (hr2 : Rd w w.heap.size A2 x2) (hr3 : Rd w w.heap.size A3 x3) (hr4 : Rd w w.heap.size A4 x4) (hr5 : Rd w w.heap.size A5 x5) (hc1 : x1.length ≤ c1 ∧ c1 ≤ maxLen) (hc2 : x2.length ≤ c2 ∧ c2 ≤ maxLen) (hc3 : x3.length ≤ c3 ∧ c3 ≤ maxLen) (hc4 : x4.length ≤ c4 ∧ c4 ≤ maxLen) (hc5 : x5.length ≤ c5 ∧ c5 ≤ maxLen) (hok : benchOk l s x1 x2 x3 x4 x5 = true) :
    Calls Tryz.prog 74 #[.agg #[.int .i64 l, .int .i64 s, .slice A1 x1.length c1, .slice A2 x2.length c2, .slice A3 x3.length c3, .slice A4 x4.length c4, .slice A5 x5.length c5], .string ⟨#[112, 111, 119, 101, 114]⟩] w (RetStr w (if (power x5).2 then decI (power x5).1 else [])) := by
  obtain ⟨hm, hs3, hs4, hs5⟩ : memOk l s x1 x2 = true ∧ seqOk x3 = true ∧ seqOk x4 = true ∧ seqOk x5 = true := ok_parts (X := ⟨l, s, x1, x2, x3, x4, x5⟩) hok
  obtain ⟨h1, h2, h3⟩ := mem_parts hm
  have hb0 : Below w.heap.size w (w.alloc (.cells #[.int .i64 l, .int .i64 s, .slice A1 x1.length c1, .slice A2 x2.length c2, .slice A3 x3.length c3, .slice A4 x4.length c4, .slice A5 x5.length c5] 33)) := (Below.refl _ _).alloc (Nat.le_refl _) _
  have B0 := Blk.new w 33 #[.int .i64 l, .int .i64 s, .slice A1 x1.length c1, .slice A2 x2.length c2, .slice A3 x3.length c3, .slice A4 x4.length c4, .slice A5 x5.length c5]
  have Hb0 := Lib.hid hb0
  have R1 := Lib.hid (hr1.past hb0)
  have R2 := Lib.hid (hr2.past hb0)
  have R3 := Lib.hid (hr3.past hb0)
  have R4 := Lib.hid (hr4.past hb0)
  have R5 := Lib.hid (hr5.past hb0)
  have q0 := B0.cell 0; have q1 := B0.cell 1; have q2 := B0.cell 2; have q3 := B0.cell 3; have q4 := B0.cell 4; have q5 := B0.cell 5; have q6 := B0.cell 6; simp at q0 q1 q2 q3 q4 q5 q6
  have bd := power_bd x5
  have HC := Lib.hid (fun W h => specPowerOf_any A5 c5 x5 W h (by have := seqOk_len hs5; omega))
  obtain ⟨Y, hY⟩ : ∃ Y, Y = power x5 := ⟨_, rfl⟩
  rw [← hY] at bd HC ⊢
  obtain ⟨Y1, Y2⟩ := Y
  obtain ⟨T, hT⟩ : ∃ T : List UInt8, T = (if (Y1, Y2).2 then decI (Y1, Y2).1 else []) := ⟨_, rfl⟩
  rw [← hT]
  have HT := Lib.hid hT
  clear hT
  clear hb0 hr1 hr2 hr3 hr4 hr5 B0 hm hs3 hs4 hs5 h1 h2 h3 hok hY
  go_enter Tryz.func74, Tryz.ntmps74
  go_wp2_with fail
  refine (HC.out _ R5.out).mono ?_; rintro e w1 ⟨rfl, k1⟩
  have Hb1 := Lib.hid (thenB Hb0.out k1)
  clear k1 q0 q1 q2 q3 q4 q5 q6 HC
  cases Y2
  · go_wp2
    go_ret
    rw [HT.out]
    exact ⟨rfl, Hb1.out⟩
  · go_wp2_with fail
    refine (l7Number_any Y1 _ (by have : 0 ≤ Y1 := bd.1; omega) (by have : Y1 ≤ 100000000000000000 := bd.2; omega)).mono ?_; rintro e w2 ⟨rfl, k2⟩
    go_wp2
    go_ret
    rw [HT.out]
    exact ⟨rfl, thenB Hb1.out k2⟩
set_option maxRecDepth 100000 in
set_option maxHeartbeats 1000000 in
theorem specAsk_bits (l s : Int) (A1 : Option Addr) (c1 : Nat) (x1 : List Int) (A2 : Option Addr) (c2 : Nat) (x2 : List Int) (A3 : Option Addr) (c3 : Nat) (x3 : List Int) (A4 : Option Addr) (c4 : Nat) (x4 : List Int) (A5 : Option Addr) (c5 : Nat) (x5 : List Int) (w : World) (hr1 : Rd w w.heap.size A1 x1) (hr2 : Rd w w.heap.size A2 x2) (hr3 : Rd w w.heap.size A3 x3) (hr4 : Rd w w.heap.size A4 x4) (hr5 : Rd w w.heap.size A5 x5) (hc1 : x1.length ≤ c1 ∧ c1 ≤ maxLen) (hc2 : x2.length ≤ c2 ∧ c2 ≤ maxLen) (hc3 : x3.length ≤ c3 ∧ c3 ≤ maxLen) (hc4 : x4.length ≤ c4 ∧ c4 ≤ maxLen) (hc5 : x5.length ≤ c5 ∧ c5 ≤ maxLen) (hok : benchOk l s x1 x2 x3 x4 x5 = true) :
    Calls Tryz.prog 74 #[.agg #[.int .i64 l, .int .i64 s, .slice A1 x1.length c1, .slice A2 x2.length c2, .slice A3 x3.length c3, .slice A4 x4.length c4, .slice A5 x5.length c5], .string ⟨#[98, 105, 116, 115]⟩] w (RetStr w (if (bitsW l s x4).2 then fmtL (bitsW l s x4).1 else [])) := by
  obtain ⟨hm, hs3, hs4, hs5⟩ : memOk l s x1 x2 = true ∧ seqOk x3 = true ∧ seqOk x4 = true ∧ seqOk x5 = true := ok_parts (X := ⟨l, s, x1, x2, x3, x4, x5⟩) hok
  obtain ⟨h1, h2, h3⟩ := mem_parts hm
  have hb0 : Below w.heap.size w (w.alloc (.cells #[.int .i64 l, .int .i64 s, .slice A1 x1.length c1, .slice A2 x2.length c2, .slice A3 x3.length c3, .slice A4 x4.length c4, .slice A5 x5.length c5] 33)) := (Below.refl _ _).alloc (Nat.le_refl _) _
  have B0 := Blk.new w 33 #[.int .i64 l, .int .i64 s, .slice A1 x1.length c1, .slice A2 x2.length c2, .slice A3 x3.length c3, .slice A4 x4.length c4, .slice A5 x5.length c5]
  have Hb0 := Lib.hid hb0
  have R1 := Lib.hid (hr1.past hb0)
  have R2 := Lib.hid (hr2.past hb0)
  have R3 := Lib.hid (hr3.past hb0)
  have R4 := Lib.hid (hr4.past hb0)
  have R5 := Lib.hid (hr5.past hb0)
  have q0 := B0.cell 0; have q1 := B0.cell 1; have q2 := B0.cell 2; have q3 := B0.cell 3; have q4 := B0.cell 4; have q5 := B0.cell 5; have q6 := B0.cell 6; simp at q0 q1 q2 q3 q4 q5 q6
  have bd := bitsW_seq (mod_parts h1).2.1 hs4
  have HC := Lib.hid (fun W h => specBits_any l s A4 c4 x4 W h (mod_parts h1).2.1 hs4)
  obtain ⟨Y, hY⟩ : ∃ Y, Y = bitsW l s x4 := ⟨_, rfl⟩
  rw [← hY] at bd HC ⊢
  obtain ⟨Y1, Y2⟩ := Y
  obtain ⟨T, hT⟩ : ∃ T : List UInt8, T = (if (Y1, Y2).2 then fmtL (Y1, Y2).1 else []) := ⟨_, rfl⟩
  rw [← hT]
  have HT := Lib.hid hT
  clear hT
  have HS : Hid (seqOk Y1 = true) := bd.1
  clear hb0 hr1 hr2 hr3 hr4 hr5 B0 hm hs3 hs4 hs5 h1 h2 h3 hok hY bd
  go_enter Tryz.func74, Tryz.ntmps74
  go_wp2_with fail
  refine (HC.out _ R4.out).mono ?_; rintro e w1 ⟨Aq, cq, rfl, Oq, k1⟩
  have Hb1 := Lib.hid (thenB Hb0.out k1)
  have HF := Lib.hid (l7Text_ok Aq cq Y1 w1 (own_rd Oq) HS.out (own_cap Oq))
  clear k1 Oq q0 q1 q2 q3 q4 q5 q6 HC
  cases Y2
  · go_wp2
    go_ret
    rw [HT.out]
    exact ⟨rfl, Hb1.out⟩
  · go_wp2_with fail
    refine HF.out.mono ?_; rintro e w2 ⟨rfl, k2⟩
    go_wp2
    go_ret
    rw [HT.out]
    exact ⟨rfl, thenB Hb1.out k2⟩
set_option maxRecDepth 100000 in
set_option maxHeartbeats 1000000 in
theorem specAsk_none (l s : Int) (A1 : Option Addr) (c1 : Nat) (x1 : List Int) (A2 : Option Addr) (c2 : Nat) (x2 : List Int) (A3 : Option Addr) (c3 : Nat) (x3 : List Int) (A4 : Option Addr) (c4 : Nat) (x4 : List Int) (A5 : Option Addr) (c5 : Nat) (x5 : List Int) (w : World) (hr1 : Rd w w.heap.size A1 x1) (hr2 : Rd w w.heap.size A2 x2) (hr3 : Rd w w.heap.size A3 x3) (hr4 : Rd w w.heap.size A4 x4) (hr5 : Rd w w.heap.size A5 x5) (ln : ByteArray) (hl : ln.data.toList ∉ askWords) :
    Calls Tryz.prog 74 #[.agg #[.int .i64 l, .int .i64 s, .slice A1 x1.length c1, .slice A2 x2.length c2, .slice A3 x3.length c3, .slice A4 x4.length c4, .slice A5 x5.length c5], .string ln] w (RetStr w []) := by
  have hb0 : Below w.heap.size w (w.alloc (.cells #[.int .i64 l, .int .i64 s, .slice A1 x1.length c1, .slice A2 x2.length c2, .slice A3 x3.length c3, .slice A4 x4.length c4, .slice A5 x5.length c5] 33)) := (Below.refl _ _).alloc (Nat.le_refl _) _
  simp only [askWords, List.mem_cons, not_or, List.not_mem_nil, not_false_eq_true, and_true] at hl
  obtain ⟨u0, u1, u2, u3, u4, u5, u6, u7, u8⟩ := hl
  have t0 := str_ne ln [115, 104, 97, 112, 101] u0
  have t1 := str_ne ln [109, 101, 109, 111, 114, 121] u1
  have t2 := str_ne ln [111, 117, 116, 112, 117, 116] u2
  have t3 := str_ne ln [101, 114, 114, 111, 114, 115] u3
  have t4 := str_ne ln [105, 110, 112, 117, 116] u4
  have t5 := str_ne ln [115, 97, 102, 101] u5
  have t6 := str_ne ln [115, 117, 109] u6
  have t7 := str_ne ln [112, 111, 119, 101, 114] u7
  have t8 := str_ne ln [98, 105, 116, 115] u8
  have Hb0 := Lib.hid hb0
  clear hb0 hr1 hr2 hr3 hr4 hr5 u0 u1 u2 u3 u4 u5 u6 u7 u8
  go_enter Tryz.func74, Tryz.ntmps74
  go_wp2
  go_ret
  exact ⟨rfl, Hb0.out⟩
theorem specAsk_any (l s : Int) (A1 : Option Addr) (c1 : Nat) (x1 : List Int) (A2 : Option Addr) (c2 : Nat) (x2 : List Int) (A3 : Option Addr) (c3 : Nat) (x3 : List Int) (A4 : Option Addr) (c4 : Nat) (x4 : List Int) (A5 : Option Addr) (c5 : Nat) (x5 : List Int) (w : World) (hr1 : Rd w w.heap.size A1 x1) (hr2 : Rd w w.heap.size A2 x2) (hr3 : Rd w w.heap.size A3 x3) (hr4 : Rd w w.heap.size A4 x4) (hr5 : Rd w w.heap.size A5 x5) (hc1 : x1.length ≤ c1 ∧ c1 ≤ maxLen) (hc2 : x2.length ≤ c2 ∧ c2 ≤ maxLen) (hc3 : x3.length ≤ c3 ∧ c3 ≤ maxLen) (hc4 : x4.length ≤ c4 ∧ c4 ≤ maxLen) (hc5 : x5.length ≤ c5 ∧ c5 ≤ maxLen) (hok : benchOk l s x1 x2 x3 x4 x5 = true) (ln : ByteArray) :
    Calls Tryz.prog 74 #[.agg #[.int .i64 l, .int .i64 s, .slice A1 x1.length c1, .slice A2 x2.length c2, .slice A3 x3.length c3, .slice A4 x4.length c4, .slice A5 x5.length c5], .string ln] w (RetStr w ((askT ⟨l, s, x1, x2, x3, x4, x5⟩ ln.data.toList).getD [])) := by
  by_cases u0 : ln.data.toList = tShape
  · have e : ln = ⟨#[115, 104, 97, 112, 101]⟩ := by rw [← bs_list ln, u0]; rfl
    subst e
    have ea : askT ⟨l, s, x1, x2, x3, x4, x5⟩ tShape = some (fmtL (1 :: x1)) := by unfold askT; rw [if_pos rfl]
    rw [u0, ea]
    exact specAsk_shape l s A1 c1 x1 A2 c2 x2 A3 c3 x3 A4 c4 x4 A5 c5 x5 w hr1 hr2 hr3 hr4 hr5 hc1 hc2 hc3 hc4 hc5 hok
  by_cases u1 : ln.data.toList = tMemory
  · have e : ln = ⟨#[109, 101, 109, 111, 114, 121]⟩ := by rw [← bs_list ln, u1]; rfl
    subst e
    have ea : askT ⟨l, s, x1, x2, x3, x4, x5⟩ tMemory = some (fmtL x2) := by unfold askT; rw [if_neg (by decide), if_pos rfl]
    rw [u1, ea]
    exact specAsk_memory l s A1 c1 x1 A2 c2 x2 A3 c3 x3 A4 c4 x4 A5 c5 x5 w hr1 hr2 hr3 hr4 hr5 hc1 hc2 hc3 hc4 hc5 hok
  by_cases u2 : ln.data.toList = tOutput
  · have e : ln = ⟨#[111, 117, 116, 112, 117, 116]⟩ := by rw [← bs_list ln, u2]; rfl
    subst e
    have ea : askT ⟨l, s, x1, x2, x3, x4, x5⟩ tOutput = some (fmtL x4) := by unfold askT; rw [if_neg (by decide), if_neg (by decide), if_pos rfl]
    rw [u2, ea]
    exact specAsk_output l s A1 c1 x1 A2 c2 x2 A3 c3 x3 A4 c4 x4 A5 c5 x5 w hr1 hr2 hr3 hr4 hr5 hc1 hc2 hc3 hc4 hc5 hok
  by_cases u3 : ln.data.toList = tErrors
  · have e : ln = ⟨#[101, 114, 114, 111, 114, 115]⟩ := by rw [← bs_list ln, u3]; rfl
    subst e
    have ea : askT ⟨l, s, x1, x2, x3, x4, x5⟩ tErrors = some (fmtL x5) := by unfold askT; rw [if_neg (by decide), if_neg (by decide), if_neg (by decide), if_pos rfl]
    rw [u3, ea]
    exact specAsk_errors l s A1 c1 x1 A2 c2 x2 A3 c3 x3 A4 c4 x4 A5 c5 x5 w hr1 hr2 hr3 hr4 hr5 hc1 hc2 hc3 hc4 hc5 hok
  by_cases u4 : ln.data.toList = tInput
  · have e : ln = ⟨#[105, 110, 112, 117, 116]⟩ := by rw [← bs_list ln, u4]; rfl
    subst e
    have ea : askT ⟨l, s, x1, x2, x3, x4, x5⟩ tInput = some (fmtL x3) := by unfold askT; rw [if_neg (by decide), if_neg (by decide), if_neg (by decide), if_neg (by decide), if_pos rfl]
    rw [u4, ea]
    exact specAsk_input l s A1 c1 x1 A2 c2 x2 A3 c3 x3 A4 c4 x4 A5 c5 x5 w hr1 hr2 hr3 hr4 hr5 hc1 hc2 hc3 hc4 hc5 hok
  by_cases u5 : ln.data.toList = tSafe
  · have e : ln = ⟨#[115, 97, 102, 101]⟩ := by rw [← bs_list ln, u5]; rfl
    subst e
    have ea : askT ⟨l, s, x1, x2, x3, x4, x5⟩ tSafe = some (decI (safeW l s x1)) := by unfold askT; rw [if_neg (by decide), if_neg (by decide), if_neg (by decide), if_neg (by decide), if_neg (by decide), if_pos rfl]
    rw [u5, ea]
    exact specAsk_safe l s A1 c1 x1 A2 c2 x2 A3 c3 x3 A4 c4 x4 A5 c5 x5 w hr1 hr2 hr3 hr4 hr5 hc1 hc2 hc3 hc4 hc5 hok
  by_cases u6 : ln.data.toList = tSum
  · have e : ln = ⟨#[115, 117, 109]⟩ := by rw [← bs_list ln, u6]; rfl
    subst e
    have ea : askT ⟨l, s, x1, x2, x3, x4, x5⟩ tSum = some (decI (seqSum x4)) := by unfold askT; rw [if_neg (by decide), if_neg (by decide), if_neg (by decide), if_neg (by decide), if_neg (by decide), if_neg (by decide), if_pos rfl]
    rw [u6, ea]
    exact specAsk_sum l s A1 c1 x1 A2 c2 x2 A3 c3 x3 A4 c4 x4 A5 c5 x5 w hr1 hr2 hr3 hr4 hr5 hc1 hc2 hc3 hc4 hc5 hok
  by_cases u7 : ln.data.toList = tPower
  · have e : ln = ⟨#[112, 111, 119, 101, 114]⟩ := by rw [← bs_list ln, u7]; rfl
    subst e
    have ea : askT ⟨l, s, x1, x2, x3, x4, x5⟩ tPower = if (power x5).2 then some (decI (power x5).1) else none := by unfold askT; rw [if_neg (by decide), if_neg (by decide), if_neg (by decide), if_neg (by decide), if_neg (by decide), if_neg (by decide), if_neg (by decide), if_pos rfl]
    rw [u7, ea]
    have := specAsk_power l s A1 c1 x1 A2 c2 x2 A3 c3 x3 A4 c4 x4 A5 c5 x5 w hr1 hr2 hr3 hr4 hr5 hc1 hc2 hc3 hc4 hc5 hok
    split
    · rw [if_pos ‹_›] at this; exact this
    · rw [if_neg ‹_›] at this; exact this
  by_cases u8 : ln.data.toList = tBits
  · have e : ln = ⟨#[98, 105, 116, 115]⟩ := by rw [← bs_list ln, u8]; rfl
    subst e
    have ea : askT ⟨l, s, x1, x2, x3, x4, x5⟩ tBits = if (bitsW l s x4).2 then some (fmtL (bitsW l s x4).1) else none := by unfold askT; rw [if_neg (by decide), if_neg (by decide), if_neg (by decide), if_neg (by decide), if_neg (by decide), if_neg (by decide), if_neg (by decide), if_neg (by decide), if_pos rfl]
    rw [u8, ea]
    have := specAsk_bits l s A1 c1 x1 A2 c2 x2 A3 c3 x3 A4 c4 x4 A5 c5 x5 w hr1 hr2 hr3 hr4 hr5 hc1 hc2 hc3 hc4 hc5 hok
    split
    · rw [if_pos ‹_›] at this; exact this
    · rw [if_neg ‹_›] at this; exact this
  have hl : ln.data.toList ∉ askWords := by
    simp only [askWords, List.mem_cons, not_or, List.not_mem_nil, not_false_eq_true, and_true]
    exact ⟨u0, u1, u2, u3, u4, u5, u6, u7, u8⟩
  rw [ask_word hl]
  exact specAsk_none l s A1 c1 x1 A2 c2 x2 A3 c3 x3 A4 c4 x4 A5 c5 x5 w hr1 hr2 hr3 hr4 hr5 ln hl
end Go.Proofs.YtgkijkenbjjnmaaGreatDoor
