/- Contracts of slices.Max and of the two BoxCoefs. -/
import Derived.Test.YtkdlmddofnnngaaPBox
import Derived.Test.YtkdlmddofnnngaaApp
import Derived.Test.YtkdlmddofnnngaaSmall
namespace Go.Proofs.Ytkdlmddofnnngaa
open Go.RowKit
set_option linter.unusedVariables false
set_option linter.unusedSimpArgs false
def RetMax (w : World) (xs : List Int) (e : Ending) (w' : World) : Prop := ∃ m, e = .returned (.int .i64 m) ∧ MaxTo xs xs.length m ∧ w = w'
theorem max_any (A : Option Addr) (c : Nat) (xs : List Int) (w : World) (hr : Rd w w.heap.size A xs) (hn : xs.length ≤ 1048576) (h0 : 0 < xs.length) :
    Calls Try.prog 64 #[.slice A xs.length c] w (RetMax w xs) := by
  obtain ⟨ad, rfl, hbl, hcell⟩ := hr.at_ h0
  have hc0 := hcell 0 h0
  have H := Lib.hid hcell
  clear hr hcell
  have hc0' : w.cell? ad = some (.int .i64 (xs.getD 0 0)) := hc0
  go_enter Try.func64, Try.ntmps64
  go_wp2
  clear hc0 hc0'
  go_loop [3, 4] (fun q i => ∃ (k : Nat) (m : Int), 1 ≤ k ∧ k ≤ xs.length ∧ i = .int .i64 k ∧ q = .int .i64 m ∧ MaxTo xs k m) (fun _ i => xs.length - (intOf i).toNat)
  case atStart => exact ⟨1, xs[0], by omega, by omega, rfl, rfl, maxTo_one h0⟩
  case round =>
    obtain ⟨k, m, h1, hk, rfl, rfl, hM⟩ := hrel
    by_cases hlt : k < xs.length
    · have hc1 := H.out k hlt
      go_wp2
      go_round
      case rel => exact ⟨k + 1, max m xs[k], by omega, by omega, by go_num, by go_num, maxTo_step hM hlt⟩
      case measure => simp [intOf]; omega
    · obtain rfl : k = xs.length := by omega
      go_wp2
      go_ret
      exact ⟨m, rfl, hM, rfl⟩
theorem boxes_yes {n r : Nat} {k : Int} (hc : combOk n r k = true) (hs : (n : Int) * (r - 1) + 1 ≤ 100) (hb : (boxN r n).any bigB = false) : boxes n r k = (boxN r n, true) := by
  unfold combOk at hc
  have e : boxOk n r k = true := by simp only [boxOk, hc, decide_eq_true hs, Int.toNat_natCast, hb]; rfl
  simp [boxes, e]
theorem boxes_big {n r : Nat} {k : Int} (hb : (boxN r n).any bigB = true) : boxes n r k = ([], false) := by
  have e : boxOk n r k = false := by simp only [boxOk, Int.toNat_natCast, hb]; simp
  simp [boxes, e]
theorem boxes_wide {o r k : Int} (hs : 100 < o * (r - 1) + 1) : boxes o r k = ([], false) := by
  have e : boxOk o r k = false := by simp only [boxOk, decide_eq_false (show ¬ o * (r - 1) + 1 ≤ 100 by omega)]; simp
  simp [boxes, e]
theorem boxes_noComb {o r k : Int} (hc : combOk o r k = false) : boxes o r k = ([], false) := by
  unfold combOk at hc
  have e : boxOk o r k = false := by simp only [boxOk, hc]; simp
  simp [boxes, e]
theorem boxes_len (o r k : Int) : (boxes o r k).1.length ≤ 1000 := by
  unfold boxes
  split
  · rename_i h
    simp only [boxOk, Bool.and_eq_true, decide_eq_true_eq] at h
    obtain ⟨⟨⟨⟨h1, h2⟩, _⟩, h3⟩, _⟩ := h
    obtain ⟨o1, o2⟩ := inB_of h1
    obtain ⟨r1, r2⟩ := inB_of h2
    obtain ⟨n, rfl⟩ : ∃ n : Nat, o = n := ⟨o.toNat, by omega⟩
    obtain ⟨q, rfl⟩ : ∃ q : Nat, r = q := ⟨r.toNat, by omega⟩
    simp only [Int.toNat_natCast]
    rw [boxN_length (by omega)]
    have e : ((n * (q - 1) : Nat) : Int) = (n : Int) * ((q : Int) - 1) := by rw [Int.natCast_mul, Int.natCast_sub (by omega)]; rfl
    omega
  · simp
set_option maxHeartbeats 2000000 in
theorem implBoxes_core (n r : Nat) (k : Int) (w : World) (hc : combOk n r k = true) (hs : (n : Int) * (r - 1) + 1 ≤ 100) :
    Calls Try.prog 47 #[.agg #[.int .i64 n, .int .i64 r, .int .i64 k]] w (RetLB w (boxes n r k)) := by
  obtain ⟨⟨n1, n2⟩, ⟨r1, r2⟩, _⟩ := comb_parts hc
  have m0 : 0 ≤ (n : Int) * (r - 1) := Int.mul_nonneg (by omega) (by omega)
  have m1 : (n : Int) * (r - 1) ≤ 99 := by omega
  go_enter Try.func47, Try.ntmps47
  go_wp2_with fail
  have B0 := Blk.new w 31 #[.int .i64 n, .int .i64 r, .int .i64 k]
  refine (implIsComb_any _ _ _ _).mono ?_; rintro e w1 ⟨rfl, h1⟩
  have B1 := B0.past h1
  have Hb := Lib.hid (thenB ((Below.refl _ _).alloc (Nat.le_refl _) _) h1)
  have c0 := B1.cell 0
  have c1 := B1.cell 1
  simp at c0 c1
  have hz : w.heap.size < w1.heap.size := B1.lt
  clear B0 h1
  go_wp2_with fail
  have O0 : Own (w1.alloc (.cells #[.int .i64 1] 3)) w.heap.size (some ⟨w1.heap.size, 0, none⟩) 1 [1] := own_cells (xs := [1]) w1 #[.int .i64 1] (by omega) rfl (by simp [maxLen])
  have B2 := B1.alloc (.cells #[.int .i64 1] 3)
  have Hb2 := Lib.hid (Hb.out.alloc (by omega) (.cells #[.int .i64 1] 3))
  clear B1 c0 c1 Hb hz
  go_loopw [4, 25] (fun q i wr => ∃ (j : Nat) (A : Option Addr) (c : Nat), j ≤ n ∧ i = .int .i64 j ∧ q = .slice A (boxN r j).length c ∧ Hid (Own wr w.heap.size A c (boxN r j)) ∧ Below w.heap.size w wr ∧ Hid (Blk wr w.heap.size 31 #[.int .i64 n, .int .i64 r, .int .i64 k])) (fun _ i _ => n - (intOf i).toNat)
  case atStart => exact ⟨0, _, 1, by omega, rfl, rfl, O0, Hb2.out, B2⟩
  case round =>
    clear O0 B2 Hb2
    obtain ⟨j, A, c, hj, rfl, rfl, OD, hB, BB⟩ := hrel
    have hl1 := boxN_length (show 1 ≤ r by omega) j
    have hp := pow_small (r : Int) (by omega) (by omega) n (by omega)
    by_cases hlt : j < n
    · have hM := Lib.hid (boxN_bd (show 1 ≤ r by omega) j)
      have hp1 := pow_mono_exp (r : Int) (by omega) (j + 1) (n - (j + 1))
      rw [show j + 1 + (n - (j + 1)) = n by omega, Int.pow_succ] at hp1
      have hp2 := pow_ge_one (r : Int) (by omega) j
      have hD : (boxN r j).length ≤ 600 := by
        rw [hl1]
        have : j * (r - 1) ≤ 6 * 99 := Nat.mul_le_mul (by omega) (by omega)
        omega
      have hD1 : 1 ≤ (boxN r j).length := by omega
      have e9 := Lib.hid (show boxN r (j + 1) = box1 (boxN r j) r from rfl)
      have e8 : (r : Int) ^ j ≤ (r : Int) ^ j * r := by
        have := Int.mul_le_mul_of_nonneg_left (show (1 : Int) ≤ r by omega) (show 0 ≤ (r : Int) ^ j by omega)
        omega
      obtain ⟨M, hMe⟩ : ∃ M : Int, M = (r : Int) ^ j := ⟨_, rfl⟩
      rw [← hMe] at hM hp1 hp2 e8
      have hMr : M * r ≤ 1000000000000 := by omega
      clear hl1 hp hp1 hMe
      obtain ⟨D, hDe⟩ : ∃ D, D = boxN r j := ⟨_, rfl⟩
      rw [← hDe] at hM hD hD1 e9 OD ⊢
      clear hDe
      have hmk := make_ints (D.length + r - 1) (by omega)
      rw [show ((D.length + r - 1 : Nat) : Int) = (D.length : Int) + r - 1 by omega] at hmk
      have c0 := BB.out.cell 0
      have c1 := BB.out.cell 1
      simp at c0 c1
      obtain ⟨wo, hwo⟩ : ∃ wo : World, wo = wr := ⟨_, rfl⟩
      subst hwo
      go_wp2_with fail
      clear c0 c1
      have RD := Lib.hid (own_rd OD.out)
      have hG : w.heap.size < wo.heap.size := BB.out.lt
      go_loopw [36] (fun i wr => ∃ (p : Nat) (ys : List Int), p ≤ D.length ∧ i = .int .i64 p ∧ Hid (BoxTo D r p 0 ys) ∧ Hid (Own wr w.heap.size (some ⟨wo.heap.size, 0, none⟩) (D.length + r - 1) ys) ∧ Below wo.heap.size wo wr) (fun i _ => D.length - (intOf i).toNat)
      case atStart => exact ⟨0, List.replicate (D.length + r - 1) 0, by omega, rfl, boxTo_start D r, own_made wo _ (by omega) (by simp only [maxLen]; omega), (Below.refl _ _).alloc (Nat.le_refl _) _⟩
      case round =>
        obtain ⟨p, ys, hp, rfl, hX, hO, hW⟩ := hrel
        have BB1 := BB.out.past hW
        have c0 := BB1.cell 0
        have c1 := BB1.cell 1
        simp at c0 c1
        by_cases hlt2 : p < D.length
        · obtain ⟨ad, rfl, hbl, hcell⟩ := RD.out.at_ hlt2
          have d1 := (hW.cell (by rw [block_add]; exact hbl)).trans (hcell p hlt2)
          have bD := hM.out _ (List.getElem_mem hlt2)
          clear hcell BB1
          obtain ⟨wq, hwq⟩ : ∃ wq : World, wq = wr := ⟨_, rfl⟩
          subst hwq
          go_wp2_with fail
          clear c0 c1 d1
          go_loopw [43] (fun i wr => ∃ (t : Nat) (ys : List Int), t ≤ r ∧ i = .int .i64 t ∧ Hid (BoxTo D r p t ys) ∧ Hid (Own wr w.heap.size (some ⟨wo.heap.size, 0, none⟩) (D.length + r - 1) ys) ∧ Below wo.heap.size wo wr) (fun i _ => r - (intOf i).toNat)
          case atStart => exact ⟨0, ys, by omega, rfl, hX, hO, hW⟩
          case round =>
            clear hX hO hW
            obtain ⟨t, zs, ht, rfl, hX, hO, hW⟩ := hrel
            by_cases hlt3 : t < r
            · have hpt : p + t < zs.length := by have := hX.out.1; omega
              have hc1 := own_cell hO.out hpt
              have hf1 := own_frozen hO.out (p + t)
              have bA := boxA_bd hM.out (by omega) (r := r) (i := p) (t := p + t) (by omega)
              rw [← boxTo_at hX.out hpt] at bA
              go_wp2
              go_roundw
              case rel => exact ⟨t + 1, zs.set (p + t) (zs[p + t] + D[p]), by omega, by go_num, boxTo_step hX.out hlt2 hpt, own_set hO.out _ _, hW.setCell (by simp) _⟩
              case measure => simp [intOf]; omega
            · obtain rfl : t = r := by omega
              go_wp2
              go_roundw
              case rel => exact ⟨p + 1, zs, by omega, by go_num, boxTo_row hX.out hlt2, hO, hW⟩
              case measure => simp [intOf]; omega
        · obtain rfl : p = D.length := by omega
          have e7 := boxTo_end hX.out
          subst e7
          clear c0 c1
          go_wp2
          go_roundw
          case rel => exact ⟨j + 1, some ⟨wo.heap.size, 0, none⟩, D.length + r - 1, by omega, by go_num, by rw [e9.out, box1_length], by rw [e9.out]; exact hO, hB.trans (hW.mono (by omega)), BB1⟩
          case measure => simp [intOf]; omega
    · obtain rfl : j = n := by omega
      have hD : (boxN r j).length ≤ 600 := by
        rw [hl1]
        have : j * (r - 1) ≤ 6 * 99 := Nat.mul_le_mul (by omega) (by omega)
        omega
      have hl0 : 0 < (boxN r j).length := by omega
      clear hl1
      go_wp2_with fail
      refine (max_any A c (boxN r j) _ (own_rd OD.out) (by omega) hl0).mono ?_; rintro e w2 ⟨m, rfl, hMx, rfl⟩
      have hb := maxTo_end hMx 1000000
      rcases Bool.eq_false_or_eq_true ((boxN r j).any bigB) with hbig | hbig
      · have t0 : 1000000 < m := by
          have : decide (1000000 < m) = true := hb.trans hbig
          simpa using this
        have E := Lib.hid (boxes_big (k := k) hbig)
        clear hb hMx hbig
        go_wp2_with fail
        go_ret2
        rw [E.out]
        exact ⟨none, 0, rfl, own_nil _ _, hB⟩
      · have t0 : m ≤ 1000000 := by
          have : decide (1000000 < m) = false := hb.trans hbig
          simpa using this
        have E := Lib.hid (boxes_yes hc hs hbig)
        clear hb hMx hbig
        go_wp2_with fail
        go_ret2
        rw [E.out]
        exact ⟨A, c, rfl, OD.out, hB⟩
theorem implBoxCoefs_any (o r k : Int) (w : World) :
    Calls Try.prog 47 #[.agg #[.int .i64 o, .int .i64 r, .int .i64 k]] w (RetLB w (boxes o r k)) := by
  rcases Bool.eq_false_or_eq_true (combOk o r k) with hc | hc
  · obtain ⟨⟨n1, n2⟩, ⟨r1, r2⟩, _⟩ := comb_parts hc
    by_cases hs : o * (r - 1) + 1 ≤ 100
    · obtain ⟨n, rfl⟩ : ∃ n : Nat, o = n := ⟨o.toNat, by omega⟩
      obtain ⟨q, rfl⟩ : ∃ q : Nat, r = q := ⟨r.toNat, by omega⟩
      exact implBoxes_core n q k w hc hs
    · have E := Lib.hid (boxes_wide (k := k) (show 100 < o * (r - 1) + 1 by omega))
      have m2 : o * (r - 1) ≤ 6 * 99 := Int.mul_le_mul (by omega) (by omega) (by omega) (by omega)
      have m1 : 100 ≤ o * (r - 1) := by omega
      clear hs
      go_enter Try.func47, Try.ntmps47
      go_wp2_with fail
      have B0 := Blk.new w 31 #[.int .i64 o, .int .i64 r, .int .i64 k]
      refine (implIsComb_any _ _ _ _).mono ?_; rintro e w1 ⟨rfl, h1⟩
      have B1 := B0.past h1
      have Hb := Lib.hid (thenB ((Below.refl _ _).alloc (Nat.le_refl _) _) h1)
      have c0 := B1.cell 0
      have c1 := B1.cell 1
      simp at c0 c1
      clear B0 h1 B1
      go_wp2_with fail
      go_ret2
      rw [E.out]
      exact ⟨none, 0, rfl, own_nil _ _, Hb.out⟩
  · have E := Lib.hid (boxes_noComb hc)
    go_enter Try.func47, Try.ntmps47
    go_wp2_with fail
    refine (implIsComb_any _ _ _ _).mono ?_; rintro e w1 ⟨rfl, h1⟩
    go_wp2_with fail
    go_ret2
    rw [E.out]
    exact ⟨none, 0, rfl, own_nil _ _, thenB ((Below.refl _ _).alloc (Nat.le_refl _) _) h1⟩
set_option maxHeartbeats 2000000 in
theorem specBoxes_core (n r : Nat) (k : Int) (w : World) (hc : combOk n r k = true) (hs : (n : Int) * (r - 1) + 1 ≤ 100) :
    Calls Try.prog 46 #[.agg #[.int .i64 n, .int .i64 r, .int .i64 k]] w (RetLB w (boxes n r k)) := by
  obtain ⟨⟨n1, n2⟩, ⟨r1, r2⟩, _⟩ := comb_parts hc
  have m0 : 0 ≤ (n : Int) * (r - 1) := Int.mul_nonneg (by omega) (by omega)
  have m1 : (n : Int) * (r - 1) ≤ 99 := by omega
  go_enter Try.func46, Try.ntmps46
  go_wp2_with fail
  have B0 := Blk.new w 31 #[.int .i64 n, .int .i64 r, .int .i64 k]
  refine (specIsComb_any _ _ _ _).mono ?_; rintro e w1 ⟨rfl, h1⟩
  have B1 := B0.past h1
  have Hb := Lib.hid (thenB ((Below.refl _ _).alloc (Nat.le_refl _) _) h1)
  have c0 := B1.cell 0
  have c1 := B1.cell 1
  simp at c0 c1
  have hz : w.heap.size < w1.heap.size := B1.lt
  clear B0 h1
  go_wp2_with fail
  have O0 : Own (w1.alloc (.cells #[.int .i64 1] 3)) w.heap.size (some ⟨w1.heap.size, 0, none⟩) 1 [1] := own_cells (xs := [1]) w1 #[.int .i64 1] (by omega) rfl (by simp [maxLen])
  have B2 := B1.alloc (.cells #[.int .i64 1] 3)
  have Hb2 := Lib.hid (Hb.out.alloc (by omega) (.cells #[.int .i64 1] 3))
  clear B1 c0 c1 Hb hz
  go_loopw [4, 5] (fun q i wr => ∃ (j : Nat) (A : Option Addr) (c : Nat), j ≤ n ∧ i = .int .i64 j ∧ q = .slice A (boxN r j).length c ∧ Hid (Own wr w.heap.size A c (boxN r j)) ∧ Below w.heap.size w wr ∧ Hid (Blk wr w.heap.size 31 #[.int .i64 n, .int .i64 r, .int .i64 k])) (fun _ i _ => n - (intOf i).toNat)
  case atStart => exact ⟨0, _, 1, by omega, rfl, rfl, O0, Hb2.out, B2⟩
  case round =>
    clear O0 B2 Hb2
    obtain ⟨j, A, c, hj, rfl, rfl, OD, hB, BB⟩ := hrel
    have hl1 := boxN_length (show 1 ≤ r by omega) j
    have c0 := BB.out.cell 0
    have c1 := BB.out.cell 1
    simp at c0 c1
    have hp := pow_small (r : Int) (by omega) (by omega) n (by omega)
    by_cases hlt : j < n
    · have hM := Lib.hid (boxN_bd (show 1 ≤ r by omega) j)
      have hp1 := pow_mono_exp (r : Int) (by omega) (j + 1) (n - (j + 1))
      rw [show j + 1 + (n - (j + 1)) = n by omega, Int.pow_succ] at hp1
      have hp2 := pow_ge_one (r : Int) (by omega) j
      have hD : (boxN r j).length ≤ 600 := by
        rw [hl1]
        have : j * (r - 1) ≤ 6 * 99 := Nat.mul_le_mul (by omega) (by omega)
        omega
      have hD1 : 1 ≤ (boxN r j).length := by omega
      have e9 := Lib.hid (show boxN r (j + 1) = box1 (boxN r j) r from rfl)
      have e8 : (r : Int) ^ j ≤ (r : Int) ^ j * r := by
        have := Int.mul_le_mul_of_nonneg_left (show (1 : Int) ≤ r by omega) (show 0 ≤ (r : Int) ^ j by omega)
        omega
      obtain ⟨M, hMe⟩ : ∃ M : Int, M = (r : Int) ^ j := ⟨_, rfl⟩
      rw [← hMe] at hM hp1 hp2 e8
      have hMr : M * r ≤ 1000000000000 := by omega
      clear hl1 hp hp1 hMe
      obtain ⟨D, hDe⟩ : ∃ D, D = boxN r j := ⟨_, rfl⟩
      rw [← hDe] at hM hD hD1 e9 OD ⊢
      clear hDe
      have hmk := make_ints (D.length + r - 1) (by omega)
      rw [show ((D.length + r - 1 : Nat) : Int) = (D.length : Int) + r - 1 by omega] at hmk
      obtain ⟨wo, hwo⟩ : ∃ wo : World, wo = wr := ⟨_, rfl⟩
      subst hwo
      go_wp2_with fail
      clear c0 c1
      have RD := Lib.hid (own_rd OD.out)
      have hG : w.heap.size < wo.heap.size := BB.out.lt
      go_loopw [41] (fun i wr => ∃ (p : Nat) (ys : List Int), p ≤ D.length ∧ i = .int .i64 p ∧ Hid (BoxTo D r p 0 ys) ∧ Hid (Own wr w.heap.size (some ⟨wo.heap.size, 0, none⟩) (D.length + r - 1) ys) ∧ Below wo.heap.size wo wr) (fun i _ => D.length - (intOf i).toNat)
      case atStart => exact ⟨0, List.replicate (D.length + r - 1) 0, by omega, rfl, boxTo_start D r, own_made wo _ (by omega) (by simp only [maxLen]; omega), (Below.refl _ _).alloc (Nat.le_refl _) _⟩
      case round =>
        obtain ⟨p, ys, hp, rfl, hX, hO, hW⟩ := hrel
        have BB1 := BB.out.past hW
        have c0 := BB1.cell 0
        have c1 := BB1.cell 1
        simp at c0 c1
        by_cases hlt2 : p < D.length
        · obtain ⟨ad, rfl, hbl, hcell⟩ := RD.out.at_ hlt2
          have d1 := (hW.cell (by rw [block_add]; exact hbl)).trans (hcell p hlt2)
          have bD := hM.out _ (List.getElem_mem hlt2)
          clear hcell BB1
          obtain ⟨wq, hwq⟩ : ∃ wq : World, wq = wr := ⟨_, rfl⟩
          subst hwq
          go_wp2_with fail
          clear c0 c1 d1
          go_loopw [9] (fun i wr => ∃ (t : Nat) (ys : List Int), t ≤ r ∧ i = .int .i64 t ∧ Hid (BoxTo D r p t ys) ∧ Hid (Own wr w.heap.size (some ⟨wo.heap.size, 0, none⟩) (D.length + r - 1) ys) ∧ Below wo.heap.size wo wr) (fun i _ => r - (intOf i).toNat)
          case atStart => exact ⟨0, ys, by omega, rfl, hX, hO, hW⟩
          case round =>
            clear hX hO hW
            obtain ⟨t, zs, ht, rfl, hX, hO, hW⟩ := hrel
            have BB2 := BB.out.past hW
            have c1 := BB2.cell 1
            simp at c1
            clear BB2
            by_cases hlt3 : t < r
            · have hpt : p + t < zs.length := by have := hX.out.1; omega
              have hc1 := own_cell hO.out hpt
              have hf1 := own_frozen hO.out (p + t)
              have bA := boxA_bd hM.out (by omega) (r := r) (i := p) (t := p + t) (by omega)
              rw [← boxTo_at hX.out hpt] at bA
              go_wp2
              go_roundw
              case rel => exact ⟨t + 1, zs.set (p + t) (zs[p + t] + D[p]), by omega, by go_num, boxTo_step hX.out hlt2 hpt, own_set hO.out _ _, hW.setCell (by simp) _⟩
              case measure => simp [intOf]; omega
            · obtain rfl : t = r := by omega
              go_wp2
              go_roundw
              case rel => exact ⟨p + 1, zs, by omega, by go_num, boxTo_row hX.out hlt2, hO, hW⟩
              case measure => simp [intOf]; omega
        · obtain rfl : p = D.length := by omega
          have e7 := boxTo_end hX.out
          subst e7
          clear c0 c1
          go_wp2
          go_roundw
          case rel => exact ⟨j + 1, some ⟨wo.heap.size, 0, none⟩, D.length + r - 1, by omega, by go_num, by rw [e9.out, box1_length], by rw [e9.out]; exact hO, hB.trans (hW.mono (by omega)), BB1⟩
          case measure => simp [intOf]; omega
    · obtain rfl : j = n := by omega
      have hD : (boxN r j).length ≤ 600 := by
        rw [hl1]
        have : j * (r - 1) ≤ 6 * 99 := Nat.mul_le_mul (by omega) (by omega)
        omega
      have hl0 : 0 < (boxN r j).length := by omega
      clear hl1
      clear c1
      have RD := Lib.hid (own_rd OD.out)
      have e9 := Lib.hid (show boxN r j = boxN r j from rfl)
      go_wp2_with fail
      clear c0
      go_loop [69] (fun i => ∃ p : Nat, p ≤ (boxN r j).length ∧ i = .int .i64 p ∧ AllTo (fun x => !bigB x) (boxN r j) p) (fun i => (boxN r j).length - (intOf i).toNat)
      case atStart => exact ⟨0, by omega, rfl, allTo_zero _ _⟩
      case round =>
        obtain ⟨p, hp2, rfl, ha⟩ := hrel
        by_cases hlt2 : p < (boxN r j).length
        · obtain ⟨ad, rfl, hbl, hcell⟩ := RD.out.at_ hlt2
          have d1 := hcell p hlt2
          clear hcell
          rcases Bool.eq_false_or_eq_true (bigB (boxN r j)[p]) with hv | hv
          · have t0 : 1000000 < (boxN r j)[p] := by simpa [bigB] using hv
            have E := Lib.hid (boxes_big (k := k) (List.any_eq_true.2 ⟨_, List.getElem_mem hlt2, hv⟩))
            clear hv
            go_wp2
            go_ret2
            rw [E.out]
            exact ⟨none, 0, rfl, own_nil _ _, hB⟩
          · have t0 : (boxN r j)[p] ≤ 1000000 := by simpa [bigB] using hv
            have hs2 := Lib.hid (allTo_step ha hlt2 (by simp [hv]))
            clear hv
            go_wp2
            go_round
            case rel => exact ⟨p + 1, by omega, by go_num, hs2.out⟩
            case measure => simp [intOf]; omega
        · obtain rfl : p = (boxN r j).length := by omega
          have hno : (boxN r j).any bigB = false := by
            have := allTo_end ha
            rw [List.any_eq_false]
            intro x hx
            have := List.all_eq_true.1 this x hx
            simpa using this
          have E := Lib.hid (boxes_yes hc hs hno)
          clear hno
          go_wp2
          go_ret2
          rw [E.out]
          exact ⟨A, c, rfl, OD.out, hB⟩
theorem specBoxCoefs_any (o r k : Int) (w : World) :
    Calls Try.prog 46 #[.agg #[.int .i64 o, .int .i64 r, .int .i64 k]] w (RetLB w (boxes o r k)) := by
  rcases Bool.eq_false_or_eq_true (combOk o r k) with hc | hc
  · obtain ⟨⟨n1, n2⟩, ⟨r1, r2⟩, _⟩ := comb_parts hc
    by_cases hs : o * (r - 1) + 1 ≤ 100
    · obtain ⟨n, rfl⟩ : ∃ n : Nat, o = n := ⟨o.toNat, by omega⟩
      obtain ⟨q, rfl⟩ : ∃ q : Nat, r = q := ⟨r.toNat, by omega⟩
      exact specBoxes_core n q k w hc hs
    · have E := Lib.hid (boxes_wide (k := k) (show 100 < o * (r - 1) + 1 by omega))
      have m2 : o * (r - 1) ≤ 6 * 99 := Int.mul_le_mul (by omega) (by omega) (by omega) (by omega)
      have m1 : 100 ≤ o * (r - 1) := by omega
      clear hs
      go_enter Try.func46, Try.ntmps46
      go_wp2_with fail
      have B0 := Blk.new w 31 #[.int .i64 o, .int .i64 r, .int .i64 k]
      refine (specIsComb_any _ _ _ _).mono ?_; rintro e w1 ⟨rfl, h1⟩
      have B1 := B0.past h1
      have Hb := Lib.hid (thenB ((Below.refl _ _).alloc (Nat.le_refl _) _) h1)
      have c0 := B1.cell 0
      have c1 := B1.cell 1
      simp at c0 c1
      clear B0 h1 B1
      go_wp2_with fail
      go_ret2
      rw [E.out]
      exact ⟨none, 0, rfl, own_nil _ _, Hb.out⟩
  · have E := Lib.hid (boxes_noComb hc)
    go_enter Try.func46, Try.ntmps46
    go_wp2_with fail
    refine (specIsComb_any _ _ _ _).mono ?_; rintro e w1 ⟨rfl, h1⟩
    go_wp2_with fail
    go_ret2
    rw [E.out]
    exact ⟨none, 0, rfl, own_nil _ _, thenB ((Below.refl _ _).alloc (Nat.le_refl _) _) h1⟩
end Go.Proofs.Ytkdlmddofnnngaa
