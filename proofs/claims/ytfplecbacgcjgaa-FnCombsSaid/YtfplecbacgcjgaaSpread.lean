/- Contracts of the two SpreadComb. -/
import Derived.Test.YtfplecbacgcjgaaStuff
import Derived.Test.YtfplecbacgcjgaaDiffOf
namespace Go.Proofs.Ytfplecbacgcjgaa
open Go.RowKit
set_option linter.unusedVariables false
set_option linter.unusedSimpArgs false
def spreadC (o r k : Int) (xs : List Int) : List Int × Bool :=
  if inB o 1 6 && inB r 1 100 && inB k 2 62 then
    (if (diffOf xs o).2 then (if (stuff (diffOf xs o).1 r).2 then integrals (stuff (diffOf xs o).1 r).1 o else ([], false)) else ([], false))
  else ([], false)
theorem spreadC_len (o r k : Int) (xs : List Int) : (spreadC o r k xs).1.length ≤ 1000 := by
  unfold spreadC
  split
  · split
    · split
      · exact integrals_len _ _
      · simp
    · simp
  · simp
theorem spreadC_no {o r k : Int} {xs : List Int} (h : combOk o r k = false) : spreadC o r k xs = ([], false) := by
  unfold combOk at h; simp [spreadC, h]
theorem spreadC_no1 {o r k : Int} {xs : List Int} (h : (diffOf xs o).2 = false) : spreadC o r k xs = ([], false) := by
  unfold spreadC; split
  · rw [if_neg (by rw [h]; simp)]
  · rfl
theorem spreadC_no2 {o r k : Int} {xs : List Int} (h1 : (diffOf xs o).2 = true) (h : (stuff (diffOf xs o).1 r).2 = false) : spreadC o r k xs = ([], false) := by
  unfold spreadC; split
  · simp only [h1, h]; simp
  · rfl
theorem spreadC_yes {o r k : Int} {xs : List Int} (h0 : combOk o r k = true) (h1 : (diffOf xs o).2 = true) (h2 : (stuff (diffOf xs o).1 r).2 = true) : spreadC o r k xs = integrals (stuff (diffOf xs o).1 r).1 o := by
  unfold combOk at h0; unfold spreadC
  rw [if_pos h0, if_pos h1, if_pos h2]
set_option maxHeartbeats 600000 in
theorem implSpreadComb_any (o r k : Int) (A : Option Addr) (c : Nat) (xs : List Int) (w : World) (hr : Rd w w.heap.size A xs) (hn : xs.length ≤ 1048576) :
    Calls Try.prog 47 #[.agg #[.int .i64 o, .int .i64 r, .int .i64 k], .slice A xs.length c] w (RetLB w (spreadC o r k xs)) := by
  have hb0 : Below w.heap.size w (w.alloc (.cells #[.int .i64 o, .int .i64 r, .int .i64 k] 24)) := (Below.refl _ _).alloc (Nat.le_refl _) _
  have B0 := Blk.new w 24 #[.int .i64 o, .int .i64 r, .int .i64 k]
  have R0 := hr.past hb0
  have Hb0 := Lib.hid hb0
  have q0 := B0.cell 0
  have q1 := B0.cell 1
  have q2 := B0.cell 2
  simp at q0 q1 q2
  clear hb0 hr
  go_enter Try.func47, Try.ntmps47
  go_wp2_with fail
  refine (implIsComb_any _ _ _ _).mono ?_; rintro e w1 ⟨rfl, h1⟩
  have HB1 := Lib.hid (B0.past h1)
  have R1 := Lib.hid (R0.past h1)
  have Hb1 := Lib.hid (thenB Hb0.out h1)
  clear q0 q1 q2 B0 R0 h1 Hb0
  have q0 := HB1.out.cell 0
  have q1 := HB1.out.cell 1
  simp at q0 q1
  rcases Bool.eq_false_or_eq_true (combOk o r k) with hc | hc
  · rw [hc]
    have HC := Lib.hid hc
    have H1n : Hid ((diffOf xs o).2 = false → spreadC o r k xs = ([], false)) := fun h => spreadC_no1 h
    have H2n : Hid ((diffOf xs o).2 = true → (stuff (diffOf xs o).1 r).2 = false → spreadC o r k xs = ([], false)) := fun h h2 => spreadC_no2 h h2
    have H2y : Hid ((diffOf xs o).2 = true → (stuff (diffOf xs o).1 r).2 = true → spreadC o r k xs = integrals (stuff (diffOf xs o).1 r).1 o) := fun h h2 => spreadC_yes HC.out h h2
    have hcall := implDifferencesOf_any A c xs o w1 R1.out hn
    have hdl := diffOf_len xs o
    obtain ⟨D, hD⟩ : ∃ D, D = diffOf xs o := ⟨_, rfl⟩
    rw [← hD] at hcall hdl H1n H2n H2y
    have Hc := Lib.hid hcall
    clear hc hcall hD R1
    go_wp2_with fail
    refine Hc.out.mono ?_; rintro e w2 ⟨A2, c2, rfl, O2, h2⟩
    have HB2 := Lib.hid (HB1.out.past h2)
    have Hb2 := Lib.hid (thenB Hb1.out h2)
    have R2 := Lib.hid (own_rd O2)
    clear q0 q1 HB1 Hb1 h2 O2 Hc
    have q0 := HB2.out.cell 0
    have q1 := HB2.out.cell 1
    simp at q0 q1
    rcases Bool.eq_false_or_eq_true D.2 with hd | hd
    · rw [hd]
      have K2n := Lib.hid (H2n.out hd)
      have K2y := Lib.hid (H2y.out hd)
      have hcall := implStuff_any A2 c2 D.1 r w2 R2.out (by omega)
      have hel := stuff_len D.1 r
      obtain ⟨E, hE⟩ : ∃ E, E = stuff D.1 r := ⟨_, rfl⟩
      rw [← hE] at hcall hel K2n K2y
      have Hc := Lib.hid hcall
      clear hd hcall hE R2 H1n H2n H2y
      go_wp2_with fail
      refine Hc.out.mono ?_; rintro e w3 ⟨A3, c3, rfl, O3, h3⟩
      have HB3 := Lib.hid (HB2.out.past h3)
      have Hb3 := Lib.hid (thenB Hb2.out h3)
      have R3 := Lib.hid (own_rd O3)
      clear q0 q1 HB2 Hb2 h3 O3 Hc
      have q0 := HB3.out.cell 0
      have q1 := HB3.out.cell 1
      simp at q0 q1
      rcases Bool.eq_false_or_eq_true E.2 with he | he
      · rw [he]
        have HY := Lib.hid (K2y.out he)
        have hcall := implIntegralsOf_any A3 c3 E.1 o w3 R3.out (by omega)
        obtain ⟨I, hI⟩ : ∃ I, I = integrals E.1 o := ⟨_, rfl⟩
        rw [← hI] at hcall HY
        have Hc := Lib.hid hcall
        clear he hcall hI R3 K2n K2y
        go_wp2_with fail
        refine Hc.out.mono ?_; rintro e w4 ⟨A4, c4, rfl, O4, h4⟩
        go_wp2_with fail
        go_ret2
        rw [HY.out]
        exact ⟨A4, c4, rfl, own_mono O4 Hb3.out.size, thenB Hb3.out h4⟩
      · rw [he]
        have HY := Lib.hid (K2n.out he)
        clear he
        go_wp2_with fail
        go_ret2
        rw [HY.out]
        exact ⟨none, 0, rfl, own_nil _ _, Hb3.out⟩
    · rw [hd]
      have HY := Lib.hid (H1n.out hd)
      clear hd
      go_wp2_with fail
      go_ret2
      rw [HY.out]
      exact ⟨none, 0, rfl, own_nil _ _, Hb2.out⟩
  · rw [hc]
    have HY : Hid (spreadC o r k xs = ([], false)) := spreadC_no hc
    clear hc
    go_wp2_with fail
    go_ret2
    rw [HY.out]
    exact ⟨none, 0, rfl, own_nil _ _, Hb1.out⟩
set_option maxHeartbeats 600000 in
theorem specSpreadComb_any (o r k : Int) (A : Option Addr) (c : Nat) (xs : List Int) (w : World) (hr : Rd w w.heap.size A xs) (hn : xs.length ≤ 1048576) :
    Calls Try.prog 46 #[.agg #[.int .i64 o, .int .i64 r, .int .i64 k], .slice A xs.length c] w (RetLB w (spreadC o r k xs)) := by
  have hb0 : Below w.heap.size w (w.alloc (.cells #[.int .i64 o, .int .i64 r, .int .i64 k] 24)) := (Below.refl _ _).alloc (Nat.le_refl _) _
  have B0 := Blk.new w 24 #[.int .i64 o, .int .i64 r, .int .i64 k]
  have R0 := hr.past hb0
  have Hb0 := Lib.hid hb0
  have q0 := B0.cell 0
  have q1 := B0.cell 1
  have q2 := B0.cell 2
  simp at q0 q1 q2
  clear hb0 hr
  go_enter Try.func46, Try.ntmps46
  go_wp2_with fail
  refine (specIsComb_any _ _ _ _).mono ?_; rintro e w1 ⟨rfl, h1⟩
  have HB1 := Lib.hid (B0.past h1)
  have R1 := Lib.hid (R0.past h1)
  have Hb1 := Lib.hid (thenB Hb0.out h1)
  clear q0 q1 q2 B0 R0 h1 Hb0
  have q0 := HB1.out.cell 0
  have q1 := HB1.out.cell 1
  simp at q0 q1
  rcases Bool.eq_false_or_eq_true (combOk o r k) with hc | hc
  · rw [hc]
    have HC := Lib.hid hc
    have H1n : Hid ((diffOf xs o).2 = false → spreadC o r k xs = ([], false)) := fun h => spreadC_no1 h
    have H2n : Hid ((diffOf xs o).2 = true → (stuff (diffOf xs o).1 r).2 = false → spreadC o r k xs = ([], false)) := fun h h2 => spreadC_no2 h h2
    have H2y : Hid ((diffOf xs o).2 = true → (stuff (diffOf xs o).1 r).2 = true → spreadC o r k xs = integrals (stuff (diffOf xs o).1 r).1 o) := fun h h2 => spreadC_yes HC.out h h2
    have hcall := specDifferencesOf_any A c xs o w1 R1.out hn
    have hdl := diffOf_len xs o
    obtain ⟨D, hD⟩ : ∃ D, D = diffOf xs o := ⟨_, rfl⟩
    rw [← hD] at hcall hdl H1n H2n H2y
    have Hc := Lib.hid hcall
    clear hc hcall hD R1
    go_wp2_with fail
    refine Hc.out.mono ?_; rintro e w2 ⟨A2, c2, rfl, O2, h2⟩
    have HB2 := Lib.hid (HB1.out.past h2)
    have Hb2 := Lib.hid (thenB Hb1.out h2)
    have R2 := Lib.hid (own_rd O2)
    clear q0 q1 HB1 Hb1 h2 O2 Hc
    have q0 := HB2.out.cell 0
    have q1 := HB2.out.cell 1
    simp at q0 q1
    rcases Bool.eq_false_or_eq_true D.2 with hd | hd
    · rw [hd]
      have K2n := Lib.hid (H2n.out hd)
      have K2y := Lib.hid (H2y.out hd)
      have hcall := specStuff_any A2 c2 D.1 r w2 R2.out (by omega)
      have hel := stuff_len D.1 r
      obtain ⟨E, hE⟩ : ∃ E, E = stuff D.1 r := ⟨_, rfl⟩
      rw [← hE] at hcall hel K2n K2y
      have Hc := Lib.hid hcall
      clear hd hcall hE R2 H1n H2n H2y
      go_wp2_with fail
      refine Hc.out.mono ?_; rintro e w3 ⟨A3, c3, rfl, O3, h3⟩
      have HB3 := Lib.hid (HB2.out.past h3)
      have Hb3 := Lib.hid (thenB Hb2.out h3)
      have R3 := Lib.hid (own_rd O3)
      clear q0 q1 HB2 Hb2 h3 O3 Hc
      have q0 := HB3.out.cell 0
      have q1 := HB3.out.cell 1
      simp at q0 q1
      rcases Bool.eq_false_or_eq_true E.2 with he | he
      · rw [he]
        have HY := Lib.hid (K2y.out he)
        have hcall := specIntegralsOf_any A3 c3 E.1 o w3 R3.out (by omega)
        obtain ⟨I, hI⟩ : ∃ I, I = integrals E.1 o := ⟨_, rfl⟩
        rw [← hI] at hcall HY
        have Hc := Lib.hid hcall
        clear he hcall hI R3 K2n K2y
        go_wp2_with fail
        refine Hc.out.mono ?_; rintro e w4 ⟨A4, c4, rfl, O4, h4⟩
        go_wp2_with fail
        go_ret2
        rw [HY.out]
        exact ⟨A4, c4, rfl, own_mono O4 Hb3.out.size, thenB Hb3.out h4⟩
      · rw [he]
        have HY := Lib.hid (K2n.out he)
        clear he
        go_wp2_with fail
        go_ret2
        rw [HY.out]
        exact ⟨none, 0, rfl, own_nil _ _, Hb3.out⟩
    · rw [hd]
      have HY := Lib.hid (H1n.out hd)
      clear hd
      go_wp2_with fail
      go_ret2
      rw [HY.out]
      exact ⟨none, 0, rfl, own_nil _ _, Hb2.out⟩
  · rw [hc]
    have HY : Hid (spreadC o r k xs = ([], false)) := spreadC_no hc
    clear hc
    go_wp2_with fail
    go_ret2
    rw [HY.out]
    exact ⟨none, 0, rfl, own_nil _ _, Hb1.out⟩
end Go.Proofs.Ytfplecbacgcjgaa
