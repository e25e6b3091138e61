/- Contracts of the tests of words and of the two IsCombState. -/
import Derived.Test.YtfplecbacgcjgaaPCmb
import Derived.Test.YtfplecbacgcjgaaWrap
import Derived.Test.YtfplecbacgcjgaaBase
import Derived.IntWalk
namespace Go.Proofs.Ytfplecbacgcjgaa
open Go.RowKit
set_option linter.unusedVariables false
set_option linter.unusedSimpArgs false
def wordB (k v : Int) : Bool := wrapW v k == v
def stOk (o r k : Int) (s : CS) : Bool := combOk o r k && decide ((s.sums.length : Int) = o) && decide ((s.delays.length : Int) = o) && inB s.phase 0 (r - 1) && s.sums.all (wordB k) && s.delays.all (wordB k)
theorem words_all {k : Int} {l : List Int} (h : l.all (wordB k) = true) : Words k l := fun v hv => by
  have := List.all_eq_true.1 h v hv
  simpa [wordB] using this
theorem all_words {k : Int} {l : List Int} (h : Words k l) : l.all (wordB k) = true := List.all_eq_true.2 fun v hv => by simp [wordB, h v hv]
theorem stOk_parts {o r k : Int} {s : CS} (h : stOk o r k s = true) : combOk o r k = true ∧ StOk o r k s := by
  simp only [stOk, Bool.and_eq_true, decide_eq_true_eq] at h
  obtain ⟨⟨⟨⟨⟨h1, h2⟩, h3⟩, h4⟩, h5⟩, h6⟩ := h
  have := inB_of h4
  exact ⟨h1, h2, h3, this.1, by omega, words_all h5, words_all h6⟩
theorem stOk_of {o r k : Int} {s : CS} (hc : combOk o r k = true) (h : StOk o r k s) : stOk o r k s = true := by
  have a3 := h.p0
  have a4 := h.p1
  simp only [stOk, Bool.and_eq_true, decide_eq_true_eq]
  exact ⟨⟨⟨⟨⟨hc, h.ls⟩, h.ld⟩, inB_true a3 (by omega)⟩, all_words h.ws⟩, all_words h.wd⟩
set_option maxHeartbeats 400000 in
theorem l5Words_any (A : Option Addr) (c : Nat) (xs : List Int) (k : Int) (w : World) (hr : Rd w w.heap.size A xs) (hn : xs.length ≤ 9223372036854775807) (k2 : 2 ≤ k) (k3 : k ≤ 62) :
    Calls Try.prog 71 #[.slice A xs.length c, .int .i64 k] w fun e w' => e = .returned (.bool (xs.all (wordB k))) ∧ w = w' := by
  go_enter Try.func71, Try.ntmps71
  go_wp2_with fail
  go_loop [9] (fun i => ∃ j : Nat, j ≤ xs.length ∧ i = .int .i64 j ∧ Hid (AllTo (wordB k) xs j)) (fun i => xs.length - (intOf i).toNat)
  case atStart => exact ⟨0, by omega, rfl, allTo_zero _ _⟩
  case round =>
    obtain ⟨j, hj, rfl, hA⟩ := hrel
    by_cases hlt : j < xs.length
    · obtain ⟨ad, rfl, hbl, hcell⟩ := hr.at_ hlt
      have hc1 := hcell j hlt
      rw [getD_at hlt] at hc1
      clear hr hcell
      go_wp2_with fail
      refine (l5Wrap_any _ _ _ k2 k3).mono ?_; rintro e w' ⟨rfl, rfl⟩
      by_cases he : wrapW xs[j] k = xs[j]
      · have HB : Hid (wordB k xs[j] = true) := by simp [Hid, wordB, he]
        rw [he]
        have t0 : (xs[j] != xs[j]) = false := by simp
        clear he
        go_wp2
        go_round
        case rel => exact ⟨j + 1, by omega, by go_num, allTo_step hA.out hlt HB.out⟩
        case measure => simp [intOf]; omega
      · have HB : Hid (xs.all (wordB k) = false) := all_no hlt (by simp [wordB, he])
        have t0 : (wrapW xs[j] k != xs[j]) = true := by simpa using he
        clear he
        go_wp2
        go_ret
        exact ⟨ret_bool HB.out.symm, rfl⟩
    · obtain rfl : j = xs.length := by omega
      have HB : Hid (xs.all (wordB k) = true) := allTo_end hA.out
      go_wp2
      go_ret
      exact ⟨ret_bool HB.out.symm, rfl⟩
theorem isCombState1_any (o r k v : Int) (w : World) (g : Nat) (k2 : 2 ≤ k) (k3 : k ≤ 62) (h2 : w.cell? ⟨g, 2, none⟩ = some (.int .i64 k)) :
    Calls Try.prog 72 #[.int .i64 v, .pointer (some ⟨g, 0, none⟩)] w fun e w' => e = .returned (.bool (!wordB k v)) ∧ Below w.heap.size w w' := by
  have e : wrapWord v k = wrapW v k := wrapWord_in k2 k3
  go_enter Try.func72, Try.ntmps72
  go_wp2_with fail
  refine (implWrapWord_any _ _ _).mono ?_; rintro e w' ⟨rfl, rfl⟩
  rw [e]
  go_wp2
  go_ret
  exact ⟨ret_bool (by simp [wordB, bne]), Below.refl _ _⟩
set_option maxHeartbeats 600000 in
theorem implIsCombState_any (o r k : Int) (A : Option Addr) (c : Nat) (xs : List Int) (A' : Option Addr) (c' : Nat) (ys : List Int) (p : Int) (w : World) (hr : Rd w w.heap.size A xs) (hr' : Rd w w.heap.size A' ys) (hn : xs.length ≤ 1048576) (hn' : ys.length ≤ 1048576) :
    Calls Try.prog 34 #[.agg #[.int .i64 o, .int .i64 r, .int .i64 k], .agg #[.slice A xs.length c, .slice A' ys.length c', .int .i64 p]] w fun e w' => e = .returned (.bool (stOk o r k ⟨xs, ys, p⟩)) ∧ Below w.heap.size w w' := by
  have hb0 : Below w.heap.size w ((w.alloc (.cells #[.int .i64 o, .int .i64 r, .int .i64 k] 24)).alloc (.cells #[.slice A xs.length c, .slice A' ys.length c', .int .i64 p] 35)) := ((Below.refl _ _).alloc (Nat.le_refl _) _).alloc (by simp) _
  have B0 := (Blk.new w 24 #[.int .i64 o, .int .i64 r, .int .i64 k]).alloc (.cells #[.slice A xs.length c, .slice A' ys.length c', .int .i64 p] 35)
  have D0 := Blk.new (w.alloc (.cells #[.int .i64 o, .int .i64 r, .int .i64 k] 24)) 35 #[.slice A xs.length c, .slice A' ys.length c', .int .i64 p]
  simp only [World.size_alloc] at D0
  have R0 := Lib.hid (hr.past hb0)
  have R0' := Lib.hid (hr'.past hb0)
  have Hb0 := Lib.hid hb0
  clear hb0 hr hr'
  go_enter Try.func34, Try.ntmps34
  go_wp2_with fail
  refine (implIsComb_any _ _ _ _).mono ?_; rintro e w1 ⟨rfl, h1⟩
  have HB := Lib.hid (B0.past h1)
  have HD := Lib.hid (D0.past h1)
  have Hb1 := Lib.hid (thenB Hb0.out h1)
  have R1 := Lib.hid (R0.out.past h1)
  have R1' := Lib.hid (R0'.out.past h1)
  clear B0 D0 h1 R0 R0' Hb0
  have q0 := HB.out.cell 0
  have q1 := HB.out.cell 1
  have q2 := HB.out.cell 2
  have d0 := HD.out.cell 0
  have d1 := HD.out.cell 1
  have d2 := HD.out.cell 2
  simp at q0 q1 q2 d0 d1 d2
  rcases Bool.eq_false_or_eq_true (combOk o r k) with hc | hc
  · obtain ⟨⟨o1, o2⟩, ⟨r1, r2⟩, k2, k3⟩ := comb_parts hc
    have HC := Lib.hid hc
    rw [hc]
    clear hc
    by_cases h1 : (xs.length : Int) = o
    · have t1 : ((xs.length : Int) != o) = false := by simp [h1]
      have Hl1 := Lib.hid h1
      clear h1
      by_cases h2 : (ys.length : Int) = o
      · have t2 : ((ys.length : Int) != o) = false := by simp [h2]
        have Hl2 := Lib.hid h2
        clear h2
        by_cases h3 : 0 ≤ p
        · by_cases h4 : p < r
          · have hph : inB p 0 (r - 1) = true := inB_true h3 (by omega)
            have hst : stOk o r k ⟨xs, ys, p⟩ = (xs.all (wordB k) && ys.all (wordB k)) := by simp [stOk, HC.out, Hl1.out, Hl2.out, hph]
            have HY := Lib.hid hst
            clear hst
            clear hph
            have hT : Hid (TestAt 72 ⟨w.heap.size, 0, none⟩ (fun v => !wordB k v) w1) := by
              intro v W hW
              exact isCombState1_any o r k v W w.heap.size k2 k3 ((HB.out.past hW).cell 2)
            go_wp2_with fail
            refine (containsFunc_any _ _ _ A c xs _ R1.out (by omega) hT (run_enter Try.func72 (by kernel_rfl) rfl)).mono ?_; rintro e w2 ⟨rfl, h2⟩
            have Hb2 := Lib.hid (thenB Hb1.out h2)
            have R2' := Lib.hid (R1'.out.past h2)
            have HB2 := Lib.hid (HB.out.past h2)
            have HD2 := Lib.hid (HD.out.past h2)
            clear q0 q1 q2 d0 d1 d2 hT h2
            have d1 := HD2.out.cell 1
            simp at d1
            have e1 := any_not_all (wordB k) xs
            rcases Bool.eq_false_or_eq_true (xs.any fun v => !wordB k v) with ha | ha
            · have hx : xs.all (wordB k) = false := by rw [← e1, ha]; rfl
              have HZ : Hid (stOk o r k ⟨xs, ys, p⟩ = false) := by show _ = _; rw [HY.out, hx]; rfl
              rw [ha]
              clear hx e1 ha
              go_wp2_with fail
              go_ret
              exact ⟨ret_bool HZ.out.symm, Hb2.out⟩
            · have hx : xs.all (wordB k) = true := by rw [← e1, ha]; rfl
              have HZ : Hid (stOk o r k ⟨xs, ys, p⟩ = ys.all (wordB k)) := by show _ = _; rw [HY.out, hx]; rfl
              have hT : Hid (TestAt 72 ⟨w.heap.size, 0, none⟩ (fun v => !wordB k v) w2) := by
                intro v W hW
                exact isCombState1_any o r k v W w.heap.size k2 k3 ((HB2.out.past hW).cell 2)
              rw [ha]
              clear hx e1 ha
              go_wp2_with fail
              refine (containsFunc_any _ _ _ A' c' ys _ R2'.out (by omega) hT (run_enter Try.func72 (by kernel_rfl) rfl)).mono ?_; rintro e w3 ⟨rfl, h3⟩
              have HZ2 : Hid (stOk o r k ⟨xs, ys, p⟩ = !(ys.any fun v => !wordB k v)) := by show _ = _; rw [HZ.out, any_not_all]
              go_wp2_with fail
              go_ret
              exact ⟨ret_bool HZ2.out.symm, thenB Hb2.out h3⟩
          · have hph : inB p 0 (r - 1) = false := inB_hi (by omega)
            have HY : Hid (stOk o r k ⟨xs, ys, p⟩ = false) := by show _ = _; simp [stOk, hph]
            clear hph
            go_wp2_with fail
            go_ret
            exact ⟨ret_bool HY.out.symm, Hb1.out⟩
        · have hph : inB p 0 (r - 1) = false := inB_lo (by omega)
          have HY : Hid (stOk o r k ⟨xs, ys, p⟩ = false) := by show _ = _; simp [stOk, hph]
          clear hph
          go_wp2_with fail
          go_ret
          exact ⟨ret_bool HY.out.symm, Hb1.out⟩
      · have t2 : ((ys.length : Int) != o) = true := by simp [h2]
        have HY : Hid (stOk o r k ⟨xs, ys, p⟩ = false) := by show _ = _; simp [stOk, h2]
        clear h2
        go_wp2_with fail
        go_ret
        exact ⟨ret_bool HY.out.symm, Hb1.out⟩
    · have t1 : ((xs.length : Int) != o) = true := by simp [h1]
      have HY : Hid (stOk o r k ⟨xs, ys, p⟩ = false) := by show _ = _; simp [stOk, h1]
      clear h1
      go_wp2_with fail
      go_ret
      exact ⟨ret_bool HY.out.symm, Hb1.out⟩
  · have HY : Hid (stOk o r k ⟨xs, ys, p⟩ = false) := by show _ = _; simp [stOk, hc]
    rw [hc]
    go_wp2_with fail
    go_ret
    exact ⟨ret_bool HY.out.symm, Hb1.out⟩
set_option maxHeartbeats 600000 in
theorem specIsCombState_any (o r k : Int) (A : Option Addr) (c : Nat) (xs : List Int) (A' : Option Addr) (c' : Nat) (ys : List Int) (p : Int) (w : World) (hr : Rd w w.heap.size A xs) (hr' : Rd w w.heap.size A' ys) (hn : xs.length ≤ 1048576) (hn' : ys.length ≤ 1048576) :
    Calls Try.prog 31 #[.agg #[.int .i64 o, .int .i64 r, .int .i64 k], .agg #[.slice A xs.length c, .slice A' ys.length c', .int .i64 p]] w fun e w' => e = .returned (.bool (stOk o r k ⟨xs, ys, p⟩)) ∧ Below w.heap.size w w' := by
  have hb0 : Below w.heap.size w ((w.alloc (.cells #[.int .i64 o, .int .i64 r, .int .i64 k] 24)).alloc (.cells #[.slice A xs.length c, .slice A' ys.length c', .int .i64 p] 35)) := ((Below.refl _ _).alloc (Nat.le_refl _) _).alloc (by simp) _
  have B0 := (Blk.new w 24 #[.int .i64 o, .int .i64 r, .int .i64 k]).alloc (.cells #[.slice A xs.length c, .slice A' ys.length c', .int .i64 p] 35)
  have D0 := Blk.new (w.alloc (.cells #[.int .i64 o, .int .i64 r, .int .i64 k] 24)) 35 #[.slice A xs.length c, .slice A' ys.length c', .int .i64 p]
  simp only [World.size_alloc] at D0
  have R0 := Lib.hid (hr.past hb0)
  have R0' := Lib.hid (hr'.past hb0)
  have Hb0 := Lib.hid hb0
  clear hb0 hr hr'
  go_enter Try.func31, Try.ntmps31
  go_wp2_with fail
  refine (specIsComb_any _ _ _ _).mono ?_; rintro e w1 ⟨rfl, h1⟩
  have HB := Lib.hid (B0.past h1)
  have HD := Lib.hid (D0.past h1)
  have Hb1 := Lib.hid (thenB Hb0.out h1)
  have R1 := Lib.hid (R0.out.past h1)
  have R1' := Lib.hid (R0'.out.past h1)
  clear B0 D0 h1 R0 R0' Hb0
  have q0 := HB.out.cell 0
  have q1 := HB.out.cell 1
  have q2 := HB.out.cell 2
  have d0 := HD.out.cell 0
  have d1 := HD.out.cell 1
  have d2 := HD.out.cell 2
  simp at q0 q1 q2 d0 d1 d2
  rcases Bool.eq_false_or_eq_true (combOk o r k) with hc | hc
  · obtain ⟨⟨o1, o2⟩, ⟨r1, r2⟩, k2, k3⟩ := comb_parts hc
    have HC := Lib.hid hc
    rw [hc]
    clear hc
    by_cases h1 : (xs.length : Int) = o
    · have t1 : ((xs.length : Int) == o) = true := by simp [h1]
      have Hl1 := Lib.hid h1
      clear h1
      by_cases h2 : (ys.length : Int) = o
      · have t2 : ((ys.length : Int) == o) = true := by simp [h2]
        have Hl2 := Lib.hid h2
        clear h2
        by_cases h3 : 0 ≤ p
        · by_cases h4 : p < r
          · have hph : inB p 0 (r - 1) = true := inB_true h3 (by omega)
            have hst : stOk o r k ⟨xs, ys, p⟩ = (xs.all (wordB k) && ys.all (wordB k)) := by simp [stOk, HC.out, Hl1.out, Hl2.out, hph]
            have HY := Lib.hid hst
            clear hst
            have hw1 : IntKind.i64.wrap (r - 1) = r - 1 := Go.IntWalk.i64_in _ (by omega)
            go_wp2_with fail
            refine (l1In_any _ _ _ _).mono ?_; rintro e w' ⟨rfl, rfl⟩
            rw [hph]
            clear hph
            rcases Bool.eq_false_or_eq_true (xs.all (wordB k)) with ha | ha
            · have HZ : Hid (stOk o r k ⟨xs, ys, p⟩ = ys.all (wordB k)) := by show _ = _; rw [HY.out, ha]; rfl
              have hcall := l5Words_any A c xs k w1 R1.out (by omega) k2 k3
              rw [ha] at hcall
              have Hc := Lib.hid hcall
              clear ha hcall
              go_wp2_with fail
              refine Hc.out.mono ?_; rintro e w' ⟨rfl, rfl⟩
              go_wp2_with fail
              refine (l5Words_any A' c' ys k _ R1'.out (by omega) k2 k3).mono ?_; rintro e w' ⟨rfl, rfl⟩
              go_wp2_with fail
              go_ret
              exact ⟨ret_bool HZ.out.symm, Hb1.out⟩
            · have HZ : Hid (stOk o r k ⟨xs, ys, p⟩ = false) := by show _ = _; rw [HY.out, ha]; rfl
              have hcall := l5Words_any A c xs k w1 R1.out (by omega) k2 k3
              rw [ha] at hcall
              have Hc := Lib.hid hcall
              clear ha hcall
              go_wp2_with fail
              refine Hc.out.mono ?_; rintro e w' ⟨rfl, rfl⟩
              go_wp2_with fail
              go_ret
              exact ⟨ret_bool HZ.out.symm, Hb1.out⟩
          · have hph : inB p 0 (r - 1) = false := inB_hi (by omega)
            have HY : Hid (stOk o r k ⟨xs, ys, p⟩ = false) := by show _ = _; simp [stOk, hph]
            have hw1 : IntKind.i64.wrap (r - 1) = r - 1 := Go.IntWalk.i64_in _ (by omega)
            go_wp2_with fail
            refine (l1In_any _ _ _ _).mono ?_; rintro e w' ⟨rfl, rfl⟩
            rw [hph]
            clear hph
            go_wp2_with fail
            go_ret
            exact ⟨ret_bool HY.out.symm, Hb1.out⟩
        · have hph : inB p 0 (r - 1) = false := inB_lo (by omega)
          have HY : Hid (stOk o r k ⟨xs, ys, p⟩ = false) := by show _ = _; simp [stOk, hph]
          have hw1 : IntKind.i64.wrap (r - 1) = r - 1 := Go.IntWalk.i64_in _ (by omega)
          go_wp2_with fail
          refine (l1In_any _ _ _ _).mono ?_; rintro e w' ⟨rfl, rfl⟩
          rw [hph]
          clear hph
          go_wp2_with fail
          go_ret
          exact ⟨ret_bool HY.out.symm, Hb1.out⟩
      · have t2 : ((ys.length : Int) == o) = false := by simp [h2]
        have HY : Hid (stOk o r k ⟨xs, ys, p⟩ = false) := by show _ = _; simp [stOk, h2]
        clear h2
        go_wp2_with fail
        go_ret
        exact ⟨ret_bool HY.out.symm, Hb1.out⟩
    · have t1 : ((xs.length : Int) == o) = false := by simp [h1]
      have HY : Hid (stOk o r k ⟨xs, ys, p⟩ = false) := by show _ = _; simp [stOk, h1]
      clear h1
      go_wp2_with fail
      go_ret
      exact ⟨ret_bool HY.out.symm, Hb1.out⟩
  · have HY : Hid (stOk o r k ⟨xs, ys, p⟩ = false) := by show _ = _; simp [stOk, hc]
    rw [hc]
    go_wp2_with fail
    go_ret
    exact ⟨ret_bool HY.out.symm, Hb1.out⟩
end Go.Proofs.Ytfplecbacgcjgaa
