/- Modulators that may be none: OrderModulator, SafeInput, RunModulator of the reference at any arguments. -/
import Derived.Test.YtgkijkenbjjnmaaGreatDoorGenB
import Derived.Test.YtgkijkenbjjnmaaGreatDoorSpecM2
namespace Go.Proofs.YtgkijkenbjjnmaaGreatDoor
open Go.RowKit
set_option linter.unusedVariables false
set_option linter.unusedSimpArgs false
def RetOrd (w : World) (e : Ending) (w' : World) : Prop := ∃ (l s : Int) (X : List Int) (A : Option Addr) (c : Nat) (b : Bool), e = .returned (.tuple #[.agg #[.int .i64 l, .int .i64 s, .slice A X.length c], .bool b]) ∧ X.length ≤ 6 ∧ Own w' w.heap.size A c X ∧ Below w.heap.size w w'
set_option maxHeartbeats 1000000 in
theorem specOrder_no (l s : Int) (k : Nat) (w : World) (hq : quantOk l s = false) (k1 : 1 ≤ k) (k2 : k ≤ 6) :
    Calls Tryz.prog 39 #[.agg #[.int .i64 l, .int .i64 s], .int .i64 k] w (RetOrd w) := by
  have hce : coefsI (k : Int) = coefs k := coefsI_yes k k2
  have hcall := fun W => specDifferenceCoefs_any (k : Int) W
  rw [hce] at hcall
  have Hc := Lib.hid hcall
  have HDl : Hid ((coefs k).length = k + 1) := coefs_length k
  have hqc := fun W => specIsQuantiser_any l s W
  rw [hq] at hqc
  have HQ := Lib.hid hqc
  obtain ⟨D, hD⟩ : ∃ D, D = coefs k := ⟨_, rfl⟩
  rw [← hD] at Hc HDl
  clear hce hcall hD hqc hq
  obtain ⟨W, hW⟩ : ∃ W, W = (w.alloc (.cells #[.int .i64 l, .int .i64 s] 24)).alloc (.cells #[.int .i64 0, .int .i64 0, .slice none 0 0] 27) := ⟨_, rfl⟩
  have Hb : Hid (Below w.heap.size w W) := by rw [hW]; exact ((Below.refl _ _).alloc (Nat.le_refl _) _).alloc (by simp) _
  have BQ : Blk W w.heap.size 24 #[.int .i64 l, .int .i64 s] := by
    rw [hW]; exact (Blk.new w 24 #[.int .i64 l, .int .i64 s]).alloc _
  have BM : Blk W (w.heap.size + 1) 27 #[.int .i64 0, .int .i64 0, .slice none 0 0] := by
    rw [hW]; have := Blk.new (w.alloc (.cells #[.int .i64 l, .int .i64 s] 24)) 27 #[.int .i64 0, .int .i64 0, .slice none 0 0]
    exact (by simpa using this : Blk _ _ _ _)
  have HW := Lib.hid hW
  have zW : w.heap.size + 1 < W.heap.size := BM.lt
  clear hW
  go_enter Tryz.func39, Tryz.ntmps39
  go_wp2_with fail
  rw [← HW.out]
  refine (Hc.out W).mono ?_
  rintro e w3 ⟨A, c, rfl, OD, h3⟩
  rw [HDl.out]
  replace BQ := BQ.past h3
  replace BM := BM.past h3
  replace Hb := Lib.hid (thenB Hb.out h3)
  have z3 : W.heap.size ≤ w3.heap.size := h3.size
  clear h3 OD
  have q0 := BQ.cell 0
  have q1 := BQ.cell 1
  simp at q0 q1
  go_wp2_with fail
  refine (HQ.out _).mono ?_
  rintro e w4 ⟨rfl, h4⟩
  replace BM := BM.past h4
  replace Hb := Lib.hid (thenB Hb.out h4)
  have z4 : w3.heap.size ≤ w4.heap.size := h4.size
  clear h4 q0 q1 BQ
  have p0 := BM.cell 0
  have p1 := BM.cell 1
  have p2 := BM.cell 2
  have f0 := BM.frozen 0
  have f1 := BM.frozen 1
  have f2 := BM.frozen 2
  simp at p0 p1 p2
  have D0 := ((BM.set_ 0 (.int .i64 0)).set_ 1 (.int .i64 0)).set_ 2 (.slice none 0 0)
  have d0 := D0.cell 0
  have d1 := D0.cell 1
  have d2 := D0.cell 2
  simp at d0 d1 d2
  clear D0
  go_wp2
  refine bodyPost_ret (specOrder_res rfl rfl d0 d1 d2) rfl ?_
  exact ⟨0, 0, [], none, 0, false, rfl, by simp, own_nil _ _, ((Hb.out.setCell (by simp) _).setCell (by simp) _).setCell (by simp) _⟩
theorem specOrder_any (l s : Int) (k : Nat) (w : World) (k1 : 1 ≤ k) (k2 : k ≤ 6) :
    Calls Tryz.prog 39 #[.agg #[.int .i64 l, .int .i64 s], .int .i64 k] w (RetOrd w) := by
  rcases Bool.eq_false_or_eq_true (quantOk l s) with h | h
  · have hl : ((coefs k).drop 1).length = k := by rw [List.length_drop, coefs_length]; rfl
    refine (specOrder_yes l s k w h k1 k2).mono ?_
    rintro e w' ⟨A, c, rfl, O, hb⟩
    exact ⟨l, s, (coefs k).drop 1, A, c, true, by rw [hl], by omega, O, hb⟩
  · exact specOrder_no l s k w h k1 k2
set_option maxHeartbeats 1000000 in
theorem specSafe_no (l s : Int) (A : Option Addr) (c : Nat) (cs : List Int) (w : World) (hr : Rd w w.heap.size A cs) (hn : cs.length ≤ 1048576) (h : modOk l s cs = false) :
    Calls Tryz.prog 116 #[.agg #[.int .i64 l, .int .i64 s, .slice A cs.length c]] w fun e w' => e = .returned (.int .i64 0) ∧ Below w.heap.size w w' := by
  have hb0 : Below w.heap.size w (w.alloc (.cells #[.int .i64 l, .int .i64 s, .slice A cs.length c] 27)) := (Below.refl _ _).alloc (Nat.le_refl _) _
  have B0 := Blk.new w 27 #[.int .i64 l, .int .i64 s, .slice A cs.length c]
  have Hb := Lib.hid hb0
  have R0 := Lib.hid (hr.past hb0)
  have HH := Lib.hid h
  have q0 := B0.cell 0
  have q1 := B0.cell 1
  have q2 := B0.cell 2
  simp at q0 q1 q2
  clear hb0 h
  go_enter Tryz.func116, Tryz.ntmps116
  go_wp2_with fail
  refine (specIsModulator_any l s A c cs _ R0.out (by omega)).mono ?_; rintro e w1 ⟨rfl, h⟩
  rw [HH.out]
  replace Hb := Lib.hid (thenB Hb.out h)
  go_wp2_with fail
  go_ret
  exact ⟨rfl, Hb.out⟩
theorem specSafe_any (l s : Int) (A : Option Addr) (c : Nat) (cs : List Int) (w : World) (hr : Rd w w.heap.size A cs) (hn : cs.length ≤ 1048576) :
    Calls Tryz.prog 116 #[.agg #[.int .i64 l, .int .i64 s, .slice A cs.length c]] w fun e w' => (∃ v, e = .returned (.int .i64 v)) ∧ Below w.heap.size w w' := by
  rcases Bool.eq_false_or_eq_true (modOk l s cs) with h | h
  · refine (specSafe_yes l s A c cs w hr h).mono ?_
    rintro e w' ⟨rfl, hb⟩
    exact ⟨⟨_, rfl⟩, hb⟩
  · refine (specSafe_no l s A c cs w hr hn h).mono ?_
    rintro e w' ⟨rfl, hb⟩
    exact ⟨⟨_, rfl⟩, hb⟩
def runAny (l s : Int) (cs mem xs : List Int) : RMd := if memOk l s cs mem && seqOk xs then runM l s cs mem xs else ⟨[], [], [], false⟩
set_option maxHeartbeats 1000000 in
theorem specRunM_no (l s : Int) (A : Option Addr) (c : Nat) (cs : List Int) (A' : Option Addr) (c' : Nat) (mem : List Int) (X : Option Addr) (cx : Nat) (xs : List Int) (w : World) (hr : Rd w w.heap.size A cs) (hr' : Rd w w.heap.size A' mem) (hx : Rd w w.heap.size X xs) (hn : cs.length ≤ 1048576) (hn' : mem.length ≤ 1048576) (hnx : xs.length ≤ 1048576) (h : (memOk l s cs mem && seqOk xs) = false) :
    Calls Tryz.prog 17 #[.agg #[.int .i64 l, .int .i64 s, .slice A cs.length c], .slice A' mem.length c', .slice X xs.length cx] w (RetRM w ⟨[], [], [], false⟩) := by
  have hb0 : Below w.heap.size w (w.alloc (.cells #[.int .i64 l, .int .i64 s, .slice A cs.length c] 27)) := (Below.refl _ _).alloc (Nat.le_refl _) _
  have B0 := Blk.new w 27 #[.int .i64 l, .int .i64 s, .slice A cs.length c]
  have Hb := Lib.hid hb0
  have R0 := Lib.hid (hr.past hb0)
  have R0' := Lib.hid (hr'.past hb0)
  have X0 := Lib.hid (hx.past hb0)
  have HH := Lib.hid h
  have q0 := B0.cell 0
  have q1 := B0.cell 1
  have q2 := B0.cell 2
  simp at q0 q1 q2
  clear hb0 h hr hr' hx
  go_enter Tryz.func17, Tryz.ntmps17
  go_wp2_with fail
  refine (specIsMemory_any l s A c cs A' c' mem _ R0.out R0'.out (by omega) (by omega)).mono ?_; rintro e w1 ⟨rfl, h⟩
  replace Hb := Lib.hid (thenB Hb.out h)
  have X1 := X0.out.past h
  rcases Bool.eq_false_or_eq_true (memOk l s cs mem) with hm | hm
  · have hs : seqOk xs = false := by have := HH.out; rwa [hm, Bool.true_and] at this
    rw [hm]
    go_wp2_with fail
    refine (specIsSequence_any X cx xs _ X1 (by omega)).mono ?_; rintro e w2 ⟨rfl, rfl⟩
    rw [hs]
    go_wp2_with fail
    refine bodyPost_ret (results_four rfl _ _ _) rfl ?_
    exact retRM_no Hb.out
  · rw [hm]
    go_wp2_with fail
    refine bodyPost_ret (results_four rfl _ _ _) rfl ?_
    exact retRM_no Hb.out
theorem specRunM_any (l s : Int) (A : Option Addr) (c : Nat) (cs : List Int) (A' : Option Addr) (c' : Nat) (mem : List Int) (X : Option Addr) (cx : Nat) (xs : List Int) (w : World) (hr : Rd w w.heap.size A cs) (hr' : Rd w w.heap.size A' mem) (hx : Rd w w.heap.size X xs) (hn : cs.length ≤ 1048576) (hn' : mem.length ≤ 1048576) (hnx : xs.length ≤ 1048576) :
    Calls Tryz.prog 17 #[.agg #[.int .i64 l, .int .i64 s, .slice A cs.length c], .slice A' mem.length c', .slice X xs.length cx] w (RetRM w (runAny l s cs mem xs)) := by
  unfold runAny
  rcases Bool.eq_false_or_eq_true (memOk l s cs mem && seqOk xs) with h | h
  · rw [h, if_pos rfl]
    rw [Bool.and_eq_true] at h
    exact specRunM_yes l s A c cs A' c' mem X cx xs w hr hr' hx h.1 h.2
  · rw [h, if_neg (by decide)]
    exact specRunM_no l s A c cs A' c' mem X cx xs w hr hr' hx hn hn' hnx h
end Go.Proofs.YtgkijkenbjjnmaaGreatDoor
