/- Contracts of the two ClearComb. -/
import Derived.Test.YtfplecbacgcjgaaCSt
import Derived.Test.YtfplecbacgcjgaaCombArg
import Derived.Test.YtfplecbacgcjgaaCopy
import Derived.Deep.RegionHeld3
import Derived.Deep.RegionLaw
namespace Go.Proofs.Ytfplecbacgcjgaa
open Go.RowKit
set_option linter.unusedVariables false
set_option linter.unusedSimpArgs false
def RetCSB (w : World) (s : CS × Bool) (e : Ending) (w' : World) : Prop :=
  ∃ A c A' c', e = .returned (.tuple #[.agg #[.slice A s.1.sums.length c, .slice A' s.1.delays.length c', .int .i64 s.1.phase], .bool s.2]) ∧ Own w' w.heap.size A c s.1.sums ∧ Own w' w.heap.size A' c' s.1.delays ∧ Apart A A' ∧ Below w.heap.size w w'
def clearC (o r k : Int) (s : CS) : CS × Bool := if stOk o r k s then (⟨s.sums, zeros o.toNat, 0⟩, true) else (⟨[], [], 0⟩, false)
theorem clearC_len (o r k : Int) (s : CS) : (clearC o r k s).1.sums.length ≤ 6 ∧ (clearC o r k s).1.delays.length ≤ 6 := by
  unfold clearC
  split
  · rename_i h
    obtain ⟨hc, hst⟩ := stOk_parts h
    obtain ⟨⟨o1, o2⟩, _, _⟩ := comb_parts hc
    have := hst.ls
    refine ⟨?_, ?_⟩
    · show s.sums.length ≤ 6; omega
    · show (zeros o.toNat).length ≤ 6; rw [zeros_length]; omega
  · simp
theorem clearC_yes {o r k : Int} {s : CS} (h : stOk o r k s = true) : clearC o r k s = (⟨s.sums, zeros o.toNat, 0⟩, true) := by simp [clearC, h]
theorem clearC_no {o r k : Int} {s : CS} (h : stOk o r k s = false) : clearC o r k s = (⟨[], [], 0⟩, false) := by simp [clearC, h]
theorem implClear_res {tmps : Array Value} {g : Nat} {w : World} {v0 v1 v2 b : Value} (hp : tmps.getD 4 undef = .pointer (some ⟨g, 0, none⟩)) (hb : tmps.getD 5 undef = b) (c0 : w.cell? ⟨g, 0, none⟩ = some v0) (c1 : w.cell? ⟨g, 1, none⟩ = some v1) (c2 : w.cell? ⟨g, 2, none⟩ = some v2) :
    (results Try.f41 tmps).run Try.prog w = .ok (.tuple #[.agg #[v0, v1, v2], b]) w := by
  have hp' := hp
  have hb' := hb
  simp at hp' hb'
  simp only [results, Try.results41]
  simp [go_sem, hp', hb', c0, c1, c2]
set_option maxHeartbeats 400000 in
theorem implClearComb_any (o r k : Int) (A : Option Addr) (c : Nat) (xs : List Int) (A' : Option Addr) (c' : Nat) (ys : List Int) (p : Int) (w : World) (hr : Rd w w.heap.size A xs) (hr' : Rd w w.heap.size A' ys) (hn : xs.length ≤ 1048576) (hn' : ys.length ≤ 1048576) :
    Calls Try.prog 41 #[.agg #[.int .i64 o, .int .i64 r, .int .i64 k], .agg #[.slice A xs.length c, .slice A' ys.length c', .int .i64 p]] w (RetCSB w (clearC o r k ⟨xs, ys, p⟩)) := by
  obtain ⟨W, hW⟩ : ∃ W, W = ((w.alloc (.cells #[.int .i64 o, .int .i64 r, .int .i64 k] 24)).alloc (.cells #[.slice A xs.length c, .slice A' ys.length c', .int .i64 p] 35)).alloc (.cells #[.slice none 0 0, .slice none 0 0, .int .i64 0] 35) := ⟨_, rfl⟩
  have hb : Below w.heap.size w W := by rw [hW]; exact (((Below.refl _ _).alloc (Nat.le_refl _) _).alloc (by simp) _).alloc (by simp; omega) _
  have bb : Blk W w.heap.size 24 #[.int .i64 o, .int .i64 r, .int .i64 k] := by
    rw [hW]; exact ((Blk.new w 24 #[.int .i64 o, .int .i64 r, .int .i64 k]).alloc _).alloc _
  have bd : Blk W (w.heap.size + 1) 35 #[.slice A xs.length c, .slice A' ys.length c', .int .i64 p] := by
    rw [hW]; have := (Blk.new (w.alloc (.cells #[.int .i64 o, .int .i64 r, .int .i64 k] 24)) 35 #[.slice A xs.length c, .slice A' ys.length c', .int .i64 p]).alloc (.cells #[.slice none 0 0, .slice none 0 0, .int .i64 0] 35)
    simpa using this
  have br : Blk W (w.heap.size + 1 + 1) 35 #[.slice none 0 0, .slice none 0 0, .int .i64 0] := by
    rw [hW]; have := Blk.new ((w.alloc (.cells #[.int .i64 o, .int .i64 r, .int .i64 k] 24)).alloc (.cells #[.slice A xs.length c, .slice A' ys.length c', .int .i64 p] 35)) 35 #[.slice none 0 0, .slice none 0 0, .int .i64 0]
    simpa using this
  have HW := Lib.hid hW
  have Hb := Lib.hid hb
  have BB := Lib.hid bb
  have BD := Lib.hid bd
  have BR := Lib.hid br
  have RW := Lib.hid hr
  have RW' := Lib.hid hr'
  clear hW hb bb bd br hr hr'
  go_enter Try.func41, Try.ntmps41
  go_wp2_with fail
  rw [← HW.out]
  refine (implIsCombState_any o r k A c xs A' c' ys p _ (RW.out.past Hb.out) (RW'.out.past Hb.out) hn hn').mono ?_; rintro e w1 ⟨rfl, h1⟩
  have BB1 := Lib.hid (BB.out.past h1)
  have BD1 := Lib.hid (BD.out.past h1)
  have BR1 := Lib.hid (BR.out.past h1)
  have Hb1 := Lib.hid (thenB Hb.out h1)
  have r0 := BR1.out.cell 0
  have r1 := BR1.out.cell 1
  have r2 := BR1.out.cell 2
  have f0 := BR1.out.frozen 0
  have f1 := BR1.out.frozen 1
  have f2 := BR1.out.frozen 2
  simp at r0 r1 r2
  clear h1 BB BD BR Hb
  rcases Bool.eq_false_or_eq_true (stOk o r k ⟨xs, ys, p⟩) with hs | hs
  · obtain ⟨hc, hst⟩ := stOk_parts hs
    obtain ⟨⟨o1, o2⟩, _, _⟩ := comb_parts hc
    obtain ⟨n, rfl⟩ : ∃ n : Nat, o = n := ⟨o.toNat, by omega⟩
    have HY : Hid (clearC n r k ⟨xs, ys, p⟩ = (⟨xs, zeros n, 0⟩, true)) := by show _ = _; rw [clearC_yes hs]; simp
    have hmk := make_ints n (by omega)
    rw [hs]
    clear hs hc hst
    have bx := (Below.refl w1.heap.size w1).drew
    have BB2 := Lib.hid (BB1.out.past bx)
    have BD2 := Lib.hid (BD1.out.past bx)
    have BR2 := Lib.hid (BR1.out.past bx)
    have Hb2 := Lib.hid (thenB Hb1.out bx)
    have b0 := BB2.out.cell 0
    have d0 := BD2.out.cell 0
    simp at b0 d0
    clear bx
    go_wp2_with fail
    have zn : ¬ (w.heap.size = w.heap.size + 1 + 1) := by omega
    have zn3 : ¬ (w.heap.size + 1 = w.heap.size + 1 + 1) := by omega
    have zn1 : ¬ (w.heap.size = w.heap.size + 1) := by omega
    have bm : Below w1.heap.size w1 (w1.alloc (.cells (madeCells #[.int .i64 0] n) 3)).drew := ((Below.refl _ _).alloc (Nat.le_refl _) _).drew
    have BBm := Lib.hid (BB1.out.past bm)
    have BDm := Lib.hid (BD1.out.past bm)
    have BRm := Lib.hid (BR1.out.past bm)
    have Hbm := Lib.hid (thenB Hb1.out bm)
    have z1 : w.heap.size + 1 + 1 < w1.heap.size := BR1.out.lt
    have om := own_made (B := w1.heap.size) w1 n (Nat.le_refl _) (by simp only [maxLen]; omega)
    have OM := Lib.hid (own_past om ((Below.refl _ (w1.alloc (.cells (madeCells #[.int .i64 0] n) 3))).drew))
    have e0 : (w1.alloc (.cells (madeCells #[.int .i64 0] n) 3)).cell? ⟨w.heap.size + 1, 0, none⟩ = some (.slice A xs.length c) := (BD1.out.alloc _).cell 0
    have e1 : (w1.alloc (.cells (madeCells #[.int .i64 0] n) 3)).cell? ⟨w.heap.size, 0, none⟩ = some (.int .i64 n) := (BB1.out.alloc _).cell 0
    clear bm om
    go_region_law
      (first
        | (go_simp; go_at_call 56; refine (clone_any A c xs w1.drew (RW.out.past Hb2.out) (by omega)).mono ?_; rintro e wd ⟨A1, c1, rfl, O1, h1⟩; have BB3 := Lib.hid (BB2.out.past h1); have BD3 := Lib.hid (BD2.out.past h1); have BR3 := Lib.hid (BR2.out.past h1); have Hb3 := Lib.hid (thenB Hb2.out h1); have k0 := BB3.out.cell 0; have k1 := BD3.out.cell 0; have t0 := BR3.out.cell 0; have t1 := BR3.out.cell 1; have t2 := BR3.out.cell 2; have tf0 := BR3.out.frozen 0; have tf1 := BR3.out.frozen 1; have tf2 := BR3.out.frozen 2; have zz : w.heap.size + 1 + 1 < wd.heap.size := BR3.out.lt; simp at k0 k1 t0 t1 t2)
        | (go_simp; go_at_call 56; refine (clone_any A c xs (w1.alloc (.cells (madeCells #[.int .i64 0] n) 3)).drew (RW.out.past Hbm.out) (by omega)).mono ?_; rintro e wd ⟨A1, c1, rfl, O1, h1⟩; have BB3 := Lib.hid (BBm.out.past h1); have BD3 := Lib.hid (BDm.out.past h1); have BR3 := Lib.hid (BRm.out.past h1); have Hb3 := Lib.hid (thenB Hbm.out h1); have k0 := BB3.out.cell 0; have k1 := BD3.out.cell 0; have t0 := BR3.out.cell 0; have t1 := BR3.out.cell 1; have t2 := BR3.out.cell 2; have tf0 := BR3.out.frozen 0; have tf1 := BR3.out.frozen 1; have tf2 := BR3.out.frozen 2; have zz : w.heap.size + 1 + 1 < wd.heap.size := BR3.out.lt; simp at k0 k1 t0 t1 t2))
    all_goals clear k0 k1 t0 t1 t2 tf0 tf1 tf2 e0 e1 b0 d0 r0 r1 r2 f0 f1 f2
    all_goals first
    | have n1 : ∀ a, A1 = some a → some a.block ≠ some (w.heap.size + 1 + 1) := fun a e e' => by have h := own_lo O1 a e; rw [Option.some.inj e'] at h; simp at h; first | exact absurd (Nat.lt_of_lt_of_le z1 h) (Nat.lt_irrefl _) | exact absurd (Nat.lt_of_lt_of_le z1 (Nat.le_trans h (Nat.le_succ _))) (Nat.lt_irrefl _)
      have T1 := turn_set (turn_refl wd (w.heap.size + 1 + 1)) (p := ⟨w.heap.size + 1 + 1, 0, none⟩) rfl (.slice A1 xs.length c1)
      have T2 := turn_set T1 (p := ⟨w.heap.size + 1 + 1, 1, none⟩) rfl (.slice (some ⟨wd.heap.size, 0, none⟩) n n)
      have T3 := turn_set T2 (p := ⟨w.heap.size + 1 + 1, 2, none⟩) rfl (.int .i64 0)
      have o1 := own_grown O1 T3 n1
      have RF : Blk (((wd.setCell ⟨w.heap.size + 1 + 1, 0, none⟩ (.slice A1 xs.length c1)).setCell ⟨w.heap.size + 1 + 1, 1, none⟩ (.slice (some ⟨wd.heap.size, 0, none⟩) n n)).setCell ⟨w.heap.size + 1 + 1, 2, none⟩ (.int .i64 0)) (w.heap.size + 1 + 1) 35 #[.slice A1 xs.length c1, .slice (some ⟨wd.heap.size, 0, none⟩) n n, .int .i64 0] := ((BR3.out.set_ 0 _).set_ 1 _).set_ 2 _
      have hbx := ((Hb3.out.setCell (p := ⟨w.heap.size + 1 + 1, 0, none⟩) (show w.heap.size ≤ w.heap.size + 1 + 1 by omega) (.slice A1 xs.length c1)).setCell (p := ⟨w.heap.size + 1 + 1, 1, none⟩) (show w.heap.size ≤ w.heap.size + 1 + 1 by omega) (.slice (some ⟨wd.heap.size, 0, none⟩) n n)).setCell (p := ⟨w.heap.size + 1 + 1, 2, none⟩) (show w.heap.size ≤ w.heap.size + 1 + 1 by omega) (.int .i64 0)
      have hsz : (((wd.setCell ⟨w.heap.size + 1 + 1, 0, none⟩ (.slice A1 xs.length c1)).setCell ⟨w.heap.size + 1 + 1, 1, none⟩ (.slice (some ⟨wd.heap.size, 0, none⟩) n n)).setCell ⟨w.heap.size + 1 + 1, 2, none⟩ (.int .i64 0)).heap.size = wd.heap.size := by simp
      obtain ⟨W3, hW3⟩ : ∃ W3, W3 = ((wd.setCell ⟨w.heap.size + 1 + 1, 0, none⟩ (.slice A1 xs.length c1)).setCell ⟨w.heap.size + 1 + 1, 1, none⟩ (.slice (some ⟨wd.heap.size, 0, none⟩) n n)).setCell ⟨w.heap.size + 1 + 1, 2, none⟩ (.int .i64 0) := ⟨_, rfl⟩
      rw [← hW3] at o1 RF hbx hsz ⊢
      have om := own_made (B := w.heap.size) W3 n hbx.size (by simp only [maxLen]; omega)
      rw [hsz] at om
      have bx : Below W3.heap.size W3 (W3.alloc (.cells (madeCells #[.int .i64 0] n) 3)) := (Below.refl _ _).alloc (Nat.le_refl _) _
      have o1' := own_past o1 bx
      have RF' := RF.alloc (.cells (madeCells #[.int .i64 0] n) 3)
      have hi1 : Hi A1 wd.heap.size := own_hi O1
      go_wp2
      refine bodyPost_ret (implClear_res (b := .bool true) rfl rfl (RF'.cell 0) (RF'.cell 1) (RF'.cell 2)) rfl ?_
      rw [HY.out]
      exact ⟨A1, c1, _, n, by simp [zeros_length], own_mono o1' (Nat.le_trans (by omega) (Nat.le_of_lt z1)), om, fun a a' e e' => by injection e' with e'; subst e'; exact Nat.ne_of_lt (hi1 a e), thenB hbx bx⟩
    | have n1 : ∀ a, A1 = some a → some a.block ≠ some (w.heap.size + 1 + 1) := fun a e e' => by have h := own_lo O1 a e; rw [Option.some.inj e'] at h; simp at h; first | exact absurd (Nat.lt_of_lt_of_le z1 h) (Nat.lt_irrefl _) | exact absurd (Nat.lt_of_lt_of_le z1 (Nat.le_trans h (Nat.le_succ _))) (Nat.lt_irrefl _)
      have T1 := turn_set (turn_refl wd (w.heap.size + 1 + 1)) (p := ⟨w.heap.size + 1 + 1, 0, none⟩) rfl (.slice A1 xs.length c1)
      have T2 := turn_set T1 (p := ⟨w.heap.size + 1 + 1, 1, none⟩) rfl (.slice (some ⟨w1.heap.size, 0, none⟩) n n)
      have T3 := turn_set T2 (p := ⟨w.heap.size + 1 + 1, 2, none⟩) rfl (.int .i64 0)
      have o1 := own_grown O1 T3 n1
      have RF : Blk (((wd.setCell ⟨w.heap.size + 1 + 1, 0, none⟩ (.slice A1 xs.length c1)).setCell ⟨w.heap.size + 1 + 1, 1, none⟩ (.slice (some ⟨w1.heap.size, 0, none⟩) n n)).setCell ⟨w.heap.size + 1 + 1, 2, none⟩ (.int .i64 0)) (w.heap.size + 1 + 1) 35 #[.slice A1 xs.length c1, .slice (some ⟨w1.heap.size, 0, none⟩) n n, .int .i64 0] := ((BR3.out.set_ 0 _).set_ 1 _).set_ 2 _
      have hbx := ((Hb3.out.setCell (p := ⟨w.heap.size + 1 + 1, 0, none⟩) (show w.heap.size ≤ w.heap.size + 1 + 1 by omega) (.slice A1 xs.length c1)).setCell (p := ⟨w.heap.size + 1 + 1, 1, none⟩) (show w.heap.size ≤ w.heap.size + 1 + 1 by omega) (.slice (some ⟨w1.heap.size, 0, none⟩) n n)).setCell (p := ⟨w.heap.size + 1 + 1, 2, none⟩) (show w.heap.size ≤ w.heap.size + 1 + 1 by omega) (.int .i64 0)
      have om := own_past OM.out h1
      have om' := own_grown om T3 (fun a e e' => by injection e with e; subst e; exact absurd (Option.some.inj e') (Nat.ne_of_gt z1))
      have lo1 : Lo A1 (w1.heap.size + 1) := by have := own_lo O1; simpa using this
      go_wp2
      refine bodyPost_ret (implClear_res (b := .bool true) rfl rfl (RF.cell 0) (RF.cell 1) (RF.cell 2)) rfl ?_
      rw [HY.out]
      exact ⟨A1, c1, _, n, by simp [zeros_length], own_mono o1 (by simp; omega), own_mono om' (by omega), fun a a' e e' => by injection e' with e'; subst e'; exact Nat.ne_of_gt (lo1 a e), hbx⟩
  · have HY : Hid (clearC o r k ⟨xs, ys, p⟩ = (⟨[], [], 0⟩, false)) := clearC_no hs
    rw [hs]
    clear hs
    go_wp2_with fail
    have RF : Blk (((w1.setCell ⟨w.heap.size + 1 + 1, 0, none⟩ (.slice none 0 0)).setCell ⟨w.heap.size + 1 + 1, 1, none⟩ (.slice none 0 0)).setCell ⟨w.heap.size + 1 + 1, 2, none⟩ (.int .i64 0)) (w.heap.size + 1 + 1) 35 #[.slice none 0 0, .slice none 0 0, .int .i64 0] := ((BR1.out.set_ 0 _).set_ 1 _).set_ 2 _
    have hbx := ((Hb1.out.setCell (p := ⟨w.heap.size + 1 + 1, 0, none⟩) (show w.heap.size ≤ w.heap.size + 1 + 1 by omega) (.slice none 0 0)).setCell (p := ⟨w.heap.size + 1 + 1, 1, none⟩) (show w.heap.size ≤ w.heap.size + 1 + 1 by omega) (.slice none 0 0)).setCell (p := ⟨w.heap.size + 1 + 1, 2, none⟩) (show w.heap.size ≤ w.heap.size + 1 + 1 by omega) (.int .i64 0)
    refine bodyPost_ret (implClear_res (b := .bool false) rfl rfl (RF.cell 0) (RF.cell 1) (RF.cell 2)) rfl ?_
    rw [HY.out]
    exact ⟨none, 0, none, 0, rfl, own_nil _ _, own_nil _ _, (fun a a' e => by cases e), hbx⟩
theorem specClear_res {tmps : Array Value} {g : Nat} {w : World} {v0 v1 v2 b : Value} (hp : tmps.getD 4 undef = .pointer (some ⟨g, 0, none⟩)) (hb : tmps.getD 5 undef = b) (c0 : w.cell? ⟨g, 0, none⟩ = some v0) (c1 : w.cell? ⟨g, 1, none⟩ = some v1) (c2 : w.cell? ⟨g, 2, none⟩ = some v2) :
    (results Try.f40 tmps).run Try.prog w = .ok (.tuple #[.agg #[v0, v1, v2], b]) w := by
  have hp' := hp
  have hb' := hb
  simp at hp' hb'
  simp only [results, Try.results40]
  simp [go_sem, hp', hb', c0, c1, c2]
set_option maxHeartbeats 400000 in
theorem specClearComb_any (o r k : Int) (A : Option Addr) (c : Nat) (xs : List Int) (A' : Option Addr) (c' : Nat) (ys : List Int) (p : Int) (w : World) (hr : Rd w w.heap.size A xs) (hr' : Rd w w.heap.size A' ys) (hn : xs.length ≤ 1048576) (hn' : ys.length ≤ 1048576) :
    Calls Try.prog 40 #[.agg #[.int .i64 o, .int .i64 r, .int .i64 k], .agg #[.slice A xs.length c, .slice A' ys.length c', .int .i64 p]] w (RetCSB w (clearC o r k ⟨xs, ys, p⟩)) := by
  obtain ⟨W, hW⟩ : ∃ W, W = ((w.alloc (.cells #[.int .i64 o, .int .i64 r, .int .i64 k] 24)).alloc (.cells #[.slice A xs.length c, .slice A' ys.length c', .int .i64 p] 35)).alloc (.cells #[.slice none 0 0, .slice none 0 0, .int .i64 0] 35) := ⟨_, rfl⟩
  have hb : Below w.heap.size w W := by rw [hW]; exact (((Below.refl _ _).alloc (Nat.le_refl _) _).alloc (by simp) _).alloc (by simp; omega) _
  have bb : Blk W w.heap.size 24 #[.int .i64 o, .int .i64 r, .int .i64 k] := by
    rw [hW]; exact ((Blk.new w 24 #[.int .i64 o, .int .i64 r, .int .i64 k]).alloc _).alloc _
  have bd : Blk W (w.heap.size + 1) 35 #[.slice A xs.length c, .slice A' ys.length c', .int .i64 p] := by
    rw [hW]; have := (Blk.new (w.alloc (.cells #[.int .i64 o, .int .i64 r, .int .i64 k] 24)) 35 #[.slice A xs.length c, .slice A' ys.length c', .int .i64 p]).alloc (.cells #[.slice none 0 0, .slice none 0 0, .int .i64 0] 35)
    simpa using this
  have br : Blk W (w.heap.size + 1 + 1) 35 #[.slice none 0 0, .slice none 0 0, .int .i64 0] := by
    rw [hW]; have := Blk.new ((w.alloc (.cells #[.int .i64 o, .int .i64 r, .int .i64 k] 24)).alloc (.cells #[.slice A xs.length c, .slice A' ys.length c', .int .i64 p] 35)) 35 #[.slice none 0 0, .slice none 0 0, .int .i64 0]
    simpa using this
  have HW := Lib.hid hW
  have Hb := Lib.hid hb
  have BB := Lib.hid bb
  have BD := Lib.hid bd
  have BR := Lib.hid br
  have RW := Lib.hid hr
  have RW' := Lib.hid hr'
  clear hW hb bb bd br hr hr'
  go_enter Try.func40, Try.ntmps40
  go_wp2_with fail
  rw [← HW.out]
  refine (specIsCombState_any o r k A c xs A' c' ys p _ (RW.out.past Hb.out) (RW'.out.past Hb.out) hn hn').mono ?_; rintro e w1 ⟨rfl, h1⟩
  have BB1 := Lib.hid (BB.out.past h1)
  have BD1 := Lib.hid (BD.out.past h1)
  have BR1 := Lib.hid (BR.out.past h1)
  have Hb1 := Lib.hid (thenB Hb.out h1)
  have r0 := BR1.out.cell 0
  have r1 := BR1.out.cell 1
  have r2 := BR1.out.cell 2
  have f0 := BR1.out.frozen 0
  have f1 := BR1.out.frozen 1
  have f2 := BR1.out.frozen 2
  simp at r0 r1 r2
  clear h1 BB BD BR Hb
  rcases Bool.eq_false_or_eq_true (stOk o r k ⟨xs, ys, p⟩) with hs | hs
  · obtain ⟨hc, hst⟩ := stOk_parts hs
    obtain ⟨⟨o1, o2⟩, _, _⟩ := comb_parts hc
    obtain ⟨n, rfl⟩ : ∃ n : Nat, o = n := ⟨o.toNat, by omega⟩
    have HY : Hid (clearC n r k ⟨xs, ys, p⟩ = (⟨xs, zeros n, 0⟩, true)) := by show _ = _; rw [clearC_yes hs]; simp
    have hmk := make_ints n (by omega)
    rw [hs]
    clear hs hc hst
    have bx := (Below.refl w1.heap.size w1).drew
    have BB2 := Lib.hid (BB1.out.past bx)
    have BD2 := Lib.hid (BD1.out.past bx)
    have BR2 := Lib.hid (BR1.out.past bx)
    have Hb2 := Lib.hid (thenB Hb1.out bx)
    have b0 := BB2.out.cell 0
    have d0 := BD2.out.cell 0
    simp at b0 d0
    clear bx
    go_wp2_with fail
    have zn : ¬ (w.heap.size = w.heap.size + 1 + 1) := by omega
    have zn3 : ¬ (w.heap.size + 1 = w.heap.size + 1 + 1) := by omega
    have zn1 : ¬ (w.heap.size = w.heap.size + 1) := by omega
    have bm : Below w1.heap.size w1 (w1.alloc (.cells (madeCells #[.int .i64 0] n) 3)).drew := ((Below.refl _ _).alloc (Nat.le_refl _) _).drew
    have BBm := Lib.hid (BB1.out.past bm)
    have BDm := Lib.hid (BD1.out.past bm)
    have BRm := Lib.hid (BR1.out.past bm)
    have Hbm := Lib.hid (thenB Hb1.out bm)
    have z1 : w.heap.size + 1 + 1 < w1.heap.size := BR1.out.lt
    have om := own_made (B := w1.heap.size) w1 n (Nat.le_refl _) (by simp only [maxLen]; omega)
    have OM := Lib.hid (own_past om ((Below.refl _ (w1.alloc (.cells (madeCells #[.int .i64 0] n) 3))).drew))
    have e0 : (w1.alloc (.cells (madeCells #[.int .i64 0] n) 3)).cell? ⟨w.heap.size + 1, 0, none⟩ = some (.slice A xs.length c) := (BD1.out.alloc _).cell 0
    have e1 : (w1.alloc (.cells (madeCells #[.int .i64 0] n) 3)).cell? ⟨w.heap.size, 0, none⟩ = some (.int .i64 n) := (BB1.out.alloc _).cell 0
    clear bm om
    go_region_law
      (first
        | (go_simp; go_at_call 74; refine (l1Copy_any A c xs w1.drew (RW.out.past Hb2.out) (by omega)).mono ?_; rintro e wd ⟨A1, c1, rfl, O1, h1⟩; have BB3 := Lib.hid (BB2.out.past h1); have BD3 := Lib.hid (BD2.out.past h1); have BR3 := Lib.hid (BR2.out.past h1); have Hb3 := Lib.hid (thenB Hb2.out h1); have k0 := BB3.out.cell 0; have k1 := BD3.out.cell 0; have t0 := BR3.out.cell 0; have t1 := BR3.out.cell 1; have t2 := BR3.out.cell 2; have tf0 := BR3.out.frozen 0; have tf1 := BR3.out.frozen 1; have tf2 := BR3.out.frozen 2; have zz : w.heap.size + 1 + 1 < wd.heap.size := BR3.out.lt; simp at k0 k1 t0 t1 t2)
        | (go_simp; go_at_call 74; refine (l1Copy_any A c xs (w1.alloc (.cells (madeCells #[.int .i64 0] n) 3)).drew (RW.out.past Hbm.out) (by omega)).mono ?_; rintro e wd ⟨A1, c1, rfl, O1, h1⟩; have BB3 := Lib.hid (BBm.out.past h1); have BD3 := Lib.hid (BDm.out.past h1); have BR3 := Lib.hid (BRm.out.past h1); have Hb3 := Lib.hid (thenB Hbm.out h1); have k0 := BB3.out.cell 0; have k1 := BD3.out.cell 0; have t0 := BR3.out.cell 0; have t1 := BR3.out.cell 1; have t2 := BR3.out.cell 2; have tf0 := BR3.out.frozen 0; have tf1 := BR3.out.frozen 1; have tf2 := BR3.out.frozen 2; have zz : w.heap.size + 1 + 1 < wd.heap.size := BR3.out.lt; simp at k0 k1 t0 t1 t2))
    all_goals clear k0 k1 t0 t1 t2 tf0 tf1 tf2 e0 e1 b0 d0 r0 r1 r2 f0 f1 f2
    all_goals first
    | have n1 : ∀ a, A1 = some a → some a.block ≠ some (w.heap.size + 1 + 1) := fun a e e' => by have h := own_lo O1 a e; rw [Option.some.inj e'] at h; simp at h; first | exact absurd (Nat.lt_of_lt_of_le z1 h) (Nat.lt_irrefl _) | exact absurd (Nat.lt_of_lt_of_le z1 (Nat.le_trans h (Nat.le_succ _))) (Nat.lt_irrefl _)
      have T1 := turn_set (turn_refl wd (w.heap.size + 1 + 1)) (p := ⟨w.heap.size + 1 + 1, 0, none⟩) rfl (.slice A1 xs.length c1)
      have T2 := turn_set T1 (p := ⟨w.heap.size + 1 + 1, 1, none⟩) rfl (.slice (some ⟨wd.heap.size, 0, none⟩) n n)
      have T3 := turn_set T2 (p := ⟨w.heap.size + 1 + 1, 2, none⟩) rfl (.int .i64 0)
      have o1 := own_grown O1 T3 n1
      have RF : Blk (((wd.setCell ⟨w.heap.size + 1 + 1, 0, none⟩ (.slice A1 xs.length c1)).setCell ⟨w.heap.size + 1 + 1, 1, none⟩ (.slice (some ⟨wd.heap.size, 0, none⟩) n n)).setCell ⟨w.heap.size + 1 + 1, 2, none⟩ (.int .i64 0)) (w.heap.size + 1 + 1) 35 #[.slice A1 xs.length c1, .slice (some ⟨wd.heap.size, 0, none⟩) n n, .int .i64 0] := ((BR3.out.set_ 0 _).set_ 1 _).set_ 2 _
      have hbx := ((Hb3.out.setCell (p := ⟨w.heap.size + 1 + 1, 0, none⟩) (show w.heap.size ≤ w.heap.size + 1 + 1 by omega) (.slice A1 xs.length c1)).setCell (p := ⟨w.heap.size + 1 + 1, 1, none⟩) (show w.heap.size ≤ w.heap.size + 1 + 1 by omega) (.slice (some ⟨wd.heap.size, 0, none⟩) n n)).setCell (p := ⟨w.heap.size + 1 + 1, 2, none⟩) (show w.heap.size ≤ w.heap.size + 1 + 1 by omega) (.int .i64 0)
      have hsz : (((wd.setCell ⟨w.heap.size + 1 + 1, 0, none⟩ (.slice A1 xs.length c1)).setCell ⟨w.heap.size + 1 + 1, 1, none⟩ (.slice (some ⟨wd.heap.size, 0, none⟩) n n)).setCell ⟨w.heap.size + 1 + 1, 2, none⟩ (.int .i64 0)).heap.size = wd.heap.size := by simp
      obtain ⟨W3, hW3⟩ : ∃ W3, W3 = ((wd.setCell ⟨w.heap.size + 1 + 1, 0, none⟩ (.slice A1 xs.length c1)).setCell ⟨w.heap.size + 1 + 1, 1, none⟩ (.slice (some ⟨wd.heap.size, 0, none⟩) n n)).setCell ⟨w.heap.size + 1 + 1, 2, none⟩ (.int .i64 0) := ⟨_, rfl⟩
      rw [← hW3] at o1 RF hbx hsz ⊢
      have om := own_made (B := w.heap.size) W3 n hbx.size (by simp only [maxLen]; omega)
      rw [hsz] at om
      have bx : Below W3.heap.size W3 (W3.alloc (.cells (madeCells #[.int .i64 0] n) 3)) := (Below.refl _ _).alloc (Nat.le_refl _) _
      have o1' := own_past o1 bx
      have RF' := RF.alloc (.cells (madeCells #[.int .i64 0] n) 3)
      have hi1 : Hi A1 wd.heap.size := own_hi O1
      go_wp2
      refine bodyPost_ret (specClear_res (b := .bool true) rfl rfl (RF'.cell 0) (RF'.cell 1) (RF'.cell 2)) rfl ?_
      rw [HY.out]
      exact ⟨A1, c1, _, n, by simp [zeros_length], own_mono o1' (Nat.le_trans (by omega) (Nat.le_of_lt z1)), om, fun a a' e e' => by injection e' with e'; subst e'; exact Nat.ne_of_lt (hi1 a e), thenB hbx bx⟩
    | have n1 : ∀ a, A1 = some a → some a.block ≠ some (w.heap.size + 1 + 1) := fun a e e' => by have h := own_lo O1 a e; rw [Option.some.inj e'] at h; simp at h; first | exact absurd (Nat.lt_of_lt_of_le z1 h) (Nat.lt_irrefl _) | exact absurd (Nat.lt_of_lt_of_le z1 (Nat.le_trans h (Nat.le_succ _))) (Nat.lt_irrefl _)
      have T1 := turn_set (turn_refl wd (w.heap.size + 1 + 1)) (p := ⟨w.heap.size + 1 + 1, 0, none⟩) rfl (.slice A1 xs.length c1)
      have T2 := turn_set T1 (p := ⟨w.heap.size + 1 + 1, 1, none⟩) rfl (.slice (some ⟨w1.heap.size, 0, none⟩) n n)
      have T3 := turn_set T2 (p := ⟨w.heap.size + 1 + 1, 2, none⟩) rfl (.int .i64 0)
      have o1 := own_grown O1 T3 n1
      have RF : Blk (((wd.setCell ⟨w.heap.size + 1 + 1, 0, none⟩ (.slice A1 xs.length c1)).setCell ⟨w.heap.size + 1 + 1, 1, none⟩ (.slice (some ⟨w1.heap.size, 0, none⟩) n n)).setCell ⟨w.heap.size + 1 + 1, 2, none⟩ (.int .i64 0)) (w.heap.size + 1 + 1) 35 #[.slice A1 xs.length c1, .slice (some ⟨w1.heap.size, 0, none⟩) n n, .int .i64 0] := ((BR3.out.set_ 0 _).set_ 1 _).set_ 2 _
      have hbx := ((Hb3.out.setCell (p := ⟨w.heap.size + 1 + 1, 0, none⟩) (show w.heap.size ≤ w.heap.size + 1 + 1 by omega) (.slice A1 xs.length c1)).setCell (p := ⟨w.heap.size + 1 + 1, 1, none⟩) (show w.heap.size ≤ w.heap.size + 1 + 1 by omega) (.slice (some ⟨w1.heap.size, 0, none⟩) n n)).setCell (p := ⟨w.heap.size + 1 + 1, 2, none⟩) (show w.heap.size ≤ w.heap.size + 1 + 1 by omega) (.int .i64 0)
      have om := own_past OM.out h1
      have om' := own_grown om T3 (fun a e e' => by injection e with e; subst e; exact absurd (Option.some.inj e') (Nat.ne_of_gt z1))
      have lo1 : Lo A1 (w1.heap.size + 1) := by have := own_lo O1; simpa using this
      go_wp2
      refine bodyPost_ret (specClear_res (b := .bool true) rfl rfl (RF.cell 0) (RF.cell 1) (RF.cell 2)) rfl ?_
      rw [HY.out]
      exact ⟨A1, c1, _, n, by simp [zeros_length], own_mono o1 (by simp; omega), own_mono om' (by omega), fun a a' e e' => by injection e' with e'; subst e'; exact Nat.ne_of_gt (lo1 a e), hbx⟩
  · have HY : Hid (clearC o r k ⟨xs, ys, p⟩ = (⟨[], [], 0⟩, false)) := clearC_no hs
    rw [hs]
    clear hs
    go_wp2_with fail
    have RF : Blk (((w1.setCell ⟨w.heap.size + 1 + 1, 0, none⟩ (.slice none 0 0)).setCell ⟨w.heap.size + 1 + 1, 1, none⟩ (.slice none 0 0)).setCell ⟨w.heap.size + 1 + 1, 2, none⟩ (.int .i64 0)) (w.heap.size + 1 + 1) 35 #[.slice none 0 0, .slice none 0 0, .int .i64 0] := ((BR1.out.set_ 0 _).set_ 1 _).set_ 2 _
    have hbx := ((Hb1.out.setCell (p := ⟨w.heap.size + 1 + 1, 0, none⟩) (show w.heap.size ≤ w.heap.size + 1 + 1 by omega) (.slice none 0 0)).setCell (p := ⟨w.heap.size + 1 + 1, 1, none⟩) (show w.heap.size ≤ w.heap.size + 1 + 1 by omega) (.slice none 0 0)).setCell (p := ⟨w.heap.size + 1 + 1, 2, none⟩) (show w.heap.size ≤ w.heap.size + 1 + 1 by omega) (.int .i64 0)
    refine bodyPost_ret (specClear_res (b := .bool false) rfl rfl (RF.cell 0) (RF.cell 1) (RF.cell 2)) rfl ?_
    rw [HY.out]
    exact ⟨none, 0, none, 0, rfl, own_nil _ _, own_nil _ _, (fun a a' e => by cases e), hbx⟩
end Go.Proofs.Ytfplecbacgcjgaa
