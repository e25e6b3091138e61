/- Contracts of the two RunComb. -/
import Derived.Test.YtfplecbacgcjgaaCMem
import Derived.Test.YtfplecbacgcjgaaClear
import Derived.Test.YtfplecbacgcjgaaBase
import Derived.StillTailTactics
namespace Go.Proofs.Ytfplecbacgcjgaa
open Go.RowKit
set_option linter.unusedVariables false
set_option linter.unusedSimpArgs false
def runC (o r k : Int) (s : CS) (zs : List Int) : List Int × CS × Bool := if stOk o r k s && seqOk zs && seqOk (cYs r k s zs zs.length) then (cYs r k s zs zs.length, cSt r k s zs zs.length, true) else ([], ⟨[], [], 0⟩, false)
theorem runC_yes {o r k : Int} {s : CS} {zs : List Int} (h1 : stOk o r k s = true) (h2 : seqOk zs = true) (h3 : seqOk (cYs r k s zs zs.length) = true) : runC o r k s zs = (cYs r k s zs zs.length, cSt r k s zs zs.length, true) := by simp [runC, h1, h2, h3]
theorem runC_no1 {o r k : Int} {s : CS} {zs : List Int} (h1 : stOk o r k s = false) : runC o r k s zs = ([], ⟨[], [], 0⟩, false) := by simp [runC, h1]
theorem runC_no2 {o r k : Int} {s : CS} {zs : List Int} (h2 : seqOk zs = false) : runC o r k s zs = ([], ⟨[], [], 0⟩, false) := by simp [runC, h2]
theorem runC_no3 {o r k : Int} {s : CS} {zs : List Int} (h3 : seqOk (cYs r k s zs zs.length) = false) : runC o r k s zs = ([], ⟨[], [], 0⟩, false) := by simp [runC, h3]
theorem runC_len (o r k : Int) (s : CS) (zs : List Int) : (runC o r k s zs).1.length ≤ 1000 ∧ (runC o r k s zs).2.1.sums.length ≤ 6 ∧ (runC o r k s zs).2.1.delays.length ≤ 6 := by
  unfold runC
  split
  · rename_i h
    simp only [Bool.and_eq_true] at h
    obtain ⟨hc, hst⟩ := stOk_parts h.1.1
    obtain ⟨⟨o1, o2⟩, _, _⟩ := comb_parts hc
    have h1 := hst.ls
    have h2 := hst.ld
    have hl := cSt_lens r k s zs zs.length
    refine ⟨seqOk_len h.2, ?_, ?_⟩
    · show (cSt r k s zs zs.length).sums.length ≤ 6; omega
    · show (cSt r k s zs zs.length).delays.length ≤ 6; omega
  · simp
def RetRC (w : World) (R : List Int × CS × Bool) (e : Ending) (w' : World) : Prop :=
  ∃ Ay cy A c A' c', e = .returned (.tuple #[.slice Ay R.1.length cy, .agg #[.slice A R.2.1.sums.length c, .slice A' R.2.1.delays.length c', .int .i64 R.2.1.phase], .bool R.2.2]) ∧ Own w' w.heap.size Ay cy R.1 ∧ Own w' w.heap.size A c R.2.1.sums ∧ Own w' w.heap.size A' c' R.2.1.delays ∧ Apart Ay A ∧ Apart Ay A' ∧ Apart A A' ∧ Below w.heap.size w w'
theorem retRC_none (w w' : World) (h : Below w.heap.size w w') : RetRC w ([], ⟨[], [], 0⟩, false) (.returned (.tuple #[.slice none 0 0, .agg #[.slice none 0 0, .slice none 0 0, .int .i64 0], .bool false])) w' :=
  ⟨none, 0, none, 0, none, 0, rfl, own_nil _ _, own_nil _ _, own_nil _ _, (fun a a' e => by cases e), (fun a a' e => by cases e), (fun a a' e => by cases e), h⟩
theorem CM.empty {w wr : World} {o r k : Int} {gs n : Nat} {A1 : Option Addr} {c1 : Nat} {A2 : Option Addr} {c2 : Nat} {t : CS} (h : CM w wr o r k gs n A1 c1 A2 c2 none 0 t []) : CM w (wr.alloc (.cells #[] 3)) o r k gs n A1 c1 A2 c2 (some ⟨wr.heap.size, 0, none⟩) 0 t [] := by
  have h2 := h.past ((Below.refl _ _).alloc (Nat.le_refl _) (.cells #[] 3))
  have hgs := h.bs.lt
  have hbr := h.br.lt
  have l1 := own_hi h.o1
  have l2 := own_hi h.o2
  exact ⟨h2.hb, h2.bc, h2.bs, h2.br, h2.l1, h2.l2, h2.o1, h2.o2, own_empty wr _ (by omega), h.p12, fun a a' e e' => by injection e' with e'; subst e'; exact Nat.ne_of_lt (l1 a e), fun a a' e e' => by injection e' with e'; subst e'; exact Nat.ne_of_lt (l2 a e), h.n1, h.n2, fun a e => by injection e with e; subst e; exact Nat.ne_of_gt hgs, h.g0, h.g2⟩
theorem CM.fin {w wr : World} {o r k : Int} {gs n : Nat} {A1 : Option Addr} {c1 : Nat} {A2 : Option Addr} {c2 : Nat} {A9 : Option Addr} {c9 : Nat} {t : CS} {ys : List Int} (h : CM w wr o r k gs n A1 c1 A2 c2 A9 c9 t ys) :
    Blk (((wr.setCell ⟨w.heap.size + 1 + 1, 0, none⟩ (.slice A1 n c1)).setCell ⟨w.heap.size + 1 + 1, 1, none⟩ (.slice A2 n c2)).setCell ⟨w.heap.size + 1 + 1, 2, none⟩ (.int .i64 t.phase)).drew (w.heap.size + 1 + 1) 35 #[.slice A1 n c1, .slice A2 n c2, .int .i64 t.phase] ∧
    Own (((wr.setCell ⟨w.heap.size + 1 + 1, 0, none⟩ (.slice A1 n c1)).setCell ⟨w.heap.size + 1 + 1, 1, none⟩ (.slice A2 n c2)).setCell ⟨w.heap.size + 1 + 1, 2, none⟩ (.int .i64 t.phase)).drew w.heap.size A9 c9 ys ∧
    Own (((wr.setCell ⟨w.heap.size + 1 + 1, 0, none⟩ (.slice A1 n c1)).setCell ⟨w.heap.size + 1 + 1, 1, none⟩ (.slice A2 n c2)).setCell ⟨w.heap.size + 1 + 1, 2, none⟩ (.int .i64 t.phase)).drew w.heap.size A1 c1 t.sums ∧
    Own (((wr.setCell ⟨w.heap.size + 1 + 1, 0, none⟩ (.slice A1 n c1)).setCell ⟨w.heap.size + 1 + 1, 1, none⟩ (.slice A2 n c2)).setCell ⟨w.heap.size + 1 + 1, 2, none⟩ (.int .i64 t.phase)).drew w.heap.size A2 c2 t.delays ∧
    Below w.heap.size w (((wr.setCell ⟨w.heap.size + 1 + 1, 0, none⟩ (.slice A1 n c1)).setCell ⟨w.heap.size + 1 + 1, 1, none⟩ (.slice A2 n c2)).setCell ⟨w.heap.size + 1 + 1, 2, none⟩ (.int .i64 t.phase)).drew := by
  have f := fun (A : Option Addr) (c : Nat) (xs : List Int) (ho : Own wr (w.heap.size + 1 + 1 + 1) A c xs) (v0 v1 v2 : Value) => (own_far (own_far (own_far ho (p := ⟨w.heap.size + 1 + 1, 0, none⟩) (neb_lo (own_lo ho) (by simp)) v0) (p := ⟨w.heap.size + 1 + 1, 1, none⟩) (neb_lo (own_lo ho) (by simp)) v1) (p := ⟨w.heap.size + 1 + 1, 2, none⟩) (neb_lo (own_lo ho) (by simp)) v2)
  exact ⟨((h.br.set_ 0 _).set_ 1 _).set_ 2 _, own_mono (f _ _ _ h.o9 _ _ _) (by omega), own_mono (f _ _ _ h.o1 _ _ _) (by omega), own_mono (f _ _ _ h.o2 _ _ _) (by omega),
    (((h.hb.setCell (show w.heap.size ≤ w.heap.size + 1 + 1 by omega) _).setCell (show w.heap.size ≤ w.heap.size + 1 + 1 by omega) _).setCell (show w.heap.size ≤ w.heap.size + 1 + 1 by omega) _).drew⟩
theorem implRun_res {tmps : Array Value} {g : Nat} {w : World} {v0 v1 v2 y b : Value} (hy : tmps.getD 6 undef = y) (hp : tmps.getD 7 undef = .pointer (some ⟨g, 0, none⟩)) (hb : tmps.getD 8 undef = b) (c0 : w.cell? ⟨g, 0, none⟩ = some v0) (c1 : w.cell? ⟨g, 1, none⟩ = some v1) (c2 : w.cell? ⟨g, 2, none⟩ = some v2) :
    (results Try.f19 tmps).run Try.prog w = .ok (.tuple #[y, .agg #[v0, v1, v2], b]) w := by
  have hp' := hp
  have hb' := hb
  have hy' := hy
  simp at hp' hb' hy'
  simp only [results, Try.results19]
  simp [go_sem, hp', hb', hy', c0, c1, c2]
set_option maxRecDepth 100000 in
set_option maxHeartbeats 1000000 in
theorem implRunComb_any (o r k : Int) (A : Option Addr) (c : Nat) (xs : List Int) (A' : Option Addr) (c' : Nat) (ys : List Int) (p : Int) (A3 : Option Addr) (c3 : Nat) (zs : List Int) (w : World) (hr : Rd w w.heap.size A xs) (hr' : Rd w w.heap.size A' ys) (hr3 : Rd w w.heap.size A3 zs) (hn : xs.length ≤ 1048576) (hn' : ys.length ≤ 1048576) (hn3 : zs.length ≤ 1048576) :
    Calls Try.prog 19 #[.agg #[.int .i64 o, .int .i64 r, .int .i64 k], .agg #[.slice A xs.length c, .slice A' ys.length c', .int .i64 p], .slice A3 zs.length c3] w (RetRC w (runC o r k ⟨xs, ys, p⟩ zs)) := by
  obtain ⟨W, hW⟩ : ∃ W, W = ((w.alloc (.cells #[.int .i64 o, .int .i64 r, .int .i64 k] 24)).alloc (.cells #[.slice A xs.length c, .slice A' ys.length c', .int .i64 p] 35)).alloc (.cells #[.slice none 0 0, .slice none 0 0, .int .i64 0] 35) := ⟨_, rfl⟩
  have hb : Below w.heap.size w W := by rw [hW]; exact (((Below.refl _ _).alloc (Nat.le_refl _) _).alloc (by simp) _).alloc (by simp; omega) _
  have bb : Blk W w.heap.size 24 #[.int .i64 o, .int .i64 r, .int .i64 k] := by
    rw [hW]; exact ((Blk.new w 24 #[.int .i64 o, .int .i64 r, .int .i64 k]).alloc _).alloc _
  have bd : Blk W (w.heap.size + 1) 35 #[.slice A xs.length c, .slice A' ys.length c', .int .i64 p] := by
    rw [hW]; have := (Blk.new (w.alloc (.cells #[.int .i64 o, .int .i64 r, .int .i64 k] 24)) 35 #[.slice A xs.length c, .slice A' ys.length c', .int .i64 p]).alloc (.cells #[.slice none 0 0, .slice none 0 0, .int .i64 0] 35)
    simpa using this
  have br : Blk W (w.heap.size + 1 + 1) 35 #[.slice none 0 0, .slice none 0 0, .int .i64 0] := by
    rw [hW]; have := Blk.new ((w.alloc (.cells #[.int .i64 o, .int .i64 r, .int .i64 k] 24)).alloc (.cells #[.slice A xs.length c, .slice A' ys.length c', .int .i64 p] 35)) 35 #[.slice none 0 0, .slice none 0 0, .int .i64 0]
    simpa using this
  have HW := Lib.hid hW
  have Hb := Lib.hid hb
  have BB := Lib.hid bb
  have BD := Lib.hid bd
  have BR := Lib.hid br
  have RW := Lib.hid hr
  have RW' := Lib.hid hr'
  have RZ := Lib.hid hr3
  clear hW hb bb bd br hr hr' hr3
  go_enter Try.func19, Try.ntmps19
  go_wp2_with fail
  rw [← HW.out]
  refine (implIsCombState_any o r k A c xs A' c' ys p _ (RW.out.past Hb.out) (RW'.out.past Hb.out) hn hn').mono ?_; rintro e w1 ⟨rfl, h1⟩
  have BB1 := Lib.hid (BB.out.past h1)
  have BD1 := Lib.hid (BD.out.past h1)
  have BR1 := Lib.hid (BR.out.past h1)
  have Hb1 := Lib.hid (thenB Hb.out h1)
  have r0 := BR1.out.cell 0
  have r1 := BR1.out.cell 1
  have r2 := BR1.out.cell 2
  have f0 := BR1.out.frozen 0
  have f1 := BR1.out.frozen 1
  have f2 := BR1.out.frozen 2
  simp at r0 r1 r2
  clear h1 BB BD BR Hb
  have hNone : ∀ (R : List Int × CS × Bool) , R = ([], ⟨[], [], 0⟩, false) → RetRC w R (.returned (.tuple #[.slice none 0 0, .agg #[.slice none 0 0, .slice none 0 0, .int .i64 0], .bool false])) (((w1.setCell ⟨w.heap.size + 1 + 1, 0, none⟩ (.slice none 0 0)).setCell ⟨w.heap.size + 1 + 1, 1, none⟩ (.slice none 0 0)).setCell ⟨w.heap.size + 1 + 1, 2, none⟩ (.int .i64 0)) := fun R hR => by
    rw [hR]
    exact retRC_none _ _ (((Hb1.out.setCell (p := ⟨w.heap.size + 1 + 1, 0, none⟩) (show w.heap.size ≤ w.heap.size + 1 + 1 by omega) (.slice none 0 0)).setCell (p := ⟨w.heap.size + 1 + 1, 1, none⟩) (show w.heap.size ≤ w.heap.size + 1 + 1 by omega) (.slice none 0 0)).setCell (p := ⟨w.heap.size + 1 + 1, 2, none⟩) (show w.heap.size ≤ w.heap.size + 1 + 1 by omega) (.int .i64 0))
  have HN := Lib.hid hNone
  have RF : Blk (((w1.setCell ⟨w.heap.size + 1 + 1, 0, none⟩ (.slice none 0 0)).setCell ⟨w.heap.size + 1 + 1, 1, none⟩ (.slice none 0 0)).setCell ⟨w.heap.size + 1 + 1, 2, none⟩ (.int .i64 0)) (w.heap.size + 1 + 1) 35 #[.slice none 0 0, .slice none 0 0, .int .i64 0] := ((BR1.out.set_ 0 _).set_ 1 _).set_ 2 _
  have HRF := Lib.hid RF
  clear hNone RF
  rcases Bool.eq_false_or_eq_true (stOk o r k ⟨xs, ys, p⟩) with hs | hs
  case inr =>
    have HY := Lib.hid (runC_no1 (zs := zs) hs)
    rw [hs]
    clear hs
    go_wp2_with fail
    refine bodyPost_ret (implRun_res (y := .slice none 0 0) (b := .bool false) rfl rfl rfl (HRF.out.cell 0) (HRF.out.cell 1) (HRF.out.cell 2)) rfl ?_
    exact HN.out _ HY.out
  have HS := Lib.hid hs
  rw [hs]
  clear hs
  go_wp2_with fail
  refine (implIsSequence_any A3 c3 zs _ (RZ.out.past Hb1.out) (by omega)).mono ?_; rintro e w' ⟨rfl, rfl⟩
  rcases Bool.eq_false_or_eq_true (seqOk zs) with hs | hs
  case inr =>
    have HY := Lib.hid (runC_no2 (o := o) (r := r) (k := k) (s := ⟨xs, ys, p⟩) hs)
    rw [hs]
    clear hs
    go_wp2_with fail
    refine bodyPost_ret (implRun_res (y := .slice none 0 0) (b := .bool false) rfl rfl rfl (HRF.out.cell 0) (HRF.out.cell 1) (HRF.out.cell 2)) rfl ?_
    exact HN.out _ HY.out
  have HQ := Lib.hid hs
  rw [hs]
  clear hs HN HRF r0 r1 r2 f0 f1 f2
  obtain ⟨hc, hst⟩ := stOk_parts HS.out
  obtain ⟨⟨o1, o2⟩, ⟨r1, r2⟩, k1, k2⟩ := comb_parts hc
  obtain ⟨n, hn1⟩ : ∃ n, n = xs.length := ⟨_, rfl⟩
  have hls := hst.ls
  have hld := hst.ld
  simp only at hls hld
  have HL1 : Hid (xs.length = n) := hn1.symm
  have HL2 : Hid (ys.length = n) := by show _ = _; omega
  have n6 : n ≤ 6 := by omega
  have n1 : 1 ≤ n := by omega
  have HO : Hid (o = (n : Int)) := by show _ = _; omega
  rw [HL1.out] at BD1
  rw [HL2.out] at BD1
  have d0 := BD1.out.cell 0
  have d1 := BD1.out.cell 1
  have df0 := BD1.out.frozen 0
  have df1 := BD1.out.frozen 1
  simp at d0 d1
  have HST := Lib.hid hst
  have hzl : zs.length ≤ 1000 := seqOk_len HQ.out
  clear hc hst hls hld hn1
  have Hc1 : Hid (Calls Try.prog 56 #[.slice A n c] w1 (RetSl w1 xs)) := by
    have := clone_any A c xs w1 (RW.out.past Hb1.out) (by omega)
    rw [HL1.out] at this; exact this
  go_wp2_with fail
  refine Hc1.out.mono ?_; rintro e w2 ⟨A1, c1, rfl, O1, h2⟩
  rw [HL1.out]
  have z1 : w.heap.size + 1 + 1 < w1.heap.size := BR1.out.lt
  have bb2 := (BB1.out.past h2).far (p := ⟨w.heap.size + 1, 0, none⟩) (by simp) (.slice A1 n c1)
  have bd2 := (BD1.out.past h2).set_ 0 (.slice A1 n c1)
  have br2 := (BR1.out.past h2).far (p := ⟨w.heap.size + 1, 0, none⟩) (by simp) (.slice A1 n c1)
  have hb2 := (thenB Hb1.out h2).setCell (p := ⟨w.heap.size + 1, 0, none⟩) (by simp) (.slice A1 n c1)
  have lo1 : Hid (Lo A1 (w.heap.size + 1 + 1 + 1)) := lo_le (own_lo O1) (by omega)
  have oo1 := own_far O1 (p := ⟨w.heap.size + 1, 0, none⟩) (neb_lo lo1.out (by simp)) (.slice A1 n c1)
  have rr2 := RW'.out.past hb2
  have rz2 := RZ.out.past hb2
  simp at bd2
  obtain ⟨w3, hw3⟩ : ∃ w3, w3 = w2.setCell ⟨w.heap.size + 1, 0, none⟩ (.slice A1 n c1) := ⟨_, rfl⟩
  rw [← hw3] at bb2 bd2 br2 hb2 oo1 rr2 rz2
  have HW3 := Lib.hid hw3
  have Hc2 : Hid (Calls Try.prog 56 #[.slice A' n c'] w3 (RetSl w3 ys)) := by
    have := clone_any A' c' ys w3 rr2 (by omega)
    rw [HL2.out] at this; exact this
  have e1 := (BD1.out.past h2).cell 1
  have e0 := (BD1.out.past h2).cell 0
  have ef0 := (BD1.out.past h2).frozen 0
  have ef1 := (BD1.out.past h2).frozen 1
  simp at e0 e1
  have BB2 := Lib.hid bb2
  have BD2 := Lib.hid bd2
  have BR2 := Lib.hid br2
  have Hb2 := Lib.hid hb2
  have OO1 := Lib.hid (own_mono oo1 (show w.heap.size + 1 + 1 + 1 ≤ _ by omega))
  clear hw3 bb2 bd2 br2 hb2 oo1 rr2 O1 h2 BB1 BD1 BR1 Hb1 Hc1 d0 d1 df0 df1 RW RW'
  go_wp2_with fail
  rw [← HW3.out]
  clear e0 e1 ef0 ef1
  refine Hc2.out.mono ?_; rintro e w4 ⟨A2, c2, rfl, O2, h4⟩
  rw [HL2.out]
  have z2 : w.heap.size + 1 + 1 < w3.heap.size := BR2.out.lt
  have lo2 : Hid (Lo A2 (w.heap.size + 1 + 1 + 1)) := lo_le (own_lo O2) (by omega)
  have e1 := (BD2.out.past h4).cell 1
  have ef1 := (BD2.out.past h4).frozen 1
  simp at e1
  have hCM : Hid (CM w (w4.setCell ⟨w.heap.size + 1, 1, none⟩ (.slice A2 n c2)) o r k (w.heap.size + 1) n A1 c1 A2 c2 none 0 ⟨xs, ys, p⟩ []) := by
    have bd4 := (BD2.out.past h4).set_ 1 (.slice A2 n c2)
    simp at bd4
    exact ⟨(thenB Hb2.out h4).setCell (by simp) _, (BB2.out.past h4).far (by simp) _, bd4, (BR2.out.past h4).far (by simp) _, HL1.out, HL2.out,
      own_far (own_past OO1.out h4) (neb_lo lo1.out (by simp)) _, own_mono (own_far O2 (neb_lo lo2.out (by simp)) _) (show w.heap.size + 1 + 1 + 1 ≤ _ by omega), own_nil _ _,
      apart_lt (own_hi OO1.out) (own_lo O2) (Nat.le_refl _), (fun a a' e e' => by cases e'), (fun a a' e e' => by cases e'), neb_lo lo1.out (by simp), neb_lo lo2.out (by simp), (fun a e => by cases e), by simp, by simp⟩
  clear BB2 BD2 BR2 Hb2 OO1 O2 h4 Hc2 rz2
  go_wp2_with fail
  obtain ⟨w5, hw5⟩ : ∃ w5, w5 = w4.setCell ⟨w.heap.size + 1, 1, none⟩ (.slice A2 n c2) := ⟨_, rfl⟩
  have hsz : w5.heap.size = w4.heap.size := by rw [hw5]; simp
  rw [← hw5] at hCM ⊢
  have hcm := hCM.out.empty
  rw [hsz] at hcm
  have HM := Lib.hid hcm
  clear hw5 e1 ef1 HW3 hcm hCM hsz z1 z2 lo1 lo2 HW
  obtain ⟨s, hse⟩ : ∃ s : CS, s = ⟨xs, ys, p⟩ := ⟨_, rfl⟩
  rw [← hse] at HM HST HS
  have HSE := Lib.hid hse
  clear hse
  go_loopw [9, 36] (fun q i wr => ∃ (j m : Nat) (A9 : Option Addr) (c9 : Nat) (Y : List Int), j ≤ zs.length ∧ i = .int .i64 j ∧ q = .slice A9 m c9 ∧ m ≤ j ∧ Hid (Y.length = m) ∧ Hid (Y = cYs r k s zs j) ∧ Hid (CM w wr o r k (w.heap.size + 1) n A1 c1 A2 c2 A9 c9 (cSt r k s zs j) Y)) (fun _ i _ => zs.length - (intOf i).toNat)
  case atStart => exact ⟨0, 0, _, 0, [], by omega, rfl, rfl, by omega, rfl, rfl, HM.out⟩
  case round =>
    clear HM
    obtain ⟨j, m, A9, c9, Y, hj, rfl, rfl, hm, HYl, HY, HM⟩ := hrel
    by_cases hlt : j < zs.length
    · obtain ⟨ad, rfl, hbl, hcell⟩ := RZ.out.at_ hlt
      have hc1 : wr.cell? (ad.add j) = some (.int .i64 (zs.getD j 0)) := (HM.out.hb.cell (by rw [block_add]; exact hbl)).trans (hcell j hlt)
      have hxb := seqOk_at HQ.out hlt
      rw [← getD_at hlt] at hxb
      have HT : Hid (cSt r k s zs (j + 1) = cOne r k (cSt r k s zs j) (zs.getD j 0)) := rfl
      have HYn : Hid (cYs r k s zs (j + 1) = Y ++ cOut r k (cSt r k s zs j) (zs.getD j 0)) := by show _ = _; rw [HY.out]; rfl
      have HTk : Hid (StOk o r k (cSt r k s zs j)) := cSt_ok zs o1 r1 HST.out j
      obtain ⟨t, ht⟩ : ∃ t, t = cSt r k s zs j := ⟨_, rfl⟩
      obtain ⟨x, hx⟩ : ∃ x, x = zs.getD j 0 := ⟨_, rfl⟩
      rw [← ht] at HM HT HYn HTk
      rw [← hx] at hc1 hxb HT HYn
      clear ht hx HY hcell
      have xb : Hid (-2305843009213693952 ≤ x ∧ x ≤ 2305843009213693952) := by show _ ∧ _; omega
      have hp0 := HTk.out.p0
      have hp1 := HTk.out.p1
      have e0 := HM.out.bs.cell 0
      simp at e0
      obtain ⟨S, D, ph⟩ := t
      simp only at hp0 hp1
      have HM0 : Hid (CM w wr o r k (w.heap.size + 1) n A1 c1 A2 c2 A9 c9 ⟨mixS k S x 0, D, ph⟩ Y) := by rw [mixS_zero]; exact HM.out
      have HSl : Hid (S.length = n) := HM.out.l1
      have HDl : Hid (D.length = n) := HM.out.l2
      clear HM
      go_wp2_with fail
      go_loopw [11, 43] (fun v i wq => ∃ (q : Nat), q ≤ n ∧ i = .int .i64 q ∧ v = .int .i64 (chS k S x q) ∧ Hid (CM w wq o r k (w.heap.size + 1) n A1 c1 A2 c2 A9 c9 ⟨mixS k S x q, D, ph⟩ Y)) (fun _ i _ => n - (intOf i).toNat)
      case atStart => exact ⟨0, by omega, rfl, rfl, HM0.out⟩
      case round =>
        clear HM0 e0 hc1
        obtain ⟨q, hq, rfl, rfl, HM⟩ := hrel
        by_cases hlt2 : q < n
        · obtain ⟨g, rfl, hg1, hg2⟩ := own_head HM.out.o1 (k := q) (by rw [mixS_length, HSl.out]; exact hlt2)
          have hqS : q < S.length := by rw [HSl.out]; exact hlt2
          have e0 := HM.out.bs.cell 0
          have k2c := HM.out.bc.cell 2
          simp at e0 k2c
          have sc := own_cell HM.out.o1 (j := q) (by rw [mixS_length, HSl.out]; exact hlt2)
          have sf := own_frozen HM.out.o1 q
          simp only at sc
          rw [mixS_at hqS] at sc
          have ab := word_bd k1 k2 (words_getD k1 HTk.out.ws q)
          have ub := chS_bd (S := S) k1 k2 xb.out q
          have HU : Hid (chS k S x (q + 1) = wrapW (S.getD q 0 + chS k S x q) k) := rfl
          simp only at ab
          obtain ⟨u, hu⟩ : ∃ u, u = chS k S x q := ⟨_, rfl⟩
          obtain ⟨a, ha⟩ : ∃ a, a = S.getD q 0 := ⟨_, rfl⟩
          rw [← hu] at ub HU ⊢
          rw [← ha] at sc ab HU
          have HM1 : Hid (CM w (wr.setCell ⟨g, q, none⟩ (.int .i64 (wrapW (a + u) k))).drew o r k (w.heap.size + 1) n (some ⟨g, 0, none⟩) c1 A2 c2 A9 c9 ⟨mixS k S x (q + 1), D, ph⟩ Y) := (HM.out.setS (t := ⟨mixS k S x q, D, ph⟩) q (wrapW (a + u) k) (by show (mixS k S x q).set q _ = _; rw [← HU.out]; exact mixS_step hqS)).drew
          have s1 : IntKind.i64.wrap (a + u) = a + u := Go.IntWalk.i64_in _ (by omega)
          have nb1 : ¬ (w.heap.size + 1 = g) := by omega
          have nb2 : ¬ (g = w.heap.size + 1) := by omega
          have nb3 : ¬ (w.heap.size = g) := by omega
          have nb4 : ¬ (g = w.heap.size) := by omega
          have hcw : Hid (∀ W, Calls Try.prog 16 #[.int .i64 (a + u), .int .i64 k] W fun e w' => e = .returned (.int .i64 (wrapW (a + u) k)) ∧ w' = W) := fun W => (implWrapWord_any _ _ W).mono (by rintro e w' ⟨rfl, rfl⟩; rw [wrapWord_in k1 k2]; exact ⟨rfl, rfl⟩)
          have hqq : (q : Int) < (n : Int) := by omega
          have hq0 : (0 : Int) ≤ (q : Int) := by omega
          clear hu ha hqS ab ub
          go_wp2_with fail
          go_still_tail 14, (by kernel_rfl)
          still_call (hcw.out _)
          still_step
          refine wpStill_nil ?_
          change wpList _ _ _ _ _ wr.drew
          go_wp2
          exact ⟨⟨q + 1, by omega, by go_num, by rw [HU.out], HM1.out⟩, by simp [intOf]; omega⟩
        · obtain rfl : q = n := by omega
          have HM1 : Hid (CM w wr o r k (w.heap.size + 1) q A1 c1 A2 c2 A9 c9 ⟨sumsN k S x, D, ph⟩ Y) := by
            have := HM.out
            rw [← HSl.out, mixS_end] at this
            rw [HSl.out] at this; exact this
          clear HM
          have e2 := HM1.out.bs.cell 2
          have f2 := HM1.out.bs.frozen 2
          have k1c := HM1.out.bc.cell 1
          simp at e2 k1c
          have sp : IntKind.i64.wrap (ph + 1) = ph + 1 := Go.IntWalk.i64_in _ (by omega)
          have nb1 : ¬ (w.heap.size + 1 = w.heap.size) := by omega
          have nb2 : ¬ (w.heap.size = w.heap.size + 1) := by omega
          by_cases hp : ph + 1 < r
          · have HM2 : Hid (CM w (wr.setCell ⟨w.heap.size + 1, 2, none⟩ (.int .i64 (ph + 1))) o r k (w.heap.size + 1) q A1 c1 A2 c2 A9 c9 ⟨sumsN k S x, D, ph + 1⟩ Y) := HM1.out.setP (ph + 1)
            have HT2 : Hid (cSt r k s zs (j + 1) = ⟨sumsN k S x, D, ph + 1⟩) := by
              show _ = _; rw [HT.out]; unfold cOne; rw [if_pos hp]
            have HY2 : Hid (Y = cYs r k s zs (j + 1)) := by
              show _ = _; rw [HYn.out]; unfold cOut; rw [if_pos hp, List.append_nil]
            clear HT HYn HM1
            go_wp2
            exact ⟨⟨j + 1, m, A9, c9, Y, by omega, by go_num, rfl, by omega, HYl.out, HY2.out, by rw [HT2.out]; exact HM2.out⟩, by simp [intOf]; omega⟩
          · have HT2 : Hid (cSt r k s zs (j + 1) = ⟨sumsN k S x, delsN k D (chS k S x q), 0⟩) := by
              show _ = _; rw [HT.out]; unfold cOne; rw [if_neg hp]; simp only [HSl.out]
            have HY2 : Hid (cYs r k s zs (j + 1) = Y ++ [chD k D (chS k S x q) q]) := by
              show _ = _; rw [HYn.out]; unfold cOut; rw [if_neg hp]; simp only [HSl.out, HDl.out]
            have yb : Hid (-2305843009213693952 ≤ chS k S x q ∧ chS k S x q ≤ 2305843009213693952) := chS_bd k1 k2 xb.out q
            obtain ⟨y, hy⟩ : ∃ y, y = chS k S x q := ⟨_, rfl⟩
            rw [← hy] at HT2 HY2 yb ⊢
            clear HT HYn hy
            have HM2 : Hid (CM w ((wr.setCell ⟨w.heap.size + 1, 2, none⟩ (.int .i64 (ph + 1))).setCell ⟨w.heap.size + 1, 2, none⟩ (.int .i64 0)) o r k (w.heap.size + 1) q A1 c1 A2 c2 A9 c9 ⟨sumsN k S x, mixD k D y 0, 0⟩ Y) := by
              rw [mixD_zero]; exact (HM1.out.setP (ph + 1)).setP 0
            have e1 := HM1.out.bs.cell 1
            simp at e1
            clear HM1
            go_wp2_with fail
            go_loopw [11, 79] (fun v i wq => ∃ (d : Nat), d ≤ q ∧ i = .int .i64 d ∧ v = .int .i64 (chD k D y d) ∧ Hid (CM w wq o r k (w.heap.size + 1) q A1 c1 A2 c2 A9 c9 ⟨sumsN k S x, mixD k D y d, 0⟩ Y)) (fun _ i _ => q - (intOf i).toNat)
            case atStart => exact ⟨0, by omega, rfl, rfl, HM2.out⟩
            case round =>
              clear HM2 e1 e2 f2 k1c
              obtain ⟨d, hd, rfl, rfl, HM⟩ := hrel
              by_cases hlt2 : d < q
              · obtain ⟨g, rfl, hg1, hg2⟩ := own_head HM.out.o2 (k := d) (by rw [mixD_length, HDl.out]; exact hlt2)
                have hdD : d < D.length := by rw [HDl.out]; exact hlt2
                have e1 := HM.out.bs.cell 1
                have k2c := HM.out.bc.cell 2
                simp at e1 k2c
                have sc := own_cell HM.out.o2 (j := d) (by rw [mixD_length, HDl.out]; exact hlt2)
                have sf := own_frozen HM.out.o2 d
                simp only at sc
                rw [mixD_at hdD] at sc
                have ab := word_bd k1 k2 (words_getD k1 HTk.out.wd d)
                have ub := chD_bd (D := D) k1 k2 yb.out d
                have HU : Hid (chD k D y (d + 1) = wrapW (chD k D y d - D.getD d 0) k) := rfl
                simp only at ab
                have hms := mixD_step (k := k) (v := y) hdD
                obtain ⟨u, hu⟩ : ∃ u, u = chD k D y d := ⟨_, rfl⟩
                obtain ⟨a, ha⟩ : ∃ a, a = D.getD d 0 := ⟨_, rfl⟩
                rw [← hu] at ub HU hms ⊢
                rw [← ha] at sc ab HU
                have HM1 : Hid (CM w (wr.setCell ⟨g, d, none⟩ (.int .i64 u)) o r k (w.heap.size + 1) q A1 c1 (some ⟨g, 0, none⟩) c2 A9 c9 ⟨sumsN k S x, mixD k D y (d + 1), 0⟩ Y) := HM.out.setD (t := ⟨sumsN k S x, mixD k D y d, 0⟩) d u hms
                have s1 : IntKind.i64.wrap (u - a) = u - a := Go.IntWalk.i64_in _ (by omega)
                have nb3 : ¬ (w.heap.size = g) := by omega
                have nb4 : ¬ (g = w.heap.size) := by omega
                have nb5 : ¬ (w.heap.size + 1 = g) := by omega
                have nb6 : ¬ (g = w.heap.size + 1) := by omega
                have hcw : Hid (∀ W, Calls Try.prog 16 #[.int .i64 (u - a), .int .i64 k] W fun e w' => e = .returned (.int .i64 (wrapW (u - a) k)) ∧ W = w') := fun W => (implWrapWord_any _ _ W).mono (by rintro e w' ⟨rfl, rfl⟩; rw [wrapWord_in k1 k2]; exact ⟨rfl, rfl⟩)
                clear hu ha hdD ab ub hms
                go_wp2_with fail
                refine (hcw.out _).mono ?_; rintro e w' ⟨rfl, rfl⟩
                go_wp2
                exact ⟨⟨d + 1, by omega, by go_num, by rw [HU.out], HM1.out⟩, by simp [intOf]; omega⟩
              · obtain rfl : d = q := by omega
                have HM1 : Hid (CM w wr o r k (w.heap.size + 1) d A1 c1 A2 c2 A9 c9 ⟨sumsN k S x, delsN k D y, 0⟩ Y) := by
                  have := HM.out
                  rw [← HDl.out, mixD_end] at this
                  rw [HDl.out] at this; exact this
                clear HM
                obtain ⟨v, hv⟩ : ∃ v, v = chD k D y d := ⟨_, rfl⟩
                rw [← hv] at HY2 ⊢
                clear hv
                go_wp2_with (at_builtin; refine app_new rfl (.tmp 96) (.tmp 98) rfl (w.heap.size + 1 + 1 + 1) A9 c9 m Y v HYl.out rfl HM1.out.o9 rfl (by omega) (by have := HM1.out.br.lt; omega) ?_)
                intro A9' c9' w6 O6 hw6 mv6
                have HM6 := Lib.hid (HM1.out.app O6 hw6 mv6)
                have HYl2 : Hid ((Y ++ [v]).length = m + 1) := by simp [Hid, HYl.out]
                clear O6 hw6 mv6 HM1
                go_wp2
                exact ⟨⟨j + 1, m + 1, A9', c9', Y ++ [v], by omega, by go_num, rfl, by omega, HYl2.out, HY2.out.symm, by rw [HT2.out]; exact HM6.out⟩, by simp [intOf]; omega⟩
    · obtain rfl : j = zs.length := by omega
      have Hc5 := Lib.hid (implIsSequence_any A9 c9 Y wr (own_rd HM.out.o9) (by rw [HYl.out]; omega))
      rw [HYl.out] at Hc5
      have e0 := HM.out.bs.cell 0
      have e1 := HM.out.bs.cell 1
      have e2 := HM.out.bs.cell 2
      have r0 := HM.out.br.cell 0
      have r1 := HM.out.br.cell 1
      have r2 := HM.out.br.cell 2
      have f0 := HM.out.br.frozen 0
      have f1 := HM.out.br.frozen 1
      have f2 := HM.out.br.frozen 2
      simp at e0 e1 e2 r0 r1 r2
      go_wp2_with fail
      refine Hc5.out.mono ?_; rintro e w' ⟨rfl, rfl⟩
      rcases Bool.eq_false_or_eq_true (seqOk Y) with hs | hs
      · rw [hs]
        have HR := Lib.hid (runC_yes HS.out HQ.out (by rw [← HY.out]; exact hs))
        clear hs Hc5
        go_wp2_with fail
        go_region
        go_wp2
        obtain ⟨RF, q9, q1, q2, hbx⟩ := HM.out.fin
        refine bodyPost_ret (implRun_res (y := .slice A9 m c9) (b := .bool true) rfl rfl rfl (RF.cell 0) (RF.cell 1) (RF.cell 2)) rfl ?_
        rw [← HSE.out, HR.out, ← HY.out]
        have l1 := HM.out.l1
        have l2 := HM.out.l2
        refine ⟨A9, c9, A1, c1, A2, c2, ?_, q9, q1, q2, apart_symm HM.out.p19, apart_symm HM.out.p29, HM.out.p12, hbx⟩
        simp only [l1, l2, HYl.out]
        rfl
      · rw [hs]
        have HR := Lib.hid (runC_no3 (o := o) (s := s) (zs := zs) (by rw [← HY.out]; exact hs))
        clear hs Hc5
        go_wp2_with fail
        have RF : Blk (((wr.setCell ⟨w.heap.size + 1 + 1, 0, none⟩ (.slice none 0 0)).setCell ⟨w.heap.size + 1 + 1, 1, none⟩ (.slice none 0 0)).setCell ⟨w.heap.size + 1 + 1, 2, none⟩ (.int .i64 0)) (w.heap.size + 1 + 1) 35 #[.slice none 0 0, .slice none 0 0, .int .i64 0] := ((HM.out.br.set_ 0 _).set_ 1 _).set_ 2 _
        have hbx := ((HM.out.hb.setCell (p := ⟨w.heap.size + 1 + 1, 0, none⟩) (show w.heap.size ≤ w.heap.size + 1 + 1 by omega) (.slice none 0 0)).setCell (p := ⟨w.heap.size + 1 + 1, 1, none⟩) (show w.heap.size ≤ w.heap.size + 1 + 1 by omega) (.slice none 0 0)).setCell (p := ⟨w.heap.size + 1 + 1, 2, none⟩) (show w.heap.size ≤ w.heap.size + 1 + 1 by omega) (.int .i64 0)
        refine bodyPost_ret (implRun_res (y := .slice none 0 0) (b := .bool false) rfl rfl rfl (RF.cell 0) (RF.cell 1) (RF.cell 2)) rfl ?_
        rw [← HSE.out, HR.out]
        exact retRC_none _ _ hbx
end Go.Proofs.Ytfplecbacgcjgaa
