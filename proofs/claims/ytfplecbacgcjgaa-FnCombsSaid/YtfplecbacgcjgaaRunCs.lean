/- Contract of the reference's RunComb. -/
import Derived.Test.YtfplecbacgcjgaaRunC
import Derived.Test.YtfplecbacgcjgaaCopy
import Derived.Test.YtfplecbacgcjgaaWrap
namespace Go.Proofs.Ytfplecbacgcjgaa
open Go.RowKit
set_option linter.unusedVariables false
set_option linter.unusedSimpArgs false
theorem l5Copy_res {tmps : Array Value} {g : Nat} {w : World} {v0 v1 v2 : Value} (hp : tmps.getD 2 undef = .pointer (some ⟨g, 0, none⟩)) (c0 : w.cell? ⟨g, 0, none⟩ = some v0) (c1 : w.cell? ⟨g, 1, none⟩ = some v1) (c2 : w.cell? ⟨g, 2, none⟩ = some v2) :
    (results Try.f61 tmps).run Try.prog w = .ok (.agg #[v0, v1, v2]) w := by
  have hp' := hp
  simp at hp'
  simp only [results, Try.results61]
  simp [go_sem, hp', c0, c1, c2]
set_option maxHeartbeats 400000 in
theorem l5Copy_any (A : Option Addr) (c : Nat) (xs : List Int) (A' : Option Addr) (c' : Nat) (ys : List Int) (p : Int) (w : World) (hr : Rd w w.heap.size A xs) (hr' : Rd w w.heap.size A' ys) (hn : xs.length ≤ 1048576) (hn' : ys.length ≤ 1048576) :
    Calls Try.prog 61 #[.agg #[.slice A xs.length c, .slice A' ys.length c', .int .i64 p]] w fun e w' => ∃ A1 c1 A2 c2, e = .returned (.agg #[.slice A1 xs.length c1, .slice A2 ys.length c2, .int .i64 p]) ∧ Own w' w.heap.size A1 c1 xs ∧ Own w' w.heap.size A2 c2 ys ∧ Apart A1 A2 ∧ Below w.heap.size w w' := by
  obtain ⟨W, hW⟩ : ∃ W, W = (w.alloc (.cells #[.slice A xs.length c, .slice A' ys.length c', .int .i64 p] 35)).alloc (.cells #[.slice none 0 0, .slice none 0 0, .int .i64 0] 35) := ⟨_, rfl⟩
  have hb : Below w.heap.size w W := by rw [hW]; exact ((Below.refl _ _).alloc (Nat.le_refl _) _).alloc (by simp) _
  have bd : Blk W w.heap.size 35 #[.slice A xs.length c, .slice A' ys.length c', .int .i64 p] := by
    rw [hW]; exact (Blk.new w 35 #[.slice A xs.length c, .slice A' ys.length c', .int .i64 p]).alloc _
  have br : Blk W (w.heap.size + 1) 35 #[.slice none 0 0, .slice none 0 0, .int .i64 0] := by
    rw [hW]; have := Blk.new (w.alloc (.cells #[.slice A xs.length c, .slice A' ys.length c', .int .i64 p] 35)) 35 #[.slice none 0 0, .slice none 0 0, .int .i64 0]
    simpa using this
  have HW := Lib.hid hW
  have Hb := Lib.hid hb.drew
  have BD := Lib.hid bd.drew
  have BR := Lib.hid br.drew
  have RW := Lib.hid hr
  have RW' := Lib.hid hr'
  have e0 := bd.cell 0
  have e1 := bd.cell 1
  have e2 := bd.cell 2
  simp at e0 e1 e2
  clear hW hb bd br hr hr'
  go_enter Try.func61, Try.ntmps61
  go_wp2_with fail
  rw [← HW.out]
  have zn : ¬ (w.heap.size = w.heap.size + 1) := by omega
  have zn2 : ¬ (w.heap.size + 1 = w.heap.size) := by omega
  go_region_held3 (fun w' => w'.cell? ⟨w.heap.size, 0, none⟩ = some (.slice A xs.length c) ∧ w'.cell? ⟨w.heap.size, 1, none⟩ = some (.slice A' ys.length c') ∧ w'.cell? ⟨w.heap.size, 2, none⟩ = some (.int .i64 p)) (first | go_keep)
    (first
      | (go_at_call 74; refine (l1Copy_any A c xs _ (RW.out.past Hb.out) (by omega)).mono ?_; rintro e w1 ⟨A1, c1, rfl, O1, h1⟩; have BD1 := Lib.hid (BD.out.past h1); have BR1 := Lib.hid (BR.out.past h1); have Hb1 := Lib.hid (thenB Hb.out h1); have i0 := BD1.out.cell 0; have i1 := BD1.out.cell 1; have i2 := BD1.out.cell 2; simp at i0 i1 i2; clear h1)
      | (go_at_call 74; refine (l1Copy_any A' c' ys _ (RW'.out.past Hb1.out) (by omega)).mono ?_; rintro e w2 ⟨A2, c2, rfl, O2, h2⟩; have BD2 := Lib.hid (BD1.out.past h2); have BR2 := Lib.hid (BR1.out.past h2); have Hb2 := Lib.hid (thenB Hb1.out h2); have O1' := own_past O1 h2; have h2s := h2.size; have j0 := BD2.out.cell 0; have j1 := BD2.out.cell 1; have j2 := BD2.out.cell 2; have q0 := BR2.out.cell 0; have q1 := BR2.out.cell 1; have q2 := BR2.out.cell 2; have qf0 := BR2.out.frozen 0; have qf1 := BR2.out.frozen 1; have qf2 := BR2.out.frozen 2; simp at j0 j1 j2 q0 q1 q2; clear h2))
  have z1 : w.heap.size + 1 < W.drew.heap.size := BR.out.lt
  have z2 : w.heap.size + 1 < w1.heap.size := BR1.out.lt
  have n1 := neb_lo (own_lo O1') z1
  have n2 := neb_lo (own_lo O2) z2
  have RF := ((BR2.out.set_ 0 (.slice A1 xs.length c1)).set_ 1 (.slice A2 ys.length c2)).set_ 2 (.int .i64 p)
  have o1 := own_far (own_far (own_far O1' (p := ⟨w.heap.size + 1, 0, none⟩) n1 (.slice A1 xs.length c1)) (p := ⟨w.heap.size + 1, 1, none⟩) n1 (.slice A2 ys.length c2)) (p := ⟨w.heap.size + 1, 2, none⟩) n1 (.int .i64 p)
  have o2 := own_far (own_far (own_far O2 (p := ⟨w.heap.size + 1, 0, none⟩) n2 (.slice A1 xs.length c1)) (p := ⟨w.heap.size + 1, 1, none⟩) n2 (.slice A2 ys.length c2)) (p := ⟨w.heap.size + 1, 2, none⟩) n2 (.int .i64 p)
  have hbx := ((Hb2.out.setCell (p := ⟨w.heap.size + 1, 0, none⟩) (by simp) (.slice A1 xs.length c1)).setCell (p := ⟨w.heap.size + 1, 1, none⟩) (by simp) (.slice A2 ys.length c2)).setCell (p := ⟨w.heap.size + 1, 2, none⟩) (by simp) (.int .i64 p)
  have ap := apart_lt (own_hi O1) (own_lo O2) (Nat.le_refl _)
  have h1 : w.heap.size ≤ w1.heap.size := by omega
  have h0 : w.heap.size ≤ W.drew.heap.size := by omega
  clear BD BR RW RW' e0 e1 e2 BD1 BR1 i0 i1 i2 BD2 BR2 j0 j1 j2 q0 q1 q2 qf0 qf1 qf2
  go_wp2
  refine bodyPost_ret (l5Copy_res rfl (RF.cell 0) (RF.cell 1) (RF.cell 2)) rfl ?_
  exact ⟨A1, c1, A2, c2, rfl, own_mono o1 h0, own_mono o2 h1, ap, hbx⟩
set_option maxHeartbeats 400000 in
theorem l5Out_any (o r k p : Int) (n B : Nat) (A1 : Option Addr) (c1 : Nat) (S : List Int) (A2 : Option Addr) (c2 : Nat) (D : List Int) (w : World) (hS : S.length = n) (hD : D.length = n) (ho : o = n) (n1 : 1 ≤ n) (n6 : n ≤ 6) (k1 : 2 ≤ k) (k2 : k ≤ 62)
    (hr : Rd w w.heap.size A1 S) (hO : Own w B A2 c2 D) (ha : Apart A2 A1) (hw : Words k D) (hv : -2305843009213693952 ≤ S.getD (n - 1) 0 ∧ S.getD (n - 1) 0 ≤ 2305843009213693952) :
    Calls Try.prog 63 #[.agg #[.int .i64 o, .int .i64 r, .int .i64 k], .agg #[.slice A1 n c1, .slice A2 n c2, .int .i64 p]] w fun e w' => e = .returned (.int .i64 (chD k D (S.getD (n - 1) 0) n)) ∧ Own w' B A2 c2 (delsN k D (S.getD (n - 1) 0)) ∧ Wrote w w' A2 := by
  obtain ⟨W, hW⟩ : ∃ W, W = (w.alloc (.cells #[.int .i64 o, .int .i64 r, .int .i64 k] 24)).alloc (.cells #[.slice A1 n c1, .slice A2 n c2, .int .i64 p] 35) := ⟨_, rfl⟩
  have hb : Below w.heap.size w W := by rw [hW]; exact ((Below.refl _ _).alloc (Nat.le_refl _) _).alloc (by simp) _
  have bc : Blk W w.heap.size 24 #[.int .i64 o, .int .i64 r, .int .i64 k] := by
    rw [hW]; exact (Blk.new w 24 #[.int .i64 o, .int .i64 r, .int .i64 k]).alloc _
  have bd : Blk W (w.heap.size + 1) 35 #[.slice A1 n c1, .slice A2 n c2, .int .i64 p] := by
    rw [hW]; have := Blk.new (w.alloc (.cells #[.int .i64 o, .int .i64 r, .int .i64 k] 24)) 35 #[.slice A1 n c1, .slice A2 n c2, .int .i64 p]
    simpa using this
  have hwr : Wrote w W A2 := by rw [hW]; exact turn_alloc (turn_alloc (World.grownBy.refl _ _) _) _
  obtain ⟨ad, rfl, hbl, hcell⟩ := hr.at_ (k := n - 1) (by omega)
  have hc1 : W.cell? (ad.add (n - 1)) = some (.int .i64 (S.getD (n - 1) 0)) := (hb.cell (by rw [block_add]; exact hbl)).trans (hcell (n - 1) (by omega))
  obtain ⟨g, rfl, hg1, hg2⟩ := own_head hO (k := 0) (by omega)
  have O0 : Hid (Own W B (some ⟨g, 0, none⟩) c2 (mixD k D (S.getD (n - 1) 0) 0)) := by rw [mixD_zero]; exact own_past hO hb
  obtain ⟨y, hy⟩ : ∃ y, y = S.getD (n - 1) 0 := ⟨_, rfl⟩
  rw [← hy] at hv hc1 O0 ⊢
  obtain ⟨m, hm⟩ : ∃ m, n = m + 1 := ⟨n - 1, by omega⟩
  have c2' := bc.cell 2
  have d1 := bd.cell 1
  simp at c2' d1
  rw [show n - 1 = m by omega] at hc1
  subst ho
  have s1 : IntKind.i64.wrap ((n : Int) - 1) = (m : Int) := by rw [Go.IntWalk.i64_in _ (by omega)]; omega
  have s2 : ((m : Int)).toNat = m := by omega
  have i1 : (m : Int) < (n : Int) := by omega
  have i2 : (0 : Int) ≤ (m : Int) := by omega
  have HW := Lib.hid hW
  have HD := Lib.hid hD
  have HWd := Lib.hid hw
  have YB : Hid (-2305843009213693952 ≤ y ∧ y ≤ 2305843009213693952) := hv
  have BC := Lib.hid bc
  have BD := Lib.hid bd
  have HWR := Lib.hid hwr
  rw [hW] at hc1
  clear hW hb bc bd hr hO hw hv hy hcell hwr hS ha hD hm
  go_enter Try.func63, Try.ntmps63
  go_wp2_with fail
  rw [← HW.out]
  clear hc1 c2' d1 s1 s2 i1 i2 HW
  go_loopw [5, 18] (fun v i wr => ∃ (q : Nat), q ≤ n ∧ i = .int .i64 q ∧ v = .int .i64 (chD k D y q) ∧ Hid (Own wr B (some ⟨g, 0, none⟩) c2 (mixD k D y q)) ∧ Hid (Wrote w wr (some ⟨g, 0, none⟩)) ∧ Hid (Blk wr w.heap.size 24 #[.int .i64 n, .int .i64 r, .int .i64 k]) ∧ Hid (Blk wr (w.heap.size + 1) 35 #[.slice (some ad) n c1, .slice (some ⟨g, 0, none⟩) n c2, .int .i64 p])) (fun _ i _ => n - (intOf i).toNat)
  case atStart => exact ⟨0, by omega, rfl, rfl, O0.out, HWR.out, BC.out, BD.out⟩
  case round =>
    clear O0 HWR BC BD
    obtain ⟨q, hq, rfl, rfl, HO, HWr, BC, BD⟩ := hrel
    by_cases hlt : q < n
    · have hqD : q < D.length := by rw [HD.out]; exact hlt
      have c2' := BC.out.cell 2
      have d1 := BD.out.cell 1
      simp at c2' d1
      have sc := own_cell HO.out (j := q) (by rw [mixD_length]; exact hqD)
      have sf := own_frozen HO.out q
      rw [mixD_at hqD] at sc
      have ab := word_bd k1 k2 (words_getD k1 HWd.out q)
      have ub := chD_bd (D := D) k1 k2 YB.out q
      have HU : Hid (chD k D y (q + 1) = wrapW (chD k D y q - D.getD q 0) k) := rfl
      have hms := mixD_step (k := k) (v := y) hqD
      obtain ⟨u, hu⟩ : ∃ u, u = chD k D y q := ⟨_, rfl⟩
      obtain ⟨a, ha⟩ : ∃ a, a = D.getD q 0 := ⟨_, rfl⟩
      rw [← hu] at ub HU hms ⊢
      rw [← ha] at sc ab HU
      have nb1 : ¬ (w.heap.size = g) := by omega
      have nb2 : ¬ (g = w.heap.size) := by omega
      have nb3 : ¬ (w.heap.size + 1 = g) := by omega
      have nb4 : ¬ (g = w.heap.size + 1) := by omega
      have HO1 : Hid (Own (wr.setCell ⟨g, q, none⟩ (.int .i64 u)) B (some ⟨g, 0, none⟩) c2 (mixD k D y (q + 1))) := by rw [← hms]; exact own_set HO.out q u
      have HW1 : Hid (Wrote w (wr.setCell ⟨g, q, none⟩ (.int .i64 u)) (some ⟨g, 0, none⟩)) := wrote_set HWr.out rfl _
      have BC1 := Lib.hid (BC.out.far (p := ⟨g, q, none⟩) nb1 (.int .i64 u))
      have BD1 := Lib.hid (BD.out.far (p := ⟨g, q, none⟩) nb3 (.int .i64 u))
      have s1 : IntKind.i64.wrap (u - a) = u - a := Go.IntWalk.i64_in _ (by omega)
      clear hu ha hqD ab ub hms
      go_wp2_with fail
      refine (l5Wrap_any (u - a) k _ k1 k2).mono ?_; rintro e w' ⟨rfl, rfl⟩
      go_wp2
      exact ⟨⟨q + 1, by omega, by go_num, by rw [HU.out], HO1.out, HW1.out, BC1.out, BD1.out⟩, by simp [intOf]; omega⟩
    · obtain rfl : q = n := by omega
      have HO1 : Hid (Own wr B (some ⟨g, 0, none⟩) c2 (delsN k D y)) := by
        have := HO.out
        rw [← HD.out, mixD_end] at this; exact this
      clear HO
      go_wp2
      go_ret
      exact ⟨rfl, HO1.out, HWr.out⟩
theorem specRun_res {tmps : Array Value} {g : Nat} {w : World} {v0 v1 v2 y b : Value} (hy : tmps.getD 6 undef = y) (hp : tmps.getD 7 undef = .pointer (some ⟨g, 0, none⟩)) (hb : tmps.getD 8 undef = b) (c0 : w.cell? ⟨g, 0, none⟩ = some v0) (c1 : w.cell? ⟨g, 1, none⟩ = some v1) (c2 : w.cell? ⟨g, 2, none⟩ = some v2) :
    (results Try.f22 tmps).run Try.prog w = .ok (.tuple #[y, .agg #[v0, v1, v2], b]) w := by
  have hp' := hp
  have hb' := hb
  have hy' := hy
  simp at hp' hb' hy'
  simp only [results, Try.results22]
  simp [go_sem, hp', hb', hy', c0, c1, c2]
set_option maxRecDepth 100000 in
set_option maxHeartbeats 1000000 in
theorem specRunComb_any (o r k : Int) (A : Option Addr) (c : Nat) (xs : List Int) (A' : Option Addr) (c' : Nat) (ys : List Int) (p : Int) (A3 : Option Addr) (c3 : Nat) (zs : List Int) (w : World) (hr : Rd w w.heap.size A xs) (hr' : Rd w w.heap.size A' ys) (hr3 : Rd w w.heap.size A3 zs) (hn : xs.length ≤ 1048576) (hn' : ys.length ≤ 1048576) (hn3 : zs.length ≤ 1048576) :
    Calls Try.prog 22 #[.agg #[.int .i64 o, .int .i64 r, .int .i64 k], .agg #[.slice A xs.length c, .slice A' ys.length c', .int .i64 p], .slice A3 zs.length c3] w (RetRC w (runC o r k ⟨xs, ys, p⟩ zs)) := by
  obtain ⟨W, hW⟩ : ∃ W, W = ((w.alloc (.cells #[.int .i64 o, .int .i64 r, .int .i64 k] 24)).alloc (.cells #[.slice A xs.length c, .slice A' ys.length c', .int .i64 p] 35)).alloc (.cells #[.slice none 0 0, .slice none 0 0, .int .i64 0] 35) := ⟨_, rfl⟩
  have hb : Below w.heap.size w W := by rw [hW]; exact (((Below.refl _ _).alloc (Nat.le_refl _) _).alloc (by simp) _).alloc (by simp; omega) _
  have bb : Blk W w.heap.size 24 #[.int .i64 o, .int .i64 r, .int .i64 k] := by
    rw [hW]; exact ((Blk.new w 24 #[.int .i64 o, .int .i64 r, .int .i64 k]).alloc _).alloc _
  have bd : Blk W (w.heap.size + 1) 35 #[.slice A xs.length c, .slice A' ys.length c', .int .i64 p] := by
    rw [hW]; have := (Blk.new (w.alloc (.cells #[.int .i64 o, .int .i64 r, .int .i64 k] 24)) 35 #[.slice A xs.length c, .slice A' ys.length c', .int .i64 p]).alloc (.cells #[.slice none 0 0, .slice none 0 0, .int .i64 0] 35)
    simpa using this
  have br : Blk W (w.heap.size + 1 + 1) 35 #[.slice none 0 0, .slice none 0 0, .int .i64 0] := by
    rw [hW]; have := Blk.new ((w.alloc (.cells #[.int .i64 o, .int .i64 r, .int .i64 k] 24)).alloc (.cells #[.slice A xs.length c, .slice A' ys.length c', .int .i64 p] 35)) 35 #[.slice none 0 0, .slice none 0 0, .int .i64 0]
    simpa using this
  have HW := Lib.hid hW
  have Hb := Lib.hid hb
  have BB := Lib.hid bb
  have BD := Lib.hid bd
  have BR := Lib.hid br
  have RW := Lib.hid hr
  have RW' := Lib.hid hr'
  have RZ := Lib.hid hr3
  clear hW hb bb bd br hr hr' hr3
  go_enter Try.func22, Try.ntmps22
  go_wp2_with fail
  rw [← HW.out]
  refine (specIsCombState_any o r k A c xs A' c' ys p _ (RW.out.past Hb.out) (RW'.out.past Hb.out) hn hn').mono ?_; rintro e w1 ⟨rfl, h1⟩
  have BB1 := Lib.hid (BB.out.past h1)
  have BD1 := Lib.hid (BD.out.past h1)
  have BR1 := Lib.hid (BR.out.past h1)
  have Hb1 := Lib.hid (thenB Hb.out h1)
  have r0 := BR1.out.cell 0
  have r1 := BR1.out.cell 1
  have r2 := BR1.out.cell 2
  have f0 := BR1.out.frozen 0
  have f1 := BR1.out.frozen 1
  have f2 := BR1.out.frozen 2
  simp at r0 r1 r2
  clear h1 BB BD BR Hb
  have hNone : ∀ (R : List Int × CS × Bool) , R = ([], ⟨[], [], 0⟩, false) → RetRC w R (.returned (.tuple #[.slice none 0 0, .agg #[.slice none 0 0, .slice none 0 0, .int .i64 0], .bool false])) (((w1.setCell ⟨w.heap.size + 1 + 1, 0, none⟩ (.slice none 0 0)).setCell ⟨w.heap.size + 1 + 1, 1, none⟩ (.slice none 0 0)).setCell ⟨w.heap.size + 1 + 1, 2, none⟩ (.int .i64 0)) := fun R hR => by
    rw [hR]
    exact retRC_none _ _ (((Hb1.out.setCell (p := ⟨w.heap.size + 1 + 1, 0, none⟩) (show w.heap.size ≤ w.heap.size + 1 + 1 by omega) (.slice none 0 0)).setCell (p := ⟨w.heap.size + 1 + 1, 1, none⟩) (show w.heap.size ≤ w.heap.size + 1 + 1 by omega) (.slice none 0 0)).setCell (p := ⟨w.heap.size + 1 + 1, 2, none⟩) (show w.heap.size ≤ w.heap.size + 1 + 1 by omega) (.int .i64 0))
  have HN := Lib.hid hNone
  have RF : Blk (((w1.setCell ⟨w.heap.size + 1 + 1, 0, none⟩ (.slice none 0 0)).setCell ⟨w.heap.size + 1 + 1, 1, none⟩ (.slice none 0 0)).setCell ⟨w.heap.size + 1 + 1, 2, none⟩ (.int .i64 0)) (w.heap.size + 1 + 1) 35 #[.slice none 0 0, .slice none 0 0, .int .i64 0] := ((BR1.out.set_ 0 _).set_ 1 _).set_ 2 _
  have HRF := Lib.hid RF
  clear hNone RF
  rcases Bool.eq_false_or_eq_true (stOk o r k ⟨xs, ys, p⟩) with hs | hs
  case inr =>
    have HY := Lib.hid (runC_no1 (zs := zs) hs)
    rw [hs]
    clear hs
    go_wp2_with fail
    refine bodyPost_ret (specRun_res (y := .slice none 0 0) (b := .bool false) rfl rfl rfl (HRF.out.cell 0) (HRF.out.cell 1) (HRF.out.cell 2)) rfl ?_
    exact HN.out _ HY.out
  have HS := Lib.hid hs
  rw [hs]
  clear hs
  go_wp2_with fail
  refine (specIsSequence_any A3 c3 zs _ (RZ.out.past Hb1.out) (by omega)).mono ?_; rintro e w' ⟨rfl, rfl⟩
  rcases Bool.eq_false_or_eq_true (seqOk zs) with hs | hs
  case inr =>
    have HY := Lib.hid (runC_no2 (o := o) (r := r) (k := k) (s := ⟨xs, ys, p⟩) hs)
    rw [hs]
    clear hs
    go_wp2_with fail
    refine bodyPost_ret (specRun_res (y := .slice none 0 0) (b := .bool false) rfl rfl rfl (HRF.out.cell 0) (HRF.out.cell 1) (HRF.out.cell 2)) rfl ?_
    exact HN.out _ HY.out
  have HQ := Lib.hid hs
  rw [hs]
  clear hs HN HRF r0 r1 r2 f0 f1 f2
  obtain ⟨hc, hst⟩ := stOk_parts HS.out
  obtain ⟨⟨o1, o2⟩, ⟨r1, r2⟩, k1, k2⟩ := comb_parts hc
  obtain ⟨n, hn1⟩ : ∃ n, n = xs.length := ⟨_, rfl⟩
  have hls := hst.ls
  have hld := hst.ld
  simp only at hls hld
  have HL1 : Hid (xs.length = n) := hn1.symm
  have HL2 : Hid (ys.length = n) := by show _ = _; omega
  have n6 : n ≤ 6 := by omega
  have n1 : 1 ≤ n := by omega
  have HO : Hid (o = (n : Int)) := by show _ = _; omega
  have d0 := BD1.out.cell 0
  have d1 := BD1.out.cell 1
  have d2 := BD1.out.cell 2
  simp at d0 d1 d2
  have HST := Lib.hid hst
  have hzl : zs.length ≤ 1000 := seqOk_len HQ.out
  clear hc hst hls hld hn1
  go_wp2_with fail
  refine (l5Copy_any A c xs A' c' ys p w1 (RW.out.past Hb1.out) (RW'.out.past Hb1.out) hn hn').mono ?_; rintro e w2 ⟨A1, c1, A2, c2, rfl, O1, O2, p12, h2⟩
  rw [HL1.out, HL2.out]
  have z1 : w.heap.size + 1 + 1 < w1.heap.size := BR1.out.lt
  have z2 : w1.heap.size ≤ w2.heap.size := h2.size
  have hCM : Hid (CM w (w2.alloc (.cells #[.slice A1 n c1, .slice A2 n c2, .int .i64 p] 35)) o r k w2.heap.size n A1 c1 A2 c2 none 0 ⟨xs, ys, p⟩ []) := by
    have bx : Below w2.heap.size w2 (w2.alloc (.cells #[.slice A1 n c1, .slice A2 n c2, .int .i64 p] 35)) := (Below.refl _ _).alloc (Nat.le_refl _) _
    exact ⟨thenB (thenB Hb1.out h2) bx, (BB1.out.past h2).past bx, Blk.new _ _ _, (BR1.out.past h2).past bx, HL1.out, HL2.out,
      own_mono (own_past O1 bx) (show w.heap.size + 1 + 1 + 1 ≤ _ by omega), own_mono (own_past O2 bx) (show w.heap.size + 1 + 1 + 1 ≤ _ by omega), own_nil _ _,
      p12, (fun a a' e e' => by cases e'), (fun a a' e e' => by cases e'), neb_hi (own_hi O1) (Nat.le_refl _), neb_hi (own_hi O2) (Nat.le_refl _), (fun a e => by cases e), by omega, by omega⟩
  clear BB1 BD1 BR1 Hb1 O1 O2 p12 h2 d0 d1 d2 RW RW'
  go_wp2_with fail
  have hcm := hCM.out.empty
  have HM := Lib.hid hcm
  simp only [World.size_alloc] at HM
  clear hcm hCM HW
  obtain ⟨s, hse⟩ : ∃ s : CS, s = ⟨xs, ys, p⟩ := ⟨_, rfl⟩
  rw [← hse] at HM HST HS
  have HSE := Lib.hid hse
  clear hse
  go_loopw [10, 29] (fun q i wr => ∃ (j m : Nat) (A9 : Option Addr) (c9 : Nat) (Y : List Int), j ≤ zs.length ∧ i = .int .i64 j ∧ q = .slice A9 m c9 ∧ m ≤ j ∧ Hid (Y.length = m) ∧ Hid (Y = cYs r k s zs j) ∧ Hid (CM w wr o r k w2.heap.size n A1 c1 A2 c2 A9 c9 (cSt r k s zs j) Y)) (fun _ i _ => zs.length - (intOf i).toNat)
  case atStart => exact ⟨0, 0, _, 0, [], by omega, rfl, rfl, by omega, rfl, rfl, HM.out⟩
  case round =>
    clear HM
    obtain ⟨j, m, A9, c9, Y, hj, rfl, rfl, hm, HYl, HY, HM⟩ := hrel
    by_cases hlt : j < zs.length
    · obtain ⟨ad, rfl, hbl, hcell⟩ := RZ.out.at_ hlt
      have hc1 : wr.cell? (ad.add j) = some (.int .i64 (zs.getD j 0)) := (HM.out.hb.cell (by rw [block_add]; exact hbl)).trans (hcell j hlt)
      have hxb := seqOk_at HQ.out hlt
      rw [← getD_at hlt] at hxb
      have HT : Hid (cSt r k s zs (j + 1) = cOne r k (cSt r k s zs j) (zs.getD j 0)) := rfl
      have HYn : Hid (cYs r k s zs (j + 1) = Y ++ cOut r k (cSt r k s zs j) (zs.getD j 0)) := by show _ = _; rw [HY.out]; rfl
      have HTk : Hid (StOk o r k (cSt r k s zs j)) := cSt_ok zs o1 r1 HST.out j
      obtain ⟨t, ht⟩ : ∃ t, t = cSt r k s zs j := ⟨_, rfl⟩
      obtain ⟨x, hx⟩ : ∃ x, x = zs.getD j 0 := ⟨_, rfl⟩
      rw [← ht] at HM HT HYn HTk
      rw [← hx] at hc1 hxb HT HYn
      clear ht hx HY hcell
      have xb : Hid (-2305843009213693952 ≤ x ∧ x ≤ 2305843009213693952) := by show _ ∧ _; omega
      have hp0 := HTk.out.p0
      have hp1 := HTk.out.p1
      have e0 := HM.out.bs.cell 0
      simp at e0
      obtain ⟨S, D, ph⟩ := t
      simp only at hp0 hp1
      have HM0 : Hid (CM w wr o r k w2.heap.size n A1 c1 A2 c2 A9 c9 ⟨mixS k S x 0, D, ph⟩ Y) := by rw [mixS_zero]; exact HM.out
      have HSl : Hid (S.length = n) := HM.out.l1
      have HDl : Hid (D.length = n) := HM.out.l2
      clear HM
      go_wp2_with fail
      go_loopw [12, 36] (fun v i wq => ∃ (q : Nat), q ≤ n ∧ i = .int .i64 q ∧ v = .int .i64 (chS k S x q) ∧ Hid (CM w wq o r k w2.heap.size n A1 c1 A2 c2 A9 c9 ⟨mixS k S x q, D, ph⟩ Y)) (fun _ i _ => n - (intOf i).toNat)
      case atStart => exact ⟨0, by omega, rfl, rfl, HM0.out⟩
      case round =>
        clear HM0 e0 hc1
        obtain ⟨q, hq, rfl, rfl, HM⟩ := hrel
        by_cases hlt2 : q < n
        · obtain ⟨g, rfl, hg1, hg2⟩ := own_head HM.out.o1 (k := q) (by rw [mixS_length, HSl.out]; exact hlt2)
          have hqS : q < S.length := by rw [HSl.out]; exact hlt2
          have e0 := HM.out.bs.cell 0
          have k2c := HM.out.bc.cell 2
          simp at e0 k2c
          have sc := own_cell HM.out.o1 (j := q) (by rw [mixS_length, HSl.out]; exact hlt2)
          have sf := own_frozen HM.out.o1 q
          simp only at sc
          rw [mixS_at hqS] at sc
          have ab := word_bd k1 k2 (words_getD k1 HTk.out.ws q)
          have ub := chS_bd (S := S) k1 k2 xb.out q
          have HU : Hid (chS k S x (q + 1) = wrapW (S.getD q 0 + chS k S x q) k) := rfl
          simp only at ab
          obtain ⟨u, hu⟩ : ∃ u, u = chS k S x q := ⟨_, rfl⟩
          obtain ⟨a, ha⟩ : ∃ a, a = S.getD q 0 := ⟨_, rfl⟩
          rw [← hu] at ub HU ⊢
          rw [← ha] at sc ab HU
          have HM1 : Hid (CM w (wr.setCell ⟨g, q, none⟩ (.int .i64 (wrapW (a + u) k))).drew o r k w2.heap.size n (some ⟨g, 0, none⟩) c1 A2 c2 A9 c9 ⟨mixS k S x (q + 1), D, ph⟩ Y) := (HM.out.setS (t := ⟨mixS k S x q, D, ph⟩) q (wrapW (a + u) k) (by show (mixS k S x q).set q _ = _; rw [← HU.out]; exact mixS_step hqS)).drew
          have s1 : IntKind.i64.wrap (a + u) = a + u := Go.IntWalk.i64_in _ (by omega)
          have nb1 : ¬ (w2.heap.size = g) := fun e => HM.out.n1 _ rfl e.symm
          have nb2 : ¬ (g = w2.heap.size) := fun e => HM.out.n1 _ rfl e
          have nb3 : ¬ (w.heap.size = g) := by omega
          have nb4 : ¬ (g = w.heap.size) := by omega
          have hcw : Hid (∀ W, Calls Try.prog 62 #[.int .i64 (a + u), .int .i64 k] W fun e w' => e = .returned (.int .i64 (wrapW (a + u) k)) ∧ w' = W) := fun W => (l5Wrap_any _ _ W k1 k2).mono (by rintro e w' ⟨rfl, rfl⟩; exact ⟨rfl, rfl⟩)
          have hqq : (q : Int) < (n : Int) := by omega
          have hq0 : (0 : Int) ≤ (q : Int) := by omega
          clear hu ha hqS ab ub
          go_wp2_with fail
          go_still_tail 14, (by kernel_rfl)
          still_call (hcw.out _)
          still_step
          refine wpStill_nil ?_
          change wpList _ _ _ _ _ wr.drew
          go_wp2
          exact ⟨⟨q + 1, by omega, by go_num, by rw [HU.out], HM1.out⟩, by simp [intOf]; omega⟩
        · obtain rfl : q = n := by omega
          have HM1 : Hid (CM w wr o r k w2.heap.size q A1 c1 A2 c2 A9 c9 ⟨sumsN k S x, D, ph⟩ Y) := by
            have := HM.out
            rw [← HSl.out, mixS_end] at this
            rw [HSl.out] at this; exact this
          clear HM
          have e2 := HM1.out.bs.cell 2
          have f2 := HM1.out.bs.frozen 2
          have k1c := HM1.out.bc.cell 1
          simp at e2 k1c
          have sp : IntKind.i64.wrap (ph + 1) = ph + 1 := Go.IntWalk.i64_in _ (by omega)
          have nb1 : ¬ (w2.heap.size = w.heap.size) := by omega
          have nb2 : ¬ (w.heap.size = w2.heap.size) := by omega
          by_cases hp : ph + 1 < r
          · have hpe : (ph + 1 == r) = false := by simp; omega
            have HM2 : Hid (CM w (wr.setCell ⟨w2.heap.size, 2, none⟩ (.int .i64 (ph + 1))) o r k w2.heap.size q A1 c1 A2 c2 A9 c9 ⟨sumsN k S x, D, ph + 1⟩ Y) := HM1.out.setP (ph + 1)
            have HT2 : Hid (cSt r k s zs (j + 1) = ⟨sumsN k S x, D, ph + 1⟩) := by
              show _ = _; rw [HT.out]; unfold cOne; rw [if_pos hp]
            have HY2 : Hid (Y = cYs r k s zs (j + 1)) := by
              show _ = _; rw [HYn.out]; unfold cOut; rw [if_pos hp, List.append_nil]
            clear HT HYn HM1
            go_wp2
            exact ⟨⟨j + 1, m, A9, c9, Y, by omega, by go_num, rfl, by omega, HYl.out, HY2.out, by rw [HT2.out]; exact HM2.out⟩, by simp [intOf]; omega⟩
          · have hpe : (ph + 1 == r) = true := by simp; omega
            have HT2 : Hid (cSt r k s zs (j + 1) = ⟨sumsN k S x, delsN k D (chS k S x q), 0⟩) := by
              show _ = _; rw [HT.out]; unfold cOne; rw [if_neg hp]; simp only [HSl.out]
            have HY2 : Hid (cYs r k s zs (j + 1) = Y ++ [chD k D (chS k S x q) q]) := by
              show _ = _; rw [HYn.out]; unfold cOut; rw [if_neg hp]; simp only [HSl.out, HDl.out]
            have yb : Hid (-2305843009213693952 ≤ chS k S x q ∧ chS k S x q ≤ 2305843009213693952) := chS_bd k1 k2 xb.out q
            have hy1 : (sumsN k S x).getD (q - 1) 0 = chS k S x q := by
              unfold sumsN; rw [lst_getD _ (by rw [HSl.out]; omega), show q - 1 + 1 = q by omega]
            obtain ⟨y, hy⟩ : ∃ y, y = chS k S x q := ⟨_, rfl⟩
            rw [← hy] at HT2 HY2 yb hy1
            clear HT HYn hy
            have HM2 : Hid (CM w ((wr.setCell ⟨w2.heap.size, 2, none⟩ (.int .i64 (ph + 1))).setCell ⟨w2.heap.size, 2, none⟩ (.int .i64 0)) o r k w2.heap.size q A1 c1 A2 c2 A9 c9 ⟨sumsN k S x, D, 0⟩ Y) := (HM1.out.setP (ph + 1)).setP 0
            have hc0 := l5Out_any o r k 0 q (w.heap.size + 1 + 1 + 1) A1 c1 (sumsN k S x) A2 c2 D _ (by rw [sumsN_length]; exact HSl.out) HDl.out HO.out n1 n6 k1 k2 (own_rd HM2.out.o1) HM2.out.o2 (apart_symm HM2.out.p12) HTk.out.wd (by rw [hy1]; exact yb.out)
            rw [hy1] at hc0
            have HC := Lib.hid hc0
            have e1 := HM1.out.bs.cell 1
            have e0 := HM1.out.bs.cell 0
            have k0c := HM1.out.bc.cell 0
            have k2c := HM1.out.bc.cell 2
            simp at e0 e1 k0c k2c
            clear HM1 hc0 hy1
            go_wp2_with fail
            refine HC.out.mono ?_; rintro e w5 ⟨rfl, O5, hw5⟩
            have HM3 := Lib.hid (HM2.out.dels (t := ⟨sumsN k S x, D, 0⟩) O5 (by rw [delsN_length]; exact HDl.out) hw5)
            clear HM2 O5 hw5 HC
            obtain ⟨v, hv⟩ : ∃ v, v = chD k D y q := ⟨_, rfl⟩
            rw [← hv] at HY2 ⊢
            clear hv
            go_wp2_with (at_builtin; refine app_new rfl (.tmp 69) (.tmp 73) rfl (w.heap.size + 1 + 1 + 1) A9 c9 m Y v HYl.out rfl HM3.out.o9 rfl (by omega) (by have := HM3.out.br.lt; omega) ?_)
            intro A9' c9' w6 O6 hw6 mv6
            have HM6 := Lib.hid (HM3.out.app O6 hw6 mv6)
            have HYl2 : Hid ((Y ++ [v]).length = m + 1) := by simp [Hid, HYl.out]
            clear O6 hw6 mv6 HM3
            go_wp2
            exact ⟨⟨j + 1, m + 1, A9', c9', Y ++ [v], by omega, by go_num, rfl, by omega, HYl2.out, HY2.out.symm, by rw [HT2.out]; exact HM6.out⟩, by simp [intOf]; omega⟩
    · obtain rfl : j = zs.length := by omega
      have Hc5 := Lib.hid (specIsSequence_any A9 c9 Y wr (own_rd HM.out.o9) (by rw [HYl.out]; omega))
      rw [HYl.out] at Hc5
      have e0 := HM.out.bs.cell 0
      have e1 := HM.out.bs.cell 1
      have e2 := HM.out.bs.cell 2
      have r0 := HM.out.br.cell 0
      have r1 := HM.out.br.cell 1
      have r2 := HM.out.br.cell 2
      have f0 := HM.out.br.frozen 0
      have f1 := HM.out.br.frozen 1
      have f2 := HM.out.br.frozen 2
      simp at e0 e1 e2 r0 r1 r2
      go_wp2_with fail
      refine Hc5.out.mono ?_; rintro e w' ⟨rfl, rfl⟩
      rcases Bool.eq_false_or_eq_true (seqOk Y) with hs | hs
      · rw [hs]
        have HR := Lib.hid (runC_yes HS.out HQ.out (by rw [← HY.out]; exact hs))
        clear hs Hc5
        go_wp2_with fail
        go_region
        go_wp2
        obtain ⟨RF, q9, q1, q2, hbx⟩ := HM.out.fin
        refine bodyPost_ret (specRun_res (y := .slice A9 m c9) (b := .bool true) rfl rfl rfl (RF.cell 0) (RF.cell 1) (RF.cell 2)) rfl ?_
        rw [← HSE.out, HR.out, ← HY.out]
        have l1 := HM.out.l1
        have l2 := HM.out.l2
        refine ⟨A9, c9, A1, c1, A2, c2, ?_, q9, q1, q2, apart_symm HM.out.p19, apart_symm HM.out.p29, HM.out.p12, hbx⟩
        simp only [l1, l2, HYl.out]
        rfl
      · rw [hs]
        have HR := Lib.hid (runC_no3 (o := o) (s := s) (zs := zs) (by rw [← HY.out]; exact hs))
        clear hs Hc5
        go_wp2_with fail
        have RF : Blk (((wr.setCell ⟨w.heap.size + 1 + 1, 0, none⟩ (.slice none 0 0)).setCell ⟨w.heap.size + 1 + 1, 1, none⟩ (.slice none 0 0)).setCell ⟨w.heap.size + 1 + 1, 2, none⟩ (.int .i64 0)) (w.heap.size + 1 + 1) 35 #[.slice none 0 0, .slice none 0 0, .int .i64 0] := ((HM.out.br.set_ 0 _).set_ 1 _).set_ 2 _
        have hbx := ((HM.out.hb.setCell (p := ⟨w.heap.size + 1 + 1, 0, none⟩) (show w.heap.size ≤ w.heap.size + 1 + 1 by omega) (.slice none 0 0)).setCell (p := ⟨w.heap.size + 1 + 1, 1, none⟩) (show w.heap.size ≤ w.heap.size + 1 + 1 by omega) (.slice none 0 0)).setCell (p := ⟨w.heap.size + 1 + 1, 2, none⟩) (show w.heap.size ≤ w.heap.size + 1 + 1 by omega) (.int .i64 0)
        refine bodyPost_ret (specRun_res (y := .slice none 0 0) (b := .bool false) rfl rfl rfl (RF.cell 0) (RF.cell 1) (RF.cell 2)) rfl ?_
        rw [← HSE.out, HR.out]
        exact retRC_none _ _ hbx
end Go.Proofs.Ytfplecbacgcjgaa
