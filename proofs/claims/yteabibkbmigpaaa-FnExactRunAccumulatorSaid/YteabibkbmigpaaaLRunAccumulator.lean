/- The program's RunAccumulator returns what the reference's returns, for all arguments. No condition. -/
import Derived.Test.YteabibkbmigpaaaRestsOf
namespace Go.Proofs.Yteabibkbmigpaaa.runAccumulator
open Go.ChangeShapes Go.WideShapes Go.ChangeAt Go.RowKit
set_option linter.unusedVariables false
set_option linter.unusedSimpArgs false
theorem tot_rows (n : Nat) : ∀ xss : List (List Int), (∀ l ∈ xss, l.length = n) → tot xss = xss.length * n
  | [], _ => by simp [tot]
  | x :: xss, h => by
    rw [tot, tot_rows n xss fun l hl => h l (List.mem_cons_of_mem _ hl), h x (List.mem_cons_self ..), List.length_cons, Nat.add_mul]; omega
theorem run_lens (a b : Int) (s xs : List Int) : (runA a b s xs).c.length ≤ 6 ∧ tot (runA a b s xs).c ≤ 6000 ∧ (runA a b s xs).y.length ≤ 1000 ∧ (runA a b s xs).s.length ≤ 6 ∧ ∀ l ∈ (runA a b s xs).c, l.length ≤ 1000 := by
  rcases Bool.eq_false_or_eq_true (runOk a b s xs) with h | h
  · rw [runA_yes h]
    obtain ⟨h1, h2, h3⟩ := runOk_parts h
    obtain ⟨⟨⟨_, ho⟩, _⟩, hl, _⟩ := restsOk_parts h1
    have hs : s.length ≤ 6 := by omega
    have e1 : (runYes b s xs).c.length = s.length := cRows_length _ _ _ _ _
    have e2 : (runYes b s xs).y.length = xs.length := by show (combTo _ _ _).length = _; rw [run_y]; exact lst_length _ _
    have e3 : (runYes b s xs).s.length = s.length := stX_length _ _ _ _
    have e4 : tot (runYes b s xs).c = s.length * xs.length := by
      show tot (cRows b s xs s.length xs.length) = _
      rw [tot_rows xs.length _ fun l hl => cRows_mem hl, cRows_length]
    refine ⟨by omega, ?_, by omega, by omega, fun l hl => by rw [cRows_mem hl]; exact h3⟩
    rw [e4]
    exact Nat.le_trans (Nat.mul_le_mul hs h3) (by omega)
  · rw [runA_no h]; simp [tot]
theorem run_rows {rs : List Rw} {R : Run} (e : lists rs = R.c) (h : R.c.length ≤ 6 ∧ tot R.c ≤ 6000 ∧ R.y.length ≤ 1000 ∧ R.s.length ≤ 6 ∧ ∀ l ∈ R.c, l.length ≤ 1000) : ∀ r ∈ rs, r.xs.length ≤ 1000 := fun r hr => by
  refine h.2.2.2.2 _ ?_
  rw [← e]
  simp only [lists, List.mem_map]
  exact ⟨r, hr, rfl⟩
theorem markTo_apart {k : Int} {rs qs : List Rw} {D : Option Addr} (h : MarkTo k rs qs rs.length) (ha : ∀ r ∈ rs, Apart r.A D) : ∀ r ∈ qs, Apart r.A D := fun r hr => by
  obtain ⟨i, hi, rfl⟩ := List.getElem_of_mem hr
  have hi' : i < rs.length := by rw [← h.1]; exact hi
  have e := h.2 i hi'
  rw [if_pos hi', List.getElem?_eq_getElem hi] at e
  rw [Option.some.inj e]
  exact (show Apart rs[i].A D from ha _ (List.getElem_mem hi'))
set_option maxRecDepth 100000 in
set_option maxHeartbeats 4000000 in
theorem walkw (w : World) (a0 b0 : Int) (x0 : -9223372036854775808 ≤ a0 ∧ a0 ≤ 9223372036854775807 ∧ -9223372036854775808 ≤ b0 ∧ b0 ≤ 9223372036854775807) (A1 : Option Addr) (z1 : List Int) (c1 : Nat) (l1 : z1.length ≤ c1) (m1 : c1 ≤ maxLen) (r1 : Rd w w.heap.size A1 z1) (i1 : I64 z1) (A2 : Option Addr) (z2 : List Int) (c2 : Nat) (l2 : z2.length ≤ c2) (m2 : c2 ≤ maxLen) (r2 : Rd w w.heap.size A2 z2) (i2 : I64 z2) :
    Calls Try.prog 8 #[.agg #[.int .i64 a0, .int .i64 b0], .slice A1 z1.length c1, .slice A2 z2.length c2] w fun e w' => e = .returned (.bool true) ∧ Below w.heap.size w w' := by
  clear x0
  unfold maxLen at m1
  clear i1
  unfold maxLen at m2
  clear i2
  by_cases n1 : z1.length ≤ 1048576
  case neg =>
    have n1x : 1048576 < z1.length := by omega
    clear n1
    go_enter Try.func8, Try.ntmps8
    go_wp2
    go_ret
    exact ⟨rfl, (Below.refl _ _).alloc (by simp) _⟩
  by_cases n2 : z2.length ≤ 1048576
  case neg =>
    have n2x : 1048576 < z2.length := by omega
    clear n2
    go_enter Try.func8, Try.ntmps8
    go_wp2
    go_ret
    exact ⟨rfl, (Below.refl _ _).alloc (by simp) _⟩
  have Hy := Lib.hid (run_lens a0 b0 z1 z2)
  have Hb : Hid (Below w.heap.size w w) := Below.refl _ _
  have bx : Below w.heap.size w (w.alloc (.cells #[.int .i64 a0, .int .i64 b0] 42)) := (Below.refl _ _).alloc (Nat.le_refl _) _
  have B0 := Blk.new w 42 #[.int .i64 a0, .int .i64 b0]
  have VB0 : w.heap.size < (w.alloc (.cells #[.int .i64 a0, .int .i64 b0] 42)).heap.size := by simp
  replace Hb := Lib.hid (thenB Hb.out bx)
  clear bx
  go_enter Try.func8, Try.ntmps8
  have B0c0 := B0.cell 0
  have B0c1 := B0.cell 1
  simp at B0c0 B0c1
  go_wp2_with fail
  refine (toAccumulator_any a0 b0 _).mono ?_
  rintro e w1 ⟨rfl, h1⟩
  replace B0 := B0.past h1
  replace Hb := Lib.hid (thenB Hb.out h1)
  have t2 : (w.alloc (.cells #[.int .i64 a0, .int .i64 b0] 42)).heap.size ≤ w1.heap.size := h1.size
  clear h1
  clear B0c0 B0c1
  have B0c0 := B0.cell 0
  have B0c1 := B0.cell 1
  simp at B0c0 B0c1
  go_wp2_with fail
  refine (toIntS_any A1 c1 z1 _ (r1.past Hb.out) (by omega)).mono ?_
  rintro e w2 ⟨Ak1a, ck1a, rfl, Ok1a, h2⟩
  replace B0 := B0.past h2
  replace Hb := Lib.hid (thenB Hb.out h2)
  have t4 : w1.heap.size ≤ w2.heap.size := h2.size
  have Lk1a := own_lo Ok1a
  have Uk1a := own_hi Ok1a
  clear h2
  clear B0c0 B0c1
  have B0c0 := B0.cell 0
  have B0c1 := B0.cell 1
  simp at B0c0 B0c1
  go_wp2_with fail
  refine (toIntS_any A2 c2 z2 _ (r2.past Hb.out) (by omega)).mono ?_
  rintro e w3 ⟨Ak2a, ck2a, rfl, Ok2a, h3⟩
  replace Ok1a := own_past Ok1a h3
  replace B0 := B0.past h3
  replace Hb := Lib.hid (thenB Hb.out h3)
  have t6 : w2.heap.size ≤ w3.heap.size := h3.size
  have Lk2a := own_lo Ok2a
  have Uk2a := own_hi Ok2a
  clear h3
  clear B0c0 B0c1
  have B0c0 := B0.cell 0
  have B0c1 := B0.cell 1
  simp at B0c0 B0c1
  go_wp2_with fail
  refine (specRunAccumulator_any Ak1a a0 b0 ck1a z1 Ak2a ck2a z2 _ (own_rd Ok1a) (by omega) (own_rd Ok2a) (by omega)).mono ?_
  rintro e w4 ⟨Aw0, cw0, rsw, Aw1, cw1, Aw2, cw2, rfl, ew, Mw0, Ow1, Ow2, Pw1w2, Prw1, Prw2, Pow1, Pow2, h4⟩
  replace Ok1a := own_past Ok1a h4
  replace Ok2a := own_past Ok2a h4
  replace B0 := B0.past h4
  replace Hb := Lib.hid (thenB Hb.out h4)
  have t8 : w3.heap.size ≤ w4.heap.size := h4.size
  have Lw1 := own_lo Ow1
  have Uw1 := own_hi Ow1
  have Lw2 := own_lo Ow2
  have Uw2 := own_hi Ow2
  have Lw0 := Mw0.los
  have Uw0 := Mw0.his
  have Pw0w1 := And.intro Pow1 Prw1
  have Pw0w2 := And.intro Pow2 Prw2
  have Ew := Lib.hid ew
  clear h4 ew
  have lrw : rsw.length ≤ 6 := by have h1 := lists_length rsw; rw [Ew.out] at h1; have := Hy.out.1; omega
  clear B0c0 B0c1
  have B0c0 := B0.cell 0
  have B0c1 := B0.cell 1
  simp at B0c0 B0c1
  go_wp2_with fail
  refine (toIntS_any A1 c1 z1 _ (r1.past Hb.out) (by omega)).mono ?_
  rintro e w5 ⟨Ak3a, ck3a, rfl, Ok3a, h5⟩
  replace Ok1a := own_past Ok1a h5
  replace Ok2a := own_past Ok2a h5
  replace Ow1 := own_past Ow1 h5
  replace Ow2 := own_past Ow2 h5
  replace B0 := B0.past h5
  replace Hb := Lib.hid (thenB Hb.out h5)
  replace Mw0 := (Mw0).past h5
  have t10 : w4.heap.size ≤ w5.heap.size := h5.size
  have Lk3a := own_lo Ok3a
  have Uk3a := own_hi Ok3a
  clear h5
  clear B0c0 B0c1
  have B0c0 := B0.cell 0
  have B0c1 := B0.cell 1
  simp at B0c0 B0c1
  go_wp2_with fail
  refine (toIntS_any A2 c2 z2 _ (r2.past Hb.out) (by omega)).mono ?_
  rintro e w6 ⟨Ak4a, ck4a, rfl, Ok4a, h6⟩
  replace Ok1a := own_past Ok1a h6
  replace Ok2a := own_past Ok2a h6
  replace Ow1 := own_past Ow1 h6
  replace Ow2 := own_past Ow2 h6
  replace Ok3a := own_past Ok3a h6
  replace B0 := B0.past h6
  replace Hb := Lib.hid (thenB Hb.out h6)
  replace Mw0 := (Mw0).past h6
  have t12 : w5.heap.size ≤ w6.heap.size := h6.size
  have Lk4a := own_lo Ok4a
  have Uk4a := own_hi Ok4a
  clear h6
  clear B0c0 B0c1
  have B0c0 := B0.cell 0
  have B0c1 := B0.cell 1
  simp at B0c0 B0c1
  go_wp2_with fail
  refine (toAccumulator_any a0 b0 _).mono ?_
  rintro e w7 ⟨rfl, h7⟩
  replace Ok1a := own_past Ok1a h7
  replace Ok2a := own_past Ok2a h7
  replace Ow1 := own_past Ow1 h7
  replace Ow2 := own_past Ow2 h7
  replace Ok3a := own_past Ok3a h7
  replace Ok4a := own_past Ok4a h7
  replace B0 := B0.past h7
  replace Hb := Lib.hid (thenB Hb.out h7)
  replace Mw0 := (Mw0).past h7
  have t14 : w6.heap.size ≤ w7.heap.size := h7.size
  clear h7
  clear B0c0 B0c1
  have B0c0 := B0.cell 0
  have B0c1 := B0.cell 1
  simp at B0c0 B0c1
  go_wp2_with fail
  refine (implRunAccumulator_any Ak3a a0 b0 ck3a z1 Ak4a ck4a z2 _ (own_rd Ok3a) (by omega) (own_rd Ok4a) (by omega)).mono ?_
  rintro e w8 ⟨Ag0, cg0, rsg, Ag1, cg1, Ag2, cg2, rfl, eg, Mg0, Og1, Og2, Pg1g2, Prg1, Prg2, Pog1, Pog2, h8⟩
  replace Ok1a := own_past Ok1a h8
  replace Ok2a := own_past Ok2a h8
  replace Ow1 := own_past Ow1 h8
  replace Ow2 := own_past Ow2 h8
  replace Ok3a := own_past Ok3a h8
  replace Ok4a := own_past Ok4a h8
  replace B0 := B0.past h8
  replace Hb := Lib.hid (thenB Hb.out h8)
  replace Mw0 := (Mw0).past h8
  have t16 : w7.heap.size ≤ w8.heap.size := h8.size
  have Lg1 := own_lo Og1
  have Ug1 := own_hi Og1
  have Lg2 := own_lo Og2
  have Ug2 := own_hi Og2
  have Lg0 := Mg0.los
  have Ug0 := Mg0.his
  have Pg0g1 := And.intro Pog1 Prg1
  have Pg0g2 := And.intro Pog2 Prg2
  have Eg := Lib.hid eg
  clear h8 eg
  have lrg : rsg.length ≤ 6 := by have h1 := lists_length rsg; rw [Eg.out] at h1; have := Hy.out.1; omega
  clear B0c0 B0c1
  have B0c0 := B0.cell 0
  have B0c1 := B0.cell 1
  simp at B0c0 B0c1
  go_wp2_with fail
  refine (eqIntSS_same Ag0 Aw0 cg0 cw0 rsg rsw _ Mg0.rdm Mw0.rdm (Eg.out.trans Ew.out.symm) (by omega) (fun r hr => Nat.le_trans (run_rows Eg.out Hy.out r hr) (by omega))).mono ?_
  rintro e w9 ⟨rfl, h9⟩
  replace Ok1a := own_past Ok1a h9
  replace Ok2a := own_past Ok2a h9
  replace Ow1 := own_past Ow1 h9
  replace Ow2 := own_past Ow2 h9
  replace Ok3a := own_past Ok3a h9
  replace Ok4a := own_past Ok4a h9
  replace Og1 := own_past Og1 h9
  replace Og2 := own_past Og2 h9
  replace B0 := B0.past h9
  replace Hb := Lib.hid (thenB Hb.out h9)
  replace Mw0 := (Mw0).past h9
  replace Mg0 := (Mg0).past h9
  have t18 : w8.heap.size ≤ w9.heap.size := h9.size
  clear h9
  clear B0c0 B0c1
  have B0c0 := B0.cell 0
  have B0c1 := B0.cell 1
  simp at B0c0 B0c1
  go_wp2_with fail
  refine (eqIntS_same Ag1 Aw1 cg1 cw1 (runA a0 b0 z1 z2).y _ (own_rd Og1) (own_rd Ow1) (by have := Hy.out; omega)).mono ?_
  rintro e w10 ⟨rfl, h10⟩
  replace Ok1a := own_past Ok1a h10
  replace Ok2a := own_past Ok2a h10
  replace Ow1 := own_past Ow1 h10
  replace Ow2 := own_past Ow2 h10
  replace Ok3a := own_past Ok3a h10
  replace Ok4a := own_past Ok4a h10
  replace Og1 := own_past Og1 h10
  replace Og2 := own_past Og2 h10
  replace B0 := B0.past h10
  replace Hb := Lib.hid (thenB Hb.out h10)
  replace Mw0 := (Mw0).past h10
  replace Mg0 := (Mg0).past h10
  have t20 : w9.heap.size ≤ w10.heap.size := h10.size
  clear h10
  clear B0c0 B0c1
  have B0c0 := B0.cell 0
  have B0c1 := B0.cell 1
  simp at B0c0 B0c1
  go_wp2_with fail
  refine (eqIntS_same Ag2 Aw2 cg2 cw2 (runA a0 b0 z1 z2).s _ (own_rd Og2) (own_rd Ow2) (by have := Hy.out; omega)).mono ?_
  rintro e w11 ⟨rfl, h11⟩
  replace Ok1a := own_past Ok1a h11
  replace Ok2a := own_past Ok2a h11
  replace Ow1 := own_past Ow1 h11
  replace Ow2 := own_past Ow2 h11
  replace Ok3a := own_past Ok3a h11
  replace Ok4a := own_past Ok4a h11
  replace Og1 := own_past Og1 h11
  replace Og2 := own_past Og2 h11
  replace B0 := B0.past h11
  replace Hb := Lib.hid (thenB Hb.out h11)
  replace Mw0 := (Mw0).past h11
  replace Mg0 := (Mg0).past h11
  have t22 : w10.heap.size ≤ w11.heap.size := h11.size
  clear h11
  clear B0c0 B0c1
  have B0c0 := B0.cell 0
  have B0c1 := B0.cell 1
  simp at B0c0 B0c1
  go_wp2_with fail
  refine (toIntS_any A1 c1 z1 _ (r1.past Hb.out) (by omega)).mono ?_
  rintro e w12 ⟨Ak5a, ck5a, rfl, Ok5a, h12⟩
  replace Ok1a := own_past Ok1a h12
  replace Ok2a := own_past Ok2a h12
  replace Ow1 := own_past Ow1 h12
  replace Ow2 := own_past Ow2 h12
  replace Ok3a := own_past Ok3a h12
  replace Ok4a := own_past Ok4a h12
  replace Og1 := own_past Og1 h12
  replace Og2 := own_past Og2 h12
  replace B0 := B0.past h12
  replace Hb := Lib.hid (thenB Hb.out h12)
  replace Mw0 := (Mw0).past h12
  replace Mg0 := (Mg0).past h12
  have t24 : w11.heap.size ≤ w12.heap.size := h12.size
  have Lk5a := own_lo Ok5a
  have Uk5a := own_hi Ok5a
  clear h12
  clear B0c0 B0c1
  have B0c0 := B0.cell 0
  have B0c1 := B0.cell 1
  simp at B0c0 B0c1
  go_wp2_with fail
  refine (eqIntS_same Ak3a Ak5a ck3a ck5a _ _ (own_rd Ok3a) (own_rd Ok5a) (by omega)).mono ?_
  rintro e w13 ⟨rfl, h13⟩
  replace Ok1a := own_past Ok1a h13
  replace Ok2a := own_past Ok2a h13
  replace Ow1 := own_past Ow1 h13
  replace Ow2 := own_past Ow2 h13
  replace Ok3a := own_past Ok3a h13
  replace Ok4a := own_past Ok4a h13
  replace Og1 := own_past Og1 h13
  replace Og2 := own_past Og2 h13
  replace Ok5a := own_past Ok5a h13
  replace B0 := B0.past h13
  replace Hb := Lib.hid (thenB Hb.out h13)
  replace Mw0 := (Mw0).past h13
  replace Mg0 := (Mg0).past h13
  have t26 : w12.heap.size ≤ w13.heap.size := h13.size
  clear h13
  clear B0c0 B0c1
  have B0c0 := B0.cell 0
  have B0c1 := B0.cell 1
  simp at B0c0 B0c1
  go_wp2_with fail
  refine (toIntS_any A2 c2 z2 _ (r2.past Hb.out) (by omega)).mono ?_
  rintro e w14 ⟨Ak6a, ck6a, rfl, Ok6a, h14⟩
  replace Ok1a := own_past Ok1a h14
  replace Ok2a := own_past Ok2a h14
  replace Ow1 := own_past Ow1 h14
  replace Ow2 := own_past Ow2 h14
  replace Ok3a := own_past Ok3a h14
  replace Ok4a := own_past Ok4a h14
  replace Og1 := own_past Og1 h14
  replace Og2 := own_past Og2 h14
  replace Ok5a := own_past Ok5a h14
  replace B0 := B0.past h14
  replace Hb := Lib.hid (thenB Hb.out h14)
  replace Mw0 := (Mw0).past h14
  replace Mg0 := (Mg0).past h14
  have t28 : w13.heap.size ≤ w14.heap.size := h14.size
  have Lk6a := own_lo Ok6a
  have Uk6a := own_hi Ok6a
  clear h14
  clear B0c0 B0c1
  have B0c0 := B0.cell 0
  have B0c1 := B0.cell 1
  simp at B0c0 B0c1
  go_wp2_with fail
  refine (eqIntS_same Ak4a Ak6a ck4a ck6a _ _ (own_rd Ok4a) (own_rd Ok6a) (by omega)).mono ?_
  rintro e w15 ⟨rfl, h15⟩
  replace Ok1a := own_past Ok1a h15
  replace Ok2a := own_past Ok2a h15
  replace Ow1 := own_past Ow1 h15
  replace Ow2 := own_past Ow2 h15
  replace Ok3a := own_past Ok3a h15
  replace Ok4a := own_past Ok4a h15
  replace Og1 := own_past Og1 h15
  replace Og2 := own_past Og2 h15
  replace Ok5a := own_past Ok5a h15
  replace Ok6a := own_past Ok6a h15
  replace B0 := B0.past h15
  replace Hb := Lib.hid (thenB Hb.out h15)
  replace Mw0 := (Mw0).past h15
  replace Mg0 := (Mg0).past h15
  have t30 : w14.heap.size ≤ w15.heap.size := h15.size
  clear h15
  clear B0c0 B0c1
  have B0c0 := B0.cell 0
  have B0c1 := B0.cell 1
  simp at B0c0 B0c1
  go_wp2_with fail
  refine (markIntS_any Ak3a _ ck3a (z1) (1) _ Ok3a (by have := Hy.out; omega) (by have := Hy.out; omega) (by have := Hy.out; omega)).mono ?_
  rintro e w16 ⟨rfl, Qk3a, h16⟩
  replace Mw0 := (Mw0).wrote h16 (apart_lt Uw0.1 Lk3a (by omega)) (fun r hr => apart_lt (Uw0.2 r hr) Lk3a (by omega))
  replace Mg0 := (Mg0).wrote h16 (apart_gt Lg0.1 Uk3a (by omega)) (fun r hr => apart_gt (Lg0.2 r hr) Uk3a (by omega))
  replace Ok1a := own_wrote Ok1a h16 (apart_lt Uk1a Lk3a (by omega))
  replace Ok2a := own_wrote Ok2a h16 (apart_lt Uk2a Lk3a (by omega))
  replace Ow1 := own_wrote Ow1 h16 (apart_lt Uw1 Lk3a (by omega))
  replace Ow2 := own_wrote Ow2 h16 (apart_lt Uw2 Lk3a (by omega))
  replace Ok4a := own_wrote Ok4a h16 (apart_gt Lk4a Uk3a (by omega))
  replace Og1 := own_wrote Og1 h16 (apart_gt Lg1 Uk3a (by omega))
  replace Og2 := own_wrote Og2 h16 (apart_gt Lg2 Uk3a (by omega))
  replace Ok5a := own_wrote Ok5a h16 (apart_gt Lk5a Uk3a (by omega))
  replace Ok6a := own_wrote Ok6a h16 (apart_gt Lk6a Uk3a (by omega))
  replace B0 := blk_wrote B0 h16 Lk3a (by omega)
  replace Hb := Lib.hid (Hb.out.trans (below_wrote h16 Hb.out.size (lo_le Lk3a (by omega))))
  have t32 : w15.heap.size ≤ w16.heap.size := h16.size
  replace Ok3a := Qk3a
  clear h16
  clear B0c0 B0c1
  have B0c0 := B0.cell 0
  have B0c1 := B0.cell 1
  simp at B0c0 B0c1
  go_wp2_with fail
  refine (markIntS_any Ak4a _ ck4a (z2) (1 + (z1).length) _ Ok4a (by have := Hy.out; omega) (by have := Hy.out; omega) (by have := Hy.out; omega)).mono ?_
  rintro e w17 ⟨rfl, Qk4a, h17⟩
  replace Mw0 := (Mw0).wrote h17 (apart_lt Uw0.1 Lk4a (by omega)) (fun r hr => apart_lt (Uw0.2 r hr) Lk4a (by omega))
  replace Mg0 := (Mg0).wrote h17 (apart_gt Lg0.1 Uk4a (by omega)) (fun r hr => apart_gt (Lg0.2 r hr) Uk4a (by omega))
  replace Ok1a := own_wrote Ok1a h17 (apart_lt Uk1a Lk4a (by omega))
  replace Ok2a := own_wrote Ok2a h17 (apart_lt Uk2a Lk4a (by omega))
  replace Ow1 := own_wrote Ow1 h17 (apart_lt Uw1 Lk4a (by omega))
  replace Ow2 := own_wrote Ow2 h17 (apart_lt Uw2 Lk4a (by omega))
  replace Ok3a := own_wrote Ok3a h17 (apart_lt Uk3a Lk4a (by omega))
  replace Og1 := own_wrote Og1 h17 (apart_gt Lg1 Uk4a (by omega))
  replace Og2 := own_wrote Og2 h17 (apart_gt Lg2 Uk4a (by omega))
  replace Ok5a := own_wrote Ok5a h17 (apart_gt Lk5a Uk4a (by omega))
  replace Ok6a := own_wrote Ok6a h17 (apart_gt Lk6a Uk4a (by omega))
  replace B0 := blk_wrote B0 h17 Lk4a (by omega)
  replace Hb := Lib.hid (Hb.out.trans (below_wrote h17 Hb.out.size (lo_le Lk4a (by omega))))
  have t33 : w16.heap.size ≤ w17.heap.size := h17.size
  replace Ok4a := Qk4a
  clear h17
  have kpos : ¬ (1 + (z1.length : Int) + (z2.length : Int) : Int) < 0 := by omega
  clear B0c0 B0c1
  have B0c0 := B0.cell 0
  have B0c1 := B0.cell 1
  simp at B0c0 B0c1
  go_wp2_with fail
  refine (eqIntSS_same Ag0 Aw0 cg0 cw0 rsg rsw _ Mg0.rdm Mw0.rdm (Eg.out.trans Ew.out.symm) (by omega) (fun r hr => Nat.le_trans (run_rows Eg.out Hy.out r hr) (by omega))).mono ?_
  rintro e w18 ⟨rfl, h18⟩
  replace Ok1a := own_past Ok1a h18
  replace Ok2a := own_past Ok2a h18
  replace Ow1 := own_past Ow1 h18
  replace Ow2 := own_past Ow2 h18
  replace Ok3a := own_past Ok3a h18
  replace Ok4a := own_past Ok4a h18
  replace Og1 := own_past Og1 h18
  replace Og2 := own_past Og2 h18
  replace Ok5a := own_past Ok5a h18
  replace Ok6a := own_past Ok6a h18
  replace B0 := B0.past h18
  replace Hb := Lib.hid (thenB Hb.out h18)
  replace Mw0 := (Mw0).past h18
  replace Mg0 := (Mg0).past h18
  have t34 : w17.heap.size ≤ w18.heap.size := h18.size
  clear h18
  clear B0c0 B0c1
  have B0c0 := B0.cell 0
  have B0c1 := B0.cell 1
  simp at B0c0 B0c1
  go_wp2_with fail
  refine (eqIntS_same Ag1 Aw1 cg1 cw1 (runA a0 b0 z1 z2).y _ (own_rd Og1) (own_rd Ow1) (by have := Hy.out; omega)).mono ?_
  rintro e w19 ⟨rfl, h19⟩
  replace Ok1a := own_past Ok1a h19
  replace Ok2a := own_past Ok2a h19
  replace Ow1 := own_past Ow1 h19
  replace Ow2 := own_past Ow2 h19
  replace Ok3a := own_past Ok3a h19
  replace Ok4a := own_past Ok4a h19
  replace Og1 := own_past Og1 h19
  replace Og2 := own_past Og2 h19
  replace Ok5a := own_past Ok5a h19
  replace Ok6a := own_past Ok6a h19
  replace B0 := B0.past h19
  replace Hb := Lib.hid (thenB Hb.out h19)
  replace Mw0 := (Mw0).past h19
  replace Mg0 := (Mg0).past h19
  have t36 : w18.heap.size ≤ w19.heap.size := h19.size
  clear h19
  clear B0c0 B0c1
  have B0c0 := B0.cell 0
  have B0c1 := B0.cell 1
  simp at B0c0 B0c1
  go_wp2_with fail
  refine (eqIntS_same Ag2 Aw2 cg2 cw2 (runA a0 b0 z1 z2).s _ (own_rd Og2) (own_rd Ow2) (by have := Hy.out; omega)).mono ?_
  rintro e w20 ⟨rfl, h20⟩
  replace Ok1a := own_past Ok1a h20
  replace Ok2a := own_past Ok2a h20
  replace Ow1 := own_past Ow1 h20
  replace Ow2 := own_past Ow2 h20
  replace Ok3a := own_past Ok3a h20
  replace Ok4a := own_past Ok4a h20
  replace Og1 := own_past Og1 h20
  replace Og2 := own_past Og2 h20
  replace Ok5a := own_past Ok5a h20
  replace Ok6a := own_past Ok6a h20
  replace B0 := B0.past h20
  replace Hb := Lib.hid (thenB Hb.out h20)
  replace Mw0 := (Mw0).past h20
  replace Mg0 := (Mg0).past h20
  have t38 : w19.heap.size ≤ w20.heap.size := h20.size
  clear h20
  clear B0c0 B0c1
  have B0c0 := B0.cell 0
  have B0c1 := B0.cell 1
  simp at B0c0 B0c1
  have tg : tot (lists rsg) ≤ 1048576 := by rw [Eg.out]; have := Hy.out; omega
  go_wp2_with fail
  refine (markIntSS_only Ag0 _ cg0 rsg 1 _ Mg0 (by omega) tg (by omega) (by omega)).mono ?_
  rintro e w21 ⟨rfl, ⟨qs, MT, Mq⟩, h21⟩
  replace Ok1a := own_only Ok1a h21 (rows_not fun r hr => apart_gt (Lg0.2 r hr) Uk1a (by omega))
  replace Ok2a := own_only Ok2a h21 (rows_not fun r hr => apart_gt (Lg0.2 r hr) Uk2a (by omega))
  replace Ow1 := own_only Ow1 h21 (rows_not fun r hr => apart_gt (Lg0.2 r hr) Uw1 (by omega))
  replace Ow2 := own_only Ow2 h21 (rows_not fun r hr => apart_gt (Lg0.2 r hr) Uw2 (by omega))
  replace Ok3a := own_only Ok3a h21 (rows_not fun r hr => apart_gt (Lg0.2 r hr) Uk3a (by omega))
  replace Ok4a := own_only Ok4a h21 (rows_not fun r hr => apart_gt (Lg0.2 r hr) Uk4a (by omega))
  replace Og1 := own_only Og1 h21 (rows_not Pg0g1.2)
  replace Og2 := own_only Og2 h21 (rows_not Pg0g2.2)
  replace Ok5a := own_only Ok5a h21 (rows_not fun r hr => apart_lt (Ug0.2 r hr) Lk5a (by omega))
  replace Ok6a := own_only Ok6a h21 (rows_not fun r hr => apart_lt (Ug0.2 r hr) Lk6a (by omega))
  replace B0 := blk_only B0 h21 (fun hk => by have := rows_lo Lg0.2 _ hk; omega)
  replace Mw0 := Mw0.only h21 (rows_not fun r hr => apart_gt (Lg0.2 r hr) Uw0.1 (by omega)) (fun q hq => rows_not fun r hr => apart_gt (Lg0.2 r hr) (Uw0.2 q hq) (by omega))
  replace Hb := Lib.hid (below_only Hb.out h21 Hb.out.size (fun k hk => by have := rows_lo Lg0.2 _ hk; omega))
  have t40 : w20.heap.size ≤ w21.heap.size := h21.size
  replace Mg0 := Mq
  have apg0g1 : ∀ r ∈ qs, Apart r.A Ag1 := markTo_apart MT Pg0g1.2
  have apg0g2 : ∀ r ∈ qs, Apart r.A Ag2 := markTo_apart MT Pg0g2.2
  clear h21
  clear B0c0 B0c1
  have B0c0 := B0.cell 0
  have B0c1 := B0.cell 1
  simp at B0c0 B0c1
  go_wp2_with fail
  refine (markIntS_any Ag1 _ cg1 ((runA a0 b0 z1 z2).y) (1 + tot (lists rsg)) _ Og1 (by have := Hy.out; omega) (by have := Hy.out; omega) (by have := Hy.out; omega)).mono ?_
  rintro e w22 ⟨rfl, Qg1, h22⟩
  replace Mw0 := (Mw0).wrote h22 (apart_lt Uw0.1 Lg1 (by omega)) (fun r hr => apart_lt (Uw0.2 r hr) Lg1 (by omega))
  replace Mg0 := (Mg0).wrote h22 (Pg0g1.1) (apg0g1)
  replace Ok1a := own_wrote Ok1a h22 (apart_lt Uk1a Lg1 (by omega))
  replace Ok2a := own_wrote Ok2a h22 (apart_lt Uk2a Lg1 (by omega))
  replace Ow1 := own_wrote Ow1 h22 (apart_lt Uw1 Lg1 (by omega))
  replace Ow2 := own_wrote Ow2 h22 (apart_lt Uw2 Lg1 (by omega))
  replace Ok3a := own_wrote Ok3a h22 (apart_lt Uk3a Lg1 (by omega))
  replace Ok4a := own_wrote Ok4a h22 (apart_lt Uk4a Lg1 (by omega))
  replace Og2 := own_wrote Og2 h22 (apart_symm Pg1g2)
  replace Ok5a := own_wrote Ok5a h22 (apart_gt Lk5a Ug1 (by omega))
  replace Ok6a := own_wrote Ok6a h22 (apart_gt Lk6a Ug1 (by omega))
  replace B0 := blk_wrote B0 h22 Lg1 (by omega)
  replace Hb := Lib.hid (Hb.out.trans (below_wrote h22 Hb.out.size (lo_le Lg1 (by omega))))
  have t41 : w21.heap.size ≤ w22.heap.size := h22.size
  replace Og1 := Qg1
  clear h22
  clear B0c0 B0c1
  have B0c0 := B0.cell 0
  have B0c1 := B0.cell 1
  simp at B0c0 B0c1
  go_wp2_with fail
  refine (markIntS_any Ag2 _ cg2 ((runA a0 b0 z1 z2).s) (1 + tot (lists rsg) + ((runA a0 b0 z1 z2).y).length) _ Og2 (by have := Hy.out; omega) (by have := Hy.out; omega) (by have := Hy.out; omega)).mono ?_
  rintro e w23 ⟨rfl, Qg2, h23⟩
  replace Mw0 := (Mw0).wrote h23 (apart_lt Uw0.1 Lg2 (by omega)) (fun r hr => apart_lt (Uw0.2 r hr) Lg2 (by omega))
  replace Mg0 := (Mg0).wrote h23 (Pg0g2.1) (apg0g2)
  replace Ok1a := own_wrote Ok1a h23 (apart_lt Uk1a Lg2 (by omega))
  replace Ok2a := own_wrote Ok2a h23 (apart_lt Uk2a Lg2 (by omega))
  replace Ow1 := own_wrote Ow1 h23 (apart_lt Uw1 Lg2 (by omega))
  replace Ow2 := own_wrote Ow2 h23 (apart_lt Uw2 Lg2 (by omega))
  replace Ok3a := own_wrote Ok3a h23 (apart_lt Uk3a Lg2 (by omega))
  replace Ok4a := own_wrote Ok4a h23 (apart_lt Uk4a Lg2 (by omega))
  replace Og1 := own_wrote Og1 h23 (Pg1g2)
  replace Ok5a := own_wrote Ok5a h23 (apart_gt Lk5a Ug2 (by omega))
  replace Ok6a := own_wrote Ok6a h23 (apart_gt Lk6a Ug2 (by omega))
  replace B0 := blk_wrote B0 h23 Lg2 (by omega)
  replace Hb := Lib.hid (Hb.out.trans (below_wrote h23 Hb.out.size (lo_le Lg2 (by omega))))
  have t42 : w22.heap.size ≤ w23.heap.size := h23.size
  replace Og2 := Qg2
  clear h23
  have HMT := Lib.hid MT
  clear MT
  have qg : qs.length = rsg.length := HMT.out.1
  have Hqg := Lib.hid qg
  clear qg
  clear B0c0 B0c1
  have B0c0 := B0.cell 0
  have B0c1 := B0.cell 1
  simp at B0c0 B0c1
  have RM : RdM w23 w23.heap.size Ag0 qs := Mg0.rdm
  go_wp2_with fail
  refine (heldIntSS_any Ag0 cg0 rsg qs 1 _ RM HMT.out (by omega) tg (by omega) (by omega)).mono ?_
  rintro e w24 ⟨rfl, rfl⟩
  clear RM
  have q0 : ¬ (1 + (tot (lists rsg) : Int)) < 0 := by omega
  go_wp2_with fail
  refine (heldIntS_any Ag1 cg1 _ (1 + tot (lists rsg)) _ (own_rd Og1) (by have := Hy.out; omega) (by omega) (by omega)).mono ?_
  rintro e w24 ⟨rfl, rfl⟩
  have q1 : ¬ (1 + (tot (lists rsg) : Int) + ((runA a0 b0 z1 z2).y.length : Int)) < 0 := by omega
  go_wp2_with fail
  refine (heldIntS_any Ag2 cg2 _ (1 + tot (lists rsg) + (runA a0 b0 z1 z2).y.length) _ (own_rd Og2) (by have := Hy.out; omega) (by have := Hy.out; omega) (by have := Hy.out; omega)).mono ?_
  rintro e w24 ⟨rfl, rfl⟩
  have q2 : ¬ (1 + (tot (lists rsg) : Int) + ((runA a0 b0 z1 z2).y.length : Int) + ((runA a0 b0 z1 z2).s.length : Int)) < 0 := by omega
  clear B0c0 B0c1
  have B0c0 := B0.cell 0
  have B0c1 := B0.cell 1
  simp at B0c0 B0c1
  go_wp2_with fail
  refine (toAccumulator_any a0 b0 _).mono ?_
  rintro e w24 ⟨rfl, h24⟩
  replace Ok1a := own_past Ok1a h24
  replace Ok2a := own_past Ok2a h24
  replace Ow1 := own_past Ow1 h24
  replace Ow2 := own_past Ow2 h24
  replace Ok3a := own_past Ok3a h24
  replace Ok4a := own_past Ok4a h24
  replace Og1 := own_past Og1 h24
  replace Og2 := own_past Og2 h24
  replace Ok5a := own_past Ok5a h24
  replace Ok6a := own_past Ok6a h24
  replace B0 := B0.past h24
  replace Hb := Lib.hid (thenB Hb.out h24)
  replace Mw0 := (Mw0).past h24
  replace Mg0 := (Mg0).past h24
  have t43 : w23.heap.size ≤ w24.heap.size := h24.size
  clear h24
  clear B0c0 B0c1
  have B0c0 := B0.cell 0
  have B0c1 := B0.cell 1
  simp at B0c0 B0c1
  go_wp2_with fail
  refine (toIntS_any A1 c1 z1 _ (r1.past Hb.out) (by omega)).mono ?_
  rintro e w25 ⟨Ak7a, ck7a, rfl, Ok7a, h25⟩
  replace Ok1a := own_past Ok1a h25
  replace Ok2a := own_past Ok2a h25
  replace Ow1 := own_past Ow1 h25
  replace Ow2 := own_past Ow2 h25
  replace Ok3a := own_past Ok3a h25
  replace Ok4a := own_past Ok4a h25
  replace Og1 := own_past Og1 h25
  replace Og2 := own_past Og2 h25
  replace Ok5a := own_past Ok5a h25
  replace Ok6a := own_past Ok6a h25
  replace B0 := B0.past h25
  replace Hb := Lib.hid (thenB Hb.out h25)
  replace Mw0 := (Mw0).past h25
  replace Mg0 := (Mg0).past h25
  have t45 : w24.heap.size ≤ w25.heap.size := h25.size
  have Lk7a := own_lo Ok7a
  have Uk7a := own_hi Ok7a
  clear h25
  clear B0c0 B0c1
  have B0c0 := B0.cell 0
  have B0c1 := B0.cell 1
  simp at B0c0 B0c1
  go_wp2_with fail
  refine (toIntS_any A2 c2 z2 _ (r2.past Hb.out) (by omega)).mono ?_
  rintro e w26 ⟨Ak8a, ck8a, rfl, Ok8a, h26⟩
  replace Ok1a := own_past Ok1a h26
  replace Ok2a := own_past Ok2a h26
  replace Ow1 := own_past Ow1 h26
  replace Ow2 := own_past Ow2 h26
  replace Ok3a := own_past Ok3a h26
  replace Ok4a := own_past Ok4a h26
  replace Og1 := own_past Og1 h26
  replace Og2 := own_past Og2 h26
  replace Ok5a := own_past Ok5a h26
  replace Ok6a := own_past Ok6a h26
  replace Ok7a := own_past Ok7a h26
  replace B0 := B0.past h26
  replace Hb := Lib.hid (thenB Hb.out h26)
  replace Mw0 := (Mw0).past h26
  replace Mg0 := (Mg0).past h26
  have t47 : w25.heap.size ≤ w26.heap.size := h26.size
  have Lk8a := own_lo Ok8a
  have Uk8a := own_hi Ok8a
  clear h26
  clear B0c0 B0c1
  have B0c0 := B0.cell 0
  have B0c1 := B0.cell 1
  simp at B0c0 B0c1
  go_wp2_with fail
  refine (implRunAccumulator_any Ak7a a0 b0 ck7a z1 Ak8a ck8a z2 _ (own_rd Ok7a) (by omega) (own_rd Ok8a) (by omega)).mono ?_
  rintro e w27 ⟨Ah0, ch0, rsh, Ah1, ch1, Ah2, ch2, rfl, eh, Mh0, Oh1, Oh2, Ph1h2, Prh1, Prh2, Poh1, Poh2, h27⟩
  replace Ok1a := own_past Ok1a h27
  replace Ok2a := own_past Ok2a h27
  replace Ow1 := own_past Ow1 h27
  replace Ow2 := own_past Ow2 h27
  replace Ok3a := own_past Ok3a h27
  replace Ok4a := own_past Ok4a h27
  replace Og1 := own_past Og1 h27
  replace Og2 := own_past Og2 h27
  replace Ok5a := own_past Ok5a h27
  replace Ok6a := own_past Ok6a h27
  replace Ok7a := own_past Ok7a h27
  replace Ok8a := own_past Ok8a h27
  replace B0 := B0.past h27
  replace Hb := Lib.hid (thenB Hb.out h27)
  replace Mw0 := (Mw0).past h27
  replace Mg0 := (Mg0).past h27
  have t49 : w26.heap.size ≤ w27.heap.size := h27.size
  have Lh1 := own_lo Oh1
  have Uh1 := own_hi Oh1
  have Lh2 := own_lo Oh2
  have Uh2 := own_hi Oh2
  have Lh0 := Mh0.los
  have Uh0 := Mh0.his
  have Ph0h1 := And.intro Poh1 Prh1
  have Ph0h2 := And.intro Poh2 Prh2
  have Eh := Lib.hid eh
  clear h27 eh
  have lrh : rsh.length ≤ 6 := by have h1 := lists_length rsh; rw [Eh.out] at h1; have := Hy.out.1; omega
  clear B0c0 B0c1
  have B0c0 := B0.cell 0
  have B0c1 := B0.cell 1
  simp at B0c0 B0c1
  go_wp2_with fail
  refine (eqIntSS_same Ah0 Aw0 ch0 cw0 rsh rsw _ Mh0.rdm Mw0.rdm (Eh.out.trans Ew.out.symm) (by omega) (fun r hr => Nat.le_trans (run_rows Eh.out Hy.out r hr) (by omega))).mono ?_
  rintro e w28 ⟨rfl, h28⟩
  replace Ok1a := own_past Ok1a h28
  replace Ok2a := own_past Ok2a h28
  replace Ow1 := own_past Ow1 h28
  replace Ow2 := own_past Ow2 h28
  replace Ok3a := own_past Ok3a h28
  replace Ok4a := own_past Ok4a h28
  replace Og1 := own_past Og1 h28
  replace Og2 := own_past Og2 h28
  replace Ok5a := own_past Ok5a h28
  replace Ok6a := own_past Ok6a h28
  replace Ok7a := own_past Ok7a h28
  replace Ok8a := own_past Ok8a h28
  replace Oh1 := own_past Oh1 h28
  replace Oh2 := own_past Oh2 h28
  replace B0 := B0.past h28
  replace Hb := Lib.hid (thenB Hb.out h28)
  replace Mw0 := (Mw0).past h28
  replace Mg0 := (Mg0).past h28
  replace Mh0 := (Mh0).past h28
  have t51 : w27.heap.size ≤ w28.heap.size := h28.size
  clear h28
  clear B0c0 B0c1
  have B0c0 := B0.cell 0
  have B0c1 := B0.cell 1
  simp at B0c0 B0c1
  go_wp2_with fail
  refine (eqIntS_same Ah1 Aw1 ch1 cw1 (runA a0 b0 z1 z2).y _ (own_rd Oh1) (own_rd Ow1) (by have := Hy.out; omega)).mono ?_
  rintro e w29 ⟨rfl, h29⟩
  replace Ok1a := own_past Ok1a h29
  replace Ok2a := own_past Ok2a h29
  replace Ow1 := own_past Ow1 h29
  replace Ow2 := own_past Ow2 h29
  replace Ok3a := own_past Ok3a h29
  replace Ok4a := own_past Ok4a h29
  replace Og1 := own_past Og1 h29
  replace Og2 := own_past Og2 h29
  replace Ok5a := own_past Ok5a h29
  replace Ok6a := own_past Ok6a h29
  replace Ok7a := own_past Ok7a h29
  replace Ok8a := own_past Ok8a h29
  replace Oh1 := own_past Oh1 h29
  replace Oh2 := own_past Oh2 h29
  replace B0 := B0.past h29
  replace Hb := Lib.hid (thenB Hb.out h29)
  replace Mw0 := (Mw0).past h29
  replace Mg0 := (Mg0).past h29
  replace Mh0 := (Mh0).past h29
  have t53 : w28.heap.size ≤ w29.heap.size := h29.size
  clear h29
  clear B0c0 B0c1
  have B0c0 := B0.cell 0
  have B0c1 := B0.cell 1
  simp at B0c0 B0c1
  go_wp2_with fail
  refine (eqIntS_same Ah2 Aw2 ch2 cw2 (runA a0 b0 z1 z2).s _ (own_rd Oh2) (own_rd Ow2) (by have := Hy.out; omega)).mono ?_
  rintro e w30 ⟨rfl, h30⟩
  replace Ok1a := own_past Ok1a h30
  replace Ok2a := own_past Ok2a h30
  replace Ow1 := own_past Ow1 h30
  replace Ow2 := own_past Ow2 h30
  replace Ok3a := own_past Ok3a h30
  replace Ok4a := own_past Ok4a h30
  replace Og1 := own_past Og1 h30
  replace Og2 := own_past Og2 h30
  replace Ok5a := own_past Ok5a h30
  replace Ok6a := own_past Ok6a h30
  replace Ok7a := own_past Ok7a h30
  replace Ok8a := own_past Ok8a h30
  replace Oh1 := own_past Oh1 h30
  replace Oh2 := own_past Oh2 h30
  replace B0 := B0.past h30
  replace Hb := Lib.hid (thenB Hb.out h30)
  replace Mw0 := (Mw0).past h30
  replace Mg0 := (Mg0).past h30
  replace Mh0 := (Mh0).past h30
  have t55 : w29.heap.size ≤ w30.heap.size := h30.size
  clear h30
  clear B0c0 B0c1
  have B0c0 := B0.cell 0
  have B0c1 := B0.cell 1
  simp at B0c0 B0c1
  have RM : RdM w30 w30.heap.size Ag0 qs := Mg0.rdm
  go_wp2_with fail
  refine (heldIntSS_any Ag0 cg0 rsg qs 1 _ RM HMT.out (by omega) tg (by omega) (by omega)).mono ?_
  rintro e w31 ⟨rfl, rfl⟩
  clear RM
  go_wp2_with fail
  refine (heldIntS_any Ag1 cg1 _ (1 + tot (lists rsg)) _ (own_rd Og1) (by have := Hy.out; omega) (by omega) (by omega)).mono ?_
  rintro e w31 ⟨rfl, rfl⟩
  go_wp2_with fail
  refine (heldIntS_any Ag2 cg2 _ (1 + tot (lists rsg) + (runA a0 b0 z1 z2).y.length) _ (own_rd Og2) (by have := Hy.out; omega) (by have := Hy.out; omega) (by have := Hy.out; omega)).mono ?_
  rintro e w31 ⟨rfl, rfl⟩
  go_wp2_with fail
  go_ret
  exact ⟨rfl, Hb.out⟩
set_option maxRecDepth 100000 in
theorem lifted (os : Os) (started : os.Started) (H : Type) (enc : TypeId × Value → H) :
    ReturnsInHanded {} Try.checked os 8 .any (Rows.fnExactRunAccumulatorSpec.pre6 enc Try.prog Try.f8 Rows.fnExactRunAccumulatorRow.domain false) (Rows.fnExactRunAccumulatorSpec.post enc Try.prog Try.f8 false true false false) := by
  refine returnsInHanded_of_change (C := Try.checked) own started (by kernel_rfl) Try.func8
    (ChangeSpec.witness6 (enc := enc) (C := Try.checked) false ⟨#[], #[.agg #[.int .i64 0, .int .i64 0], .slice none 0 0, .slice none 0 0], []⟩ 8 (by kernel_rfl) (by kernel_rfl) (by kernel_rfl) (by kernel_rfl)) ?_
  intro W base args ds gs before hval0 hW hcnd _
  have hval : ∀ (j : Nat) t v, Try.f8.params[j]? = some t → args[j]? = some v → Value.okWide Try.prog W .any base t v := hval0
  have hW' := hW
  obtain ⟨p, q, hA0, hV, rfl, hfz, hnd⟩ := hW
  have hA : DataW.TrodAll enc Try.prog W 0 (fun _ => true) true Try.f8.params.toList args.toList ds p := hA0
  rw [Try.params8] at hA hval
  obtain ⟨v0, vs0, d0, ds0, p0, q0, hargs, rfl, rfl, h0, g0⟩ := trodAll_cons hA
  obtain ⟨v1, vs1, d1, ds1, p1, q1, rfl, rfl, rfl, h1, g1⟩ := trodAll_cons g0
  obtain ⟨v2, vs2, d2, ds2, p2, q2, rfl, rfl, rfl, h2, g2⟩ := trodAll_cons g1
  obtain ⟨rfl, rfl, rfl⟩ := trodAll_nil g2
  obtain rfl : args = #[v0, v1, v2] := by cases args; simp_all
  obtain ⟨rfl, rfl⟩ := trodVars_none hV
  have k0 := h0
  have lt0 : ∀ x ∈ p0, x.block < W.heap.size := by obtain ⟨m, hm⟩ := k0; exact DataW.trod_lt m _ _ _ hm
  have k1 := h1
  have lt1 : ∀ x ∈ p1, x.block < W.heap.size := by obtain ⟨m, hm⟩ := k1; exact DataW.trod_lt m _ _ _ hm
  have k2 := h2
  have lt2 : ∀ x ∈ p2, x.block < W.heap.size := by obtain ⟨m, hm⟩ := k2; exact DataW.trod_lt m _ _ _ hm
  obtain ⟨a0, b0, rfl, x0⟩ := arg_s2 Try.underlying42 (by kernel_rfl) (by kernel_rfl) Try.underlying3 Try.underlying3 (hval 0 42 v0 rfl rfl) h0
  obtain ⟨A1, z1, c1, rfl, l1, m1, r1, i1⟩ := arg_ints Try.underlying26 Try.underlying3 (by kernel_rfl) (hval 1 26 v1 rfl rfl) h1
  obtain ⟨A2, z2, c2, rfl, l2, m2, r2, i2⟩ := arg_ints Try.underlying26 Try.underlying3 (by kernel_rfl) (hval 2 26 v2 rfl rfl) h2
  clear hA0 hval0
  refine (walkw W a0 b0 x0 A1 z1 c1 l1 m1 r1 i1 A2 z2 c2 l2 m2 r2 i2).mono fun e W' ⟨he, bel⟩ => ?_
  subst he
  exact ⟨_, rfl, _, _, _, [], _, [], hW', trodAll_mk1 (shut_bool Try.underlying4 _), (trodAll_cons_mk (Below.trod laidOut (by kernel_rfl) (of_decide_eq_true (by kernel_rfl)) k0 bel lt0) (trodAll_cons_mk (Below.trod laidOut (by kernel_rfl) (of_decide_eq_true (by kernel_rfl)) k1 bel lt1) (trodAll_cons_mk (Below.trod laidOut (by kernel_rfl) (of_decide_eq_true (by kernel_rfl)) k2 bel lt2) trodAll_mk0))), rfl, bel.frame _, fun h => by cases h⟩
theorem over : Rows.fnExactRunAccumulatorRow.holds Try.pinned (OpenSpec.ofChange Rows.fnExactRunAccumulatorSpec) :=
  OpenClaim.holds_of_wide 8 Try.f8 rfl rfl rfl rfl rfl rfl rfl ⟨rfl, rfl, rfl, rfl, rfl⟩ rfl rfl rfl rfl rfl (by kernel_rfl) Try.func8 (by kernel_rfl)
    (of_decide_eq_true (by kernel_rfl)) (by unfold Func.isWrapper; first | (rw [if_pos (by decide +kernel)]; kernel_rfl) | (rw [if_neg (by decide +kernel)]; exact ⟨rfl, rfl⟩))
    (fun os started H enc _ => lifted os started H enc)
theorem proved : Rows.FnExactRunAccumulatorSaid := over

end Go.Proofs.Yteabibkbmigpaaa.runAccumulator
