/- Contracts of l6Step and of the two StepAccumulator. -/
import Derived.Test.YteabibkbmigpaaaPStep
import Derived.Test.YteabibkbmigpaaaApp
namespace Go.Proofs.Yteabibkbmigpaaa
open Go.RowKit
set_option linter.unusedVariables false
set_option linter.unusedSimpArgs false
theorem apart_moved {A A' A1 : Option Addr} {n : Nat} (h : Apart A A') (hm : Moved A A1 n) (hh : Hi A' n) : Apart A1 A' := by
  rcases hm with e | hl
  · intro a a' ea ea'
    subst ea
    cases A with
    | none => simp [row] at e
    | some b =>
      simp [row] at e
      rw [e]
      exact h b a' rfl ea'
  · exact apart_gt hl hh (Nat.le_refl _)
def RetLLB (w : World) (x : LL) (e : Ending) (w' : World) : Prop :=
  ∃ A c A' c', e = .returned (.tuple #[.slice A x.c.length c, .slice A' x.n.length c', .bool x.ok]) ∧ Own w' w.heap.size A c x.c ∧ Own w' w.heap.size A' c' x.n ∧ Apart A A' ∧ Below w.heap.size w w'
def RetLL (w : World) (xs ys : List Int) (e : Ending) (w' : World) : Prop :=
  ∃ A c A' c', e = .returned (.tuple #[.slice A xs.length c, .slice A' ys.length c']) ∧ Own w' w.heap.size A c xs ∧ Own w' w.heap.size A' c' ys ∧ Apart A A' ∧ Below w.heap.size w w'
theorem two_empty (W : World) : Own ((W.alloc (.cells #[] 3)).alloc (.cells #[] 3)) W.heap.size (some ⟨W.heap.size, 0, none⟩) 0 [] ∧ Own ((W.alloc (.cells #[] 3)).alloc (.cells #[] 3)) W.heap.size (some ⟨W.heap.size + 1, 0, none⟩) 0 [] ∧ Below W.heap.size W ((W.alloc (.cells #[] 3)).alloc (.cells #[] 3)) := by
  have h1 := own_empty W W.heap.size (Nat.le_refl _)
  have h2 := own_empty (W.alloc (.cells #[] 3)) W.heap.size (by simp)
  simp only [World.size_alloc] at h2
  exact ⟨own_past h1 ((Below.refl _ _).alloc (Nat.le_refl _) _), h2, ((Below.refl _ _).alloc (Nat.le_refl _) _).alloc (by simp) _⟩
theorem apart_two (a b : Nat) (h : a ≠ b) : Apart (some ⟨a, 0, none⟩) (some ⟨b, 0, none⟩) := fun x y hx hy => by
  injection hx with hx; injection hy with hy; subst hx; subst hy; exact h
set_option maxHeartbeats 1000000 in
theorem l6Step_any (A : Option Addr) (c : Nat) (o m : Int) (s : List Int) (x : Int) (w : World) (hr : Rd w w.heap.size A s) (hn : s.length ≤ 1048576) (hm1 : 2 ≤ m) (hm2 : m ≤ 1048576) (hs : Hid (Rests m s)) (hx1 : 0 ≤ x) (hx2 : x < m) :
    Calls Try.prog 70 #[.agg #[.int .i64 o, .int .i64 m], .slice A s.length c, .int .i64 x] w (RetLL w (stepC m s x) (stepN m s x)) := by
  have hb0 : Below w.heap.size w (w.alloc (.cells #[.int .i64 o, .int .i64 m] 24)) := (Below.refl _ _).alloc (Nat.le_refl _) _
  have hg : w.heap.size < (w.alloc (.cells #[.int .i64 o, .int .i64 m] 24)).heap.size := by simp
  have B0 := Blk.new w 24 #[.int .i64 o, .int .i64 m]
  have R := hr.past hb0
  obtain ⟨q1, q2, q3⟩ := two_empty (w.alloc (.cells #[.int .i64 o, .int .i64 m] 24))
  have B1 := B0.past q3
  have hsz : (w.alloc (.cells #[.int .i64 o, .int .i64 m] 24)).heap.size = w.heap.size + 1 := by simp
  obtain ⟨W, hW⟩ : ∃ W, W = w.alloc (.cells #[.int .i64 o, .int .i64 m] 24) := ⟨_, rfl⟩
  have HW := Lib.hid hW
  rw [hsz] at q1 q2
  have hb0' : Hid (Below w.heap.size w W) := by rw [hW]; exact hb0
  have R' : Hid (Rd W W.heap.size A s) := by rw [hW]; exact R
  have q3' : Hid (Below W.heap.size W (((w.alloc (.cells #[.int .i64 o, .int .i64 m] 24)).alloc (.cells #[] 3)).alloc (.cells #[] 3))) := by rw [hW]; exact q3
  have hsz' : W.heap.size = w.heap.size + 1 := by rw [hW]; exact hsz
  have S1 : w.heap.size + 1 ≤ W.heap.size := by omega
  have S2 : W.heap.size ≤ w.heap.size + 1 := by omega
  have Q1 := Lib.hid q1
  have Q2 := Lib.hid q2
  have BB := Lib.hid B1
  clear hW hsz hsz' hb0 q1 q2 q3 B0 B1 R hr hg
  go_enter Try.func70, Try.ntmps70
  go_wp2
  go_loopw [2, 8, 9, 17] (fun xx q q' i wr => ∃ (k : Nat) (A1 : Option Addr) (c1 : Nat) (A2 : Option Addr) (c2 : Nat), k ≤ s.length ∧ i = .int .i64 k ∧ xx = .int .i64 (sx m s x k) ∧ q = .slice A1 k c1 ∧ q' = .slice A2 k c2 ∧ Hid (Own wr (w.heap.size + 1) A1 c1 ((stepC m s x).take k)) ∧ Hid (Own wr (w.heap.size + 1) A2 c2 ((stepN m s x).take k)) ∧ Hid (Apart A1 A2) ∧ Hid (Blk wr w.heap.size 24 #[.int .i64 o, .int .i64 m]) ∧ Hid (Below W.heap.size W wr)) (fun _ _ _ i _ => s.length - (intOf i).toNat)
  case atStart => exact ⟨0, _, 0, _, 0, by omega, rfl, rfl, rfl, rfl, Q1.out, Q2.out, apart_two _ _ (by omega), BB.out, q3'.out⟩
  case round =>
    clear Q1 Q2 BB q3'
    obtain ⟨k, A1, c1, A2, c2, hk, rfl, rfl, rfl, rfl, O1, O2, ap, BB, hB⟩ := hrel
    have hlC := stepC_length m s x
    have hlN := stepN_length m s x
    have hkC : s.length ≤ (stepC m s x).length := by omega
    have hkN : s.length ≤ (stepN m s x).length := by omega
    have HC := Lib.hid hlC
    have HN := Lib.hid hlN
    clear hlC hlN
    by_cases hlt : k < s.length
    · obtain ⟨ad, rfl, hbl, hcell⟩ := R'.out.at_ hlt
      have hc1 : wr.cell? (ad.add k) = some (.int .i64 (s.getD k 0)) := (hB.out.cell (by rw [block_add]; exact hbl)).trans (hcell k hlt)
      have e1 := BB.out.cell 1
      simp at e1
      have b1 := sx_bd hm1 hs.out ⟨hx1, hx2⟩ k
      have b2 := hs.out _ (List.getElem_mem hlt)
      have vC := Lib.hid (stepC_at (m := m) (s := s) (x := x) (k := k) (by omega))
      have vN := Lib.hid (stepN_at (m := m) (s := s) (x := x) (k := k) (by omega))
      have vS := Lib.hid (show sx m s x (k + 1) = (sx m s x k + s.getD k 0) % m from rfl)
      rw [getD_at hlt] at vC vS
      clear hcell
      rcases Int.lt_or_le (s[k] + sx m s x k) m with hov | hov
      · have ee := Lib.hid (sum_lo (m := m) (a := sx m s x k) (b := s[k]) (by omega) (by omega))
        go_wp2_with (at_builtin; refine app_take rfl (.tmp 32) (.tmp 34) rfl (w.heap.size + 1) A1 c1 k (stepC m s x) _ (by omega) ?_ rfl O1.out rfl (by omega) (by have := hB.out.size; omega) ?_)
        · rw [vC.out, ee.out.2]
        intro A1' c1' w1 O1' hw1 mv1
        have O2' := own_wrote O2.out hw1 (apart_symm ap.out)
        have ap' := apart_moved ap.out mv1 (own_hi O2.out)
        have BB' := blk_wrote BB.out hw1 (own_lo O1.out) (by omega)
        have hB' := below_app hB.out hw1 (own_mono O1.out S2) hB.out.size
        have f1 := BB'.cell 1
        simp at f1
        clear hw1 mv1 hc1 e1 O2 O1 BB hB ap
        have OO1 := Lib.hid O1'
        have OO2 := Lib.hid O2'
        have AP := Lib.hid ap'
        have BB2 := Lib.hid BB'
        have HB2 := Lib.hid hB'
        clear O1' O2' ap' BB' hB'
        go_wp2_with (at_builtin; refine app_take rfl (.tmp 36) (.tmp 38) rfl (w.heap.size + 1) A2 c2 k (stepN m s x) _ (by omega) ?_ rfl OO2.out rfl (by omega) (by have := HB2.out.size; omega) ?_)
        · rw [vN.out, vS.out, ee.out.1]; omega
        intro A2' c2' w2 O2'' hw2 mv2
        have O1'' := own_wrote OO1.out hw2 AP.out
        have ap'' := apart_symm (apart_moved (apart_symm AP.out) mv2 (own_hi OO1.out))
        have BB'' := blk_wrote BB2.out hw2 (own_lo OO2.out) (by omega)
        have hB'' := below_app HB2.out hw2 (own_mono OO2.out S2) HB2.out.size
        go_wp2
        go_roundw
        case rel => exact ⟨k + 1, A1', c1', A2', c2', by omega, by go_num, by rw [vS.out, ee.out.1]; go_num, rfl, rfl, O1'', O2'', ap'', BB'', hB''⟩
        case measure => simp [intOf]; omega
      · have ee := Lib.hid (sum_hi (m := m) (a := sx m s x k) (b := s[k]) (by omega) (by omega) (by omega))
        go_wp2_with (at_builtin; refine app_take rfl (.tmp 32) (.tmp 34) rfl (w.heap.size + 1) A1 c1 k (stepC m s x) _ (by omega) ?_ rfl O1.out rfl (by omega) (by have := hB.out.size; omega) ?_)
        · rw [vC.out, ee.out.2]
        intro A1' c1' w1 O1' hw1 mv1
        have O2' := own_wrote O2.out hw1 (apart_symm ap.out)
        have ap' := apart_moved ap.out mv1 (own_hi O2.out)
        have BB' := blk_wrote BB.out hw1 (own_lo O1.out) (by omega)
        have hB' := below_app hB.out hw1 (own_mono O1.out S2) hB.out.size
        have f1 := BB'.cell 1
        simp at f1
        clear hw1 mv1 hc1 e1 O2 O1 BB hB ap
        have OO1 := Lib.hid O1'
        have OO2 := Lib.hid O2'
        have AP := Lib.hid ap'
        have BB2 := Lib.hid BB'
        have HB2 := Lib.hid hB'
        clear O1' O2' ap' BB' hB'
        go_wp2_with (at_builtin; refine app_take rfl (.tmp 36) (.tmp 38) rfl (w.heap.size + 1) A2 c2 k (stepN m s x) _ (by omega) ?_ rfl OO2.out rfl (by omega) (by have := HB2.out.size; omega) ?_)
        · rw [vN.out, vS.out, ee.out.1]; omega
        intro A2' c2' w2 O2'' hw2 mv2
        have O1'' := own_wrote OO1.out hw2 AP.out
        have ap'' := apart_symm (apart_moved (apart_symm AP.out) mv2 (own_hi OO1.out))
        have BB'' := blk_wrote BB2.out hw2 (own_lo OO2.out) (by omega)
        have hB'' := below_app HB2.out hw2 (own_mono OO2.out S2) HB2.out.size
        go_wp2
        go_roundw
        case rel => exact ⟨k + 1, A1', c1', A2', c2', by omega, by go_num, by rw [vS.out, ee.out.1]; go_num, rfl, rfl, O1'', O2'', ap'', BB'', hB''⟩
        case measure => simp [intOf]; omega
    · obtain rfl : k = s.length := by omega
      go_wp2
      go_ret2
      have O1' := O1.out
      have O2' := O2.out
      rw [List.take_of_length_le (by have := HC.out; omega)] at O1'
      rw [List.take_of_length_le (by have := HN.out; omega)] at O2'
      exact ⟨A1, c1, A2, c2, by rw [HC.out, HN.out]; rfl, own_mono O1' (by omega), own_mono O2' (by omega), ap.out, hb0'.out.trans (hB.out.mono (by omega))⟩
theorem specStepAccumulator_any (A : Option Addr) (o m : Int) (c : Nat) (s : List Int) (x : Int) (w : World) (hr : Rd w w.heap.size A s) (hn : s.length ≤ 1048576) :
    Calls Try.prog 26 #[.agg #[.int .i64 o, .int .i64 m], .slice A s.length c, .int .i64 x] w (RetLLB w (stepA o m s x)) := by
  have B0 := Blk.new w 24 #[.int .i64 o, .int .i64 m]
  have hb0 : Below w.heap.size w (w.alloc (.cells #[.int .i64 o, .int .i64 m] 24)) := (Below.refl _ _).alloc (Nat.le_refl _) _
  have R0 := hr.past hb0
  have Hb := Lib.hid hb0
  clear hb0
  rcases Bool.eq_false_or_eq_true (restsOk o m s) with hrs | hrs
  · obtain ⟨⟨_, m1, m2⟩, _, hv⟩ := restsOk_parts hrs
    have HV : Hid (Rests m s) := hv
    rcases Bool.eq_false_or_eq_true (inB x 0 (m - 1)) with hx | hx
    · have hok : stepOk o m s x = true := by simp only [stepOk, hrs, ← restB_in, hx]; rfl
      obtain ⟨x1, x2⟩ := inB_of hx
      rw [stepA_yes hok]
      clear hv
      go_enter Try.func26, Try.ntmps26
      go_wp2_with fail
      refine (specIsRests_any _ _ _ _ _ _ R0 (by omega)).mono ?_; rintro e w1 ⟨rfl, h1⟩
      have B1 := B0.past h1
      have R1 := R0.past h1
      replace Hb := Lib.hid (thenB Hb.out h1)
      have c0 := B1.cell 0
      have c1 := B1.cell 1
      simp at c0 c1
      clear h1 B0 R0 hr
      go_wp2_with (go_at_call 63; refine (l1In_any _ _ _ _).mono ?_; rintro e w' ⟨rfl, rfl⟩)
      refine (l6Step_any _ _ _ _ _ _ _ R1 hn m1 m2 HV x1 (by omega)).mono ?_; rintro e w2 ⟨A1, c1', A2, c2', rfl, O1, O2, ap, h2⟩
      go_wp2_with fail
      go_ret3
      exact ⟨A1, c1', A2, c2', rfl, own_mono O1 Hb.out.size, own_mono O2 Hb.out.size, ap, thenB Hb.out h2⟩
    · have hok : stepOk o m s x = false := by simp only [stepOk, hrs, ← restB_in, hx]; rfl
      rw [stepA_no hok]
      clear hv
      go_enter Try.func26, Try.ntmps26
      go_wp2_with fail
      refine (specIsRests_any _ _ _ _ _ _ R0 (by omega)).mono ?_; rintro e w1 ⟨rfl, h1⟩
      have B1 := B0.past h1
      replace Hb := Lib.hid (thenB Hb.out h1)
      have c0 := B1.cell 0
      have c1 := B1.cell 1
      simp at c0 c1
      clear h1 B0 R0 hr
      go_wp2_with (go_at_call 63; refine (l1In_any _ _ _ _).mono ?_; rintro e w' ⟨rfl, rfl⟩)
      go_ret3
      exact ⟨none, 0, none, 0, rfl, own_nil _ _, own_nil _ _, (fun a a' e => by cases e), Hb.out⟩
  · have hok : stepOk o m s x = false := by simp [stepOk, hrs]
    rw [stepA_no hok]
    go_enter Try.func26, Try.ntmps26
    go_wp2_with fail
    refine (specIsRests_any _ _ _ _ _ _ R0 (by omega)).mono ?_; rintro e w1 ⟨rfl, h1⟩
    replace Hb := Lib.hid (thenB Hb.out h1)
    clear h1 B0 R0 hr
    go_wp2_with fail
    go_ret3
    exact ⟨none, 0, none, 0, rfl, own_nil _ _, own_nil _ _, (fun a a' e => by cases e), Hb.out⟩
set_option maxHeartbeats 1000000 in
theorem implStep_yes (A : Option Addr) (o m : Int) (c : Nat) (s : List Int) (x : Int) (w : World) (hr : Rd w w.heap.size A s) (hn : s.length ≤ 1048576) (hrs : restsOk o m s = true) (hx1 : 0 ≤ x) (hx2 : x < m) :
    Calls Try.prog 29 #[.agg #[.int .i64 o, .int .i64 m], .slice A s.length c, .int .i64 x] w (RetLLB w ⟨stepC m s x, stepN m s x, true⟩) := by
  obtain ⟨⟨_, hm1, hm2⟩, _, hv⟩ := restsOk_parts hrs
  have hs : Hid (Rests m s) := hv
  have hrb : restB m x = true := by simp [restB]; omega
  have B0 := Blk.new w 24 #[.int .i64 o, .int .i64 m]
  have hb0 : Below w.heap.size w (w.alloc (.cells #[.int .i64 o, .int .i64 m] 24)) := (Below.refl _ _).alloc (Nat.le_refl _) _
  have R0 := hr.past hb0
  have Hb := Lib.hid hb0
  clear hb0 hv
  go_enter Try.func29, Try.ntmps29
  go_wp2_with fail
  refine (implIsRests_any _ _ _ _ _ _ R0 (by omega)).mono ?_; rintro e w1 ⟨rfl, h1⟩
  have B1 := B0.past h1
  have R1 := R0.past h1
  replace Hb := Lib.hid (thenB Hb.out h1)
  have c0 := B1.cell 0
  have c1 := B1.cell 1
  simp at c0 c1
  clear h1 B0 R0 hr
  go_wp2_with fail
  refine (isRest_any _ _ _ _).mono ?_; rintro e W ⟨rfl, h2⟩
  have B2 := B1.past h2
  have R2 := Lib.hid (R1.past h2)
  replace Hb := Lib.hid (thenB Hb.out h2)
  have hg : w.heap.size < W.heap.size := B2.lt
  obtain ⟨q1, q2, q3⟩ := two_empty W
  have Q1 := Lib.hid q1
  have Q2 := Lib.hid q2
  have Q3 := Lib.hid q3
  have BB := Lib.hid (B2.past q3)
  clear h2 B1 R1 c0 c1 q1 q2 q3 B2
  go_wp2_with fail
  go_loopw [2, 9, 10, 27] (fun xx q q' i wr => ∃ (k : Nat) (A1 : Option Addr) (c1 : Nat) (A2 : Option Addr) (c2 : Nat), k ≤ s.length ∧ i = .int .i64 k ∧ xx = .int .i64 (sx m s x k) ∧ q = .slice A1 k c1 ∧ q' = .slice A2 k c2 ∧ Hid (Own wr W.heap.size A1 c1 ((stepC m s x).take k)) ∧ Hid (Own wr W.heap.size A2 c2 ((stepN m s x).take k)) ∧ Hid (Apart A1 A2) ∧ Hid (Blk wr w.heap.size 24 #[.int .i64 o, .int .i64 m]) ∧ Hid (Below W.heap.size W wr)) (fun _ _ _ i _ => s.length - (intOf i).toNat)
  case atStart => exact ⟨0, _, 0, _, 0, by omega, rfl, rfl, rfl, rfl, Q1.out, Q2.out, apart_two _ _ (by omega), BB.out, Q3.out⟩
  case round =>
    clear Q1 Q2 BB Q3
    obtain ⟨k, A1, c1, A2, c2, hk, rfl, rfl, rfl, rfl, O1, O2, ap, BB, hB⟩ := hrel
    have hlC := stepC_length m s x
    have hlN := stepN_length m s x
    have hkC : s.length ≤ (stepC m s x).length := by omega
    have hkN : s.length ≤ (stepN m s x).length := by omega
    have HC := Lib.hid hlC
    have HN := Lib.hid hlN
    clear hlC hlN
    by_cases hlt : k < s.length
    · obtain ⟨ad, rfl, hbl, hcell⟩ := R2.out.at_ hlt
      have hc1 : wr.cell? (ad.add k) = some (.int .i64 (s.getD k 0)) := (hB.out.cell (by rw [block_add]; exact hbl)).trans (hcell k hlt)
      have e1 := BB.out.cell 1
      simp at e1
      have b1 := sx_bd hm1 hs.out ⟨hx1, hx2⟩ k
      have b2 := hs.out _ (List.getElem_mem hlt)
      have vC := Lib.hid (stepC_at (m := m) (s := s) (x := x) (k := k) (by omega))
      have vN := Lib.hid (stepN_at (m := m) (s := s) (x := x) (k := k) (by omega))
      have vS := Lib.hid (show sx m s x (k + 1) = (sx m s x k + s.getD k 0) % m from rfl)
      rw [getD_at hlt] at vC vS
      have hq : 0 ≤ (sx m s x k + s[k]) / m ∧ (sx m s x k + s[k]) / m ≤ 1 := carry_bit hm1 b1 b2
      clear hcell
      go_wp2_with (at_builtin; refine app_take rfl (.tmp 34) (.tmp 39) rfl W.heap.size A1 c1 k (stepC m s x) _ (by omega) ?_ rfl O1.out rfl (by omega) hB.out.size ?_)
      · exact vC.out
      intro A1' c1' w1 O1' hw1 mv1
      have O2' := own_wrote O2.out hw1 (apart_symm ap.out)
      have ap' := apart_moved ap.out mv1 (own_hi O2.out)
      have BB' := blk_wrote BB.out hw1 (own_lo O1.out) hg
      have hB' := below_app hB.out hw1 O1.out hB.out.size
      have f1 := BB'.cell 1
      simp at f1
      clear hw1 mv1 hc1 e1 O2 O1 BB hB ap
      have OO1 := Lib.hid O1'
      have OO2 := Lib.hid O2'
      have AP := Lib.hid ap'
      have BB2 := Lib.hid BB'
      have HB2 := Lib.hid hB'
      clear O1' O2' ap' BB' hB'
      go_wp2_with (at_builtin; refine app_take rfl (.tmp 45) (.tmp 47) rfl W.heap.size A2 c2 k (stepN m s x) _ (by omega) ?_ rfl OO2.out rfl (by omega) HB2.out.size ?_)
      · rw [vN.out, vS.out]
      intro A2' c2' w2 O2'' hw2 mv2
      have O1'' := own_wrote OO1.out hw2 AP.out
      have ap'' := apart_symm (apart_moved (apart_symm AP.out) mv2 (own_hi OO1.out))
      have BB'' := blk_wrote BB2.out hw2 (own_lo OO2.out) hg
      have hB'' := below_app HB2.out hw2 OO2.out HB2.out.size
      go_wp2
      go_roundw
      case rel => exact ⟨k + 1, A1', c1', A2', c2', by omega, by go_num, by rw [vS.out], rfl, rfl, O1'', O2'', ap'', BB'', hB''⟩
      case measure => simp [intOf]; omega
    · obtain rfl : k = s.length := by omega
      go_wp2
      go_ret3
      have O1' := O1.out
      have O2' := O2.out
      rw [List.take_of_length_le (by have := HC.out; omega)] at O1'
      rw [List.take_of_length_le (by have := HN.out; omega)] at O2'
      exact ⟨A1, c1, A2, c2, by rw [HC.out, HN.out]; rfl, own_mono O1' (by omega), own_mono O2' (by omega), ap.out, Hb.out.trans (hB.out.mono (by omega))⟩
theorem implStepAccumulator_any (A : Option Addr) (o m : Int) (c : Nat) (s : List Int) (x : Int) (w : World) (hr : Rd w w.heap.size A s) (hn : s.length ≤ 1048576) :
    Calls Try.prog 29 #[.agg #[.int .i64 o, .int .i64 m], .slice A s.length c, .int .i64 x] w (RetLLB w (stepA o m s x)) := by
  rcases Bool.eq_false_or_eq_true (stepOk o m s x) with hok | hok
  · obtain ⟨h1, h2, h3⟩ := stepOk_parts hok
    rw [stepA_yes hok]
    exact implStep_yes A o m c s x w hr hn h1 h2 h3
  · rw [stepA_no hok]
    have B0 := Blk.new w 24 #[.int .i64 o, .int .i64 m]
    have hb0 : Below w.heap.size w (w.alloc (.cells #[.int .i64 o, .int .i64 m] 24)) := (Below.refl _ _).alloc (Nat.le_refl _) _
    have R0 := hr.past hb0
    have Hb := Lib.hid hb0
    clear hb0
    rcases Bool.eq_false_or_eq_true (restsOk o m s) with hrs | hrs
    · have hx : restB m x = false := by simp only [stepOk, hrs, Bool.true_and] at hok; exact hok
      go_enter Try.func29, Try.ntmps29
      go_wp2_with fail
      refine (implIsRests_any _ _ _ _ _ _ R0 (by omega)).mono ?_; rintro e w1 ⟨rfl, h1⟩
      have B1 := B0.past h1
      replace Hb := Lib.hid (thenB Hb.out h1)
      have c0 := B1.cell 0
      have c1 := B1.cell 1
      simp at c0 c1
      clear h1 B0 R0 hr
      go_wp2_with fail
      refine (isRest_any _ _ _ _).mono ?_; rintro e W ⟨rfl, h2⟩
      replace Hb := Lib.hid (thenB Hb.out h2)
      clear h2 B1 c0 c1
      go_wp2_with fail
      go_ret3
      exact ⟨none, 0, none, 0, rfl, own_nil _ _, own_nil _ _, (fun a a' e => by cases e), Hb.out⟩
    · go_enter Try.func29, Try.ntmps29
      go_wp2_with fail
      refine (implIsRests_any _ _ _ _ _ _ R0 (by omega)).mono ?_; rintro e w1 ⟨rfl, h1⟩
      replace Hb := Lib.hid (thenB Hb.out h1)
      clear h1 B0 R0 hr
      go_wp2_with fail
      go_ret3
      exact ⟨none, 0, none, 0, rfl, own_nil _ _, own_nil _ _, (fun a a' e => by cases e), Hb.out⟩
theorem stepA_len (o m : Int) (s : List Int) (x : Int) : (stepA o m s x).c.length ≤ 6 ∧ (stepA o m s x).n.length ≤ 6 := by
  unfold stepA
  split
  · rename_i h
    obtain ⟨⟨h1, _⟩, h2, _⟩ := restsOk_parts (stepOk_parts h).1
    simp only [stepC_length, stepN_length]
    omega
  · simp
end Go.Proofs.Yteabibkbmigpaaa
