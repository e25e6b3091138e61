/- Contracts of l4Any and of MakeWord. -/
import Derived.Test.YthpjpnilmpihaaaGen4
import Derived.Test.YthpjpnilmpihaaaChr
import Derived.Test.YthpjpnilmpihaaaLawAcc
namespace Go.Proofs.Ythpjpnilmpihaaa
open Go.RowKit
set_option linter.unusedVariables false
set_option linter.unusedSimpArgs false
set_option maxRecDepth 100000 in
set_option maxHeartbeats 4000000 in
theorem l4Any_any (g : Nat) (w : World) (hc : Cur w g) : Calls Try.prog 53 #[.pointer (some ⟨g, 0, none⟩)] w (RetGen (fun xs => xs.length ≤ 60) g w) := by
  have hgl := hc.lt
  go_enter Try.func53, Try.ntmps53
  go_wp2_with fail
  refine (l01Below_any g _ _ hc (by omega) (by omega)).mono ?_; rintro e w1 ⟨v, rfl, v1, v2, C1, T1⟩
  go_wp2_with fail
  obtain ⟨q, hq⟩ : ∃ q : Nat, 1 + v = q := ⟨(1 + v).toNat, by omega⟩
  rw [hq]
  have q1 : 1 ≤ (q : Int) := by omega
  have q2 : (q : Int) ≤ 12 := by omega
  clear hq
  refine (l01Below_any g _ _ C1 (by omega) (by omega)).mono ?_; rintro e w2 ⟨p, rfl, p1, p2, C2, T2⟩
  go_wp2_with fail
  refine (l01Below_any g _ _ C2 (by omega) (by omega)).mono ?_; rintro e w3 ⟨f, rfl, f1, f2, C3, T3⟩
  go_wp2_with fail
  refine (l01Below_any g _ _ C3 (by omega) (by omega)).mono ?_; rintro e w4 ⟨n, rfl, n1, n2, C4, T4⟩
  obtain ⟨n, rfl⟩ : ∃ k : Nat, n = k := ⟨n.toNat, by omega⟩
  have TT := T1.trans (T2.trans (T3.trans T4))
  clear T1 T2 T3 T4 C1 C2 C3 hc
  go_wp2_with fail
  refine (l4Word_yes p q f n _ (by omega) (by omega) (by omega) (by omega) (by omega) (by omega) (by omega)).mono ?_; rintro e w5 ⟨A, c, rfl, O, hb⟩
  have O5 := Lib.hid (own_mono O TT.size)
  have C5 := Lib.hid (C4.past hb)
  have T5 := Lib.hid (TT.trans (turn_below hb (some g)))
  have hxl := mech_length p q f n
  obtain ⟨xs, hxs⟩ : ∃ xs, xs = mech p q f n := ⟨_, rfl⟩
  rw [← hxs] at O5 hxl
  have hl : xs.length ≤ 40 := by omega
  rw [← hxl]
  clear hxs O hb TT C4 hxl
  go_wp2_with fail
  refine (l01Once_any g _ _ C5.out (by omega) (by omega)).mono ?_; rintro e w6 ⟨b, rfl, C6, T6⟩
  have O6 := Lib.hid (own_turn O5.out T6 hgl)
  have T7 := Lib.hid (T5.out.trans T6)
  have HC6 := Lib.hid C6
  clear O5 C5 T5 T6 C6
  cases b with
  | true =>
    have hb0 : Below w6.heap.size w6 (w6.alloc (.cells #[] 3)) := (Below.refl _ _).alloc (Nat.le_refl _) _
    have O7 := own_empty w6 w.heap.size T7.out.size
    have C7 := HC6.out.past hb0
    have T8 := T7.out.trans (turn_below hb0 (some g))
    clear hb0 O6
    go_wp2_with fail
    refine (l01Below_any g _ _ C7 (by omega) (by omega)).mono ?_; rintro e w8 ⟨v, rfl, v1, v2, C8, T9⟩
    obtain ⟨j, rfl⟩ : ∃ j : Nat, v = j := ⟨v.toNat, by omega⟩
    have O8 := Lib.hid (own_turn O7 T9 hgl)
    have TT := Lib.hid (T8.trans T9)
    clear O7 C7 T8 T9 T7 HC6 hl
    go_wp2_with fail
    go_loopw [4, 5] (fun q i wr => ∃ (k : Nat) (Aq : Option Addr) (cq : Nat) (xs : List Int), i = .int .i64 k ∧ k ≤ 12 ∧ q = .slice Aq xs.length cq ∧ xs.length + k ≤ 12 ∧ Hid (Own wr w.heap.size Aq cq xs) ∧ Hid (Cur wr g) ∧ Hid (w.grownBy wr (some g))) (fun _ i _ => (intOf i).toNat)
    case atStart => exact ⟨j, _, 0, [], rfl, by omega, rfl, by simp; omega, O8.out, C8, TT.out⟩
    case round =>
      clear O8 TT C8
      obtain ⟨k, Aq, cq, xs, rfl, hk, rfl, hS, hO, hC, hT⟩ := hrel
      by_cases hlt : 0 < k
      · go_wp2_with fail
        refine (l01Below_any g _ _ hC.out (by omega) (by omega)).mono ?_; rintro e w2 ⟨v, rfl, v1, v2, C2, T2⟩
        have O2 := own_turn hO.out T2 hgl
        have T2' := hT.out.trans T2
        clear hT T2 hO
        go_wp2_with (at_builtin; refine app_new rfl (.tmp 29) (.tmp 32) rfl w.heap.size Aq cq xs.length xs _ rfl rfl O2 rfl (by omega) T2'.size ?_)
        intro A3 c3 w3 O3 hw3 mv3
        have C3 := Lib.hid (C2.wrote hw3 (own_lo O2) hgl)
        have T3 := Lib.hid (turn_new T2' hw3 (own_lo O2))
        have OO3 := Lib.hid O3
        have hl3 : Hid ((xs ++ [v]).length = xs.length + 1) := by simp [Hid]
        clear O3 hw3 mv3 O2 T2' C2
        go_wp2
        go_roundw
        case rel => exact ⟨k - 1, A3, c3, xs ++ [v], by go_num, by omega, by rw [hl3.out], by rw [hl3.out]; omega, OO3.out, C3.out, T3.out⟩
        case measure => simp [intOf]; omega
      · obtain rfl : k = 0 := by omega
        have hl : xs.length ≤ 40 := by omega
        by_cases hz : 0 < xs.length
        · go_wp2_with fail
          refine (l01Once_any g _ _ (hC.out) (by omega) (by omega)).mono ?_; rintro e wa ⟨b, rfl, Ca, Ta⟩
          have Oa := own_turn (hO.out) Ta hgl
          have Tb := (hT.out).trans Ta
          cases b with
          | true =>
            go_wp2_with fail
            refine (l01Below_any g _ _ Ca (by omega) (by omega)).mono ?_; rintro e wb ⟨v, rfl, v1, v2, Cb, Tc⟩
            obtain ⟨j, rfl⟩ : ∃ j : Nat, v = j := ⟨v.toNat, by omega⟩
            go_wp2_with fail
            refine (l01Below_any g 2 _ Cb (by omega) (by omega)).mono ?_; rintro e wc ⟨u, rfl, u1, u2, Cc, Td⟩
            have Ob := own_turn (own_turn Oa Tc hgl) Td hgl
            have Te := Tb.trans (Tc.trans Td)
            have hj : j < xs.length := by omega
            obtain ⟨ga, rfl, g1, g2⟩ := own_head Ob hj
            have fz := own_frozen Ob j
            have q0 := own_cell Ob hj
            have Oc := own_set Ob j u
            have We : Wrote wc (wc.setCell ⟨ga, j, none⟩ (.int .i64 u)) (some ⟨ga, 0, none⟩) := wrote_set (World.grownBy.refl _ _) rfl _
            have Cd := Cc.wrote We (own_lo Ob) hgl
            have Tf := turn_new Te We (own_lo Ob)
            have hyl : (xs.set j u).length = xs.length := by simp
            obtain ⟨ys, hys⟩ : ∃ ys, ys = xs.set j u := ⟨_, rfl⟩
            rw [← hys] at Oc hyl
            have Hyl := Lib.hid hyl
            clear hys Ob Te Oa Tb Tc Td Ca Cb Cc We hyl
            go_wp2_with fail
            refine (l01Once_any g _ _ (Cd) (by omega) (by omega)).mono ?_; rintro e wA ⟨b, rfl, CA, TA⟩
            have OA := own_turn (Oc) TA hgl
            have TT := (Tf).trans TA
            cases b with
            | true =>
              have hb0 : Below wA.heap.size wA (wA.alloc (.cells #[.int .i64 2, .int .i64 (-1), .int .i64 9223372036854775807] 3)) := (Below.refl _ _).alloc (Nat.le_refl _) _
              have OB := own_cells (xs := [2, -1, 9223372036854775807]) wA #[.int .i64 2, .int .i64 (-1), .int .i64 9223372036854775807] (Nat.le_refl _) rfl (by simp [maxLen])
              have CB := CA.past hb0
              have hgA := CA.lt
              have OC := own_past OA hb0
              have TC := TT.trans (turn_below hb0 (some g))
              clear hb0 OA TT TA
              go_wp2_with fail
              refine (l01Int_any g _ _ [2, -1, 9223372036854775807] _ CB (own_rd OB) (fun a e => by injection e with e; subst e; exact Nat.ne_of_gt hgA) (by simp) (by simp)).mono ?_; rintro e wB ⟨v, rfl, -, CD, TD⟩
              have OD := own_turn OC TD hgl
              have TE := TC.trans TD
              clear OB CB OC TC TD
              go_wp2_with (at_builtin; refine app_new rfl (.tmp 51) (.tmp 55) rfl w.heap.size (some ⟨ga, 0, none⟩) cq xs.length ys _ Hyl.out rfl OD rfl (by omega) TE.size ?_)
              intro A3 c3 w3 O3 hw3 mv3
              have C3 := CD.wrote hw3 (own_lo OD) hgl
              have T3 := turn_new TE hw3 (own_lo OD)
              have hl3 : (ys ++ [v]).length = xs.length + 1 := by simp; exact Hyl.out
              clear hw3 mv3 OD TE CD
              go_wp2
              go_ret
              exact ⟨A3, c3, ys ++ [v], by rw [hl3]; rfl, by show _ ≤ _; rw [hl3]; omega, O3, C3, T3⟩
            | false =>
              go_wp2
              go_ret
              exact ⟨(some ⟨ga, 0, none⟩), cq, ys, by rw [Hyl.out]; rfl, by show _ ≤ _; rw [Hyl.out]; omega, OA, CA, TT⟩
          | false =>
            go_wp2_with fail
            refine (l01Once_any g _ _ (Ca) (by omega) (by omega)).mono ?_; rintro e wA ⟨b, rfl, CA, TA⟩
            have OA := own_turn (Oa) TA hgl
            have TT := (Tb).trans TA
            cases b with
            | true =>
              have hb0 : Below wA.heap.size wA (wA.alloc (.cells #[.int .i64 2, .int .i64 (-1), .int .i64 9223372036854775807] 3)) := (Below.refl _ _).alloc (Nat.le_refl _) _
              have OB := own_cells (xs := [2, -1, 9223372036854775807]) wA #[.int .i64 2, .int .i64 (-1), .int .i64 9223372036854775807] (Nat.le_refl _) rfl (by simp [maxLen])
              have CB := CA.past hb0
              have hgA := CA.lt
              have OC := own_past OA hb0
              have TC := TT.trans (turn_below hb0 (some g))
              clear hb0 OA TT TA
              go_wp2_with fail
              refine (l01Int_any g _ _ [2, -1, 9223372036854775807] _ CB (own_rd OB) (fun a e => by injection e with e; subst e; exact Nat.ne_of_gt hgA) (by simp) (by simp)).mono ?_; rintro e wB ⟨v, rfl, -, CD, TD⟩
              have OD := own_turn OC TD hgl
              have TE := TC.trans TD
              clear OB CB OC TC TD
              go_wp2_with (at_builtin; refine app_new rfl (.tmp 51) (.tmp 55) rfl w.heap.size Aq cq xs.length xs _ rfl rfl OD rfl (by omega) TE.size ?_)
              intro A3 c3 w3 O3 hw3 mv3
              have C3 := CD.wrote hw3 (own_lo OD) hgl
              have T3 := turn_new TE hw3 (own_lo OD)
              have hl3 : (xs ++ [v]).length = xs.length + 1 := by simp
              clear hw3 mv3 OD TE CD
              go_wp2
              go_ret
              exact ⟨A3, c3, xs ++ [v], by rw [hl3]; rfl, by show _ ≤ _; rw [hl3]; omega, O3, C3, T3⟩
            | false =>
              go_wp2
              go_ret
              exact ⟨Aq, cq, xs, rfl, by show _ ≤ _; omega, OA, CA, TT⟩
        · go_wp2_with fail
          refine (l01Once_any g _ _ (hC.out) (by omega) (by omega)).mono ?_; rintro e wA ⟨b, rfl, CA, TA⟩
          have OA := own_turn (hO.out) TA hgl
          have TT := (hT.out).trans TA
          cases b with
          | true =>
            have hb0 : Below wA.heap.size wA (wA.alloc (.cells #[.int .i64 2, .int .i64 (-1), .int .i64 9223372036854775807] 3)) := (Below.refl _ _).alloc (Nat.le_refl _) _
            have OB := own_cells (xs := [2, -1, 9223372036854775807]) wA #[.int .i64 2, .int .i64 (-1), .int .i64 9223372036854775807] (Nat.le_refl _) rfl (by simp [maxLen])
            have CB := CA.past hb0
            have hgA := CA.lt
            have OC := own_past OA hb0
            have TC := TT.trans (turn_below hb0 (some g))
            clear hb0 OA TT TA
            go_wp2_with fail
            refine (l01Int_any g _ _ [2, -1, 9223372036854775807] _ CB (own_rd OB) (fun a e => by injection e with e; subst e; exact Nat.ne_of_gt hgA) (by simp) (by simp)).mono ?_; rintro e wB ⟨v, rfl, -, CD, TD⟩
            have OD := own_turn OC TD hgl
            have TE := TC.trans TD
            clear OB CB OC TC TD
            go_wp2_with (at_builtin; refine app_new rfl (.tmp 51) (.tmp 55) rfl w.heap.size Aq cq xs.length xs _ rfl rfl OD rfl (by omega) TE.size ?_)
            intro A3 c3 w3 O3 hw3 mv3
            have C3 := CD.wrote hw3 (own_lo OD) hgl
            have T3 := turn_new TE hw3 (own_lo OD)
            have hl3 : (xs ++ [v]).length = xs.length + 1 := by simp
            clear hw3 mv3 OD TE CD
            go_wp2
            go_ret
            exact ⟨A3, c3, xs ++ [v], by rw [hl3]; rfl, by show _ ≤ _; rw [hl3]; omega, O3, C3, T3⟩
          | false =>
            go_wp2
            go_ret
            exact ⟨Aq, cq, xs, rfl, by show _ ≤ _; omega, OA, CA, TT⟩
  | false =>
    by_cases hz : 0 < xs.length
    · go_wp2_with fail
      refine (l01Once_any g _ _ (HC6.out) (by omega) (by omega)).mono ?_; rintro e wa ⟨b, rfl, Ca, Ta⟩
      have Oa := own_turn (O6.out) Ta hgl
      have Tb := (T7.out).trans Ta
      cases b with
      | true =>
        go_wp2_with fail
        refine (l01Below_any g _ _ Ca (by omega) (by omega)).mono ?_; rintro e wb ⟨v, rfl, v1, v2, Cb, Tc⟩
        obtain ⟨j, rfl⟩ : ∃ j : Nat, v = j := ⟨v.toNat, by omega⟩
        go_wp2_with fail
        refine (l01Below_any g 2 _ Cb (by omega) (by omega)).mono ?_; rintro e wc ⟨u, rfl, u1, u2, Cc, Td⟩
        have Ob := own_turn (own_turn Oa Tc hgl) Td hgl
        have Te := Tb.trans (Tc.trans Td)
        have hj : j < xs.length := by omega
        obtain ⟨ga, rfl, g1, g2⟩ := own_head Ob hj
        have fz := own_frozen Ob j
        have q0 := own_cell Ob hj
        have Oc := own_set Ob j u
        have We : Wrote wc (wc.setCell ⟨ga, j, none⟩ (.int .i64 u)) (some ⟨ga, 0, none⟩) := wrote_set (World.grownBy.refl _ _) rfl _
        have Cd := Cc.wrote We (own_lo Ob) hgl
        have Tf := turn_new Te We (own_lo Ob)
        have hyl : (xs.set j u).length = xs.length := by simp
        obtain ⟨ys, hys⟩ : ∃ ys, ys = xs.set j u := ⟨_, rfl⟩
        rw [← hys] at Oc hyl
        have Hyl := Lib.hid hyl
        clear hys Ob Te Oa Tb Tc Td Ca Cb Cc We hyl
        go_wp2_with fail
        refine (l01Once_any g _ _ (Cd) (by omega) (by omega)).mono ?_; rintro e wA ⟨b, rfl, CA, TA⟩
        have OA := own_turn (Oc) TA hgl
        have TT := (Tf).trans TA
        cases b with
        | true =>
          have hb0 : Below wA.heap.size wA (wA.alloc (.cells #[.int .i64 2, .int .i64 (-1), .int .i64 9223372036854775807] 3)) := (Below.refl _ _).alloc (Nat.le_refl _) _
          have OB := own_cells (xs := [2, -1, 9223372036854775807]) wA #[.int .i64 2, .int .i64 (-1), .int .i64 9223372036854775807] (Nat.le_refl _) rfl (by simp [maxLen])
          have CB := CA.past hb0
          have hgA := CA.lt
          have OC := own_past OA hb0
          have TC := TT.trans (turn_below hb0 (some g))
          clear hb0 OA TT TA
          go_wp2_with fail
          refine (l01Int_any g _ _ [2, -1, 9223372036854775807] _ CB (own_rd OB) (fun a e => by injection e with e; subst e; exact Nat.ne_of_gt hgA) (by simp) (by simp)).mono ?_; rintro e wB ⟨v, rfl, -, CD, TD⟩
          have OD := own_turn OC TD hgl
          have TE := TC.trans TD
          clear OB CB OC TC TD
          go_wp2_with (at_builtin; refine app_new rfl (.tmp 51) (.tmp 55) rfl w.heap.size (some ⟨ga, 0, none⟩) c xs.length ys _ Hyl.out rfl OD rfl (by omega) TE.size ?_)
          intro A3 c3 w3 O3 hw3 mv3
          have C3 := CD.wrote hw3 (own_lo OD) hgl
          have T3 := turn_new TE hw3 (own_lo OD)
          have hl3 : (ys ++ [v]).length = xs.length + 1 := by simp; exact Hyl.out
          clear hw3 mv3 OD TE CD
          go_wp2
          go_ret
          exact ⟨A3, c3, ys ++ [v], by rw [hl3]; rfl, by show _ ≤ _; rw [hl3]; omega, O3, C3, T3⟩
        | false =>
          go_wp2
          go_ret
          exact ⟨(some ⟨ga, 0, none⟩), c, ys, by rw [Hyl.out]; rfl, by show _ ≤ _; rw [Hyl.out]; omega, OA, CA, TT⟩
      | false =>
        go_wp2_with fail
        refine (l01Once_any g _ _ (Ca) (by omega) (by omega)).mono ?_; rintro e wA ⟨b, rfl, CA, TA⟩
        have OA := own_turn (Oa) TA hgl
        have TT := (Tb).trans TA
        cases b with
        | true =>
          have hb0 : Below wA.heap.size wA (wA.alloc (.cells #[.int .i64 2, .int .i64 (-1), .int .i64 9223372036854775807] 3)) := (Below.refl _ _).alloc (Nat.le_refl _) _
          have OB := own_cells (xs := [2, -1, 9223372036854775807]) wA #[.int .i64 2, .int .i64 (-1), .int .i64 9223372036854775807] (Nat.le_refl _) rfl (by simp [maxLen])
          have CB := CA.past hb0
          have hgA := CA.lt
          have OC := own_past OA hb0
          have TC := TT.trans (turn_below hb0 (some g))
          clear hb0 OA TT TA
          go_wp2_with fail
          refine (l01Int_any g _ _ [2, -1, 9223372036854775807] _ CB (own_rd OB) (fun a e => by injection e with e; subst e; exact Nat.ne_of_gt hgA) (by simp) (by simp)).mono ?_; rintro e wB ⟨v, rfl, -, CD, TD⟩
          have OD := own_turn OC TD hgl
          have TE := TC.trans TD
          clear OB CB OC TC TD
          go_wp2_with (at_builtin; refine app_new rfl (.tmp 51) (.tmp 55) rfl w.heap.size A c xs.length xs _ rfl rfl OD rfl (by omega) TE.size ?_)
          intro A3 c3 w3 O3 hw3 mv3
          have C3 := CD.wrote hw3 (own_lo OD) hgl
          have T3 := turn_new TE hw3 (own_lo OD)
          have hl3 : (xs ++ [v]).length = xs.length + 1 := by simp
          clear hw3 mv3 OD TE CD
          go_wp2
          go_ret
          exact ⟨A3, c3, xs ++ [v], by rw [hl3]; rfl, by show _ ≤ _; rw [hl3]; omega, O3, C3, T3⟩
        | false =>
          go_wp2
          go_ret
          exact ⟨A, c, xs, rfl, by show _ ≤ _; omega, OA, CA, TT⟩
    · go_wp2_with fail
      refine (l01Once_any g _ _ (HC6.out) (by omega) (by omega)).mono ?_; rintro e wA ⟨b, rfl, CA, TA⟩
      have OA := own_turn (O6.out) TA hgl
      have TT := (T7.out).trans TA
      cases b with
      | true =>
        have hb0 : Below wA.heap.size wA (wA.alloc (.cells #[.int .i64 2, .int .i64 (-1), .int .i64 9223372036854775807] 3)) := (Below.refl _ _).alloc (Nat.le_refl _) _
        have OB := own_cells (xs := [2, -1, 9223372036854775807]) wA #[.int .i64 2, .int .i64 (-1), .int .i64 9223372036854775807] (Nat.le_refl _) rfl (by simp [maxLen])
        have CB := CA.past hb0
        have hgA := CA.lt
        have OC := own_past OA hb0
        have TC := TT.trans (turn_below hb0 (some g))
        clear hb0 OA TT TA
        go_wp2_with fail
        refine (l01Int_any g _ _ [2, -1, 9223372036854775807] _ CB (own_rd OB) (fun a e => by injection e with e; subst e; exact Nat.ne_of_gt hgA) (by simp) (by simp)).mono ?_; rintro e wB ⟨v, rfl, -, CD, TD⟩
        have OD := own_turn OC TD hgl
        have TE := TC.trans TD
        clear OB CB OC TC TD
        go_wp2_with (at_builtin; refine app_new rfl (.tmp 51) (.tmp 55) rfl w.heap.size A c xs.length xs _ rfl rfl OD rfl (by omega) TE.size ?_)
        intro A3 c3 w3 O3 hw3 mv3
        have C3 := CD.wrote hw3 (own_lo OD) hgl
        have T3 := turn_new TE hw3 (own_lo OD)
        have hl3 : (xs ++ [v]).length = xs.length + 1 := by simp
        clear hw3 mv3 OD TE CD
        go_wp2
        go_ret
        exact ⟨A3, c3, xs ++ [v], by rw [hl3]; rfl, by show _ ≤ _; rw [hl3]; omega, O3, C3, T3⟩
      | false =>
        go_wp2
        go_ret
        exact ⟨A, c, xs, rfl, by show _ ≤ _; omega, OA, CA, TT⟩
def WordTo (m : Nat) (xs : List Int) : Prop := wordOk xs = true ∧ xs.length ≤ m
theorem wordOk_take {xs : List Int} (h : wordOk xs = true) (m : Nat) : wordOk (xs.take m) = true :=
  wordOk_of (fun x hx => wordOk_mem h x (List.mem_of_mem_take hx)) (by rw [List.length_take]; have := wordOk_len h; omega)
def RetWord (m : Nat) (w : World) (e : Ending) (w' : World) : Prop := ∃ A c xs, e = .returned (.slice A (xs : List Int).length c) ∧ wordOk xs = true ∧ xs.length ≤ m ∧ xs.length ≤ c ∧ c ≤ 9223372036854775807 ∧ Rd w' w'.heap.size A xs ∧ Below w.heap.size w w'
theorem MakeWord_any (A : Option Addr) (c n m : Nat) (w : World) (hr : RdB w w.heap.size A n) (hn : n ≤ 4294967296) (hm0 : 1 ≤ m) (hm : m ≤ 100) :
    Calls Try.prog 26 #[.slice A n c, .int .i64 m] w (RetWord m w) := by
  go_enter Try.func26, Try.ntmps26
  go_wp2_with fail
  refine (l01New_any _ _ _ _ hr hn).mono ?_; rintro e w1 ⟨g, rfl, hg, C1, h1⟩
  have hs := h1.size
  go_wp2_with fail
  refine (l4Any_any g _ C1).mono ?_; rintro e w2 ⟨A2, c2, xs, rfl, hl, O2, C2, T2⟩
  have hB := Lib.hid (turn_past h1 T2 h1.size hg)
  have hl' : xs.length ≤ 60 := hl
  have hc1 := (own_cap O2).1
  have hc2 : c2 ≤ 9223372036854775807 := by have := (own_cap O2).2; unfold maxLen at this; omega
  clear T2 C2 C1 h1 hl hr
  go_wp2_with fail
  refine (specIsWord_any _ _ _ _ (own_rd O2) (by omega)).mono ?_; rintro e w3 ⟨rfl, rfl⟩
  rcases Bool.eq_false_or_eq_true (wordOk xs) with hw | hw
  · have HW := Lib.hid hw
    have RR := Lib.hid (own_rd O2)
    clear O2
    have hm1 : (0 : Int) < (m : Int) := by omega
    by_cases hk : xs.length ≤ m
    · go_wp2_with fail
      all_goals first
        | (exfalso; omega)
        | (go_ret; exact ⟨A2, c2, xs, rfl, HW.out, hk, hc1, hc2, RR.out, hB.out⟩)
    · have hk2 : (xs.take m).length = m := by rw [List.length_take]; omega
      have Hk2 := Lib.hid hk2
      clear hk2
      go_wp2_with fail
      all_goals first
        | (exfalso; omega)
        | (go_ret; exact ⟨A2, c2, xs.take m, by rw [Hk2.out]; rfl, wordOk_take HW.out m, by rw [Hk2.out]; exact Nat.le_refl _, by rw [Hk2.out]; omega, hc2, rd_take RR.out m, hB.out⟩)
  · have hm1 : (0 : Int) < (m : Int) := by omega
    clear O2
    go_wp2_with fail
    all_goals first
      | (exfalso; omega)
      | (go_ret; exact ⟨none, 0, [], rfl, rfl, by simp, by simp, by omega, own_rd (own_nil _ 0), hB.out⟩)
end Go.Proofs.Ythpjpnilmpihaaa
