/- Contracts of spec.RunAccumulator and of the two RestsOf. -/
import Derived.Test.YteabibkbmigpaaaRunAcc
namespace Go.Proofs.Yteabibkbmigpaaa
open Go.RowKit
set_option linter.unusedVariables false
set_option linter.unusedSimpArgs false
set_option maxHeartbeats 1000000 in
theorem specRunAccumulator_any (A : Option Addr) (o m : Int) (c : Nat) (s : List Int) (A' : Option Addr) (c' : Nat) (xs : List Int) (w : World) (hr : Rd w w.heap.size A s) (hn : s.length ≤ 1048576) (hr' : Rd w w.heap.size A' xs) (hn' : xs.length ≤ 1048576) :
    Calls Try.prog 41 #[.agg #[.int .i64 o, .int .i64 m], .slice A s.length c, .slice A' xs.length c'] w (RetRun w (runA o m s xs)) := by
  rcases Bool.eq_false_or_eq_true (runOk o m s xs) with hok | hok
  · obtain ⟨h1, h2, h3⟩ := runOk_parts hok
    obtain ⟨_, hlo, _⟩ := restsOk_parts h1
    rw [runA_yes hok]
    subst hlo
    exact specRun_yes A m c s A' c' xs w hr hr' h1 h2 h3
  · rw [runA_no hok]
    have B0 := Blk.new w 24 #[.int .i64 o, .int .i64 m]
    have hb0 : Below w.heap.size w (w.alloc (.cells #[.int .i64 o, .int .i64 m] 24)) := (Below.refl _ _).alloc (Nat.le_refl _) _
    have R0 := hr.past hb0
    have X0 := hr'.past hb0
    have Hb := Lib.hid hb0
    clear hb0
    have h2 : restsOk o m s = false ∨ (restsOk o m s = true ∧ (xs.all (restB m) && decide ((xs.length : Int) ≤ 1000)) = false) := by
      rcases runOk_split hok with h1 | ⟨h1, h2⟩ | ⟨h1, h2, h3⟩
      · exact .inl h1
      · exact .inr ⟨h1, by simp [h2]⟩
      · exact .inr ⟨h1, by simp only [h2, Bool.true_and, decide_eq_false_iff_not]; omega⟩
    rcases h2 with h1 | ⟨h1, h2⟩
    · clear hok
      go_enter Try.func41, Try.ntmps41
      go_wp2_with fail
      refine (specIsRests_any _ _ _ _ _ _ R0 (by omega)).mono ?_; rintro e w1 ⟨rfl, h1⟩
      replace Hb := Lib.hid (thenB Hb.out h1)
      clear h1 B0 R0 hr
      go_wp2_with fail
      refine bodyPost_ret (results_tmp4 rfl _ _ _) rfl ?_
      exact retRun_no Hb.out
    · obtain ⟨⟨_, m1, m2⟩, _⟩ := restsOk_parts h1
      clear hok
      go_enter Try.func41, Try.ntmps41
      go_wp2_with fail
      refine (specIsRests_any _ _ _ _ _ _ R0 (by omega)).mono ?_; rintro e w1 ⟨rfl, h1⟩
      have B1 := B0.past h1
      have X1 := X0.past h1
      replace Hb := Lib.hid (thenB Hb.out h1)
      have c0 := B1.cell 0
      have c1 := B1.cell 1
      simp at c0 c1
      clear h1 B0 R0 hr
      go_wp2_with fail
      refine (l6Inputs_any _ _ _ _ _ _ X1 (by omega) m1 m2).mono ?_; rintro e w2 ⟨rfl, h2⟩
      replace Hb := Lib.hid (thenB Hb.out h2)
      clear h2 B1 c0 c1
      go_wp2_with fail
      refine bodyPost_ret (results_tmp4 rfl _ _ _) rfl ?_
      exact retRun_no Hb.out
def rests (o m : Int) (s xs : List Int) : List Int × Bool := if runOk o m s xs then (restL m s xs xs.length, true) else ([], false)
theorem rests_yes {o m : Int} {s xs : List Int} (h : runOk o m s xs = true) : rests o m s xs = (restL m s xs xs.length, true) := by simp [rests, h]
theorem rests_no {o m : Int} {s xs : List Int} (h : runOk o m s xs = false) : rests o m s xs = ([], false) := by simp [rests, h]
theorem restL_length (m : Int) (s xs : List Int) (n : Nat) : (restL m s xs n).length = n := lst_length _ _
theorem rests_len (o m : Int) (s xs : List Int) : (rests o m s xs).1.length ≤ 1000 := by
  rcases Bool.eq_false_or_eq_true (runOk o m s xs) with h | h
  · rw [rests_yes h]
    have := (runOk_parts h).2.2
    simp only [restL_length]; omega
  · rw [rests_no h]; simp
set_option maxHeartbeats 2000000 in
theorem implRests_yes (A : Option Addr) (m : Int) (c : Nat) (s : List Int) (A' : Option Addr) (c' : Nat) (xs : List Int) (w : World) (hr : Rd w w.heap.size A s) (hr' : Rd w w.heap.size A' xs) (hok : runOk s.length m s xs = true) :
    Calls Try.prog 25 #[.agg #[.int .i64 s.length, .int .i64 m], .slice A s.length c, .slice A' xs.length c'] w (RetLB w (restL m s xs xs.length, true)) := by
  obtain ⟨hrs, hx, hn⟩ := runOk_parts hok
  obtain ⟨⟨⟨ho1, ho⟩, hm1, hm2⟩, _, hv⟩ := restsOk_parts hrs
  have hs : Hid (Rests m s) := hv
  have hX : Hid (Rests m xs) := all_rests hx
  have hl6 : s.length ≤ 6 := by omega
  have hl1 : 1 ≤ s.length := by omega
  have B0 := Blk.new w 24 #[.int .i64 s.length, .int .i64 m]
  have hb0 : Below w.heap.size w (w.alloc (.cells #[.int .i64 s.length, .int .i64 m] 24)) := (Below.refl _ _).alloc (Nat.le_refl _) _
  have hg : w.heap.size < (w.alloc (.cells #[.int .i64 s.length, .int .i64 m] 24)).heap.size := by simp
  have hcall := implRun_yes A m c s A' c' xs _ (hr.past hb0) (hr'.past hb0) hrs hx hn
  have Hc := Lib.hid hcall
  have Hb := Lib.hid hb0
  have hRl := Lib.hid (restL_length m s xs xs.length)
  clear hb0 hv ho ho1 hcall hok
  go_enter Try.func25, Try.ntmps25
  go_wp2_with fail
  refine Hc.out.mono ?_
  rintro e w1 ⟨A1, c1, rs, A2, c2, A3, c3, rfl, -, -, -, -, -, -, -, -, -, h1⟩
  have B1 := B0.past h1
  have hg1 : w.heap.size < w1.heap.size := by have := h1.size; omega
  replace Hb := Lib.hid (thenB Hb.out h1)
  have hb2 : Below w1.heap.size w1 (w1.alloc (.cells #[] 3)) := (Below.refl _ _).alloc (Nat.le_refl _) _
  have B2 := Lib.hid (B1.past hb2)
  have O2 := Lib.hid (own_empty w1 (w.heap.size + 1) (by omega))
  replace Hb := Lib.hid (thenB Hb.out hb2)
  have hok : (runYes m s xs).ok = true := rfl
  clear h1 hb2 B0 B1 hg Hc
  go_wp2_with fail
  go_loopw [1, 12, 32] (fun p q i wr => ∃ (k : Nat) (A1 : Option Addr) (c1 : Nat) (Aq : Option Addr) (cq : Nat), k ≤ xs.length ∧ i = .int .i64 k ∧ p = .slice A1 s.length c1 ∧ q = .slice Aq k cq ∧ Hid (Rd wr wr.heap.size A1 (stX m s xs k)) ∧ Hid (Own wr (w.heap.size + 1) Aq cq ((restL m s xs xs.length).take k)) ∧ Hid (Blk wr w.heap.size 24 #[.int .i64 s.length, .int .i64 m]) ∧ Hid (Below w.heap.size w wr)) (fun _ _ i _ => xs.length - (intOf i).toNat)
  case atStart => exact ⟨0, A, c, _, 0, by omega, rfl, rfl, rfl, hr.past Hb.out, O2.out, B2.out, Hb.out⟩
  case round =>
    clear O2 B2 Hb
    obtain ⟨k, A4, c4, Aq, cq, hk, rfl, rfl, rfl, hR, hQ, BB, hB⟩ := hrel
    have e0 := BB.out.cell 0
    have e1 := BB.out.cell 1
    simp at e0 e1
    by_cases hlt : k < xs.length
    · obtain ⟨ad, rfl, hbl, hcell⟩ := hr'.at_ hlt
      have hc1 : wr.cell? (ad.add k) = some (.int .i64 (xs.getD k 0)) := (hB.out.cell (by rw [block_add]; exact hbl)).trans (hcell k hlt)
      have hxk := hX.out _ (List.getElem_mem hlt)
      have hlen := stX_length m s xs k
      have hst := stX_rests hm1 hs.out hX.out k
      have hrs' : restsOk s.length m (stX m s xs k) = true := by
        simp only [restsOk, Bool.and_eq_true] at hrs ⊢
        exact ⟨⟨hrs.1.1, by simp [hlen]⟩, rests_all hst⟩
      have hcall := implStep_yes A4 s.length m c4 (stX m s xs k) xs[k] wr hR.out (by omega) hrs' hxk.1 hxk.2
      have hgx := getD_at hlt
      have eN : stepN m (stX m s xs k) xs[k] = stX m s xs (k + 1) := by rw [stX, hgx]
      have hlN := stX_length m s xs (k + 1)
      have hlC := stepC_length m (stX m s xs k) xs[k]
      rw [hlen] at hcall hlC
      rw [eN] at hcall
      obtain ⟨C, hCe⟩ : ∃ C, C = stepC m (stX m s xs k) xs[k] := ⟨_, rfl⟩
      obtain ⟨N, hNe⟩ : ∃ N, N = stX m s xs (k + 1) := ⟨_, rfl⟩
      rw [← hCe] at hcall hlC
      rw [← hNe] at hcall hlN
      have HNe := Lib.hid hNe
      have HlC := Lib.hid hlC
      have HlN := Lib.hid hlN
      have hNs : s.length ≤ N.length := by omega
      have Hc : Hid (Calls Try.prog 29 #[.agg #[.int .i64 s.length, .int .i64 m], .slice A4 s.length c4, .int .i64 xs[k]] wr (RetLLB wr ⟨C, N, true⟩)) := hcall
      clear hcall hrs' hst hlen hgx eN hlN hlC hCe hNe hcell hxk
      go_wp2_with fail
      refine (show Calls Try.prog 29 #[.agg #[.int .i64 s.length, .int .i64 m], .slice A4 s.length c4, .int .i64 xs[k]] wr (RetLLB wr ⟨C, N, true⟩) from Hc).mono ?_
      rintro e w3 ⟨A5, c5, A6, c6, rfl, O5, O6, ap, h3⟩
      have hQ3 := Lib.hid (own_past hQ.out h3)
      have OO6 := Lib.hid O6
      have B3 := BB.out.past h3
      have f0 := B3.cell 0
      simp at f0
      have hB3 := Lib.hid (hB.out.trans (h3.mono hB.out.size))
      have U := Lib.hid (own_hi hQ.out)
      have L6 : Hid (Lo A6 wr.heap.size) := own_lo O6
      have hjN : s.length - 1 < N.length := by omega
      obtain ⟨g6, rfl, hg6, hg6'⟩ := own_head O6 hjN
      have d1 := own_cell O6 hjN
      rw [show (s.length - 1) = s.length - 1 from rfl] at d1
      have hval : Hid ((restL m s xs xs.length)[k]'(by rw [hRl.out]; exact hlt) = N[s.length - 1]) := by
        show _ = _
        unfold restL
        rw [lst_get]
        unfold rst
        rw [← getD_at hjN, HNe.out]
      have ej : ((s.length : Int) - 1) = ((s.length - 1 : Nat) : Int) := by omega
      have B3' := Lib.hid B3
      have hg3 : w.heap.size + 1 ≤ w3.heap.size := B3.lt
      have hkR : k < (restL m s xs xs.length).length := by rw [hRl.out]; exact hlt
      rw [show (LL.mk C N true).c.length = s.length from HlC.out, show (LL.mk C N true).n.length = s.length from HlN.out]
      clear O5 O6 ap h3 e0 e1 hc1 hR hQ BB B3
      go_wp2_with (at_builtin; refine app_take rfl (.tmp 45) (.tmp 52) rfl (w.heap.size + 1) Aq cq k (restL m s xs xs.length) _ hkR ?_ rfl hQ3.out rfl (by omega) hg3 ?_)
      · exact hval.out
      intro A7 c7 w7 O7 hw7 mv7
      have R7 := Lib.hid (rd_wrote (own_rd OO6.out) hw7 (apart_gt L6.out U.out (Nat.le_refl _)))
      have B7 := Lib.hid (blk_wrote B3'.out hw7 (own_lo hQ3.out) (by omega))
      have hB7 := Lib.hid (below_app hB3.out hw7 (own_mono hQ3.out (by omega)) hB3.out.size)
      have OO7 := Lib.hid O7
      clear O7 hw7 mv7 d1 ej hval f0
      go_wp2
      go_roundw
      case rel => exact ⟨k + 1, some ⟨g6, 0, none⟩, c6, A7, c7, by omega, by go_num, rfl, rfl, by rw [← HNe.out]; exact R7.out, OO7.out, B7.out, hB7.out⟩
      case measure => simp [intOf]; omega
    · obtain rfl : k = xs.length := by omega
      have hQ' := hQ.out
      rw [List.take_of_length_le (by rw [hRl.out]; omega)] at hQ'
      go_wp2
      go_ret2
      exact ⟨Aq, cq, by rw [hRl.out]; rfl, own_mono hQ' (by omega), hB.out⟩
theorem implRestsOf_any (A : Option Addr) (o m : Int) (c : Nat) (s : List Int) (A' : Option Addr) (c' : Nat) (xs : List Int) (w : World) (hr : Rd w w.heap.size A s) (hn : s.length ≤ 1048576) (hr' : Rd w w.heap.size A' xs) (hn' : xs.length ≤ 1048576) :
    Calls Try.prog 25 #[.agg #[.int .i64 o, .int .i64 m], .slice A s.length c, .slice A' xs.length c'] w (RetLB w (rests o m s xs)) := by
  rcases Bool.eq_false_or_eq_true (runOk o m s xs) with hok | hok
  · obtain ⟨h1, h2, h3⟩ := runOk_parts hok
    obtain ⟨_, hlo, _⟩ := restsOk_parts h1
    rw [rests_yes hok]
    subst hlo
    exact implRests_yes A m c s A' c' xs w hr hr' hok
  · rw [rests_no hok]
    have hb0 : Below w.heap.size w (w.alloc (.cells #[.int .i64 o, .int .i64 m] 24)) := (Below.refl _ _).alloc (Nat.le_refl _) _
    have hcall := implRunAccumulator_any A o m c s A' c' xs _ (hr.past hb0) hn (hr'.past hb0) hn'
    rw [runA_no hok] at hcall
    have Hc := Lib.hid hcall
    have Hb := Lib.hid hb0
    clear hb0 hcall hok
    go_enter Try.func25, Try.ntmps25
    go_wp2_with fail
    refine Hc.out.mono ?_
    rintro e w1 ⟨A1, c1, rs, A2, c2, A3, c3, rfl, -, -, -, -, -, -, -, -, -, h1⟩
    replace Hb := Lib.hid (thenB Hb.out h1)
    clear h1 Hc
    go_wp2_with fail
    go_ret2
    exact ⟨none, 0, rfl, own_nil _ _, Hb.out⟩
set_option maxHeartbeats 2000000 in
theorem specRests_yes (A : Option Addr) (m : Int) (c : Nat) (s : List Int) (A' : Option Addr) (c' : Nat) (xs : List Int) (w : World) (hr : Rd w w.heap.size A s) (hr' : Rd w w.heap.size A' xs) (hok : runOk s.length m s xs = true) :
    Calls Try.prog 40 #[.agg #[.int .i64 s.length, .int .i64 m], .slice A s.length c, .slice A' xs.length c'] w (RetLB w (restL m s xs xs.length, true)) := by
  obtain ⟨hrs, hx, hn⟩ := runOk_parts hok
  obtain ⟨⟨⟨ho1, ho⟩, hm1, hm2⟩, _, hv⟩ := restsOk_parts hrs
  have hs : Hid (Rests m s) := hv
  have hX : Hid (Rests m xs) := all_rests hx
  have hl6 : s.length ≤ 6 := by omega
  have hl1 : 1 ≤ s.length := by omega
  have B0 := Blk.new w 24 #[.int .i64 s.length, .int .i64 m]
  have hb0 : Below w.heap.size w (w.alloc (.cells #[.int .i64 s.length, .int .i64 m] 24)) := (Below.refl _ _).alloc (Nat.le_refl _) _
  have hg : w.heap.size < (w.alloc (.cells #[.int .i64 s.length, .int .i64 m] 24)).heap.size := by simp
  have R0 := hr.past hb0
  have X0 := hr'.past hb0
  have Hb := Lib.hid hb0
  have hRl := Lib.hid (restL_length m s xs xs.length)
  clear hb0 hv ho ho1 hok
  go_enter Try.func40, Try.ntmps40
  go_wp2_with fail
  refine (specIsRests_any _ _ _ _ _ _ R0 (by omega)).mono ?_; rintro e w1 ⟨rfl, h1⟩
  have B1 := B0.past h1
  have X1 := X0.past h1
  replace Hb := Lib.hid (thenB Hb.out h1)
  have c0 := B1.cell 0
  have c1 := B1.cell 1
  simp at c0 c1
  have hg1 : w.heap.size < w1.heap.size := by have := h1.size; omega
  clear h1 B0 R0 X0 hg
  go_wp2_with fail
  refine (l6Inputs_any _ _ _ _ _ _ X1 (by omega) hm1 hm2).mono ?_; rintro e w2 ⟨rfl, h2⟩
  have B2' := B1.past h2
  replace Hb := Lib.hid (thenB Hb.out h2)
  have hg2 : w.heap.size < w2.heap.size := by have := h2.size; omega
  clear h2 B1 c0 c1 X1 hg1
  have hb2 : Below w2.heap.size w2 (w2.alloc (.cells #[] 3)) := (Below.refl _ _).alloc (Nat.le_refl _) _
  have B3 := B2'.past hb2
  have O2 := own_empty w2 (w.heap.size + 1) (by omega)
  replace Hb := Lib.hid (thenB Hb.out hb2)
  have R3 := hr.past Hb.out
  have hdx : decide ((xs.length : Int) ≤ 1000) = true := by simp; omega
  clear hb2 B2'
  go_wp2_with fail
  refine (l1Copy_any _ _ _ _ R3 (by omega)).mono ?_; rintro e w4 ⟨A4, c4, rfl, O4, h4⟩
  have B2 := Lib.hid (B3.past h4)
  replace O2 := Lib.hid (own_past O2 h4)
  replace Hb := Lib.hid (thenB Hb.out h4)
  have R4 := Lib.hid (own_rd O4)
  clear h4 O4 B3 R3
  go_wp2_with fail
  go_loopw [9, 8, 27] (fun p q i wr => ∃ (k : Nat) (A1 : Option Addr) (c1 : Nat) (Aq : Option Addr) (cq : Nat), k ≤ xs.length ∧ i = .int .i64 k ∧ p = .slice A1 s.length c1 ∧ q = .slice Aq k cq ∧ Hid (Rd wr wr.heap.size A1 (stX m s xs k)) ∧ Hid (Own wr (w.heap.size + 1) Aq cq ((restL m s xs xs.length).take k)) ∧ Hid (Blk wr w.heap.size 24 #[.int .i64 s.length, .int .i64 m]) ∧ Hid (Below w.heap.size w wr)) (fun _ _ i _ => xs.length - (intOf i).toNat)
  case atStart => exact ⟨0, A4, c4, _, 0, by omega, rfl, rfl, rfl, R4.out, O2.out, B2.out, Hb.out⟩
  case round =>
    clear O2 B2 Hb R4
    obtain ⟨k, A4, c4, Aq, cq, hk, rfl, rfl, rfl, hR, hQ, BB, hB⟩ := hrel
    have e0 := BB.out.cell 0
    have e1 := BB.out.cell 1
    simp at e0 e1
    by_cases hlt : k < xs.length
    · obtain ⟨ad, rfl, hbl, hcell⟩ := hr'.at_ hlt
      have hc1 : wr.cell? (ad.add k) = some (.int .i64 (xs.getD k 0)) := (hB.out.cell (by rw [block_add]; exact hbl)).trans (hcell k hlt)
      have hxk := hX.out _ (List.getElem_mem hlt)
      have hlen := stX_length m s xs k
      have hst := stX_rests hm1 hs.out hX.out k
      have hcall := l6Step_any A4 c4 s.length m (stX m s xs k) xs[k] wr hR.out (by omega) hm1 hm2 hst hxk.1 hxk.2
      have hgx := getD_at hlt
      have eN : stepN m (stX m s xs k) xs[k] = stX m s xs (k + 1) := by rw [stX, hgx]
      have hlN := stX_length m s xs (k + 1)
      have hlC := stepC_length m (stX m s xs k) xs[k]
      rw [hlen] at hcall hlC
      rw [eN] at hcall
      obtain ⟨C, hCe⟩ : ∃ C, C = stepC m (stX m s xs k) xs[k] := ⟨_, rfl⟩
      obtain ⟨N, hNe⟩ : ∃ N, N = stX m s xs (k + 1) := ⟨_, rfl⟩
      rw [← hCe] at hcall hlC
      rw [← hNe] at hcall hlN
      have HNe := Lib.hid hNe
      have HlC := Lib.hid hlC
      have HlN := Lib.hid hlN
      have hNs : s.length ≤ N.length := by omega
      have Hc : Hid (Calls Try.prog 70 #[.agg #[.int .i64 s.length, .int .i64 m], .slice A4 s.length c4, .int .i64 xs[k]] wr (RetLL wr C N)) := hcall
      clear hcall hst hlen hgx eN hlN hlC hCe hNe hcell hxk
      go_wp2_with fail
      refine (show Calls Try.prog 70 #[.agg #[.int .i64 s.length, .int .i64 m], .slice A4 s.length c4, .int .i64 xs[k]] wr (RetLL wr C N) from Hc).mono ?_
      rintro e w3 ⟨A5, c5, A6, c6, rfl, O5, O6, ap, h3⟩
      have hQ3 := Lib.hid (own_past hQ.out h3)
      have OO6 := Lib.hid O6
      have B3 := BB.out.past h3
      have f0 := B3.cell 0
      simp at f0
      have hB3 := Lib.hid (hB.out.trans (h3.mono hB.out.size))
      have U := Lib.hid (own_hi hQ.out)
      have L6 : Hid (Lo A6 wr.heap.size) := own_lo O6
      have hjN : s.length - 1 < N.length := by omega
      obtain ⟨g6, rfl, hg6, hg6'⟩ := own_head O6 hjN
      have d1 := own_cell O6 hjN
      rw [show (s.length - 1) = s.length - 1 from rfl] at d1
      have hval : Hid ((restL m s xs xs.length)[k]'(by rw [hRl.out]; exact hlt) = N[s.length - 1]) := by
        show _ = _
        unfold restL
        rw [lst_get]
        unfold rst
        rw [← getD_at hjN, HNe.out]
      have ej : ((s.length : Int) - 1) = ((s.length - 1 : Nat) : Int) := by omega
      have B3' := Lib.hid B3
      have hg3 : w.heap.size + 1 ≤ w3.heap.size := B3.lt
      have hkR : k < (restL m s xs xs.length).length := by rw [hRl.out]; exact hlt
      rw [HlN.out]
      clear O5 O6 ap h3 e0 e1 hc1 hR hQ BB B3
      go_wp2_with (at_builtin; refine app_take rfl (.tmp 38) (.tmp 45) rfl (w.heap.size + 1) Aq cq k (restL m s xs xs.length) _ hkR ?_ rfl hQ3.out rfl (by omega) hg3 ?_)
      · exact hval.out
      intro A7 c7 w7 O7 hw7 mv7
      have R7 := Lib.hid (rd_wrote (own_rd OO6.out) hw7 (apart_gt L6.out U.out (Nat.le_refl _)))
      have B7 := Lib.hid (blk_wrote B3'.out hw7 (own_lo hQ3.out) (by omega))
      have hB7 := Lib.hid (below_app hB3.out hw7 (own_mono hQ3.out (by omega)) hB3.out.size)
      have OO7 := Lib.hid O7
      clear O7 hw7 mv7 d1 ej hval f0
      go_wp2
      go_roundw
      case rel => exact ⟨k + 1, some ⟨g6, 0, none⟩, c6, A7, c7, by omega, by go_num, rfl, rfl, by rw [← HNe.out]; exact R7.out, OO7.out, B7.out, hB7.out⟩
      case measure => simp [intOf]; omega
    · obtain rfl : k = xs.length := by omega
      have hQ' := hQ.out
      rw [List.take_of_length_le (by rw [hRl.out]; omega)] at hQ'
      go_wp2
      go_ret2
      exact ⟨Aq, cq, by rw [hRl.out]; rfl, own_mono hQ' (by omega), hB.out⟩
theorem specRestsOf_any (A : Option Addr) (o m : Int) (c : Nat) (s : List Int) (A' : Option Addr) (c' : Nat) (xs : List Int) (w : World) (hr : Rd w w.heap.size A s) (hn : s.length ≤ 1048576) (hr' : Rd w w.heap.size A' xs) (hn' : xs.length ≤ 1048576) :
    Calls Try.prog 40 #[.agg #[.int .i64 o, .int .i64 m], .slice A s.length c, .slice A' xs.length c'] w (RetLB w (rests o m s xs)) := by
  rcases Bool.eq_false_or_eq_true (runOk o m s xs) with hok | hok
  · obtain ⟨h1, h2, h3⟩ := runOk_parts hok
    obtain ⟨_, hlo, _⟩ := restsOk_parts h1
    rw [rests_yes hok]
    subst hlo
    exact specRests_yes A m c s A' c' xs w hr hr' hok
  · rw [rests_no hok]
    have B0 := Blk.new w 24 #[.int .i64 o, .int .i64 m]
    have hb0 : Below w.heap.size w (w.alloc (.cells #[.int .i64 o, .int .i64 m] 24)) := (Below.refl _ _).alloc (Nat.le_refl _) _
    have R0 := hr.past hb0
    have X0 := hr'.past hb0
    have Hb := Lib.hid hb0
    clear hb0
    have h2 : restsOk o m s = false ∨ (restsOk o m s = true ∧ (xs.all (restB m) && decide ((xs.length : Int) ≤ 1000)) = false) := by
      rcases runOk_split hok with h1 | ⟨h1, h2⟩ | ⟨h1, h2, h3⟩
      · exact .inl h1
      · exact .inr ⟨h1, by simp [h2]⟩
      · exact .inr ⟨h1, by simp only [h2, Bool.true_and, decide_eq_false_iff_not]; omega⟩
    rcases h2 with h1 | ⟨h1, h2⟩
    · clear hok
      go_enter Try.func40, Try.ntmps40
      go_wp2_with fail
      refine (specIsRests_any _ _ _ _ _ _ R0 (by omega)).mono ?_; rintro e w1 ⟨rfl, h1⟩
      replace Hb := Lib.hid (thenB Hb.out h1)
      clear h1 B0 R0 hr
      go_wp2_with fail
      go_ret2
      exact ⟨none, 0, rfl, own_nil _ _, Hb.out⟩
    · obtain ⟨⟨_, m1, m2⟩, _⟩ := restsOk_parts h1
      clear hok
      go_enter Try.func40, Try.ntmps40
      go_wp2_with fail
      refine (specIsRests_any _ _ _ _ _ _ R0 (by omega)).mono ?_; rintro e w1 ⟨rfl, h1⟩
      have B1 := B0.past h1
      have X1 := X0.past h1
      replace Hb := Lib.hid (thenB Hb.out h1)
      have c0 := B1.cell 0
      have c1 := B1.cell 1
      simp at c0 c1
      clear h1 B0 R0 hr
      go_wp2_with fail
      refine (l6Inputs_any _ _ _ _ _ _ X1 (by omega) m1 m2).mono ?_; rintro e w2 ⟨rfl, h2⟩
      replace Hb := Lib.hid (thenB Hb.out h2)
      clear h2 B1 c0 c1
      go_wp2_with fail
      go_ret2
      exact ⟨none, 0, rfl, own_nil _ _, Hb.out⟩
end Go.Proofs.Yteabibkbmigpaaa
