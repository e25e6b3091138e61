/- Contracts of the two FromSingles. (Printed by mkflf.py.) -/
import Derived.Test.YthdkdcaekfcmoaaFloT
import Derived.Test.YthdkdcaekfcmoaaFNan
namespace Go.Proofs.Ythdkdcaekfcmoaa
open Go.RowKit
set_option linter.unusedVariables false
set_option linter.unusedSimpArgs false
def frS (bs : List Nat) (s : Int) : List Int × Bool := if decide (bs.length ≤ 1000) && inB s 1 1099511627776 && bs.all (Flo.frOk · s) then (bs.map (Flo.frN · s), true) else ([], false)
theorem frS_long {bs : List Nat} {s : Int} (h : 1000 < bs.length) : frS bs s = ([], false) := by
  unfold frS
  rw [decide_eq_false (by omega)]; rfl
theorem frS_noScale {bs : List Nat} {s : Int} (h : inB s 1 1099511627776 = false) : frS bs s = ([], false) := by
  unfold frS
  rw [h, Bool.and_false]; rfl
theorem frS_bad {bs : List Nat} {s : Int} {k : Nat} (hk : k < bs.length) (h : Flo.frOk bs[k] s = false) : frS bs s = ([], false) := by
  have : bs.all (Flo.frOk · s) = false := by
    rw [Bool.eq_false_iff]
    intro e
    rw [List.all_eq_true] at e
    have := e _ (List.getElem_mem hk)
    rw [h] at this; cases this
  unfold frS
  rw [this, Bool.and_false]; rfl
theorem frS_yes {bs : List Nat} {s : Int} (h : bs.length ≤ 1000) (hs : inB s 1 1099511627776 = true) (ha : bs.all (Flo.frOk · s) = true) : frS bs s = (bs.map (Flo.frN · s), true) := by
  unfold frS
  rw [decide_eq_true h, hs, ha]; rfl
theorem frS_len (bs : List Nat) (s : Int) : (frS bs s).1.length ≤ 1000 := by
  unfold frS
  split
  · rename_i h
    simp only [Bool.and_eq_true, decide_eq_true_eq] at h
    simp; exact h.1.1
  · simp
theorem frs_step {bs : List Nat} {s : Int} {k : Nat} (hk : k < bs.length) (h : (bs.take k).all (Flo.frOk · s) = true) (h1 : Flo.frOk bs[k] s = true) : (bs.take (k + 1)).all (Flo.frOk · s) = true := by
  rw [List.take_succ_eq_append_getElem hk, List.all_append, h]
  simp [h1]
theorem frN_of {b : Nat} {s : Int} {v : Nat} (h : Flo.fromV b s = some v) : Flo.frN b s = Flo.frF v := by unfold Flo.frN; rw [h]; rfl
theorem frOk_of {b : Nat} {s : Int} {v : Nat} (h : Flo.fromV b s = some v) : Flo.frOk b s = (Flo.geB v && Flo.leB v) := by unfold Flo.frOk; rw [h]
set_option maxHeartbeats 1000000 in
theorem l7Floor_any (v : Nat) (w : World) (h : floatToIntVal .f64 v .i64 = some (Flo.frI v)) (b : -1099511627776 ≤ Flo.frI v ∧ Flo.frI v ≤ 1099511627776) :
    Calls Try.prog 28 #[.float .f64 v] w fun e w' => e = .returned (.int .i64 (Flo.frF v)) ∧ w = w' := by
  have c1 := run_convert_float_int (P := Try.prog) w 45 3 .f64 .i64 v _ (by rw [Try.underlying45]; rfl) Try.underlying3 h
  have c2 := run_convert_int_float (P := Try.prog) (w := w) 3 45 .i64 .f64 (Flo.frI v) (by rw [Try.underlying3]; rfl) Try.underlying45
  have hg : (FloatKind.f64.format.order (floatOfInt .f64 (Flo.frI v)) v == some .gt) = Flo.gtB v := rfl
  have hF : Flo.frF v = if Flo.gtB v then Flo.frI v - 1 else Flo.frI v := rfl
  obtain ⟨i, hi⟩ : ∃ i, i = Flo.frI v := ⟨_, rfl⟩
  obtain ⟨F, hF'⟩ : ∃ i, i = Flo.frF v := ⟨_, rfl⟩
  rw [← hi] at c1 c2 hg hF b
  rw [← hF'] at hF ⊢
  obtain ⟨fi, hfi⟩ : ∃ f, f = floatOfInt .f64 i := ⟨_, rfl⟩
  rw [← hfi] at c2 hg
  clear hi hF' hfi h
  rcases Bool.eq_false_or_eq_true (Flo.gtB v) with hz | hz
  all_goals
    rw [hz] at hg hF
    have HF := Lib.hid hF
    clear hF hz
    go_enter Try.func28, Try.ntmps28
    go_wp2
    go_ret
    refine ⟨ret_int (by rw [HF.out]; first | rfl | omega), rfl⟩

set_option maxHeartbeats 4000000 in
theorem specFromS_any (A : Option Addr) (c : Nat) (bs : List Nat) (s : Int) (w : World) (hr : RdF w w.heap.size A bs) (hn : bs.length ≤ 1048576) :
    Calls Try.prog 18 #[.slice A bs.length c, .int .i64 s] w (RetLB w (frS bs s)) := by
  by_cases hL : 1000 < bs.length
  · rw [frS_long hL]
    go_enter Try.func18, Try.ntmps18
    go_wp2_with fail
    go_ret2
    exact ⟨none, 0, rfl, own_nil _ _, Below.refl _ _⟩
  have hlx : ¬ (1000 < (bs.length : Int)) := by omega
  rcases Bool.eq_false_or_eq_true (inB s 1 1099511627776) with hk | hk
  rotate_left
  · rw [frS_noScale hk]
    go_enter Try.func18, Try.ntmps18
    go_wp2_with (first | (go_at_call 26; refine (l1In_any _ _ _ _).mono ?_; rintro e w' ⟨rfl, rfl⟩))
    go_ret2
    exact ⟨none, 0, rfl, own_nil _ _, Below.refl _ _⟩
  have hsb := inB_of hk
  have HY := Lib.hid (fun h => frS_yes (bs := bs) (s := s) (by omega) hk h)
  have HN := Lib.hid (fun (k : Nat) (hk : k < bs.length) (h : Flo.frOk bs[k] s = false) => frS_bad hk h)
  have HRl : Hid ((bs.map (Flo.frN · s)).length = bs.length) := List.length_map _
  have HRv : Hid (∀ k (h : k < (bs.map (Flo.frN · s)).length) (h' : k < bs.length), (bs.map (Flo.frN · s))[k] = Flo.frN bs[k] s) := fun k h h' => by simp
  obtain ⟨X, hX⟩ : ∃ X, X = frS bs s := ⟨_, rfl⟩
  obtain ⟨R, hR⟩ : ∃ R, R = bs.map (Flo.frN · s) := ⟨_, rfl⟩
  rw [← hX, ← hR] at HY
  rw [← hX] at HN ⊢
  rw [← hR] at HRl HRv
  clear hR hX
  go_enter Try.func18, Try.ntmps18
  go_wp2_with (first | (go_at_call 26; refine (l1In_any _ _ _ _).mono ?_; rintro e w' ⟨rfl, rfl⟩))
  go_loopw [6, 21] (fun q i wr => ∃ (k : Nat) (Aq : Option Addr) (cq : Nat), k ≤ bs.length ∧ i = .int .i64 k ∧ q = .slice Aq k cq ∧ Hid (Own wr w.heap.size Aq cq (R.take k)) ∧ Hid ((bs.take k).all (Flo.frOk · s) = true) ∧ Hid (Below w.heap.size w wr)) (fun _ i _ => bs.length - (intOf i).toNat)
  case atStart => exact ⟨0, _, 0, by omega, rfl, rfl, own_empty w _ (Nat.le_refl _), rfl, (Below.refl _ _).alloc (Nat.le_refl _) _⟩
  case round =>
    obtain ⟨k, Aq, cq, hk', rfl, rfl, hown, HA, hb⟩ := hrel
    by_cases hlt : k < bs.length
    · obtain ⟨ad, rfl, hbl, hcell⟩ := hr.at_ hlt
      have hc1 : wr.cell? (ad.add k) = some (.float .f32 (bs.getD k 0)) := (hb.out.cell (by rw [block_add]; exact hbl)).trans (hcell k hlt)
      rw [getD_atF hlt] at hc1
      have hkR : k < R.length := by rw [HRl.out]; exact hlt
      have hv := HRv.out k hkR hlt
      have HBad := Lib.hid (HN.out k hlt)
      have HStep := Lib.hid (fun h => frs_step hlt HA.out h)
      have c2 := fun W => run_convert_int_float (P := Try.prog) (w := W) 3 45 .i64 .f64 s (by rw [Try.underlying3]; rfl) Try.underlying45
      have hU : (Try.prog.underlying 31).isSome = true := by rw [Try.underlying31]; rfl
      obtain ⟨b, hbx⟩ : ∃ x, x = bs[k] := ⟨_, rfl⟩
      rw [← hbx] at hc1 hv HBad HStep
      clear hcell hr hbx HN HA
      rcases Flo.fr_cases b hsb with ⟨sg, q, hnan⟩ | ⟨u, p, v, g1, g2, g3, gV, gI⟩
      · have HX := Lib.hid (HBad.out (Flo.fr_nanNo hnan s))
        have c1 := conv_nan' hnan 31 45 hU Try.underlying45 wr
        have n1 := nanC_nan b wr
        obtain ⟨t1, ht1⟩ : ∃ t, t = nanC b wr := ⟨_, rfl⟩
        rw [← ht1] at c1 n1
        obtain ⟨fs, hfs⟩ : ∃ f, f = floatOfInt .f64 s := ⟨_, rfl⟩
        rw [← hfs] at c2
        obtain ⟨t2, c3, n2⟩ := mul_nan n1 45 fs wr.drew
        obtain ⟨t3, c4, n3⟩ := add_nan n2 45 4602678819172646912 wr.drew.drew
        have o1 := ord_nan n3 14010698440749613056
        have HB3 := Lib.hid hb.out.drew.drew.drew
        clear hv HBad HStep hnan n1 n2 n3 ht1 hfs hown hb HRv
        go_wp2_with fail
        go_ret2
        rw [HX.out]
        exact ⟨none, 0, rfl, own_nil _ _, HB3.out⟩
      · have c1 := run_convert_float_float (P := Try.prog) wr 31 45 .f32 .f64 _ _ hU Try.underlying45 g1
        have c3 := run_float_arith (P := Try.prog) wr .mul 45 .f64 _ _ _ g2
        have c4 := run_float_arith (P := Try.prog) wr .add 45 .f64 _ _ _ g3
        have eN := frN_of gV
        have eO := frOk_of gV
        have q1 : (FloatKind.f64.format.order v 14010698440749613056 == some .gt || FloatKind.f64.format.order v 14010698440749613056 == some .eq) = Flo.geB v := rfl
        have q2 : (FloatKind.f64.format.order v 4787326403894837248 == some .lt || FloatKind.f64.format.order v 4787326403894837248 == some .eq) = Flo.leB v := rfl
        rw [eN] at hv
        rw [eO] at HBad HStep
        obtain ⟨fs, hfs⟩ : ∃ f, f = floatOfInt .f64 s := ⟨_, rfl⟩
        rw [← hfs] at c2 c3
        have c4' : (binOp .add 45 (.float .f64 p) (.float .f64 4602678819172646912)).run Try.prog wr = .ok (.float .f64 v) wr := c4
        clear g1 g2 g3 gV eN eO hfs HRv c4 hn
        rcases Bool.eq_false_or_eq_true (Flo.geB v) with hg | hg
        · rcases Bool.eq_false_or_eq_true (Flo.leB v) with hl | hl
          · obtain ⟨hI, hIb⟩ := gI hg hl
            have HS := Lib.hid (HStep.out (by rw [hg, hl]; rfl))
            rw [hg] at q1
            rw [hl] at q2
            clear HBad HStep gI hg hl
            have Hv := Lib.hid hv
            clear hv
            go_wp2_with (first | (go_at_call 28; refine (l7Floor_any v _ hI hIb).mono ?_; rintro e w2 ⟨rfl, rfl⟩) | (at_builtin; refine app_take rfl (.tmp 38) (.tmp 41) rfl w.heap.size Aq cq k R _ hkR ?_ rfl hown.out rfl (by omega) hb.out.size ?_))
            · exact Hv.out
            intro A1 c1' w1 hown1 hw1 hm1
            have HO1 := Lib.hid hown1
            have HB1 := Lib.hid (hb.out.trans (below_wrote hw1 hb.out.size (own_lo hown.out)))
            clear hown1 hw1 hm1
            go_wp2
            go_roundw
            case rel => exact ⟨k + 1, A1, c1', by omega, by go_num, rfl, HO1.out, HS.out, HB1.out⟩
            case measure => simp [intOf]; omega
          · have HX := Lib.hid (HBad.out (by rw [hl, Bool.and_false]))
            rw [hg] at q1
            rw [hl] at q2
            clear HBad HStep gI hg hl hv
            go_wp2_with fail
            go_ret2
            rw [HX.out]
            exact ⟨none, 0, rfl, own_nil _ _, hb.out⟩
        · have HX := Lib.hid (HBad.out (by rw [hg]; rfl))
          rw [hg] at q1
          clear HBad HStep gI hg hv q2
          go_wp2_with fail
          go_ret2
          rw [HX.out]
          exact ⟨none, 0, rfl, own_nil _ _, hb.out⟩
    · obtain rfl : k = bs.length := by omega
      have hO := hown.out
      rw [List.take_of_length_le (by rw [HRl.out]; exact Nat.le_refl _)] at hO
      have hA := HA.out
      rw [List.take_length] at hA
      have HX := Lib.hid (HY.out hA)
      have HO := Lib.hid hO
      clear hO hown hA HA HY HN hr
      go_wp2_with fail
      go_ret2
      rw [HX.out]
      exact ⟨Aq, cq, by rw [HRl.out]; rfl, HO.out, hb.out⟩

set_option maxHeartbeats 4000000 in
theorem implFromS_any (A : Option Addr) (c : Nat) (bs : List Nat) (s : Int) (w : World) (hr : RdF w w.heap.size A bs) (hn : bs.length ≤ 1048576) :
    Calls Try.prog 9 #[.slice A bs.length c, .int .i64 s] w (RetLB w (frS bs s)) := by
  by_cases hL : 1000 < bs.length
  · rw [frS_long hL]
    go_enter Try.func9, Try.ntmps9
    go_wp2_with fail
    go_ret2
    exact ⟨none, 0, rfl, own_nil _ _, Below.refl _ _⟩
  have hlx : ¬ (1000 < (bs.length : Int)) := by omega
  rcases Bool.eq_false_or_eq_true (inB s 1 1099511627776) with hk | hk
  rotate_left
  · rw [frS_noScale hk]
    go_enter Try.func9, Try.ntmps9
    go_wp2_with (first | (go_at_call 24; refine (isScale_any _ _).mono ?_; rintro e w' ⟨rfl, rfl⟩))
    go_ret2
    exact ⟨none, 0, rfl, own_nil _ _, Below.refl _ _⟩
  have hsb := inB_of hk
  have HY := Lib.hid (fun h => frS_yes (bs := bs) (s := s) (by omega) hk h)
  have HN := Lib.hid (fun (k : Nat) (hk : k < bs.length) (h : Flo.frOk bs[k] s = false) => frS_bad hk h)
  have HRl : Hid ((bs.map (Flo.frN · s)).length = bs.length) := List.length_map _
  have HRv : Hid (∀ k (h : k < (bs.map (Flo.frN · s)).length) (h' : k < bs.length), (bs.map (Flo.frN · s))[k] = Flo.frN bs[k] s) := fun k h h' => by simp
  obtain ⟨X, hX⟩ : ∃ X, X = frS bs s := ⟨_, rfl⟩
  obtain ⟨R, hR⟩ : ∃ R, R = bs.map (Flo.frN · s) := ⟨_, rfl⟩
  rw [← hX, ← hR] at HY
  rw [← hX] at HN ⊢
  rw [← hR] at HRl HRv
  clear hR hX
  go_enter Try.func9, Try.ntmps9
  go_wp2_with (first | (go_at_call 24; refine (isScale_any _ _).mono ?_; rintro e w' ⟨rfl, rfl⟩))
  go_loopw [6, 23] (fun q i wr => ∃ (k : Nat) (Aq : Option Addr) (cq : Nat), k ≤ bs.length ∧ i = .int .i64 k ∧ q = .slice Aq k cq ∧ Hid (Own wr w.heap.size Aq cq (R.take k)) ∧ Hid ((bs.take k).all (Flo.frOk · s) = true) ∧ Hid (Below w.heap.size w wr)) (fun _ i _ => bs.length - (intOf i).toNat)
  case atStart => exact ⟨0, _, 0, by omega, rfl, rfl, own_empty w _ (Nat.le_refl _), rfl, (Below.refl _ _).alloc (Nat.le_refl _) _⟩
  case round =>
    obtain ⟨k, Aq, cq, hk', rfl, rfl, hown, HA, hb⟩ := hrel
    by_cases hlt : k < bs.length
    · obtain ⟨ad, rfl, hbl, hcell⟩ := hr.at_ hlt
      have hc1 : wr.cell? (ad.add k) = some (.float .f32 (bs.getD k 0)) := (hb.out.cell (by rw [block_add]; exact hbl)).trans (hcell k hlt)
      rw [getD_atF hlt] at hc1
      have hkR : k < R.length := by rw [HRl.out]; exact hlt
      have hv := HRv.out k hkR hlt
      have HBad := Lib.hid (HN.out k hlt)
      have HStep := Lib.hid (fun h => frs_step hlt HA.out h)
      have c2 := fun W => run_convert_int_float (P := Try.prog) (w := W) 3 45 .i64 .f64 s (by rw [Try.underlying3]; rfl) Try.underlying45
      have hU : (Try.prog.underlying 31).isSome = true := by rw [Try.underlying31]; rfl
      obtain ⟨b, hbx⟩ : ∃ x, x = bs[k] := ⟨_, rfl⟩
      rw [← hbx] at hc1 hv HBad HStep
      clear hcell hr hbx HN HA
      rcases Flo.fr_cases b hsb with ⟨sg, q, hnan⟩ | ⟨u, p, v, g1, g2, g3, gV, gI⟩
      · have HX := Lib.hid (HBad.out (Flo.fr_nanNo hnan s))
        have c1 := conv_nan' hnan 31 45 hU Try.underlying45 wr
        have n1 := nanC_nan b wr
        obtain ⟨t1, ht1⟩ : ∃ t, t = nanC b wr := ⟨_, rfl⟩
        rw [← ht1] at c1 n1
        obtain ⟨fs, hfs⟩ : ∃ f, f = floatOfInt .f64 s := ⟨_, rfl⟩
        rw [← hfs] at c2
        obtain ⟨t2, c3, n2⟩ := mul_nan n1 45 fs wr.drew
        obtain ⟨t3, c4, n3⟩ := add_nan n2 45 4602678819172646912 wr.drew.drew
        have o1 := ord_nan n3 14010698440749613056
        have HB3 := Lib.hid hb.out.drew.drew.drew
        clear hv HBad HStep hnan n1 n2 n3 ht1 hfs hown hb HRv
        go_wp2_with fail
        go_ret2
        rw [HX.out]
        exact ⟨none, 0, rfl, own_nil _ _, HB3.out⟩
      · have c1 := run_convert_float_float (P := Try.prog) wr 31 45 .f32 .f64 _ _ hU Try.underlying45 g1
        have c3 := run_float_arith (P := Try.prog) wr .mul 45 .f64 _ _ _ g2
        have c4 := run_float_arith (P := Try.prog) wr .add 45 .f64 _ _ _ g3
        have eN := frN_of gV
        have eO := frOk_of gV
        have q1 : (FloatKind.f64.format.order v 14010698440749613056 == some .gt || FloatKind.f64.format.order v 14010698440749613056 == some .eq) = Flo.geB v := rfl
        have q2 : (FloatKind.f64.format.order v 4787326403894837248 == some .lt || FloatKind.f64.format.order v 4787326403894837248 == some .eq) = Flo.leB v := rfl
        rw [eN] at hv
        rw [eO] at HBad HStep
        obtain ⟨fs, hfs⟩ : ∃ f, f = floatOfInt .f64 s := ⟨_, rfl⟩
        rw [← hfs] at c2 c3
        have c4' : (binOp .add 45 (.float .f64 p) (.float .f64 4602678819172646912)).run Try.prog wr = .ok (.float .f64 v) wr := c4
        clear g1 g2 g3 gV eN eO hfs HRv c4 hn
        rcases Bool.eq_false_or_eq_true (Flo.geB v) with hg | hg
        · rcases Bool.eq_false_or_eq_true (Flo.leB v) with hl | hl
          · obtain ⟨hI, hIb⟩ := gI hg hl
            have HS := Lib.hid (HStep.out (by rw [hg, hl]; rfl))
            rw [hg] at q1
            rw [hl] at q2
            clear HBad HStep gI hg hl
            have c5 := run_convert_float_int (P := Try.prog) wr 45 3 .f64 .i64 v _ (by rw [Try.underlying45]; rfl) Try.underlying3 hI
            have c6 := run_convert_int_float (P := Try.prog) (w := wr) 3 45 .i64 .f64 (Flo.frI v) (by rw [Try.underlying3]; rfl) Try.underlying45
            have hgt : (FloatKind.f64.format.order (floatOfInt .f64 (Flo.frI v)) v == some .gt) = Flo.gtB v := rfl
            have hF : Flo.frF v = if Flo.gtB v then Flo.frI v - 1 else Flo.frI v := rfl
            rw [hF] at hv
            obtain ⟨i, hi⟩ : ∃ i, i = Flo.frI v := ⟨_, rfl⟩
            rw [← hi] at c5 c6 hgt hv hIb
            obtain ⟨fi, hfi⟩ : ∃ f, f = floatOfInt .f64 i := ⟨_, rfl⟩
            rw [← hfi] at c6 hgt
            clear hi hfi hF hI
            rcases Bool.eq_false_or_eq_true (Flo.gtB v) with hz | hz
            · rw [hz] at hgt hv
              have Hv : Hid (R[k] = i - 1) := hv
              clear hv hz
              go_wp2_with (first | (at_builtin; refine app_take rfl (.tmp 49) (.tmp 51) rfl w.heap.size Aq cq k R _ hkR ?_ rfl hown.out rfl (by omega) hb.out.size ?_))
              · exact Hv.out
              intro A1 c1' w1 hown1 hw1 hm1
              have HO1 := Lib.hid hown1
              have HB1 := Lib.hid (hb.out.trans (below_wrote hw1 hb.out.size (own_lo hown.out)))
              clear hown1 hw1 hm1
              go_wp2
              go_roundw
              case rel => exact ⟨k + 1, A1, c1', by omega, by go_num, rfl, HO1.out, HS.out, HB1.out⟩
              case measure => simp [intOf]; omega
            · rw [hz] at hgt hv
              have Hv : Hid (R[k] = i) := hv
              clear hv hz
              go_wp2_with (first | (at_builtin; refine app_take rfl (.tmp 49) (.tmp 51) rfl w.heap.size Aq cq k R _ hkR ?_ rfl hown.out rfl (by omega) hb.out.size ?_))
              · exact Hv.out
              intro A1 c1' w1 hown1 hw1 hm1
              have HO1 := Lib.hid hown1
              have HB1 := Lib.hid (hb.out.trans (below_wrote hw1 hb.out.size (own_lo hown.out)))
              clear hown1 hw1 hm1
              go_wp2
              go_roundw
              case rel => exact ⟨k + 1, A1, c1', by omega, by go_num, rfl, HO1.out, HS.out, HB1.out⟩
              case measure => simp [intOf]; omega
          · have HX := Lib.hid (HBad.out (by rw [hl, Bool.and_false]))
            rw [hg] at q1
            rw [hl] at q2
            clear HBad HStep gI hg hl hv
            go_wp2_with fail
            go_ret2
            rw [HX.out]
            exact ⟨none, 0, rfl, own_nil _ _, hb.out⟩
        · have HX := Lib.hid (HBad.out (by rw [hg]; rfl))
          rw [hg] at q1
          clear HBad HStep gI hg hv q2
          go_wp2_with fail
          go_ret2
          rw [HX.out]
          exact ⟨none, 0, rfl, own_nil _ _, hb.out⟩
    · obtain rfl : k = bs.length := by omega
      have hO := hown.out
      rw [List.take_of_length_le (by rw [HRl.out]; exact Nat.le_refl _)] at hO
      have hA := HA.out
      rw [List.take_length] at hA
      have HX := Lib.hid (HY.out hA)
      have HO := Lib.hid hO
      clear hO hown hA HA HY HN hr
      go_wp2_with fail
      go_ret2
      rw [HX.out]
      exact ⟨Aq, cq, by rw [HRl.out]; rfl, HO.out, hb.out⟩

end Go.Proofs.Ythdkdcaekfcmoaa
