/- Contracts of BoxSums, Decimate, Stuff and IntegralsOf: the program's and the reference's return the same plain functions. -/
import Derived.Test.YtfplecbacgcjgaaPLst
import Derived.Test.YtfplecbacgcjgaaClone
namespace Go.Proofs.Ytfplecbacgcjgaa
open Go.RowKit
set_option linter.unusedVariables false
set_option linter.unusedSimpArgs false
theorem seq_getD' {xs : List Int} (h : seqOk xs = true) (k : Nat) : -1099511627776 ≤ xs.getD k 0 ∧ xs.getD k 0 ≤ 1099511627776 := seq_fnOf h k
set_option maxHeartbeats 2000000 in
theorem implBox_yes (A : Option Addr) (c : Nat) (xs : List Int) (r : Nat) (w : World) (hr : Rd w w.heap.size A xs) (hs : seqOk xs = true) (r1 : 1 ≤ r) (r2 : r ≤ 100) :
    Calls Try.prog 64 #[.slice A xs.length c, .int .i64 r] w (RetLB w (doneOf (boxS xs r))) := by
  have hlx := seqOk_len hs
  have hrb : inB (r : Int) 1 100 = true := inB_true (by omega) (by omega)
  have HRl : Hid ((boxS xs r).length = xs.length) := boxS_length xs r
  have HRv : Hid (∀ k (h : k < (boxS xs r).length), (boxS xs r)[k] = boxB xs r (k + 1)) := fun k h => lst_get _ h
  have hcall := fun Aq cq wr hO => asSequence_own Aq w.heap.size cq (boxS xs r) wr hO (by rw [boxS_length]; omega)
  rw [boxS_length] at hcall
  have Hc := Lib.hid hcall
  obtain ⟨D, hD⟩ : ∃ D, D = doneOf (boxS xs r) := ⟨_, rfl⟩
  rw [← hD] at Hc ⊢
  obtain ⟨R, hR⟩ : ∃ R, R = boxS xs r := ⟨_, rfl⟩
  rw [← hR] at HRl HRv Hc
  clear hR hD hcall
  go_enter Try.func64, Try.ntmps64
  go_wp2_with (first | (go_at_call 55; refine (implIsSequence_any _ _ _ _ (by assumption) (by omega)).mono ?_; rintro e w' ⟨rfl, rfl⟩) | (go_at_call 68; refine (isRatio_any _ _).mono ?_; rintro e w' ⟨rfl, rfl⟩))
  go_loopw [6, 7, 21] (fun q s i wr => ∃ (k : Nat) (Aq : Option Addr) (cq : Nat), k ≤ xs.length ∧ i = .int .i64 k ∧ s = .int .i64 (boxB xs r k) ∧ q = .slice Aq k cq ∧ Own wr w.heap.size Aq cq (R.take k) ∧ Below w.heap.size w wr) (fun _ _ i _ => xs.length - (intOf i).toNat)
  case atStart => exact ⟨0, _, 0, by omega, rfl, by rw [boxB_zero], rfl, own_empty w _ (Nat.le_refl _), (Below.refl _ _).alloc (Nat.le_refl _) _⟩
  case round =>
    obtain ⟨k, Aq, cq, hk, rfl, rfl, rfl, hown, hb⟩ := hrel
    by_cases hlt : k < xs.length
    · obtain ⟨ad, rfl, hbl, hcell⟩ := hr.at_ hlt
      have cells : Hid (∀ j, j < xs.length → wr.cell? (ad.add j) = some (.int .i64 (xs.getD j 0))) := fun j hj => (hb.cell (by rw [block_add]; exact hbl)).trans (hcell j hj)
      have hc1 := cells.out k hlt
      rw [getD_at hlt] at hc1
      have hkR : k < R.length := by rw [HRl.out]; exact hlt
      have hv := HRv.out k hkR
      have b0 := boxB_bd hs r k
      have b1 := boxB_bd hs r (k + 1)
      have bx := seqOk_at hs hlt
      clear hcell hr
      by_cases hA : k < r
      · have es := boxB_small hA hlt
        rw [es] at hv b1
        obtain ⟨x, hx⟩ : ∃ x, x = xs[k] := ⟨_, rfl⟩
        obtain ⟨t, ht⟩ : ∃ t, t = boxB xs r k := ⟨_, rfl⟩
        have ES : Hid (boxB xs r (k + 1) = t + x) := by show _ = _; rw [es, ht, hx]
        rw [← hx] at hc1 bx hv b1
        rw [← ht] at hv b0 b1 ⊢
        have Hv := Lib.hid hv
        clear hv hx ht es cells
        go_wp2_with (at_builtin; refine app_take rfl (.tmp 40) (.tmp 42) rfl w.heap.size Aq cq k R _ hkR ?_ rfl hown rfl (by omega) hb.size ?_)
        · exact Hv.out
        intro A1 c1 w1 hown1 hw1 hm1
        go_wp2
        go_roundw
        case rel => exact ⟨k + 1, A1, c1, by omega, by go_num, by rw [ES.out], rfl, hown1, below_app hb hw1 hown hb.size⟩
        case measure => simp [intOf]; omega
      · obtain ⟨j, hj⟩ : ∃ j, k = j + r := ⟨k - r, by omega⟩
        have hjl : j < xs.length := by omega
        have hc2 := cells.out j hjl
        rw [getD_at hjl] at hc2
        have es := boxB_big (xs := xs) (show r ≤ k by omega) hlt (by omega)
        have by_ := seqOk_at hs hjl
        have exj : xs[k - r] = xs[j] := by congr 1; omega
        rw [exj] at es
        rw [es] at hv b1
        obtain ⟨x, hx⟩ : ∃ x, x = xs[k] := ⟨_, rfl⟩
        obtain ⟨y, hy⟩ : ∃ y, y = xs[j] := ⟨_, rfl⟩
        obtain ⟨t, ht⟩ : ∃ t, t = boxB xs r k := ⟨_, rfl⟩
        have ES : Hid (boxB xs r (k + 1) = t + x - y) := by show _ = _; rw [es, ht, hx, hy]
        rw [← hx] at hc1 bx hv b1
        rw [← hy] at hc2 by_ hv b1
        rw [← ht] at hv b0 b1 ⊢
        have Hv := Lib.hid hv
        clear hv hx hy ht es cells exj
        subst hj
        go_wp2_with (at_builtin; refine app_take rfl (.tmp 40) (.tmp 42) rfl w.heap.size Aq cq (j + r) R _ hkR ?_ rfl hown rfl (by omega) hb.size ?_)
        · exact Hv.out
        intro A1 c1 w1 hown1 hw1 hm1
        go_wp2
        go_roundw
        case rel => exact ⟨j + r + 1, A1, c1, by omega, by go_num, by rw [ES.out], rfl, hown1, below_app hb hw1 hown hb.size⟩
        case measure => simp [intOf]; omega
    · obtain rfl : k = xs.length := by omega
      have hO := hown
      rw [List.take_of_length_le (by rw [HRl.out]; omega)] at hO
      have HO := Lib.hid hO
      clear hO hown
      go_wp2_with fail
      refine (Hc.out _ _ _ HO.out).mono ?_
      rintro e w2 ⟨A2, c2, rfl, O2, rfl⟩
      go_wp2_with fail
      go_ret2
      exact ⟨A2, c2, rfl, O2, hb⟩
theorem implBoxSums_any (A : Option Addr) (c : Nat) (xs : List Int) (r : Int) (w : World) (hr : Rd w w.heap.size A xs) (hn : xs.length ≤ 1048576) :
    Calls Try.prog 64 #[.slice A xs.length c, .int .i64 r] w (RetLB w (boxSums xs r)) := by
  rcases Bool.eq_false_or_eq_true (seqOk xs) with hs | hs
  · rcases Bool.eq_false_or_eq_true (inB r 1 100) with hk | hk
    · obtain ⟨k1, k2⟩ := inB_of hk
      obtain ⟨n, rfl⟩ : ∃ n : Nat, r = n := ⟨r.toNat, by omega⟩
      rw [boxSums_yes hs (by omega) (by omega)]
      exact implBox_yes A c xs n w hr hs (by omega) (by omega)
    · rw [boxSums_noR hk]
      go_enter Try.func64, Try.ntmps64
      go_wp2_with (first | (go_at_call 55; refine (implIsSequence_any _ _ _ _ (by assumption) (by omega)).mono ?_; rintro e w' ⟨rfl, rfl⟩) | (go_at_call 68; refine (isRatio_any _ _).mono ?_; rintro e w' ⟨rfl, rfl⟩))
      go_ret2
      exact ⟨none, 0, rfl, own_nil _ _, Below.refl _ _⟩
  · rw [boxSums_noSeq hs]
    go_enter Try.func64, Try.ntmps64
    go_wp2_with (first | (go_at_call 55; refine (implIsSequence_any _ _ _ _ (by assumption) (by omega)).mono ?_; rintro e w' ⟨rfl, rfl⟩))
    go_ret2
    exact ⟨none, 0, rfl, own_nil _ _, Below.refl _ _⟩
set_option maxHeartbeats 2000000 in
theorem implDec_yes (A : Option Addr) (c : Nat) (xs : List Int) (r p : Nat) (w : World) (hr : Rd w w.heap.size A xs) (hs : seqOk xs = true) (r1 : 1 ≤ r) (r2 : r ≤ 100) (p2 : p < r) :
    Calls Try.prog 28 #[.slice A xs.length c, .int .i64 r, .int .i64 p] w (RetLB w (decL xs r p, true)) := by
  have hlx := seqOk_len hs
  have hrb : inB (r : Int) 1 100 = true := inB_true (by omega) (by omega)
  have hpb : inB (p : Int) 0 ((r : Int) - 1) = true := inB_true (by omega) (by omega)
  have hrw : IntKind.i64.wrap ((r : Int) - 1) = (r : Int) - 1 := Go.IntWalk.i64_in _ (by omega)
  have hd1 : decide ((p : Int) < 0) = false := decide_eq_false (by omega)
  have hd2 : decide ((r : Int) ≤ (p : Int)) = false := decide_eq_false (by omega)
  have hd3 : decide (r ≤ p) = false := decide_eq_false (by omega)
  have HRl : Hid ((decL xs r p).length = decN xs.length r p) := decL_length xs r p
  have HRv : Hid (∀ k (h : k < (decL xs r p).length), (decL xs r p)[k] = fnOf xs (p + k * r)) := fun k h => lst_get _ h
  have hdn := decN_le (n := xs.length) (p := p) r1
  have HI : Hid (∀ j, j < decN xs.length r p ↔ p + j * r < xs.length) := fun j => decN_iff r1 j
  obtain ⟨R, hR⟩ : ∃ R, R = decL xs r p := ⟨_, rfl⟩
  rw [← hR] at HRl HRv ⊢
  clear hR
  obtain ⟨N, hN⟩ : ∃ N, N = decN xs.length r p := ⟨_, rfl⟩
  rw [← hN] at HRl HI hdn
  clear hN
  go_enter Try.func28, Try.ntmps28
  go_wp2_with (first | (go_at_call 55; refine (implIsSequence_any _ _ _ _ (by assumption) (by omega)).mono ?_; rintro e w' ⟨rfl, rfl⟩) | (go_at_call 68; refine (isRatio_any _ _).mono ?_; rintro e w' ⟨rfl, rfl⟩))
  go_loopw [8, 9] (fun q i wr => ∃ (k t : Nat) (Aq : Option Addr) (cq : Nat), k ≤ N ∧ Hid (t = p + k * r) ∧ t ≤ 1100 ∧ i = .int .i64 t ∧ q = .slice Aq k cq ∧ Own wr w.heap.size Aq cq (R.take k) ∧ Below w.heap.size w wr) (fun _ i _ => 1200 - (intOf i).toNat)
  case atStart => exact ⟨0, p, _, 0, by omega, by show _ = _; simp, by omega, rfl, rfl, own_empty w _ (Nat.le_refl _), (Below.refl _ _).alloc (Nat.le_refl _) _⟩
  case round =>
    obtain ⟨k, t, Aq, cq, hk, ht, ht2, rfl, rfl, hown, hb⟩ := hrel
    by_cases hlt : t < xs.length
    · have hkN : k < N := (HI.out k).2 (by rw [← ht.out]; exact hlt)
      obtain ⟨ad, rfl, hbl, hcell⟩ := hr.at_ hlt
      have hc1 : wr.cell? (ad.add t) = some (.int .i64 (xs.getD t 0)) := (hb.cell (by rw [block_add]; exact hbl)).trans (hcell t hlt)
      rw [getD_at hlt] at hc1
      have hkR : k < R.length := by rw [HRl.out]; exact hkN
      have hv := HRv.out k hkR
      rw [← ht.out, fnOf_at hlt] at hv
      have hn1 : Hid (t + r = p + (k + 1) * r) := by show _ = _; rw [Nat.add_mul, ht.out]; omega
      obtain ⟨x, hx⟩ : ∃ x, x = xs[t] := ⟨_, rfl⟩
      rw [← hx] at hc1 hv
      have Hv := Lib.hid hv
      clear hcell hr hv hx
      go_wp2_with (at_builtin; refine app_take rfl (.tmp 36) (.tmp 41) rfl w.heap.size Aq cq k R _ hkR ?_ rfl hown rfl (by omega) hb.size ?_)
      · exact Hv.out
      intro A1 c1 w1 hown1 hw1 hm1
      go_wp2
      go_roundw
      case rel => exact ⟨k + 1, t + r, A1, c1, by omega, hn1, by omega, by go_num, rfl, hown1, below_app hb hw1 hown hb.size⟩
      case measure => simp [intOf]; omega
    · have hkN : k = N := by
        rcases Nat.lt_or_ge k N with h | h
        · exact absurd ((HI.out k).1 h) (by rw [← ht.out]; exact hlt)
        · omega
      subst hkN
      have hO := hown
      rw [List.take_of_length_le (by rw [HRl.out]; omega)] at hO
      go_wp2_with fail
      go_ret2
      exact ⟨Aq, cq, by rw [HRl.out]; rfl, hO, hb⟩
theorem implDecimate_any (A : Option Addr) (c : Nat) (xs : List Int) (r p : Int) (w : World) (hr : Rd w w.heap.size A xs) (hn : xs.length ≤ 1048576) :
    Calls Try.prog 28 #[.slice A xs.length c, .int .i64 r, .int .i64 p] w (RetLB w (decimate xs r p)) := by
  rcases Bool.eq_false_or_eq_true (seqOk xs) with hs | hs
  · rcases Bool.eq_false_or_eq_true (inB r 1 100) with hk | hk
    · obtain ⟨k1, k2⟩ := inB_of hk
      have hrw : IntKind.i64.wrap (r - 1) = r - 1 := Go.IntWalk.i64_in _ (by omega)
      rcases Bool.eq_false_or_eq_true (inB p 0 (r - 1)) with hp | hp
      · obtain ⟨p1, p2⟩ := inB_of hp
        obtain ⟨n, rfl⟩ : ∃ n : Nat, r = n := ⟨r.toNat, by omega⟩
        obtain ⟨q, rfl⟩ : ∃ n : Nat, p = n := ⟨p.toNat, by omega⟩
        rw [decimate_yes hs (by omega) (by omega) (by omega)]
        exact implDec_yes A c xs n q w hr hs (by omega) (by omega) (by omega)
      · rw [decimate_no (by simp [decOk, hp])]
        have hpn : p < 0 ∨ r ≤ p := by
          rcases Int.lt_or_le p 0 with h | h
          · exact .inl h
          · refine .inr ?_
            rcases Int.lt_or_le p r with h2 | h2
            · rw [inB_true h (by omega)] at hp; cases hp
            · exact h2
        go_enter Try.func28, Try.ntmps28
        go_wp2_with (first | (go_at_call 55; refine (implIsSequence_any _ _ _ _ (by assumption) (by omega)).mono ?_; rintro e w' ⟨rfl, rfl⟩) | (go_at_call 68; refine (isRatio_any _ _).mono ?_; rintro e w' ⟨rfl, rfl⟩))
        all_goals first
          | (exfalso; omega)
          | (go_ret2; exact ⟨none, 0, rfl, own_nil _ _, Below.refl _ _⟩)
    · rw [decimate_no (by simp [decOk, hk])]
      go_enter Try.func28, Try.ntmps28
      go_wp2_with (first | (go_at_call 55; refine (implIsSequence_any _ _ _ _ (by assumption) (by omega)).mono ?_; rintro e w' ⟨rfl, rfl⟩) | (go_at_call 68; refine (isRatio_any _ _).mono ?_; rintro e w' ⟨rfl, rfl⟩))
      go_ret2
      exact ⟨none, 0, rfl, own_nil _ _, Below.refl _ _⟩
  · rw [decimate_no (by simp [decOk, hs])]
    go_enter Try.func28, Try.ntmps28
    go_wp2_with (first | (go_at_call 55; refine (implIsSequence_any _ _ _ _ (by assumption) (by omega)).mono ?_; rintro e w' ⟨rfl, rfl⟩))
    go_ret2
    exact ⟨none, 0, rfl, own_nil _ _, Below.refl _ _⟩
set_option maxHeartbeats 2000000 in
theorem implInt_yes (A : Option Addr) (c : Nat) (xs : List Int) (n : Nat) (w : World) (hr : Rd w w.heap.size A xs) (hs : seqOk xs = true) (hn : n ≤ 6) :
    Calls Try.prog 79 #[.slice A xs.length c, .int .i64 n] w (RetLB w (integrals xs n)) := by
  have hlen := seqOk_len hs
  have hk : inB (n : Int) 0 6 = true := inB_true (by omega) (by omega)
  go_enter Try.func79, Try.ntmps79
  go_wp2_with (first | (go_at_call 55; refine (implIsSequence_any _ _ _ _ (by assumption) (by omega)).mono ?_; rintro e w' ⟨rfl, rfl⟩) | (go_at_call 85; refine (isOrder_any _ _).mono ?_; rintro e w' ⟨rfl, rfl⟩))
  refine (clone_any _ _ _ _ hr (by omega)).mono ?_; rintro e w1 ⟨A1, c1, rfl, O1, h1⟩
  clear hr hk
  go_wp2_with fail
  go_loopw [19] (fun i wr => ∃ j : Nat, j ≤ n ∧ i = .int .i64 j ∧ Hid (intOkTo xs j) ∧ Own wr w.heap.size A1 c1 (intN xs j) ∧ Below w.heap.size w wr) (fun i _ => n - (intOf i).toNat)
  case atStart => exact ⟨0, by omega, rfl, (fun j hj => by obtain rfl : j = 0 := (by omega); exact hs), O1, h1⟩
  case round =>
    clear O1 h1
    obtain ⟨j, hj, rfl, hI, O2, h2⟩ := hrel
    by_cases hlt : j < n
    · skip
      have hl := Lib.hid (intN_length xs j)
      have hsj := hI.out j (Nat.le_refl _)
      have HN : Hid (intN xs (j + 1) = intS (intN xs j)) := rfl
      have HNl : Hid ((intN xs (j + 1)).length = xs.length) := intN_length xs (j + 1)
      obtain ⟨D, hD⟩ : ∃ D, D = intN xs j := ⟨_, rfl⟩
      rw [← hD] at hl hsj O2 HN
      clear hD
      have hl1 : xs.length ≤ D.length := by have := hl.out; omega
      have hl2 : D.length ≤ xs.length := by have := hl.out; omega
      obtain ⟨wo, hwo⟩ : ∃ wo : World, wo = wr := ⟨_, rfl⟩
      subst hwo
      go_wp2_with fail
      go_loopw [7] (fun i wr => ∃ (t : Nat) (ys : List Int), 1 ≤ t ∧ t ≤ xs.length + 1 ∧ i = .int .i64 t ∧ Hid (IntTo D ys t) ∧ Hid (Own wr w.heap.size A1 c1 ys) ∧ Below w.heap.size w wr) (fun i _ => xs.length + 1 - (intOf i).toNat)
      case atStart => exact ⟨1, D, by omega, by omega, rfl, intTo_one D, O2, h2⟩
      case round =>
        clear O2 h2
        obtain ⟨t, ys, ht1, ht, rfl, hT, hO, hB⟩ := hrel
        by_cases h2 : t < xs.length
        · obtain ⟨i, hi⟩ : ∃ i : Nat, t = i + 1 := ⟨t - 1, by omega⟩
          subst hi
          have hly : i + 1 < ys.length := by have := hT.out.1; omega
          have hly2 : i < ys.length := by omega
          obtain ⟨g, rfl, hg, _⟩ := own_head hO.out hly
          have hc1 := own_cell hO.out hly
          have hc2 := own_cell hO.out (j := i) (by omega)
          have hf1 := own_frozen hO.out (i + 1)
          have b1 : -1099511627776 ≤ ys[i + 1] ∧ ys[i + 1] ≤ 1099511627776 := by rw [intTo_at hT.out hly, if_neg (by omega)]; exact seq_getD' hsj (i + 1)
          have b2 : -(1099511627776 * ((i : Int) + 1)) ≤ ys[i] ∧ ys[i] ≤ 1099511627776 * ((i : Int) + 1) := by rw [intTo_at hT.out hly2, if_pos (by omega)]; exact sF_bd hsj i
          have e0 : (((i + 1 : Nat) : Int) - 1) = i := by omega
          go_wp2
          go_region
          go_wp2
          go_roundw
          case rel => exact ⟨i + 2, ys.set (i + 1) (ys[i + 1] + ys[i]), by omega, by omega, by go_num, intTo_step hT.out (by have := hT.out.1; omega) hly hly2, own_set hO.out _ _, (hB.setCell (by simpa using hg) _).drew⟩
          case measure => simp [intOf]; omega
        · have e := intTo_end hT.out (by have := hl.out; omega)
          rw [← HN.out] at e
          subst e
          rcases Bool.eq_false_or_eq_true (seqOk (intN xs (j + 1))) with hq | hq
          · have hcall := implIsSequence_any A1 c1 (intN xs (j + 1)) wr (own_rd hO.out) (by rw [HNl.out]; omega)
            rw [HNl.out, hq] at hcall
            have Hc := Lib.hid hcall
            have Hq := Lib.hid hq
            clear hcall hq hsj
            go_wp2_with fail
            refine Hc.out.mono ?_
            rintro e w2 ⟨rfl, rfl⟩
            go_wp2_with fail
            go_roundw
            case rel => exact ⟨j + 1, by omega, by go_num, intOkTo_step hI.out Hq.out, hO.out, hB⟩
            case measure => simp [intOf]; omega
          · have hcall := implIsSequence_any A1 c1 (intN xs (j + 1)) wr (own_rd hO.out) (by rw [HNl.out]; omega)
            rw [HNl.out, hq] at hcall
            have Hc := Lib.hid hcall
            have Hno : Hid (integrals xs n = ([], false)) := integrals_no (j := j + 1) (by omega) hq
            clear hcall hq hsj
            go_wp2_with fail
            refine Hc.out.mono ?_
            rintro e w2 ⟨rfl, rfl⟩
            go_wp2_with fail
            go_ret2
            exact ⟨none, 0, by rw [Hno.out]; rfl, by rw [Hno.out]; exact own_nil _ _, hB⟩
    · obtain rfl : j = n := by omega
      have hy := integrals_yes hn hI.out
      have hl := intN_length xs j
      have Hl := Lib.hid hl
      have HY := Lib.hid hy
      clear hl hy
      go_wp2_with fail
      go_ret2
      rw [HY.out]
      exact ⟨A1, c1, by show _ = Ending.returned (.tuple #[.slice A1 (intN xs j).length c1, .bool true]); rw [Hl.out]; rfl, O2, h2⟩
theorem implIntegralsOf_any (A : Option Addr) (c : Nat) (xs : List Int) (k : Int) (w : World) (hr : Rd w w.heap.size A xs) (hn : xs.length ≤ 1048576) :
    Calls Try.prog 79 #[.slice A xs.length c, .int .i64 k] w (RetLB w (integrals xs k)) := by
  rcases Bool.eq_false_or_eq_true (seqOk xs) with hs | hs
  · rcases Bool.eq_false_or_eq_true (inB k 0 6) with hk | hk
    · obtain ⟨k1, k2⟩ := inB_of hk
      obtain ⟨n, rfl⟩ : ∃ n : Nat, k = n := ⟨k.toNat, by omega⟩
      exact implInt_yes A c xs n w hr hs (by omega)
    · rw [integrals_noOrder hk]
      go_enter Try.func79, Try.ntmps79
      go_wp2_with (first | (go_at_call 55; refine (implIsSequence_any _ _ _ _ (by assumption) (by omega)).mono ?_; rintro e w' ⟨rfl, rfl⟩) | (go_at_call 85; refine (isOrder_any _ _).mono ?_; rintro e w' ⟨rfl, rfl⟩))
      go_ret2
      exact ⟨none, 0, rfl, own_nil _ _, Below.refl _ _⟩
  · rw [integrals_noSeq hs]
    go_enter Try.func79, Try.ntmps79
    go_wp2_with (first | (go_at_call 55; refine (implIsSequence_any _ _ _ _ (by assumption) (by omega)).mono ?_; rintro e w' ⟨rfl, rfl⟩))
    go_ret2
    exact ⟨none, 0, rfl, own_nil _ _, Below.refl _ _⟩
set_option maxHeartbeats 2000000 in
theorem specBox_yes (A : Option Addr) (c : Nat) (xs : List Int) (r : Nat) (w : World) (hr : Rd w w.heap.size A xs) (hs : seqOk xs = true) (r1 : 1 ≤ r) (r2 : r ≤ 100) :
    Calls Try.prog 58 #[.slice A xs.length c, .int .i64 r] w (RetLB w (doneOf (boxS xs r))) := by
  have hlx := seqOk_len hs
  have hrb : inB (r : Int) 1 100 = true := inB_true (by omega) (by omega)
  have HRl : Hid ((boxS xs r).length = xs.length) := boxS_length xs r
  have HRv : Hid (∀ k (h : k < (boxS xs r).length), (boxS xs r)[k] = boxB xs r (k + 1)) := fun k h => lst_get _ h
  have hcall := fun Aq cq wr hO => l1Done_own Aq w.heap.size cq (boxS xs r) wr hO (by rw [boxS_length]; omega)
  rw [boxS_length] at hcall
  have Hc := Lib.hid hcall
  obtain ⟨D, hD⟩ : ∃ D, D = doneOf (boxS xs r) := ⟨_, rfl⟩
  rw [← hD] at Hc ⊢
  obtain ⟨R, hR⟩ : ∃ R, R = boxS xs r := ⟨_, rfl⟩
  rw [← hR] at HRl HRv Hc
  clear hR hD hcall
  go_enter Try.func58, Try.ntmps58
  go_wp2_with (first | (go_at_call 60; refine (specIsSequence_any _ _ _ _ (by assumption) (by omega)).mono ?_; rintro e w' ⟨rfl, rfl⟩) | (go_at_call 70; refine (l1In_any _ _ _ _).mono ?_; rintro e w' ⟨rfl, rfl⟩))
  go_loopw [6, 7, 21] (fun q s i wr => ∃ (k : Nat) (Aq : Option Addr) (cq : Nat), k ≤ xs.length ∧ i = .int .i64 k ∧ s = .int .i64 (boxB xs r k) ∧ q = .slice Aq k cq ∧ Own wr w.heap.size Aq cq (R.take k) ∧ Below w.heap.size w wr) (fun _ _ i _ => xs.length - (intOf i).toNat)
  case atStart => exact ⟨0, _, 0, by omega, rfl, by rw [boxB_zero], rfl, own_empty w _ (Nat.le_refl _), (Below.refl _ _).alloc (Nat.le_refl _) _⟩
  case round =>
    obtain ⟨k, Aq, cq, hk, rfl, rfl, rfl, hown, hb⟩ := hrel
    by_cases hlt : k < xs.length
    · obtain ⟨ad, rfl, hbl, hcell⟩ := hr.at_ hlt
      have cells : Hid (∀ j, j < xs.length → wr.cell? (ad.add j) = some (.int .i64 (xs.getD j 0))) := fun j hj => (hb.cell (by rw [block_add]; exact hbl)).trans (hcell j hj)
      have hc1 := cells.out k hlt
      rw [getD_at hlt] at hc1
      have hkR : k < R.length := by rw [HRl.out]; exact hlt
      have hv := HRv.out k hkR
      have b0 := boxB_bd hs r k
      have b1 := boxB_bd hs r (k + 1)
      have bx := seqOk_at hs hlt
      clear hcell hr
      by_cases hA : k < r
      · have es := boxB_small hA hlt
        rw [es] at hv b1
        obtain ⟨x, hx⟩ : ∃ x, x = xs[k] := ⟨_, rfl⟩
        obtain ⟨t, ht⟩ : ∃ t, t = boxB xs r k := ⟨_, rfl⟩
        have ES : Hid (boxB xs r (k + 1) = t + x) := by show _ = _; rw [es, ht, hx]
        rw [← hx] at hc1 bx hv b1
        rw [← ht] at hv b0 b1 ⊢
        have Hv := Lib.hid hv
        clear hv hx ht es cells
        go_wp2_with (at_builtin; refine app_take rfl (.tmp 40) (.tmp 42) rfl w.heap.size Aq cq k R _ hkR ?_ rfl hown rfl (by omega) hb.size ?_)
        · exact Hv.out
        intro A1 c1 w1 hown1 hw1 hm1
        go_wp2
        go_roundw
        case rel => exact ⟨k + 1, A1, c1, by omega, by go_num, by rw [ES.out], rfl, hown1, below_app hb hw1 hown hb.size⟩
        case measure => simp [intOf]; omega
      · obtain ⟨j, hj⟩ : ∃ j, k = j + r := ⟨k - r, by omega⟩
        have hjl : j < xs.length := by omega
        have hc2 := cells.out j hjl
        rw [getD_at hjl] at hc2
        have es := boxB_big (xs := xs) (show r ≤ k by omega) hlt (by omega)
        have by_ := seqOk_at hs hjl
        have exj : xs[k - r] = xs[j] := by congr 1; omega
        rw [exj] at es
        rw [es] at hv b1
        obtain ⟨x, hx⟩ : ∃ x, x = xs[k] := ⟨_, rfl⟩
        obtain ⟨y, hy⟩ : ∃ y, y = xs[j] := ⟨_, rfl⟩
        obtain ⟨t, ht⟩ : ∃ t, t = boxB xs r k := ⟨_, rfl⟩
        have ES : Hid (boxB xs r (k + 1) = t + x - y) := by show _ = _; rw [es, ht, hx, hy]
        rw [← hx] at hc1 bx hv b1
        rw [← hy] at hc2 by_ hv b1
        rw [← ht] at hv b0 b1 ⊢
        have Hv := Lib.hid hv
        clear hv hx hy ht es cells exj
        subst hj
        go_wp2_with (at_builtin; refine app_take rfl (.tmp 40) (.tmp 42) rfl w.heap.size Aq cq (j + r) R _ hkR ?_ rfl hown rfl (by omega) hb.size ?_)
        · exact Hv.out
        intro A1 c1 w1 hown1 hw1 hm1
        go_wp2
        go_roundw
        case rel => exact ⟨j + r + 1, A1, c1, by omega, by go_num, by rw [ES.out], rfl, hown1, below_app hb hw1 hown hb.size⟩
        case measure => simp [intOf]; omega
    · obtain rfl : k = xs.length := by omega
      have hO := hown
      rw [List.take_of_length_le (by rw [HRl.out]; omega)] at hO
      have HO := Lib.hid hO
      clear hO hown
      go_wp2_with fail
      refine (Hc.out _ _ _ HO.out).mono ?_
      rintro e w2 ⟨A2, c2, rfl, O2, rfl⟩
      go_wp2_with fail
      go_ret2
      exact ⟨A2, c2, rfl, O2, hb⟩
theorem specBoxSums_any (A : Option Addr) (c : Nat) (xs : List Int) (r : Int) (w : World) (hr : Rd w w.heap.size A xs) (hn : xs.length ≤ 1048576) :
    Calls Try.prog 58 #[.slice A xs.length c, .int .i64 r] w (RetLB w (boxSums xs r)) := by
  rcases Bool.eq_false_or_eq_true (seqOk xs) with hs | hs
  · rcases Bool.eq_false_or_eq_true (inB r 1 100) with hk | hk
    · obtain ⟨k1, k2⟩ := inB_of hk
      obtain ⟨n, rfl⟩ : ∃ n : Nat, r = n := ⟨r.toNat, by omega⟩
      rw [boxSums_yes hs (by omega) (by omega)]
      exact specBox_yes A c xs n w hr hs (by omega) (by omega)
    · rw [boxSums_noR hk]
      go_enter Try.func58, Try.ntmps58
      go_wp2_with (first | (go_at_call 60; refine (specIsSequence_any _ _ _ _ (by assumption) (by omega)).mono ?_; rintro e w' ⟨rfl, rfl⟩) | (go_at_call 70; refine (l1In_any _ _ _ _).mono ?_; rintro e w' ⟨rfl, rfl⟩))
      go_ret2
      exact ⟨none, 0, rfl, own_nil _ _, Below.refl _ _⟩
  · rw [boxSums_noSeq hs]
    go_enter Try.func58, Try.ntmps58
    go_wp2_with (first | (go_at_call 60; refine (specIsSequence_any _ _ _ _ (by assumption) (by omega)).mono ?_; rintro e w' ⟨rfl, rfl⟩))
    go_ret2
    exact ⟨none, 0, rfl, own_nil _ _, Below.refl _ _⟩
set_option maxHeartbeats 2000000 in
theorem specDec_yes (A : Option Addr) (c : Nat) (xs : List Int) (r p : Nat) (w : World) (hr : Rd w w.heap.size A xs) (hs : seqOk xs = true) (r1 : 1 ≤ r) (r2 : r ≤ 100) (p2 : p < r) :
    Calls Try.prog 59 #[.slice A xs.length c, .int .i64 r, .int .i64 p] w (RetLB w (decL xs r p, true)) := by
  have hlx := seqOk_len hs
  have hrb : inB (r : Int) 1 100 = true := inB_true (by omega) (by omega)
  have hpb : inB (p : Int) 0 ((r : Int) - 1) = true := inB_true (by omega) (by omega)
  have hrw : IntKind.i64.wrap ((r : Int) - 1) = (r : Int) - 1 := Go.IntWalk.i64_in _ (by omega)
  have hd1 : decide ((p : Int) < 0) = false := decide_eq_false (by omega)
  have hd2 : decide ((r : Int) ≤ (p : Int)) = false := decide_eq_false (by omega)
  have hd3 : decide (r ≤ p) = false := decide_eq_false (by omega)
  have HRl : Hid ((decL xs r p).length = decN xs.length r p) := decL_length xs r p
  have HRv : Hid (∀ k (h : k < (decL xs r p).length), (decL xs r p)[k] = fnOf xs (p + k * r)) := fun k h => lst_get _ h
  have hdn := decN_le (n := xs.length) (p := p) r1
  have HI : Hid (∀ j, j < decN xs.length r p ↔ p + j * r < xs.length) := fun j => decN_iff r1 j
  obtain ⟨R, hR⟩ : ∃ R, R = decL xs r p := ⟨_, rfl⟩
  rw [← hR] at HRl HRv ⊢
  clear hR
  obtain ⟨N, hN⟩ : ∃ N, N = decN xs.length r p := ⟨_, rfl⟩
  rw [← hN] at HRl HI hdn
  clear hN
  go_enter Try.func59, Try.ntmps59
  go_wp2_with (first | (go_at_call 60; refine (specIsSequence_any _ _ _ _ (by assumption) (by omega)).mono ?_; rintro e w' ⟨rfl, rfl⟩) | (go_at_call 70; refine (l1In_any _ _ _ _).mono ?_; rintro e w' ⟨rfl, rfl⟩))
  go_loopw [8, 9] (fun q i wr => ∃ (k t : Nat) (Aq : Option Addr) (cq : Nat), k ≤ N ∧ Hid (t = p + k * r) ∧ t ≤ 1100 ∧ i = .int .i64 t ∧ q = .slice Aq k cq ∧ Own wr w.heap.size Aq cq (R.take k) ∧ Below w.heap.size w wr) (fun _ i _ => 1200 - (intOf i).toNat)
  case atStart => exact ⟨0, p, _, 0, by omega, by show _ = _; simp, by omega, rfl, rfl, own_empty w _ (Nat.le_refl _), (Below.refl _ _).alloc (Nat.le_refl _) _⟩
  case round =>
    obtain ⟨k, t, Aq, cq, hk, ht, ht2, rfl, rfl, hown, hb⟩ := hrel
    by_cases hlt : t < xs.length
    · have hkN : k < N := (HI.out k).2 (by rw [← ht.out]; exact hlt)
      obtain ⟨ad, rfl, hbl, hcell⟩ := hr.at_ hlt
      have hc1 : wr.cell? (ad.add t) = some (.int .i64 (xs.getD t 0)) := (hb.cell (by rw [block_add]; exact hbl)).trans (hcell t hlt)
      rw [getD_at hlt] at hc1
      have hkR : k < R.length := by rw [HRl.out]; exact hkN
      have hv := HRv.out k hkR
      rw [← ht.out, fnOf_at hlt] at hv
      have hn1 : Hid (t + r = p + (k + 1) * r) := by show _ = _; rw [Nat.add_mul, ht.out]; omega
      obtain ⟨x, hx⟩ : ∃ x, x = xs[t] := ⟨_, rfl⟩
      rw [← hx] at hc1 hv
      have Hv := Lib.hid hv
      clear hcell hr hv hx
      go_wp2_with (at_builtin; refine app_take rfl (.tmp 34) (.tmp 39) rfl w.heap.size Aq cq k R _ hkR ?_ rfl hown rfl (by omega) hb.size ?_)
      · exact Hv.out
      intro A1 c1 w1 hown1 hw1 hm1
      go_wp2
      go_roundw
      case rel => exact ⟨k + 1, t + r, A1, c1, by omega, hn1, by omega, by go_num, rfl, hown1, below_app hb hw1 hown hb.size⟩
      case measure => simp [intOf]; omega
    · have hkN : k = N := by
        rcases Nat.lt_or_ge k N with h | h
        · exact absurd ((HI.out k).1 h) (by rw [← ht.out]; exact hlt)
        · omega
      subst hkN
      have hO := hown
      rw [List.take_of_length_le (by rw [HRl.out]; omega)] at hO
      go_wp2_with fail
      go_ret2
      exact ⟨Aq, cq, by rw [HRl.out]; rfl, hO, hb⟩
theorem specDecimate_any (A : Option Addr) (c : Nat) (xs : List Int) (r p : Int) (w : World) (hr : Rd w w.heap.size A xs) (hn : xs.length ≤ 1048576) :
    Calls Try.prog 59 #[.slice A xs.length c, .int .i64 r, .int .i64 p] w (RetLB w (decimate xs r p)) := by
  rcases Bool.eq_false_or_eq_true (seqOk xs) with hs | hs
  · rcases Bool.eq_false_or_eq_true (inB r 1 100) with hk | hk
    · obtain ⟨k1, k2⟩ := inB_of hk
      have hrw : IntKind.i64.wrap (r - 1) = r - 1 := Go.IntWalk.i64_in _ (by omega)
      rcases Bool.eq_false_or_eq_true (inB p 0 (r - 1)) with hp | hp
      · obtain ⟨p1, p2⟩ := inB_of hp
        obtain ⟨n, rfl⟩ : ∃ n : Nat, r = n := ⟨r.toNat, by omega⟩
        obtain ⟨q, rfl⟩ : ∃ n : Nat, p = n := ⟨p.toNat, by omega⟩
        rw [decimate_yes hs (by omega) (by omega) (by omega)]
        exact specDec_yes A c xs n q w hr hs (by omega) (by omega) (by omega)
      · rw [decimate_no (by simp [decOk, hp])]
        have hpn : p < 0 ∨ r ≤ p := by
          rcases Int.lt_or_le p 0 with h | h
          · exact .inl h
          · refine .inr ?_
            rcases Int.lt_or_le p r with h2 | h2
            · rw [inB_true h (by omega)] at hp; cases hp
            · exact h2
        go_enter Try.func59, Try.ntmps59
        go_wp2_with (first | (go_at_call 60; refine (specIsSequence_any _ _ _ _ (by assumption) (by omega)).mono ?_; rintro e w' ⟨rfl, rfl⟩) | (go_at_call 70; refine (l1In_any _ _ _ _).mono ?_; rintro e w' ⟨rfl, rfl⟩))
        all_goals first
          | (exfalso; omega)
          | (go_ret2; exact ⟨none, 0, rfl, own_nil _ _, Below.refl _ _⟩)
    · rw [decimate_no (by simp [decOk, hk])]
      go_enter Try.func59, Try.ntmps59
      go_wp2_with (first | (go_at_call 60; refine (specIsSequence_any _ _ _ _ (by assumption) (by omega)).mono ?_; rintro e w' ⟨rfl, rfl⟩) | (go_at_call 70; refine (l1In_any _ _ _ _).mono ?_; rintro e w' ⟨rfl, rfl⟩))
      go_ret2
      exact ⟨none, 0, rfl, own_nil _ _, Below.refl _ _⟩
  · rw [decimate_no (by simp [decOk, hs])]
    go_enter Try.func59, Try.ntmps59
    go_wp2_with (first | (go_at_call 60; refine (specIsSequence_any _ _ _ _ (by assumption) (by omega)).mono ?_; rintro e w' ⟨rfl, rfl⟩))
    go_ret2
    exact ⟨none, 0, rfl, own_nil _ _, Below.refl _ _⟩
set_option maxHeartbeats 2000000 in
theorem specInt_yes (A : Option Addr) (c : Nat) (xs : List Int) (n : Nat) (w : World) (hr : Rd w w.heap.size A xs) (hs : seqOk xs = true) (hn : n ≤ 6) :
    Calls Try.prog 77 #[.slice A xs.length c, .int .i64 n] w (RetLB w (integrals xs n)) := by
  have hlen := seqOk_len hs
  have hk : inB (n : Int) 0 6 = true := inB_true (by omega) (by omega)
  go_enter Try.func77, Try.ntmps77
  go_wp2_with (first | (go_at_call 60; refine (specIsSequence_any _ _ _ _ (by assumption) (by omega)).mono ?_; rintro e w' ⟨rfl, rfl⟩) | (go_at_call 70; refine (l1In_any _ _ _ _).mono ?_; rintro e w' ⟨rfl, rfl⟩))
  refine (l1Copy_any _ _ _ _ hr (by omega)).mono ?_; rintro e w1 ⟨A1, c1, rfl, O1, h1⟩
  clear hr hk
  go_wp2_with fail
  go_loopw [1] (fun i wr => ∃ j : Nat, j ≤ n ∧ i = .int .i64 (n - j : Nat) ∧ Hid (intOkTo xs j) ∧ Own wr w.heap.size A1 c1 (intN xs j) ∧ Below w.heap.size w wr) (fun i _ => (intOf i).toNat)
  case atStart => exact ⟨0, by omega, rfl, (fun j hj => by obtain rfl : j = 0 := (by omega); exact hs), O1, h1⟩
  case round =>
    clear O1 h1
    obtain ⟨j, hj, rfl, hI, O2, h2⟩ := hrel
    by_cases hlt : j < n
    · obtain ⟨q, hq1, hq2⟩ : ∃ q : Nat, n - j = q + 1 ∧ q + 1 + j = n := ⟨n - j - 1, by omega, by omega⟩
      rw [hq1]
      have Hqq := Lib.hid hq2
      have hq3 : q ≤ 5 := by omega
      clear hq1 hq2
      have hl := Lib.hid (intN_length xs j)
      have hsj := hI.out j (Nat.le_refl _)
      have HN : Hid (intN xs (j + 1) = intS (intN xs j)) := rfl
      have HNl : Hid ((intN xs (j + 1)).length = xs.length) := intN_length xs (j + 1)
      obtain ⟨D, hD⟩ : ∃ D, D = intN xs j := ⟨_, rfl⟩
      rw [← hD] at hl hsj O2 HN
      clear hD
      have hl1 : xs.length ≤ D.length := by have := hl.out; omega
      have hl2 : D.length ≤ xs.length := by have := hl.out; omega
      obtain ⟨wo, hwo⟩ : ∃ wo : World, wo = wr := ⟨_, rfl⟩
      subst hwo
      go_wp2_with fail
      go_loopw [7] (fun i wr => ∃ (t : Nat) (ys : List Int), 1 ≤ t ∧ t ≤ xs.length + 1 ∧ i = .int .i64 t ∧ Hid (IntTo D ys t) ∧ Hid (Own wr w.heap.size A1 c1 ys) ∧ Below w.heap.size w wr) (fun i _ => xs.length + 1 - (intOf i).toNat)
      case atStart => exact ⟨1, D, by omega, by omega, rfl, intTo_one D, O2, h2⟩
      case round =>
        clear O2 h2
        obtain ⟨t, ys, ht1, ht, rfl, hT, hO, hB⟩ := hrel
        by_cases h2 : t < xs.length
        · obtain ⟨i, hi⟩ : ∃ i : Nat, t = i + 1 := ⟨t - 1, by omega⟩
          subst hi
          have hly : i + 1 < ys.length := by have := hT.out.1; omega
          have hly2 : i < ys.length := by omega
          obtain ⟨g, rfl, hg, _⟩ := own_head hO.out hly
          have hc1 := own_cell hO.out hly
          have hc2 := own_cell hO.out (j := i) (by omega)
          have hf1 := own_frozen hO.out (i + 1)
          have b1 : -1099511627776 ≤ ys[i + 1] ∧ ys[i + 1] ≤ 1099511627776 := by rw [intTo_at hT.out hly, if_neg (by omega)]; exact seq_getD' hsj (i + 1)
          have b2 : -(1099511627776 * ((i : Int) + 1)) ≤ ys[i] ∧ ys[i] ≤ 1099511627776 * ((i : Int) + 1) := by rw [intTo_at hT.out hly2, if_pos (by omega)]; exact sF_bd hsj i
          have e0 : (((i + 1 : Nat) : Int) - 1) = i := by omega
          go_wp2
          go_region
          go_wp2
          go_roundw
          case rel => exact ⟨i + 2, ys.set (i + 1) (ys[i + 1] + ys[i]), by omega, by omega, by go_num, intTo_step hT.out (by have := hT.out.1; omega) hly hly2, own_set hO.out _ _, (hB.setCell (by simpa using hg) _).drew⟩
          case measure => simp [intOf]; omega
        · have e := intTo_end hT.out (by have := hl.out; omega)
          rw [← HN.out] at e
          subst e
          rcases Bool.eq_false_or_eq_true (seqOk (intN xs (j + 1))) with hq | hq
          · have hcall := specIsSequence_any A1 c1 (intN xs (j + 1)) wr (own_rd hO.out) (by rw [HNl.out]; omega)
            rw [HNl.out, hq] at hcall
            have Hc := Lib.hid hcall
            have Hq := Lib.hid hq
            clear hcall hq hsj
            go_wp2_with fail
            refine Hc.out.mono ?_
            rintro e w2 ⟨rfl, rfl⟩
            go_wp2_with fail
            go_roundw
            case rel => exact ⟨j + 1, by omega, by have := Hqq.out; go_num, intOkTo_step hI.out Hq.out, hO.out, hB⟩
            case measure => simp [intOf]
          · have hcall := specIsSequence_any A1 c1 (intN xs (j + 1)) wr (own_rd hO.out) (by rw [HNl.out]; omega)
            rw [HNl.out, hq] at hcall
            have Hc := Lib.hid hcall
            have Hno : Hid (integrals xs n = ([], false)) := integrals_no (j := j + 1) (by omega) hq
            clear hcall hq hsj
            go_wp2_with fail
            refine Hc.out.mono ?_
            rintro e w2 ⟨rfl, rfl⟩
            go_wp2_with fail
            go_ret2
            exact ⟨none, 0, by rw [Hno.out]; rfl, by rw [Hno.out]; exact own_nil _ _, hB⟩
    · obtain rfl : j = n := by omega
      have hy := integrals_yes hn hI.out
      have hl := intN_length xs j
      have Hl := Lib.hid hl
      have HY := Lib.hid hy
      clear hl hy
      rw [Nat.sub_self]
      go_wp2_with fail
      go_ret2
      rw [HY.out]
      exact ⟨A1, c1, by show _ = Ending.returned (.tuple #[.slice A1 (intN xs j).length c1, .bool true]); rw [Hl.out]; rfl, O2, h2⟩
theorem specIntegralsOf_any (A : Option Addr) (c : Nat) (xs : List Int) (k : Int) (w : World) (hr : Rd w w.heap.size A xs) (hn : xs.length ≤ 1048576) :
    Calls Try.prog 77 #[.slice A xs.length c, .int .i64 k] w (RetLB w (integrals xs k)) := by
  rcases Bool.eq_false_or_eq_true (seqOk xs) with hs | hs
  · rcases Bool.eq_false_or_eq_true (inB k 0 6) with hk | hk
    · obtain ⟨k1, k2⟩ := inB_of hk
      obtain ⟨n, rfl⟩ : ∃ n : Nat, k = n := ⟨k.toNat, by omega⟩
      exact specInt_yes A c xs n w hr hs (by omega)
    · rw [integrals_noOrder hk]
      go_enter Try.func77, Try.ntmps77
      go_wp2_with (first | (go_at_call 60; refine (specIsSequence_any _ _ _ _ (by assumption) (by omega)).mono ?_; rintro e w' ⟨rfl, rfl⟩) | (go_at_call 70; refine (l1In_any _ _ _ _).mono ?_; rintro e w' ⟨rfl, rfl⟩))
      go_ret2
      exact ⟨none, 0, rfl, own_nil _ _, Below.refl _ _⟩
  · rw [integrals_noSeq hs]
    go_enter Try.func77, Try.ntmps77
    go_wp2_with (first | (go_at_call 60; refine (specIsSequence_any _ _ _ _ (by assumption) (by omega)).mono ?_; rintro e w' ⟨rfl, rfl⟩))
    go_ret2
    exact ⟨none, 0, rfl, own_nil _ _, Below.refl _ _⟩
end Go.Proofs.Ytfplecbacgcjgaa
