/- Contracts of the two Stuff and of the two SpreadComb. -/
import Derived.Test.YtfplecbacgcjgaaLists
import Derived.Test.YtfplecbacgcjgaaBase
import Derived.Test.YtfplecbacgcjgaaZeros
import Derived.IntWalk
namespace Go.Proofs.Ytfplecbacgcjgaa
open Go.RowKit
set_option linter.unusedVariables false
set_option linter.unusedSimpArgs false
set_option maxHeartbeats 600000 in
theorem implStuff_yes (A : Option Addr) (c : Nat) (xs : List Int) (r : Nat) (w : World) (hr : Rd w w.heap.size A xs) (hs : seqOk xs = true) (r1 : 1 ≤ r) (r2 : r ≤ 100) :
    Calls Try.prog 48 #[.slice A xs.length c, .int .i64 r] w (RetLB w (doneOf (stL xs r))) := by
  have hlx := seqOk_len hs
  have hrb : inB (r : Int) 1 100 = true := inB_true (by omega) (by omega)
  obtain ⟨M, hM⟩ : ∃ M, M = r * xs.length := ⟨_, rfl⟩
  have hMi : (r : Int) * (xs.length : Int) = (M : Int) := by rw [hM, Int.natCast_mul]
  have hMb : M ≤ 100000 := by rw [hM]; exact Nat.mul_le_mul r2 hlx
  have hmk := make_ints M (by omega)
  have s0 : IntKind.i64.wrap (M : Int) = (M : Int) := Go.IntWalk.i64_in _ (by omega)
  have HM := Lib.hid hM
  have Hc : Hid (∀ W ys, Own W w.heap.size (some ⟨w.heap.size, 0, none⟩) M ys → ys.length = M → Calls Try.prog 67 #[.slice (some ⟨w.heap.size, 0, none⟩) M M] W (RetDone W w.heap.size (doneOf ys))) := fun W ys hO hl => by
    have := asSequence_own (some ⟨w.heap.size, 0, none⟩) w.heap.size M ys W hO (by omega)
    rwa [hl] at this
  clear hM
  go_enter Try.func48, Try.ntmps48
  go_wp2_with (first | (go_at_call 55; refine (implIsSequence_any _ _ _ _ (by assumption) (by omega)).mono ?_; rintro e w' ⟨rfl, rfl⟩) | (go_at_call 68; refine (isRatio_any _ _).mono ?_; rintro e w' ⟨rfl, rfl⟩))
  go_loopw [24] (fun i wr => ∃ (k : Nat) (ys : List Int), k ≤ xs.length ∧ i = .int .i64 k ∧ Hid (StTo xs ys r k) ∧ Hid (Own wr w.heap.size (some ⟨w.heap.size, 0, none⟩) M ys) ∧ Hid (Below w.heap.size w wr)) (fun i _ => xs.length - (intOf i).toNat)
  case atStart => exact ⟨0, List.replicate M 0, by omega, rfl, by rw [HM.out]; exact stTo_zero xs r, own_made w _ (Nat.le_refl _) (by simp only [maxLen]; omega), (Below.refl _ _).alloc (Nat.le_refl _) _⟩
  case round =>
    obtain ⟨k, ys, hk, rfl, hT, hO, hB⟩ := hrel
    by_cases hlt : k < xs.length
    · obtain ⟨ad, rfl, hbl, hcell⟩ := hr.at_ hlt
      have hc1 : wr.cell? (ad.add k) = some (.int .i64 (xs.getD k 0)) := (hB.out.cell (by rw [block_add]; exact hbl)).trans (hcell k hlt)
      rw [getD_at hlt] at hc1
      obtain ⟨j, hj⟩ : ∃ j, j = k * r := ⟨_, rfl⟩
      have hji : (k : Int) * (r : Int) = (j : Int) := by rw [hj, Int.natCast_mul]
      have hyl : ys.length = M := by rw [hT.out.1, HM.out]
      have hjM : j < M := by
        rw [hj, HM.out, Nat.mul_comm]
        exact Nat.mul_lt_mul_of_pos_left hlt (by omega)
      have hjy : j < ys.length := by omega
      have hc2 := own_cell hO.out hjy
      have hf2 := own_frozen hO.out j
      have s1 : IntKind.i64.wrap (j : Int) = (j : Int) := Go.IntWalk.i64_in _ (by omega)
      have hst := stTo_step r1 hT.out hlt
      rw [← hj] at hst
      have HS := Lib.hid hst
      clear hr hcell hst hj hyl
      go_wp2
      go_roundw
      case rel => exact ⟨k + 1, ys.set j xs[k], by omega, by go_num, HS.out, own_set hO.out j _, hB.out.setCell (by simp) _⟩
      case measure => simp [intOf]; omega
    · obtain rfl : k = xs.length := by omega
      have hyl : ys.length = M := by rw [hT.out.1, HM.out]
      have e := stTo_end hT.out
      have Hq := Lib.hid (Hc.out wr ys hO.out hyl)
      have HE := Lib.hid e
      clear hyl e hlt hk
      go_wp2_with fail
      refine Hq.out.mono ?_
      rintro e w2 ⟨A2, c2, rfl, O2, rfl⟩
      go_wp2_with fail
      go_ret2
      rw [← HE.out]
      exact ⟨A2, c2, rfl, O2, hB.out⟩
theorem implStuff_any (A : Option Addr) (c : Nat) (xs : List Int) (r : Int) (w : World) (hr : Rd w w.heap.size A xs) (hn : xs.length ≤ 1048576) :
    Calls Try.prog 48 #[.slice A xs.length c, .int .i64 r] w (RetLB w (stuff xs r)) := by
  rcases Bool.eq_false_or_eq_true (seqOk xs) with hs | hs
  · rcases Bool.eq_false_or_eq_true (inB r 1 100) with hk | hk
    · obtain ⟨k1, k2⟩ := inB_of hk
      obtain ⟨n, rfl⟩ : ∃ n : Nat, r = n := ⟨r.toNat, by omega⟩
      rw [stuff_yes hs (by omega) (by omega)]
      exact implStuff_yes A c xs n w hr hs (by omega) (by omega)
    · rw [stuff_noR hk]
      go_enter Try.func48, Try.ntmps48
      go_wp2_with (first | (go_at_call 55; refine (implIsSequence_any _ _ _ _ (by assumption) (by omega)).mono ?_; rintro e w' ⟨rfl, rfl⟩) | (go_at_call 68; refine (isRatio_any _ _).mono ?_; rintro e w' ⟨rfl, rfl⟩))
      go_ret2
      exact ⟨none, 0, rfl, own_nil _ _, Below.refl _ _⟩
  · rw [stuff_noSeq hs]
    go_enter Try.func48, Try.ntmps48
    go_wp2_with (go_at_call 55; refine (implIsSequence_any _ _ _ _ (by assumption) (by omega)).mono ?_; rintro e w' ⟨rfl, rfl⟩)
    go_ret2
    exact ⟨none, 0, rfl, own_nil _ _, Below.refl _ _⟩
set_option maxHeartbeats 600000 in
theorem specStuff_yes (A : Option Addr) (c : Nat) (xs : List Int) (p : Nat) (w : World) (hr : Rd w w.heap.size A xs) (hs : seqOk xs = true) (r2 : p + 1 ≤ 100) :
    Calls Try.prog 76 #[.slice A xs.length c, .int .i64 ((p : Int) + 1)] w (RetLB w (doneOf (stL xs (p + 1)))) := by
  have hlx := seqOk_len hs
  have hrb : inB ((p : Int) + 1) 1 100 = true := inB_true (by omega) (by omega)
  have hmk := make_ints p (by omega)
  have hsl : ∀ k, k ≤ xs.length → (p + 1) * k ≤ 100000 := fun k hk => Nat.mul_le_mul r2 (show k ≤ 1000 by omega)
  have HSL := Lib.hid hsl
  have Hc : Hid (∀ W Aq cq ys n, Own W w.heap.size Aq cq ys → ys.length = n → n ≤ 100000 → Calls Try.prog 82 #[.slice Aq n cq] W (RetDone W w.heap.size (doneOf ys))) := fun W Aq cq ys n hO hl hn => by
    subst hl
    exact l1Done_own Aq w.heap.size cq ys W hO (by omega)
  clear hsl
  go_enter Try.func76, Try.ntmps76
  go_wp2_with (first | (go_at_call 60; refine (specIsSequence_any _ _ _ _ (by assumption) (by omega)).mono ?_; rintro e w' ⟨rfl, rfl⟩) | (go_at_call 70; refine (l1In_any _ _ _ _).mono ?_; rintro e w' ⟨rfl, rfl⟩))
  go_loopw [6, 20] (fun q i wr => ∃ (k n : Nat) (Aq : Option Addr) (cq : Nat), k ≤ xs.length ∧ i = .int .i64 k ∧ q = .slice Aq n cq ∧ Hid (n = (p + 1) * k) ∧ n ≤ 100000 ∧ Hid (Own wr w.heap.size Aq cq (lst n (stF (p + 1) (fnOf xs)))) ∧ Hid (Below w.heap.size w wr)) (fun _ i _ => xs.length - (intOf i).toNat)
  case atStart => exact ⟨0, 0, _, 0, by omega, rfl, rfl, rfl, by omega, own_empty w _ (Nat.le_refl _), (Below.refl _ _).alloc (Nat.le_refl _) _⟩
  case round =>
    obtain ⟨k, n, Aq, cq, hk, rfl, rfl, hn, hnb, hO, hB⟩ := hrel
    by_cases hlt : k < xs.length
    · obtain ⟨ad, rfl, hbl, hcell⟩ := hr.at_ hlt
      have hc1 : wr.cell? (ad.add k) = some (.int .i64 (xs.getD k 0)) := (hB.out.cell (by rw [block_add]; exact hbl)).trans (hcell k hlt)
      rw [getD_at hlt] at hc1
      have hln : Hid ((lst n (stF (p + 1) (fnOf xs))).length = n) := lst_length _ _
      have hblk := stF_block (f := fnOf xs) (r := p + 1) (k := k) (by omega)
      rw [fnOf_at hlt, ← hn.out, Nat.add_sub_cancel] at hblk
      have HBK := Lib.hid hblk
      have hn1 : (p + 1) * (k + 1) = n + 1 + p := by rw [Nat.mul_add, ← hn.out]; omega
      have HN1 := Lib.hid hn1
      have hnb1 : n + 1 + p ≤ 100000 := by rw [← hn1]; exact HSL.out _ (by omega)
      obtain ⟨x, hx⟩ : ∃ x, x = xs[k] := ⟨_, rfl⟩
      rw [← hx] at hc1 HBK
      clear hr hcell hblk hn1 hx
      go_wp2_with (at_builtin; refine app_new rfl (.tmp 24) (.tmp 26) rfl w.heap.size Aq cq n _ x hln.out rfl hO.out rfl (by omega) hB.out.size ?_)
      intro A1 c1 w1 O1 hw1 hm1
      have HB1 := Lib.hid (below_app hB.out hw1 hO.out hB.out.size)
      have l1 : Hid ((lst n (stF (p + 1) (fnOf xs)) ++ [x]).length = n + 1) := by show _ = _; rw [List.length_append, hln.out]; rfl
      have hj1 : 0 < (lst n (stF (p + 1) (fnOf xs)) ++ [x]).length := by rw [l1.out]; omega
      obtain ⟨g, rfl, _, _⟩ := own_head O1 hj1
      have O1' := Lib.hid O1
      have HB1' := HB1
      clear hw1 hm1 O1 hO hj1
      go_wp2_with (at_builtin; refine app_zeros rfl (.tmp 28) (.tmp 30) rfl w.heap.size g c1 (n + 1) _ l1.out rfl O1'.out p rfl (by omega) (by omega) HB1'.out.size ?_)
      intro A2 c2 w2 O2 hw2 hm2
      have HB2 := Lib.hid (below_app HB1'.out hw2 O1'.out HB1'.out.size)
      have HO2 := Lib.hid O2
      clear hw2 hm2 O2 O1' HB1 HB1'
      go_wp2
      go_roundw
      case rel => exact ⟨k + 1, n + 1 + p, A2, c2, by omega, by go_num, rfl, HN1.out.symm, hnb1, by have h2 := HO2.out; rw [← HN1.out, HBK.out, List.append_assoc]; exact h2, HB2.out⟩
      case measure => simp [intOf]; omega
    · obtain rfl : k = xs.length := by omega
      have e : lst n (stF (p + 1) (fnOf xs)) = stL xs (p + 1) := by unfold stL; rw [hn.out]
      have Hq := Lib.hid (Hc.out wr Aq cq _ n hO.out (lst_length _ _) hnb)
      have HE := Lib.hid e
      clear e hlt hk
      go_wp2_with fail
      refine Hq.out.mono ?_
      rintro e w2 ⟨A2, c2, rfl, O2, rfl⟩
      go_wp2_with fail
      go_ret2
      rw [← HE.out]
      exact ⟨A2, c2, rfl, O2, hB.out⟩
theorem specStuff_any (A : Option Addr) (c : Nat) (xs : List Int) (r : Int) (w : World) (hr : Rd w w.heap.size A xs) (hn : xs.length ≤ 1048576) :
    Calls Try.prog 76 #[.slice A xs.length c, .int .i64 r] w (RetLB w (stuff xs r)) := by
  rcases Bool.eq_false_or_eq_true (seqOk xs) with hs | hs
  · rcases Bool.eq_false_or_eq_true (inB r 1 100) with hk | hk
    · obtain ⟨k1, k2⟩ := inB_of hk
      obtain ⟨p, rfl⟩ : ∃ n : Nat, r = (n : Int) + 1 := ⟨(r - 1).toNat, by omega⟩
      have e : ((p : Int) + 1) = ((p + 1 : Nat) : Int) := by omega
      have h := specStuff_yes A c xs p w hr hs (by omega)
      have h2 := stuff_yes hs (show 1 ≤ p + 1 by omega) (by omega)
      rw [e, h2]
      rw [e] at h
      exact h
    · rw [stuff_noR hk]
      go_enter Try.func76, Try.ntmps76
      go_wp2_with (first | (go_at_call 60; refine (specIsSequence_any _ _ _ _ (by assumption) (by omega)).mono ?_; rintro e w' ⟨rfl, rfl⟩) | (go_at_call 70; refine (l1In_any _ _ _ _).mono ?_; rintro e w' ⟨rfl, rfl⟩))
      go_ret2
      exact ⟨none, 0, rfl, own_nil _ _, Below.refl _ _⟩
  · rw [stuff_noSeq hs]
    go_enter Try.func76, Try.ntmps76
    go_wp2_with (go_at_call 60; refine (specIsSequence_any _ _ _ _ (by assumption) (by omega)).mono ?_; rintro e w' ⟨rfl, rfl⟩)
    go_ret2
    exact ⟨none, 0, rfl, own_nil _ _, Below.refl _ _⟩
end Go.Proofs.Ytfplecbacgcjgaa
