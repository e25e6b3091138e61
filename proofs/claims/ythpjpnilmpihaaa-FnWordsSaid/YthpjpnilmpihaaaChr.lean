/- Contracts of common and l4Gcd, of l4Word, and of the two ChristoffelWord. -/
import Derived.Test.YthpjpnilmpihaaaMech
import Derived.Test.YthpjpnilmpihaaaPChr
import Derived.Test.YthpjpnilmpihaaaSmall
import Derived.Deep.RegionLaw
import Derived.IntWalk
import Derived.BigQuiet
namespace Go.Proofs.Ythpjpnilmpihaaa
open Go.RowKit
set_option linter.unusedVariables false
set_option linter.unusedSimpArgs false
theorem gcd_step (a b : Nat) : Nat.gcd b (a % b) = Nat.gcd a b := by rw [Nat.gcd_comm a b, Nat.gcd_rec b a, Nat.gcd_comm]
theorem tmod_nat (a b : Nat) (hb : 0 < b) : (a : Int).tmod (b : Int) = ((a % b : Nat) : Int) := by rw [Int.tmod_eq_emod_of_nonneg (by omega)]; rfl
theorem common_any (a b : Nat) (w : World) (ha : a ≤ 1048576) (hb : b ≤ 1048576) :
    Calls Try.prog 51 #[.int .i64 a, .int .i64 b] w fun e w' => e = .returned (.int .i64 (Nat.gcd a b : Nat)) ∧ ∃ m, w' = w.drewN m := by
  go_enter Try.func51, Try.ntmps51
  go_wp2
  go_loopw [0, 1] (fun x y wr => ∃ u v : Nat, x = .int .i64 u ∧ y = .int .i64 v ∧ u ≤ 1048576 ∧ v ≤ 1048576 ∧ Hid (Nat.gcd u v = Nat.gcd a b) ∧ Hid (∃ m, wr = w.drewN m)) (fun _ y _ => (intOf y).toNat)
  case atStart => exact ⟨a, b, rfl, rfl, ha, hb, rfl, 0, rfl⟩
  case round =>
    obtain ⟨u, v, rfl, rfl, hu, hv, hg, hd⟩ := hrel
    by_cases hz : v = 0
    · subst hz
      go_wp2
      go_ret
      have hg3 : u = Nat.gcd a b := by rw [← hg.out, Nat.gcd_zero_right]
      exact ⟨ret_int (by rw [hg3]), hd.out⟩
    · have hm := Nat.mod_lt u (show v > 0 by omega)
      have hg2 := Lib.hid ((gcd_step u v).trans hg.out)
      obtain ⟨r, hr⟩ : ∃ r, r = u % v := ⟨_, rfl⟩
      have e1 := tmod_nat u v (by omega)
      rw [← hr] at hm e1 hg2
      have hz' : (v : Int) ≠ 0 := by omega
      have e2 : IntKind.i64.wrap (r : Int) = r := Go.IntWalk.i64_in _ (by omega)
      have t0 : ((v : Int) != 0) = true := by simpa using hz
      clear hr hg hz
      go_wp2
      go_quiet (fail)
      go_wp2
      go_roundw
      case rel => exact ⟨v, r, rfl, rfl, hv, by omega, hg2.out, by obtain ⟨n, rfl⟩ := hd.out; exact ⟨_, World.drewN_drewN ..⟩⟩
      case measure => simp [intOf]; omega
theorem l4Gcd_any (a b : Nat) (w : World) (ha : a ≤ 1048576) (hb : b ≤ 1048576) :
    Calls Try.prog 50 #[.int .i64 a, .int .i64 b] w fun e w' => e = .returned (.int .i64 (Nat.gcd a b : Nat)) ∧ w = w' := by
  go_enter Try.func50, Try.ntmps50
  go_wp2
  go_loop [0, 1] (fun x y => ∃ u v : Nat, x = .int .i64 u ∧ y = .int .i64 v ∧ u ≤ 1048576 ∧ v ≤ 1048576 ∧ Hid (Nat.gcd u v = Nat.gcd a b)) (fun _ y => (intOf y).toNat)
  case atStart => exact ⟨a, b, rfl, rfl, ha, hb, rfl⟩
  case round =>
    obtain ⟨u, v, rfl, rfl, hu, hv, hg⟩ := hrel
    by_cases hz : v = 0
    · subst hz
      go_wp2
      go_ret
      have hg3 : u = Nat.gcd a b := by rw [← hg.out, Nat.gcd_zero_right]
      exact ⟨ret_int (by rw [hg3]), rfl⟩
    · have hm := Nat.mod_lt u (show v > 0 by omega)
      have hg2 := Lib.hid ((gcd_step u v).trans hg.out)
      obtain ⟨r, hr⟩ : ∃ r, r = u % v := ⟨_, rfl⟩
      have e1 := tmod_nat u v (by omega)
      rw [← hr] at hm e1 hg2
      have hz' : (v : Int) ≠ 0 := by omega
      have e2 : IntKind.i64.wrap (r : Int) = r := Go.IntWalk.i64_in _ (by omega)
      have t0 : ((v : Int) != 0) = true := by simpa using hz
      clear hr hg hz
      go_wp2
      go_round
      case rel => exact ⟨v, r, rfl, rfl, hv, by omega, hg2.out⟩
      case measure => simp [intOf]; omega
def RetWd (p q f : Int) (n : Nat) (w : World) (e : Ending) (w' : World) : Prop := ∃ A c, e = .returned (.slice A n c) ∧ Own w' w.heap.size A c (mech p q f n) ∧ Below w.heap.size w w'
set_option maxHeartbeats 2000000 in
theorem l4Word_yes (p q f : Int) (n : Nat) (w : World) (hq : 1 ≤ q) (hq2 : q ≤ 500) (h0 : 0 ≤ p) (h1 : p ≤ q) (f0 : 0 ≤ f) (f1 : f < q) (hn : n ≤ 1000) :
    Calls Try.prog 47 #[.int .i64 p, .int .i64 q, .int .i64 f, .int .i64 n] w (RetWd p q f n w) := by
  obtain ⟨R, hR⟩ : ∃ R, R = mech p q f n := ⟨_, rfl⟩
  have HRl : Hid (R.length = n) := by show _ = _; rw [hR, mech_length]
  have HRv : Hid (∀ k (h : k < R.length), R[k] = flo p q f (k + 1) - flo p q f k) := fun k h => by subst hR; exact lst_get _ h
  have HR : Hid (R = mech p q f n) := hR
  clear hR
  go_enter Try.func47, Try.ntmps47
  go_wp2
  go_loopw [9, 10] (fun q' i wr => ∃ (k : Nat) (Aq : Option Addr) (cq : Nat), k ≤ n ∧ i = .int .i64 k ∧ q' = .slice Aq k cq ∧ Hid (Own wr w.heap.size Aq cq (R.take k)) ∧ Hid (Below w.heap.size w wr)) (fun _ i _ => n - (intOf i).toNat)
  case atStart => exact ⟨0, _, 0, by omega, rfl, rfl, own_empty w _ (Nat.le_refl _), (Below.refl _ _).alloc (Nat.le_refl _) _⟩
  case round =>
    obtain ⟨k, Aq, cq, hk, rfl, rfl, hown, hb⟩ := hrel
    by_cases hlt : k < n
    · have hkR : k < R.length := by rw [HRl.out]; exact hlt
      have b1 := flo_bd hq hq2 h0 h1 f0 f1 k (by omega)
      have b2 := flo_bd hq hq2 h0 h1 f0 f1 (k + 1) (by omega)
      have eu : ((k + 1 : Nat) : Int) * p = (k : Int) * p + p := by rw [Int.natCast_add, Int.add_mul]; simp
      have ev : ((k : Int) + 1) * p = (k : Int) * p + p := by rw [Int.add_mul]; simp
      have hv := HRv.out k hkR
      have e1 : R.take (k + 1) = R.take k ++ [((k : Int) * p + p + f) / q - ((k : Int) * p + f) / q] := by
        rw [List.take_succ_eq_append_getElem hkR, hv]
        unfold flo
        rw [eu]
      unfold flo at b1 b2
      rw [eu] at b2
      obtain ⟨t, ht⟩ : ∃ t, t = (k : Int) * p := ⟨_, rfl⟩
      rw [← ht] at b1 b2 e1 ev
      have E1 := Lib.hid e1
      have hlk : Hid ((R.take k).length = k) := by show _ = _; rw [List.length_take]; omega
      have q1 := Go.IntWalk.i64_quo (t + p + f) q (by omega)
      have q2 := Go.IntWalk.i64_quo (t + f) q (by omega)
      have d1 : (t + p + f).tdiv q = (t + p + f) / q := Int.tdiv_eq_ediv_of_nonneg (by omega)
      have d2 : (t + f).tdiv q = (t + f) / q := Int.tdiv_eq_ediv_of_nonneg (by omega)
      have s0 : IntKind.i64.wrap ((k : Int) + 1) = (k : Int) + 1 := Go.IntWalk.i64_in _ (by omega)
      have s1 : IntKind.i64.wrap (t + p) = t + p := Go.IntWalk.i64_in _ (by omega)
      have s2 : IntKind.i64.wrap (t + p + f) = t + p + f := Go.IntWalk.i64_in _ (by omega)
      have s3 : IntKind.i64.wrap t = t := Go.IntWalk.i64_in _ (by omega)
      have s4 : IntKind.i64.wrap (t + f) = t + f := Go.IntWalk.i64_in _ (by omega)
      have s5 : IntKind.i64.wrap ((t + p + f) / q - (t + f) / q) = (t + p + f) / q - (t + f) / q := Go.IntWalk.i64_in _ (by omega)
      have s6 : IntKind.i64.wrap ((t + p + f) / q) = (t + p + f) / q := Go.IntWalk.i64_in _ (by omega)
      have s7 : IntKind.i64.wrap ((t + f) / q) = (t + f) / q := Go.IntWalk.i64_in _ (by omega)
      have et : (k : Int) * p = t := ht.symm
      have hqz : q ≠ 0 := by omega
      have hbX : Below wr.heap.size wr (wr.alloc (.cells #[.int .i64 ((t + p + f) / q - (t + f) / q)] 3)).drew := ((Below.refl _ _).alloc (Nat.le_refl _) _).drew
      clear ht hv eu e1
      go_wp2
      go_region_law
        ((refine step_app (by rfl) (.tmp 17) (.tmp 34) (by rfl) w.heap.size Aq cq k (R.take k) hlk.out (by rfl) (own_past hown.out hbX) wr.heap.size ((t + p + f) / q - (t + f) / q) (by rfl) (by simp) (by omega) (by have := hb.out.size; simp; omega) ?_; intro A5 c5 w5 O5 hw5 mv5))
      all_goals
        have O6 : Hid (Own w5 w.heap.size A5 c5 (R.take (k + 1))) := by rw [E1.out]; exact O5
        have hb6 := Lib.hid (below_app (hb.out.trans (hbX.mono hb.out.size)) hw5 (own_past hown.out hbX) (by have := hb.out.size; simp; omega))
        clear O5 hw5 mv5 hbX q1 q2 d1 d2 s0 s1 s2 s3 s4 s5 s6 s7 et ev
        go_wp2
        go_roundw
        case rel => exact ⟨k + 1, A5, c5, by omega, by go_num, rfl, O6.out, hb6.out⟩
        case measure => simp [intOf]; omega
    · obtain rfl : k = n := by omega
      have hO := hown.out
      rw [List.take_of_length_le (by rw [HRl.out]; omega)] at hO
      go_wp2
      go_ret
      refine ⟨Aq, cq, rfl, ?_, hb.out⟩
      rw [← HR.out]
      exact hO
/-- The word of a fraction that is in lowest terms. -/
def chrOk (p q : Int) : Bool := shareB p q && decide (Nat.gcd p.toNat q.toNat = 1)
def chr (p q : Int) : List Int × Bool := if chrOk p q then (christ p.toNat q.toNat, true) else ([], false)
theorem chr_no {p q : Int} (h : chrOk p q = false) : chr p q = ([], false) := by simp [chr, h]
theorem share_parts {p q : Int} (h : shareB p q = true) : 1 ≤ q ∧ q ≤ 500 ∧ 0 ≤ p ∧ p ≤ q := by
  simp [shareB, inB] at h; omega
theorem chr_yes {p q : Nat} (h : chrOk p q = true) : chr p q = (christ p q, true) := by simp [chr, h]
theorem chr_len (p q : Int) : (chr p q).1.length ≤ 500 := by
  unfold chr
  split
  · rename_i h
    simp only [chrOk, Bool.and_eq_true] at h
    have := share_parts h.1
    simp only [christ_length]; omega
  · simp
theorem implChrist_any (p q : Int) (w : World) : Calls Try.prog 29 #[.int .i64 p, .int .i64 q] w (RetLB w (chr p q)) := by
  rcases Bool.eq_false_or_eq_true (shareB p q) with hs | hs
  · obtain ⟨q1, q2, p1, p2⟩ := share_parts hs
    obtain ⟨p, rfl⟩ : ∃ n : Nat, p = n := ⟨p.toNat, by omega⟩
    obtain ⟨q, rfl⟩ : ∃ n : Nat, q = n := ⟨q.toNat, by omega⟩
    by_cases hg : Nat.gcd p q = 1
    · have hc : chrOk p q = true := by simp [chrOk, hs, hg]
      rw [chr_yes hc]
      have t0 : ((Nat.gcd p q : Int) != 1) = false := by simp [hg]
      go_enter Try.func29, Try.ntmps29
      go_wp2_with fail
      refine (isShare_any _ _ _).mono ?_; rintro e w' ⟨rfl, rfl⟩
      go_wp2_with fail
      refine (common_any p q _ (by omega) (by omega)).mono ?_; rintro e w' ⟨rfl, m, rfl⟩
      go_wp2_with fail
      refine (implMech_yes p q 0 q _ (by omega) (by omega) (by omega) (by omega) (by omega) (by omega) (by omega)).mono ?_; rintro e w' ⟨A, c, rfl, O, hb⟩
      go_wp2_with fail
      go_ret2
      exact ⟨A, c, by rw [christ_length]; rfl, O, (below_drewN' (Below.refl _ _) _).trans hb⟩
    · have hc : chrOk p q = false := by simp [chrOk, hg]
      rw [chr_no hc]
      have t0 : ((Nat.gcd p q : Int) != 1) = true := by simp; omega
      go_enter Try.func29, Try.ntmps29
      go_wp2_with fail
      refine (isShare_any _ _ _).mono ?_; rintro e w' ⟨rfl, rfl⟩
      go_wp2_with fail
      refine (common_any p q _ (by omega) (by omega)).mono ?_; rintro e w' ⟨rfl, m, rfl⟩
      go_wp2_with fail
      go_ret2
      exact ⟨none, 0, rfl, own_nil _ _, below_drewN' (Below.refl _ _) _⟩
  · have hc : chrOk p q = false := by simp [chrOk, hs]
    rw [chr_no hc]
    go_enter Try.func29, Try.ntmps29
    go_wp2_with fail
    refine (isShare_any _ _ _).mono ?_; rintro e w' ⟨rfl, rfl⟩
    go_wp2_with fail
    go_ret2
    exact ⟨none, 0, rfl, own_nil _ _, Below.refl _ _⟩
theorem specChrist_any (p q : Int) (w : World) : Calls Try.prog 30 #[.int .i64 p, .int .i64 q] w (RetLB w (chr p q)) := by
  rcases Bool.eq_false_or_eq_true (shareB p q) with hs | hs
  · obtain ⟨q1, q2, p1, p2⟩ := share_parts hs
    obtain ⟨p, rfl⟩ : ∃ n : Nat, p = n := ⟨p.toNat, by omega⟩
    obtain ⟨q, rfl⟩ : ∃ n : Nat, q = n := ⟨q.toNat, by omega⟩
    have i1 : inB (q : Int) 1 500 = true := inB_true q1 q2
    have i2 : inB (p : Int) 0 q = true := inB_true p1 p2
    have hg0 : 0 < Nat.gcd p q := Nat.gcd_pos_of_pos_right _ (by omega)
    by_cases hg : Nat.gcd p q = 1
    · have hc : chrOk p q = true := by simp [chrOk, hs, hg]
      rw [chr_yes hc]
      have t0 : decide ((1 : Int) < (Nat.gcd p q : Int)) = false := by simp [hg]
      go_enter Try.func30, Try.ntmps30
      go_wp2_with fail
      refine (l1In_any _ _ _ _).mono ?_; rintro e w' ⟨rfl, rfl⟩
      go_wp2_with fail
      refine (l1In_any _ _ _ _).mono ?_; rintro e w' ⟨rfl, rfl⟩
      go_wp2_with fail
      refine (l4Gcd_any p q _ (by omega) (by omega)).mono ?_; rintro e w' ⟨rfl, rfl⟩
      go_wp2_with fail
      refine (l4Word_yes p q 0 q _ (by omega) (by omega) (by omega) (by omega) (by omega) (by omega) (by omega)).mono ?_; rintro e w' ⟨A, c, rfl, O, hb⟩
      go_wp2_with fail
      go_ret2
      exact ⟨A, c, by rw [christ_length]; rfl, O, hb⟩
    · have hc : chrOk p q = false := by simp [chrOk, hg]
      rw [chr_no hc]
      have t0 : decide ((1 : Int) < (Nat.gcd p q : Int)) = true := by simp; omega
      go_enter Try.func30, Try.ntmps30
      go_wp2_with fail
      refine (l1In_any _ _ _ _).mono ?_; rintro e w' ⟨rfl, rfl⟩
      go_wp2_with fail
      refine (l1In_any _ _ _ _).mono ?_; rintro e w' ⟨rfl, rfl⟩
      go_wp2_with fail
      refine (l4Gcd_any p q _ (by omega) (by omega)).mono ?_; rintro e w' ⟨rfl, rfl⟩
      go_wp2_with fail
      go_ret2
      exact ⟨none, 0, rfl, own_nil _ _, Below.refl _ _⟩
  · have hc : chrOk p q = false := by simp [chrOk, hs]
    rw [chr_no hc]
    go_enter Try.func30, Try.ntmps30
    go_wp2_with fail
    refine (l1In_any _ _ _ _).mono ?_; rintro e w' ⟨rfl, rfl⟩
    rcases Bool.eq_false_or_eq_true (inB q 1 500) with h1 | h1
    · have h2 : inB p 0 q = false := by simpa [shareB, h1] using hs
      go_wp2_with fail
      refine (l1In_any _ _ _ _).mono ?_; rintro e w' ⟨rfl, rfl⟩
      go_wp2_with fail
      go_ret2
      exact ⟨none, 0, rfl, own_nil _ _, Below.refl _ _⟩
    · go_wp2_with fail
      go_ret2
      exact ⟨none, 0, rfl, own_nil _ _, Below.refl _ _⟩
end Go.Proofs.Ythpjpnilmpihaaa
