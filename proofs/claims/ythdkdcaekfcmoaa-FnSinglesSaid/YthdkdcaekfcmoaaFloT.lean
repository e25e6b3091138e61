/- Contracts of the two ToSingles. (Printed by mkflo.py.) -/
import Derived.Test.YthdkdcaekfcmoaaFSl
namespace Go.Proofs.Ythdkdcaekfcmoaa
open Go.RowKit
set_option linter.unusedVariables false
set_option linter.unusedSimpArgs false
theorem isScale_any (x : Int) (w : World) :
    Calls Try.prog 24 #[.int .i64 x] w fun e w' => e = .returned (.bool (inB x 1 1099511627776)) ∧ w = w' := by
  go_enter Try.func24, Try.ntmps24
  go_wp2
  all_goals (go_ret; exact ⟨ret_bool (by simp [inB]; try omega), rfl⟩)
def quoB (v s : Int) : Nat := (floatBits .quo .f64 (floatOfInt .f64 v) (floatOfInt .f64 s)).getD 0
def sglB (v s : Int) : Nat := (floatToFloatBits .f64 (quoB v s) .f32).getD 0
def toSg (xs : List Int) (s : Int) : List Nat := if seqOk xs && inB s 1 1099511627776 then xs.map (sglB · s) else []
theorem toSg_yes {xs : List Int} {s : Int} (h : seqOk xs = true) (hs : inB s 1 1099511627776 = true) : toSg xs s = xs.map (sglB · s) := by unfold toSg; rw [h, hs]; rfl
theorem toSg_noSeq {xs : List Int} {s : Int} (h : seqOk xs = false) : toSg xs s = [] := by unfold toSg; rw [h]; rfl
theorem toSg_noScale {xs : List Int} {s : Int} (h : inB s 1 1099511627776 = false) : toSg xs s = [] := by unfold toSg; rw [h, Bool.and_false]; rfl
theorem toSg_le (xs : List Int) (s : Int) : (toSg xs s).length ≤ 1000 := by
  unfold toSg
  split
  · rename_i h
    rw [Bool.and_eq_true] at h
    rw [List.length_map]; exact seqOk_len h.1
  · simp
theorem sgl_all {v s : Int} (hv : -1099511627776 ≤ v ∧ v ≤ 1099511627776) (hs : 1 ≤ s ∧ s ≤ 1099511627776) :
    floatBits .quo .f64 (floatOfInt .f64 v) (floatOfInt .f64 s) = some (quoB v s) ∧ floatToFloatBits .f64 (quoB v s) .f32 = some (sglB v s) := by
  have e40 : ((1099511627776 : Int) : Rat) = 1099511627776 := rfl
  have e40n : ((-1099511627776 : Int) : Rat) = -1099511627776 := rfl
  obtain ⟨r, r2, z2, h1, h2, _⟩ := Flo.sgl_near (v := v) (s := s) (M := 1099511627776) (by decide) (by decide) (by have := Rat.intCast_le_intCast.2 hv.1; rw [e40n] at this; exact this) (by have := Rat.intCast_le_intCast.2 hv.2; rw [e40] at this; exact this) hs
  have e1 : quoB v s = r := by unfold quoB; rw [h1]; rfl
  refine ⟨by rw [e1]; exact h1, ?_⟩
  unfold sglB
  rw [e1, h2]; rfl

set_option maxHeartbeats 2000000 in
theorem specToS_any (A : Option Addr) (c : Nat) (xs : List Int) (s : Int) (w : World) (hr : Rd w w.heap.size A xs) (hn : xs.length ≤ 1048576) :
    Calls Try.prog 11 #[.slice A xs.length c, .int .i64 s] w (RetF w (toSg xs s)) := by
  have hrA := hr.past ((Below.refl w.heap.size w).alloc (Nat.le_refl _) (.cells #[] 31))
  rcases Bool.eq_false_or_eq_true (seqOk xs) with hs | hs
  · rcases Bool.eq_false_or_eq_true (inB s 1 1099511627776) with hk | hk
    · have hlx := seqOk_len hs
      have hsb := inB_of hk
      rw [toSg_yes hs hk]
      have HRl : Hid ((xs.map (sglB · s)).length = xs.length) := List.length_map _
      have HRv : Hid (∀ k (h : k < (xs.map (sglB · s)).length) (h' : k < xs.length), (xs.map (sglB · s))[k] = sglB xs[k] s) := fun k h h' => by simp
      obtain ⟨R, hR⟩ : ∃ R, R = xs.map (sglB · s) := ⟨_, rfl⟩
      rw [← hR] at HRl HRv ⊢
      clear hR
      go_enter Try.func11, Try.ntmps11
      go_wp2_with (first | (go_at_call 25; refine (specIsSequence_any _ _ _ _ (by assumption) (by omega)).mono ?_; rintro e w' ⟨rfl, rfl⟩) | (go_at_call 26; refine (l1In_any _ _ _ _).mono ?_; rintro e w' ⟨rfl, rfl⟩))
      go_loopw [5, 19] (fun q i wr => ∃ (k : Nat) (Aq : Option Addr) (cq : Nat), k ≤ xs.length ∧ i = .int .i64 k ∧ q = .slice Aq k cq ∧ OwnF wr w.heap.size Aq cq (R.take k) ∧ Below w.heap.size w wr) (fun _ i _ => xs.length - (intOf i).toNat)
      case atStart => exact ⟨0, _, 0, by omega, rfl, rfl, ownF_empty w _ (Nat.le_refl _), (Below.refl _ _).alloc (Nat.le_refl _) _⟩
      case round =>
        obtain ⟨k, Aq, cq, hk', rfl, rfl, hown, hb⟩ := hrel
        by_cases hlt : k < xs.length
        · obtain ⟨ad, rfl, hbl, hcell⟩ := hr.at_ hlt
          have hc1 : wr.cell? (ad.add k) = some (.int .i64 (xs.getD k 0)) := (hb.cell (by rw [block_add]; exact hbl)).trans (hcell k hlt)
          rw [getD_at hlt] at hc1
          have hkR : k < R.length := by rw [HRl.out]; exact hlt
          have hv := HRv.out k hkR hlt
          have bx := seqOk_at hs hlt
          obtain ⟨x, hx⟩ : ∃ x, x = xs[k] := ⟨_, rfl⟩
          rw [← hx] at hc1 bx hv
          obtain ⟨g1, g2⟩ := sgl_all bx hsb
          have c1 := run_convert_int_float (P := Try.prog) (w := wr) 3 45 .i64 .f64 x (by rw [Try.underlying3]; rfl) Try.underlying45
          have c2 := run_convert_int_float (P := Try.prog) (w := wr) 3 45 .i64 .f64 s (by rw [Try.underlying3]; rfl) Try.underlying45
          have c3 := run_float_arith (P := Try.prog) wr .quo 45 .f64 _ _ _ g1
          have c4 := run_convert_float_float (P := Try.prog) wr 45 31 .f64 .f32 _ _ (by rw [Try.underlying45]; rfl) Try.underlying31 g2
          obtain ⟨fx, hfx⟩ : ∃ f, f = floatOfInt .f64 x := ⟨_, rfl⟩
          obtain ⟨fs, hfs⟩ : ∃ f, f = floatOfInt .f64 s := ⟨_, rfl⟩
          obtain ⟨qb, hqb⟩ : ∃ f, f = quoB x s := ⟨_, rfl⟩
          obtain ⟨sb, hsb⟩ : ∃ f, f = sglB x s := ⟨_, rfl⟩
          rw [← hfx] at c1 c3
          rw [← hfs] at c2 c3
          rw [← hqb] at c3 c4
          rw [← hsb] at c4 hv
          have Hv := Lib.hid hv
          clear hv hx hcell hr g1 g2 hfx hfs hqb hsb
          go_wp2_with (at_builtin; refine appF_take rfl (.tmp 23) (.tmp 30) rfl w.heap.size Aq cq k R _ hkR ?_ rfl hown rfl (by omega) hb.size ?_)
          · exact Hv.out
          intro A1 c1' w1 hown1 hw1 hm1
          go_wp2
          go_roundw
          case rel => exact ⟨k + 1, A1, c1', by omega, by go_num, rfl, hown1, hb.trans (below_wrote hw1 hb.size (ownF_lo hown))⟩
          case measure => simp [intOf]; omega
        · obtain rfl : k = xs.length := by omega
          have hO := hown
          rw [List.take_of_length_le (by rw [HRl.out]; omega)] at hO
          have HO := Lib.hid hO
          clear hO hown
          go_wp2_with fail
          go_ret
          exact ⟨Aq, cq, by rw [HRl.out]; rfl, HO.out, hb⟩
    · rw [toSg_noScale hk]
      go_enter Try.func11, Try.ntmps11
      go_wp2_with (first | (go_at_call 25; refine (specIsSequence_any _ _ _ _ (by assumption) (by omega)).mono ?_; rintro e w' ⟨rfl, rfl⟩) | (go_at_call 26; refine (l1In_any _ _ _ _).mono ?_; rintro e w' ⟨rfl, rfl⟩))
      go_ret
      first
        | exact ⟨none, 0, rfl, ownF_nil _ _, Below.refl _ _⟩
        | exact ⟨_, 0, rfl, ownF_empty w _ (Nat.le_refl _), (Below.refl _ _).alloc (Nat.le_refl _) _⟩
  · rw [toSg_noSeq hs]
    go_enter Try.func11, Try.ntmps11
    go_wp2_with (first | (go_at_call 25; refine (specIsSequence_any _ _ _ _ (by assumption) (by omega)).mono ?_; rintro e w' ⟨rfl, rfl⟩))
    go_ret
    first
      | exact ⟨none, 0, rfl, ownF_nil _ _, Below.refl _ _⟩
      | exact ⟨_, 0, rfl, ownF_empty w _ (Nat.le_refl _), (Below.refl _ _).alloc (Nat.le_refl _) _⟩

set_option maxHeartbeats 2000000 in
theorem implToS_any (A : Option Addr) (c : Nat) (xs : List Int) (s : Int) (w : World) (hr : Rd w w.heap.size A xs) (hn : xs.length ≤ 1048576) :
    Calls Try.prog 8 #[.slice A xs.length c, .int .i64 s] w (RetF w (toSg xs s)) := by
  have hrA := hr.past ((Below.refl w.heap.size w).alloc (Nat.le_refl _) (.cells #[] 31))
  rcases Bool.eq_false_or_eq_true (seqOk xs) with hs | hs
  · rcases Bool.eq_false_or_eq_true (inB s 1 1099511627776) with hk | hk
    · have hlx := seqOk_len hs
      have hsb := inB_of hk
      rw [toSg_yes hs hk]
      have HRl : Hid ((xs.map (sglB · s)).length = xs.length) := List.length_map _
      have HRv : Hid (∀ k (h : k < (xs.map (sglB · s)).length) (h' : k < xs.length), (xs.map (sglB · s))[k] = sglB xs[k] s) := fun k h h' => by simp
      obtain ⟨R, hR⟩ : ∃ R, R = xs.map (sglB · s) := ⟨_, rfl⟩
      rw [← hR] at HRl HRv ⊢
      clear hR
      go_enter Try.func8, Try.ntmps8
      go_wp2_with (first | (go_at_call 23; refine (implIsSequence_any _ _ _ _ (by assumption) (by omega)).mono ?_; rintro e w' ⟨rfl, rfl⟩) | (go_at_call 24; refine (isScale_any _ _).mono ?_; rintro e w' ⟨rfl, rfl⟩))
      go_loopw [5, 20] (fun q i wr => ∃ (k : Nat) (Aq : Option Addr) (cq : Nat), k ≤ xs.length ∧ i = .int .i64 k ∧ q = .slice Aq k cq ∧ OwnF wr w.heap.size Aq cq (R.take k) ∧ Below w.heap.size w wr) (fun _ i _ => xs.length - (intOf i).toNat)
      case atStart => exact ⟨0, _, 0, by omega, rfl, rfl, ownF_empty w _ (Nat.le_refl _), (Below.refl _ _).alloc (Nat.le_refl _) _⟩
      case round =>
        obtain ⟨k, Aq, cq, hk', rfl, rfl, hown, hb⟩ := hrel
        by_cases hlt : k < xs.length
        · obtain ⟨ad, rfl, hbl, hcell⟩ := hr.at_ hlt
          have hc1 : wr.cell? (ad.add k) = some (.int .i64 (xs.getD k 0)) := (hb.cell (by rw [block_add]; exact hbl)).trans (hcell k hlt)
          rw [getD_at hlt] at hc1
          have hkR : k < R.length := by rw [HRl.out]; exact hlt
          have hv := HRv.out k hkR hlt
          have bx := seqOk_at hs hlt
          obtain ⟨x, hx⟩ : ∃ x, x = xs[k] := ⟨_, rfl⟩
          rw [← hx] at hc1 bx hv
          obtain ⟨g1, g2⟩ := sgl_all bx hsb
          have c1 := run_convert_int_float (P := Try.prog) (w := wr) 3 45 .i64 .f64 x (by rw [Try.underlying3]; rfl) Try.underlying45
          have c2 := run_convert_int_float (P := Try.prog) (w := wr) 3 45 .i64 .f64 s (by rw [Try.underlying3]; rfl) Try.underlying45
          have c3 := run_float_arith (P := Try.prog) wr .quo 45 .f64 _ _ _ g1
          have c4 := run_convert_float_float (P := Try.prog) wr 45 31 .f64 .f32 _ _ (by rw [Try.underlying45]; rfl) Try.underlying31 g2
          obtain ⟨fx, hfx⟩ : ∃ f, f = floatOfInt .f64 x := ⟨_, rfl⟩
          obtain ⟨fs, hfs⟩ : ∃ f, f = floatOfInt .f64 s := ⟨_, rfl⟩
          obtain ⟨qb, hqb⟩ : ∃ f, f = quoB x s := ⟨_, rfl⟩
          obtain ⟨sb, hsb⟩ : ∃ f, f = sglB x s := ⟨_, rfl⟩
          rw [← hfx] at c1 c3
          rw [← hfs] at c2 c3
          rw [← hqb] at c3 c4
          rw [← hsb] at c4 hv
          have Hv := Lib.hid hv
          clear hv hx hcell hr g1 g2 hfx hfs hqb hsb
          go_wp2_with (at_builtin; refine appF_take rfl (.tmp 24) (.tmp 31) rfl w.heap.size Aq cq k R _ hkR ?_ rfl hown rfl (by omega) hb.size ?_)
          · exact Hv.out
          intro A1 c1' w1 hown1 hw1 hm1
          go_wp2
          go_roundw
          case rel => exact ⟨k + 1, A1, c1', by omega, by go_num, rfl, hown1, hb.trans (below_wrote hw1 hb.size (ownF_lo hown))⟩
          case measure => simp [intOf]; omega
        · obtain rfl : k = xs.length := by omega
          have hO := hown
          rw [List.take_of_length_le (by rw [HRl.out]; omega)] at hO
          have HO := Lib.hid hO
          clear hO hown
          go_wp2_with fail
          go_ret
          exact ⟨Aq, cq, by rw [HRl.out]; rfl, HO.out, hb⟩
    · rw [toSg_noScale hk]
      go_enter Try.func8, Try.ntmps8
      go_wp2_with (first | (go_at_call 23; refine (implIsSequence_any _ _ _ _ (by assumption) (by omega)).mono ?_; rintro e w' ⟨rfl, rfl⟩) | (go_at_call 24; refine (isScale_any _ _).mono ?_; rintro e w' ⟨rfl, rfl⟩))
      go_ret
      first
        | exact ⟨none, 0, rfl, ownF_nil _ _, Below.refl _ _⟩
        | exact ⟨_, 0, rfl, ownF_empty w _ (Nat.le_refl _), (Below.refl _ _).alloc (Nat.le_refl _) _⟩
  · rw [toSg_noSeq hs]
    go_enter Try.func8, Try.ntmps8
    go_wp2_with (first | (go_at_call 23; refine (implIsSequence_any _ _ _ _ (by assumption) (by omega)).mono ?_; rintro e w' ⟨rfl, rfl⟩))
    go_ret
    first
      | exact ⟨none, 0, rfl, ownF_nil _ _, Below.refl _ _⟩
      | exact ⟨_, 0, rfl, ownF_empty w _ (Nat.le_refl _), (Below.refl _ _).alloc (Nat.le_refl _) _⟩

end Go.Proofs.Ythdkdcaekfcmoaa
