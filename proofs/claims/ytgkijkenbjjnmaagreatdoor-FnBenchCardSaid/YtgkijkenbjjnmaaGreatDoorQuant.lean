/- Contracts of the program's quantiser. -/
import Derived.Test.YtgkijkenbjjnmaaGreatDoorPMod
import Derived.Test.YtgkijkenbjjnmaaGreatDoorBase
import Derived.Deep.RegionHeld3
import Derived.IntWalk
namespace Go.Proofs.YtgkijkenbjjnmaaGreatDoor
open Go.RowKit
set_option linter.unusedVariables false
set_option linter.unusedSimpArgs false
theorem isLoud_no (v : Int) (w : World) (h1 : -1152921504606846976 ≤ v) (h2 : v ≤ 1152921504606846976) :
    Calls Tryz.prog 147 #[.int .i64 v] w fun e w' => e = .returned (.bool false) ∧ w = w' := by
  go_enter Tryz.func147, Tryz.ntmps147
  go_wp2
  all_goals (go_ret; exact ⟨ret_bool (by simp; omega), rfl⟩)
theorem implIsQuantiser_any (l s : Int) (w : World) :
    Calls Tryz.prog 102 #[.agg #[.int .i64 l, .int .i64 s]] w fun e w' => e = .returned (.bool (quantOk l s)) ∧ Below w.heap.size w w' := by
  go_enter Tryz.func102, Tryz.ntmps102
  go_wp2
  all_goals (go_ret; exact ⟨ret_bool (by simp [quantOk, inB, *]; try omega), (Below.refl _ _).alloc (Nat.le_refl _) _⟩)
set_option maxHeartbeats 1000000 in
theorem implIndexOf_yes (l s v : Int) (w : World) (hq : quantOk l s = true) (h1 : -1152921504606846976 ≤ v) (h2 : v ≤ 1152921504606846976) :
    Calls Tryz.prog 132 #[.agg #[.int .i64 l, .int .i64 s], .int .i64 v] w fun e w' => e = .returned (.int .i64 (idxN l s v : Nat)) ∧ Below w.heap.size w w' := by
  obtain ⟨l1, l2, s1, s2⟩ := quant_parts hq
  have hb0 : Below w.heap.size w (w.alloc (.cells #[.int .i64 l, .int .i64 s] 24)) := (Below.refl _ _).alloc (Nat.le_refl _) _
  have B0 := Blk.new w 24 #[.int .i64 l, .int .i64 s]
  have Hb0 := Lib.hid hb0
  have q0 := B0.cell 0
  have q1 := B0.cell 1
  simp at q0 q1
  clear hb0
  go_enter Tryz.func132, Tryz.ntmps132
  go_wp2_with fail
  refine (implIsQuantiser_any _ _ _).mono ?_; rintro e w1 ⟨rfl, h3⟩
  have B1 := B0.past h3
  have Hb1 := Lib.hid (thenB Hb0.out h3)
  clear q0 q1 B0 h3 Hb0
  have q0 := B1.cell 0
  have q1 := B1.cell 1
  simp at q0 q1
  have Hq := Lib.hid hq
  clear B1
  go_wp2_with fail
  refine (isLoud_no v _ h1 h2).mono ?_; rintro e w2 ⟨rfl, rfl⟩
  clear hq
  go_wp2_with fail
  go_loop [5] (fun i => ∃ k : Nat, (k : Int) < l ∧ i = .int .i64 k ∧ Hid (k = 0 ∨ midW l s k ≤ v)) (fun i => 20 - (intOf i).toNat)
  case atStart => exact ⟨0, by omega, rfl, .inl rfl⟩
  case round =>
    obtain ⟨k, hk, rfl, hup⟩ := hrel
    by_cases hlt : (k : Int) + 1 < l
    · have bm := midW_bd Hq.out (i := (k : Int) + 1) (by omega) (by omega)
      have e0 : midW l s ((k : Int) + 1) = s * (2 * ((k : Int) + 1) - l) := rfl
      have s0 : IntKind.i64.wrap (s * (2 * ((k : Int) + 1) - l)) = s * (2 * ((k : Int) + 1) - l) := Go.IntWalk.i64_in _ (by rw [← e0]; omega)
      by_cases hc : midW l s ((k : Int) + 1) ≤ v
      · have HC := Lib.hid hc
        have hc' : decide (s * (2 * ((k : Int) + 1) - l) ≤ v) = true := by rw [← e0]; exact decide_eq_true hc
        rw [e0] at hc
        clear e0 bm
        go_wp2
        go_round
        case rel => exact ⟨k + 1, by omega, by go_num, .inr (by have := HC.out; simpa using this)⟩
        case measure => simp [intOf]; omega
      · have HY : Hid (idxN l s v = k) := idx_stop Hq.out hk hup.out (.inr (by omega))
        have hc' : decide (s * (2 * ((k : Int) + 1) - l) ≤ v) = false := by rw [← e0]; exact decide_eq_false hc
        rw [e0] at hc
        clear e0 bm
        go_wp2
        go_ret
        exact ⟨ret_int (by rw [HY.out]), Hb1.out⟩
    · have HY : Hid (idxN l s v = k) := idx_stop Hq.out hk hup.out (.inl (by omega))
      go_wp2
      go_ret
      exact ⟨ret_int (by rw [HY.out]), Hb1.out⟩
set_option maxHeartbeats 1000000 in
theorem implLevelOf_yes (l s i : Int) (w : World) (hq : quantOk l s = true) (h1 : 0 ≤ i) (h2 : i < l) :
    Calls Tryz.prog 133 #[.agg #[.int .i64 l, .int .i64 s], .int .i64 i] w fun e w' => e = .returned (.tuple #[.int .i64 (levW l s i), .bool true]) ∧ Below w.heap.size w w' := by
  obtain ⟨l1, l2, s1, s2⟩ := quant_parts hq
  have hb0 : Below w.heap.size w (w.alloc (.cells #[.int .i64 l, .int .i64 s] 24)) := (Below.refl _ _).alloc (Nat.le_refl _) _
  have B0 := Blk.new w 24 #[.int .i64 l, .int .i64 s]
  have Hb0 := Lib.hid hb0
  have q0 := B0.cell 0
  have q1 := B0.cell 1
  simp at q0 q1
  have bl := levW_bd hq h1 h2
  have bs := ls_bd hq
  have s0 : IntKind.i64.wrap (s * (2 * i - (l - 1))) = s * (2 * i - (l - 1)) := Go.IntWalk.i64_in _ (by unfold levW at bl; omega)
  have s1' : IntKind.i64.wrap (2 * i - (l - 1)) = 2 * i - (l - 1) := Go.IntWalk.i64_in _ (by omega)
  clear hb0 bl bs
  go_enter Tryz.func133, Tryz.ntmps133
  go_wp2_with fail
  refine (implIsQuantiser_any _ _ _).mono ?_; rintro e w1 ⟨rfl, h3⟩
  have B1 := B0.past h3
  have Hb1 := Lib.hid (thenB Hb0.out h3)
  clear q0 q1 B0 h3 Hb0
  have q0 := B1.cell 0
  have q1 := B1.cell 1
  simp at q0 q1
  clear B1
  go_wp2
  go_ret2
  exact ⟨rfl, Hb1.out⟩
set_option maxHeartbeats 1000000 in
theorem implQuantise_yes (l s v : Int) (w : World) (hq : quantOk l s = true) (h1 : -1152921504606846976 ≤ v) (h2 : v ≤ 1152921504606846976) :
    Calls Tryz.prog 127 #[.agg #[.int .i64 l, .int .i64 s], .int .i64 v] w fun e w' => e = .returned (.int .i64 (quant l s v)) ∧ Below w.heap.size w w' := by
  obtain ⟨l1, l2, s1, s2⟩ := quant_parts hq
  have hb0 : Below w.heap.size w (w.alloc (.cells #[.int .i64 l, .int .i64 s] 24)) := (Below.refl _ _).alloc (Nat.le_refl _) _
  have B0 := Blk.new w 24 #[.int .i64 l, .int .i64 s]
  have Hb0 := Lib.hid hb0
  have HB0 := Lib.hid B0
  have hil := idxN_lt hq v
  have q0 := B0.cell 0
  have q1 := B0.cell 1
  simp at q0 q1
  clear hb0 B0
  go_enter Tryz.func127, Tryz.ntmps127
  go_wp2_with fail
  refine (isLoud_no v _ h1 h2).mono ?_; rintro e w2 ⟨rfl, rfl⟩
  go_wp2_with fail
  have bx := (Below.refl (w.alloc (.cells #[.int .i64 l, .int .i64 s] 24)).heap.size (w.alloc (.cells #[.int .i64 l, .int .i64 s] 24))).drew
  have HB1 := Lib.hid (HB0.out.past bx)
  have Hb1 := Lib.hid (thenB Hb0.out bx)
  clear bx
  go_region_held3 (fun w' => w'.cell? ⟨w.heap.size, 0, none⟩ = some (.int .i64 l) ∧ w'.cell? ⟨w.heap.size, 1, none⟩ = some (.int .i64 s)) (first | go_keep)
    (first
      | (go_at_call 132; refine (implIndexOf_yes l s v _ hq h1 h2).mono ?_; rintro e wa ⟨rfl, ha⟩; have HB2 := Lib.hid (HB1.out.past ha); have Hb2 := Lib.hid (thenB Hb1.out ha); have k0 := HB2.out.cell 0; have k1 := HB2.out.cell 1; simp at k0 k1; clear ha)
      | (go_at_call 133; refine (implLevelOf_yes l s _ _ hq (by omega) hil).mono ?_; rintro e wb ⟨rfl, hb⟩; have HB3 := Lib.hid (HB2.out.past hb); have Hb3 := Lib.hid (thenB Hb2.out hb); have j0 := HB3.out.cell 0; have j1 := HB3.out.cell 1; simp at j0 j1; clear hb))
  go_wp2
  go_ret
  exact ⟨rfl, Hb3.out⟩
end Go.Proofs.YtgkijkenbjjnmaaGreatDoor
