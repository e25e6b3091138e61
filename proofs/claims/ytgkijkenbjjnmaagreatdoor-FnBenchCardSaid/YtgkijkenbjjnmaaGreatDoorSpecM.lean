/- Contracts of the reference's functions of modulators, and of both ShapeOf and BitsOf. (Printed by mkspecm.py.) -/
import Derived.Test.YtgkijkenbjjnmaaGreatDoorPBen
import Derived.Test.YtgkijkenbjjnmaaGreatDoorMech
namespace Go.Proofs.YtgkijkenbjjnmaaGreatDoor
open Go.RowKit
set_option linter.unusedVariables false
set_option linter.unusedSimpArgs false
set_option maxHeartbeats 1000000 in
theorem specFed_yes (l s : Int) (A : Option Addr) (c : Nat) (cs : List Int) (A' : Option Addr) (c' : Nat) (mem : List Int) (w : World) (hr : Rd w w.heap.size A cs) (hr' : Rd w w.heap.size A' mem) (h : memOk l s cs mem = true) :
    Calls Tryz.prog 104 #[.agg #[.int .i64 l, .int .i64 s, .slice A cs.length c], .slice A' cs.length c'] w fun e w' => e = .returned (.int .i64 (fed cs mem)) ∧ Below w.heap.size w w' := by
  obtain ⟨m1, m2, m3⟩ := mem_parts h
  obtain ⟨m4, m5, m6, m7⟩ := mod_parts m1
  have hb0 : Below w.heap.size w (w.alloc (.cells #[.int .i64 l, .int .i64 s, .slice A cs.length c] 27)) := (Below.refl _ _).alloc (Nat.le_refl _) _
  have B0 := Blk.new w 27 #[.int .i64 l, .int .i64 s, .slice A cs.length c]
  have Hb0 := Lib.hid hb0
  have R0 := Lib.hid (hr.past hb0)
  have R0' := Lib.hid (hr'.past hb0)
  have q2 := B0.cell 2
  simp at q2
  have M4 := Lib.hid m4
  have Hl := Lib.hid m2
  clear hb0 hr hr' B0 m4 m2
  go_enter Tryz.func104, Tryz.ntmps104
  go_wp2_with fail
  go_loop [5, 11] (fun q i => ∃ k : Nat, k ≤ cs.length ∧ i = .int .i64 k ∧ q = .int .i64 (fedTo cs mem k)) (fun _ i => cs.length - (intOf i).toNat)
  case atStart => exact ⟨0, by omega, rfl, rfl⟩
  case round =>
    obtain ⟨k, hk, rfl, rfl⟩ := hrel
    by_cases hlt : k < cs.length
    · have hlm : k < mem.length := by rw [Hl.out]; exact hlt
      obtain ⟨ad, rfl, hbl, hcell⟩ := R0.out.at_ hlt
      obtain ⟨ad', rfl, hbl', hcell'⟩ := R0'.out.at_ hlm
      have hc1 := hcell k hlt
      have hc2 := hcell' k hlm
      rw [getD_at hlt] at hc1
      rw [getD_at hlm] at hc2
      have b0 := fedTo_bd M4.out m3 k
      have b1 := prod_bd (M4.out _ (List.getElem_mem hlt)).1 (M4.out _ (List.getElem_mem hlt)).2 (seqOk_at m3 hlm).1 (seqOk_at m3 hlm).2
      have HS : Hid (fedTo cs mem (k + 1) = fedTo cs mem k + cs[k] * mem[k]) := by show _ = _; rw [fedTo_succ, getD_at hlt, getD_at hlm]
      obtain ⟨a, ha⟩ : ∃ a, a = cs[k] := ⟨_, rfl⟩
      obtain ⟨b, hb⟩ : ∃ b, b = mem[k] := ⟨_, rfl⟩
      obtain ⟨t, ht⟩ : ∃ t, t = fedTo cs mem k := ⟨_, rfl⟩
      rw [← ha] at hc1 b1 HS
      rw [← hb] at hc2 b1 HS
      rw [← ht] at b0 HS ⊢
      have s0 : IntKind.i64.wrap (a * b) = a * b := wrap_in (by omega) (by omega)
      have s1 : IntKind.i64.wrap (t + a * b) = t + a * b := wrap_in (by omega) (by omega)
      clear ha hb ht hcell hcell'
      go_wp2
      go_round
      case rel => exact ⟨k + 1, by omega, by go_num, by rw [HS.out]⟩
      case measure => simp [intOf]; omega
    · obtain rfl : k = cs.length := by omega
      go_wp2
      go_ret
      exact ⟨rfl, Hb0.out⟩
set_option maxHeartbeats 1000000 in
theorem specPush_yes (A : Option Addr) (c n : Nat) (mem : List Int) (v : Int) (w : World) (hr : Rd w w.heap.size A mem) (hn : mem.length = n) (h1 : 1 ≤ n) (h2 : n ≤ 1000) (hc : n ≤ c) :
    Calls Tryz.prog 107 #[.slice A n c, .int .i64 v] w fun e w' => ∃ A1 c1, e = .returned (.slice A1 n c1) ∧ Own w' w.heap.size A1 c1 (push mem v) ∧ Below w.heap.size w w' := by
  obtain ⟨ad, rfl, _⟩ := hr.at_ (k := 0) (by omega)
  have hb0 : Below w.heap.size w (w.alloc (.cells #[.int .i64 v] 3)) := (Below.refl _ _).alloc (Nat.le_refl _) _
  have O0 := own_cells (B := w.heap.size) (xs := [v]) w #[.int .i64 v] (Nat.le_refl _) rfl (by simp [maxLen])
  have R1 := rd_take (hr.past hb0) (n - 1)
  have hl : Hid ((mem.take (n - 1)).length = n - 1) := by show _ = _; rw [List.length_take]; omega
  have en : ((n : Int) - 1) = ((n - 1 : Nat) : Int) := by omega
  have Hb0 := Lib.hid hb0
  have HO := Lib.hid O0
  have HR := Lib.hid R1
  have HP : Hid (v :: mem.take (n - 1) = push mem v) := by show _ = _; unfold push; rw [hn]
  have hmin : Hid (min (n - 1) mem.length = n - 1) := by show _ = _; omega
  obtain ⟨m, hm⟩ : ∃ m, m = n - 1 := ⟨_, rfl⟩
  rw [← hm] at en hl HR HP hmin
  have hmn : m + 1 = n := by omega
  have em : (((m + 1 : Nat) : Int) - 1) = (m : Int) := by omega
  clear hb0 O0 R1 hr hn hm en
  subst hmn
  go_enter Tryz.func107, Tryz.ntmps107
  go_wp2_with (at_builtin; refine app_list rfl (.tmp 6) (.tmp 11) rfl w.heap.size (some ⟨w.heap.size, 0, none⟩) 1 1 [v] rfl rfl HO.out w.heap.size.succ (some ad) c (mem.take m) (by rw [hl.out]; rfl) (by simpa using HR.out) (by rw [hl.out]; omega) (by simp) ?_)
  intro A1 c1 w1 O1 hw1 hm1
  rw [HP.out] at O1
  rw [hmin.out]
  go_wp2
  go_ret
  exact ⟨A1, c1, by show Ending.returned (.slice A1 (1 + m) c1) = _; rw [Nat.add_comm], O1, below_app Hb0.out hw1 HO.out (by simp)⟩
theorem specPlain_yes (l s : Int) (A : Option Addr) (c : Nat) (cs : List Int) (w : World) (hr : Rd w w.heap.size A cs) (h : modOk l s cs = true) :
    Calls Tryz.prog 18 #[.agg #[.int .i64 l, .int .i64 s, .slice A cs.length c]] w (RetSl w (List.replicate cs.length 0)) := by
  obtain ⟨hc, hq, c1, c2⟩ := mod_parts h
  have hb0 : Below w.heap.size w (w.alloc (.cells #[.int .i64 l, .int .i64 s, .slice A cs.length c] 27)) := (Below.refl _ _).alloc (Nat.le_refl _) _
  have hcall := specIsModulator_any l s A c cs (w.alloc (.cells #[.int .i64 l, .int .i64 s, .slice A cs.length c] 27)) (hr.past hb0) (by omega)
  rw [h] at hcall
  have B0 := Blk.new w 27 #[.int .i64 l, .int .i64 s, .slice A cs.length c]
  have Hb := Lib.hid hb0
  have Hc := Lib.hid hcall
  have hmk := make_ints cs.length (by omega)
  clear hb0 hcall hr hc hq h
  go_enter Tryz.func18, Tryz.ntmps18
  go_wp2_with fail
  refine Hc.out.mono ?_; rintro e w1 ⟨rfl, h1⟩
  have B1 := B0.past h1
  replace Hb := Lib.hid (thenB Hb.out h1)
  have q2 := B1.cell 2
  simp at q2
  clear B0 Hc h1 B1
  go_wp2_with fail
  go_ret
  have bx : Below w1.heap.size w1 (w1.alloc (.cells (madeCells #[.int .i64 0] cs.length) 3)) := (Below.refl _ _).alloc (Nat.le_refl _) _
  exact ⟨_, _, by rw [List.length_replicate]; rfl, own_mono (own_made (B := w.heap.size) w1 cs.length Hb.out.size (by simp only [maxLen]; omega)) (Nat.le_refl _), thenB Hb.out bx⟩
set_option maxHeartbeats 1000000 in
theorem specSafe_yes (l s : Int) (A : Option Addr) (c : Nat) (cs : List Int) (w : World) (hr : Rd w w.heap.size A cs) (h : modOk l s cs = true) :
    Calls Tryz.prog 116 #[.agg #[.int .i64 l, .int .i64 s, .slice A cs.length c]] w fun e w' => e = .returned (.int .i64 (safeW l s cs)) ∧ Below w.heap.size w w' := by
  obtain ⟨hc, hq, c1, c2⟩ := mod_parts h
  have bs := ls_bd hq
  obtain ⟨l1, l2, s1, s2⟩ := quant_parts hq
  have ha := absTo_bd hc
  have hp : 0 ≤ s * absTo cs cs.length ∧ s * absTo cs cs.length ≤ 1073741824 * 600 := by
    have h1 := ha cs.length
    exact ⟨Int.mul_nonneg (by omega) h1.1, Int.mul_le_mul s2 (by omega) h1.1 (by omega)⟩
  have HA := Lib.hid ha
  have HC := Lib.hid hc
  have hcall := specIsModulator_any l s A c cs (w.alloc (.cells #[.int .i64 l, .int .i64 s, .slice A cs.length c] 27))
  have hb0 : Below w.heap.size w (w.alloc (.cells #[.int .i64 l, .int .i64 s, .slice A cs.length c] 27)) := (Below.refl _ _).alloc (Nat.le_refl _) _
  have hcall := hcall (hr.past hb0) (by omega)
  rw [h] at hcall
  have B0 := Blk.new w 27 #[.int .i64 l, .int .i64 s, .slice A cs.length c]
  have Hb := Lib.hid hb0
  have R0 := Lib.hid (hr.past hb0)
  have Hc := Lib.hid hcall
  have q0 := B0.cell 0
  have q1 := B0.cell 1
  have q2 := B0.cell 2
  simp at q0 q1 q2
  have HY : Hid (safeW l s cs = if -1 < l * s - s * absTo cs cs.length then l * s - s * absTo cs cs.length else -1) := rfl
  have HQ := Lib.hid hq
  clear hb0 hcall hr ha hc h hq
  go_enter Tryz.func116, Tryz.ntmps116
  go_wp2_with fail
  refine Hc.out.mono ?_; rintro e w1 ⟨rfl, h1⟩
  have B1 := B0.past h1
  replace Hb := Lib.hid (thenB Hb.out h1)
  have R1 := Lib.hid (R0.out.past h1)
  clear q0 q1 q2 B0 R0 Hc h1
  have q0 := B1.cell 0
  have q1 := B1.cell 1
  have q2 := B1.cell 2
  simp at q0 q1 q2
  go_wp2_with fail
  go_loop [3, 12] (fun m i => ∃ j : Nat, j ≤ cs.length ∧ i = .int .i64 j ∧ m = .int .i64 (absTo cs j)) (fun _ i => cs.length - (intOf i).toNat)
  case atStart => exact ⟨0, by omega, rfl, rfl⟩
  case round =>
    obtain ⟨j, hj, rfl, rfl⟩ := hrel
    by_cases hlt : j < cs.length
    · obtain ⟨a1, rfl, _, z1⟩ := R1.out.at_ hlt
      have k1 := z1 j hlt
      have b1 := coef_getD HC.out j
      have b2 := HA.out j
      have hs : Hid (absTo cs (j + 1) = absTo cs j + absI (cs.getD j 0)) := rfl
      obtain ⟨v, hv⟩ : ∃ v, v = cs.getD j 0 := ⟨_, rfl⟩
      rw [← hv] at k1 b1 hs
      have b3 : 0 ≤ absI v ∧ absI v ≤ 100 := by unfold absI; omega
      clear z1 hv
      go_wp2
      go_round
      case rel => exact ⟨j + 1, by omega, by go_num, by rw [hs.out]; rfl⟩
      case measure => simp [intOf]; omega
    · obtain rfl : j = cs.length := by omega
      obtain ⟨a, hae⟩ : ∃ a, a = absTo cs cs.length := ⟨_, rfl⟩
      rw [← hae] at hp HY ⊢
      obtain ⟨P, hP⟩ : ∃ P, P = s * a := ⟨_, rfl⟩
      have eP : s * a = P := hP.symm
      rw [eP] at hp HY
      have sP : IntKind.i64.wrap P = P := Go.IntWalk.i64_in _ (by omega)
      have eM : s * (l - a) = l * s - P := by rw [Int.mul_sub, eP, Int.mul_comm]
      have sX : IntKind.i64.wrap (s * (l - a)) = s * (l - a) := Go.IntWalk.i64_in _ (by rw [eM]; omega)
      have sA : IntKind.i64.wrap (l - a) = l - a := Go.IntWalk.i64_in _ (by have := HA.out cs.length; rw [← hae] at this; omega)
      rw [← eM] at HY
      have q0 := B1.cell 0
      have q1 := B1.cell 1
      simp at q0 q1
      clear hae hP eP sP
      rcases Int.lt_or_le (-1) (s * (l - a)) with hx | hx
      all_goals
        go_wp2
        go_ret
        exact ⟨ret_int (by rw [HY.out]; split <;> omega), Hb.out⟩
set_option maxHeartbeats 1000000 in
theorem l2Level_any (l s i : Int) (w : World) (hq : quantOk l s = true) (h1 : 0 ≤ i) (h2 : i < l) :
    Calls Tryz.prog 105 #[.agg #[.int .i64 l, .int .i64 s], .int .i64 i] w fun e w' => e = .returned (.int .i64 (levW l s i)) ∧ Below w.heap.size w w' := by
  obtain ⟨l1, l2, s1, s2⟩ := quant_parts hq
  have hb0 : Below w.heap.size w (w.alloc (.cells #[.int .i64 l, .int .i64 s] 24)) := (Below.refl _ _).alloc (Nat.le_refl _) _
  have B0 := Blk.new w 24 #[.int .i64 l, .int .i64 s]
  have Hb0 := Lib.hid hb0
  have q0 := B0.cell 0
  have q1 := B0.cell 1
  simp at q0 q1
  have bl := levW_bd hq h1 h2
  have bs := ls_bd hq
  have s0 : IntKind.i64.wrap (s * (2 * i - (l - 1))) = s * (2 * i - (l - 1)) := Go.IntWalk.i64_in _ (by unfold levW at bl; omega)
  have s1' : IntKind.i64.wrap (2 * i - (l - 1)) = 2 * i - (l - 1) := Go.IntWalk.i64_in _ (by omega)
  clear hb0 bl bs B0
  go_enter Tryz.func105, Tryz.ntmps105
  go_wp2
  go_ret
  exact ⟨rfl, Hb0.out⟩
set_option maxRecDepth 100000 in
set_option maxHeartbeats 2000000 in
theorem l2Index_yes (l s v : Int) (w : World) (hq : quantOk l s = true) (h1 : -1152921504606846976 ≤ v) (h2 : v ≤ 1152921504606846976) :
    Calls Tryz.prog 106 #[.agg #[.int .i64 l, .int .i64 s], .int .i64 v] w fun e w' => e = .returned (.int .i64 (idxN l s v : Nat)) ∧ Below w.heap.size w w' := by
  obtain ⟨l1, l2, s1, s2⟩ := quant_parts hq
  have hb0 : Below w.heap.size w (w.alloc (.cells #[.int .i64 l, .int .i64 s] 24)) := (Below.refl _ _).alloc (Nat.le_refl _) _
  have HB0 := Lib.hid (Blk.new w 24 #[.int .i64 l, .int .i64 s])
  have Hb0 := Lib.hid hb0
  have Hq := Lib.hid hq
  clear hb0 hq
  go_enter Tryz.func106, Tryz.ntmps106
  go_wp2_with fail
  go_loopw [5, 6] (fun b i wr => ∃ k : Nat, (k : Int) + 1 ≤ l ∧ i = .int .i64 ((k : Int) + 1) ∧ b = .int .i64 (idxTo l s v k : Nat) ∧ Hid (Blk wr w.heap.size 24 #[.int .i64 l, .int .i64 s]) ∧ Hid (Below w.heap.size w wr)) (fun _ i _ => 20 - (intOf i).toNat)
  case atStart => exact ⟨0, by omega, rfl, rfl, HB0.out, Hb0.out⟩
  case round =>
    clear HB0 Hb0
    obtain ⟨k, hk, rfl, rfl, HB, Hb⟩ := hrel
    have q0 := HB.out.cell 0
    have q1 := HB.out.cell 1
    simp at q0 q1
    by_cases hlt : (k : Int) + 1 < l
    · have hle := idxTo_le l s v k
      have ba := levW_bd Hq.out (i := ((idxTo l s v k : Nat) : Int)) (by omega) (by omega)
      have bb := levW_bd Hq.out (i := (k : Int) + 1) (by omega) hlt
      have bs := ls_bd Hq.out
      have hca := Lib.hid (fun W => l2Level_any l s ((idxTo l s v k : Nat) : Int) W Hq.out (by omega) (by omega))
      have hcb := Lib.hid (fun W => l2Level_any l s ((k : Int) + 1) W Hq.out (by omega) hlt)
      have hN := Lib.hid (idxTo_next (l := l) (s := s) (v := v) k)
      have hnear := idx_near (l := l) (s := s) (v := v) (by omega) k
      obtain ⟨a, ha⟩ : ∃ a, a = levW l s ((idxTo l s v k : Nat) : Int) := ⟨_, rfl⟩
      obtain ⟨b, hb⟩ : ∃ b, b = levW l s ((k : Int) + 1) := ⟨_, rfl⟩
      obtain ⟨t, ht⟩ : ∃ t, t = idxTo l s v k := ⟨_, rfl⟩
      rw [← ht] at hca hN hle ha hnear ba ⊢
      rw [← ha] at hca ba hnear
      rw [← hb] at hcb bb hnear
      clear ha hb ht
      have sa : IntKind.i64.wrap (a - v) = a - v := Go.IntWalk.i64_in _ (by omega)
      have sb : IntKind.i64.wrap (b - v) = b - v := Go.IntWalk.i64_in _ (by omega)
      obtain ⟨x, hx⟩ : ∃ x, x = a - v := ⟨_, rfl⟩
      obtain ⟨y, hy⟩ : ∃ y, y = b - v := ⟨_, rfl⟩
      have bx : -1200000000000000000 ≤ x ∧ x ≤ 1200000000000000000 := by omega
      have by_ : -1200000000000000000 ≤ y ∧ y ≤ 1200000000000000000 := by omega
      rw [← hx] at sa hnear
      rw [← hy] at sb hnear
      have ea : a - v = x := hx.symm
      have eb : b - v = y := hy.symm
      clear hx hy ba bb
      go_wp2_with fail
      refine (hca.out _).mono ?_; rintro e w1 ⟨rfl, h3⟩
      have HB1 := Lib.hid (HB.out.past h3)
      have Hb1 := Lib.hid (thenB Hb.out h3)
      clear q0 q1 h3
      have q0 := HB1.out.cell 0
      have q1 := HB1.out.cell 1
      simp at q0 q1
      go_wp2_with fail
      refine (hcb.out _).mono ?_; rintro e w2 ⟨rfl, h3⟩
      have HB2 := Lib.hid (HB1.out.past h3)
      have Hb2 := Lib.hid (thenB Hb1.out h3)
      clear q0 q1 h3 hca hcb
      have q0 := HB2.out.cell 0
      have q1 := HB2.out.cell 1
      simp at q0 q1
      by_cases hm : midW l s ((k + 1 : Nat) : Int) ≤ v
      · have hd : decide (max y (-y) ≤ max x (-x)) = true := decide_eq_true (hnear.2 hm)
        have HN := hN.out
        rw [if_pos hm] at HN
        have HN2 := Lib.hid HN
        clear HN hN hnear hm
        go_wp2
        go_roundw
        case rel => exact ⟨k + 1, by omega, by go_num, by rw [HN2.out]; go_num, HB2.out, Hb2.out⟩
        case measure => simp [intOf]; omega
      · have hd : decide (max y (-y) ≤ max x (-x)) = false := decide_eq_false (fun h => hm (hnear.1 h))
        have HN := hN.out
        rw [if_neg hm] at HN
        have HN2 := Lib.hid HN
        clear HN hN hnear hm
        go_wp2
        go_roundw
        case rel => exact ⟨k + 1, by omega, by go_num, by rw [HN2.out], HB2.out, Hb2.out⟩
        case measure => simp [intOf]; omega
    · have HY : Hid (idxN l s v = idxTo l s v k) := by show _ = _; unfold idxN; congr 1; omega
      go_wp2
      go_ret
      exact ⟨ret_int (by rw [HY.out]), Hb.out⟩
set_option maxHeartbeats 1000000 in
theorem implShape_yes (l s : Int) (A : Option Addr) (c : Nat) (cs : List Int) (w : World) (hr : Rd w w.heap.size A cs) (h : modOk l s cs = true) :
    Calls Tryz.prog 97 #[.agg #[.int .i64 l, .int .i64 s, .slice A cs.length c]] w (RetSl w (1 :: cs)) := by
  obtain ⟨hc, hq, c1, c2⟩ := mod_parts h
  have hb0 : Below w.heap.size w (w.alloc (.cells #[.int .i64 l, .int .i64 s, .slice A cs.length c] 27)) := (Below.refl _ _).alloc (Nat.le_refl _) _
  have hcall := implIsModulator_any l s A c cs (w.alloc (.cells #[.int .i64 l, .int .i64 s, .slice A cs.length c] 27)) (hr.past hb0) (by omega)
  rw [h] at hcall
  have B0 := Blk.new w 27 #[.int .i64 l, .int .i64 s, .slice A cs.length c]
  have Hb := Lib.hid hb0
  have R := Lib.hid (hr.past hb0)
  have Hc := Lib.hid hcall
  clear hb0 hcall hr hc hq h
  go_enter Tryz.func97, Tryz.ntmps97
  go_wp2_with fail
  refine Hc.out.mono ?_; rintro e w1 ⟨rfl, h1⟩
  have bx : Below w1.heap.size w1 (w1.alloc (.cells #[.int .i64 1] 3)) := (Below.refl _ _).alloc (Nat.le_refl _) _
  have B1 := (B0.past h1).past bx
  replace Hb := Lib.hid (thenB Hb.out h1)
  have R1 := Lib.hid ((R.out.past h1).past bx)
  have O0 := Lib.hid (own_cells (B := w1.heap.size) (xs := [1]) w1 #[.int .i64 1] (Nat.le_refl _) rfl (by simp [maxLen]))
  have q2 := (B0.past h1).cell 2
  have q2' := B1.cell 2
  simp at q2 q2'
  clear B0 Hc h1 B1 R
  have HX := Lib.hid bx
  clear bx
  go_wp2_with (at_builtin; refine app_list rfl (.tmp 6) (.tmp 8) rfl w1.heap.size (some ⟨w1.heap.size, 0, none⟩) 1 1 [1] rfl rfl O0.out w1.heap.size.succ A c cs rfl (by simpa using R1.out) (by omega) (by simp) ?_)
  intro A1 c1' w2 O1 hw1 hm1
  go_wp2
  go_ret
  exact ⟨A1, c1', by simp [Nat.add_comm], own_mono O1 Hb.out.size, below_app (thenB Hb.out HX.out) hw1 (own_mono O0.out Hb.out.size) (by simp; have := Hb.out.size; omega)⟩
set_option maxHeartbeats 1000000 in
theorem specShape_yes (l s : Int) (A : Option Addr) (c : Nat) (cs : List Int) (w : World) (hr : Rd w w.heap.size A cs) (h : modOk l s cs = true) :
    Calls Tryz.prog 115 #[.agg #[.int .i64 l, .int .i64 s, .slice A cs.length c]] w (RetSl w (1 :: cs)) := by
  obtain ⟨hc, hq, c1, c2⟩ := mod_parts h
  have hb0 : Below w.heap.size w (w.alloc (.cells #[.int .i64 l, .int .i64 s, .slice A cs.length c] 27)) := (Below.refl _ _).alloc (Nat.le_refl _) _
  have hcall := specIsModulator_any l s A c cs (w.alloc (.cells #[.int .i64 l, .int .i64 s, .slice A cs.length c] 27)) (hr.past hb0) (by omega)
  rw [h] at hcall
  have B0 := Blk.new w 27 #[.int .i64 l, .int .i64 s, .slice A cs.length c]
  have Hb := Lib.hid hb0
  have R := Lib.hid (hr.past hb0)
  have Hc := Lib.hid hcall
  clear hb0 hcall hr hc hq h
  go_enter Tryz.func115, Tryz.ntmps115
  go_wp2_with fail
  refine Hc.out.mono ?_; rintro e w1 ⟨rfl, h1⟩
  have bx : Below w1.heap.size w1 (w1.alloc (.cells #[.int .i64 1] 3)) := (Below.refl _ _).alloc (Nat.le_refl _) _
  have B1 := (B0.past h1).past bx
  replace Hb := Lib.hid (thenB Hb.out h1)
  have R1 := Lib.hid ((R.out.past h1).past bx)
  have O0 := Lib.hid (own_cells (B := w1.heap.size) (xs := [1]) w1 #[.int .i64 1] (Nat.le_refl _) rfl (by simp [maxLen]))
  have q2 := (B0.past h1).cell 2
  have q2' := B1.cell 2
  simp at q2 q2'
  clear B0 Hc h1 B1 R
  have HX := Lib.hid bx
  clear bx
  go_wp2_with (at_builtin; refine app_list rfl (.tmp 6) (.tmp 8) rfl w1.heap.size (some ⟨w1.heap.size, 0, none⟩) 1 1 [1] rfl rfl O0.out w1.heap.size.succ A c cs rfl (by simpa using R1.out) (by omega) (by simp) ?_)
  intro A1 c1' w2 O1 hw1 hm1
  go_wp2
  go_ret
  exact ⟨A1, c1', by simp [Nat.add_comm], own_mono O1 Hb.out.size, below_app (thenB Hb.out HX.out) hw1 (own_mono O0.out Hb.out.size) (by simp; have := Hb.out.size; omega)⟩
end Go.Proofs.YtgkijkenbjjnmaaGreatDoor
