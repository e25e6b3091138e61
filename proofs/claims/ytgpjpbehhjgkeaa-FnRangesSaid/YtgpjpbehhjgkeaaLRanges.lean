/- What is safe, the range of the quantiser and the limits of an accumulator are what their sums say. No condition. -/
import Derived.Test.YtgpjpbehhjgkeaaMkMod2
import Derived.Test.YtgpjpbehhjgkeaaPWrap
import Derived.Test.YtgpjpbehhjgkeaaArgB
namespace Go.Proofs.Ytgpjpbehhjgkeaa.rangesLaw
open Go.ChangeShapes Go.WideShapes Go.ChangeAt Go.RowKit
set_option linter.unusedVariables false
set_option linter.unusedSimpArgs false
theorem mod_small {l s : Nat} {cs : List Int} (l1 : 2 ≤ l) (l2 : l ≤ 6) (s1 : 1 ≤ s) (s2 : s ≤ 64) (k1 : 1 ≤ cs.length) (k2 : cs.length ≤ 4) (h : ∀ v ∈ cs, -64 ≤ v ∧ v ≤ 64) : modOk l s cs = true := by
  have h1 : cs.all coefB = true := List.all_eq_true.2 fun v hv => by have := h v hv; exact inB_true (by omega) (by omega)
  have h2 : quantOk l s = true := quantOk_of (by omega) (by omega) (by omega) (by omega)
  have h3 : inB cs.length 1 6 = true := inB_true (by omega) (by omega)
  simp [modOk, h1, h2, h3]
theorem small_getD {cs : List Int} (h : ∀ v ∈ cs, -64 ≤ v ∧ v ≤ 64) (k : Nat) : -64 ≤ cs.getD k 0 ∧ cs.getD k 0 ≤ 64 := by
  by_cases hk : k < cs.length
  · rw [getD_at hk]; exact h _ (List.getElem_mem hk)
  · rw [List.getD, List.getElem?_eq_none (by omega)]; simp
theorem levW_lo (l s : Int) : levW l s 0 = -(l * s - s) := by
  unfold levW
  rw [show (2 * 0 - (l - 1) : Int) = -(l - 1) by omega, Int.mul_neg, Int.mul_sub, Int.mul_one, Int.mul_comm]
theorem levW_hi (l s : Int) : levW l s (l - 1) = l * s - s := by
  unfold levW
  rw [show (2 * (l - 1) - (l - 1) : Int) = l - 1 by omega, Int.mul_sub, Int.mul_one, Int.mul_comm]
theorem two_step (j : Nat) : (2 : Int) ^ (j + 1 - 1) = if j = 0 then 1 else 2 ^ (j - 1) * 2 := by
  cases j with
  | zero => rfl
  | succ j => rw [if_neg (by omega), show j + 1 + 1 - 1 = j + 1 by omega, Int.pow_succ]; rfl
theorem levels_pow {o : Nat} {m : Int} (h1 : 1 ≤ o) (h2 : o ≤ 6) (m1 : 2 ≤ m) (m2 : m ≤ 1048576) : levels o m = (1 - 2 ^ (o - 1), 2 ^ (o - 1)) := by
  have e : accOk o m = true := by simp only [accOk, inB_true (show (1 : Int) ≤ o by omega) (show (o : Int) ≤ 6 by omega), inB_true m1 m2, Bool.and_self]
  simp only [levels, e, if_true, Int.toNat_natCast]
  have : o = 1 ∨ o = 2 ∨ o = 3 ∨ o = 4 ∨ o = 5 ∨ o = 6 := by omega
  rcases this with rfl | rfl | rfl | rfl | rfl | rfl <;> decide
set_option maxRecDepth 100000 in
set_option maxHeartbeats 1000000 in
theorem walkw (w : World) (A0 : Option Addr) (n0 c0 : Nat) (l0 : n0 ≤ c0) (m0 : c0 ≤ maxLen) (r0 : RdB w w.heap.size A0 n0) :
    Calls Try.prog 3 #[.slice A0 n0 c0] w fun e w' => e = .returned (.bool true) ∧ Below w.heap.size w w' := by
  unfold maxLen at m0
  by_cases hn : n0 ≤ 1048576
  case neg =>
    have hx : 1048576 < n0 := by omega
    clear hn
    go_enter Try.func3, Try.ntmps3
    go_wp2
    go_ret
    exact ⟨rfl, Below.refl _ _⟩
  have Hb : Hid (Below w.heap.size w w) := Below.refl _ _
  go_enter Try.func3, Try.ntmps3
  go_wp2_with fail
  refine (MakeModulator_any _ _ _ _ (r0.past Hb.out) (by omega)).mono ?_
  rintro e w1 ⟨l, s, cs, Am, cm, rfl, l1, l2, s1, s2, k1, k2, hcs, Om, h1⟩
  replace Hb := Lib.hid (thenB Hb.out h1)
  have t1 : w.heap.size ≤ w1.heap.size := h1.size
  have Lm := own_lo Om
  have Um := own_hi Om
  clear h1
  have hmod : modOk l s cs = true := mod_small l1 l2 s1 s2 k1 k2 hcs
  have hq : quantOk l s = true := quantOk_of (by omega) (by omega) (by omega) (by omega)
  have bx : Below w1.heap.size w1 (w1.alloc (.cells #[.int .i64 l, .int .i64 s, .slice Am cs.length cm] 27)) := (Below.refl _ _).alloc (Nat.le_refl _) _
  have B0 := Blk.new w1 27 #[.int .i64 l, .int .i64 s, .slice Am cs.length cm]
  have VB0 : w1.heap.size < (w1.alloc (.cells #[.int .i64 l, .int .i64 s, .slice Am cs.length cm] 27)).heap.size := by simp
  replace Om := own_past Om bx
  replace Hb := Lib.hid (thenB Hb.out bx)
  clear bx
  have HA : Hid (∀ k : Nat, 0 ≤ absTo cs k ∧ absTo cs k ≤ 100 * (k : Int)) := absTo_bd (mod_parts hmod).1
  have HC : Hid (∀ k : Nat, -64 ≤ cs.getD k 0 ∧ cs.getD k 0 ≤ 64) := small_getD hcs
  clear hcs
  have HSf : Hid (∀ W A c, Rd W W.heap.size A cs → Calls Try.prog 10 #[.agg #[.int .i64 l, .int .i64 s, .slice A cs.length c]] W fun e w' => e = .returned (.int .i64 (safeW l s cs)) ∧ Below W.heap.size W w') := fun W A c h => implSafe_yes l s A c cs W h hmod
  have HRg : Hid (∀ W, Calls Try.prog 11 #[.agg #[.int .i64 l, .int .i64 s]] W fun e w' => e = .returned (.int .i64 ((l : Int) * s)) ∧ Below W.heap.size W w') := fun W => implRange_yes l s W hq
  have HL0 : Hid (∀ W, Calls Try.prog 6 #[.agg #[.int .i64 l, .int .i64 s], .int .i64 0] W fun e w' => e = .returned (.tuple #[.int .i64 (-((l : Int) * s - s)), .bool true]) ∧ Below W.heap.size W w') := fun W => by have := implLevelOf_yes l s 0 W hq (by omega) (by omega); rw [levW_lo] at this; exact this
  have HL1 : Hid (∀ W, Calls Try.prog 6 #[.agg #[.int .i64 l, .int .i64 s], .int .i64 ((l : Int) - 1)] W fun e w' => e = .returned (.tuple #[.int .i64 ((l : Int) * s - s), .bool true]) ∧ Below W.heap.size W w') := fun W => by have := implLevelOf_yes l s ((l : Int) - 1) W hq (by omega) (by omega); rw [levW_hi] at this; exact this
  have bs := ls_bd hq
  have HY : Hid (safeW l s cs = if -1 < (l : Int) * s - s * absTo cs cs.length then (l : Int) * s - s * absTo cs cs.length else -1) := rfl
  have hP : 0 ≤ (s : Int) * absTo cs cs.length ∧ (s : Int) * absTo cs cs.length ≤ 64 * 400 := ⟨Int.mul_nonneg (by omega) (HA.out _).1, Int.mul_le_mul (by omega) (by have := (HA.out cs.length).2; omega) (HA.out _).1 (by omega)⟩
  obtain ⟨R, hR⟩ : ∃ R, R = (l : Int) * s := ⟨_, rfl⟩
  rw [← hR] at HRg HL0 HL1 HY bs
  clear hR
  obtain ⟨Y, hY⟩ : ∃ R, R = safeW l s cs := ⟨_, rfl⟩
  rw [← hY] at HSf HY
  clear hY hmod hq
  have lb : IntKind.i64.wrap ((l : Int) - 1) = (l : Int) - 1 := Go.IntWalk.i64_in _ (by omega)
  have B0c0 := B0.cell 0
  have B0c1 := B0.cell 1
  have B0c2 := B0.cell 2
  simp at B0c0 B0c1 B0c2
  have rm := Lib.hid (own_rd Om)
  go_wp2_with fail
  go_loop [4, 25] (fun m i => ∃ j : Nat, j ≤ cs.length ∧ i = .int .i64 j ∧ m = .int .i64 (absTo cs j)) (fun _ i => cs.length - (intOf i).toNat)
  case atStart => exact ⟨0, by omega, rfl, rfl⟩
  case round =>
    obtain ⟨j, hj, rfl, rfl⟩ := hrel
    by_cases hlt : j < cs.length
    · obtain ⟨a1, rfl, _, z1⟩ := rm.out.at_ hlt
      have k1 := z1 j hlt
      have b1 := HC.out j
      have b2 := HA.out j
      have hs : Hid (absTo cs (j + 1) = absTo cs j + absI (cs.getD j 0)) := rfl
      obtain ⟨v, hv⟩ : ∃ v, v = cs.getD j 0 := ⟨_, rfl⟩
      rw [← hv] at k1 b1 hs
      clear z1 hv
      go_wp2_with (go_at_call 5; refine (abs_any _ _ (by omega) (by omega)).mono ?_; rintro e w' ⟨rfl, rfl⟩)
      go_round
      case rel => exact ⟨j + 1, by omega, by go_num, by rw [hs.out]; rfl⟩
      case measure => simp [intOf]; omega
    · obtain rfl : j = cs.length := by omega
      obtain ⟨a, hae⟩ : ∃ a, a = absTo cs cs.length := ⟨_, rfl⟩
      rw [← hae] at hP HY ⊢
      obtain ⟨P, hPP⟩ : ∃ P, P = (s : Int) * a := ⟨_, rfl⟩
      have eP : (s : Int) * a = P := hPP.symm
      rw [eP] at hP HY
      have sP : IntKind.i64.wrap P = P := Go.IntWalk.i64_in _ (by omega)
      clear hae hPP hlt hj
      obtain ⟨H, hH⟩ : ∃ H, H = R - (s : Int) := ⟨_, rfl⟩
      have eH : R - (s : Int) = H := hH.symm
      rw [eH] at HL0 HL1
      have Hbd : 0 ≤ H ∧ H ≤ 17179869184 := by omega
      have sH : IntKind.i64.wrap H = H := Go.IntWalk.i64_in _ (by omega)
      obtain ⟨L, hL⟩ : ∃ L, L = -H := ⟨_, rfl⟩
      have eL : -L = H := by omega
      rw [← hL] at HL0
      clear hH hL
      have tH : (H == H) = true := by simp
      have bx : Below (w1.alloc (.cells #[.int .i64 l, .int .i64 s, .slice Am cs.length cm] 27)).heap.size (w1.alloc (.cells #[.int .i64 l, .int .i64 s, .slice Am cs.length cm] 27)) ((w1.alloc (.cells #[.int .i64 l, .int .i64 s, .slice Am cs.length cm] 27)).alloc (.cells #[.int .i64 l, .int .i64 s] 24)) := (Below.refl _ _).alloc (Nat.le_refl _) _
      have B1 := Blk.new (w1.alloc (.cells #[.int .i64 l, .int .i64 s, .slice Am cs.length cm] 27)) 24 #[.int .i64 l, .int .i64 s]
      have VB1 : (w1.alloc (.cells #[.int .i64 l, .int .i64 s, .slice Am cs.length cm] 27)).heap.size < ((w1.alloc (.cells #[.int .i64 l, .int .i64 s, .slice Am cs.length cm] 27)).alloc (.cells #[.int .i64 l, .int .i64 s] 24)).heap.size := by simp
      replace Om := own_past Om bx
      replace B0 := B0.past bx
      replace Hb := Lib.hid (thenB Hb.out bx)
      clear bx
      clear B0c0 B0c1 B0c2
      have B0c0 := B0.cell 0
      have B0c1 := B0.cell 1
      have B0c2 := B0.cell 2
      have B1c0 := B1.cell 0
      have B1c1 := B1.cell 1
      simp at B0c0 B0c1 B0c2 B1c0 B1c1
      go_wp2_with fail
      refine (HL0.out _).mono ?_
      rintro e w2 ⟨rfl, h2⟩
      replace Om := own_past Om h2
      replace B0 := B0.past h2
      replace B1 := B1.past h2
      replace Hb := Lib.hid (thenB Hb.out h2)
      have t4 : ((w1.alloc (.cells #[.int .i64 l, .int .i64 s, .slice Am cs.length cm] 27)).alloc (.cells #[.int .i64 l, .int .i64 s] 24)).heap.size ≤ w2.heap.size := h2.size
      clear h2
      clear B0c0 B0c1 B0c2 B1c0 B1c1
      have B0c0 := B0.cell 0
      have B0c1 := B0.cell 1
      have B0c2 := B0.cell 2
      have B1c0 := B1.cell 0
      have B1c1 := B1.cell 1
      simp at B0c0 B0c1 B0c2 B1c0 B1c1
      go_wp2_with fail
      refine (HL1.out _).mono ?_
      rintro e w3 ⟨rfl, h3⟩
      replace Om := own_past Om h3
      replace B0 := B0.past h3
      replace B1 := B1.past h3
      replace Hb := Lib.hid (thenB Hb.out h3)
      have t5 : w2.heap.size ≤ w3.heap.size := h3.size
      clear h3
      clear B0c0 B0c1 B0c2 B1c0 B1c1
      have B0c0 := B0.cell 0
      have B0c1 := B0.cell 1
      have B0c2 := B0.cell 2
      have B1c0 := B1.cell 0
      have B1c1 := B1.cell 1
      simp at B0c0 B0c1 B0c2 B1c0 B1c1
      go_wp2_with fail
      refine (fresh_any _ _ _ _ _ (r0.past Hb.out) (by omega) (by omega) (by omega)).mono ?_
      rintro e w4 ⟨Af, cf, nf, rfl, hnf, Rf, h4⟩
      replace Om := own_past Om h4
      replace B0 := B0.past h4
      replace B1 := B1.past h4
      replace Hb := Lib.hid (thenB Hb.out h4)
      have t6 : w3.heap.size ≤ w4.heap.size := h4.size
      clear h4
      clear B0c0 B0c1 B0c2 B1c0 B1c1
      have B0c0 := B0.cell 0
      have B0c1 := B0.cell 1
      have B0c2 := B0.cell 2
      have B1c0 := B1.cell 0
      have B1c1 := B1.cell 1
      simp at B0c0 B0c1 B0c2 B1c0 B1c1
      go_wp2_with fail
      refine (MakeAccumulator_any _ _ _ _ Rf (by omega)).mono ?_
      rintro e w5 ⟨o, m, rfl, o1, o2, m1, m2, h5⟩
      replace Om := own_past Om h5
      replace B0 := B0.past h5
      replace B1 := B1.past h5
      replace Hb := Lib.hid (thenB Hb.out h5)
      replace Rf := Rf.past h5
      have t7 : w4.heap.size ≤ w5.heap.size := h5.size
      clear h5
      clear Rf
      have bx : Below w5.heap.size w5 (w5.alloc (.cells #[.int .i64 o, .int .i64 m] 33)) := (Below.refl _ _).alloc (Nat.le_refl _) _
      have B2 := Blk.new w5 33 #[.int .i64 o, .int .i64 m]
      have VB2 : w5.heap.size < (w5.alloc (.cells #[.int .i64 o, .int .i64 m] 33)).heap.size := by simp
      replace Om := own_past Om bx
      replace B0 := B0.past bx
      replace B1 := B1.past bx
      replace Hb := Lib.hid (thenB Hb.out bx)
      clear bx
      have hlv := levels_pow (m := m) o1 (show o ≤ 6 by omega) m1 (by omega)
      have HPw : Hid (∀ j : Nat, (2 : Int) ^ (j + 1 - 1) = if j = 0 then 1 else 2 ^ (j - 1) * 2) := two_step
      have HPb : Hid (∀ j : Nat, j ≤ 6 → 1 ≤ (2 : Int) ^ (j - 1) ∧ (2 : Int) ^ (j - 1) ≤ 32) := fun j hj => by have h1 := two_pow_le (j - 1) 5 (by omega); have h2 := two_pow_le 0 (j - 1) (by omega); simp at h1 h2; omega
      have hlc := fun W => implLevelsOf_any o m W
      rw [hlv] at hlc
      obtain ⟨Sh, hSh⟩ : ∃ x, x = (2 : Int) ^ (o - 1) := ⟨_, rfl⟩
      have shb := HPb.out o (by omega)
      rw [← hSh] at hlc shb
      obtain ⟨La, hLa⟩ : ∃ x, x = 1 - Sh := ⟨_, rfl⟩
      have eLa : 1 - Sh = La := hLa.symm
      rw [eLa] at hlc
      have HLc := Lib.hid hlc
      clear hlc
      have HSh := Lib.hid hSh
      clear hSh
      clear hLa hlv
      have sLa : IntKind.i64.wrap La = La := Go.IntWalk.i64_in _ (by omega)
      have tLa : (La == La) = true := by simp
      have tSh : (Sh == Sh) = true := by simp
      clear B0c0 B0c1 B0c2 B1c0 B1c1
      have B0c0 := B0.cell 0
      have B0c1 := B0.cell 1
      have B0c2 := B0.cell 2
      have B1c0 := B1.cell 0
      have B1c1 := B1.cell 1
      have B2c0 := B2.cell 0
      have B2c1 := B2.cell 1
      simp at B0c0 B0c1 B0c2 B1c0 B1c1 B2c0 B2c1
      go_wp2_with fail
      refine (HLc.out _).mono ?_
      rintro e w6 ⟨rfl, h6⟩
      replace Om := own_past Om h6
      replace B0 := B0.past h6
      replace B1 := B1.past h6
      replace B2 := B2.past h6
      replace Hb := Lib.hid (thenB Hb.out h6)
      have t9 : (w5.alloc (.cells #[.int .i64 o, .int .i64 m] 33)).heap.size ≤ w6.heap.size := h6.size
      clear h6
      clear B0c0 B0c1 B0c2 B1c0 B1c1 B2c0 B2c1
      have B0c0 := B0.cell 0
      have B0c1 := B0.cell 1
      have B0c2 := B0.cell 2
      have B1c0 := B1.cell 0
      have B1c1 := B1.cell 1
      have B2c0 := B2.cell 0
      have B2c1 := B2.cell 1
      simp at B0c0 B0c1 B0c2 B1c0 B1c1 B2c0 B2c1
      go_wp2_with fail
      go_loop [15, 16] (fun m i => ∃ j : Nat, 1 ≤ j ∧ j ≤ o ∧ i = .int .i64 j ∧ m = .int .i64 (2 ^ (j - 1))) (fun _ i => o - (intOf i).toNat)
      case atStart => exact ⟨1, by omega, by omega, rfl, rfl⟩
      case round =>
        obtain ⟨j, hj1, hj, rfl, rfl⟩ := hrel
        by_cases hlt : j < o
        · have b1 := HPb.out j (by omega)
          have hp : Hid ((2 : Int) ^ (j + 1 - 1) = 2 ^ (j - 1) * 2) := by have := HPw.out j; rw [if_neg (by omega)] at this; exact this
          obtain ⟨x, hx⟩ : ∃ x, x = (2 : Int) ^ (j - 1) := ⟨_, rfl⟩
          rw [← hx] at b1 hp ⊢
          clear hx
          go_wp2
          go_round
          case rel => exact ⟨j + 1, by omega, by omega, by go_num, by rw [hp.out]⟩
          case measure => simp [intOf]; omega
        · obtain rfl : j = o := by omega
          rw [← HSh.out]
          clear hj1 hj hlt HPw HPb HL0 HL1 HLc HSh
          have bx : Below w6.heap.size w6 w6.drew := (Below.refl _ _).drew
          replace Om := own_past Om bx
          replace B0 := B0.past bx
          replace B1 := B1.past bx
          replace B2 := B2.past bx
          replace Hb := Lib.hid (thenB Hb.out bx)
          clear bx
          have t10 : w6.heap.size ≤ w6.drew.heap.size := Nat.le_refl _
          have sX : IntKind.i64.wrap (R - P) = R - P := Go.IntWalk.i64_in _ (by omega)
          have tX : (R - P == R - P) = true := by simp
          have t1 : ((-1 : Int) == -1) = true := by simp
          have sL : IntKind.i64.wrap (-L) = H := by rw [eL]; exact sH
          clear B0c0 B0c1 B0c2 B1c0 B1c1 B2c0 B2c1
          have B0c0 := B0.cell 0
          have B0c1 := B0.cell 1
          have B0c2 := B0.cell 2
          have B1c0 := B1.cell 0
          have B1c1 := B1.cell 1
          have B2c0 := B2.cell 0
          have B2c1 := B2.cell 1
          simp at B0c0 B0c1 B0c2 B1c0 B1c1 B2c0 B2c1
          rcases Int.lt_or_le (-1) (R - P) with hx | hx
          all_goals
            first | rw [if_pos hx] at HY | rw [if_neg (by omega)] at HY
            rw [HY.out] at HSf
            first | (have tM : ((-1 : Int) == if -1 < R - P then R - P else -1) = true := by rw [if_neg (by omega)]; rfl) | skip
            go_wp2_with fail
            go_region_held3 (fun w' => w'.cell? ⟨w1.heap.size, 0, none⟩ = some (.int .i64 l) ∧ w'.cell? ⟨w1.heap.size, 1, none⟩ = some (.int .i64 s) ∧ w'.cell? ⟨w1.heap.size, 2, none⟩ = some (.slice Am cs.length cm) ∧ w'.cell? ⟨w1.heap.size + 1, 0, none⟩ = some (.int .i64 l) ∧ w'.cell? ⟨w1.heap.size + 1, 1, none⟩ = some (.int .i64 s)) (first | go_keep)
              (first
                | (go_at_call 10; refine (HSf.out _ Am cm (own_rd Om)).mono ?_; rintro e w7 ⟨rfl, hq⟩; replace Om := own_past Om hq; replace B0 := B0.past hq; replace B1 := B1.past hq; replace B2 := B2.past hq; replace Hb := Lib.hid (thenB Hb.out hq); clear hq; clear B0c0 B0c1 B0c2 B1c0 B1c1 B2c0 B2c1; have B0c0 := B0.cell 0; have B0c1 := B0.cell 1; have B0c2 := B0.cell 2; have B1c0 := B1.cell 0; have B1c1 := B1.cell 1; have B2c0 := B2.cell 0; have B2c1 := B2.cell 1; simp at B0c0 B0c1 B0c2 B1c0 B1c1 B2c0 B2c1)
                | (go_at_call 11; refine (HRg.out _).mono ?_; rintro e w7 ⟨rfl, hq⟩; replace Om := own_past Om hq; replace B0 := B0.past hq; replace B1 := B1.past hq; replace B2 := B2.past hq; replace Hb := Lib.hid (thenB Hb.out hq); clear hq; clear B0c0 B0c1 B0c2 B1c0 B1c1 B2c0 B2c1; have B0c0 := B0.cell 0; have B0c1 := B0.cell 1; have B0c2 := B0.cell 2; have B1c0 := B1.cell 0; have B1c1 := B1.cell 1; have B2c0 := B2.cell 0; have B2c1 := B2.cell 1; simp at B0c0 B0c1 B0c2 B1c0 B1c1 B2c0 B2c1))
            go_wp2_with fail
            go_ret
            exact ⟨rfl, Hb.out⟩
set_option maxRecDepth 100000 in
theorem lifted (os : Os) (started : os.Started) (H : Type) (enc : TypeId × Value → H) :
    ReturnsInHanded {} Try.checked os 3 .any (Rows.fnRangesSpec.pre6 enc Try.prog Try.f3 Rows.fnRangesRow.domain false) (Rows.fnRangesSpec.post enc Try.prog Try.f3 false true false false) := by
  refine returnsInHanded_of_change (C := Try.checked) own started (by kernel_rfl) Try.func3
    (ChangeSpec.witness6 (enc := enc) (C := Try.checked) false ⟨#[], #[.slice none 0 0], []⟩ 8 (by kernel_rfl) (by kernel_rfl) (by kernel_rfl) (by kernel_rfl)) ?_
  intro W base args ds gs before hval0 hW hcnd _
  have hval : ∀ (j : Nat) t v, Try.f3.params[j]? = some t → args[j]? = some v → Value.okWide Try.prog W .any base t v := hval0
  have hW' := hW
  obtain ⟨p, q, hA0, hV, rfl, hfz, hnd⟩ := hW
  have hA : DataW.TrodAll enc Try.prog W 0 (fun _ => true) true Try.f3.params.toList args.toList ds p := hA0
  rw [Try.params3] at hA hval
  obtain ⟨v0, vs0, d0, ds0, p0, q0, hargs, rfl, rfl, h0, g0⟩ := trodAll_cons hA
  obtain ⟨rfl, rfl, rfl⟩ := trodAll_nil g0
  obtain rfl : args = #[v0] := by cases args; simp_all
  obtain ⟨rfl, rfl⟩ := trodVars_none hV
  have k0 := h0
  have lt0 : ∀ x ∈ p0, x.block < W.heap.size := by obtain ⟨m, hm⟩ := k0; exact DataW.trod_lt m _ _ _ hm
  obtain ⟨A0, z0, c0, rfl, l0, m0, r0⟩ := arg_bytes Try.underlying22 Try.underlying5 (by kernel_rfl) (hval 0 22 v0 rfl rfl) h0
  clear hA0 hval0
  refine (walkw W A0 z0 c0 l0 m0 r0).mono fun e W' ⟨he, bel⟩ => ?_
  subst he
  exact ⟨_, rfl, _, _, _, [], _, [], hW', trodAll_mk1 (shut_bool Try.underlying4 _), (trodAll_cons_mk (Below.trod laidOut (by kernel_rfl) (of_decide_eq_true (by kernel_rfl)) k0 bel lt0) trodAll_mk0), rfl, bel.frame _, fun h => by cases h⟩
theorem over : Rows.fnRangesRow.holds Try.pinned (OpenSpec.ofChange Rows.fnRangesSpec) :=
  OpenClaim.holds_of_wide 3 Try.f3 rfl rfl rfl rfl rfl rfl rfl ⟨rfl, rfl, rfl, rfl, rfl⟩ rfl rfl rfl rfl rfl (by kernel_rfl) Try.func3 (by kernel_rfl)
    (of_decide_eq_true (by kernel_rfl)) (by unfold Func.isWrapper; first | (rw [if_pos (by decide +kernel)]; kernel_rfl) | (rw [if_neg (by decide +kernel)]; exact ⟨rfl, rfl⟩))
    (fun os started H enc _ => lifted os started H enc)
theorem proved : Rows.FnRangesSaid := over

end Go.Proofs.Ytgpjpbehhjgkeaa.rangesLaw
