/- Contracts of the two readers of a decimal: the reference's l7Read and the program's readDecimal. -/
import Derived.Test.YtgkijkenbjjnmaaGreatDoorSplS
import Derived.Test.YtgkijkenbjjnmaaGreatDoorTxtS
namespace Go.Proofs.YtgkijkenbjjnmaaGreatDoor
open Go.RowKit
set_option linter.unusedVariables false
set_option linter.unusedSimpArgs false
theorem rdP_few {l : List UInt8} (h : l.length < 1) : rdP l = none := by
  unfold rdP; rw [if_neg]; simp; intro h1; omega
theorem rdP_many {l : List UInt8} (h : 13 < l.length) : rdP l = none := by
  unfold rdP; rw [if_neg]; simp; intro h1; omega
theorem rdP_lead {l : List UInt8} (h : 1 < l.length) (h0 : l[0]? = some 48) : rdP l = none := by
  unfold rdP; rw [if_neg]; simp [canonB, h, h0]
theorem rdP_bad {l : List UInt8} {k : Nat} (hk : k < l.length) (h : dgB l[k] = false) : rdP l = none := by
  have : l.all dgB = false := by rw [List.all_eq_false]; exact ⟨l[k], List.getElem_mem hk, by simp [h]⟩
  unfold rdP; rw [if_neg]; simp [this]
theorem rdP_good {l : List UInt8} (h1 : 1 ≤ l.length) (h2 : l.length ≤ 13) (ha : l.all dgB = true) (hc : canonB l = true) : rdP l = some (val l) := by
  unfold rdP; rw [if_pos]; simp [h1, h2, ha, hc]
theorem val_take {l : List UInt8} {k : Nat} (hk : k < l.length) (hd : dgB l[k] = true) : ((val (l.take (k + 1)) : Nat) : Int) = 10 * (val (l.take k) : Nat) + ((l[k].toNat : Int) - 48) := by
  have := dgB_of hd
  rw [List.take_succ_eq_append_getElem hk, val_snoc]; omega
theorem val_bd {l : List UInt8} (ha : l.all dgB = true) (h : l.length ≤ 13) : val l < 10000000000000 := by
  have a := val_lt _ l rfl ha
  have b : 10 ^ l.length ≤ 10 ^ 13 := Nat.pow_le_pow_right (by omega) h
  omega
theorem all_take {l : List UInt8} {k : Nat} (hk : k < l.length) (h : (l.take k).all dgB = true) (hd : dgB l[k] = true) : (l.take (k + 1)).all dgB = true := by
  rw [List.take_succ_eq_append_getElem hk, List.all_append, h]; simp [hd]
theorem wrap8s {x : Int} (h1 : 48 ≤ x) (h2 : x < 256) : IntKind.u8.wrap (x - 48) = x - 48 := wrap8 (by omega) (by omega)
/-- What the reader of a number gives: the number, or 0. -/
def rpV (l : List UInt8) : Int := ((rdP l).getD 0 : Nat)
def rpB (l : List UInt8) : Bool := (rdP l).isSome
theorem rp_none {l : List UInt8} (h : rdP l = none) : rpV l = 0 ∧ rpB l = false := by simp [rpV, rpB, h]
set_option maxRecDepth 100000 in
set_option maxHeartbeats 1000000 in
theorem l7Read_pos (s : ByteArray) (w : World) (hs : s.size ≤ 9223372036854775807) (hneg : ∀ h : 1 < s.size, s[0] = 45 → s[1] = 45) :
    Calls Tryz.prog 119 #[.string s] w fun e w' => e = .returned (.tuple #[.int .i64 (rpV s.data.toList), .bool (rpB s.data.toList)]) ∧ w = w' := by
  have HL := Lib.hid (sizeL s)
  by_cases h1 : s.size < 1
  · obtain ⟨e1, e2⟩ := rp_none (rdP_few (l := s.data.toList) (by rw [HL.out]; omega))
    rw [e1, e2]
    clear e1 e2 hneg
    go_enter Tryz.func119, Tryz.ntmps119
    go_wp2
    go_ret2
    exact ⟨rfl, rfl⟩
  · have b0 := Lib.hid (byteL s 0 (by omega))
    have p0 : 0 < s.size := by omega
    have d1 : decide ((s.size : Int) < 1) = false := by rw [decide_eq_false_iff_not]; omega
    by_cases h13 : 13 < s.size
    · obtain ⟨e1, e2⟩ := rp_none (rdP_many (l := s.data.toList) (by rw [HL.out]; omega))
      rw [e1, e2]
      have p1 : 1 < s.size := by omega
      have d2 : decide ((13 : Int) < (s.size : Int)) = true := by rw [decide_eq_true_eq]; omega
      have d3 : decide ((1 : Int) < (s.size : Int)) = true := by rw [decide_eq_true_eq]; omega
      clear e1 e2 b0 h1
      by_cases c0 : s[0] = 45
      · have t0 : (((s[0].toNat : Nat) : Int) == 45) = true := by rw [c0]; rfl
        have t1 : (((s[1].toNat : Nat) : Int) != 45) = false := by rw [hneg p1 c0]; rfl
        clear hneg c0
        go_enter Tryz.func119, Tryz.ntmps119
        go_wp2
        go_ret2
        exact ⟨rfl, rfl⟩
      · have t0 : (((s[0].toNat : Nat) : Int) == 45) = false := by
          rw [beq_eq_false_iff_ne]; exact fun h => c0 (Lib.byte_eq_of_toNat h)
        clear hneg c0
        go_enter Tryz.func119, Tryz.ntmps119
        go_wp2
        go_ret2
        exact ⟨rfl, rfl⟩
    · have d2 : decide ((13 : Int) < (s.size : Int)) = false := by rw [decide_eq_false_iff_not]; omega
      by_cases z : 1 < s.size ∧ s[0] = 48
      · obtain ⟨p1, z0⟩ := z
        have d3 : decide ((1 : Int) < (s.size : Int)) = true := by rw [decide_eq_true_eq]; omega
        obtain ⟨e1, e2⟩ := rp_none (rdP_lead (l := s.data.toList) (by rw [HL.out]; omega) (by rw [List.getElem?_eq_getElem (by rw [HL.out]; omega), b0.out, z0]))
        rw [e1, e2]
        have t0 : (((s[0].toNat : Nat) : Int) == 45) = false := by rw [z0]; rfl
        have t2 : (((s[0].toNat : Nat) : Int) == 48) = true := by rw [z0]; rfl
        clear e1 e2 b0 h1 hneg z0
        go_enter Tryz.func119, Tryz.ntmps119
        go_wp2
        go_ret2
        exact ⟨rfl, rfl⟩
      · have HC : Hid (canonB s.data.toList = true) := by
          show _ = _
          by_cases h1' : 1 < s.size
          · have hz : ¬ s[0] = 48 := fun h => z ⟨h1', h⟩
            simp only [canonB]
            rw [List.getElem?_eq_getElem (by rw [HL.out]; omega), b0.out]
            simp [hz]
          · simp only [canonB]; rw [show decide (1 < s.data.toList.length) = false by rw [decide_eq_false_iff_not, HL.out]; omega]; simp
        have HA : Hid (∀ h : s.data.toList.all dgB = true, rpV s.data.toList = (val s.data.toList : Nat) ∧ rpB s.data.toList = true) := fun h => by
          have := rdP_good (l := s.data.toList) (by rw [HL.out]; omega) (by rw [HL.out]; omega) h HC.out
          simp [rpV, rpB, this]
        have HB : Hid (∀ k (h : k < s.size), dgB s[k] = false → rpV s.data.toList = 0 ∧ rpB s.data.toList = false) := fun k h hd =>
          rp_none (rdP_bad (l := s.data.toList) (k := k) (by rw [HL.out]; omega) (by rw [byteL s k h]; exact hd))
        have h13' : s.size ≤ 13 := by omega
        obtain ⟨V, hV⟩ : ∃ V, V = rpV s.data.toList := ⟨_, rfl⟩
        obtain ⟨K, hK⟩ : ∃ K, K = rpB s.data.toList := ⟨_, rfl⟩
        rw [← hV, ← hK] at HA HB ⊢
        clear hV hK HC h13
        have ways : (s.size = 1) ∨ (1 < s.size ∧ s[0] = 45) ∨ (1 < s.size ∧ s[0] ≠ 45 ∧ s[0] ≠ 48) := by
          by_cases h1' : 1 < s.size
          · by_cases h45 : s[0] = 45
            · exact .inr (.inl ⟨h1', h45⟩)
            · exact .inr (.inr ⟨h1', h45, fun h => z ⟨h1', h⟩⟩)
          · exact .inl (by omega)
        clear z h1 b0
        rcases ways with z1 | ⟨z1, z2⟩ | ⟨z1, z2, z3⟩
        · have d3 : decide ((1 : Int) < (s.size : Int)) = false := by rw [decide_eq_false_iff_not]; omega
          have zz : s.size ≤ 1 := by omega
          rcases Bool.eq_false_or_eq_true (((s[0].toNat : Nat) : Int) == 48) with t3 | t3
          all_goals
            clear hneg z1
            go_enter Tryz.func119, Tryz.ntmps119
            go_wp2_with fail
            go_loop [6, 7] (fun q i => ∃ (k v : Nat), k ≤ s.size ∧ i = .int .i64 k ∧ q = .int .i64 v ∧ v < 10000000000000 ∧ Hid (v = val (s.data.toList.take k)) ∧ Hid ((s.data.toList.take k).all dgB = true)) (fun _ i => s.size - (intOf i).toNat)
            case atStart => exact ⟨0, 0, by omega, rfl, rfl, by omega, by show _ = _; simp [val], by show _ = _; simp⟩
            case round =>
              obtain ⟨k, v, hk, rfl, rfl, hv, Hv, Ha⟩ := hrel
              by_cases hlt : k < s.size
              · have hkl : k < s.data.toList.length := by rw [HL.out]; exact hlt
                have hbt := byteL s k hlt
                have hbx : (s[k].toNat : Int) < 256 := by have := s[k].toNat_lt; omega
                rcases Bool.eq_false_or_eq_true (dgB s[k]) with hd | hd
                · have hdb := dgB_of hd
                  have u1 : decide ((((s[k].toNat : Nat) : Int)) < 48) = false := by rw [decide_eq_false_iff_not]; omega
                  have u2 : decide ((57 : Int) < ((s[k].toNat : Nat) : Int)) = false := by rw [decide_eq_false_iff_not]; omega
                  have w8 := wrap8s (x := (s[k].toNat : Int)) (by omega) hbx
                  have HV : Hid (((val (s.data.toList.take (k + 1)) : Nat) : Int) = 10 * (v : Int) + ((s[k].toNat : Int) - 48)) := by
                    show _ = _; rw [Hv.out, ← hbt]; exact val_take hkl (by rw [hbt]; exact hd)
                  have HA2 : Hid ((s.data.toList.take (k + 1)).all dgB = true) := all_take hkl Ha.out (by rw [hbt]; exact hd)
                  have hv2 := val_bd HA2.out (by rw [List.length_take]; omega)
                  have hc48 : 48 ≤ (s[k].toNat : Int) := by omega
                  clear hd hdb hbt
                  go_wp2
                  go_round
                  case rel => exact ⟨k + 1, val (s.data.toList.take (k + 1)), by omega, by go_num, by rw [HV.out], hv2, rfl, HA2.out⟩
                  case measure => simp [intOf]; omega
                · obtain ⟨e1, e2⟩ := HB.out k hlt hd
                  have hnd : s[k].toNat < 48 ∨ 57 < s[k].toNat := by
                    simp only [dgB, Bool.and_eq_false_iff, decide_eq_false_iff_not] at hd; omega
                  have E1 := Lib.hid e1
                  have E2 := Lib.hid e2
                  clear hbt hd e1 e2
                  rcases hnd with hnd | hnd
                  · have u1 : decide ((((s[k].toNat : Nat) : Int)) < 48) = true := by rw [decide_eq_true_eq]; omega
                    go_wp2
                    go_ret2
                    rw [E1.out, E2.out]
                    exact ⟨rfl, rfl⟩
                  · have u1 : decide ((((s[k].toNat : Nat) : Int)) < 48) = false := by rw [decide_eq_false_iff_not]; omega
                    have u2 : decide ((57 : Int) < ((s[k].toNat : Nat) : Int)) = true := by rw [decide_eq_true_eq]; omega
                    go_wp2
                    go_ret2
                    rw [E1.out, E2.out]
                    exact ⟨rfl, rfl⟩
              · obtain rfl : k = s.size := by omega
                have ht : s.data.toList.take s.size = s.data.toList := List.take_of_length_le (by rw [HL.out]; exact Nat.le_refl _)
                have hv1 := Hv.out
                have ha1 := Ha.out
                rw [ht] at hv1 ha1
                obtain ⟨e1, e2⟩ := HA.out ha1
                rw [← hv1] at e1
                have E1 := Lib.hid e1
                have E2 := Lib.hid e2
                clear ht hv1 ha1 e1 e2
                go_wp2
                go_ret2
                rw [E1.out, E2.out]
                exact ⟨rfl, rfl⟩
        · have d3 : decide ((1 : Int) < (s.size : Int)) = true := by rw [decide_eq_true_eq]; omega
          have t0 : (((s[0].toNat : Nat) : Int) == 45) = true := by rw [z2]; rfl
          have t2 : (((s[0].toNat : Nat) : Int) == 48) = false := by rw [z2]; rfl
          have t1 : (((s[1].toNat : Nat) : Int) != 45) = false := by rw [hneg z1 z2]; rfl
          clear hneg z2
          go_enter Tryz.func119, Tryz.ntmps119
          go_wp2_with fail
          go_loop [6, 7] (fun q i => ∃ (k v : Nat), k ≤ s.size ∧ i = .int .i64 k ∧ q = .int .i64 v ∧ v < 10000000000000 ∧ Hid (v = val (s.data.toList.take k)) ∧ Hid ((s.data.toList.take k).all dgB = true)) (fun _ i => s.size - (intOf i).toNat)
          case atStart => exact ⟨0, 0, by omega, rfl, rfl, by omega, by show _ = _; simp [val], by show _ = _; simp⟩
          case round =>
            obtain ⟨k, v, hk, rfl, rfl, hv, Hv, Ha⟩ := hrel
            by_cases hlt : k < s.size
            · have hkl : k < s.data.toList.length := by rw [HL.out]; exact hlt
              have hbt := byteL s k hlt
              have hbx : (s[k].toNat : Int) < 256 := by have := s[k].toNat_lt; omega
              rcases Bool.eq_false_or_eq_true (dgB s[k]) with hd | hd
              · have hdb := dgB_of hd
                have u1 : decide ((((s[k].toNat : Nat) : Int)) < 48) = false := by rw [decide_eq_false_iff_not]; omega
                have u2 : decide ((57 : Int) < ((s[k].toNat : Nat) : Int)) = false := by rw [decide_eq_false_iff_not]; omega
                have w8 := wrap8s (x := (s[k].toNat : Int)) (by omega) hbx
                have HV : Hid (((val (s.data.toList.take (k + 1)) : Nat) : Int) = 10 * (v : Int) + ((s[k].toNat : Int) - 48)) := by
                  show _ = _; rw [Hv.out, ← hbt]; exact val_take hkl (by rw [hbt]; exact hd)
                have HA2 : Hid ((s.data.toList.take (k + 1)).all dgB = true) := all_take hkl Ha.out (by rw [hbt]; exact hd)
                have hv2 := val_bd HA2.out (by rw [List.length_take]; omega)
                have hc48 : 48 ≤ (s[k].toNat : Int) := by omega
                clear hd hdb hbt
                go_wp2
                go_round
                case rel => exact ⟨k + 1, val (s.data.toList.take (k + 1)), by omega, by go_num, by rw [HV.out], hv2, rfl, HA2.out⟩
                case measure => simp [intOf]; omega
              · obtain ⟨e1, e2⟩ := HB.out k hlt hd
                have hnd : s[k].toNat < 48 ∨ 57 < s[k].toNat := by
                  simp only [dgB, Bool.and_eq_false_iff, decide_eq_false_iff_not] at hd; omega
                have E1 := Lib.hid e1
                have E2 := Lib.hid e2
                clear hbt hd e1 e2
                rcases hnd with hnd | hnd
                · have u1 : decide ((((s[k].toNat : Nat) : Int)) < 48) = true := by rw [decide_eq_true_eq]; omega
                  go_wp2
                  go_ret2
                  rw [E1.out, E2.out]
                  exact ⟨rfl, rfl⟩
                · have u1 : decide ((((s[k].toNat : Nat) : Int)) < 48) = false := by rw [decide_eq_false_iff_not]; omega
                  have u2 : decide ((57 : Int) < ((s[k].toNat : Nat) : Int)) = true := by rw [decide_eq_true_eq]; omega
                  go_wp2
                  go_ret2
                  rw [E1.out, E2.out]
                  exact ⟨rfl, rfl⟩
            · obtain rfl : k = s.size := by omega
              have ht : s.data.toList.take s.size = s.data.toList := List.take_of_length_le (by rw [HL.out]; exact Nat.le_refl _)
              have hv1 := Hv.out
              have ha1 := Ha.out
              rw [ht] at hv1 ha1
              obtain ⟨e1, e2⟩ := HA.out ha1
              rw [← hv1] at e1
              have E1 := Lib.hid e1
              have E2 := Lib.hid e2
              clear ht hv1 ha1 e1 e2
              go_wp2
              go_ret2
              rw [E1.out, E2.out]
              exact ⟨rfl, rfl⟩
        · have d3 : decide ((1 : Int) < (s.size : Int)) = true := by rw [decide_eq_true_eq]; omega
          have t0 : (((s[0].toNat : Nat) : Int) == 45) = false := by
            rw [beq_eq_false_iff_ne]; exact fun h => z2 (Lib.byte_eq_of_toNat h)
          have t2 : (((s[0].toNat : Nat) : Int) == 48) = false := by
            rw [beq_eq_false_iff_ne]; exact fun h => z3 (Lib.byte_eq_of_toNat h)
          clear hneg z2 z3
          go_enter Tryz.func119, Tryz.ntmps119
          go_wp2_with fail
          go_loop [6, 7] (fun q i => ∃ (k v : Nat), k ≤ s.size ∧ i = .int .i64 k ∧ q = .int .i64 v ∧ v < 10000000000000 ∧ Hid (v = val (s.data.toList.take k)) ∧ Hid ((s.data.toList.take k).all dgB = true)) (fun _ i => s.size - (intOf i).toNat)
          case atStart => exact ⟨0, 0, by omega, rfl, rfl, by omega, by show _ = _; simp [val], by show _ = _; simp⟩
          case round =>
            obtain ⟨k, v, hk, rfl, rfl, hv, Hv, Ha⟩ := hrel
            by_cases hlt : k < s.size
            · have hkl : k < s.data.toList.length := by rw [HL.out]; exact hlt
              have hbt := byteL s k hlt
              have hbx : (s[k].toNat : Int) < 256 := by have := s[k].toNat_lt; omega
              rcases Bool.eq_false_or_eq_true (dgB s[k]) with hd | hd
              · have hdb := dgB_of hd
                have u1 : decide ((((s[k].toNat : Nat) : Int)) < 48) = false := by rw [decide_eq_false_iff_not]; omega
                have u2 : decide ((57 : Int) < ((s[k].toNat : Nat) : Int)) = false := by rw [decide_eq_false_iff_not]; omega
                have w8 := wrap8s (x := (s[k].toNat : Int)) (by omega) hbx
                have HV : Hid (((val (s.data.toList.take (k + 1)) : Nat) : Int) = 10 * (v : Int) + ((s[k].toNat : Int) - 48)) := by
                  show _ = _; rw [Hv.out, ← hbt]; exact val_take hkl (by rw [hbt]; exact hd)
                have HA2 : Hid ((s.data.toList.take (k + 1)).all dgB = true) := all_take hkl Ha.out (by rw [hbt]; exact hd)
                have hv2 := val_bd HA2.out (by rw [List.length_take]; omega)
                have hc48 : 48 ≤ (s[k].toNat : Int) := by omega
                clear hd hdb hbt
                go_wp2
                go_round
                case rel => exact ⟨k + 1, val (s.data.toList.take (k + 1)), by omega, by go_num, by rw [HV.out], hv2, rfl, HA2.out⟩
                case measure => simp [intOf]; omega
              · obtain ⟨e1, e2⟩ := HB.out k hlt hd
                have hnd : s[k].toNat < 48 ∨ 57 < s[k].toNat := by
                  simp only [dgB, Bool.and_eq_false_iff, decide_eq_false_iff_not] at hd; omega
                have E1 := Lib.hid e1
                have E2 := Lib.hid e2
                clear hbt hd e1 e2
                rcases hnd with hnd | hnd
                · have u1 : decide ((((s[k].toNat : Nat) : Int)) < 48) = true := by rw [decide_eq_true_eq]; omega
                  go_wp2
                  go_ret2
                  rw [E1.out, E2.out]
                  exact ⟨rfl, rfl⟩
                · have u1 : decide ((((s[k].toNat : Nat) : Int)) < 48) = false := by rw [decide_eq_false_iff_not]; omega
                  have u2 : decide ((57 : Int) < ((s[k].toNat : Nat) : Int)) = true := by rw [decide_eq_true_eq]; omega
                  go_wp2
                  go_ret2
                  rw [E1.out, E2.out]
                  exact ⟨rfl, rfl⟩
            · obtain rfl : k = s.size := by omega
              have ht : s.data.toList.take s.size = s.data.toList := List.take_of_length_le (by rw [HL.out]; exact Nat.le_refl _)
              have hv1 := Hv.out
              have ha1 := Ha.out
              rw [ht] at hv1 ha1
              obtain ⟨e1, e2⟩ := HA.out ha1
              rw [← hv1] at e1
              have E1 := Lib.hid e1
              have E2 := Lib.hid e2
              clear ht hv1 ha1 e1 e2
              go_wp2
              go_ret2
              rw [E1.out, E2.out]
              exact ⟨rfl, rfl⟩
theorem rd_neg {l : List UInt8} (h : l[0]? = some 45) : rd l = match rdP (l.drop 1) with
    | some (n + 1) => some (-((n + 1 : Nat) : Int))
    | _ => none := by
  unfold rd; rw [if_pos h]
  cases rdP (l.drop 1) with
  | none => rfl
  | some n => cases n <;> rfl
theorem rd_posi {l : List UInt8} (h : l[0]? ≠ some 45) : rdV l = rpV l ∧ rdB l = rpB l := by
  unfold rdV rdB rd rpV rpB
  rw [if_neg h]
  cases rdP l <;> simp
theorem rdP_45 {l : List UInt8} (h : l[0]? = some 45) : rdP l = none := by
  have hl := (List.getElem?_eq_some_iff.1 h).1
  refine rdP_bad hl ?_
  have := (List.getElem?_eq_some_iff.1 h).2
  rw [this]; rfl
theorem rd_no45 {l : List UInt8} (h : l[0]? = some 45) (h2 : (l.drop 1)[0]? = some 45 ∨ (l.drop 1).length < 1) : rdV l = rpV l ∧ rdB l = rpB l := by
  have e : rdP (l.drop 1) = none := by
    rcases h2 with h2 | h2
    · exact rdP_45 h2
    · exact rdP_few h2
  unfold rdV rdB rpV rpB
  rw [rd_neg h, e, rdP_45 h]; simp
theorem rd_neg_val {l : List UInt8} (h : l[0]? = some 45) : rdV l = -(rpV (l.drop 1)) ∧ rdB l = (rpB (l.drop 1) && (rpV (l.drop 1) != 0)) := by
  unfold rdV rdB rpV rpB
  rw [rd_neg h]
  cases hq : rdP (l.drop 1) with
  | none => simp
  | some n =>
    cases n with
    | zero => simp
    | succ n => simp; omega
theorem rpV_bd (l : List UInt8) : 0 ≤ rpV l ∧ rpV l ≤ 10000000000000 := by
  unfold rpV
  cases hq : rdP l with
  | none => simp
  | some n => have := ((rdP_iff l n).1 hq).2; simp; omega
set_option maxRecDepth 100000 in
set_option maxHeartbeats 1000000 in
theorem l7Read_any (s : ByteArray) (w : World) (hs : s.size ≤ 9223372036854775807) :
    Calls Tryz.prog 119 #[.string s] w fun e w' => e = .returned (.tuple #[.int .i64 (rdV s.data.toList), .bool (rdB s.data.toList)]) ∧ w = w' := by
  have hl := sizeL s
  by_cases hc : ∃ h : 1 < s.size, s[0] = 45 ∧ s[1] ≠ 45
  · obtain ⟨p1, c0, c1⟩ := hc
    have p0 : 0 < s.size := by omega
    have b0 := byteL s 0 (by omega)
    have b1 := byteL s 1 p1
    have hh : s.data.toList[0]? = some 45 := by rw [List.getElem?_eq_getElem (by omega), b0, c0]
    obtain ⟨e1, e2⟩ := rd_neg_val hh
    have et := Lib.extract_to_end s 1
    have hts : (s.extract 1 s.size).size = s.size - 1 := by rw [Lib.size_eq, et, List.length_drop]; omega
    have hcall := fun W => l7Read_pos (s.extract 1 s.size) W (by omega) (fun h h45 => by
      exfalso
      have q := byteL (s.extract 1 s.size) 0 (by omega)
      rw [h45] at q
      have q2 : (s.extract 1 s.size).data.toList[0]? = some 45 := by rw [List.getElem?_eq_getElem (by rw [sizeL]; omega), q]
      rw [et, List.getElem?_drop, List.getElem?_eq_getElem (by omega), b1] at q2
      exact c1 (Option.some.inj q2))
    rw [et] at hcall
    have hb := rpV_bd (s.data.toList.drop 1)
    rw [e1, e2]
    obtain ⟨V, hV⟩ : ∃ V, V = rpV (s.data.toList.drop 1) := ⟨_, rfl⟩
    obtain ⟨K, hK⟩ : ∃ K, K = rpB (s.data.toList.drop 1) := ⟨_, rfl⟩
    rw [← hV, ← hK] at hcall
    rw [← hV] at hb
    rw [← hV, ← hK]
    have HC := Lib.hid hcall
    have t0 : ((((s[0]'p0).toNat : Nat) : Int) == 45) = true := by rw [c0]; rfl
    have t1 : ((((s[1]'p1).toNat : Nat) : Int) != 45) = true := by
      rw [bne_iff_ne]; exact fun h => c1 (Lib.byte_eq_of_toNat h)
    have d3 : decide ((1 : Int) < (s.size : Int)) = true := by rw [decide_eq_true_eq]; omega
    have sV : IntKind.i64.wrap (-V) = -V := Go.IntWalk.i64_in _ (by omega)
    clear hcall hV hK c0 c1 b0 b1 hh et hl e1 e2 hts
    cases K
    · go_enter Tryz.func119, Tryz.ntmps119
      go_wp2_with fail
      (with_reducible refine (HC.out _).mono ?_)
      rintro e w' ⟨rfl, rfl⟩
      go_wp2
      go_ret2
      exact ⟨rfl, rfl⟩
    · rcases Bool.eq_false_or_eq_true (V != 0) with hz | hz
      all_goals
        go_enter Tryz.func119, Tryz.ntmps119
        go_wp2_with fail
        (with_reducible refine (HC.out _).mono ?_)
        rintro e w' ⟨rfl, rfl⟩
        go_wp2
        go_ret2
        exact ⟨by rw [hz]; rfl, rfl⟩
  · have key : rdV s.data.toList = rpV s.data.toList ∧ rdB s.data.toList = rpB s.data.toList := by
      by_cases h0 : s.data.toList[0]? = some 45
      · refine rd_no45 h0 ?_
        by_cases p1 : 1 < s.size
        · refine .inl ?_
          have c0 : s[0] = 45 := by
            rw [List.getElem?_eq_getElem (by omega), byteL s 0 (by omega)] at h0
            exact Option.some.inj h0
          have c1 : s[1] = 45 := by
            rcases Decidable.em (s[1] = 45) with h | h
            · exact h
            · exact absurd ⟨p1, c0, h⟩ hc
          rw [List.getElem?_drop, List.getElem?_eq_getElem (by omega), byteL s 1 p1, c1]
        · refine .inr ?_
          rw [List.length_drop]; omega
      · exact rd_posi h0
    rw [key.1, key.2]
    refine l7Read_pos s w hs fun h h45 => ?_
    rcases Decidable.em (s[1] = 45) with h1 | h1
    · exact h1
    · exact absurd ⟨h, h45, h1⟩ hc
def trim (l : List UInt8) : List UInt8 := if l[0]? = some 45 then l.drop 1 else l
theorem trim_eq (l : List UInt8) : Lib.trimPrefix l [45] = trim l := by
  unfold Lib.trimPrefix trim Lib.hasPrefix
  cases l with
  | nil => rfl
  | cons x r => by_cases h : x = 45 <;> simp [h, List.isPrefixOf]; intro e; exact absurd e.symm h
theorem rd_trim_no {l : List UInt8} (h : rdP (trim l) = none) : rdB l = false := by
  unfold trim at h
  split at h
  · rename_i h0
    have := (rd_neg_val h0).2
    rw [this, show rpB (l.drop 1) = false by simp only [rpB, h]; rfl]; rfl
  · rename_i h0
    rw [(rd_posi h0).2]; simp [rpB, h]
def sgn (l : List UInt8) (v : Int) : Int := if l[0]? = some 45 then -v else v
theorem rd_trim {l : List UInt8} (h1 : 1 ≤ (trim l).length) (h2 : (trim l).length ≤ 13) (ha : (trim l).all dgB = true) : rd l = if decI (sgn l (val (trim l))) = l then some (sgn l (val (trim l))) else none := by
  have hb := val_bd ha h2
  split
  · rename_i h
    refine (rd_iff _ _).2 ⟨h.symm, ?_⟩
    unfold sgn; split <;> omega
  · rename_i h
    cases hq : rd l with
    | none => rfl
    | some m =>
      exfalso
      obtain ⟨e1, e2⟩ := (rd_iff l m).1 hq
      apply h
      have key : sgn l (val (trim l)) = m := by
        unfold sgn trim
        by_cases hm : m < 0
        · obtain ⟨k, rfl⟩ : ∃ k : Nat, m = -((k + 1 : Nat) : Int) := ⟨m.natAbs - 1, by omega⟩
          rw [decI_neg (k + 1) (by omega)] at e1
          rw [if_pos (by rw [e1]; rfl), if_pos (by rw [e1]; rfl), e1]
          simp [val_decL]
        · obtain ⟨k, rfl⟩ : ∃ k : Nat, m = k := ⟨m.natAbs, by omega⟩
          rw [decI_pos] at e1
          have hn := decL_no45 k
          rw [← e1] at hn
          rw [if_neg hn, if_neg hn, e1, val_decL]
      rw [key, ← e1]
def RetRd (l : List UInt8) (w : World) (e : Ending) (w' : World) : Prop := ∃ v : Int, e = .returned (.tuple #[.int .i64 v, .bool (rdB l)]) ∧ (rdB l = true → v = rdV l) ∧ w = w'
theorem retRd_no {l : List UInt8} {w : World} {v : Int} (h : rdB l = false) : RetRd l w (.returned (.tuple #[.int .i64 v, .bool false])) w := ⟨v, by rw [h], (fun h2 => by rw [h] at h2; cases h2), rfl⟩
set_option maxRecDepth 100000 in
set_option maxHeartbeats 1000000 in
theorem implRead_any (s : ByteArray) (w : World) (hs : s.size ≤ 9223372036854775807) : Calls Tryz.prog 90 #[.string s] w (RetRd s.data.toList w) := by
  have hT := fun W => Tryz.strings_TrimPrefix s ⟨#[45]⟩ W
  rw [show (ByteArray.mk #[45]).data.toList = [45] from rfl, trim_eq] at hT
  have hz : (bs (trim s.data.toList)).size = (trim s.data.toList).length := bs_size _
  have hts : (s.data.toList[0]? = some 45 → (trim s.data.toList).length + 1 = s.size) ∧ (s.data.toList[0]? ≠ some 45 → (trim s.data.toList).length = s.size) := by
    unfold trim
    constructor
    · intro h; rw [if_pos h, List.length_drop, sizeL]; have := (List.getElem?_eq_some_iff.1 h).1; rw [sizeL] at this; omega
    · intro h; rw [if_neg h, sizeL]
  obtain ⟨t, ht⟩ : ∃ t, t = bs (trim s.data.toList) := ⟨_, rfl⟩
  have hT2 : Hid (∀ W, Calls Tryz.prog 124 #[.string s, .string ⟨#[45]⟩] W fun e w' => e = .returned (.string t) ∧ W = w') := fun W => (hT W).mono fun e w' ⟨he, hw⟩ => ⟨by rw [he, ht]; rfl, hw.symm⟩
  have htl : t.data.toList = trim s.data.toList := by rw [ht]; simp [bs]
  rw [← ht] at hz
  clear hT ht
  by_cases h0 : (trim s.data.toList).length = 0
  · have e := rd_trim_no (rdP_few (l := trim s.data.toList) (by omega))
    have te : t = ⟨#[]⟩ := by
      have : t.data.toList = [] := by rw [htl]; exact List.eq_nil_of_length_eq_zero h0
      rw [← bs_list t, this]; rfl
    subst te
    have E := Lib.hid e
    clear e hz hts htl h0
    go_enter Tryz.func90, Tryz.ntmps90
    go_wp2_with fail
    (with_reducible refine (hT2.out _).mono ?_)
    rintro e w' ⟨rfl, rfl⟩
    go_wp2
    go_ret2
    exact retRd_no E.out
  · have tne : t.toList.isEmpty = false := by
      rw [ByteArray.toList_eq, htl]
      cases hq : trim s.data.toList with
      | nil => rw [hq] at h0; exact absurd rfl h0
      | cons a b => rfl
    have p0 : 1 ≤ t.size := by omega
    by_cases h13 : 13 < t.size
    · have e := rd_trim_no (rdP_many (l := trim s.data.toList) (by omega))
      have E := Lib.hid e
      have d2 : decide ((13 : Int) < (t.size : Int)) = true := by rw [decide_eq_true_eq]; omega
      clear e hz hts htl h0
      go_enter Tryz.func90, Tryz.ntmps90
      go_wp2_with fail
      (with_reducible refine (hT2.out _).mono ?_)
      rintro e w' ⟨rfl, rfl⟩
      go_wp2
      go_ret2
      exact retRd_no E.out
    · have d2 : decide ((13 : Int) < (t.size : Int)) = false := by rw [decide_eq_false_iff_not]; omega
      have HZ := Lib.hid hz
      have HTL := Lib.hid htl
      have HTS := Lib.hid hts
      have TL := Lib.hid (sizeL t)
      have h13' : t.size ≤ 13 := by omega
      clear hz htl hts h0 h13
      go_enter Tryz.func90, Tryz.ntmps90
      go_wp2_with fail
      (with_reducible refine (hT2.out _).mono ?_)
      rintro e w' ⟨rfl, rfl⟩
      go_wp2_with fail
      go_loop [5, 18] (fun q i => ∃ (k v : Nat), k ≤ t.size ∧ i = .int .i64 k ∧ q = .int .i64 v ∧ v < 10000000000000 ∧ Hid (v = val (t.data.toList.take k)) ∧ Hid ((t.data.toList.take k).all dgB = true)) (fun _ i => t.size - (intOf i).toNat)
      case atStart => exact ⟨0, 0, by omega, rfl, rfl, by omega, by show _ = _; simp [val], by show _ = _; simp⟩
      case round =>
        obtain ⟨k, v, hk, rfl, rfl, hv, Hv, Ha⟩ := hrel
        by_cases hlt : k < t.size
        · have hkl : k < t.data.toList.length := by rw [TL.out]; exact hlt
          have hbt := byteL t k hlt
          have hbx : (t[k].toNat : Int) < 256 := by have := t[k].toNat_lt; omega
          rcases Bool.eq_false_or_eq_true (dgB t[k]) with hd | hd
          · have hdb := dgB_of hd
            have u1 : decide ((((t[k].toNat : Nat) : Int)) < 48) = false := by rw [decide_eq_false_iff_not]; omega
            have u2 : decide ((57 : Int) < ((t[k].toNat : Nat) : Int)) = false := by rw [decide_eq_false_iff_not]; omega
            have w8 := wrap8s (x := (t[k].toNat : Int)) (by omega) hbx
            have HV : Hid (((val (t.data.toList.take (k + 1)) : Nat) : Int) = 10 * (v : Int) + ((t[k].toNat : Int) - 48)) := by
              show _ = _; rw [Hv.out, ← hbt]; exact val_take hkl (by rw [hbt]; exact hd)
            have HA2 : Hid ((t.data.toList.take (k + 1)).all dgB = true) := all_take hkl Ha.out (by rw [hbt]; exact hd)
            have hv2 := val_bd HA2.out (by rw [List.length_take]; omega)
            have hc48 : 48 ≤ (t[k].toNat : Int) := by omega
            clear hd hdb hbt
            go_wp2
            go_round
            case rel => exact ⟨k + 1, val (t.data.toList.take (k + 1)), by omega, by go_num, by rw [HV.out], hv2, rfl, HA2.out⟩
            case measure => simp [intOf]; omega
          · have e1 := rd_trim_no (rdP_bad (l := trim s.data.toList) (k := k) (by rw [← HTL.out]; exact hkl) (by
              have e := HTL.out
              have : (trim s.data.toList)[k]? = t.data.toList[k]? := by rw [e]
              rw [List.getElem?_eq_getElem hkl, List.getElem?_eq_getElem (by rw [← e]; exact hkl)] at this
              rw [Option.some.inj this, hbt]; exact hd))
            have hnd : t[k].toNat < 48 ∨ 57 < t[k].toNat := by
              simp only [dgB, Bool.and_eq_false_iff, decide_eq_false_iff_not] at hd; omega
            have E1 := Lib.hid e1
            clear hbt hd e1
            rcases hnd with hnd | hnd
            · have u1 : decide ((((t[k].toNat : Nat) : Int)) < 48) = true := by rw [decide_eq_true_eq]; omega
              go_wp2
              go_ret2
              exact retRd_no E1.out
            · have u1 : decide ((((t[k].toNat : Nat) : Int)) < 48) = false := by rw [decide_eq_false_iff_not]; omega
              have u2 : decide ((57 : Int) < ((t[k].toNat : Nat) : Int)) = true := by rw [decide_eq_true_eq]; omega
              go_wp2
              go_ret2
              exact retRd_no E1.out
        · obtain rfl : k = t.size := by omega
          have ht : t.data.toList.take t.size = t.data.toList := List.take_of_length_le (by rw [TL.out]; exact Nat.le_refl _)
          have hv1 := Hv.out
          have ha1 := Ha.out
          rw [ht, HTL.out] at hv1 ha1
          have hr := rd_trim (l := s.data.toList) (by have := HZ.out; omega) (by have := HZ.out; omega) ha1
          rw [← hv1] at hr
          have hD := fun W => implDec_any (sgn s.data.toList v) W (by unfold sgn; split <;> omega) (by unfold sgn; split <;> omega)
          have HD := Lib.hid hD
          have HS := HTS.out
          have hq : ((bs (decI (sgn s.data.toList v))).toList == s.toList) = rdB s.data.toList ∧ (rdB s.data.toList = true → sgn s.data.toList v = rdV s.data.toList) := by
            rw [ByteArray.toList_eq, ByteArray.toList_eq]
            show ((decI (sgn s.data.toList v)) == s.data.toList) = _ ∧ _
            unfold rdB rdV
            rw [hr]
            by_cases hc : decI (sgn s.data.toList v) = s.data.toList
            · rw [if_pos hc, hc]; simp
            · rw [if_neg hc]; simp [hc]
          have HQ := Lib.hid hq.2
          have hq1 := hq.1
          clear ht hv1 ha1 hr hD hq
          by_cases h45 : s.data.toList[0]? = some 45
          · have d4 : decide (t.size < s.size) = true := by rw [decide_eq_true_eq]; have := HS.1 h45; have := HZ.out; omega
            have e : sgn s.data.toList v = -(v : Int) := by unfold sgn; rw [if_pos h45]
            rw [e] at HD hq1 HQ
            have sV : IntKind.i64.wrap (-(v : Int)) = -(v : Int) := Go.IntWalk.i64_in _ (by omega)
            obtain ⟨D, hDD⟩ : ∃ D, D = bs (decI (-(v : Int))) := ⟨_, rfl⟩
            obtain ⟨K, hK⟩ : ∃ K, K = rdB s.data.toList := ⟨_, rfl⟩
            rw [← hDD] at HD hq1
            rw [← hK] at hq1 HQ
            have HK := Lib.hid hK
            have HQ1 := Lib.hid hq1
            clear e hDD hK h45 HS HZ hq1
            go_wp2_with fail
            (with_reducible refine (HD.out _).mono ?_)
            rintro e w' ⟨rfl, rfl⟩
            go_wp2
            go_ret2
            exact ⟨_, by rw [← HK.out, ← HQ1.out]; rfl, (by rw [← HK.out]; exact HQ.out), rfl⟩
          · have d4 : decide (t.size < s.size) = false := by rw [decide_eq_false_iff_not]; have := HS.2 h45; have := HZ.out; omega
            have e : sgn s.data.toList v = (v : Int) := by unfold sgn; rw [if_neg h45]
            rw [e] at HD hq1 HQ
            obtain ⟨D, hDD⟩ : ∃ D, D = bs (decI (v : Int)) := ⟨_, rfl⟩
            obtain ⟨K, hK⟩ : ∃ K, K = rdB s.data.toList := ⟨_, rfl⟩
            rw [← hDD] at HD hq1
            rw [← hK] at hq1 HQ
            have HK := Lib.hid hK
            have HQ1 := Lib.hid hq1
            clear e hDD hK h45 HS HZ hq1
            go_wp2_with fail
            (with_reducible refine (HD.out _).mono ?_)
            rintro e w' ⟨rfl, rfl⟩
            go_wp2
            go_ret2
            exact ⟨_, by rw [← HK.out, ← HQ1.out]; rfl, (by rw [← HK.out]; exact HQ.out), rfl⟩
end Go.Proofs.YtgkijkenbjjnmaaGreatDoor
