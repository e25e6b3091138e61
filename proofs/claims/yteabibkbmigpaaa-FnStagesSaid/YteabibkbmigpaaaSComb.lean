/- Contracts of l6Combine and of spec.CombineCarries. -/
import Derived.Test.YteabibkbmigpaaaCombine
import Derived.Test.YteabibkbmigpaaaDiffOf
namespace Go.Proofs.Yteabibkbmigpaaa
open Go.RowKit
set_option linter.unusedVariables false
set_option linter.unusedSimpArgs false
theorem diffN_bits {xs : List Int} (h : ∀ x ∈ xs, 0 ≤ x ∧ x ≤ 1) : ∀ k, ∀ x ∈ diffN xs k, -(2 ^ k : Int) ≤ x ∧ x ≤ 2 ^ k
  | 0 => by
    intro x hx
    have := h x hx
    simp
    omega
  | k + 1 => by
    have ih := diffN_bits h k
    have hp : (0 : Int) < 2 ^ k := by have : (0 : Nat) < 2 ^ k := Nat.two_pow_pos k; have e : ((2 ^ k : Nat) : Int) = (2 : Int) ^ k := by simp
                                      omega
    have := diff1_bd (M := 2 ^ k) (by omega) ih
    intro x hx
    have := this x hx
    rw [Int.pow_succ]
    omega
theorem diffN_word {xs : List Int} (h : wordOk xs = true) (k : Nat) (hk : k ≤ 6) : seqOk (diffN xs k) = true := by
  refine seqOk_of (fun x hx => ?_) (by rw [diffN_length]; exact wordOk_len h)
  have h1 := diffN_bits (wordOk_mem h) k x hx
  have : k = 0 ∨ k = 1 ∨ k = 2 ∨ k = 3 ∨ k = 4 ∨ k = 5 ∨ k = 6 := by omega
  rcases this with rfl | rfl | rfl | rfl | rfl | rfl | rfl <;> simp at h1 <;> omega
theorem diffOf_word {xs : List Int} (h : wordOk xs = true) (k : Nat) (hk : k ≤ 6) : diffOf xs k = (diffN xs k, true) := by
  rw [diffOf_yes (wordOk_seqOk h) hk, doneOf_yes (diffN_word h k hk)]
set_option maxHeartbeats 2000000 in
theorem l6Combine_any (A : Option Addr) (c : Nat) (rs : List Rw) (w : World) (hr : RdM w w.heap.size A rs) (l1 : 1 ≤ rs.length) (l2 : rs.length ≤ 6) (n : Nat) (hw : ∀ k, k < rs.length → lenOk n ((lists rs).getD k []) = true) :
    Calls Try.prog 77 #[.slice A rs.length c] w (RetSl w (combTo n (lists rs) rs.length)) := by
  have hz0 : 0 < rs.length := Nat.lt_of_lt_of_le Nat.zero_lt_one l1
  obtain ⟨ad, rfl, hbl, hcell⟩ := hr.at_ (k := 0) hz0
  have h0 := lists_getD (rs := rs) (j := 0) hz0
  have hw0 := hw 0 hz0
  rw [h0] at hw0
  simp only [lenOk, Bool.and_eq_true, decide_eq_true_eq] at hw0
  obtain ⟨w01, w02⟩ := hw0
  have hn1 := wordOk_len w01
  have d0 : w.cell? (ad.add 0) = some (.slice rs[0].A n rs[0].c) := by rw [← w02]; exact hcell 0 rs[0] (List.getElem?_eq_getElem hz0)
  have hmk := make_ints n (by omega)
  have HC := Lib.hid hcell
  have HR := Lib.hid hr
  have HW := Lib.hid hw
  have hnn : n ≤ 1000 := by omega
  clear hcell hr hw h0 w01 w02 hn1
  have d0' : w.cell? ad = some (.slice rs[0].A n rs[0].c) := d0
  go_enter Try.func77, Try.ntmps77
  go_wp2_with fail
  clear d0 d0'
  go_loopw [17] (fun i wr => ∃ (j : Nat) (ys : List Int), j ≤ rs.length ∧ i = .int .i64 j ∧ Hid (ys = combTo n (lists rs) j) ∧ Hid (Own wr w.heap.size (some ⟨w.heap.size, 0, none⟩) n ys) ∧ Below w.heap.size w wr) (fun i _ => rs.length - (intOf i).toNat)
  case atStart => exact ⟨0, List.replicate n 0, by omega, rfl, rfl, own_made w n (Nat.le_refl _) (by simp only [maxLen]; omega), (Below.refl _ _).alloc (Nat.le_refl _) _⟩
  case round =>
    obtain ⟨j, ys, hj, rfl, hY, hO, hB⟩ := hrel
    by_cases hlt : j < rs.length
    · have d1 : wr.cell? (ad.add j) = some (.slice rs[j].A rs[j].xs.length rs[j].c) := (hB.cell (by rw [block_add]; exact hbl)).trans (HC.out j rs[j] (List.getElem?_eq_getElem hlt))
      have Rj := (HR.out.row hlt)
      have hgj := lists_getD (rs := rs) hlt
      have hok := HW.out j hlt
      rw [hgj] at hok
      have RR := (Rj.below hB).more hB.size
      obtain ⟨r, hre⟩ : ∃ r, r = rs[j] := ⟨_, rfl⟩
      rw [← hre] at d1 Rj hgj RR hok
      have Hg := Lib.hid hgj
      simp only [lenOk, Bool.and_eq_true, decide_eq_true_eq] at hok
      obtain ⟨hw, hl⟩ := hok
      have hds := Lib.hid (diffN_small (fun x hx => by have := wordOk_mem hw x hx; omega) j (by omega) : ∀ x ∈ diffN r.xs j, -70368744177664 ≤ x ∧ x ≤ 70368744177664)
      have hcall := specDifferencesOf_any r.A r.c r.xs j wr RR (by omega)
      rw [diffOf_word hw j (by omega)] at hcall
      have hdl := diffN_length r.xs j
      obtain ⟨D, hD⟩ : ∃ D, D = diffN r.xs j := ⟨_, rfl⟩
      rw [← hD] at hdl hds hcall
      have HD := Lib.hid hD
      have Hc : Hid (Calls Try.prog 96 #[.slice r.A r.xs.length r.c, .int .i64 j] wr (RetLB wr (D, true))) := hcall
      have hyl : ys.length = n := by
        rw [hY.out]
        exact combTo_length j fun k hk => by
          have := HW.out k (by omega)
          simp only [lenOk, Bool.and_eq_true, decide_eq_true_eq] at this
          exact this.2
      have hyb := Lib.hid (combTo_bd (n := n) (xss := lists rs) j (by omega) (fun k hk => by
          have := HW.out k (by omega)
          simp only [lenOk, Bool.and_eq_true] at this
          exact this.1))
      rw [← hY.out] at hyb
      have hd1 : D.length ≤ ys.length := by omega
      have hd2 : ys.length ≤ D.length := by omega
      have HY := Lib.hid hyl
      have Hdl := Lib.hid hdl
      have hlt0 : w.heap.size < wr.heap.size := own_hi hO.out _ rfl
      clear hyl hdl hD hcall RR Rj hl hw hre hgj
      go_wp2_with fail
      refine (show Calls Try.prog 96 #[.slice r.A r.xs.length r.c, .int .i64 j] wr (RetLB wr (D, true)) from Hc).mono ?_
      rintro e w3 ⟨A3, c3, rfl, O3, h3⟩
      have hB3 := hB.trans (h3.mono hB.size)
      have O4 := Lib.hid (own_past hO.out h3)
      have O5 := Lib.hid O3
      clear h3 O3 d1
      obtain ⟨wo, hwo⟩ : ∃ wo : World, wo = wr := ⟨_, rfl⟩
      subst hwo
      go_wp2_with fail
      go_loopw [30] (fun i wq => ∃ (k : Nat) (zs : List Int), k ≤ D.length ∧ i = .int .i64 k ∧ Hid (AddTo ys D zs k) ∧ Hid (Own wq w.heap.size (some ⟨w.heap.size, 0, none⟩) n zs) ∧ Hid (Own wq wo.heap.size A3 c3 D) ∧ Below w.heap.size w wq) (fun i _ => D.length - (intOf i).toNat)
      case atStart => exact ⟨0, ys, by omega, rfl, addTo_start ys D, O4.out, O5.out, hB3⟩
      case round =>
        clear hB3 O4 O5
        obtain ⟨k, zs, hk, rfl, hA, hZ, hD3, hB4⟩ := hrel
        by_cases hlt2 : k < D.length
        · have hzl : k < zs.length := by have := hA.out.1; omega
          have hyk : k < ys.length := by omega
          have hkn : k < n := by have := HY.out; omega
          obtain ⟨g3, rfl, hg3, _⟩ := own_head hD3.out hlt2
          have e1 := own_cell hD3.out hlt2
          have e2 := own_cell hZ.out hzl
          have f2 := own_frozen hZ.out k
          have b1 := hds.out _ (List.getElem_mem hlt2)
          have b2 := hyb.out _ (List.getElem_mem hyk)
          rw [← addTo_at hA.out hzl hyk] at b2
          have b3 : -422212465065984 ≤ zs[k] ∧ zs[k] ≤ 422212465065984 := by omega
          clear b2
          go_wp2
          go_roundw
          case rel => exact ⟨k + 1, zs.set k (zs[k] + D[k]), by omega, by go_num, addTo_step hA.out hzl hlt2, own_set hZ.out _ _, ownsRow_setCell_below hD3.out hlt0 _, hB4.setCell (by simp) _⟩
          case measure => simp [intOf]; omega
        · obtain rfl : k = D.length := by omega
          have e5 := addTo_end hA.out (by omega)
          have hnext : zs = combTo n (lists rs) (j + 1) := by
            rw [e5, combTo, hY.out, HD.out, Hg.out]
          clear hD3
          go_wp2
          go_roundw
          case rel => exact ⟨j + 1, zs, by omega, by go_num, hnext, hZ, hB4⟩
          case measure => simp [intOf]; omega
    · obtain rfl : j = rs.length := by omega
      have hlen : ys.length = n := by
        rw [hY.out]
        exact combTo_length _ fun k hk => by
          have := HW.out k hk
          simp only [lenOk, Bool.and_eq_true, decide_eq_true_eq] at this
          exact this.2
      have Hlen := Lib.hid hlen
      clear hlen
      go_wp2
      go_ret
      refine ⟨some ⟨w.heap.size, 0, none⟩, n, ?_, ?_, hB⟩
      · rw [← hY.out, Hlen.out]; rfl
      · rw [← hY.out]; exact hO.out
theorem allOk {rs : List Rw} {n : Nat} (h : ∀ k, k < rs.length → lenOk n ((lists rs).getD k []) = true) : (lists rs).all (lenOk n) = true := by
  rw [List.all_eq_true]
  intro x hx
  obtain ⟨k, hk, rfl⟩ := List.getElem_of_mem hx
  have := h k (by rw [← lists_length rs]; exact hk)
  have e : (lists rs).getD k [] = (lists rs)[k] := by simp [hk]
  rwa [e] at this
set_option maxHeartbeats 1000000 in
theorem specCombineCarries_any (A : Option Addr) (c : Nat) (rs : List Rw) (w : World) (hr : RdM w w.heap.size A rs) (hn : ∀ r ∈ rs, r.xs.length ≤ 1048576) (hm : rs.length ≤ 9223372036854775807) :
    Calls Try.prog 36 #[.slice A rs.length c] w (RetLB w (combine (lists rs))) := by
  have hL := lists_length rs
  rcases Bool.eq_false_or_eq_true (inB (rs.length : Int) 1 6) with hin | hin
  · obtain ⟨i1, i2⟩ := inB_of hin
    have l1 : 1 ≤ rs.length := by omega
    have l2 : rs.length ≤ 6 := by omega
    have hz0 : 0 < rs.length := Nat.lt_of_lt_of_le Nat.zero_lt_one l1
    obtain ⟨ad, rfl, hbl, hcell⟩ := hr.at_ (k := 0) hz0
    have h0 := lists_getD (rs := rs) (j := 0) hz0
    have d0 : w.cell? (ad.add 0) = some (.slice rs[0].A rs[0].xs.length rs[0].c) := hcell 0 rs[0] (List.getElem?_eq_getElem hz0)
    have hn0 := hn rs[0] (List.getElem_mem hz0)
    have HC := Lib.hid hcell
    have HR := Lib.hid hr
    have HN := Lib.hid hn
    have H0 := Lib.hid h0
    have HL := Lib.hid hL
    obtain ⟨n, hne⟩ : ∃ n, n = rs[0].xs.length := ⟨_, rfl⟩
    have Hn := Lib.hid hne
    rw [← hne] at d0 hn0
    clear hcell hr hn h0 hL hne i1 i2
    have d0' : w.cell? ad = some (.slice rs[0].A n rs[0].c) := d0
    go_enter Try.func36, Try.ntmps36
    go_wp2_with (go_at_call 63; refine (l1In_any _ _ _ _).mono ?_; rintro e w' ⟨rfl, rfl⟩)
    go_loop [12] (fun i => ∃ j : Nat, j ≤ rs.length ∧ i = .int .i64 j ∧ Hid (∀ k, k < j → lenOk n ((lists rs).getD k []) = true)) (fun i => rs.length - (intOf i).toNat)
    case atStart => exact ⟨0, by omega, rfl, fun k hk => absurd hk (by omega)⟩
    case round =>
      obtain ⟨j, hj, rfl, hW⟩ := hrel
      by_cases hlt : j < rs.length
      · have d1 : w.cell? (ad.add j) = some (.slice rs[j].A rs[j].xs.length rs[j].c) := HC.out j rs[j] (List.getElem?_eq_getElem hlt)
        have RR := (HR.out.row hlt)
        have hnj := HN.out rs[j] (List.getElem_mem hlt)
        have hgj := lists_getD (rs := rs) hlt
        obtain ⟨r, hre⟩ : ∃ r, r = rs[j] := ⟨_, rfl⟩
        have Hre := Lib.hid hre
        rw [← hre] at d1 hnj hgj RR
        have Hg := Lib.hid hgj
        clear hre hgj
        go_wp2_with fail
        refine (specIsWord_any _ _ _ _ RR (by omega)).mono ?_; rintro e w2 ⟨rfl, rfl⟩
        rcases Bool.eq_false_or_eq_true (wordOk r.xs) with hw | hw
        · by_cases hl : r.xs.length = n
          · have t0 : ((r.xs.length : Int) != (n : Int)) = false := by simp [hl]
            have Hok : Hid (lenOk n r.xs = true) := by simp [Hid, lenOk, hw, hl]
            clear hl
            go_wp2_with fail
            go_round
            case rel => exact ⟨j + 1, by omega, by go_num, (fun k hk => by
                    by_cases hkj : k = j
                    · subst hkj; rw [Hg.out]; exact Hok.out
                    · exact hW.out k (by omega))⟩
            case measure => simp [intOf]; omega
          · have t0 : ((r.xs.length : Int) != (n : Int)) = true := by simp; omega
            have E := Lib.hid (combine_bad (rs := rs) hlt (by rw [← Hn.out, ← Hre.out]; simp [lenOk, hl]) (by omega))
            clear hl
            go_wp2_with fail
            go_ret2
            rw [E.out]
            exact ⟨none, 0, rfl, own_nil _ _, Below.refl _ _⟩
        · have E := Lib.hid (combine_bad (rs := rs) hlt (by rw [← Hre.out]; simp [lenOk, hw]) (by omega))
          go_wp2_with fail
          go_ret2
          rw [E.out]
          exact ⟨none, 0, rfl, own_nil _ _, Below.refl _ _⟩
      · obtain rfl : j = rs.length := by omega
        have E : combine (lists rs) = (combTo n (lists rs) rs.length, true) := by
          rw [combine_yes (by rw [HL.out]; exact l1) (by rw [HL.out]; exact l2) ?_, H0.out, ← Hn.out, HL.out]
          rw [H0.out, ← Hn.out]
          exact allOk hW.out
        have EE := Lib.hid E
        clear E d0 d0'
        go_wp2_with fail
        refine (l6Combine_any _ _ _ _ HR.out l1 l2 n hW.out).mono ?_; rintro e w2 ⟨A2, c2, rfl, O2, h2⟩
        go_wp2_with fail
        go_ret2
        rw [EE.out]
        exact ⟨A2, c2, rfl, O2, h2⟩
  · have E := Lib.hid (combine_noLen (xss := lists rs) (by rw [hL]; intro hc; rw [inB_true (by omega) (by omega)] at hin; exact absurd hin (by decide)))
    clear hL
    go_enter Try.func36, Try.ntmps36
    go_wp2_with (go_at_call 63; refine (l1In_any _ _ _ _).mono ?_; rintro e w' ⟨rfl, rfl⟩)
    go_ret2
    rw [E.out]
    exact ⟨none, 0, rfl, own_nil _ _, Below.refl _ _⟩
end Go.Proofs.Yteabibkbmigpaaa
