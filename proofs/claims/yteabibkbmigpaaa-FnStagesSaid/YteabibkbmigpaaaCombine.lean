/- Contracts of the two CombineCarries and of l6Combine. -/
import Derived.Test.YteabibkbmigpaaaMat
import Derived.Test.YteabibkbmigpaaaPComb
import Derived.Test.YteabibkbmigpaaaDiff
namespace Go.Proofs.Yteabibkbmigpaaa
open Go.RowKit
set_option linter.unusedVariables false
set_option linter.unusedSimpArgs false
theorem combine_bad {rs : List Rw} {j : Nat} (hj : j < rs.length) (h : lenOk rs[0].xs.length rs[j].xs = false) (h0 : 0 < rs.length) : combine (lists rs) = ([], false) := by
  refine combine_noAll ?_
  rw [lists_getD h0, lists_all, List.all_eq_false]
  exact ⟨rs[j], List.getElem_mem hj, by simp [h]⟩
set_option maxHeartbeats 2000000 in
theorem implCombineCarries_any (A : Option Addr) (c : Nat) (rs : List Rw) (w : World) (hr : RdM w w.heap.size A rs) (hn : ∀ r ∈ rs, r.xs.length ≤ 1048576) (hm : rs.length ≤ 9223372036854775807) :
    Calls Try.prog 21 #[.slice A rs.length c] w (RetLB w (combine (lists rs))) := by
  have hL := lists_length rs
  by_cases hc : 1 ≤ rs.length ∧ rs.length ≤ 6
  · obtain ⟨l1, l2⟩ := hc
    have hz0 : 0 < rs.length := Nat.lt_of_lt_of_le Nat.zero_lt_one l1
    obtain ⟨ad, rfl, hbl, hcell⟩ := hr.at_ (k := 0) hz0
    have h0 := lists_getD (rs := rs) (j := 0) hz0
    have d0 : w.cell? (ad.add 0) = some (.slice rs[0].A rs[0].xs.length rs[0].c) := hcell 0 rs[0] (List.getElem?_eq_getElem hz0)
    have hn0 := hn rs[0] (List.getElem_mem hz0)
    have hmk := make_ints rs[0].xs.length (by omega)
    have HC := Lib.hid hcell
    have HR := Lib.hid hr
    have HN := Lib.hid hn
    have H0 := Lib.hid h0
    have HL := Lib.hid hL
    obtain ⟨n, hne⟩ : ∃ n, n = rs[0].xs.length := ⟨_, rfl⟩
    have Hn := Lib.hid hne
    rw [← hne] at hmk d0 hn0
    clear hcell hr hn h0 hL hne
    have d0' : w.cell? ad = some (.slice rs[0].A n rs[0].c) := d0
    go_enter Try.func21, Try.ntmps21
    go_wp2_with fail
    clear d0 d0'
    go_loopw [24] (fun i wr => ∃ (j : Nat) (ys : List Int), j ≤ rs.length ∧ i = .int .i64 j ∧ Hid (ys = combTo n (lists rs) j) ∧ Hid (∀ k, k < j → lenOk n ((lists rs).getD k []) = true) ∧ Hid (Own wr w.heap.size (some ⟨w.heap.size, 0, none⟩) n ys) ∧ Below w.heap.size w wr) (fun i _ => rs.length - (intOf i).toNat)
    case atStart => exact ⟨0, List.replicate n 0, by omega, rfl, rfl, (fun k hk => absurd hk (by omega)), own_made w n (Nat.le_refl _) (by simp only [maxLen]; omega), (Below.refl _ _).alloc (Nat.le_refl _) _⟩
    case round =>
      obtain ⟨j, ys, hj, rfl, hY, hW, hO, hB⟩ := hrel
      by_cases hlt : j < rs.length
      · have d1 : wr.cell? (ad.add j) = some (.slice rs[j].A rs[j].xs.length rs[j].c) := (hB.cell (by rw [block_add]; exact hbl)).trans (HC.out j rs[j] (List.getElem?_eq_getElem hlt))
        have Rj := (HR.out.row hlt)
        have hnj := HN.out rs[j] (List.getElem_mem hlt)
        have hgj := lists_getD (rs := rs) hlt
        have RR := (Rj.below hB).more hB.size
        obtain ⟨r, hre⟩ : ∃ r, r = rs[j] := ⟨_, rfl⟩
        have Hre := Lib.hid hre
        rw [← hre] at d1 Rj hnj hgj RR
        have Hg := Lib.hid hgj
        clear hre hgj Rj
        go_wp2_with fail
        refine (implIsWord_any _ _ _ _ RR (by omega)).mono ?_; rintro e w2 ⟨rfl, rfl⟩
        rcases Bool.eq_false_or_eq_true (wordOk r.xs) with hw | hw
        · by_cases hl : r.xs.length = n
          · have t0 : ((r.xs.length : Int) != (n : Int)) = false := by simp [hl]
            have hlen := wordOk_len hw
            have hok : lenOk n r.xs = true := by simp [lenOk, hw, hl]
            have Hl := Lib.hid hl
            have Hok := Lib.hid hok
            have HX : Hid (∀ x ∈ r.xs, -1099511627776 ≤ x ∧ x ≤ 1099511627776) := fun x hx => by have := wordOk_mem hw x hx; omega
            clear hl hok
            go_wp2_with fail
            refine (differences_any _ _ _ j _ RR (by omega) (by omega) HX).mono ?_; rintro e w3 ⟨A3, c3, rfl, O3, h3⟩
            have hdl := diffN_length r.xs j
            have hds := Lib.hid (diffN_small HX.out j (by omega))
            obtain ⟨D, hD⟩ : ∃ D, D = diffN r.xs j := ⟨_, rfl⟩
            rw [← hD] at hdl hds O3 ⊢
            have HD := Lib.hid hD
            have hB3 := hB.trans (h3.mono hB.size)
            have O4 := Lib.hid (own_past hO.out h3)
            have R3 := Lib.hid (own_rd O3)
            have U3 : Hid (Lo A3 wr.heap.size) := own_lo O3
            have hlt0 : w.heap.size < wr.heap.size := own_hi hO.out _ rfl
            have hyl : ys.length = n := by
              rw [hY.out]
              exact combTo_length j fun k hk => by
                have := hW.out k hk
                simp only [lenOk, Bool.and_eq_true, decide_eq_true_eq] at this
                exact this.2
            have hyb := Lib.hid (combTo_bd (n := n) (xss := lists rs) j (by omega) (fun k hk => by
                have := hW.out k hk
                simp only [lenOk, Bool.and_eq_true] at this
                exact this.1))
            rw [← hY.out] at hyb
            have hd1 : D.length ≤ ys.length := by have := Hl.out; omega
            have hd2 : ys.length ≤ D.length := by have := Hl.out; omega
            have HY := Lib.hid hyl
            have Hdl := Lib.hid hdl
            have hnn : n ≤ 1000 := by have := Hl.out; omega
            have O5 := Lib.hid O3
            clear hyl hdl hD h3 O3 RR
            obtain ⟨wo, hwo⟩ : ∃ wo : World, wo = wr := ⟨_, rfl⟩
            subst hwo
            go_wp2_with fail
            go_loopw [43] (fun i wq => ∃ (k : Nat) (zs : List Int), k ≤ D.length ∧ i = .int .i64 k ∧ Hid (AddTo ys D zs k) ∧ Hid (Own wq w.heap.size (some ⟨w.heap.size, 0, none⟩) n zs) ∧ Hid (Own wq wo.heap.size A3 c3 D) ∧ Below w.heap.size w wq) (fun i _ => D.length - (intOf i).toNat)
            case atStart => exact ⟨0, ys, by omega, rfl, addTo_start ys D, O4.out, O5.out, hB3⟩
            case round =>
              clear hB3 O4 O5 R3
              obtain ⟨k, zs, hk, rfl, hA, hZ, hD3, hB4⟩ := hrel
              by_cases hlt2 : k < D.length
              · have hzl : k < zs.length := by have := hA.out.1; omega
                have hyk : k < ys.length := by omega
                have hkn : k < n := by have := HY.out; omega
                obtain ⟨g3, rfl, hg3, _⟩ := own_head hD3.out hlt2
                have e1 := own_cell hD3.out hlt2
                have e2 := own_cell hZ.out hzl
                have f2 := own_frozen hZ.out k
                have b1 := hds.out _ (List.getElem_mem hlt2)
                have b2 := hyb.out _ (List.getElem_mem hyk)
                rw [← addTo_at hA.out hzl hyk] at b2
                have b3 : -422212465065984 ≤ zs[k] ∧ zs[k] ≤ 422212465065984 := by omega
                clear b2
                go_wp2
                go_roundw
                case rel => exact ⟨k + 1, zs.set k (zs[k] + D[k]), by omega, by go_num, addTo_step hA.out hzl hlt2, own_set hZ.out _ _, ownsRow_setCell_below hD3.out hlt0 _, hB4.setCell (by simp) _⟩
                case measure => simp [intOf]; omega
              · obtain rfl : k = D.length := by omega
                have e5 := addTo_end hA.out (by omega)
                have hnext : zs = combTo n (lists rs) (j + 1) := by
                  rw [e5, combTo, hY.out, HD.out, Hg.out]
                clear hD3
                go_wp2
                go_roundw
                case rel => exact ⟨j + 1, zs, by omega, by go_num, hnext, (fun k hk => by
                    by_cases hkj : k = j
                    · subst hkj; rw [Hg.out]; exact Hok.out
                    · exact hW.out k (by omega)), hZ, hB4⟩
                case measure => simp [intOf]; omega
          · have t0 : ((r.xs.length : Int) != (n : Int)) = true := by simp; omega
            have E := Lib.hid (combine_bad (rs := rs) hlt (by rw [← Hn.out, ← Hre.out]; simp [lenOk, hl]) (by omega))
            clear hl
            go_wp2_with fail
            go_ret2
            rw [E.out]
            exact ⟨none, 0, rfl, own_nil _ _, hB⟩
        · have E := Lib.hid (combine_bad (rs := rs) hlt (by rw [← Hre.out]; simp [lenOk, hw]) (by omega))
          go_wp2_with fail
          go_ret2
          rw [E.out]
          exact ⟨none, 0, rfl, own_nil _ _, hB⟩
      · obtain rfl : j = rs.length := by omega
        have E : combine (lists rs) = (combTo n (lists rs) rs.length, true) := by
          rw [combine_yes (by rw [HL.out]; exact l1) (by rw [HL.out]; exact l2) ?_, H0.out, ← Hn.out, HL.out]
          rw [List.all_eq_true]
          intro x hx
          obtain ⟨k, hk, rfl⟩ := List.getElem_of_mem hx
          have := hW.out k (by rw [← HL.out]; exact hk)
          rw [H0.out, ← Hn.out]
          have e : (lists rs).getD k [] = (lists rs)[k] := by simp [hk]
          rwa [e] at this
        have EE := Lib.hid E
        have hlen : ys.length = n := by
          rw [hY.out]
          exact combTo_length _ fun k hk => by
            have := hW.out k hk
            simp only [lenOk, Bool.and_eq_true, decide_eq_true_eq] at this
            exact this.2
        have Hlen := Lib.hid hlen
        clear E hlen
        go_wp2
        go_ret2
        rw [EE.out]
        refine ⟨some ⟨w.heap.size, 0, none⟩, n, ?_, ?_, hB⟩
        · rw [← hY.out, Hlen.out]; rfl
        · rw [← hY.out]; exact hO.out
  · have E := Lib.hid (combine_noLen (xss := lists rs) (by rw [hL]; exact hc))
    have hc' : rs.length < 1 ∨ 6 < rs.length := by omega
    clear hc hL
    go_enter Try.func21, Try.ntmps21
    go_wp2_with fail
    all_goals first
      | (exfalso; omega)
      | (go_ret2; rw [E.out]; exact ⟨none, 0, rfl, own_nil _ _, Below.refl _ _⟩)
end Go.Proofs.Yteabibkbmigpaaa
