/- Contract of RunsOf where its argument is a word. -/
import Derived.Test.YthpjpnilmpihaaaPBal
namespace Go.Proofs.Ythpjpnilmpihaaa
open Go.RowKit
set_option linter.unusedVariables false
set_option linter.unusedSimpArgs false
theorem newRun_at {xs : List Int} {k : Nat} (h : k + 1 < xs.length) : newRun xs (k + 1) = (xs[k] != xs[k + 1]) := by
  unfold newRun
  rw [getD_at h, show k + 1 - 1 = k by omega, getD_at (show k < xs.length by omega)]; simp
set_option maxHeartbeats 2000000 in
theorem runsOf_yes (A : Option Addr) (c n : Nat) (xs : List Int) (w : World) (hr : Rd w w.heap.size A xs) (hn : xs.length = n) (hs : wordOk xs = true) :
    Calls Try.prog 34 #[.slice A n c] w (RetSl w (runs xs)) := by
  subst hn
  have hlx := wordOk_len hs
  go_enter Try.func34, Try.ntmps34
  go_wp2_with fail
  have hb0 : Below w.heap.size w (w.alloc (.cells #[] 3)) := (Below.refl _ _).alloc (Nat.le_refl _) _
  have hr0 := hr.past hb0
  refine (implIsWord_any _ _ _ _ hr0 (by omega)).mono ?_; rintro e w' ⟨rfl, rfl⟩
  clear hr0
  go_wp2_with fail
  go_loopw [3, 13] (fun q i wr => ∃ (k : Nat) (Aq : Option Addr) (cq n : Nat), k ≤ xs.length ∧ i = .int .i64 k ∧ q = .slice Aq n cq ∧ Hid (n = (runsTo xs k).length) ∧ n ≤ k ∧ Own wr w.heap.size Aq cq (runsTo xs k) ∧ Below w.heap.size w wr) (fun _ i _ => xs.length - (intOf i).toNat)
  case atStart => exact ⟨0, _, 0, 0, by omega, rfl, rfl, rfl, by omega, own_empty w _ (Nat.le_refl _), (Below.refl _ _).alloc (Nat.le_refl _) _⟩
  case round =>
    obtain ⟨k, Aq, cq, n, hk, rfl, rfl, hq, hqk, hown, hb⟩ := hrel
    by_cases hlt : k < xs.length
    · obtain ⟨ad, rfl, hbl, hcell⟩ := hr.at_ hlt
      have hc1 : wr.cell? (ad.add k) = some (.int .i64 (xs.getD k 0)) := (hb.cell (by rw [block_add]; exact hbl)).trans (hcell k hlt)
      rw [getD_at hlt] at hc1
      have hst : runsTo xs (k + 1) = bump (if newRun xs k then runsTo xs k ++ [0] else runsTo xs k) := rfl
      rcases Nat.eq_zero_or_pos k with h0 | h0
      · rw [if_pos (show newRun xs k = true by simp [newRun, h0])] at hst
        have HL : Hid ((runsTo xs k ++ [0]).length = n + 1) := by show _ = _; rw [List.length_append, hq.out]; rfl
        have Hst := Lib.hid hst
        have t0 : ((k : Int) == 0) = true := by simp [h0]
        clear hr hcell hst h0
        go_wp2_with (at_builtin; refine app_new rfl (.tmp 29) (.tmp 30) rfl w.heap.size Aq cq n (runsTo xs k) _ hq.out.symm rfl hown rfl (by omega) hb.size ?_)
        intro A1 c1 w1 hown1 hw1 hm1
        have hb1 := Lib.hid (below_app hb hw1 hown hb.size)
        have HLb : Hid (∀ x : Int, x ∈ runsTo xs k ++ [0] → 0 ≤ x ∧ x ≤ (k : Int)) := by
          intro x hx; rw [List.mem_append] at hx
          rcases hx with hx | hx
          · exact runsTo_mem xs k x hx
          · rw [List.mem_singleton] at hx; omega
        obtain ⟨L, hL⟩ : ∃ L, L = runsTo xs k ++ [0] := ⟨_, rfl⟩
        rw [← hL] at hown1 HL Hst HLb
        clear hL hown hb hw1 hm1
        have hll : L.length = n + 1 := HL.out
        have hj : n < L.length := by omega
        obtain ⟨g, rfl, _, _⟩ := own_head hown1 hj
        have q1 := own_cell hown1 hj
        have f1 := own_frozen hown1 n
        rw [getD_at hj] at q1
        have hset : Hid (bump L = L.set n (L[n] + 1)) := by
          show _ = _
          rw [bump_set (by omega)]; congr 1 <;> simp [hll]
        have lb := HLb.out _ (List.getElem_mem hj)
        obtain ⟨v, hv⟩ : ∃ v, v = L[n] := ⟨_, rfl⟩
        rw [← hv] at q1 lb hset
        have O2 := Lib.hid (own_set hown1 n (v + 1))
        have hlo : w.heap.size ≤ g := own_lo hown1 _ rfl
        clear hll hj hown1 hv HLb
        go_wp2
        go_roundw
        case rel => exact ⟨k + 1, _, c1, n + 1, by omega, by go_num, rfl, by show _ = _; rw [Hst.out, bump_length, HL.out], by omega, by rw [Hst.out, hset.out]; exact O2.out, hb1.out.setCell (by exact hlo) _⟩
        case measure => simp [intOf]; omega
      · obtain ⟨j, rfl⟩ : ∃ j, k = j + 1 := ⟨k - 1, by omega⟩
        have hjx : j < xs.length := by omega
        have hc2 : wr.cell? (ad.add j) = some (.int .i64 (xs.getD j 0)) := (hb.cell (by rw [block_add]; exact hbl)).trans (hcell j hjx)
        rw [getD_at hjx] at hc2
        rw [newRun_at hlt] at hst
        obtain ⟨k, hkj⟩ : ∃ k, k = j + 1 := ⟨_, rfl⟩
        have Hkj : Hid (k = j + 1) := hkj
        have t0 : ((k : Int) == 0) = false := beq_eq_false_iff_ne.2 (by omega)
        have t1 : ((k : Int) - 1) = (j : Int) := by omega
        obtain ⟨a, ha⟩ : ∃ a, a = xs[j] := ⟨_, rfl⟩
        obtain ⟨b, hb'⟩ : ∃ b, b = xs[j + 1] := ⟨_, rfl⟩
        rw [← ha] at hc2 hst
        rw [← hb'] at hc1 hst
        rw [← hkj] at hk hq hqk hown hc1 hst hlt h0 ⊢
        have hjk : (j : Int) < (k : Int) := by omega
        clear hr hcell ha hb' hkj
        by_cases hab : a = b
        · have t2 : (a != b) = false := by simp [hab]
          rw [if_neg (by simp [t2])] at hst
          have hpos : 0 < (runsTo xs k).length := (runsTo_len xs k).2 (by omega)
          obtain ⟨m, rfl⟩ : ∃ m, n = m + 1 := ⟨n - 1, by have := hq.out; omega⟩
          have HLb : Hid (∀ x : Int, x ∈ runsTo xs k → 0 ≤ x ∧ x ≤ (k : Int)) := runsTo_mem xs k
          have HL : Hid ((runsTo xs k).length = m + 1) := hq.out.symm
          have Hst := Lib.hid hst
          obtain ⟨L, hL⟩ : ∃ L, L = runsTo xs k := ⟨_, rfl⟩
          rw [← hL] at hown HL Hst HLb
          have HB := Lib.hid hb
          clear hL hst hpos hab hq hb
          have hll : L.length = m + 1 := HL.out
          have hj : m < L.length := by omega
          obtain ⟨g, rfl, _, _⟩ := own_head hown hj
          have q1 := own_cell hown hj
          have f1 := own_frozen hown m
          rw [getD_at hj] at q1
          have hset : Hid (bump L = L.set m (L[m] + 1)) := by
            show _ = _
            rw [bump_set (by omega)]; congr 1 <;> simp [hll]
          have lb := HLb.out _ (List.getElem_mem hj)
          obtain ⟨v, hv⟩ : ∃ v, v = L[m] := ⟨_, rfl⟩
          rw [← hv] at q1 lb hset
          have O2 := Lib.hid (own_set hown m (v + 1))
          have hlo : w.heap.size ≤ g := own_lo hown _ rfl
          clear hll hj hown hv HLb
          go_wp2
          go_roundw
          case rel => exact ⟨k + 1, _, cq, m + 1, by omega, by go_num, rfl, by show _ = _; rw [Hst.out, bump_length, HL.out], by omega, by rw [Hst.out, hset.out]; exact O2.out, HB.out.setCell (by exact hlo) _⟩
          case measure => simp [intOf]; omega
        · have t2 : (a != b) = true := by simpa using hab
          rw [if_pos t2] at hst
          have HL : Hid ((runsTo xs k ++ [0]).length = n + 1) := by show _ = _; rw [List.length_append, hq.out]; rfl
          have Hst := Lib.hid hst
          clear hst hab
          go_wp2_with (at_builtin; refine app_new rfl (.tmp 29) (.tmp 30) rfl w.heap.size Aq cq n (runsTo xs k) _ hq.out.symm rfl hown rfl (by omega) hb.size ?_)
          intro A1 c1 w1 hown1 hw1 hm1
          have hb1 := Lib.hid (below_app hb hw1 hown hb.size)
          have HLb : Hid (∀ x : Int, x ∈ runsTo xs k ++ [0] → 0 ≤ x ∧ x ≤ (k : Int)) := by
            intro x hx; rw [List.mem_append] at hx
            rcases hx with hx | hx
            · exact runsTo_mem xs k x hx
            · rw [List.mem_singleton] at hx; omega
          obtain ⟨L, hL⟩ : ∃ L, L = runsTo xs k ++ [0] := ⟨_, rfl⟩
          rw [← hL] at hown1 HL Hst HLb
          clear hL hown hb hw1 hm1
          have hll : L.length = n + 1 := HL.out
          have hj : n < L.length := by omega
          obtain ⟨g, rfl, _, _⟩ := own_head hown1 hj
          have q1 := own_cell hown1 hj
          have f1 := own_frozen hown1 n
          rw [getD_at hj] at q1
          have hset : Hid (bump L = L.set n (L[n] + 1)) := by
            show _ = _
            rw [bump_set (by omega)]; congr 1 <;> simp [hll]
          have lb := HLb.out _ (List.getElem_mem hj)
          obtain ⟨v, hv⟩ : ∃ v, v = L[n] := ⟨_, rfl⟩
          rw [← hv] at q1 lb hset
          have O2 := Lib.hid (own_set hown1 n (v + 1))
          have hlo : w.heap.size ≤ g := own_lo hown1 _ rfl
          clear hll hj hown1 hv HLb
          go_wp2
          go_roundw
          case rel => exact ⟨k + 1, _, c1, n + 1, by omega, by go_num, rfl, by show _ = _; rw [Hst.out, bump_length, HL.out], by omega, by rw [Hst.out, hset.out]; exact O2.out, hb1.out.setCell (by exact hlo) _⟩
          case measure => simp [intOf]; omega
    · obtain rfl : k = xs.length := by omega
      go_wp2_with fail
      go_ret
      exact ⟨Aq, cq, by rw [hq.out]; rfl, hown, hb⟩
end Go.Proofs.Ythpjpnilmpihaaa
