/- Contracts of the laws' helpers over slices of slices of ints. -/
import Derived.Test.YteabibkbmigpaaaMatOwn
import Derived.Test.YteabibkbmigpaaaSlicesFn
namespace Go.Proofs.Yteabibkbmigpaaa
open Go.RowKit
set_option linter.unusedVariables false
set_option linter.unusedSimpArgs false
def tot : List (List Int) → Nat
  | [] => 0
  | x :: xs => x.length + tot xs
theorem tot_append (xs ys : List (List Int)) : tot (xs ++ ys) = tot xs + tot ys := by
  induction xs with
  | nil => simp [tot]
  | cons x xs ih => simp [tot, ih]; omega
theorem tot_take {rs : List Rw} {k : Nat} (h : k < rs.length) : tot ((lists rs).take (k + 1)) = tot ((lists rs).take k) + rs[k].xs.length := by
  have h' : k < (lists rs).length := by rw [lists_length]; exact h
  rw [List.take_succ_eq_append_getElem h', tot_append]
  simp [tot, lists]
theorem tot_take_all (rs : List Rw) : tot ((lists rs).take rs.length) = tot (lists rs) := by rw [List.take_of_length_le (by rw [lists_length]; omega)]
theorem tot_mem {rs : List Rw} : ∀ r ∈ rs, r.xs.length ≤ tot (lists rs) := by
  induction rs with
  | nil => intro r h; cases h
  | cons q rs ih =>
    intro r h
    simp only [lists, List.map_cons, tot]
    rcases List.mem_cons.1 h with rfl | h
    · omega
    · have := ih r h
      simp only [lists] at this
      omega
theorem szIntS_any (A : Option Addr) (c n : Nat) (k : Int) (w : World) (hn : n ≤ 9223372036854775807) (k1 : 0 ≤ k) (k2 : k ≤ 1048576) :
    Calls Try.prog 75 #[.slice A n c, .int .i64 k] w fun e w' => (∃ v : Int, e = .returned (.int .i64 v) ∧ ((v = -1 ∧ k < n) ∨ (v = k - n ∧ 0 ≤ v))) ∧ w = w' := by
  by_cases h : k < n
  · have h' : k - n < 0 := by omega
    go_enter Try.func75, Try.ntmps75
    go_wp2
    go_ret
    exact ⟨⟨-1, rfl, .inl ⟨rfl, h⟩⟩, rfl⟩
  · have h' : ¬ k - n < 0 := by omega
    go_enter Try.func75, Try.ntmps75
    go_wp2
    go_ret
    exact ⟨⟨k - n, by go_num, .inr ⟨rfl, by omega⟩⟩, rfl⟩
set_option maxHeartbeats 400000 in
theorem szIntSS_any (A : Option Addr) (c : Nat) (rs : List Rw) (k : Int) (w : World) (hr : RdM w w.heap.size A rs) (hn : rs.length ≤ 9223372036854775807) (hm : ∀ r ∈ rs, r.xs.length ≤ 9223372036854775807) (k1 : 0 ≤ k) (k2 : k ≤ 1048576) :
    Calls Try.prog 35 #[.slice A rs.length c, .int .i64 k] w fun e w' => (∃ v : Int, e = .returned (.int .i64 v) ∧ (v = -1 ∨ (0 ≤ v ∧ v = k - rs.length - tot (lists rs)))) ∧ w = w' := by
  by_cases h : k < rs.length
  · have h' : k - rs.length < 0 := by omega
    go_enter Try.func35, Try.ntmps35
    go_wp2
    go_ret
    exact ⟨⟨-1, rfl, .inl rfl⟩, rfl⟩
  · have h' : ¬ k - rs.length < 0 := by omega
    have HM := Lib.hid hm
    have HR := Lib.hid hr
    clear hm hr
    go_enter Try.func35, Try.ntmps35
    go_wp2
    go_loop [1, 5] (fun q i => ∃ (j : Nat) (v : Int), j ≤ rs.length ∧ i = .int .i64 j ∧ q = .int .i64 v ∧ Hid (v = k - rs.length - tot ((lists rs).take j)) ∧ 0 ≤ v ∧ v ≤ 1048576) (fun _ i => rs.length - (intOf i).toNat)
    case atStart => exact ⟨0, k - rs.length, by omega, rfl, by go_num, by simp [Hid, tot], by omega, by omega⟩
    case round =>
      obtain ⟨j, v, hj, rfl, rfl, hv, v1, v2⟩ := hrel
      by_cases hlt : j < rs.length
      · obtain ⟨ad, rfl, hbl, hcell⟩ := HR.out.at_ hlt
        have d1 : w.cell? (ad.add j) = some (.slice rs[j].A rs[j].xs.length rs[j].c) := hcell j rs[j] (List.getElem?_eq_getElem hlt)
        have ht := Lib.hid (tot_take hlt)
        have hl := HM.out rs[j] (List.getElem_mem hlt)
        clear hcell
        obtain ⟨r, hre⟩ : ∃ r, r = rs[j] := ⟨_, rfl⟩
        rw [← hre] at d1 ht hl
        clear hre
        go_wp2_with fail
        refine (szIntS_any _ _ _ _ _ hl v1 v2).mono ?_; rintro e w2 ⟨⟨u, rfl, hu⟩, rfl⟩
        rcases hu with ⟨rfl, hu⟩ | ⟨hu, hu0⟩
        · go_wp2
          go_ret
          exact ⟨⟨-1, rfl, .inl rfl⟩, rfl⟩
        · have hu1 : ¬ u < 0 := by omega
          have hu2 : u ≤ 1048576 := by omega
          have HU := Lib.hid hu
          clear hu
          go_wp2
          go_round
          case rel => exact ⟨j + 1, u, by omega, by go_num, rfl, (by have := hv.out; have := HU.out; have := ht.out; show _ = _; omega), hu0, hu2⟩
          case measure => simp [intOf]; omega
      · obtain rfl : j = rs.length := by omega
        go_wp2
        go_ret
        exact ⟨⟨v, rfl, .inr ⟨v1, by have := hv.out; rwa [tot_take_all] at this⟩⟩, rfl⟩
def RetM (w : World) (xss : List (List Int)) (e : Ending) (w' : World) : Prop := ∃ A c rs, e = .returned (.slice A (rs : List Rw).length c) ∧ lists rs = xss ∧ OwnM w' w.heap.size A c rs ∧ Below w.heap.size w w'
theorem lists_set (rs : List Rw) (k : Nat) (r : Rw) : lists (rs.set k r) = (lists rs).set k r.xs := by simp [lists, List.map_set]
theorem lists_at {rs : List Rw} {k : Nat} (h : k < rs.length) : (lists rs)[k]'(by rw [lists_length]; exact h) = rs[k].xs := by simp [lists]
theorem take_set' {α : Type} (xs ys : List α) (k : Nat) (hk : k < ys.length) (h : ys.take k = xs.take k) (hx : k < xs.length) : (ys.set k xs[k]).take (k + 1) = xs.take (k + 1) := by
  rw [List.take_succ_eq_append_getElem hx, List.take_succ_eq_append_getElem (by simpa using hk), List.getElem_set_self, List.take_set_of_le (by omega), h]
set_option maxHeartbeats 400000 in
theorem toIntSS_any (A : Option Addr) (c : Nat) (rs : List Rw) (w : World) (hr : RdM w w.heap.size A rs) (hn : rs.length ≤ 1048576) (hm : ∀ r ∈ rs, r.xs.length ≤ 1048576) :
    Calls Try.prog 37 #[.slice A rs.length c] w (RetM w (lists rs)) := by
  have hmk := make_rows rs.length (by omega)
  have HM := Lib.hid hm
  have HR := Lib.hid hr
  clear hm hr
  go_enter Try.func37, Try.ntmps37
  go_wp2
  go_loopw [4] (fun i wr => ∃ (k : Nat) (qs : List Rw), k ≤ rs.length ∧ i = .int .i64 k ∧ Hid (qs.length = rs.length) ∧ Hid ((lists qs).take k = (lists rs).take k) ∧ Hid (OwnM wr w.heap.size (some ⟨w.heap.size, 0, none⟩) rs.length qs) ∧ Hid (Below w.heap.size w wr)) (fun i _ => rs.length - (intOf i).toNat)
  case atStart => exact ⟨0, List.replicate rs.length nilRw, by omega, rfl, by simp [Hid], by simp [Hid], ownM_made w _ _ (Nat.le_refl _) (by simp only [maxLen]; omega), (Below.refl _ _).alloc (Nat.le_refl _) _⟩
  case round =>
    obtain ⟨k, qs, hk, rfl, hl, ht, hO, hB⟩ := hrel
    by_cases hlt : k < rs.length
    · obtain ⟨ad, rfl, hbl, hcell⟩ := HR.out.at_ hlt
      have d1 : wr.cell? (ad.add k) = some (.slice rs[k].A rs[k].xs.length rs[k].c) := (hB.out.cell (by rw [block_add]; exact hbl)).trans (hcell k rs[k] (List.getElem?_eq_getElem hlt))
      have RR := ((HR.out.row hlt).below hB.out).more hB.out.size
      have hle := HM.out rs[k] (List.getElem_mem hlt)
      have hat := Lib.hid (lists_at hlt)
      clear hcell
      obtain ⟨r, hre⟩ : ∃ r, r = rs[k] := ⟨_, rfl⟩
      rw [← hre] at d1 RR hle hat
      clear hre
      go_wp2_with fail
      refine (toIntS_any _ _ _ _ RR hle).mono ?_; rintro e w2 ⟨A2, c2, rfl, O2, h2⟩
      have hq : k < qs.length := by have := hl.out; omega
      have hO2 := hO.out.past h2
      have f1 := hO2.frozen k
      have e1 : w2.cell? ⟨w.heap.size, k, none⟩ = some (.slice qs[k].A qs[k].xs.length qs[k].c) := hO2.cell hq
      have hgl : w.heap.size < wr.heap.size := hO.out.his.1 _ rfl
      have hset := hO2.set hq ⟨A2, c2, r.xs⟩ (own_mono O2 hB.out.size) (apart_lt hO.out.his.1 (own_lo O2) (Nat.le_refl _)) (fun j hj hne => apart_lt (hO.out.his.2 _ (List.getElem_mem hj)) (own_lo O2) (Nat.le_refl _))
      have hB2 := (hB.out.trans (h2.mono hB.out.size))
      have hset' : Hid (OwnM (w2.setCell ⟨w.heap.size, k, none⟩ (.slice A2 r.xs.length c2)) w.heap.size (some ⟨w.heap.size, 0, none⟩) rs.length (qs.set k ⟨A2, c2, r.xs⟩)) := hset
      have HB2 := Lib.hid hB2
      clear hset hO2 O2 RR h2 d1
      go_wp2
      go_roundw
      case rel => exact ⟨k + 1, qs.set k ⟨A2, c2, r.xs⟩, by omega, by go_num, by have := hl.out; simp [Hid, this], by
          show _ = _
          rw [lists_set]
          have := take_set' (lists rs) (lists qs) k (by rw [lists_length]; exact hq) ht.out (by rw [lists_length]; exact hlt)
          rw [hat.out] at this
          exact this, hset', HB2.out.setCell (by simp) _⟩
      case measure => simp [intOf]; omega
    · obtain rfl : k = rs.length := by omega
      have e : lists qs = lists rs := by have := ht.out; rwa [List.take_of_length_le (by rw [lists_length]; have := hl.out; omega), List.take_of_length_le (by rw [lists_length]; omega)] at this
      have E := Lib.hid e
      clear e
      go_wp2
      go_ret
      exact ⟨_, _, qs, by rw [hl.out]; rfl, E.out, hO.out, hB.out⟩
set_option maxHeartbeats 400000 in
theorem eqIntS_draws (A A' : Option Addr) (c c' n : Nat) (xs ys : List Int) (w : World) (hx : Rd w w.heap.size A xs) (hy : Rd w w.heap.size A' ys) (he : xs = ys) (hn : xs.length ≤ 9223372036854775807) :
    Calls Try.prog 30 #[.slice A xs.length c, .slice A' ys.length c'] w fun e w' => e = .returned (.bool true) ∧ ∃ m, w' = w.drewN m := by
  subst he
  have hd : (((xs.length : Nat) : Int) != ((xs.length : Nat) : Int)) = false := by simp
  go_enter Try.func30, Try.ntmps30
  go_wp2
  go_loopw [5] (fun i wr => ∃ k : Nat, k ≤ xs.length ∧ i = .int .i64 k ∧ Hid (∃ m, wr = w.drewN m)) (fun i _ => xs.length - (intOf i).toNat)
  case atStart => exact ⟨0, by omega, rfl, 0, rfl⟩
  case round =>
    obtain ⟨k, hk, rfl, HD⟩ := hrel
    have hd' : ∀ p, wr.cell? p = w.cell? p := by obtain ⟨m, hm⟩ := HD.out; subst hm; exact fun _ => rfl
    by_cases hlt : k < xs.length
    · obtain ⟨ad, rfl, hbl, hcell⟩ := hx.at_ hlt
      obtain ⟨ad', rfl, hbl', hcell'⟩ := hy.at_ (k := k) (by omega)
      have hc1 : wr.cell? (ad.add k) = some (.int .i64 (xs.getD k 0)) := (hd' _).trans (hcell k hlt)
      have hc2 : wr.cell? (ad'.add k) = some (.int .i64 (xs.getD k 0)) := (hd' _).trans (hcell' k (by omega))
      have hne : (xs[k] != xs[k]) = false := by simp
      clear hx hy hcell hcell' hd'
      go_wp2
      go_quiet (fail)
      go_wp2
      go_roundw
      case rel => exact ⟨k + 1, by omega, by go_num, by obtain ⟨m, rfl⟩ := HD.out; exact ⟨_, World.drewN_drewN ..⟩⟩
      case measure => simp [intOf]; omega
    · go_wp2
      go_ret
      exact ⟨rfl, HD.out⟩
theorem rd_drew {w : World} {A : Option Addr} {xs : List Int} (h : Rd w w.heap.size A xs) (m : Nat) : Rd (w.drewN m) (w.drewN m).heap.size A xs := h.keep fun _ _ => rfl
set_option maxHeartbeats 1000000 in
theorem eqIntSS_same (A A' : Option Addr) (c c' : Nat) (rs qs : List Rw) (w : World) (hr : RdM w w.heap.size A rs) (hq : RdM w w.heap.size A' qs) (he : lists rs = lists qs) (hn : rs.length ≤ 1048576) (hm : ∀ r ∈ rs, r.xs.length ≤ 1099511627776) :
    Calls Try.prog 38 #[.slice A rs.length c, .slice A' qs.length c'] w fun e w' => e = .returned (.bool true) ∧ Below w.heap.size w w' := by
  have hlen : rs.length = qs.length := by rw [← lists_length rs, he, lists_length]
  have hd : (((rs.length : Nat) : Int) != ((qs.length : Nat) : Int)) = false := by simp; omega
  have hl1 : rs.length ≤ qs.length := by omega
  have HE := Lib.hid he
  have HM := Lib.hid hm
  have HR := Lib.hid hr
  have HQ := Lib.hid hq
  clear hlen he hm hr hq
  go_enter Try.func38, Try.ntmps38
  go_wp2
  go_loopw [5] (fun i wr => ∃ k : Nat, k ≤ rs.length ∧ i = .int .i64 k ∧ Hid (∃ m, wr = w.drewN m)) (fun i _ => rs.length - (intOf i).toNat)
  case atStart => exact ⟨0, by omega, rfl, 0, rfl⟩
  case round =>
    obtain ⟨k, hk, rfl, HD⟩ := hrel
    have hd' : ∀ p, wr.cell? p = w.cell? p := by obtain ⟨m, hm⟩ := HD.out; subst hm; exact fun _ => rfl
    by_cases hlt : k < rs.length
    · have hlt' : k < qs.length := by omega
      obtain ⟨ad, rfl, hbl, hcell⟩ := HR.out.at_ hlt
      obtain ⟨ad', rfl, hbl', hcell'⟩ := HQ.out.at_ hlt'
      have hc1 : wr.cell? (ad.add k) = some (.slice rs[k].A rs[k].xs.length rs[k].c) := (hd' _).trans (hcell k rs[k] (List.getElem?_eq_getElem hlt))
      have hc2 : wr.cell? (ad'.add k) = some (.slice qs[k].A qs[k].xs.length qs[k].c) := (hd' _).trans (hcell' k qs[k] (List.getElem?_eq_getElem hlt'))
      have r1 := HR.out.row hlt
      have r2 := HQ.out.row hlt'
      have hle := HM.out rs[k] (List.getElem_mem hlt)
      have hxy : rs[k].xs = qs[k].xs := by
        have e1 := lists_getD (rs := rs) hlt
        have e2 := lists_getD (rs := qs) hlt'
        rw [HE.out] at e1
        exact e1.symm.trans e2
      obtain ⟨r, hre⟩ : ∃ r, r = rs[k] := ⟨_, rfl⟩
      obtain ⟨q, hqe⟩ : ∃ q, q = qs[k] := ⟨_, rfl⟩
      rw [← hre] at hc1 r1 hle hxy
      rw [← hqe] at hc2 r2 hxy
      have R1 : Hid (Rd wr wr.heap.size r.A r.xs) := by obtain ⟨m, hm⟩ := HD.out; subst hm; exact rd_drew r1 m
      have R2 : Hid (Rd wr wr.heap.size q.A q.xs) := by obtain ⟨m, hm⟩ := HD.out; subst hm; exact rd_drew r2 m
      have XY := Lib.hid hxy
      clear hcell hcell' hd' r1 r2 hxy hre hqe
      go_wp2
      go_quiet (first | (go_at_call 30; refine (eqIntS_draws _ _ _ _ 0 _ _ _ (rd_drew R1.out _) (rd_drew R2.out _) XY.out (by omega)).mono ?_; rintro e w' ⟨rfl, m, rfl⟩; exact ⟨rfl, _, World.drewN_drewN ..⟩))
      go_wp2
      go_roundw
      case rel => exact ⟨k + 1, by omega, by go_num, by obtain ⟨m, rfl⟩ := HD.out; exact ⟨_, World.drewN_drewN ..⟩⟩
      case measure => simp [intOf]; omega
    · go_wp2
      go_ret
      obtain ⟨m, rfl⟩ := HD.out
      exact ⟨rfl, below_drewN' (Below.refl _ _) m⟩
/-- One row is written anew where it lies. -/
theorem OwnM.reRow {w w' : World} {B c : Nat} {A : Option Addr} {rs : List Rw} {j : Nat} {ys : List Int} (h : OwnM w B A c rs) (hj : j < rs.length) (hw : Wrote w w' rs[j].A) (ho : Own w' 0 rs[j].A rs[j].c ys) (hl : ys.length = rs[j].xs.length) : OwnM w' 0 A c (rs.set j ⟨rs[j].A, rs[j].c, ys⟩) := by
  have h0 := h.more (B' := 0) (by omega)
  have key : ∀ D : Option Addr, Hi D w.heap.size → Apart D rs[j].A → ∀ a, D = some a → w'.heap[a.block]? = w.heap[a.block]? := fun D hD hap a e =>
    hw.block _ (hD a e) (by
      cases hA : rs[j].A with
      | none =>
        intro e'
        simp [Go.Proofs.Yteabibkbmigpaaa.row] at e'
      | some a' => rw [hA] at hap; exact apart_row hap a e (by simp))
  refine ⟨?_, ?_, ?_, ?_⟩
  · have e : vals (rs.set j ⟨rs[j].A, rs[j].c, ys⟩) = vals rs := by
      apply List.ext_getElem?
      intro i
      by_cases hi : i = j
      · subst hi
        simp [vals, List.getElem?_set, hj, Rw.val, hl]
      · simp [vals, List.getElem?_set_ne (Ne.symm hi)]
    rw [e, List.length_set]
    exact out_block h0.out (key A h.his.1 (h.off _ (List.getElem_mem hj)))
  · intro q hq
    obtain ⟨i, hi, rfl⟩ := List.getElem_of_mem hq
    have hi' : i < rs.length := by simpa using hi
    by_cases hij : i = j
    · subst hij
      rw [List.getElem_set_self]
      exact ho
    · rw [List.getElem_set_ne (Ne.symm hij)]
      exact own_block (h0.row _ (List.getElem_mem hi')) (key _ (h.his.2 _ (List.getElem_mem hi')) (h.apart i j hi' hj hij))
  · intro i k hi hk hik
    have hi' : i < rs.length := by simpa using hi
    have hk' : k < rs.length := by simpa using hk
    have e : ∀ t (ht : t < (rs.set j ⟨rs[j].A, rs[j].c, ys⟩).length) (ht' : t < rs.length), (rs.set j ⟨rs[j].A, rs[j].c, ys⟩)[t].A = rs[t].A := by
      intro t ht ht'
      by_cases htj : t = j
      · subst htj; rw [List.getElem_set_self]
      · rw [List.getElem_set_ne (Ne.symm htj)]
    rw [e i hi hi', e k hk hk']
    exact h.apart i k hi' hk' hik
  · intro q hq
    rcases List.mem_or_eq_of_mem_set hq with hq | rfl
    · exact h.off q hq
    · exact (show Apart A rs[j].A from h.off rs[j] (List.getElem_mem hj))
/-- The first j rows are marked, from k on. -/
def MarkTo (k : Int) (rs qs : List Rw) (j : Nat) : Prop := qs.length = rs.length ∧ ∀ i (hi : i < rs.length), qs[i]? = some (if i < j then ⟨rs[i].A, rs[i].c, marks (k + tot ((lists rs).take i)) rs[i].xs.length⟩ else rs[i])
theorem markTo_start (k : Int) (rs : List Rw) : MarkTo k rs rs 0 := ⟨rfl, fun i hi => by simp [hi]⟩
theorem markTo_at {k : Int} {rs qs : List Rw} {j : Nat} (h : MarkTo k rs qs j) (h1 : j < qs.length) (h2 : j < rs.length) : qs[j] = rs[j] := by
  have e := h.2 j h2
  rw [if_neg (by omega), List.getElem?_eq_getElem h1] at e
  exact Option.some.inj e
theorem markTo_step {k : Int} {rs qs : List Rw} {j : Nat} (h : MarkTo k rs qs j) (h1 : j < qs.length) (h2 : j < rs.length) :
    MarkTo k rs (qs.set j ⟨qs[j].A, qs[j].c, marks (k + tot ((lists rs).take j)) qs[j].xs.length⟩) (j + 1) := by
  refine ⟨by rw [List.length_set, h.1], fun i hi => ?_⟩
  by_cases hij : i = j
  · subst hij
    rw [List.getElem?_set_self h1, if_pos (by omega), markTo_at h h1 h2]
  · rw [List.getElem?_set_ne (Ne.symm hij), h.2 i hi]
    by_cases hlt : i < j
    · rw [if_pos hlt, if_pos (by omega)]
    · rw [if_neg hlt, if_neg (by omega)]
set_option maxHeartbeats 1000000 in
theorem markIntSS_any (A : Option Addr) (B H c : Nat) (rs : List Rw) (k : Int) (w : World) (hO : OwnM w B A c rs) (hH : ∀ r ∈ rs, Hi r.A H) (hn : rs.length ≤ 1048576) (ht : tot (lists rs) ≤ 1048576) (k1 : 0 ≤ k) (k2 : k ≤ 1099511627776) :
    Calls Try.prog 39 #[.slice A rs.length c, .int .i64 k] w fun e w' => e = .returned (.int .i64 (k + tot (lists rs))) ∧ (∃ qs, MarkTo k rs qs rs.length ∧ OwnM w' 0 A c qs) ∧ Span w w' B H := by
  have HO := Lib.hid hO
  have HH := Lib.hid hH
  have HT := Lib.hid ht
  clear hO ht hH
  go_enter Try.func39, Try.ntmps39
  go_wp2
  go_loopw [1, 5] (fun q i wr => ∃ (j : Nat) (qs : List Rw), j ≤ rs.length ∧ i = .int .i64 j ∧ q = .int .i64 (k + tot ((lists rs).take j)) ∧ Hid (MarkTo k rs qs j) ∧ Hid (OwnM wr 0 A c qs) ∧ Hid (Span w wr B H)) (fun _ i _ => rs.length - (intOf i).toNat)
  case atStart => exact ⟨0, rs, by omega, rfl, by simp [tot], markTo_start k rs, HO.out.more (by omega), Span.refl _ _ _⟩
  case round =>
    obtain ⟨j, qs, hj, rfl, rfl, hM, hQ, hS⟩ := hrel
    by_cases hlt : j < rs.length
    · have hlt' : j < qs.length := by have := hM.out.1; omega
      obtain ⟨ad, rfl, hbl, hcell⟩ := hQ.out.rdm.at_ hlt'
      have d1 : wr.cell? (ad.add j) = some (.slice qs[j].A qs[j].xs.length qs[j].c) := hcell j qs[j] (List.getElem?_eq_getElem hlt')
      have hq := markTo_at hM.out hlt' hlt
      have oj := Lib.hid (hQ.out.row qs[j] (List.getElem_mem hlt'))
      have hle := tot_mem rs[j] (List.getElem_mem hlt)
      have htk := tot_take hlt
      have hmono : tot ((lists rs).take (j + 1)) ≤ tot (lists rs) := by
        have := tot_append ((lists rs).take (j + 1)) ((lists rs).drop (j + 1))
        rw [List.take_append_drop] at this
        omega
      have hml : tot ((lists rs).take j) ≤ 1048576 := by have := HT.out; omega
      have hll : qs[j].xs.length ≤ 1048576 := by have := HT.out; rw [hq]; omega
      have Htk := Lib.hid htk
      have Hq := Lib.hid hq
      clear hcell hle htk hmono hq
      obtain ⟨r, hre⟩ : ∃ r, r = qs[j] := ⟨_, rfl⟩
      have Hre := Lib.hid hre
      rw [← hre] at d1 oj hll
      clear hre
      go_wp2_with fail
      refine (markIntS_any _ _ _ _ _ _ oj.out (by omega) (by omega) (by omega)).mono ?_; rintro e w2 ⟨rfl, O2, W2⟩
      have hst := hQ.out.reRow hlt' (by rw [← Hre.out]; exact W2) (by rw [← Hre.out]; exact O2) (by rw [marks_length, Hre.out])
      have hmk := markTo_step hM.out hlt' hlt
      have hlo : Lo r.A B := by rw [Hre.out, Hq.out]; exact HO.out.los.2 _ (List.getElem_mem hlt)
      have hhi : Hi r.A H := by rw [Hre.out, Hq.out]; exact HH.out _ (List.getElem_mem hlt)
      have hS2 := Lib.hid (hS.out.trans (Span.of_wrote W2 hlo hhi))
      have Hst : Hid (OwnM w2 0 (some ad) c (qs.set j ⟨qs[j].A, qs[j].c, marks (k + tot ((lists rs).take j)) qs[j].xs.length⟩)) := by rw [← Hre.out] at hst ⊢; exact hst
      have Hmk := Lib.hid hmk
      have hsum : k + (tot ((lists rs).take j) : Int) + (r.xs.length : Int) = k + (tot ((lists rs).take (j + 1)) : Int) := by rw [Htk.out, Hre.out, Hq.out]; omega
      have Hsum := Lib.hid hsum
      clear hst hmk O2 W2 hlo hhi hsum d1
      go_wp2
      go_roundw
      case rel => exact ⟨j + 1, _, by omega, by go_num, by rw [← Hsum.out], Hmk.out, Hst.out, hS2.out⟩
      case measure => simp [intOf]; omega
    · obtain rfl : j = rs.length := by omega
      have e := Lib.hid (tot_take_all rs)
      go_wp2
      go_ret
      exact ⟨by rw [← e.out]; rfl, ⟨qs, hM.out, hQ.out⟩, hS.out⟩
end Go.Proofs.Yteabibkbmigpaaa
