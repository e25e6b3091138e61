/- Contracts of the laws' helpers over slices of slices of ints. -/
import Derived.Test.YtdmoceooijbajaaDoorMatOwn
import Derived.Test.YtdmoceooijbajaaDoorBase
namespace Go.Proofs.YtdmoceooijbajaaDoor
open Go.RowKit
set_option linter.unusedVariables false
set_option linter.unusedSimpArgs false
def tot : List (List Int) → Nat
  | [] => 0
  | x :: xs => x.length + tot xs
theorem tot_append (xs ys : List (List Int)) : tot (xs ++ ys) = tot xs + tot ys := by
  induction xs with
  | nil => simp [tot]
  | cons x xs ih => simp [tot, ih]; omega
theorem tot_take {rs : List Rw} {k : Nat} (h : k < rs.length) : tot ((lists rs).take (k + 1)) = tot ((lists rs).take k) + rs[k].xs.length := by
  have h' : k < (lists rs).length := by rw [lists_length]; exact h
  rw [List.take_succ_eq_append_getElem h', tot_append]
  simp [tot, lists]
theorem tot_take_all (rs : List Rw) : tot ((lists rs).take rs.length) = tot (lists rs) := by rw [List.take_of_length_le (by rw [lists_length]; omega)]
theorem tot_mem {rs : List Rw} : ∀ r ∈ rs, r.xs.length ≤ tot (lists rs) := by
  induction rs with
  | nil => intro r h; cases h
  | cons q rs ih =>
    intro r h
    simp only [lists, List.map_cons, tot]
    rcases List.mem_cons.1 h with rfl | h
    · omega
    · have := ih r h
      simp only [lists] at this
      omega
def RetM (w : World) (xss : List (List Int)) (e : Ending) (w' : World) : Prop := ∃ A c rs, e = .returned (.slice A (rs : List Rw).length c) ∧ lists rs = xss ∧ OwnM w' w.heap.size A c rs ∧ Below w.heap.size w w'
theorem lists_set (rs : List Rw) (k : Nat) (r : Rw) : lists (rs.set k r) = (lists rs).set k r.xs := by simp [lists, List.map_set]
theorem lists_at {rs : List Rw} {k : Nat} (h : k < rs.length) : (lists rs)[k]'(by rw [lists_length]; exact h) = rs[k].xs := by simp [lists]
theorem take_set' {α : Type} (xs ys : List α) (k : Nat) (hk : k < ys.length) (h : ys.take k = xs.take k) (hx : k < xs.length) : (ys.set k xs[k]).take (k + 1) = xs.take (k + 1) := by
  rw [List.take_succ_eq_append_getElem hx, List.take_succ_eq_append_getElem (by simpa using hk), List.getElem_set_self, List.take_set_of_le (by omega), h]
set_option maxHeartbeats 400000 in
theorem eqIntS_draws (A A' : Option Addr) (c c' n : Nat) (xs ys : List Int) (w : World) (hx : Rd w w.heap.size A xs) (hy : Rd w w.heap.size A' ys) (he : xs = ys) (hn : xs.length ≤ 9223372036854775807) :
    Calls Tryd.prog 8 #[.slice A xs.length c, .slice A' ys.length c'] w fun e w' => e = .returned (.bool true) ∧ ∃ m, w' = w.drewN m := by
  subst he
  have hd : (((xs.length : Nat) : Int) != ((xs.length : Nat) : Int)) = false := by simp
  go_enter Tryd.func8, Tryd.ntmps8
  go_wp2
  go_loopw [5] (fun i wr => ∃ k : Nat, k ≤ xs.length ∧ i = .int .i64 k ∧ Hid (∃ m, wr = w.drewN m)) (fun i _ => xs.length - (intOf i).toNat)
  case atStart => exact ⟨0, by omega, rfl, 0, rfl⟩
  case round =>
    obtain ⟨k, hk, rfl, HD⟩ := hrel
    have hd' : ∀ p, wr.cell? p = w.cell? p := by obtain ⟨m, hm⟩ := HD.out; subst hm; exact fun _ => rfl
    by_cases hlt : k < xs.length
    · obtain ⟨ad, rfl, hbl, hcell⟩ := hx.at_ hlt
      obtain ⟨ad', rfl, hbl', hcell'⟩ := hy.at_ (k := k) (by omega)
      have hc1 : wr.cell? (ad.add k) = some (.int .i64 (xs.getD k 0)) := (hd' _).trans (hcell k hlt)
      have hc2 : wr.cell? (ad'.add k) = some (.int .i64 (xs.getD k 0)) := (hd' _).trans (hcell' k (by omega))
      have hne : (xs[k] != xs[k]) = false := by simp
      clear hx hy hcell hcell' hd'
      go_wp2
      go_quiet (fail)
      go_wp2
      go_roundw
      case rel => exact ⟨k + 1, by omega, by go_num, by obtain ⟨m, rfl⟩ := HD.out; exact ⟨_, World.drewN_drewN ..⟩⟩
      case measure => simp [intOf]; omega
    · go_wp2
      go_ret
      exact ⟨rfl, HD.out⟩
theorem rd_drew {w : World} {A : Option Addr} {xs : List Int} (h : Rd w w.heap.size A xs) (m : Nat) : Rd (w.drewN m) (w.drewN m).heap.size A xs := h.keep fun _ _ => rfl
/-- One row is written anew where it lies. -/
theorem OwnM.reRow {w w' : World} {B c : Nat} {A : Option Addr} {rs : List Rw} {j : Nat} {ys : List Int} (h : OwnM w B A c rs) (hj : j < rs.length) (hw : Wrote w w' rs[j].A) (ho : Own w' 0 rs[j].A rs[j].c ys) (hl : ys.length = rs[j].xs.length) : OwnM w' 0 A c (rs.set j ⟨rs[j].A, rs[j].c, ys⟩) := by
  have h0 := h.more (B' := 0) (by omega)
  have key : ∀ D : Option Addr, Hi D w.heap.size → Apart D rs[j].A → ∀ a, D = some a → w'.heap[a.block]? = w.heap[a.block]? := fun D hD hap a e =>
    hw.block _ (hD a e) (by
      cases hA : rs[j].A with
      | none =>
        intro e'
        simp [Go.Proofs.YtdmoceooijbajaaDoor.row] at e'
      | some a' => rw [hA] at hap; exact apart_row hap a e (by simp))
  refine ⟨?_, ?_, ?_, ?_⟩
  · have e : vals (rs.set j ⟨rs[j].A, rs[j].c, ys⟩) = vals rs := by
      apply List.ext_getElem?
      intro i
      by_cases hi : i = j
      · subst hi
        simp [vals, List.getElem?_set, hj, Rw.val, hl]
      · simp [vals, List.getElem?_set_ne (Ne.symm hi)]
    rw [e, List.length_set]
    exact out_block h0.out (key A h.his.1 (h.off _ (List.getElem_mem hj)))
  · intro q hq
    obtain ⟨i, hi, rfl⟩ := List.getElem_of_mem hq
    have hi' : i < rs.length := by simpa using hi
    by_cases hij : i = j
    · subst hij
      rw [List.getElem_set_self]
      exact ho
    · rw [List.getElem_set_ne (Ne.symm hij)]
      exact own_block (h0.row _ (List.getElem_mem hi')) (key _ (h.his.2 _ (List.getElem_mem hi')) (h.apart i j hi' hj hij))
  · intro i k hi hk hik
    have hi' : i < rs.length := by simpa using hi
    have hk' : k < rs.length := by simpa using hk
    have e : ∀ t (ht : t < (rs.set j ⟨rs[j].A, rs[j].c, ys⟩).length) (ht' : t < rs.length), (rs.set j ⟨rs[j].A, rs[j].c, ys⟩)[t].A = rs[t].A := by
      intro t ht ht'
      by_cases htj : t = j
      · subst htj; rw [List.getElem_set_self]
      · rw [List.getElem_set_ne (Ne.symm htj)]
    rw [e i hi hi', e k hk hk']
    exact h.apart i k hi' hk' hik
  · intro q hq
    rcases List.mem_or_eq_of_mem_set hq with hq | rfl
    · exact h.off q hq
    · exact (show Apart A rs[j].A from h.off rs[j] (List.getElem_mem hj))
/-- The first j rows are marked, from k on. -/
def MarkTo (k : Int) (rs qs : List Rw) (j : Nat) : Prop := qs.length = rs.length ∧ ∀ i (hi : i < rs.length), qs[i]? = some (if i < j then ⟨rs[i].A, rs[i].c, marks (k + tot ((lists rs).take i)) rs[i].xs.length⟩ else rs[i])
theorem markTo_start (k : Int) (rs : List Rw) : MarkTo k rs rs 0 := ⟨rfl, fun i hi => by simp [hi]⟩
theorem markTo_at {k : Int} {rs qs : List Rw} {j : Nat} (h : MarkTo k rs qs j) (h1 : j < qs.length) (h2 : j < rs.length) : qs[j] = rs[j] := by
  have e := h.2 j h2
  rw [if_neg (by omega), List.getElem?_eq_getElem h1] at e
  exact Option.some.inj e
theorem markTo_step {k : Int} {rs qs : List Rw} {j : Nat} (h : MarkTo k rs qs j) (h1 : j < qs.length) (h2 : j < rs.length) :
    MarkTo k rs (qs.set j ⟨qs[j].A, qs[j].c, marks (k + tot ((lists rs).take j)) qs[j].xs.length⟩) (j + 1) := by
  refine ⟨by rw [List.length_set, h.1], fun i hi => ?_⟩
  by_cases hij : i = j
  · subst hij
    rw [List.getElem?_set_self h1, if_pos (by omega), markTo_at h h1 h2]
  · rw [List.getElem?_set_ne (Ne.symm hij), h.2 i hi]
    by_cases hlt : i < j
    · rw [if_pos hlt, if_pos (by omega)]
    · rw [if_neg hlt, if_neg (by omega)]
end Go.Proofs.YtdmoceooijbajaaDoor
