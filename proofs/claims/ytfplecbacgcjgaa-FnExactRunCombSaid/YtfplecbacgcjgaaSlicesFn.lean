/- Contracts of the laws' own helpers on slices of ints. -/
import Derived.Test.YtfplecbacgcjgaaSlices
namespace Go.Proofs.Ytfplecbacgcjgaa
open Go.RowKit
set_option linter.unusedVariables false
set_option linter.unusedSimpArgs false
def RetSl (w : World) (xs : List Int) (e : Ending) (w' : World) : Prop := ∃ A c, e = .returned (.slice A xs.length c) ∧ Own w' w.heap.size A c xs ∧ Below w.heap.size w w'

theorem take_set (xs ys : List Int) (k : Nat) (hk : k < ys.length) (h : ys.take k = xs.take k) (hx : k < xs.length) : (ys.set k xs[k]).take (k + 1) = xs.take (k + 1) := by
  apply List.ext_getElem?
  intro j
  have h0 : ∀ i, i < k → ys[i]? = xs[i]? := fun i hi => by
    have := congrArg (·[i]?) h
    simpa [List.getElem?_take, hi] using this
  rw [List.getElem?_take, List.getElem?_take]
  split
  · rw [List.getElem?_set]
    split
    · rename_i e
      subst e
      simp [hk, hx]
    · exact h0 j (by omega)
  · rfl
theorem make_ints (n : Nat) (hn : n ≤ 1099511627776) : ∀ W : World, (Instr.makeSlice 31 (.int .i64 (n : Int)) (.int .i64 (n : Int))).run Try.prog W = .ok (.slice (some ⟨W.heap.size, 0, none⟩) n n) (W.alloc (.cells (madeCells #[.int .i64 0] n) 3)) :=
  fun W => run_make_row' 31 3 (.int .i64 0) 8 Try.underlying31 intInfo rfl _ _ n (by omega) (by omega) W
set_option maxHeartbeats 400000 in
theorem toIntS_any (A : Option Addr) (c : Nat) (xs : List Int) (w : World) (hr : Rd w w.heap.size A xs) (hn : xs.length ≤ 1048576) :
    Calls Try.prog 36 #[.slice A xs.length c] w (RetSl w xs) := by
  have hmk := make_ints xs.length (by omega)
  go_enter Try.func36, Try.ntmps36
  go_wp2
  go_loopw [4] (fun i wr => ∃ (k : Nat) (ys : List Int), k ≤ xs.length ∧ i = .int .i64 k ∧ ys.length = xs.length ∧ Hid (ys.take k = xs.take k) ∧ Own wr w.heap.size (some ⟨w.heap.size, 0, none⟩) xs.length ys ∧ Below w.heap.size w wr) (fun i _ => xs.length - (intOf i).toNat)
  case atStart => exact ⟨0, List.replicate xs.length 0, by omega, rfl, by simp, Lib.hid (by simp), own_made w _ (Nat.le_refl _) (by simp only [maxLen]; omega), (Below.refl _ _).alloc (Nat.le_refl _) _⟩
  case round =>
    obtain ⟨k, ys, hk, rfl, hl, hy, hown, hb⟩ := hrel
    by_cases hlt : k < xs.length
    · obtain ⟨ad, rfl, hbl, hcell⟩ := hr.at_ hlt
      have hc1 : wr.cell? (ad.add k) = some (.int .i64 (xs.getD k 0)) := (hb.cell (by rw [block_add]; exact hbl)).trans (hcell k hlt)
      have hc2 := own_cell hown (j := k) (by omega)
      have hf2 := own_frozen hown k
      have hl1 : ys.length ≤ xs.length := by omega
      have hl2 : xs.length ≤ ys.length := by omega
      clear hl hr hcell
      go_wp2
      go_roundw
      case rel => exact ⟨k + 1, ys.set k xs[k], by omega, by go_num, by simp; omega, Lib.hid (take_set xs ys k (by omega) hy.out hlt), own_set hown k _, hb.setCell (by simp) _⟩
      case measure => simp [intOf]; omega
    · go_wp2
      go_ret
      have e : ys = xs := by have := hy.out; rwa [List.take_of_length_le (by omega), List.take_of_length_le (by omega)] at this
      subst e
      exact ⟨_, _, rfl, hown, hb⟩
/-- Where two lists of one length part, if they do. -/
def EqTo (xs ys : List Int) (k : Nat) : Prop := xs.take k = ys.take k
theorem eqTo_step {xs ys : List Int} {k : Nat} (h : EqTo xs ys k) (h1 : k < xs.length) (h2 : k < ys.length) (e : xs[k] = ys[k]) : EqTo xs ys (k + 1) := by
  unfold EqTo at *
  rw [List.take_succ_eq_append_getElem h1, List.take_succ_eq_append_getElem h2, h, e]
def eqB (xs ys : List Int) : Bool := decide (xs = ys)
theorem eqB_ne_len {xs ys : List Int} (h : xs.length ≠ ys.length) : eqB xs ys = false := by simp [eqB]; intro e; exact h (by rw [e])
theorem eqB_ne_at {xs ys : List Int} {k : Nat} (h1 : k < xs.length) (h2 : k < ys.length) (e : xs[k] ≠ ys[k]) : eqB xs ys = false := by simp [eqB]; intro h; subst h; exact e rfl
theorem eqB_self (xs : List Int) : eqB xs xs = true := by simp [eqB]
theorem eqB_true {xs ys : List Int} (h : eqB xs ys = true) : xs = ys := by simpa [eqB] using h
theorem eqTo_all {xs ys : List Int} (h : EqTo xs ys xs.length) (hl : xs.length = ys.length) : eqB xs ys = true := by
  unfold EqTo at h
  rw [List.take_of_length_le (by omega), List.take_of_length_le (by omega)] at h
  simp [eqB, h]
set_option maxHeartbeats 400000 in
theorem eqIntS_any (A A' : Option Addr) (c c' : Nat) (xs ys : List Int) (w : World) (hx : Rd w w.heap.size A xs) (hy : Rd w w.heap.size A' ys) (hn : xs.length ≤ 9223372036854775807) :
    Calls Try.prog 37 #[.slice A xs.length c, .slice A' ys.length c'] w fun e w' => e = .returned (.bool (eqB xs ys)) ∧ Below w.heap.size w w' := by
  by_cases hl : xs.length = ys.length
  · have hl1 : xs.length ≤ ys.length := by omega
    have hl2 : ys.length ≤ xs.length := by omega
    have hd : (((xs.length : Nat) : Int) != ((ys.length : Nat) : Int)) = false := by simp; omega
    have Hl := Lib.hid hl
    clear hl
    go_enter Try.func37, Try.ntmps37
    go_wp2
    go_loopw [5] (fun i wr => ∃ k : Nat, k ≤ xs.length ∧ i = .int .i64 k ∧ EqTo xs ys k ∧ Below w.heap.size w wr) (fun i _ => xs.length - (intOf i).toNat)
    case atStart => exact ⟨0, by omega, rfl, by simp [EqTo], Below.refl _ _⟩
    case round =>
      obtain ⟨k, hk, rfl, he, hb⟩ := hrel
      by_cases hlt : k < xs.length
      · obtain ⟨ad, rfl, hbl, hcell⟩ := hx.at_ hlt
        obtain ⟨ad', rfl, hbl', hcell'⟩ := hy.at_ (k := k) (by omega)
        have hc1 : wr.cell? (ad.add k) = some (.int .i64 (xs.getD k 0)) := (hb.cell (by rw [block_add]; exact hbl)).trans (hcell k hlt)
        have hc2 : wr.cell? (ad'.add k) = some (.int .i64 (ys.getD k 0)) := (hb.cell (by rw [block_add]; exact hbl')).trans (hcell' k (by omega))
        have hlt' : k < ys.length := by omega
        clear hx hy hcell hcell'
        go_wp2
        go_quiet (fail)
        go_wp2
        · go_ret
          have hne : (xs[k] != ys[k]) = true := by assumption
          exact ⟨ret_bool (eqB_ne_at hlt hlt' (by simpa using hne)).symm, below_drewN' hb _⟩
        · have heq : (xs[k] != ys[k]) = false := by assumption
          go_roundw
          case rel => exact ⟨k + 1, by omega, by go_num, eqTo_step he hlt hlt' (by simpa using heq), below_drewN' hb _⟩
          case measure => simp [intOf]; omega
      · go_wp2
        go_ret
        obtain rfl : k = xs.length := by omega
        exact ⟨ret_bool (eqTo_all he Hl.out).symm, hb⟩
  · have hd : (((xs.length : Nat) : Int) != ((ys.length : Nat) : Int)) = true := by simp; omega
    go_enter Try.func37, Try.ntmps37
    go_wp2
    go_ret
    exact ⟨ret_bool (eqB_ne_len hl).symm, Below.refl _ _⟩
/-- xs with k, k + 1, .. -/
def marks (k : Int) : Nat → List Int
  | 0 => []
  | n + 1 => k :: marks (k + 1) n
theorem marks_length (n : Nat) : ∀ k, (marks k n).length = n := by
  induction n with
  | zero => intro k; rfl
  | succ n ih => intro k; simp [marks, ih]
theorem marks_get (n : Nat) : ∀ (k : Int) (j : Nat), j < n → (marks k n)[j]? = some (k + j) := by
  induction n with
  | zero => intro k j h; omega
  | succ n ih =>
    intro k j h
    cases j with
    | zero => simp [marks]
    | succ j =>
      rw [marks, List.getElem?_cons_succ, ih (k + 1) j (by omega)]
      congr 1
      omega
def RetMark (w : World) (A : Option Addr) (c n : Nat) (k : Int) (e : Ending) (w' : World) : Prop :=
  e = .returned (.int .i64 (k + n)) ∧ Own w' 0 A c (marks k n) ∧ Wrote w w' A
theorem set_marks {ys : List Int} {n j : Nat} {k : Int} (hl : ys.length = n) (hj : j < n) (h : ys.take j = (marks k n).take j) : (ys.set j (k + j)).take (j + 1) = (marks k n).take (j + 1) := by
  have hm := marks_length n k
  have e := marks_get n k j hj
  have e' : (marks k n)[j]'(by omega) = k + j := by
    rw [List.getElem?_eq_getElem (by omega)] at e
    exact Option.some.inj e
  rw [← e']
  exact take_set _ _ _ (by omega) h (by omega)
theorem wrote_set {w wr : World} {g j : Nat} {A : Option Addr} (h : Wrote w wr A) (e : A = some ⟨g, 0, none⟩) (v : Value) : Wrote w (wr.setCell ⟨g, j, none⟩ v) A := by
  subst e
  exact ⟨h.os, h.tape, h.output, by simpa [World.setCell] using h.size, fun i hi hne => (Below.heap_setCell wr ⟨g, j, none⟩ v i (by
    rintro rfl
    exact hne rfl)).trans (h.block i hi hne)⟩
set_option maxHeartbeats 400000 in
theorem markIntS_any (A : Option Addr) (B c : Nat) (xs : List Int) (k : Int) (w : World) (hx : Own w B A c xs) (hn : xs.length ≤ 1099511627776) (k1 : 0 ≤ k) (k2 : k ≤ 4398046511104) :
    Calls Try.prog 38 #[.slice A xs.length c, .int .i64 k] w (RetMark w A c xs.length k) := by
  go_enter Try.func38, Try.ntmps38
  go_wp2
  go_loopw [1, 5] (fun q i wr => ∃ (j : Nat) (ys : List Int), j ≤ xs.length ∧ i = .int .i64 j ∧ q = .int .i64 (k + j) ∧ Hid (ys.length = xs.length) ∧ Hid (ys.take j = (marks k xs.length).take j) ∧ Hid (Own wr 0 A c ys) ∧ Wrote w wr A) (fun _ i _ => xs.length - (intOf i).toNat)
  case atStart => exact ⟨0, xs, by omega, rfl, by simp, rfl, Lib.hid (by simp), own_mono hx (by omega), World.grownBy.refl _ _⟩
  case round =>
    obtain ⟨j, ys, hj, rfl, rfl, hl, hy, hown, hw⟩ := hrel
    by_cases hlt : j < xs.length
    · obtain ⟨g, rfl, _, _⟩ := own_head hx hlt
      have hlt' : j < ys.length := by have := hl.out; omega
      have hc2 := own_cell hown.out hlt'
      have hf2 := own_frozen hown.out j
      clear hx
      go_wp2
      go_roundw
      case rel => exact ⟨j + 1, ys.set j (k + j), by omega, by go_num, by go_num, by have := hl.out; simp [Hid, this], set_marks hl.out hlt hy.out, own_set hown.out j _, wrote_set hw rfl _⟩
      case measure => simp [intOf]; omega
    · obtain rfl : j = xs.length := by omega
      go_wp2
      go_ret
      have e : ys = marks k xs.length := by
        have := hy.out
        rwa [List.take_of_length_le (by have := hl.out; omega), List.take_of_length_le (by rw [marks_length]; omega)] at this
      refine ⟨rfl, ?_, hw⟩
      rw [← e]
      exact hown.out
set_option maxHeartbeats 400000 in
theorem heldIntS_any (A : Option Addr) (c : Nat) (n : Nat) (k : Int) (w : World) (hx : Rd w w.heap.size A (marks k n)) (hn : n ≤ 1099511627776) (k1 : 0 ≤ k) (k2 : k ≤ 4398046511104) :
    Calls Try.prog 39 #[.slice A n c, .int .i64 k] w fun e w' => e = .returned (.int .i64 (k + n)) ∧ w = w' := by
  go_enter Try.func39, Try.ntmps39
  go_wp2
  go_loop [1, 5] (fun q i => ∃ j : Nat, j ≤ n ∧ i = .int .i64 j ∧ q = .int .i64 (k + j)) (fun _ i => n - (intOf i).toNat)
  case atStart => exact ⟨0, by omega, rfl, by simp⟩
  case round =>
    obtain ⟨j, hj, rfl, rfl⟩ := hrel
    by_cases hlt : j < n
    · obtain ⟨ad, rfl, hbl, hcell⟩ := hx.at_ (k := j) (by rw [marks_length]; exact hlt)
      have hc1 : w.cell? (ad.add j) = some (.int .i64 (k + j)) := by
        rw [hcell j (by rw [marks_length]; exact hlt), List.getD, marks_get n k j hlt]; rfl
      clear hx hcell
      go_wp2
      go_round
      case rel => exact ⟨j + 1, by omega, by go_num, by go_num⟩
      case measure => simp [intOf]; omega
    · obtain rfl : j = n := by omega
      go_wp2
      go_ret
      exact ⟨rfl, rfl⟩
theorem eqIntS_same (A A' : Option Addr) (c c' : Nat) (xs : List Int) (w : World) (hx : Rd w w.heap.size A xs) (hy : Rd w w.heap.size A' xs) (hn : xs.length ≤ 1099511627776) :
    Calls Try.prog 37 #[.slice A xs.length c, .slice A' xs.length c'] w fun e w' => e = .returned (.bool true) ∧ Below w.heap.size w w' := by
  have h := eqIntS_any A A' c c' xs xs w hx hy (by omega)
  rwa [eqB_self] at h
end Go.Proofs.Ytfplecbacgcjgaa
