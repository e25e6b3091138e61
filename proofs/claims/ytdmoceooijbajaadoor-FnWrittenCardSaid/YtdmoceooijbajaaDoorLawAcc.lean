/- Contracts for the laws on accumulators, in their words: a run, a step and the rests of a state that is valid. -/
import Derived.Test.YtdmoceooijbajaaDoorRestsOf
import Derived.Test.YtdmoceooijbajaaDoorArgB
import Derived.Test.YtdmoceooijbajaaDoorPRun3
import Derived.Test.YtdmoceooijbajaaDoorPower
import Derived.Deep.RegionHeld3
namespace Go.Proofs.YtdmoceooijbajaaDoor
open Go.RowKit
set_option linter.unusedVariables false
set_option linter.unusedSimpArgs false
theorem restsOk_of {m : Int} {s : List Int} {n : Nat} (hn : s.length = n) (h : Rests m s) (h1 : 1 ≤ n) (h2 : n ≤ 6) (m1 : 2 ≤ m) (m2 : m ≤ 1048576) : restsOk n m s = true := by
  have e : accOk n m = true := by simp only [accOk, inB_true (show (1 : Int) ≤ n by omega) (show (n : Int) ≤ 6 by omega), inB_true m1 m2, Bool.and_self]
  simp only [restsOk, e, rests_all h, Bool.true_and, Bool.and_true, decide_eq_true_eq]
  omega
theorem runOk_of {m : Int} {s xs : List Int} {n : Nat} (hn : s.length = n) (h : Rests m s) (h1 : 1 ≤ n) (h2 : n ≤ 6) (m1 : 2 ≤ m) (m2 : m ≤ 1048576) (hx : Rests m xs) (hl : xs.length ≤ 1000) : runOk n m s xs = true := by
  simp only [runOk, restsOk_of hn h h1 h2 m1 m2, rests_all hx, Bool.true_and, decide_eq_true_eq]
  omega
def RetRunY (n k : Nat) (m : Int) (s xs : List Int) (w : World) (e : Ending) (w' : World) : Prop :=
  ∃ A c rs A1 c1 A2 c2, e = .returned (.tuple #[.slice A n c, .slice A1 k c1, .slice A2 n c2, .bool true]) ∧ (rs : List Rw).length = n ∧ lists rs = cRows m s xs n k ∧ OwnM w' w.heap.size A c rs ∧ Own w' w.heap.size A1 c1 (combTo k (cRows m s xs n k) n) ∧ Own w' w.heap.size A2 c2 (stX m s xs k) ∧ Below w.heap.size w w'
def RetStepY (n : Nat) (m : Int) (s : List Int) (x : Int) (w : World) (e : Ending) (w' : World) : Prop :=
  ∃ A1 c1 A2 c2, e = .returned (.tuple #[.slice A1 n c1, .slice A2 n c2, .bool true]) ∧ Own w' w.heap.size A1 c1 (stepC m s x) ∧ Own w' w.heap.size A2 c2 (stepN m s x) ∧ Below w.heap.size w w'
def RetRestY (k : Nat) (m : Int) (s xs : List Int) (w : World) (e : Ending) (w' : World) : Prop :=
  ∃ A c, e = .returned (.tuple #[.slice A k c, .bool true]) ∧ Own w' w.heap.size A c (restL m s xs k) ∧ Below w.heap.size w w'
theorem ints_same (A A' : Option Addr) (c c' : Nat) (xs : List Int) (n : Nat) (w : World) (hx : Rd w w.heap.size A xs) (hy : Rd w w.heap.size A' xs) (hl : xs.length = n) (hn : n ≤ 1048576) :
    Calls Tryd.prog 21 #[.slice A n c, .slice A' n c'] w fun e w' => e = .returned (.bool true) ∧ Below w.heap.size w w' := by
  subst hl
  have h := ints_any A A' c c' xs xs w hx hy (by omega)
  rwa [eqB_self] at h
theorem addlt {w : World} {a : Addr} {j : Nat} {v : Value} (h : w.cell? (a.add j) = some v) : a.block < w.heap.size := by
  have := World.block_lt_of_cell? w _ h
  rwa [block_add] at this
theorem seq_in {m : Int} {xs : List Int} (h : Rests m xs) (hm : m ≤ 1048576) (hl : xs.length ≤ 1000) : seqOk xs = true :=
  seqOk_of (fun x hx => by have := h x hx; omega) hl
set_option maxHeartbeats 400000 in
theorem ints_draws (A A' : Option Addr) (c c' n : Nat) (xs : List Int) (w : World) (hx : Rd w w.heap.size A xs) (hy : Rd w w.heap.size A' xs) (hl : xs.length = n) (hn : xs.length ≤ 9223372036854775807) :
    Calls Tryd.prog 21 #[.slice A n c, .slice A' n c'] w fun e w' => e = .returned (.bool true) ∧ ∃ m, w' = w.drewN m := by
  subst hl
  have hd : (((xs.length : Nat) : Int) != ((xs.length : Nat) : Int)) = false := by simp
  go_enter Tryd.func21, Tryd.ntmps21
  go_wp2
  go_loopw [13] (fun i wr => ∃ k : Nat, k ≤ xs.length ∧ i = .int .i64 k ∧ Hid (∃ m, wr = w.drewN m)) (fun i _ => xs.length - (intOf i).toNat)
  case atStart => exact ⟨0, by omega, rfl, 0, rfl⟩
  case round =>
    obtain ⟨k, hk, rfl, HD⟩ := hrel
    have hd' : ∀ p, wr.cell? p = w.cell? p := by obtain ⟨m, hm⟩ := HD.out; subst hm; exact fun _ => rfl
    by_cases hlt : k < xs.length
    · obtain ⟨ad, rfl, hbl, hcell⟩ := hx.at_ hlt
      obtain ⟨ad', rfl, hbl', hcell'⟩ := hy.at_ (k := k) (by omega)
      have hc1 : wr.cell? (ad.add k) = some (.int .i64 (xs.getD k 0)) := (hd' _).trans (hcell k hlt)
      have hc2 : wr.cell? (ad'.add k) = some (.int .i64 (xs.getD k 0)) := (hd' _).trans (hcell' k (by omega))
      have hne : (xs[k] != xs[k]) = false := by simp
      clear hx hy hcell hcell' hd'
      go_wp2
      go_quiet (fail)
      go_wp2
      go_roundw
      case rel => exact ⟨k + 1, by omega, by go_num, by obtain ⟨m, rfl⟩ := HD.out; exact ⟨_, World.drewN_drewN ..⟩⟩
      case measure => simp [intOf]; omega
    · go_wp2
      go_ret
      exact ⟨rfl, HD.out⟩
theorem ints_quiet (A A' : Option Addr) (c c' n : Nat) (xs : List Int) (w : World) (hx : Rd w w.heap.size A xs) (hy : Rd w w.heap.size A' xs) (hl : xs.length = n) (hn : xs.length ≤ 9223372036854775807) (k : Nat) :
    Calls Tryd.prog 21 #[.slice A n c, .slice A' n c'] (w.drewN k) fun e w' => e = .returned (.bool true) ∧ ∃ m, w' = w.drewN m :=
  (ints_draws A A' c c' n xs (w.drewN k) (rd_drew hx k) (rd_drew hy k) hl hn).mono fun e w' ⟨he, m, hw⟩ => ⟨he, k + m, hw.trans (World.drewN_drewN ..)⟩
theorem rd_take {w : World} {B : Nat} {A : Option Addr} {xs : List Int} (h : Rd w B A xs) (i : Nat) : Rd w B A (xs.take i) := fun h0 => by
  have hl : (xs.take i).length ≤ xs.length := by rw [List.length_take]; omega
  obtain ⟨ad, e, hb, hc⟩ := h (by omega)
  refine ⟨ad, e, hb, fun j hj => ?_⟩
  rw [hc j (by omega)]
  have : j < i := by rw [List.length_take] at hj; omega
  simp [List.getD, List.getElem?_take, this]
theorem stages_sum {m : Int} {s x : List Int} {i : Nat} (h0 : 0 < i) (h : i < s.length) : m * (crow m s x i x.length).sum = (restL m (s.take i) x x.length).sum + s.getD i 0 - (stX m s x x.length).getD i 0 := by
  have h1 := stage_sum m s x h x.length
  rw [crow_lst, lst_sum, restL_pre m s x h0 h, lst_sum, h1]; rfl
theorem stage0_sum {m : Int} {s x : List Int} (h : 0 < s.length) : m * (crow m s x 0 x.length).sum = x.sum + s.getD 0 0 - (stX m s x x.length).getD 0 0 := by
  have h1 := stage_sum m s x h x.length
  rw [crow_lst, lst_sum, h1, sum_inp_zero]; rfl
theorem rests_sum {m : Int} {xs : List Int} (h : Rests m xs) (hm : 0 ≤ m) : 0 ≤ xs.sum ∧ xs.sum ≤ m * xs.length := by
  induction xs with
  | nil => simp
  | cons x xs ih =>
    have h1 := h x (List.mem_cons_self ..)
    have h2 := ih fun y hy => h y (List.mem_cons_of_mem _ hy)
    rw [List.sum_cons, List.length_cons, Int.natCast_add, Int.mul_add]
    simp
    omega
theorem addz (g i : Nat) : (⟨g, 0, none⟩ : Addr).add i = ⟨g, i, none⟩ := by
  unfold Addr.add
  split
  · rename_i h; subst h; rfl
  · simp
/-- Row i of a run. -/
theorem run_row {rs : List Rw} {m : Int} {s xs : List Int} {n k i : Nat} (e : lists rs = cRows m s xs n k) (hi : i < n) (hl : i < rs.length) : rs[i].xs = crow m s xs i k := at_row e (cRows_at m s xs hi) hl
theorem run_rowLen {rs : List Rw} {m : Int} {s xs : List Int} {n k i : Nat} (e : lists rs = cRows m s xs n k) (hi : i < n) (hl : i < rs.length) : rs[i].xs.length = k := by rw [run_row e hi hl, crow_length]
theorem rests_app {m : Int} {xs ys : List Int} (h : Rests m xs) (h' : Rests m ys) : Rests m (xs ++ ys) := fun v hv => by
  rw [List.mem_append] at hv
  exact hv.elim (h v) (h' v)
theorem rests_take {m : Int} {xs : List Int} (h : Rests m xs) (i : Nat) : Rests m (xs.take i) := fun v hv => h v (List.mem_of_mem_take hv)
end Go.Proofs.YtdmoceooijbajaaDoor
