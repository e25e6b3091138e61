/- Plain laws: the modulus times the output is the input less the differences of the last rests, where the rests at first are 0. No program. -/
import Derived.Test.YthpjpnilmpihaaaPRun3
namespace Go.Proofs.Ythpjpnilmpihaaa
open Go.RowKit
set_option linter.unusedVariables false
set_option linter.unusedSimpArgs false
theorem levs_bd {o : Nat} (h1 : 1 ≤ o) (h2 : o ≤ 4) : -7 ≤ (levs o).1 ∧ (levs o).2 ≤ 8 := by
  have e1 : levs 1 = (0, 1) := by decide
  have e2 : levs 2 = (-1, 2) := by decide
  have e3 : levs 3 = (-3, 4) := by decide
  have e4 : levs 4 = (-7, 8) := by decide
  have : o = 1 ∨ o = 2 ∨ o = 3 ∨ o = 4 := by omega
  rcases this with rfl | rfl | rfl | rfl
  · rw [e1]; decide
  · rw [e2]; decide
  · rw [e3]; decide
  · rw [e4]; decide
theorem zero_getD (o i : Nat) : (List.replicate o (0 : Int)).getD i 0 = 0 := by
  by_cases h : i < o <;> simp [h]
theorem zero_rests {m : Int} (hm : 2 ≤ m) (o : Nat) : Rests m (List.replicate o 0) := fun v hv => by
  have := List.eq_of_mem_replicate hv
  omega
theorem map_lst (n : Nat) (f : Nat → Int) (g : Int → Int) : (lst n f).map g = lst n fun k => g (f k) := by simp [lst, List.map_map, Function.comp_def]
theorem lst_x (xs : List Int) : lst xs.length (fun k => xs.getD k 0) = xs := lst_fnOf xs
section
variable {m : Int} {xs : List Int} {o : Nat}
theorem out_lst (s : List Int) (hs : s.length = o) : combTo xs.length (cRows m s xs o xs.length) o = lst xs.length (combF (carr m s xs) o) := by
  subst hs; exact run_y m s xs xs.length
theorem out_bd {s : List Int} (hs : s.length = o) (h1 : 1 ≤ o) (h2 : o ≤ 4) (m1 : 2 ≤ m) (hr : Rests m s) (hx : Rests m xs) : ∀ y ∈ combTo xs.length (cRows m s xs o xs.length) o, (levs o).1 ≤ y ∧ y ≤ (levs o).2 := fun y hy => by
  rw [out_lst s hs] at hy
  obtain ⟨k, _, rfl⟩ := lst_mem hy
  exact combF_bd (fun i k => carr_bit m1 hr hx i k) h1 h2 k
theorem out_len (s : List Int) (hs : s.length = o) : (combTo xs.length (cRows m s xs o xs.length) o).length = xs.length := by rw [out_lst s hs]; exact lst_length _ _
/-- The differences of the last rests. -/
theorem rest_diff (h1 : 1 ≤ o) : diffN (restL m (List.replicate o 0) xs xs.length) o = lst xs.length fun k => xs.getD k 0 - m * combF (carr m (List.replicate o 0) xs) o k := by
  have hl : (List.replicate o (0 : Int)).length = o := by simp
  rw [restL_inp m _ xs xs.length (by omega), diffN_lst]
  refine lst_congr fun k hk => ?_
  have h := comb_tele (m := m) (xs := xs) (s := List.replicate o 0) (zero_getD o) o (by omega) k
  rw [inp_zero] at h
  rw [hl]
  omega
theorem carries_sum (h1 : 1 ≤ o) : addL ((combTo xs.length (cRows m (List.replicate o 0) xs o xs.length) o).map (· * m)) (diffN (restL m (List.replicate o 0) xs xs.length) o) = xs := by
  rw [rest_diff h1, out_lst _ (by simp), map_lst, addL_lst]
  have e : lst xs.length (fun k => combF (carr m (List.replicate o 0) xs) o k * m + (xs.getD k 0 - m * combF (carr m (List.replicate o 0) xs) o k)) = lst xs.length (fun k => xs.getD k 0) :=
    lst_congr fun k _ => by rw [Int.mul_comm]; omega
  rw [e, lst_x]
theorem rest_diff_bd (h1 : 1 ≤ o) (h2 : o ≤ 4) (m1 : 2 ≤ m) (m2 : m ≤ 61) (hx : Rests m xs) (hl : xs.length ≤ 1000) : seqOk (diffN (restL m (List.replicate o 0) xs xs.length) o) = true := by
  refine seqOk_of (fun v hv => ?_) (by rw [diffN_length]; unfold restL; rw [lst_length]; exact hl)
  rw [rest_diff h1] at hv
  obtain ⟨k, hk, rfl⟩ := lst_mem hv
  have b := combF_bd (g := carr m (List.replicate o 0) xs) (fun i k => carr_bit m1 (zero_rests m1 o) hx i k) h1 h2 k
  have c := levs_bd h1 h2
  have d := rests_getD m1 hx k
  have e1 : m * -7 ≤ m * combF (carr m (List.replicate o 0) xs) o k := Int.mul_le_mul_of_nonneg_left (by omega) (by omega)
  have e2 : m * combF (carr m (List.replicate o 0) xs) o k ≤ m * 8 := Int.mul_le_mul_of_nonneg_left (by omega) (by omega)
  omega
theorem rest_seq {s : List Int} (hs : s.length = o) (h1 : 1 ≤ o) (m1 : 2 ≤ m) (m2 : m ≤ 1048576) (hr : Rests m s) (hx : Rests m xs) (hl : xs.length ≤ 1000) : seqOk (restL m s xs xs.length) = true := by
  refine seqOk_of (fun v hv => ?_) (by unfold restL; rw [lst_length]; exact hl)
  obtain ⟨k, hk, rfl⟩ := lst_mem hv
  have := rests_getD m1 (stX_rests m1 hr hx (k + 1)) (s.length - 1)
  unfold rst
  omega
/-- The last rest of all. -/
theorem rest_last (s : List Int) (hs : s.length = o) (h1 : 1 ≤ o) (h0 : 0 < xs.length) : (restL m s xs xs.length).getD (xs.length - 1) 0 = (stX m s xs xs.length).getD (o - 1) 0 := by
  unfold restL
  rw [lst_getD _ (by omega), show xs.length - 1 + 1 = xs.length by omega, hs]; rfl
end
theorem sum_replicate (k : Nat) (v : Int) : (List.replicate k v).sum = k * v := by
  induction k with
  | zero => simp
  | succ k ih => rw [List.replicate_succ, List.sum_cons, ih, Int.natCast_add, Int.add_mul]; simp; omega
/-- The sum of the first carries of a cycle. -/
theorem cyc_sum {m : Int} {s : List Int} {v : Int} {k : Nat} (h0 : 0 < s.length) (he : stX m s (List.replicate k v) k = s) : m * (crow m s (List.replicate k v) 0 k).sum = k * v := by
  have h := stage_sum m s (List.replicate k v) h0 k
  rw [crow_lst, lst_sum, h]
  have e1 : sumF (inp m s (List.replicate k v) 0) k = k * v := by
    have := sum_inp_zero m s (List.replicate k v)
    rw [List.length_replicate, sum_replicate] at this
    exact this
  unfold rst
  rw [he, e1]
  show _ + s.getD 0 0 - s.getD 0 0 = _
  omega
theorem bits_sum {xs : List Int} (h : ∀ x ∈ xs, 0 ≤ x ∧ x ≤ 1) : 0 ≤ xs.sum ∧ xs.sum ≤ xs.length := by
  induction xs with
  | nil => simp
  | cons x xs ih =>
    have h1 := h x (List.mem_cons_self ..)
    have h2 := ih fun y hy => h y (List.mem_cons_of_mem _ hy)
    rw [List.sum_cons, List.length_cons]
    omega
end Go.Proofs.Ythpjpnilmpihaaa
