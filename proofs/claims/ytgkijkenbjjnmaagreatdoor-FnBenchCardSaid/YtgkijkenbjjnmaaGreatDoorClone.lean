/- Contracts of slices.Clone and slices.Reverse at slices of ints. -/
import Derived.Test.YtgkijkenbjjnmaaGreatDoorBase
import Derived.RegionTactic
import Derived.ChangeAlike
namespace Go.Proofs.YtgkijkenbjjnmaaGreatDoor
open Go.RowKit
set_option linter.unusedVariables false
set_option linter.unusedSimpArgs false
theorem run_app_nil (w : World) (ty : TypeId) (B : Nat) (A : Option Addr) (c n : Nat) (xs : List Int) (hown : Own w B A c xs) (c2 : Nat) :
    (Builtin.append_ #[25, 25] ty #[.slice A xs.length c, .slice none 0 c2]).run Tryz.prog w = .ok (.slice A xs.length c) w := by
  obtain ⟨i0, hi, hz0, hz1, hz2⟩ := int_row
  rcases hown.2 with ⟨e, _⟩ | ⟨g, cap, cur, e, _, _, hnc, _⟩
  · rw [e]
    simp [Builtin.append_, run_underlying Tryz.underlying25, sizeOf, typeInfo, hi, Builtin.lenOf, Builtin.firstCells]
  · rw [e]
    simp [Builtin.append_, run_underlying Tryz.underlying25, sizeOf, typeInfo, hi, Builtin.lenOf, Builtin.firstCells, hnc, storeCells]
/-- append(xs, ys...) at a list that the call owns. -/
theorem run_app_list (w : World) (ty : TypeId) (B : Nat) (A : Option Addr) (c : Nat) (xs : List Int) (hown : Own w B A c xs) (B2 : Nat) (A2 : Option Addr) (c2 : Nat) (ys : List Int) (hr : Rd w B2 A2 ys)
    (hn : xs.length + ys.length ≤ 1099511627776) (hB : B ≤ w.heap.size) :
    ∃ A' c' w', (Builtin.append_ #[25, 25] ty #[.slice A xs.length c, .slice A2 ys.length c2]).run Tryz.prog w = .ok (.slice A' (xs.length + ys.length) c') w' ∧ Own w' B A' c' (xs ++ ys) ∧ Wrote w w' A ∧ Moved A A' w.heap.size := by
  obtain ⟨i0, hi, hz0, hz1, hz2⟩ := int_row
  cases A2 with
  | none =>
    have hy : ys = [] := by
      rcases Nat.eq_zero_or_pos ys.length with h0 | h0
      · exact List.eq_nil_of_length_eq_zero h0
      · obtain ⟨ad, h, _⟩ := hr h0
        cases h
    subst hy
    exact ⟨A, c, w, run_app_nil w ty B A c 0 xs hown c2, by simpa using hown, World.grownBy.refl _ _, .inl rfl⟩
  | some ad =>
    have hcells : ∀ j u, (ints ys)[j]? = some u → w.cell? (ad.add j) = some u := by
      intro j u hu
      have hj : j < ys.length := by
        have := (List.getElem?_eq_some_iff.1 hu).1
        rwa [ints_length] at this
      obtain ⟨ad', h, _, hc⟩ := hr (by omega)
      obtain rfl : ad = ad' := Option.some.inj h
      rw [ints_get hj] at hu
      obtain rfl := Option.some.inj hu
      exact hc j hj
    have h1 : ∀ u ∈ ints ys, u.oneCell' = true := by
      intro u hu
      simp only [ints, List.mem_map] at hu
      obtain ⟨v, _, rfl⟩ := hu
      rfl
    obtain ⟨v', w', hrun, h2, h3, _, h5⟩ := run_append_own_at (P := Tryz.prog) w B 25 ty 3 i0 (.int .i64 0) 1 8 Tryz.underlying25 hi hz0 hz1 hz2 rfl (by decide) _ xs.length (ints xs) hown ad ys.length c2 (ints ys) (by rw [ints_length]; omega) hcells h1 (by simp only [maxLen]; omega) (by omega) hB
    obtain ⟨A', c', rfl, h4⟩ := own_of_row (xs := xs ++ ys) h2 (by rw [ints_append]) (by simp)
    have e : (Value.slice A xs.length c).ownBlock = row A := by cases A <;> rfl
    have e' : (Value.slice A' (xs.length + ys.length) c').ownBlock = row A' := by cases A' <;> rfl
    rw [e] at h3 h5
    rw [e'] at h5
    refine ⟨A', c', w', hrun, h4, h3, ?_⟩
    rcases h5 with h5 | h5
    · exact .inl h5
    · refine .inr fun a ha => ?_
      subst ha
      simp [row] at h5
      omega
theorem app_list {w : World} {ops : Array Oper} {rest : List Oper} {o : Oper} {a : Act} {Q : Exit → Act → World → Prop} (hgd : o.guard = none) (s x : Operand)
    (ho : o.op = .call { callee := .builtin .append, args := #[s, x], argTypes := #[25, 25] })
    (B : Nat) (A : Option Addr) (c n : Nat) (xs : List Int) (hl : xs.length = n) (hs : a.eval s = .slice A n c) (hown : Own w B A c xs) (B2 : Nat) (A2 : Option Addr) (c2 : Nat) (ys : List Int) (hx : a.eval x = .slice A2 ys.length c2) (hr : Rd w B2 A2 ys)
    (hn : n + ys.length ≤ 1099511627776) (hB : B ≤ w.heap.size)
    (h : ∀ A' c' w', Own w' B A' c' (xs ++ ys) → Wrote w w' A → Moved A A' w.heap.size → wpList Tryz.prog ops Q rest (a.put o.dst (.slice A' (n + ys.length) c')) w') :
    wpList Tryz.prog ops Q (o :: rest) a w := by
  subst hl
  refine wpList_plain hgd fun K hK => ?_
  obtain ⟨A', c', w', hr, h2, h3, h5⟩ := run_app_list w o.type B A c xs hown B2 A2 c2 ys hr hn hB
  unfold Oper.wp execOp
  simp only [ho, resolve, invoke, builtin, Sem.run_bind, Sem.run_pure, Result.andThen_ok, List.map_toArray, List.map_cons, List.map_nil, hs, hx, hr]
  exact hK _ _ (h A' c' w' h2 h3 h5)
theorem clone_any (A : Option Addr) (c : Nat) (xs : List Int) (w : World) (hr : Rd w w.heap.size A xs) (hn : xs.length ≤ 1099511627776) :
    Calls Tryz.prog 48 #[.slice A xs.length c] w (RetSl w xs) := by
  cases A with
  | none =>
    have hx : xs = [] := by
      rcases Nat.eq_zero_or_pos xs.length with h0 | h0
      · exact List.eq_nil_of_length_eq_zero h0
      · obtain ⟨ad, h, _⟩ := hr h0
        cases h
    subst hx
    have heq := fun W : World => Lib.run_eql_slice_nil (P := Tryz.prog) W 25 3 none 0 c 0 0 Tryz.underlying25
    go_enter Tryz.func48, Tryz.ntmps48
    go_wp2
    go_ret
    exact ⟨none, 0, rfl, own_nil _ _, Below.refl _ _⟩
  | some ad =>
    have hb0 : Below w.heap.size w (w.alloc (.cells #[] 3)) := (Below.refl _ _).alloc (Nat.le_refl _) _
    have hR := hr.below hb0
    have heq := fun W : World => Lib.run_eql_slice_nil (P := Tryz.prog) W 25 3 (some ad) xs.length c 0 0 Tryz.underlying25
    go_enter Tryz.func48, Tryz.ntmps48
    go_wp2_with (at_builtin; refine app_list rfl (.tmp 5) (.tmp 6) rfl w.heap.size _ _ 0 [] rfl rfl (own_empty w _ (Nat.le_refl _)) w.heap.size (some ad) c xs rfl hR (by omega) (by simp) ?_)
    intro A1 c1 w1 hown1 hw1 hm1
    go_wp2
    go_ret
    exact ⟨A1, c1, by simp, hown1, hb0.trans (below_wrote hw1 (by simp) (own_lo (own_empty w _ (Nat.le_refl _))))⟩
/-- ys is xs with the first k and the last k elements exchanged. -/
def RevTo (xs ys : List Int) (k : Nat) : Prop := ys.length = xs.length ∧ ∀ t, t < xs.length → ys[t]? = if t < k ∨ xs.length - k ≤ t then xs[xs.length - 1 - t]? else xs[t]?
theorem revTo_zero (xs : List Int) : RevTo xs xs 0 := ⟨rfl, fun t ht => by rw [if_neg (by omega)]⟩
theorem revTo_step {xs ys : List Int} {k : Nat} (h : RevTo xs ys k) (hk : k + 1 < xs.length - k) (h1 : k < ys.length) (h2 : xs.length - 1 - k < ys.length) :
    RevTo xs ((ys.set k ys[xs.length - 1 - k]).set (xs.length - 1 - k) ys[k]) (k + 1) := by
  obtain ⟨hl, ha⟩ := h
  refine ⟨by simp [hl], fun t ht => ?_⟩
  have e1 : ys[k]? = xs[k]? := by rw [ha k (by omega), if_neg (by omega)]
  have e2 : ys[xs.length - 1 - k]? = xs[xs.length - 1 - k]? := by rw [ha _ (by omega), if_neg (by omega)]
  have e1' : some ys[k] = xs[k]? := by rw [← e1, List.getElem?_eq_getElem h1]
  have e2' : some ys[xs.length - 1 - k] = xs[xs.length - 1 - k]? := by rw [← e2, List.getElem?_eq_getElem h2]
  by_cases c1 : t = xs.length - 1 - k
  · subst c1
    rw [List.getElem?_set_self (by simp; omega), if_pos (by omega), e1']
    congr 1; omega
  · rw [List.getElem?_set_ne (by omega)]
    by_cases c2 : t = k
    · subst c2
      rw [List.getElem?_set_self (by omega), if_pos (by omega), e2']
    · rw [List.getElem?_set_ne (by omega), ha t ht]
      by_cases c3 : t < k ∨ xs.length - k ≤ t
      · rw [if_pos c3, if_pos (by omega)]
      · rw [if_neg c3, if_neg (by omega)]
theorem revTo_end {xs ys : List Int} {k : Nat} (h : RevTo xs ys k) (hk : xs.length - k ≤ k + 1) (hk' : 2 * k ≤ xs.length) : ys = xs.reverse := by
  obtain ⟨hl, ha⟩ := h
  apply List.ext_getElem?
  intro t
  by_cases ht : t < xs.length
  · rw [ha t ht, List.getElem?_reverse ht]
    split
    · rfl
    · congr 1; omega
  · rw [List.getElem?_eq_none (by omega), List.getElem?_eq_none (by simp; omega)]
theorem wrote_drew {w w' : World} {A : Option Addr} (h : Wrote w w' A) : Wrote w w'.drew A := ⟨h.os, h.tape, h.output, h.size, h.block⟩
def RetRev (w : World) (A : Option Addr) (B c : Nat) (xs : List Int) (e : Ending) (w' : World) : Prop := e = .returned (.tuple #[]) ∧ Own w' B A c xs.reverse ∧ Wrote w w' A
end Go.Proofs.YtgkijkenbjjnmaaGreatDoor
