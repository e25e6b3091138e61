/- Contracts of a run, and of its bits, of the modulator of the first order with two levels at a constant input. -/
import Derived.Test.YthpjpnilmpihaaaOrdM
import Derived.Test.YthpjpnilmpihaaaPBit
namespace Go.Proofs.Ythpjpnilmpihaaa
open Go.RowKit
set_option linter.unusedVariables false
set_option linter.unusedSimpArgs false
theorem coefs1 : (coefs 1).drop 1 = [-1] := by decide
theorem mod1_ok {s : Int} (h1 : 1 ≤ s) (h2 : s ≤ 1073741824) : modOk 2 s [-1] = true := by
  simp only [modOk, quant2 h1 h2, List.all_cons, List.all_nil, Bool.and_true]
  have e1 : coefB (-1) = true := inB_true (by omega) (by omega)
  have e2 : inB (([-1] : List Int).length : Int) 1 6 = true := inB_true (by simp) (by simp)
  rw [e1, e2]; rfl
theorem order1_yes (s : Int) (w : World) (h1 : 1 ≤ s) (h2 : s ≤ 1073741824) :
    Calls Try.prog 35 #[.agg #[.int .i64 2, .int .i64 s], .int .i64 1] w (fun e w' => ∃ A c, e = .returned (.tuple #[.agg #[.int .i64 2, .int .i64 s, .slice A 1 c], .bool true]) ∧ Own w' w.heap.size A c [-1] ∧ Below w.heap.size w w') := by
  have h := implOrder_yes 2 s 1 w (quant2 h1 h2) (by omega) (by omega) (by rw [coefs1]; exact mod1_ok h1 h2)
  rw [coefs1] at h
  exact h
theorem mem1_ok {s a : Int} (h1 : 1 ≤ s) (h2 : s ≤ 1073741824) (a1 : -s ≤ a) (a2 : a ≤ s) : memOk 2 s [-1] [a] = true :=
  memOk_of (mod1_ok h1 h2) rfl (seqOk_of (fun x hx => by rw [List.mem_singleton] at hx; omega) (by simp))
theorem cst_seq {v : Int} {n : Nat} (h1 : -1073741824 ≤ v) (h2 : v ≤ 1073741824) (hn : n ≤ 1000) : seqOk (cst v n) = true :=
  seqOk_of (fun x hx => by have := List.eq_of_mem_replicate hx; omega) (by simp [cst]; exact hn)
theorem run1_yes (s v a : Int) (n : Nat) (A : Option Addr) (c : Nat) (A' : Option Addr) (c' : Nat) (X : Option Addr) (cx : Nat) (w : World) (hr : Rd w w.heap.size A [-1]) (hr' : Rd w w.heap.size A' [a]) (hx : Rd w w.heap.size X (cst v n)) (h1 : 1 ≤ s) (h2 : s ≤ 1073741824) (v1 : -s ≤ v) (v2 : v ≤ s) (a1 : -s ≤ a) (a2 : a ≤ s) (hn : n ≤ 1000) :
    Calls Try.prog 36 #[.agg #[.int .i64 2, .int .i64 s, .slice A 1 c], .slice A' 1 c', .slice X n cx] w (fun e w' => ∃ A0 c0 A1 c1 A2 c2, e = .returned (.tuple #[.slice A0 n c0, .slice A1 n c1, .slice A2 1 c2, .bool true]) ∧ Own w' w.heap.size A0 c0 (runY 2 s [-1] [a] (cst v n)) ∧ Below w.heap.size w w') := by
  have hm := mem1_ok h1 h2 a1 a2
  have hs := cst_seq (v := v) (n := n) (by omega) (by omega) hn
  have hc := implRunM_yes 2 s A c [-1] A' c' [a] X cx (cst v n) w hr hr' hx hm hs
  have hl : (cst v n).length = n := by simp [cst]
  rw [runM_yes (runsOk_of hm hs (errs_in (by omega) v1 v2 a1 a2))] at hc
  rw [hl] at hc
  refine hc.mono ?_
  rintro e w' ⟨A0, c0, A1, c1, A2, c2, rfl, O0, O1, O2, -, -, -, hb⟩
  refine ⟨A0, c0, A1, c1, A2, c2, ?_, O0, hb⟩
  have e1 : (runY 2 s [-1] [a] (cst v n)).length = n := by rw [runY_length, hl]
  have e2 : (runE 2 s [-1] [a] (cst v n)).length = n := by rw [runE_length, hl]
  have e3 : (memTo 2 s [-1] [a] (cst v n) n).length = 1 := by rw [memTo_length (by simp)]; rfl
  simp only [e1, e2, e3]
theorem bits1_yes (s v a : Int) (n : Nat) (A : Option Addr) (c : Nat) (w : World) (hr : Rd w w.heap.size A (runY 2 s [-1] [a] (cst v n))) (h1 : 1 ≤ s) (h2 : s ≤ 1073741824) (hn : n ≤ 1000) :
    Calls Try.prog 38 #[.agg #[.int .i64 2, .int .i64 s], .slice A n c] w (fun e w' => ∃ A1 c1, e = .returned (.tuple #[.slice A1 n c1, .bool true]) ∧ Own w' w.heap.size A1 c1 (bits1 s v a n) ∧ Below w.heap.size w w') := by
  have hl : (cst v n).length = n := by simp [cst]
  have e1 : (runY 2 s [-1] [a] (cst v n)).length = n := by rw [runY_length, hl]
  refine bitsOf_yes 2 s A c n _ (bits1 s v a n) w hr (quant2 h1 h2) e1 bits1_length hn (fun k h => ?_) (fun b hb => ?_)
  · have hk : k < n := by omega
    have e2 : (runY 2 s [-1] [a] (cst v n))[k] = outY 2 s [-1] [a] (cst v n) k := lst_get _ h
    rw [e2, outY1 hk]
    unfold bits1
    rw [lst_getD _ hk]
  · obtain ⟨k, _, rfl⟩ := lst_mem hb
    have := bt_bit s v a k
    omega
end Go.Proofs.Ythpjpnilmpihaaa
