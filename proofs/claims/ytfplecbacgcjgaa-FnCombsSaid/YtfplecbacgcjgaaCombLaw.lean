/- Contracts of NewComb and RunComb from the state at first, where all is well. -/
import Derived.Test.YtfplecbacgcjgaaRunCs
import Derived.Test.YtfplecbacgcjgaaPCut
import Derived.Test.YtfplecbacgcjgaaNewComb
namespace Go.Proofs.Ytfplecbacgcjgaa
open Go.RowKit
set_option linter.unusedVariables false
set_option linter.unusedSimpArgs false
theorem comb_ok {o r k : Nat} (o1 : 1 ≤ o) (o2 : o ≤ 4) (r1 : 1 ≤ r) (r2 : r ≤ 6) (k1 : 2 ≤ k) (k2 : k ≤ 62) : combOk o r k = true := by
  simp [combOk, inB_true (show (1 : Int) ≤ o by omega) (show (o : Int) ≤ 6 by omega), inB_true (show (1 : Int) ≤ r by omega) (show (r : Int) ≤ 100 by omega), inB_true (show (2 : Int) ≤ k by omega) (show (k : Int) ≤ 62 by omega)]
theorem zeros_words {n : Nat} {k : Int} (hk : 2 ≤ k) : Words k (zeros n) := fun v hv => by
  obtain rfl := List.eq_of_mem_replicate hv
  exact wrapW_zero k hk
theorem st0_ok {o r k : Nat} (o1 : 1 ≤ o) (o2 : o ≤ 4) (r1 : 1 ≤ r) (r2 : r ≤ 6) (k1 : 2 ≤ k) (k2 : k ≤ 62) : stOk o r k ⟨zeros o, zeros o, 0⟩ = true :=
  stOk_of (comb_ok o1 o2 r1 r2 k1 k2) ⟨by simp [zeros_length], by simp [zeros_length], by simp, by simp; omega, zeros_words (by omega), zeros_words (by omega)⟩
def RetN0 (o : Nat) (W : World) (e : Ending) (w' : World) : Prop := ∃ A c D d, e = .returned (.agg #[.slice A o c, .slice D o d, .int .i64 0]) ∧ Own w' W.heap.size A c (zeros o) ∧ Own w' W.heap.size D d (zeros o) ∧ Apart A D ∧ Below W.heap.size W w'
theorem implNew0 {o r k : Nat} (h : combOk o r k = true) (o2 : o ≤ 4) (W : World) : Calls Try.prog 20 #[.agg #[.int .i64 o, .int .i64 r, .int .i64 k]] W (RetN0 o W) :=
  (implNewComb_yes o r k W h (by omega)).mono (by rintro e w' ⟨A, c, D, d, rfl, h⟩; exact ⟨A, c, D, d, by simp [zeros_length], h⟩)
theorem specNew0 {o r k : Nat} (h : combOk o r k = true) (o2 : o ≤ 4) (W : World) : Calls Try.prog 23 #[.agg #[.int .i64 o, .int .i64 r, .int .i64 k]] W (RetN0 o W) :=
  (specNewComb_yes o r k W h (by omega)).mono (by rintro e w' ⟨A, c, D, d, rfl, h⟩; exact ⟨A, c, D, d, by simp [zeros_length], h⟩)
theorem implRun0 {o : Nat} {r k : Int} {x ys : List Int} {T : CS} (hY : runC o r k ⟨zeros o, zeros o, 0⟩ x = (ys, T, true)) (o6 : o ≤ 6) (hx : x.length ≤ 1000) (W : World) (A : Option Addr) (c : Nat) (D : Option Addr) (d : Nat) (B : Option Addr) (b : Nat) (h1 : Rd W W.heap.size A (zeros o)) (h2 : Rd W W.heap.size D (zeros o)) (h3 : Rd W W.heap.size B x) :
    Calls Try.prog 19 #[.agg #[.int .i64 o, .int .i64 r, .int .i64 k], .agg #[.slice A o c, .slice D o d, .int .i64 0], .slice B x.length b] W (RetRC W (ys, T, true)) := by
  have := implRunComb_any o r k A c (zeros o) D d (zeros o) 0 B b x W h1 h2 h3 (by rw [zeros_length]; omega) (by rw [zeros_length]; omega) (by omega)
  rw [zeros_length, hY] at this
  exact this
theorem specRun0 {o : Nat} {r k : Int} {x ys : List Int} {T : CS} (hY : runC o r k ⟨zeros o, zeros o, 0⟩ x = (ys, T, true)) (o6 : o ≤ 6) (hx : x.length ≤ 1000) (W : World) (A : Option Addr) (c : Nat) (D : Option Addr) (d : Nat) (B : Option Addr) (b : Nat) (h1 : Rd W W.heap.size A (zeros o)) (h2 : Rd W W.heap.size D (zeros o)) (h3 : Rd W W.heap.size B x) :
    Calls Try.prog 22 #[.agg #[.int .i64 o, .int .i64 r, .int .i64 k], .agg #[.slice A o c, .slice D o d, .int .i64 0], .slice B x.length b] W (RetRC W (ys, T, true)) := by
  have := specRunComb_any o r k A c (zeros o) D d (zeros o) 0 B b x W h1 h2 h3 (by rw [zeros_length]; omega) (by rw [zeros_length]; omega) (by omega)
  rw [zeros_length, hY] at this
  exact this
theorem run0_yes {M : Int} (hM : 0 ≤ M) {xs : List Int} (h : ∀ x ∈ xs, -M ≤ x ∧ x ≤ M) (hl : xs.length ≤ 1000) {r n k : Nat} (hr1 : 1 ≤ r) (hr : r ≤ 6) (hn1 : 1 ≤ n) (hn : n ≤ 4) (hb : 1296 * M ≤ 1099511627776) (k1 : 2 ≤ k) (k2 : k ≤ 62) :
    runC n r k ⟨zeros n, zeros n, 0⟩ xs = (lst (xs.length / r) (fun m => wrapW (dec r (itF (bF r) n (fnOf xs)) m) k), cSt r k ⟨zeros n, zeros n, 0⟩ xs xs.length, true) := by
  rw [runC_yes (st0_ok hn1 hn hr1 hr k1 k2) (seqOk_of (fun x hx => by have := h x hx; omega) hl) (run_all hM h hl hr1 hr hn1 hn hb k1), comb_ys hn1 k1 hr1]
end Go.Proofs.Ytfplecbacgcjgaa
