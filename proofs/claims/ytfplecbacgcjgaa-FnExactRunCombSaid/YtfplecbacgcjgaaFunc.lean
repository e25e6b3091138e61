/- Contracts of slices.IndexFunc and slices.ContainsFunc at slices of ints, for whatever test that captures one variable. -/
import Derived.Test.YtfplecbacgcjgaaSeq
namespace Go.Proofs.Ytfplecbacgcjgaa
open Go.RowKit
set_option linter.unusedVariables false
set_option linter.unusedSimpArgs false
def TestAt (fn : FuncId) (pa : Addr) (p : Int → Bool) (w : World) : Prop :=
  ∀ (v : Int) (W : World), Below w.heap.size w W → Calls Try.prog fn #[.int .i64 v, .pointer (some pa)] W fun e W' => e = .returned (.bool (p v)) ∧ Below W.heap.size W W'
def IdxEnd (w : World) (p : Int → Bool) (xs : List Int) (e : Ending) (w' : World) : Prop :=
  ∃ r : Int, e = .returned (.int .i64 r) ∧ decide (0 ≤ r) = xs.any p ∧ Below w.heap.size w w'
theorem run_enter {P : Program} {f : FuncId} {fn : Func} {c : Code} (hf : P.funcs[f]? = some fn) (hname : (fn.name == "runtime.NumGoroutine") = false) (hb : fn.body = some c) (args : Array Value) (w : World) :
    (callFunc f args).run P w = .ok (.enter f args) w := by
  have h1 : (fn.name = "runtime.NumGoroutine") = False := by simpa using hname
  simp [callFunc, hf, h1, hb]
theorem any_hit {p : Int → Bool} {xs : List Int} {k : Nat} (hk : k < xs.length) (e : p xs[k] = true) : xs.any p = true := List.any_eq_true.2 ⟨xs[k], List.getElem_mem hk, e⟩
theorem any_miss {p : Int → Bool} {xs : List Int} (h : AllTo (fun v => !p v) xs xs.length) : xs.any p = false := by
  have := allTo_end h
  rw [List.any_eq_false]
  intro x hx
  have := List.all_eq_true.1 this x hx
  simpa using this
theorem indexFunc_any (fn : FuncId) (pa : Addr) (p : Int → Bool) (A : Option Addr) (c : Nat) (xs : List Int) (w : World) (hr : Rd w w.heap.size A xs) (hn : xs.length ≤ 9223372036854775807) (hf : Hid (TestAt fn pa p w)) (hE : ∀ args w, (callFunc fn args).run Try.prog w = .ok (.enter fn args) w) :
    Calls Try.prog 84 #[.slice A xs.length c, .func (.func fn) #[] #[.pointer (some pa)]] w (IdxEnd w p xs) := by
  go_enter Try.func84, Try.ntmps84
  go_wp2
  go_loopw [8] (fun i wr => ∃ k : Nat, k ≤ xs.length ∧ i = .int .i64 k ∧ AllTo (fun v => !p v) xs k ∧ Below w.heap.size w wr) (fun i _ => xs.length - (intOf i).toNat)
  case atStart => exact ⟨0, by omega, rfl, allTo_zero _ _, Below.refl _ _⟩
  case round =>
    obtain ⟨k, hk, rfl, ha, hb⟩ := hrel
    by_cases hlt : k < xs.length
    · obtain ⟨ad, rfl, hbl, hcell⟩ := hr.at_ hlt
      have hc1 : wr.cell? (ad.add k) = some (.int .i64 (xs.getD k 0)) := (hb.cell (by rw [block_add]; exact hbl)).trans (hcell k hlt)
      clear hr hcell
      go_wp2_with fail
      refine (hf.out _ _ hb).mono ?_
      rintro e w1 ⟨rfl, h1⟩
      have hb1 := hb.trans (h1.mono hb.size)
      rcases Bool.eq_false_or_eq_true (p xs[k]) with hv | hv
      · go_wp2
        go_ret
        exact ⟨k, rfl, by rw [any_hit hlt hv]; simp, hb1⟩
      · go_wp2
        go_roundw
        case rel => exact ⟨k + 1, by omega, by go_num, allTo_step ha hlt (by simp [hv]), hb1⟩
        case measure => simp [intOf]; omega
    · obtain rfl : k = xs.length := by omega
      go_wp2
      go_ret
      exact ⟨-1, rfl, by rw [any_miss ha]; rfl, hb⟩
theorem containsFunc_any (fn : FuncId) (pa : Addr) (p : Int → Bool) (A : Option Addr) (c : Nat) (xs : List Int) (w : World) (hr : Rd w w.heap.size A xs) (hn : xs.length ≤ 9223372036854775807) (hf : Hid (TestAt fn pa p w)) (hE : ∀ args w, (callFunc fn args).run Try.prog w = .ok (.enter fn args) w) :
    Calls Try.prog 73 #[.slice A xs.length c, .func (.func fn) #[] #[.pointer (some pa)]] w fun e w' => e = .returned (.bool (xs.any p)) ∧ Below w.heap.size w w' := by
  go_enter Try.func73, Try.ntmps73
  go_wp2_with fail
  refine (indexFunc_any fn pa p A c xs _ hr hn hf hE).mono ?_
  rintro e w1 ⟨r, rfl, h1, h2⟩
  have H1 := Lib.hid h1
  clear h1
  go_wp2
  go_ret
  exact ⟨ret_bool H1.out, h2⟩
def restB (m v : Int) : Bool := decide (0 ≤ v) && decide (v < m)
theorem any_not_all (p : Int → Bool) (xs : List Int) : (!xs.any fun v => !p v) = xs.all p := by
  induction xs with
  | nil => rfl
  | cons x xs ih => simp [← ih]
end Go.Proofs.Ytfplecbacgcjgaa
