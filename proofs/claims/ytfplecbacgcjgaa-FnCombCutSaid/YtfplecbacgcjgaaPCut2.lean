/- Plain law: a comb that is stopped goes on as if it had not been. No program. -/
import Derived.Test.YtfplecbacgcjgaaCombLaw
namespace Go.Proofs.Ytfplecbacgcjgaa
open Go.RowKit
set_option linter.unusedVariables false
set_option linter.unusedSimpArgs false
theorem cut_runs {M : Int} (hM : 0 ≤ M) {xs zs : List Int} (h : ∀ x ∈ xs, -M ≤ x ∧ x ≤ M) (h' : ∀ x ∈ zs, -M ≤ x ∧ x ≤ M) (hl : xs.length + zs.length ≤ 1000) {r n k : Nat} (hr1 : 1 ≤ r) (hr : r ≤ 6) (hn1 : 1 ≤ n) (hn : n ≤ 4) (hb : 1296 * M ≤ 1099511627776) (k1 : 2 ≤ k) (k2 : k ≤ 62) :
    ∃ Y1 Y2 T1 T2, runC n r k ⟨zeros n, zeros n, 0⟩ xs = (Y1, T1, true) ∧ runC n r k T1 zs = (Y2, T2, true) ∧ runC n r k ⟨zeros n, zeros n, 0⟩ (xs ++ zs) = (Y1 ++ Y2, T2, true) ∧ stOk n r k T1 = true ∧ stOk n r k T2 = true ∧ T1.sums.length = n ∧ T1.delays.length = n ∧ T2.sums.length = n ∧ T2.delays.length = n ∧ Y1.length ≤ xs.length ∧ Y2.length ≤ zs.length := by
  have hx : ∀ x ∈ xs ++ zs, -M ≤ x ∧ x ≤ M := fun x hx => by
    rw [List.mem_append] at hx
    exact hx.elim (h x) (h' x)
  have hc := comb_ok hn1 hn hr1 hr k1 k2
  have s0 := st0_ok hn1 hn hr1 hr k1 k2
  have hok := (stOk_parts s0).2
  have hall := run0_yes (k := k) hM hx (by rw [List.length_append]; exact hl) hr1 hr hn1 hn hb k1 k2
  have h1 := run0_yes (k := k) hM h (by omega) hr1 hr hn1 hn hb k1 k2
  have sq := run_all (k := k) hM hx (by rw [List.length_append]; exact hl) hr1 hr hn1 hn hb k1
  have ra := cSt_app_right r k ⟨zeros n, zeros n, 0⟩ xs zs zs.length
  rw [← List.length_append] at ra
  rw [← comb_ys hn1 k1 hr1] at hall h1
  have o1 := cSt_ok xs (by omega) (by omega) hok xs.length
  obtain ⟨T1, hT1⟩ : ∃ T, T = cSt r k ⟨zeros n, zeros n, 0⟩ xs xs.length := ⟨_, rfl⟩
  obtain ⟨Y1, hY1⟩ : ∃ T, T = cYs r k ⟨zeros n, zeros n, 0⟩ xs xs.length := ⟨_, rfl⟩
  rw [← hT1] at ra o1 h1
  rw [← hY1] at ra h1
  have l1 : Y1.length ≤ xs.length := by rw [hY1]; exact cYs_len _ _ _ _ _
  rw [ra.2] at sq hall
  rw [ra.1] at hall
  have o2 := cSt_ok zs (by omega) (by omega) o1 zs.length
  have sq2 : seqOk (cYs r k T1 zs zs.length) = true := by
    refine seqOk_of (fun x hx => seqOk_mem sq x (List.mem_append.2 (Or.inr hx))) ?_
    have := seqOk_len sq
    rw [List.length_append] at this
    omega
  have h2 := runC_yes (stOk_of hc o1) (seqOk_of (fun x hx => by have := h' x hx; omega) (by omega)) sq2
  have a1 := o1.ls
  have a2 := o1.ld
  have a3 := o2.ls
  have a4 := o2.ld
  exact ⟨Y1, _, T1, _, h1, h2, hall, stOk_of hc o1, stOk_of hc o2, by omega, by omega, by omega, by omega, l1, cYs_len _ _ _ _ _⟩
end Go.Proofs.Ytfplecbacgcjgaa
