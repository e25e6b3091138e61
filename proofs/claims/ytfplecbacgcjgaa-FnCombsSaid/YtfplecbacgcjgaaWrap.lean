/- Contracts of l5Wrap and the two WrapWord. -/
import Derived.Test.YtfplecbacgcjgaaBase
import Derived.Test.YtfplecbacgcjgaaPWrap
namespace Go.Proofs.Ytfplecbacgcjgaa
open Go.RowKit
set_option linter.unusedVariables false
theorem wrapW_yes {v k : Int} (h2 : 2 ≤ k) (h3 : k ≤ 62) (h : wrap64 (2 ^ (k.toNat - 1)) ≤ bits BinOp.and IntKind.i64 v (wrap64 (wrap64 (2 ^ k.toNat) - 1))) :
    wrap64 (bits BinOp.and IntKind.i64 v (wrap64 (wrap64 (2 ^ k.toNat) - 1)) - wrap64 (2 ^ k.toNat)) = wrapW v k := by
  rw [mask_is v k h2 h3, wrap64_pow _ (by omega)] at h
  rw [mask_is v k h2 h3, wrap64_pow _ (by omega)]
  have hp := two_pow_62 k.toNat (by omega)
  have hq := two_pow_pos k.toNat
  have h1 : 0 ≤ v % 2 ^ k.toNat := Int.emod_nonneg _ (by omega)
  have h2 : v % 2 ^ k.toNat < 2 ^ k.toNat := Int.emod_lt_of_pos _ hq
  unfold wrapW wrap64
  rw [if_pos h]
  omega
theorem wrapW_no {v k : Int} (h2 : 2 ≤ k) (h3 : k ≤ 62) (h : bits BinOp.and IntKind.i64 v (wrap64 (wrap64 (2 ^ k.toNat) - 1)) < wrap64 (2 ^ (k.toNat - 1))) :
    bits BinOp.and IntKind.i64 v (wrap64 (wrap64 (2 ^ k.toNat) - 1)) = wrapW v k := by
  rw [mask_is v k h2 h3, wrap64_pow _ (by omega)] at h
  rw [mask_is v k h2 h3]
  unfold wrapW
  rw [if_neg (by omega)]
theorem l5Wrap_any (v k : Int) (w : World) (h2 : 2 ≤ k) (h3 : k ≤ 62) :
    Calls Try.prog 62 #[.int .i64 v, .int .i64 k] w fun e w' => e = .returned (.int .i64 (wrapW v k)) ∧ w = w' := by
  go_enter Try.func62, Try.ntmps62
  go_wp2
  all_goals go_ret
  · exact ⟨ret_int (wrapW_yes h2 h3 (by assumption)), rfl⟩
  · exact ⟨ret_int (wrapW_no h2 h3 (by assumption)), rfl⟩
def wrapWord (v k : Int) : Int := if inB k 2 62 then wrapW v k else 0
theorem wrapWord_in {v k : Int} (h2 : 2 ≤ k) (h3 : k ≤ 62) : wrapWord v k = wrapW v k := by simp [wrapWord, inB_true h2 h3]
theorem wrapWord_out {v k : Int} (h : inB k 2 62 = false) : wrapWord v k = 0 := by simp [wrapWord, h]
theorem implWrapWord_any (v k : Int) (w : World) :
    Calls Try.prog 16 #[.int .i64 v, .int .i64 k] w fun e w' => e = .returned (.int .i64 (wrapWord v k)) ∧ w = w' := by
  by_cases hk : inB k 2 62 = true
  · obtain ⟨h2, h3⟩ := inB_of hk
    go_enter Try.func16, Try.ntmps16
    go_wp2_with (go_at_call 53; refine (isWidth_any _ _).mono ?_; rintro e w' ⟨rfl, rfl⟩)
    all_goals go_ret
    · exact ⟨ret_int ((wrapW_yes h2 h3 (by assumption)).trans (wrapWord_in h2 h3).symm), rfl⟩
    · exact ⟨ret_int ((wrapW_no h2 h3 (by assumption)).trans (wrapWord_in h2 h3).symm), rfl⟩
  · have hk : inB k 2 62 = false := by simpa using hk
    go_enter Try.func16, Try.ntmps16
    go_wp2_with (go_at_call 53; refine (isWidth_any _ _).mono ?_; rintro e w' ⟨rfl, rfl⟩)
    go_ret
    exact ⟨ret_int (wrapWord_out hk).symm, rfl⟩
end Go.Proofs.Ytfplecbacgcjgaa
