/- Contracts of MakeText and MakeNumber. -/
import Derived.Test.YtgkijkenbjjnmaaGreatDoorFmtM
import Derived.Test.YtgkijkenbjjnmaaGreatDoorTxtS
namespace Go.Proofs.YtgkijkenbjjnmaaGreatDoor
open Go.RowKit
set_option linter.unusedVariables false
set_option linter.unusedSimpArgs false
theorem MakeNumber_any (v : Int) (w : World) (h0 : -4611686018427387904 ≤ v) (h1 : v ≤ 4611686018427387904) :
    Calls Tryz.prog 21 #[.int .i64 v] w fun e w' => e = .returned (.string (bs (decI v))) ∧ Below w.heap.size w w' := by
  go_enter Tryz.func21, Tryz.ntmps21
  go_wp2_with fail
  refine (l7Number_any v _ (by omega) (by omega)).mono ?_; rintro e w1 ⟨rfl, h⟩
  have Hb := Lib.hid h
  go_wp2_with fail
  go_ret
  exact ⟨rfl, Hb.out⟩
theorem MakeText_any (A : Option Addr) (c : Nat) (xs : List Int) (w : World) (hr : Rd w w.heap.size A xs) (hc : xs.length ≤ c) (hm : c ≤ 9223372036854775807) (h : seqOk xs = true) :
    Calls Tryz.prog 14 #[.slice A xs.length c] w fun e w' => e = .returned (.string (bs (fmtL xs))) ∧ Below w.heap.size w w' := by
  go_enter Tryz.func14, Tryz.ntmps14
  go_wp2_with fail
  refine (l7Text_any A c xs _ hr hc hm h).mono ?_; rintro e w1 ⟨rfl, hb⟩
  have Hb := Lib.hid hb
  go_wp2_with fail
  go_ret
  exact ⟨rfl, Hb.out⟩
end Go.Proofs.YtgkijkenbjjnmaaGreatDoor
