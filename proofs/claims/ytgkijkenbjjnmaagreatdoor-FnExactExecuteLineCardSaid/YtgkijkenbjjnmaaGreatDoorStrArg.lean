/- How an argument that is a string is opened. -/
import Derived.Test.YtgkijkenbjjnmaaGreatDoorBase
import Derived.ShutString
namespace Go.Proofs.YtgkijkenbjjnmaaGreatDoor
open Go.RowKit
theorem arg_str {H : Type} {enc : TypeId × Value → H} {P : Program} {w : World} {base : Nat} {spare : Nat → Bool} {held : Bool} {r : Reach} {b0 : Nat} {t : TypeId} {v : Value} {d : DataW H} {p : List MemPlace} (ht : P.underlying t = some .string) (hv : Value.okWide P w r b0 t v) (h : DataW.Trod enc P w base spare held t v d p) :
    ∃ s : ByteArray, v = .string s ∧ s.size ≤ maxLen := by
  obtain ⟨s, rfl, _, _, hs⟩ := Go.ChangeMaps.open_string ht hv h
  exact ⟨s, rfl, hs⟩
end Go.Proofs.YtgkijkenbjjnmaaGreatDoor
