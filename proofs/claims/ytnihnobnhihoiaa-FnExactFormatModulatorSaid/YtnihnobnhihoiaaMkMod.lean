/- Contracts of MakeQuantiser, the reference's OrderModulator and MakeModulator; of RangeOf and SafeInput. -/
import Derived.Test.YtnihnobnhihoiaaMod
import Derived.Test.YtnihnobnhihoiaaGen
import Derived.Test.YtnihnobnhihoiaaDiff
import Derived.Test.YtnihnobnhihoiaaCopy
import Derived.Test.YtnihnobnhihoiaaMatRun
import Derived.Test.YtnihnobnhihoiaaSeq2
import Derived.Deep.RegionLaw
namespace Go.Proofs.Ytnihnobnhihoiaa
open Go.RowKit
set_option linter.unusedVariables false
set_option linter.unusedSimpArgs false
theorem specIsQuantiser_any (l s : Int) (w : World) :
    Calls Try.prog 31 #[.agg #[.int .i64 l, .int .i64 s]] w fun e w' => e = .returned (.bool (quantOk l s)) ∧ Below w.heap.size w w' := by
  go_enter Try.func31, Try.ntmps31
  go_wp2_with (go_at_call 30; refine (l1In_any _ _ _ _).mono ?_; rintro e w' ⟨rfl, rfl⟩)
  all_goals (go_ret; exact ⟨ret_bool (by simp [quantOk, *]), (Below.refl _ _).alloc (Nat.le_refl _) _⟩)
def absTo (cs : List Int) (k : Nat) : Int := sumF (fun i => absI (cs.getD i 0)) k
theorem absTo_bd {cs : List Int} (h : ∀ c ∈ cs, -100 ≤ c ∧ c ≤ 100) : ∀ k : Nat, 0 ≤ absTo cs k ∧ absTo cs k ≤ 100 * (k : Int)
  | 0 => by simp [absTo, sumF]
  | k + 1 => by
    have ih := absTo_bd h k
    have hc := coef_getD h k
    have e : absTo cs (k + 1) = absTo cs k + absI (cs.getD k 0) := rfl
    rw [e]; unfold absI; omega
def safeW (l s : Int) (cs : List Int) : Int := if -1 < l * s - s * absTo cs cs.length then l * s - s * absTo cs cs.length else -1
def RetQ (w : World) (e : Ending) (w' : World) : Prop := ∃ (l s : Nat), e = .returned (.agg #[.int .i64 l, .int .i64 s]) ∧ 2 ≤ l ∧ l ≤ 6 ∧ 1 ≤ s ∧ s ≤ 64 ∧ Below w.heap.size w w'
theorem rd_drop' {w : World} {B g o : Nat} {xs : List Int} (h : Rd w B (some ⟨g, o, none⟩) xs) (i : Nat) : Rd w B (some ⟨g, o + i, none⟩) (xs.drop i) := fun h0 => by
  have hl : (xs.drop i).length = xs.length - i := List.length_drop
  obtain ⟨ad, e, hb, hc⟩ := h (by omega)
  obtain rfl := Option.some.inj e
  refine ⟨_, rfl, hb, fun j hj => ?_⟩
  have := hc (i + j) (by omega)
  rw [Addr.add_lit] at this ⊢
  rw [Nat.add_assoc, this]
  simp [List.getD, List.getElem?_drop]
def NotB (A : Option Addr) (g : Nat) : Prop := ∀ a, A = some a → a.block ≠ g
def MetMo (W : World) (g : Nat) (l s : Int) (x : List Int) (A : Option Addr) (c : Nat) (wx : World) : Prop :=
  W.heap.size ≤ g ∧ Blk wx g 35 #[.int .i64 l, .int .i64 s, .slice A x.length c] ∧ Own wx W.heap.size A c x ∧ NotB A g ∧ Below W.heap.size W wx
theorem metMo_after {W w3 w4 : World} {l s : Int} {x : List Int} {A : Option Addr} {c : Nat} (hW : Below W.heap.size W w4) (hs : W.heap.size ≤ w3.heap.size) (oa : Own w4 w3.heap.size A c x) :
    MetMo W w4.heap.size l s x A c (w4.alloc (.cells #[.int .i64 l, .int .i64 s, .slice A x.length c] 35)) := by
  have bx : Below w4.heap.size w4 (w4.alloc (.cells #[.int .i64 l, .int .i64 s, .slice A x.length c] 35)) := (Below.refl _ _).alloc (Nat.le_refl _) _
  exact ⟨hW.size, Blk.new _ _ _, own_past (own_mono oa hs) bx, fun a e => by have := own_hi oa a e; omega, thenB hW bx⟩
theorem metMo_before {W w4 : World} {g n : Nat} {l s : Int} {x : List Int} {z : Array Value} {A : Option Addr} {c : Nat} (hW : Below W.heap.size W w4) (hg : W.heap.size ≤ g) (hgn : g < n) (hz : z.size = 3) (hb : Blk w4 g 35 z) (oa : Own w4 n A c x) :
    MetMo W g l s x A c (((w4.setCell ⟨g, 0, none⟩ (.int .i64 l)).setCell ⟨g, 1, none⟩ (.int .i64 s)).setCell ⟨g, 2, none⟩ (.slice A x.length c)) := by
  have T1 := turn_set (turn_refl w4 g) (p := ⟨g, 0, none⟩) rfl (.int .i64 l)
  have T2 := turn_set T1 (p := ⟨g, 1, none⟩) rfl (.int .i64 s)
  have T3 := turn_set T2 (p := ⟨g, 2, none⟩) rfl (.slice A x.length c)
  have na : NotB A g := fun a e => by have := own_lo oa a e; omega
  have hB := ((hb.set_ 0 (.int .i64 l)).set_ 1 (.int .i64 s)).set_ 2 (.slice A x.length c)
  have e : ((z.setIfInBounds 0 (.int .i64 l)).setIfInBounds 1 (.int .i64 s)).setIfInBounds 2 (.slice A x.length c) = #[.int .i64 l, .int .i64 s, .slice A x.length c] := by
    obtain ⟨z⟩ := z
    match z, hz with
    | [a, b, c], _ => simp
  rw [e] at hB
  exact ⟨hg, hB, own_grown (own_mono oa (by omega)) T3 (fun a e e' => na a e (Option.some.inj e')), na, ((hW.setCell hg _).setCell hg _).setCell hg _⟩
end Go.Proofs.Ytnihnobnhihoiaa
