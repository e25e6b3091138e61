/- Where the orders of a drawn region meet again: a state of a comb lies in a new local variable. -/
import Derived.Test.YtfplecbacgcjgaaCombArg
import Derived.Deep.CutRange
namespace Go.Proofs.Ytfplecbacgcjgaa
open Go.RowKit
set_option linter.unusedVariables false
set_option linter.unusedSimpArgs false
def NeB (A : Option Addr) (g : Nat) : Prop := ∀ a, A = some a → a.block ≠ g
theorem neb_lo {A : Option Addr} {g n : Nat} (h : Lo A n) (hg : g < n) : NeB A g := fun a e => by have := h a e; omega
theorem neb_hi {A : Option Addr} {g n : Nat} (h : Hi A n) (hg : n ≤ g) : NeB A g := fun a e => by have := h a e; omega
theorem blk_wrote_ne {w w' : World} {g : Nat} {t : TypeId} {cs : Array Value} {A : Option Addr} (h : Blk w g t cs) (hw : Wrote w w' A) (hn : NeB A g) : Blk w' g t cs :=
  h.grown hw fun e => by
    cases A with
    | none => simp [row] at e
    | some a => simp [row] at e; exact hn a rfl e.symm
def MetCS (W : World) (g : Nat) (x y : List Int) (p : Int) (Aa : Option Addr) (ca : Nat) (Ab : Option Addr) (cb : Nat) (wx : World) : Prop :=
  W.heap.size ≤ g ∧ Blk wx g 35 #[.slice Aa x.length ca, .slice Ab y.length cb, .int .i64 p] ∧ Own wx W.heap.size Aa ca x ∧ Own wx W.heap.size Ab cb y ∧ Apart Aa Ab ∧ NeB Aa g ∧ NeB Ab g ∧ Below W.heap.size W wx
theorem met_after {W w3 w4 : World} {x y : List Int} {p : Int} {Aa : Option Addr} {ca : Nat} {Ab : Option Addr} {cb : Nat} (hW : Below W.heap.size W w4) (hs : W.heap.size ≤ w3.heap.size) (oa : Own w4 w3.heap.size Aa ca x) (ob : Own w4 w3.heap.size Ab cb y) (hp : Apart Aa Ab) :
    MetCS W w4.heap.size x y p Aa ca Ab cb (w4.alloc (.cells #[.slice Aa x.length ca, .slice Ab y.length cb, .int .i64 p] 35)) := by
  have bx : Below w4.heap.size w4 (w4.alloc (.cells #[.slice Aa x.length ca, .slice Ab y.length cb, .int .i64 p] 35)) := (Below.refl _ _).alloc (Nat.le_refl _) _
  exact ⟨hW.size, Blk.new _ _ _, own_past (own_mono oa hs) bx, own_past (own_mono ob hs) bx, hp, neb_hi (own_hi oa) (Nat.le_refl _), neb_hi (own_hi ob) (Nat.le_refl _), thenB hW bx⟩
theorem met_before {W w4 : World} {g n : Nat} {x y : List Int} {p : Int} {z : Array Value} {Aa : Option Addr} {ca : Nat} {Ab : Option Addr} {cb : Nat} (hW : Below W.heap.size W w4) (hg : W.heap.size ≤ g) (hgn : g < n) (hz : z.size = 3) (hb : Blk w4 g 35 z) (oa : Own w4 n Aa ca x) (ob : Own w4 n Ab cb y) (hp : Apart Aa Ab) :
    MetCS W g x y p Aa ca Ab cb (((w4.setCell ⟨g, 0, none⟩ (.slice Aa x.length ca)).setCell ⟨g, 1, none⟩ (.slice Ab y.length cb)).setCell ⟨g, 2, none⟩ (.int .i64 p)) := by
  have T1 := turn_set (turn_refl w4 g) (p := ⟨g, 0, none⟩) rfl (.slice Aa x.length ca)
  have T2 := turn_set T1 (p := ⟨g, 1, none⟩) rfl (.slice Ab y.length cb)
  have T3 := turn_set T2 (p := ⟨g, 2, none⟩) rfl (.int .i64 p)
  have na := neb_lo (own_lo oa) hgn
  have nb := neb_lo (own_lo ob) hgn
  have hB := ((hb.set_ 0 (.slice Aa x.length ca)).set_ 1 (.slice Ab y.length cb)).set_ 2 (.int .i64 p)
  have e : ((z.setIfInBounds 0 (.slice Aa x.length ca)).setIfInBounds 1 (.slice Ab y.length cb)).setIfInBounds 2 (.int .i64 p) = #[.slice Aa x.length ca, .slice Ab y.length cb, .int .i64 p] := by
    obtain ⟨z⟩ := z
    match z, hz with
    | [a, b, c], _ => simp
  rw [e] at hB
  exact ⟨hg, hB, own_grown (own_mono oa (by omega)) T3 (fun a e e' => na a e (Option.some.inj e')), own_grown (own_mono ob (by omega)) T3 (fun a e e' => nb a e (Option.some.inj e')), hp, na, nb, ((hW.setCell hg _).setCell hg _).setCell hg _⟩
def MetRC (W : World) (g : Nat) (l x y : List Int) (p : Int) (Al : Option Addr) (cl : Nat) (Aa : Option Addr) (ca : Nat) (Ab : Option Addr) (cb : Nat) (wx : World) : Prop :=
  MetCS W g x y p Aa ca Ab cb wx ∧ Own wx W.heap.size Al cl l ∧ Apart Al Aa ∧ Apart Al Ab ∧ NeB Al g
theorem metrc_after {W w3 w4 : World} {l x y : List Int} {p : Int} {Al : Option Addr} {cl : Nat} {Aa : Option Addr} {ca : Nat} {Ab : Option Addr} {cb : Nat} (hW : Below W.heap.size W w4) (hs : W.heap.size ≤ w3.heap.size) (ol : Own w4 w3.heap.size Al cl l) (oa : Own w4 w3.heap.size Aa ca x) (ob : Own w4 w3.heap.size Ab cb y) (h1 : Apart Al Aa) (h2 : Apart Al Ab) (hp : Apart Aa Ab) :
    MetRC W w4.heap.size l x y p Al cl Aa ca Ab cb (w4.alloc (.cells #[.slice Aa x.length ca, .slice Ab y.length cb, .int .i64 p] 35)) :=
  ⟨met_after hW hs oa ob hp, own_past (own_mono ol hs) ((Below.refl _ _).alloc (Nat.le_refl _) _), h1, h2, neb_hi (own_hi ol) (Nat.le_refl _)⟩
theorem metrc_before {W w4 : World} {g n : Nat} {l x y : List Int} {p : Int} {z : Array Value} {Al : Option Addr} {cl : Nat} {Aa : Option Addr} {ca : Nat} {Ab : Option Addr} {cb : Nat} (hW : Below W.heap.size W w4) (hg : W.heap.size ≤ g) (hgn : g < n) (hz : z.size = 3) (hb : Blk w4 g 35 z) (ol : Own w4 n Al cl l) (oa : Own w4 n Aa ca x) (ob : Own w4 n Ab cb y) (h1 : Apart Al Aa) (h2 : Apart Al Ab) (hp : Apart Aa Ab) :
    MetRC W g l x y p Al cl Aa ca Ab cb (((w4.setCell ⟨g, 0, none⟩ (.slice Aa x.length ca)).setCell ⟨g, 1, none⟩ (.slice Ab y.length cb)).setCell ⟨g, 2, none⟩ (.int .i64 p)) := by
  have T1 := turn_set (turn_refl w4 g) (p := ⟨g, 0, none⟩) rfl (.slice Aa x.length ca)
  have T2 := turn_set T1 (p := ⟨g, 1, none⟩) rfl (.slice Ab y.length cb)
  have T3 := turn_set T2 (p := ⟨g, 2, none⟩) rfl (.int .i64 p)
  have nl := neb_lo (own_lo ol) hgn
  exact ⟨met_before hW hg hgn hz hb oa ob hp, own_grown (own_mono ol (by omega)) T3 (fun a e e' => nl a e (Option.some.inj e')), h1, h2, nl⟩
end Go.Proofs.Ytfplecbacgcjgaa
