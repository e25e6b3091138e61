/- Contracts of the cursor over a draw's bytes and of what draws from it: each says alone between which bounds a result lies. -/
import Derived.Test.YtfplecbacgcjgaaApp
import Derived.Test.YtfplecbacgcjgaaPWrap
import Derived.Deep.AppendLies
namespace Go.Proofs.Ytfplecbacgcjgaa
open Go.RowKit
set_option linter.unusedVariables false
set_option linter.unusedSimpArgs false
/-- The slice value '.slice A n c' reads as n bytes and lies below block B. -/
def RdB (w : World) (B : Nat) (A : Option Addr) (n : Nat) : Prop :=
  0 < n → ∃ ad, A = some ad ∧ ad.block < B ∧ ∀ j, j < n → ∃ v : Int, 0 ≤ v ∧ v ≤ 255 ∧ w.cell? (ad.add j) = some (.int .u8 v)
section
variable {w w' : World} {B B' n : Nat} {A : Option Addr}
theorem RdB.keep (h : RdB w B A n) (hk : ∀ p : Addr, p.block < B → w'.cell? p = w.cell? p) : RdB w' B A n := fun h0 => by
  obtain ⟨ad, e, hb, hc⟩ := h h0
  refine ⟨ad, e, hb, fun j hj => ?_⟩
  obtain ⟨v, v1, v2, hv⟩ := hc j hj
  exact ⟨v, v1, v2, (hk _ (by rw [block_add]; exact hb)).trans hv⟩
theorem RdB.more (h : RdB w B A n) (hB : B ≤ B') : RdB w B' A n := fun h0 => by
  obtain ⟨ad, e, hb, hc⟩ := h h0
  exact ⟨ad, e, by omega, hc⟩
theorem RdB.below (h : RdB w B A n) (hb : Below B w w') : RdB w' B A n := h.keep fun _ hp => hb.cell hp
theorem RdB.past (h : RdB w w.heap.size A n) (hb : Below w.heap.size w w') : RdB w' w'.heap.size A n := (h.below hb).more hb.size
theorem RdB.at_ {k : Nat} (h : RdB w B A n) (hk : k < n) : ∃ ad, A = some ad ∧ ad.block < B ∧ ∃ v : Int, 0 ≤ v ∧ v ≤ 255 ∧ w.cell? (ad.add k) = some (.int .u8 v) := by
  obtain ⟨ad, e, hb, hc⟩ := h (by omega)
  exact ⟨ad, e, hb, hc k hk⟩
theorem RdB.grown (h : RdB w B A n) {g : Nat} (hg : w.grownBy w' (some g)) (hB : B ≤ w.heap.size) (hgB : B ≤ g) : RdB w' B A n :=
  h.keep fun p hp => World.cell?_of_block (hg.block _ (by omega) (fun e => by injection e with e; omega))
end
theorem Blk.drewN {w : World} {g : Nat} {t : TypeId} {cs : Array Value} (h : Blk w g t cs) (n : Nat) : Blk (w.drewN n) g t cs := h
/-! ### Of what there was at most block g has turned -/
theorem turn_refl (w : World) (g : Nat) : w.grownBy w (some g) := World.grownBy.refl _ _
theorem turn_drewN {a w : World} {row : Option Nat} (h : a.grownBy w row) (n : Nat) : a.grownBy (w.drewN n) row := ⟨h.os, h.tape, h.output, h.size, h.block⟩
theorem turn_alloc {a w : World} {row : Option Nat} (h : a.grownBy w row) (o : Obj) : a.grownBy (w.alloc o) row :=
  ⟨h.os, h.tape, h.output, Nat.le_trans h.size (by simp), fun i hi hne => (Below.heap_alloc w o i (Nat.lt_of_lt_of_le hi h.size)).trans (h.block i hi hne)⟩
theorem turn_set {a w : World} {g : Nat} (h : a.grownBy w (some g)) {p : Addr} (hp : p.block = g) (u : Value) : a.grownBy (w.setCell p u) (some g) :=
  ⟨h.os, h.tape, h.output, by simpa [World.setCell] using h.size, fun i hi hne => (Below.heap_setCell w p u i (by rintro rfl; exact hne (by rw [hp]))).trans (h.block i hi hne)⟩
theorem turn_below {a w : World} (h : Below a.heap.size a w) (row : Option Nat) : a.grownBy w row := ⟨h.os, h.tape, h.output, h.size, fun i hi _ => h.block i hi⟩
/-- A write into a slice that is new: nothing of what there was at first has turned. -/
theorem turn_new {a w w' : World} {g : Nat} {A : Option Addr} (h : a.grownBy w (some g)) (hw : Wrote w w' A) (hl : Lo A a.heap.size) : a.grownBy w' (some g) :=
  ⟨hw.os.trans h.os, hw.tape.trans h.tape, hw.output.trans h.output, Nat.le_trans h.size hw.size, fun i hi hne => (hw.block i (Nat.lt_of_lt_of_le hi h.size) (by
    cases A with
    | none => simp [row]
    | some a => simp [row]; have := hl a rfl; omega)).trans (h.block i hi hne)⟩
theorem turn_past {B : Nat} {a w w' : World} {g : Nat} (h : Below B a w) (hw : w.grownBy w' (some g)) (hB : B ≤ w.heap.size) (hg : B ≤ g) : Below B a w' :=
  h.grown hw hB fun k hk => by injection hk with hk; omega
theorem own_turn {w w' : World} {B c g : Nat} {A : Option Addr} {xs : List Int} (h : Own w B A c xs) (hw : w.grownBy w' (some g)) (hg : g < B) : Own w' B A c xs :=
  own_grown h hw fun a e => by have := (own_lt h a e).1; intro e'; injection e' with e'; omega
theorem own_turn_hi {w w' : World} {B c g : Nat} {A : Option Addr} {xs : List Int} (h : Own w B A c xs) (hw : w.grownBy w' (some g)) (hg : Hi A g) : Own w' B A c xs :=
  own_grown h hw fun a e => by have := hg a e; intro e'; injection e' with e'; omega
theorem blk_turn {w w' : World} {b g : Nat} {t : TypeId} {cs : Array Value} (h : Blk w b t cs) (hw : w.grownBy w' (some g)) (hg : b ≠ g) : Blk w' b t cs := h.grown hw (by simpa using hg)
/-! ### The cursor -/
def Cur (w : World) (g : Nat) : Prop := ∃ (A : Option Addr) (n c i : Nat) (h : Int), Blk w g 80 #[.slice A n c, .int .i64 i, .int .i64 h] ∧ n ≤ 9223372036854775807 ∧ i ≤ n ∧ RdB w g A n
theorem Cur.lt {w : World} {g : Nat} (h : Cur w g) : g < w.heap.size := by
  obtain ⟨A, n, c, i, q, hb, _⟩ := h
  exact hb.lt
theorem Cur.past {w w' : World} {g : Nat} (h : Cur w g) (hb : Below w.heap.size w w') : Cur w' g := by
  have hl := h.lt
  obtain ⟨A, n, c, i, q, h1, h2, h3, h4⟩ := h
  exact ⟨A, n, c, i, q, h1.past hb, h2, h3, h4.below (hb.mono (by omega))⟩
theorem Cur.wrote {w w' : World} {g n : Nat} {A : Option Addr} (h : Cur w g) (hw : Wrote w w' A) (hl : Lo A n) (hg : g < n) : Cur w' g := by
  have hlt := h.lt
  obtain ⟨D, m, c, i, q, h1, h2, h3, h4⟩ := h
  refine ⟨D, m, c, i, q, blk_wrote h1 hw hl hg, h2, h3, h4.keep fun p hp => World.cell?_of_block (hw.block _ (by omega) ?_)⟩
  cases A with
  | none => simp [row]
  | some a => simp [row]; have := hl a rfl; omega
def RetN (lo hi : Int) (g : Nat) (w : World) (e : Ending) (w' : World) : Prop := ∃ v : Int, e = .returned (.int .i64 v) ∧ lo ≤ v ∧ v ≤ hi ∧ Cur w' g ∧ w.grownBy w' (some g)
theorem and255 (x : Int) : 0 ≤ bits .and .i64 x 255 ∧ bits .and .i64 x 255 ≤ 255 := by
  have h := and_mask x 8 (by omega)
  have e : (2 : Int) ^ 8 - 1 = 255 := by decide
  have e2 : (2 : Int) ^ 8 = 256 := by decide
  rw [e, e2] at h
  omega
set_option maxHeartbeats 1000000 in
theorem l01Byte_any (g : Nat) (w : World) (hc : Cur w g) : Calls Try.prog 80 #[.pointer (some ⟨g, 0, none⟩)] w (RetN 0 255 g w) := by
  obtain ⟨A, n, c, i, h, hB, hn, hi, hR⟩ := hc
  have c0 := hB.cell 0
  have c1 := hB.cell 1
  have c2 := hB.cell 2
  have f1 := hB.frozen 1
  have f2 := hB.frozen 2
  simp at c0 c1 c2
  by_cases hlt : i < n
  · obtain ⟨ad, rfl, hbl, v, v1, v2, hv⟩ := hR.at_ hlt
    have hne : (ad.add i).block ≠ g := by rw [block_add]; omega
    have hv' : ∀ u, (w.setCell ⟨g, 2, none⟩ u).cell? (ad.add i) = some (.int .u8 v) := fun u => (World.cell?_setCell_other w _ _ u (by intro e; exact hne (by rw [← e]))).trans hv
    go_enter Try.func80, Try.ntmps80
    go_wp2
    go_quiet (fail)
    go_wp2
    go_quiet (fail)
    go_wp2
    go_quiet (fail)
    go_wp2
    go_ret
    have T := fun (a : Nat) (x y : Value) => turn_set (turn_drewN (turn_set (turn_refl w g) (p := ⟨g, 2, none⟩) rfl x) a) (p := ⟨g, 1, none⟩) rfl y
    generalize wrap64 (wrap64 (h * 6364136223846793005) + 1442695040888963407) = q
    refine ⟨_, rfl, (and255 _).1, (and255 _).2, ⟨some ad, n, c, i + 1, q, ?_, hn, by omega, hR.grown (T _ (.int .i64 q) (.int .i64 (i + 1))) (by have := hB.lt; omega) (Nat.le_refl _)⟩, T _ _ _⟩
    exact ((hB.set_ 2 (.int .i64 q)).drewN _).set_ 1 (.int .i64 (i + 1))
  · have hle : n ≤ i := by omega
    go_enter Try.func80, Try.ntmps80
    go_wp2
    go_quiet (fail)
    go_wp2
    go_quiet (fail)
    go_wp2
    go_ret
    have T := fun (a b : Nat) (x : Value) => turn_drewN (turn_drewN (turn_set (turn_refl w g) (p := ⟨g, 2, none⟩) rfl x) a) b
    generalize wrap64 (wrap64 (h * 6364136223846793005) + 1442695040888963407) = q
    refine ⟨_, rfl, (and255 _).1, (and255 _).2, ⟨A, n, c, i, q, ?_, hn, by omega, hR.grown (T _ _ (.int .i64 q)) (by have := hB.lt; omega) (Nat.le_refl _)⟩, T _ _ _⟩
    exact ((hB.set_ 2 (.int .i64 q)).drewN _).drewN _
theorem tmod_lt (x n : Int) (hx : 0 ≤ x) (hn : 1 ≤ n) : 0 ≤ x % n ∧ x % n ≤ n - 1 := by
  have h1 := Int.emod_nonneg x (show n ≠ 0 by omega)
  have h2 := Int.emod_lt_of_pos x (show 0 < n by omega)
  omega
set_option maxHeartbeats 1000000 in
theorem l01Below_any (g : Nat) (n : Int) (w : World) (hc : Cur w g) (n1 : 1 ≤ n) (n2 : n ≤ 4294967296) : Calls Try.prog 50 #[.pointer (some ⟨g, 0, none⟩), .int .i64 n] w (RetN 0 (n - 1) g w) := by
  have hn0 : ¬ n ≤ 0 := by omega
  have hnz : n ≠ 0 := by omega
  by_cases hs : n ≤ 256
  · go_enter Try.func50, Try.ntmps50
    go_wp2_with fail
    refine (l01Byte_any g _ hc).mono ?_; rintro e w1 ⟨v, rfl, v1, v2, C1, T1⟩
    have hb := tmod_lt v n v1 n1
    have HB := Lib.hid hb
    clear hb
    go_wp2_with fail
    go_ret
    exact ⟨_, rfl, HB.out.1, HB.out.2, C1, T1⟩
  · go_enter Try.func50, Try.ntmps50
    go_wp2_with fail
    refine (l01Byte_any g _ hc).mono ?_; rintro e w1 ⟨v, rfl, v1, v2, C1, T1⟩
    go_wp2_with fail
    refine (l01Byte_any g _ C1).mono ?_; rintro e w2 ⟨x, rfl, x1, x2, C2, T2⟩
    go_wp2_with fail
    refine (l01Byte_any g _ C2).mono ?_; rintro e w3 ⟨y, rfl, y1, y2, C3, T3⟩
    go_wp2_with fail
    refine (l01Byte_any g _ C3).mono ?_; rintro e w4 ⟨z, rfl, z1, z2, C4, T4⟩
    have hq : 0 ≤ v * 16777216 + x * 65536 + y * 256 + z ∧ v * 16777216 + x * 65536 + y * 256 + z ≤ 4294967295 := by omega
    have hb := tmod_lt (v * 16777216 + x * 65536 + y * 256 + z) n hq.1 n1
    have HB := Lib.hid hb
    clear hb
    go_wp2_with fail
    go_ret
    exact ⟨_, rfl, HB.out.1, HB.out.2, C4, ((T1.trans T2).trans T3).trans T4⟩
def RetB (g : Nat) (w : World) (e : Ending) (w' : World) : Prop := ∃ b : Bool, e = .returned (.bool b) ∧ Cur w' g ∧ w.grownBy w' (some g)
def RetPick (xs : List Int) (g : Nat) (w : World) (e : Ending) (w' : World) : Prop := ∃ v : Int, e = .returned (.int .i64 v) ∧ v ∈ xs ∧ Cur w' g ∧ w.grownBy w' (some g)
theorem l01Int_any (g : Nat) (A : Option Addr) (c : Nat) (xs : List Int) (w : World) (hc : Cur w g) (hr : Rd w w.heap.size A xs) (ha : Hid (∀ a, A = some a → a.block ≠ g)) (n1 : 1 ≤ xs.length) (n2 : xs.length ≤ 4294967296) :
    Calls Try.prog 51 #[.pointer (some ⟨g, 0, none⟩), .slice A xs.length c] w (RetPick xs g w) := by
  go_enter Try.func51, Try.ntmps51
  go_wp2_with fail
  refine (l01Below_any g xs.length _ hc (by omega) (by omega)).mono ?_; rintro e w1 ⟨v, rfl, v1, v2, C1, T1⟩
  obtain ⟨j, rfl⟩ : ∃ j : Nat, v = j := ⟨v.toNat, by omega⟩
  have hj : j < xs.length := by omega
  have R1 := hr.grown T1 (Nat.le_refl _) (fun a e e' => ha.out a e (by injection e'))
  obtain ⟨ad, rfl, hbl, hcell⟩ := R1.at_ hj
  have hc1 := hcell j hj
  clear hcell hr R1
  go_wp2_with fail
  go_ret
  exact ⟨_, rfl, by first | exact List.getElem_mem hj | (rw [getD_at hj]; exact List.getElem_mem hj), C1, T1⟩
end Go.Proofs.Ytfplecbacgcjgaa
