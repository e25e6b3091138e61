import Derived.Test.YtgkijkenbjjnmaaGreatDoorBase
import Derived.Test.YtgkijkenbjjnmaaGreatDoorCopy
import Derived.Deep.AppendLies
import Derived.Test.YtgkijkenbjjnmaaGreatDoorClone
import Derived.Test.YtgkijkenbjjnmaaGreatDoorMat
/- Contracts of the cursor over a draw's bytes and of what draws from it: each says alone between which bounds a result lies. -/
namespace Go.Proofs.YtgkijkenbjjnmaaGreatDoor
open Go.RowKit
set_option linter.unusedVariables false
set_option linter.unusedSimpArgs false
/-- The slice value '.slice A n c' reads as n bytes and lies below block B. -/
def RdB (w : World) (B : Nat) (A : Option Addr) (n : Nat) : Prop :=
  0 < n → ∃ ad, A = some ad ∧ ad.block < B ∧ ∀ j, j < n → ∃ v : Int, 0 ≤ v ∧ v ≤ 255 ∧ w.cell? (ad.add j) = some (.int .u8 v)
section
variable {w w' : World} {B B' n : Nat} {A : Option Addr}
theorem RdB.keep (h : RdB w B A n) (hk : ∀ p : Addr, p.block < B → w'.cell? p = w.cell? p) : RdB w' B A n := fun h0 => by
  obtain ⟨ad, e, hb, hc⟩ := h h0
  refine ⟨ad, e, hb, fun j hj => ?_⟩
  obtain ⟨v, v1, v2, hv⟩ := hc j hj
  exact ⟨v, v1, v2, (hk _ (by rw [block_add]; exact hb)).trans hv⟩
theorem RdB.more (h : RdB w B A n) (hB : B ≤ B') : RdB w B' A n := fun h0 => by
  obtain ⟨ad, e, hb, hc⟩ := h h0
  exact ⟨ad, e, by omega, hc⟩
theorem RdB.below (h : RdB w B A n) (hb : Below B w w') : RdB w' B A n := h.keep fun _ hp => hb.cell hp
theorem RdB.past (h : RdB w w.heap.size A n) (hb : Below w.heap.size w w') : RdB w' w'.heap.size A n := (h.below hb).more hb.size
theorem RdB.at_ {k : Nat} (h : RdB w B A n) (hk : k < n) : ∃ ad, A = some ad ∧ ad.block < B ∧ ∃ v : Int, 0 ≤ v ∧ v ≤ 255 ∧ w.cell? (ad.add k) = some (.int .u8 v) := by
  obtain ⟨ad, e, hb, hc⟩ := h (by omega)
  exact ⟨ad, e, hb, hc k hk⟩
theorem RdB.grown (h : RdB w B A n) {g : Nat} (hg : w.grownBy w' (some g)) (hB : B ≤ w.heap.size) (hgB : B ≤ g) : RdB w' B A n :=
  h.keep fun p hp => World.cell?_of_block (hg.block _ (by omega) (fun e => by injection e with e; omega))
end
theorem Blk.drewN {w : World} {g : Nat} {t : TypeId} {cs : Array Value} (h : Blk w g t cs) (n : Nat) : Blk (w.drewN n) g t cs := h
/-! ### Of what there was at most block g has turned -/
theorem turn_refl (w : World) (g : Nat) : w.grownBy w (some g) := World.grownBy.refl _ _
theorem turn_drewN {a w : World} {row : Option Nat} (h : a.grownBy w row) (n : Nat) : a.grownBy (w.drewN n) row := ⟨h.os, h.tape, h.output, h.size, h.block⟩
theorem turn_alloc {a w : World} {row : Option Nat} (h : a.grownBy w row) (o : Obj) : a.grownBy (w.alloc o) row :=
  ⟨h.os, h.tape, h.output, Nat.le_trans h.size (by simp), fun i hi hne => (Below.heap_alloc w o i (Nat.lt_of_lt_of_le hi h.size)).trans (h.block i hi hne)⟩
theorem turn_set {a w : World} {g : Nat} (h : a.grownBy w (some g)) {p : Addr} (hp : p.block = g) (u : Value) : a.grownBy (w.setCell p u) (some g) :=
  ⟨h.os, h.tape, h.output, by simpa [World.setCell] using h.size, fun i hi hne => (Below.heap_setCell w p u i (by rintro rfl; exact hne (by rw [hp]))).trans (h.block i hi hne)⟩
theorem turn_below {a w : World} (h : Below a.heap.size a w) (row : Option Nat) : a.grownBy w row := ⟨h.os, h.tape, h.output, h.size, fun i hi _ => h.block i hi⟩
/-- A write into a slice that is new: nothing of what there was at first has turned. -/
theorem turn_new {a w w' : World} {g : Nat} {A : Option Addr} (h : a.grownBy w (some g)) (hw : Wrote w w' A) (hl : Lo A a.heap.size) : a.grownBy w' (some g) :=
  ⟨hw.os.trans h.os, hw.tape.trans h.tape, hw.output.trans h.output, Nat.le_trans h.size hw.size, fun i hi hne => (hw.block i (Nat.lt_of_lt_of_le hi h.size) (by
    cases A with
    | none => simp [row]
    | some a => simp [row]; have := hl a rfl; omega)).trans (h.block i hi hne)⟩
theorem turn_past {B : Nat} {a w w' : World} {g : Nat} (h : Below B a w) (hw : w.grownBy w' (some g)) (hB : B ≤ w.heap.size) (hg : B ≤ g) : Below B a w' :=
  h.grown hw hB fun k hk => by injection hk with hk; omega
theorem own_turn {w w' : World} {B c g : Nat} {A : Option Addr} {xs : List Int} (h : Own w B A c xs) (hw : w.grownBy w' (some g)) (hg : g < B) : Own w' B A c xs :=
  own_grown h hw fun a e => by have := (own_lt h a e).1; intro e'; injection e' with e'; omega
theorem own_turn_hi {w w' : World} {B c g : Nat} {A : Option Addr} {xs : List Int} (h : Own w B A c xs) (hw : w.grownBy w' (some g)) (hg : Hi A g) : Own w' B A c xs :=
  own_grown h hw fun a e => by have := hg a e; intro e'; injection e' with e'; omega
theorem blk_turn {w w' : World} {b g : Nat} {t : TypeId} {cs : Array Value} (h : Blk w b t cs) (hw : w.grownBy w' (some g)) (hg : b ≠ g) : Blk w' b t cs := h.grown hw (by simpa using hg)
/-! ### The cursor -/
def Cur (w : World) (g : Nat) : Prop := ∃ (A : Option Addr) (n c i : Nat) (h : Int), Blk w g 100 #[.slice A n c, .int .i64 i, .int .i64 h] ∧ n ≤ 9223372036854775807 ∧ i ≤ n ∧ RdB w g A n
theorem Cur.lt {w : World} {g : Nat} (h : Cur w g) : g < w.heap.size := by
  obtain ⟨A, n, c, i, q, hb, _⟩ := h
  exact hb.lt
theorem Cur.past {w w' : World} {g : Nat} (h : Cur w g) (hb : Below w.heap.size w w') : Cur w' g := by
  have hl := h.lt
  obtain ⟨A, n, c, i, q, h1, h2, h3, h4⟩ := h
  exact ⟨A, n, c, i, q, h1.past hb, h2, h3, h4.below (hb.mono (by omega))⟩
theorem Cur.wrote {w w' : World} {g n : Nat} {A : Option Addr} (h : Cur w g) (hw : Wrote w w' A) (hl : Lo A n) (hg : g < n) : Cur w' g := by
  have hlt := h.lt
  obtain ⟨D, m, c, i, q, h1, h2, h3, h4⟩ := h
  refine ⟨D, m, c, i, q, blk_wrote h1 hw hl hg, h2, h3, h4.keep fun p hp => World.cell?_of_block (hw.block _ (by omega) ?_)⟩
  cases A with
  | none => simp [row]
  | some a => simp [row]; have := hl a rfl; omega
def RetN (lo hi : Int) (g : Nat) (w : World) (e : Ending) (w' : World) : Prop := ∃ v : Int, e = .returned (.int .i64 v) ∧ lo ≤ v ∧ v ≤ hi ∧ Cur w' g ∧ w.grownBy w' (some g)
theorem and255 (x : Int) : 0 ≤ bits .and .i64 x 255 ∧ bits .and .i64 x 255 ≤ 255 := by
  have h := and_mask x 8 (by omega)
  have e : (2 : Int) ^ 8 - 1 = 255 := by decide
  have e2 : (2 : Int) ^ 8 = 256 := by decide
  rw [e, e2] at h
  omega
set_option maxHeartbeats 1000000 in
theorem l01Byte_any (g : Nat) (w : World) (hc : Cur w g) : Calls Tryz.prog 88 #[.pointer (some ⟨g, 0, none⟩)] w (RetN 0 255 g w) := by
  obtain ⟨A, n, c, i, h, hB, hn, hi, hR⟩ := hc
  have c0 := hB.cell 0
  have c1 := hB.cell 1
  have c2 := hB.cell 2
  have f1 := hB.frozen 1
  have f2 := hB.frozen 2
  simp at c0 c1 c2
  by_cases hlt : i < n
  · obtain ⟨ad, rfl, hbl, v, v1, v2, hv⟩ := hR.at_ hlt
    have hne : (ad.add i).block ≠ g := by rw [block_add]; omega
    have hv' : ∀ u, (w.setCell ⟨g, 2, none⟩ u).cell? (ad.add i) = some (.int .u8 v) := fun u => (World.cell?_setCell_other w _ _ u (by intro e; exact hne (by rw [← e]))).trans hv
    go_enter Tryz.func88, Tryz.ntmps88
    go_wp2
    go_quiet (fail)
    go_wp2
    go_quiet (fail)
    go_wp2
    go_quiet (fail)
    go_wp2
    go_ret
    have T := fun (a : Nat) (x y : Value) => turn_set (turn_drewN (turn_set (turn_refl w g) (p := ⟨g, 2, none⟩) rfl x) a) (p := ⟨g, 1, none⟩) rfl y
    generalize wrap64 (wrap64 (h * 6364136223846793005) + 1442695040888963407) = q
    refine ⟨_, rfl, (and255 _).1, (and255 _).2, ⟨some ad, n, c, i + 1, q, ?_, hn, by omega, hR.grown (T _ (.int .i64 q) (.int .i64 (i + 1))) (by have := hB.lt; omega) (Nat.le_refl _)⟩, T _ _ _⟩
    exact ((hB.set_ 2 (.int .i64 q)).drewN _).set_ 1 (.int .i64 (i + 1))
  · have hle : n ≤ i := by omega
    go_enter Tryz.func88, Tryz.ntmps88
    go_wp2
    go_quiet (fail)
    go_wp2
    go_quiet (fail)
    go_wp2
    go_ret
    have T := fun (a b : Nat) (x : Value) => turn_drewN (turn_drewN (turn_set (turn_refl w g) (p := ⟨g, 2, none⟩) rfl x) a) b
    generalize wrap64 (wrap64 (h * 6364136223846793005) + 1442695040888963407) = q
    refine ⟨_, rfl, (and255 _).1, (and255 _).2, ⟨A, n, c, i, q, ?_, hn, by omega, hR.grown (T _ _ (.int .i64 q)) (by have := hB.lt; omega) (Nat.le_refl _)⟩, T _ _ _⟩
    exact ((hB.set_ 2 (.int .i64 q)).drewN _).drewN _
theorem tmod_lt (x n : Int) (hx : 0 ≤ x) (hn : 1 ≤ n) : 0 ≤ x % n ∧ x % n ≤ n - 1 := by
  have h1 := Int.emod_nonneg x (show n ≠ 0 by omega)
  have h2 := Int.emod_lt_of_pos x (show 0 < n by omega)
  omega
set_option maxHeartbeats 1000000 in
theorem l01Below_any (g : Nat) (n : Int) (w : World) (hc : Cur w g) (n1 : 1 ≤ n) (n2 : n ≤ 4294967296) : Calls Tryz.prog 40 #[.pointer (some ⟨g, 0, none⟩), .int .i64 n] w (RetN 0 (n - 1) g w) := by
  have hn0 : ¬ n ≤ 0 := by omega
  have hnz : n ≠ 0 := by omega
  by_cases hs : n ≤ 256
  · go_enter Tryz.func40, Tryz.ntmps40
    go_wp2_with fail
    refine (l01Byte_any g _ hc).mono ?_; rintro e w1 ⟨v, rfl, v1, v2, C1, T1⟩
    have hb := tmod_lt v n v1 n1
    have HB := Lib.hid hb
    clear hb
    go_wp2_with fail
    go_ret
    exact ⟨_, rfl, HB.out.1, HB.out.2, C1, T1⟩
  · go_enter Tryz.func40, Tryz.ntmps40
    go_wp2_with fail
    refine (l01Byte_any g _ hc).mono ?_; rintro e w1 ⟨v, rfl, v1, v2, C1, T1⟩
    go_wp2_with fail
    refine (l01Byte_any g _ C1).mono ?_; rintro e w2 ⟨x, rfl, x1, x2, C2, T2⟩
    go_wp2_with fail
    refine (l01Byte_any g _ C2).mono ?_; rintro e w3 ⟨y, rfl, y1, y2, C3, T3⟩
    go_wp2_with fail
    refine (l01Byte_any g _ C3).mono ?_; rintro e w4 ⟨z, rfl, z1, z2, C4, T4⟩
    have hq : 0 ≤ v * 16777216 + x * 65536 + y * 256 + z ∧ v * 16777216 + x * 65536 + y * 256 + z ≤ 4294967295 := by omega
    have hb := tmod_lt (v * 16777216 + x * 65536 + y * 256 + z) n hq.1 n1
    have HB := Lib.hid hb
    clear hb
    go_wp2_with fail
    go_ret
    exact ⟨_, rfl, HB.out.1, HB.out.2, C4, ((T1.trans T2).trans T3).trans T4⟩
def RetB (g : Nat) (w : World) (e : Ending) (w' : World) : Prop := ∃ b : Bool, e = .returned (.bool b) ∧ Cur w' g ∧ w.grownBy w' (some g)
theorem l01Once_any (g : Nat) (n : Int) (w : World) (hc : Cur w g) (n1 : 1 ≤ n) (n2 : n ≤ 4294967296) : Calls Tryz.prog 38 #[.pointer (some ⟨g, 0, none⟩), .int .i64 n] w (RetB g w) := by
  go_enter Tryz.func38, Tryz.ntmps38
  go_wp2_with fail
  refine (l01Below_any g n _ hc n1 n2).mono ?_; rintro e w1 ⟨v, rfl, v1, v2, C1, T1⟩
  go_wp2_with fail
  go_ret
  exact ⟨_, rfl, C1, T1⟩
def RetPick (xs : List Int) (g : Nat) (w : World) (e : Ending) (w' : World) : Prop := ∃ v : Int, e = .returned (.int .i64 v) ∧ v ∈ xs ∧ Cur w' g ∧ w.grownBy w' (some g)
theorem l01Int_any (g : Nat) (A : Option Addr) (c : Nat) (xs : List Int) (w : World) (hc : Cur w g) (hr : Rd w w.heap.size A xs) (ha : Hid (∀ a, A = some a → a.block ≠ g)) (n1 : 1 ≤ xs.length) (n2 : xs.length ≤ 4294967296) :
    Calls Tryz.prog 85 #[.pointer (some ⟨g, 0, none⟩), .slice A xs.length c] w (RetPick xs g w) := by
  go_enter Tryz.func85, Tryz.ntmps85
  go_wp2_with fail
  refine (l01Below_any g xs.length _ hc (by omega) (by omega)).mono ?_; rintro e w1 ⟨v, rfl, v1, v2, C1, T1⟩
  obtain ⟨j, rfl⟩ : ∃ j : Nat, v = j := ⟨v.toNat, by omega⟩
  have hj : j < xs.length := by omega
  have R1 := hr.grown T1 (Nat.le_refl _) (fun a e e' => ha.out a e (by injection e'))
  obtain ⟨ad, rfl, hbl, hcell⟩ := R1.at_ hj
  have hc1 := hcell j hj
  clear hcell hr R1
  go_wp2_with fail
  go_ret
  exact ⟨_, rfl, by first | exact List.getElem_mem hj | (rw [getD_at hj]; exact List.getElem_mem hj), C1, T1⟩
end Go.Proofs.YtgkijkenbjjnmaaGreatDoor

/- Contracts of the draws: cursor at first, bytes made anew, sequences, accumulators and what belongs to them. -/
namespace Go.Proofs.YtgkijkenbjjnmaaGreatDoor
open Go.RowKit
set_option linter.unusedVariables false
set_option linter.unusedSimpArgs false
def RetCur (w : World) (e : Ending) (w' : World) : Prop := ∃ g, e = .returned (.pointer (some ⟨g, 0, none⟩)) ∧ w.heap.size ≤ g ∧ Cur w' g ∧ Below w.heap.size w w'
set_option maxRecDepth 100000 in
set_option maxHeartbeats 400000 in
theorem l01New_any (A : Option Addr) (c n : Nat) (w : World) (hr : RdB w w.heap.size A n) (hn : n ≤ 4294967296) : Calls Tryz.prog 36 #[.slice A n c] w (RetCur w) := by
  go_enter Tryz.func36, Tryz.ntmps36
  go_wp2
  go_loop [3, 4] (fun q i => ∃ (k : Nat) (h : Int), k ≤ n ∧ k ≤ 4000 ∧ i = .int .i64 k ∧ q = .int .i64 h) (fun _ i => n - (intOf i).toNat)
  case atStart => exact ⟨0, _, by omega, by omega, rfl, rfl⟩
  case round =>
    obtain ⟨k, h, hk, hk2, rfl, rfl⟩ := hrel
    by_cases hlt : k < n
    · by_cases hlt2 : k < 4000
      · obtain ⟨ad, rfl, hbl, v, v1, v2, hv⟩ := hr.at_ hlt
        go_wp2
        go_round
        case rel => exact ⟨k + 1, _, by omega, by omega, by go_num, rfl⟩
        case measure => simp [intOf]; omega
      · have hlt3 : decide ((k : Int) < 4000) = false := by simp; omega
        go_wp2
        go_ret
        exact ⟨w.heap.size, rfl, Nat.le_refl _, ⟨A, n, c, 0, h, Blk.new w _ _, by omega, by omega, hr.below ((Below.refl _ _).alloc (Nat.le_refl _) _)⟩, (Below.refl _ _).alloc (Nat.le_refl _) _⟩
    · have hlt3 : decide ((k : Int) < n) = false := by simp; omega
      go_wp2
      go_ret
      exact ⟨w.heap.size, rfl, Nat.le_refl _, ⟨A, n, c, 0, h, Blk.new w _ _, by omega, by omega, hr.below ((Below.refl _ _).alloc (Nat.le_refl _) _)⟩, (Below.refl _ _).alloc (Nat.le_refl _) _⟩
theorem at_any (A : Option Addr) (c n : Nat) (i : Int) (w : World) (hr : RdB w w.heap.size A n) (hn : n ≤ 4294967296) (i0 : 0 ≤ i) (i1 : i ≤ 1000) :
    Calls Tryz.prog 10 #[.slice A n c, .int .i64 i] w fun e w' => (∃ v : Int, e = .returned (.int .i64 v) ∧ 0 ≤ v ∧ v ≤ 255) ∧ w = w' := by
  obtain ⟨k, rfl⟩ : ∃ k : Nat, i = k := ⟨i.toNat, by omega⟩
  by_cases hlt : k < n
  · obtain ⟨ad, rfl, hbl, v, v1, v2, hv⟩ := hr.at_ hlt
    go_enter Tryz.func10, Tryz.ntmps10
    go_wp2
    go_ret
    exact ⟨⟨v, rfl, v1, v2⟩, rfl⟩
  · go_enter Tryz.func10, Tryz.ntmps10
    go_wp2
    go_ret
    exact ⟨⟨_, rfl, by omega, by omega⟩, rfl⟩
set_option maxHeartbeats 400000 in
theorem ints_any (A A' : Option Addr) (c c' : Nat) (xs ys : List Int) (w : World) (hx : Rd w w.heap.size A xs) (hy : Rd w w.heap.size A' ys) (hn : xs.length ≤ 9223372036854775807) :
    Calls Tryz.prog 16 #[.slice A xs.length c, .slice A' ys.length c'] w fun e w' => e = .returned (.bool (eqB xs ys)) ∧ Below w.heap.size w w' := by
  by_cases hl : xs.length = ys.length
  · have hl1 : xs.length ≤ ys.length := by omega
    have hl2 : ys.length ≤ xs.length := by omega
    have hd : (((xs.length : Nat) : Int) != ((ys.length : Nat) : Int)) = false := by simp; omega
    have Hl := Lib.hid hl
    clear hl
    go_enter Tryz.func16, Tryz.ntmps16
    go_wp2
    go_loopw [13] (fun i wr => ∃ k : Nat, k ≤ xs.length ∧ i = .int .i64 k ∧ EqTo xs ys k ∧ Below w.heap.size w wr) (fun i _ => xs.length - (intOf i).toNat)
    case atStart => exact ⟨0, by omega, rfl, by simp [EqTo], Below.refl _ _⟩
    case round =>
      obtain ⟨k, hk, rfl, he, hb⟩ := hrel
      by_cases hlt : k < xs.length
      · obtain ⟨ad, rfl, hbl, hcell⟩ := hx.at_ hlt
        obtain ⟨ad', rfl, hbl', hcell'⟩ := hy.at_ (k := k) (by omega)
        have hc1 : wr.cell? (ad.add k) = some (.int .i64 (xs.getD k 0)) := (hb.cell (by rw [block_add]; exact hbl)).trans (hcell k hlt)
        have hc2 : wr.cell? (ad'.add k) = some (.int .i64 (ys.getD k 0)) := (hb.cell (by rw [block_add]; exact hbl')).trans (hcell' k (by omega))
        have hlt' : k < ys.length := by omega
        clear hx hy hcell hcell'
        go_wp2
        go_quiet (fail)
        go_wp2
        · go_ret
          have hne : (xs[k] != ys[k]) = true := by assumption
          exact ⟨ret_bool (eqB_ne_at hlt hlt' (by simpa using hne)).symm, below_drewN' hb _⟩
        · have heq : (xs[k] != ys[k]) = false := by assumption
          go_roundw
          case rel => exact ⟨k + 1, by omega, by go_num, eqTo_step he hlt hlt' (by simpa using heq), below_drewN' hb _⟩
          case measure => simp [intOf]; omega
      · go_wp2
        go_ret
        obtain rfl : k = xs.length := by omega
        exact ⟨ret_bool (eqTo_all he Hl.out).symm, hb⟩
  · have hd : (((xs.length : Nat) : Int) != ((ys.length : Nat) : Int)) = true := by simp; omega
    go_enter Tryz.func16, Tryz.ntmps16
    go_wp2
    go_ret
    exact ⟨ret_bool (eqB_ne_len hl).symm, Below.refl _ _⟩
end Go.Proofs.YtgkijkenbjjnmaaGreatDoor

/- Contracts of the bytes made anew, and of what is drawn for an accumulator. -/
namespace Go.Proofs.YtgkijkenbjjnmaaGreatDoor
open Go.RowKit
set_option linter.unusedVariables false
set_option linter.unusedSimpArgs false
def OwnB (w : World) (B : Nat) (A : Option Addr) (c n : Nat) : Prop := ∃ vs, w.ownsRow B 5 1 (.slice A n c) n vs ∧ ∀ u ∈ vs, ∃ v : Int, 0 ≤ v ∧ v ≤ 255 ∧ u = .int .u8 v
theorem ownB_rd {w : World} {B c n : Nat} {A : Option Addr} (h : OwnB w B A c n) : RdB w w.heap.size A n := fun h0 => by
  obtain ⟨vs, h1, h2⟩ := h
  have hl : vs.length = n := by have := h1.1; omega
  rcases h1.2 with ⟨hv, hn⟩ | ⟨g, cap, cur, hv, hb, hh, _⟩
  · omega
  · injection hv with e1 e2 e3
    subst e1
    refine ⟨_, rfl, (Array.getElem?_eq_some_iff.1 hh).1, fun j hj => ?_⟩
    obtain ⟨v, v1, v2, e⟩ := h2 vs[j] (List.getElem_mem (by omega))
    exact ⟨v, v1, v2, World.ownsRow.cells h1 rfl j _ (by rw [List.getElem?_eq_getElem (by omega), e])⟩
theorem ownB_lo {w : World} {B c n : Nat} {A : Option Addr} (h : OwnB w B A c n) : Lo A B := fun a e => by
  obtain ⟨vs, h1, _⟩ := h
  subst e
  exact (World.ownsRow.lt h1 _ rfl).1
theorem byteInfo : (Tryz.prog.info? 5).map (fun i => (i.zero, i.size, i.bytes)) = some (some (.int .u8 0), 1, 1) := by kernel_rfl
theorem ownB_one (w : World) (B : Nat) (x : Int) (hB : B ≤ w.heap.size) (x1 : 0 ≤ x) (x2 : x ≤ 255) : OwnB (w.alloc (.cells #[.int .u8 x] 5)) B (some ⟨w.heap.size, 0, none⟩) 1 1 :=
  ⟨[.int .u8 x], World.ownsRow_lit (base := B) (e := 5) (size := 1) w #[.int .u8 x] 1 hB (by simp [maxLen]) rfl, fun u hu => ⟨x, x1, x2, by simpa using hu⟩⟩
theorem appB_new {w : World} {ops : Array Oper} {rest : List Oper} {o : Oper} {a : Act} {Q : Exit → Act → World → Prop} (hgd : o.guard = none) (s x : Operand)
    (ho : o.op = .call { callee := .builtin .append, args := #[s, x], argTypes := #[22, 22] })
    (B : Nat) (A : Option Addr) (c n : Nat) (v : Int) (hs : a.eval s = .slice A n c) (hown : OwnB w B A c n) (hx : a.eval x = .slice (some ⟨w.heap.size, 0, none⟩) 1 1)
    (hn : n ≤ 1099511627776) (hB : B ≤ w.heap.size) (v1 : 0 ≤ v) (v2 : v ≤ 255)
    (h : ∀ A' c' w', OwnB w' B A' c' (n + 1) → Wrote w w' A → wpList Tryz.prog ops Q rest (a.put o.dst (.slice A' (n + 1) c')) w') :
    wpList Tryz.prog ops Q (o :: rest) a (w.alloc (.cells #[.int .u8 v] 5)) := by
  obtain ⟨vs, h1, hb⟩ := hown
  obtain ⟨i0, hi, hz0, hz1, hz2⟩ := info_parts byteInfo
  have hA : w.grownBy (w.alloc (.cells #[.int .u8 v] 5)) (row A) := World.grownBy_alloc w _ _
  have hown' := World.ownsRow.alloc h1 (.cells #[.int .u8 v] 5)
  refine wpList_append_own_at _ hgd s x 22 ho B 5 i0 (.int .u8 0) 1 1 Tryz.underlying22 hi hz0 hz1 hz2 rfl (by decide) _ n vs hs hown' ⟨w.heap.size, 0, none⟩ 1 1 [.int .u8 v] hx rfl (cell_one_new _ _ _) (by simp [Value.oneCell']) (by simp only [maxLen]; omega) (by omega) (by simp; omega) ?_
  intro v' w' k1 k2 _ k3
  have e : (Value.slice A n c).ownBlock = row A := by cases A <;> rfl
  rw [e] at k2
  have hv : ∃ A' c', v' = .slice A' (n + 1) c' := by
    rcases k1.2 with ⟨rfl, h0⟩ | ⟨g, cap, cur, rfl, _⟩
    · omega
    · exact ⟨_, _, rfl⟩
  obtain ⟨A', c', rfl⟩ := hv
  refine h A' c' w' ⟨_, k1, fun u hu => ?_⟩ (hA.trans k2)
  rw [List.mem_append] at hu
  rcases hu with hu | hu
  · exact hb u hu
  · exact ⟨v, v1, v2, by simpa using hu⟩
def RetBy (w : World) (e : Ending) (w' : World) : Prop := ∃ A c n, e = .returned (.slice A n c) ∧ n ≤ 601 ∧ RdB w' w'.heap.size A n ∧ Below w.heap.size w w'
set_option maxRecDepth 100000 in
set_option maxHeartbeats 800000 in
theorem fresh_any (A : Option Addr) (c n : Nat) (s : Int) (w : World) (hr : RdB w w.heap.size A n) (hn : n ≤ 4294967296) (s1 : 0 ≤ s) (s2 : s ≤ 255) : Calls Tryz.prog 9 #[.slice A n c, .int .i64 s] w (RetBy w) := by
  go_enter Tryz.func9, Tryz.ntmps9
  go_wp2
  go_loopw [5, 6] (fun q i wr => ∃ (k : Nat) (Aq : Option Addr) (cq : Nat), k ≤ n ∧ k ≤ 600 ∧ i = .int .i64 k ∧ q = .slice Aq (k + 1) cq ∧ Hid (OwnB wr w.heap.size Aq cq (k + 1)) ∧ Below w.heap.size w wr) (fun _ i _ => n - (intOf i).toNat)
  case atStart => exact ⟨0, _, 1, by omega, by omega, rfl, rfl, ownB_one w _ _ (Nat.le_refl _) (by omega) (by omega), (Below.refl _ _).alloc (Nat.le_refl _) _⟩
  case round =>
    obtain ⟨k, Aq, cq, hk, hk2, rfl, rfl, hO, hb⟩ := hrel
    by_cases hlt : k < n
    · by_cases hlt2 : k < 600
      · obtain ⟨ad, rfl, hbl, v, v1, v2, hv⟩ := hr.at_ hlt
        have hc1 : wr.cell? (ad.add k) = some (.int .u8 v) := (hb.cell (by rw [block_add]; exact hbl)).trans hv
        have b1 : 0 ≤ s * ((k : Int) % 7 + 1) ∧ s * ((k : Int) % 7 + 1) ≤ 1785 := by
          have h1 : 0 ≤ (k : Int) % 7 + 1 ∧ (k : Int) % 7 + 1 ≤ 7 := by omega
          have h2 := Int.mul_nonneg s1 h1.1
          have h3 := Int.mul_le_mul s2 h1.2 h1.1 (by omega)
          omega
        go_wp2_with (at_builtin; refine appB_new rfl (.tmp 20) (.tmp 34) rfl w.heap.size Aq cq (k + 1) _ rfl hO.out rfl (by omega) hb.size ?_ ?_ ?_)
        · omega
        · omega
        intro A1 c1 w1 O1 hw1
        have hb1 := hb.trans (below_wrote hw1 hb.size (ownB_lo hO.out))
        have OO1 := Lib.hid O1
        clear O1 hw1
        go_wp2
        go_roundw
        case rel => exact ⟨k + 1, A1, c1, by omega, by omega, by go_num, rfl, OO1.out, hb1⟩
        case measure => simp [intOf]; omega
      · have hlt3 : decide ((k : Int) < 600) = false := by simp; omega
        go_wp2
        go_ret
        exact ⟨Aq, cq, k + 1, rfl, by omega, ownB_rd hO.out, hb⟩
    · have hlt3 : decide ((k : Int) < n) = false := by simp; omega
      go_wp2
      go_ret
      exact ⟨Aq, cq, k + 1, rfl, by omega, ownB_rd hO.out, hb⟩
def RetGen (P : List Int → Prop) (g : Nat) (w : World) (e : Ending) (w' : World) : Prop := ∃ A c xs, e = .returned (.slice A (xs : List Int).length c) ∧ P xs ∧ Own w' w.heap.size A c xs ∧ Cur w' g ∧ w.grownBy w' (some g)
def Small (most size : Int) (xs : List Int) : Prop := xs.length ≤ most ∧ ∀ x ∈ xs, -size ≤ x ∧ x ≤ size
theorem small_snoc {most size : Int} {xs : List Int} {x : Int} (h : Small (most - 1) size xs) (h1 : -size ≤ x) (h2 : x ≤ size) : Small most size (xs ++ [x]) := by
  refine ⟨?_, fun y hy => ?_⟩
  · have := h.1
    rw [List.length_append]
    simp
    omega
  · rw [List.mem_append] at hy
    rcases hy with hy | hy
    · exact h.2 y hy
    · simp at hy; subst hy; exact ⟨h1, h2⟩
theorem small_more {a b size : Int} {xs : List Int} (h : Small a size xs) (hab : a ≤ b) : Small b size xs := ⟨by have := h.1; omega, h.2⟩
set_option maxRecDepth 100000 in
set_option maxHeartbeats 800000 in
theorem l1Small_any (g : Nat) (most size : Int) (w : World) (hc : Cur w g) (m0 : 0 ≤ most) (m1 : most ≤ 1000) (s0 : 0 ≤ size) (s1 : size ≤ 1000000000) : Calls Tryz.prog 41 #[.pointer (some ⟨g, 0, none⟩), .int .i64 most, .int .i64 size] w (RetGen (Small most size) g w) := by
  have hgl := hc.lt
  have hb0 : Below w.heap.size w (w.alloc (.cells #[] 3)) := (Below.refl _ _).alloc (Nat.le_refl _) _
  have O0 := own_empty w w.heap.size (Nat.le_refl _)
  have C0 := hc.past hb0
  have T0 := turn_below hb0 (some g)
  clear hb0 hc
  go_enter Tryz.func41, Tryz.ntmps41
  go_wp2_with fail
  refine (l01Below_any g _ _ C0 (by omega) (by omega)).mono ?_; rintro e w1 ⟨v, rfl, v1, v2, C1, T1⟩
  obtain ⟨j, rfl⟩ : ∃ j : Nat, v = j := ⟨v.toNat, by omega⟩
  have O1 := Lib.hid (own_turn O0 T1 hgl)
  have TT := Lib.hid (T0.trans T1)
  clear O0 C0 T0 T1
  go_wp2_with fail
  go_loopw [7, 8] (fun q i wr => ∃ (k : Nat) (Aq : Option Addr) (cq : Nat) (xs : List Int), i = .int .i64 k ∧ (k : Int) ≤ most ∧ q = .slice Aq xs.length cq ∧ Hid (Small (most - k) size xs) ∧ Hid (Own wr w.heap.size Aq cq xs) ∧ Hid (Cur wr g) ∧ Hid (w.grownBy wr (some g))) (fun _ i _ => (intOf i).toNat)
  case atStart => exact ⟨j, _, 0, [], rfl, by omega, rfl, ⟨by simp; omega, by simp⟩, O1.out, C1, TT.out⟩
  case round =>
    clear O1 TT C1
    obtain ⟨k, Aq, cq, xs, rfl, hk, rfl, hS, hO, hC, hT⟩ := hrel
    by_cases hlt : 0 < k
    · have hxl : xs.length ≤ 1000 := by have := hS.out.1; omega
      go_wp2_with fail
      refine (l01Below_any g _ _ hC.out (by omega) (by omega)).mono ?_; rintro e w2 ⟨v, rfl, v1, v2, C2, T2⟩
      have O2 := own_turn hO.out T2 hgl
      have T2' := hT.out.trans T2
      clear hT T2 hO
      go_wp2_with (at_builtin; refine app_new rfl (.tmp 18) (.tmp 26) rfl w.heap.size Aq cq xs.length xs _ rfl rfl O2 rfl (by omega) T2'.size ?_)
      intro A3 c3 w3 O3 hw3 mv3
      have C3 := Lib.hid (C2.wrote hw3 (own_lo O2) hgl)
      have T3 := Lib.hid (turn_new T2' hw3 (own_lo O2))
      have S3 := Lib.hid (small_snoc (small_more hS.out (show most - k ≤ most - ((k - 1 : Nat) : Int) - 1 by omega)) (show -size ≤ v - size by omega) (show v - size ≤ size by omega))
      have OO3 := Lib.hid O3
      have hl3 : Hid ((xs ++ [v - size]).length = xs.length + 1) := by simp [Hid]
      clear O3 hw3 mv3 O2 T2' C2
      go_wp2
      go_roundw
      case rel => exact ⟨k - 1, A3, c3, xs ++ [v - size], by go_num, by omega, by rw [hl3.out], S3.out, OO3.out, C3.out, T3.out⟩
      case measure => simp [intOf]; omega
    · obtain rfl : k = 0 := by omega
      go_wp2
      go_ret
      exact ⟨Aq, cq, xs, rfl, by simpa using hS.out, hO.out, hC.out, hT.out⟩
end Go.Proofs.YtgkijkenbjjnmaaGreatDoor

/- Contracts of MakeSequence, MakeAccumulator, MakeRests and MakeInputs. -/
namespace Go.Proofs.YtgkijkenbjjnmaaGreatDoor
open Go.RowKit
set_option linter.unusedVariables false
set_option linter.unusedSimpArgs false
def RetP (P : List Int → Prop) (w : World) (e : Ending) (w' : World) : Prop := ∃ A c xs, e = .returned (.slice A (xs : List Int).length c) ∧ P xs ∧ Own w' w.heap.size A c xs ∧ Below w.heap.size w w'
set_option maxRecDepth 100000 in
theorem MakeSequence_any (A : Option Addr) (c n : Nat) (most size : Int) (w : World) (hr : RdB w w.heap.size A n) (hn : n ≤ 4294967296) (m0 : 0 ≤ most) (m1 : most ≤ 300) (s0 : 0 ≤ size) (s1 : size ≤ 1000000) :
    Calls Tryz.prog 8 #[.slice A n c, .int .i64 most, .int .i64 size] w (RetP (Small most size) w) := by
  go_enter Tryz.func8, Tryz.ntmps8
  go_wp2_with fail
  refine (l01New_any _ _ _ _ hr hn).mono ?_; rintro e w1 ⟨g, rfl, hg, C1, h1⟩
  have hs := h1.size
  go_wp2_with fail
  all_goals
    refine (l1Small_any g _ _ _ C1 (by omega) (by omega) (by omega) (by omega)).mono ?_; rintro e w2 ⟨A2, c2, xs, rfl, hS, O2, C2, T2⟩
    have hB := turn_past h1 T2 h1.size hg
    have hS' : Hid (Small most size xs) := by
      refine ⟨?_, fun x hx => ?_⟩
      · have := hS.1; omega
      · have := hS.2 x hx; omega
    clear hS
    go_wp2_with fail
    go_ret
    exact ⟨A2, c2, xs, rfl, hS'.out, own_mono O2 hs, hB⟩
def RetAcc (w : World) (e : Ending) (w' : World) : Prop := ∃ (o : Nat) (m : Int), e = .returned (.agg #[.int .i64 o, .int .i64 m]) ∧ 1 ≤ o ∧ o ≤ 4 ∧ 2 ≤ m ∧ m ≤ 61 ∧ Below w.heap.size w w'
theorem rests_snoc {m : Int} {xs : List Int} {x : Int} (h : Rests m xs) (h1 : 0 ≤ x) (h2 : x < m) : Rests m (xs ++ [x]) := fun y hy => by
  rw [List.mem_append] at hy
  rcases hy with hy | hy
  · exact h y hy
  · simp at hy; subst hy; exact ⟨h1, h2⟩
end Go.Proofs.YtgkijkenbjjnmaaGreatDoor
