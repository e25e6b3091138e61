/- Contracts of the bytes made anew, and of what is drawn for an accumulator. -/
import Derived.Test.YtfplecbacgcjgaaGen2
import Derived.Test.YtfplecbacgcjgaaPStep
namespace Go.Proofs.Ytfplecbacgcjgaa
open Go.RowKit
set_option linter.unusedVariables false
set_option linter.unusedSimpArgs false
def OwnB (w : World) (B : Nat) (A : Option Addr) (c n : Nat) : Prop := ∃ vs, w.ownsRow B 5 1 (.slice A n c) n vs ∧ ∀ u ∈ vs, ∃ v : Int, 0 ≤ v ∧ v ≤ 255 ∧ u = .int .u8 v
theorem ownB_rd {w : World} {B c n : Nat} {A : Option Addr} (h : OwnB w B A c n) : RdB w w.heap.size A n := fun h0 => by
  obtain ⟨vs, h1, h2⟩ := h
  have hl : vs.length = n := by have := h1.1; omega
  rcases h1.2 with ⟨hv, hn⟩ | ⟨g, cap, cur, hv, hb, hh, _⟩
  · omega
  · injection hv with e1 e2 e3
    subst e1
    refine ⟨_, rfl, (Array.getElem?_eq_some_iff.1 hh).1, fun j hj => ?_⟩
    obtain ⟨v, v1, v2, e⟩ := h2 vs[j] (List.getElem_mem (by omega))
    exact ⟨v, v1, v2, World.ownsRow.cells h1 rfl j _ (by rw [List.getElem?_eq_getElem (by omega), e])⟩
theorem ownB_lo {w : World} {B c n : Nat} {A : Option Addr} (h : OwnB w B A c n) : Lo A B := fun a e => by
  obtain ⟨vs, h1, _⟩ := h
  subst e
  exact (World.ownsRow.lt h1 _ rfl).1
theorem byteInfo : (Try.prog.info? 5).map (fun i => (i.zero, i.size, i.bytes)) = some (some (.int .u8 0), 1, 1) := by kernel_rfl
theorem ownB_one (w : World) (B : Nat) (x : Int) (hB : B ≤ w.heap.size) (x1 : 0 ≤ x) (x2 : x ≤ 255) : OwnB (w.alloc (.cells #[.int .u8 x] 5)) B (some ⟨w.heap.size, 0, none⟩) 1 1 :=
  ⟨[.int .u8 x], World.ownsRow_lit (base := B) (e := 5) (size := 1) w #[.int .u8 x] 1 hB (by simp [maxLen]) rfl, fun u hu => ⟨x, x1, x2, by simpa using hu⟩⟩
theorem appB_new {w : World} {ops : Array Oper} {rest : List Oper} {o : Oper} {a : Act} {Q : Exit → Act → World → Prop} (hgd : o.guard = none) (s x : Operand)
    (ho : o.op = .call { callee := .builtin .append, args := #[s, x], argTypes := #[22, 22] })
    (B : Nat) (A : Option Addr) (c n : Nat) (v : Int) (hs : a.eval s = .slice A n c) (hown : OwnB w B A c n) (hx : a.eval x = .slice (some ⟨w.heap.size, 0, none⟩) 1 1)
    (hn : n ≤ 1099511627776) (hB : B ≤ w.heap.size) (v1 : 0 ≤ v) (v2 : v ≤ 255)
    (h : ∀ A' c' w', OwnB w' B A' c' (n + 1) → Wrote w w' A → wpList Try.prog ops Q rest (a.put o.dst (.slice A' (n + 1) c')) w') :
    wpList Try.prog ops Q (o :: rest) a (w.alloc (.cells #[.int .u8 v] 5)) := by
  obtain ⟨vs, h1, hb⟩ := hown
  obtain ⟨i0, hi, hz0, hz1, hz2⟩ := info_parts byteInfo
  have hA : w.grownBy (w.alloc (.cells #[.int .u8 v] 5)) (row A) := World.grownBy_alloc w _ _
  have hown' := World.ownsRow.alloc h1 (.cells #[.int .u8 v] 5)
  refine wpList_append_own_at _ hgd s x 22 ho B 5 i0 (.int .u8 0) 1 1 Try.underlying22 hi hz0 hz1 hz2 rfl (by decide) _ n vs hs hown' ⟨w.heap.size, 0, none⟩ 1 1 [.int .u8 v] hx rfl (cell_one_new _ _ _) (by simp [Value.oneCell']) (by simp only [maxLen]; omega) (by omega) (by simp; omega) ?_
  intro v' w' k1 k2 _ k3
  have e : (Value.slice A n c).ownBlock = row A := by cases A <;> rfl
  rw [e] at k2
  have hv : ∃ A' c', v' = .slice A' (n + 1) c' := by
    rcases k1.2 with ⟨rfl, h0⟩ | ⟨g, cap, cur, rfl, _⟩
    · omega
    · exact ⟨_, _, rfl⟩
  obtain ⟨A', c', rfl⟩ := hv
  refine h A' c' w' ⟨_, k1, fun u hu => ?_⟩ (hA.trans k2)
  rw [List.mem_append] at hu
  rcases hu with hu | hu
  · exact hb u hu
  · exact ⟨v, v1, v2, by simpa using hu⟩
def RetBy (w : World) (e : Ending) (w' : World) : Prop := ∃ A c n, e = .returned (.slice A n c) ∧ n ≤ 601 ∧ RdB w' w'.heap.size A n ∧ Below w.heap.size w w'
set_option maxRecDepth 100000 in
set_option maxHeartbeats 800000 in
theorem fresh_any (A : Option Addr) (c n : Nat) (s : Int) (w : World) (hr : RdB w w.heap.size A n) (hn : n ≤ 4294967296) (s1 : 0 ≤ s) (s2 : s ≤ 255) : Calls Try.prog 18 #[.slice A n c, .int .i64 s] w (RetBy w) := by
  go_enter Try.func18, Try.ntmps18
  go_wp2
  go_loopw [5, 6] (fun q i wr => ∃ (k : Nat) (Aq : Option Addr) (cq : Nat), k ≤ n ∧ k ≤ 600 ∧ i = .int .i64 k ∧ q = .slice Aq (k + 1) cq ∧ Hid (OwnB wr w.heap.size Aq cq (k + 1)) ∧ Below w.heap.size w wr) (fun _ i _ => n - (intOf i).toNat)
  case atStart => exact ⟨0, _, 1, by omega, by omega, rfl, rfl, ownB_one w _ _ (Nat.le_refl _) (by omega) (by omega), (Below.refl _ _).alloc (Nat.le_refl _) _⟩
  case round =>
    obtain ⟨k, Aq, cq, hk, hk2, rfl, rfl, hO, hb⟩ := hrel
    by_cases hlt : k < n
    · by_cases hlt2 : k < 600
      · obtain ⟨ad, rfl, hbl, v, v1, v2, hv⟩ := hr.at_ hlt
        have hc1 : wr.cell? (ad.add k) = some (.int .u8 v) := (hb.cell (by rw [block_add]; exact hbl)).trans hv
        have b1 : 0 ≤ s * ((k : Int) % 7 + 1) ∧ s * ((k : Int) % 7 + 1) ≤ 1785 := by
          have h1 : 0 ≤ (k : Int) % 7 + 1 ∧ (k : Int) % 7 + 1 ≤ 7 := by omega
          have h2 := Int.mul_nonneg s1 h1.1
          have h3 := Int.mul_le_mul s2 h1.2 h1.1 (by omega)
          omega
        go_wp2_with (at_builtin; refine appB_new rfl (.tmp 20) (.tmp 34) rfl w.heap.size Aq cq (k + 1) _ rfl hO.out rfl (by omega) hb.size ?_ ?_ ?_)
        · omega
        · omega
        intro A1 c1 w1 O1 hw1
        have hb1 := hb.trans (below_wrote hw1 hb.size (ownB_lo hO.out))
        have OO1 := Lib.hid O1
        clear O1 hw1
        go_wp2
        go_roundw
        case rel => exact ⟨k + 1, A1, c1, by omega, by omega, by go_num, rfl, OO1.out, hb1⟩
        case measure => simp [intOf]; omega
      · have hlt3 : decide ((k : Int) < 600) = false := by simp; omega
        go_wp2
        go_ret
        exact ⟨Aq, cq, k + 1, rfl, by omega, ownB_rd hO.out, hb⟩
    · have hlt3 : decide ((k : Int) < n) = false := by simp; omega
      go_wp2
      go_ret
      exact ⟨Aq, cq, k + 1, rfl, by omega, ownB_rd hO.out, hb⟩
def RetGen (P : List Int → Prop) (g : Nat) (w : World) (e : Ending) (w' : World) : Prop := ∃ A c xs, e = .returned (.slice A (xs : List Int).length c) ∧ P xs ∧ Own w' w.heap.size A c xs ∧ Cur w' g ∧ w.grownBy w' (some g)
def Small (most size : Int) (xs : List Int) : Prop := xs.length ≤ most ∧ ∀ x ∈ xs, -size ≤ x ∧ x ≤ size
theorem small_snoc {most size : Int} {xs : List Int} {x : Int} (h : Small (most - 1) size xs) (h1 : -size ≤ x) (h2 : x ≤ size) : Small most size (xs ++ [x]) := by
  refine ⟨?_, fun y hy => ?_⟩
  · have := h.1
    rw [List.length_append]
    simp
    omega
  · rw [List.mem_append] at hy
    rcases hy with hy | hy
    · exact h.2 y hy
    · simp at hy; subst hy; exact ⟨h1, h2⟩
theorem small_more {a b size : Int} {xs : List Int} (h : Small a size xs) (hab : a ≤ b) : Small b size xs := ⟨by have := h.1; omega, h.2⟩
set_option maxRecDepth 100000 in
set_option maxHeartbeats 800000 in
theorem l1Small_any (g : Nat) (most size : Int) (w : World) (hc : Cur w g) (m0 : 0 ≤ most) (m1 : most ≤ 1000) (s0 : 0 ≤ size) (s1 : size ≤ 1000000000) : Calls Try.prog 54 #[.pointer (some ⟨g, 0, none⟩), .int .i64 most, .int .i64 size] w (RetGen (Small most size) g w) := by
  have hgl := hc.lt
  have hb0 : Below w.heap.size w (w.alloc (.cells #[] 3)) := (Below.refl _ _).alloc (Nat.le_refl _) _
  have O0 := own_empty w w.heap.size (Nat.le_refl _)
  have C0 := hc.past hb0
  have T0 := turn_below hb0 (some g)
  clear hb0 hc
  go_enter Try.func54, Try.ntmps54
  go_wp2_with fail
  refine (l01Below_any g _ _ C0 (by omega) (by omega)).mono ?_; rintro e w1 ⟨v, rfl, v1, v2, C1, T1⟩
  obtain ⟨j, rfl⟩ : ∃ j : Nat, v = j := ⟨v.toNat, by omega⟩
  have O1 := Lib.hid (own_turn O0 T1 hgl)
  have TT := Lib.hid (T0.trans T1)
  clear O0 C0 T0 T1
  go_wp2_with fail
  go_loopw [7, 8] (fun q i wr => ∃ (k : Nat) (Aq : Option Addr) (cq : Nat) (xs : List Int), i = .int .i64 k ∧ (k : Int) ≤ most ∧ q = .slice Aq xs.length cq ∧ Hid (Small (most - k) size xs) ∧ Hid (Own wr w.heap.size Aq cq xs) ∧ Hid (Cur wr g) ∧ Hid (w.grownBy wr (some g))) (fun _ i _ => (intOf i).toNat)
  case atStart => exact ⟨j, _, 0, [], rfl, by omega, rfl, ⟨by simp; omega, by simp⟩, O1.out, C1, TT.out⟩
  case round =>
    clear O1 TT C1
    obtain ⟨k, Aq, cq, xs, rfl, hk, rfl, hS, hO, hC, hT⟩ := hrel
    by_cases hlt : 0 < k
    · have hxl : xs.length ≤ 1000 := by have := hS.out.1; omega
      go_wp2_with fail
      refine (l01Below_any g _ _ hC.out (by omega) (by omega)).mono ?_; rintro e w2 ⟨v, rfl, v1, v2, C2, T2⟩
      have O2 := own_turn hO.out T2 hgl
      have T2' := hT.out.trans T2
      clear hT T2 hO
      go_wp2_with (at_builtin; refine app_new rfl (.tmp 18) (.tmp 26) rfl w.heap.size Aq cq xs.length xs _ rfl rfl O2 rfl (by omega) T2'.size ?_)
      intro A3 c3 w3 O3 hw3 mv3
      have C3 := Lib.hid (C2.wrote hw3 (own_lo O2) hgl)
      have T3 := Lib.hid (turn_new T2' hw3 (own_lo O2))
      have S3 := Lib.hid (small_snoc (small_more hS.out (show most - k ≤ most - ((k - 1 : Nat) : Int) - 1 by omega)) (show -size ≤ v - size by omega) (show v - size ≤ size by omega))
      have OO3 := Lib.hid O3
      have hl3 : Hid ((xs ++ [v - size]).length = xs.length + 1) := by simp [Hid]
      clear O3 hw3 mv3 O2 T2' C2
      go_wp2
      go_roundw
      case rel => exact ⟨k - 1, A3, c3, xs ++ [v - size], by go_num, by omega, by rw [hl3.out], S3.out, OO3.out, C3.out, T3.out⟩
      case measure => simp [intOf]; omega
    · obtain rfl : k = 0 := by omega
      go_wp2
      go_ret
      exact ⟨Aq, cq, xs, rfl, by simpa using hS.out, hO.out, hC.out, hT.out⟩
end Go.Proofs.Ytfplecbacgcjgaa
