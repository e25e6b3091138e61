/- The memory of a comb that runs: its boxes, its sums, its delays and what it has given, all apart; and how each store keeps it. -/
import Derived.Test.YtfplecbacgcjgaaCutCS
import Derived.Test.YtfplecbacgcjgaaPCmb
import Derived.Test.YtfplecbacgcjgaaBase
import Derived.Test.YtfplecbacgcjgaaMatRun
namespace Go.Proofs.Ytfplecbacgcjgaa
open Go.RowKit
set_option linter.unusedVariables false
set_option linter.unusedSimpArgs false
def mixS (k : Int) (S : List Int) (v : Int) (j : Nat) : List Int := lst S.length fun i => if i < j then chS k S v (i + 1) else S.getD i 0
def mixD (k : Int) (D : List Int) (v : Int) (j : Nat) : List Int := lst D.length fun i => if i < j then chD k D v i else D.getD i 0
theorem mixS_length (k : Int) (S : List Int) (v : Int) (j : Nat) : (mixS k S v j).length = S.length := lst_length _ _
theorem mixD_length (k : Int) (D : List Int) (v : Int) (j : Nat) : (mixD k D v j).length = D.length := lst_length _ _
theorem mixS_zero (k : Int) (S : List Int) (v : Int) : mixS k S v 0 = S := (eq_lst rfl fun i hi => by rw [if_neg (by omega), getD_at hi]).symm
theorem mixD_zero (k : Int) (D : List Int) (v : Int) : mixD k D v 0 = D := (eq_lst rfl fun i hi => by rw [if_neg (by omega), getD_at hi]).symm
theorem mixS_end (k : Int) (S : List Int) (v : Int) : mixS k S v S.length = sumsN k S v := lst_congr fun i hi => if_pos hi
theorem mixD_end (k : Int) (D : List Int) (v : Int) : mixD k D v D.length = delsN k D v := lst_congr fun i hi => if_pos hi
theorem mixS_at {k : Int} {S : List Int} {v : Int} {j : Nat} (h : j < S.length) : (mixS k S v j).getD j 0 = S.getD j 0 := by
  unfold mixS; rw [lst_getD _ h, if_neg (by omega)]
theorem mixD_at {k : Int} {D : List Int} {v : Int} {j : Nat} (h : j < D.length) : (mixD k D v j).getD j 0 = D.getD j 0 := by
  unfold mixD; rw [lst_getD _ h, if_neg (by omega)]
theorem mixS_step {k : Int} {S : List Int} {v : Int} {j : Nat} (h : j < S.length) : (mixS k S v j).set j (chS k S v (j + 1)) = mixS k S v (j + 1) := by
  refine eq_lst (by rw [List.length_set, mixS_length]) fun i hi => ?_
  rw [List.length_set, mixS_length] at hi
  rw [List.getElem_set]
  by_cases hij : j = i
  · subst hij; rw [if_pos rfl, if_pos (by omega)]
  · rw [if_neg hij]
    unfold mixS
    rw [lst_get]
    by_cases hlt : i < j
    · rw [if_pos hlt, if_pos (by omega)]
    · rw [if_neg hlt, if_neg (by omega)]
theorem mixD_step {k : Int} {D : List Int} {v : Int} {j : Nat} (h : j < D.length) : (mixD k D v j).set j (chD k D v j) = mixD k D v (j + 1) := by
  refine eq_lst (by rw [List.length_set, mixD_length]) fun i hi => ?_
  rw [List.length_set, mixD_length] at hi
  rw [List.getElem_set]
  by_cases hij : j = i
  · subst hij; rw [if_pos rfl, if_pos (by omega)]
  · rw [if_neg hij]
    unfold mixD
    rw [lst_get]
    by_cases hlt : i < j
    · rw [if_pos hlt, if_pos (by omega)]
    · rw [if_neg hlt, if_neg (by omega)]
theorem wrapW_big2 {a k : Int} (hk : 2 ≤ k) (hk2 : k ≤ 62) : -2305843009213693952 ≤ wrapW a k ∧ wrapW a k ≤ 2305843009213693952 := by
  have h := wrapW_lo a k hk
  have h1 := two_pow_62 k.toNat (by omega)
  have h2 := two_pow_half k.toNat (by omega)
  omega
theorem word_bd {k : Int} (hk : 2 ≤ k) (hk2 : k ≤ 62) {v : Int} (h : wrapW v k = v) : -2305843009213693952 ≤ v ∧ v ≤ 2305843009213693952 := by
  rw [← h]; exact wrapW_big2 hk hk2
theorem chS_bd {k : Int} (hk : 2 ≤ k) (hk2 : k ≤ 62) {S : List Int} {v : Int} (hv : -2305843009213693952 ≤ v ∧ v ≤ 2305843009213693952) : ∀ j, -2305843009213693952 ≤ chS k S v j ∧ chS k S v j ≤ 2305843009213693952
  | 0 => hv
  | j + 1 => wrapW_big2 hk hk2
theorem chD_bd {k : Int} (hk : 2 ≤ k) (hk2 : k ≤ 62) {D : List Int} {v : Int} (hv : -2305843009213693952 ≤ v ∧ v ≤ 2305843009213693952) : ∀ j, -2305843009213693952 ≤ chD k D v j ∧ chD k D v j ≤ 2305843009213693952
  | 0 => hv
  | j + 1 => wrapW_big2 hk hk2
structure CM (w wr : World) (o r k : Int) (gs n : Nat) (A1 : Option Addr) (c1 : Nat) (A2 : Option Addr) (c2 : Nat) (A9 : Option Addr) (c9 : Nat) (t : CS) (ys : List Int) : Prop where
  hb : Below w.heap.size w wr
  bc : Blk wr w.heap.size 24 #[.int .i64 o, .int .i64 r, .int .i64 k]
  bs : Blk wr gs 35 #[.slice A1 n c1, .slice A2 n c2, .int .i64 t.phase]
  br : Blk wr (w.heap.size + 1 + 1) 35 #[.slice none 0 0, .slice none 0 0, .int .i64 0]
  l1 : t.sums.length = n
  l2 : t.delays.length = n
  o1 : Own wr (w.heap.size + 1 + 1 + 1) A1 c1 t.sums
  o2 : Own wr (w.heap.size + 1 + 1 + 1) A2 c2 t.delays
  o9 : Own wr (w.heap.size + 1 + 1 + 1) A9 c9 ys
  p12 : Apart A1 A2
  p19 : Apart A1 A9
  p29 : Apart A2 A9
  n1 : NeB A1 gs
  n2 : NeB A2 gs
  n9 : NeB A9 gs
  g0 : w.heap.size + 1 ≤ gs
  g2 : gs ≠ w.heap.size + 1 + 1
section
variable {w wr w' : World} {o r k : Int} {gs n : Nat} {A1 : Option Addr} {c1 : Nat} {A2 : Option Addr} {c2 : Nat} {A9 : Option Addr} {c9 : Nat} {t : CS} {ys : List Int}
theorem CM.past (h : CM w wr o r k gs n A1 c1 A2 c2 A9 c9 t ys) (b : Below wr.heap.size wr w') : CM w w' o r k gs n A1 c1 A2 c2 A9 c9 t ys :=
  ⟨thenB h.hb b, h.bc.past b, h.bs.past b, h.br.past b, h.l1, h.l2, own_past h.o1 b, own_past h.o2 b, own_past h.o9 b, h.p12, h.p19, h.p29, h.n1, h.n2, h.n9, h.g0, h.g2⟩
theorem CM.drew (h : CM w wr o r k gs n A1 c1 A2 c2 A9 c9 t ys) : CM w wr.drew o r k gs n A1 c1 A2 c2 A9 c9 t ys := h.past (Below.refl _ _).drew
theorem own_far {B c : Nat} {A : Option Addr} {xs : List Int} (h : Own w B A c xs) {p : Addr} (hp : NeB A p.block) (v : Value) : Own (w.setCell p v) B A c xs :=
  own_grown h (turn_set (turn_refl w p.block) rfl v) fun a e e' => hp a e (Option.some.inj e')
theorem CM.setS {g : Nat} (h : CM w wr o r k gs n (some ⟨g, 0, none⟩) c1 A2 c2 A9 c9 t ys) (j : Nat) (v : Int) {S' : List Int} (hS : t.sums.set j v = S') : CM w (wr.setCell ⟨g, j, none⟩ (.int .i64 v)) o r k gs n (some ⟨g, 0, none⟩) c1 A2 c2 A9 c9 ⟨S', t.delays, t.phase⟩ ys := by
  have hl := own_lo h.o1 _ rfl
  have hn := h.n1 _ rfl
  simp only at hl hn
  subst hS
  exact ⟨h.hb.setCell (show w.heap.size ≤ g by omega) _, h.bc.far (show _ ≠ g by omega) _, h.bs.far (show _ ≠ g by omega) _, h.br.far (show _ ≠ g by omega) _, by simpa using h.l1, h.l2, own_set h.o1 j v,
    own_far h.o2 (p := ⟨g, j, none⟩) (fun a e e' => h.p12 _ a rfl e e'.symm) _, own_far h.o9 (p := ⟨g, j, none⟩) (fun a e e' => h.p19 _ a rfl e e'.symm) _, h.p12, h.p19, h.p29, h.n1, h.n2, h.n9, h.g0, h.g2⟩
theorem CM.setD {g : Nat} (h : CM w wr o r k gs n A1 c1 (some ⟨g, 0, none⟩) c2 A9 c9 t ys) (j : Nat) (v : Int) {D' : List Int} (hD : t.delays.set j v = D') : CM w (wr.setCell ⟨g, j, none⟩ (.int .i64 v)) o r k gs n A1 c1 (some ⟨g, 0, none⟩) c2 A9 c9 ⟨t.sums, D', t.phase⟩ ys := by
  have hl := own_lo h.o2 _ rfl
  have hn := h.n2 _ rfl
  simp only at hl hn
  subst hD
  exact ⟨h.hb.setCell (show w.heap.size ≤ g by omega) _, h.bc.far (show _ ≠ g by omega) _, h.bs.far (show _ ≠ g by omega) _, h.br.far (show _ ≠ g by omega) _, h.l1, by simpa using h.l2,
    own_far h.o1 (p := ⟨g, j, none⟩) (fun a e e' => h.p12 a _ e rfl e') _, own_set h.o2 j v, own_far h.o9 (p := ⟨g, j, none⟩) (fun a e e' => h.p29 _ a rfl e e'.symm) _, h.p12, h.p19, h.p29, h.n1, h.n2, h.n9, h.g0, h.g2⟩
theorem CM.setP (h : CM w wr o r k gs n A1 c1 A2 c2 A9 c9 t ys) (p : Int) : CM w (wr.setCell ⟨gs, 2, none⟩ (.int .i64 p)) o r k gs n A1 c1 A2 c2 A9 c9 ⟨t.sums, t.delays, p⟩ ys := by
  have hl := h.g0
  exact ⟨h.hb.setCell (show w.heap.size ≤ gs by omega) _, h.bc.far (show _ ≠ gs by omega) _, h.bs.set_ 2 _, h.br.far (Ne.symm h.g2) _, h.l1, h.l2,
    own_far h.o1 h.n1 _, own_far h.o2 h.n2 _, own_far h.o9 h.n9 _, h.p12, h.p19, h.p29, h.n1, h.n2, h.n9, h.g0, h.g2⟩
theorem CM.app {A' : Option Addr} {c' : Nat} {zs : List Int} (h : CM w wr o r k gs n A1 c1 A2 c2 A9 c9 t ys) (ho : Own w' (w.heap.size + 1 + 1 + 1) A' c' zs) (hw : Wrote wr w' A9) (hm : Moved A9 A' wr.heap.size) : CM w w' o r k gs n A1 c1 A2 c2 A' c' t zs := by
  have l9 := own_lo h.o9
  have hgs := h.bs.lt
  refine ⟨h.hb.trans (below_wrote hw h.hb.size (lo_le l9 (by omega))), blk_wrote h.bc hw l9 (by omega), blk_wrote_ne h.bs hw h.n9, blk_wrote h.br hw l9 (by omega), h.l1, h.l2, own_wrote h.o1 hw h.p19, own_wrote h.o2 hw h.p29, ho, h.p12,
    moved_apart (apart_symm h.p19) hm (own_hi h.o1), moved_apart (apart_symm h.p29) hm (own_hi h.o2), h.n1, h.n2, ?_, h.g0, h.g2⟩
  intro a e
  rcases hm with hm | hm
  · subst e
    cases hA : A9 with
    | none => rw [hA] at hm; cases hm
    | some a' => rw [hA] at hm; have e2 : a.block = a'.block := Option.some.inj hm; rw [e2]; exact h.n9 a' hA
  · have := hm a e; omega
/-- A call that has changed the delays alone. -/
theorem CM.dels {D' : List Int} (h : CM w wr o r k gs n A1 c1 A2 c2 A9 c9 t ys) (ho : Own w' (w.heap.size + 1 + 1 + 1) A2 c2 D') (hD : D'.length = n) (hw : Wrote wr w' A2) : CM w w' o r k gs n A1 c1 A2 c2 A9 c9 ⟨t.sums, D', t.phase⟩ ys := by
  have l2 := own_lo h.o2
  exact ⟨h.hb.trans (below_wrote hw h.hb.size (lo_le l2 (by omega))), blk_wrote h.bc hw l2 (by omega), blk_wrote_ne h.bs hw h.n2, blk_wrote h.br hw l2 (by omega), h.l1, hD, own_wrote h.o1 hw h.p12, ho, own_wrote h.o9 hw (apart_symm h.p29), h.p12, h.p19, h.p29, h.n1, h.n2, h.n9, h.g0, h.g2⟩
end
end Go.Proofs.Ytfplecbacgcjgaa
