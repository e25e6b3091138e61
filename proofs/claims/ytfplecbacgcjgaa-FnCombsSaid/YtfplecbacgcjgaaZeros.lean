/- The law of 'append(xs, make([]int, n)...)' at a list that the call owns: it is one operation, and lays n zeros. -/
import Derived.Test.YtfplecbacgcjgaaBase
import Derived.IntWalk
namespace Go.Proofs.Ytfplecbacgcjgaa
open Go.RowKit
set_option linter.unusedVariables false
set_option linter.unusedSimpArgs false
theorem zero_cells (p : Nat) : (Builtin.zeroCells #[.int .i64 0] p).toList = ints (List.replicate p 0) := by
  simp [Builtin.zeroCells, ints]
  apply List.ext_getElem?
  intro t
  by_cases h : t < p
  · simp [h, Nat.mod_one]
  · simp [h]
theorem run_asInt (v : Int) (W : World) : (asIntOf (.int .i64 v)).run Try.prog W = .ok (.i64, v) W := rfl
theorem run_zeros_none (w : World) (ty : TypeId) (g n cap : Nat) (hnc : n ≤ cap) :
    (Builtin.append_ #[31, 3] ty #[.slice (some ⟨g, 0, none⟩) n cap, .int .i64 ((0 : Nat) : Int)]).run Try.prog w = .ok (.slice (some ⟨g, 0, none⟩) n cap) w := by
  obtain ⟨i0, hi, hz0, hz1, hz2⟩ := int_row
  have hw0 : IntKind.i64.wrap 0 = 0 := by decide
  simp [Builtin.append_, run_underlying Try.underlying31, run_underlying Try.underlying3, sizeOf, typeInfo, zeroValue, hi, hz0, hz1, hz2, hw0, hnc, storeCells, asInt, run_asInt]
theorem run_zeros_room (w : World) (ty : TypeId) (g n cap p : Nat) (cur : Array Value) (hg : w.heap[g]? = some (.cells cur 3 (0, 0))) (hp : 0 < p) (hpb : p ≤ 1048576) (hroom : n + p ≤ cap) (hcs : cur.size = cap) :
    (Builtin.append_ #[31, 3] ty #[.slice (some ⟨g, 0, none⟩) n cap, .int .i64 (p : Int)]).run Try.prog w =
      .ok (.slice (some ⟨g, 0, none⟩) (n + p) cap) (w.setRow g (cur.toList.take n ++ ints (List.replicate p 0) ++ cur.toList.drop (n + p)).toArray) := by
  obtain ⟨i0, hi, hz0, hz1, hz2⟩ := int_row
  have hwp : IntKind.i64.wrap (p : Int) = (p : Int) := Go.IntWalk.i64_in _ (by omega)
  have h1 : ∀ u ∈ ints (List.replicate p 0), u.oneCell' = true := by
    intro u hu
    simp only [ints, List.mem_map] at hu
    obtain ⟨v, _, rfl⟩ := hu
    rfl
  have hll : (ints (List.replicate p 0)).length = p := by simp [ints]
  have hst := run_storeCells_at Try.prog g n 3 (ints (List.replicate p 0)) 0 cur w hg (by rw [hll]; omega) h1
  rw [hll] at hst
  simp only [Nat.add_zero] at hst
  have hp0 : p ≠ 0 := by omega
  have hb1 : ¬ (p : Int) < 0 := by omega
  have hb4 : ¬ (p : Int) ≤ 0 := by omega
  have hb2 : ¬ 281474976710656 < (p : Int) * 8 := by omega
  have hzc := zero_cells p
  simp [Builtin.append_, run_underlying Try.underlying31, run_underlying Try.underlying3, sizeOf, typeInfo, zeroValue, hi, hz0, hz1, hz2, hwp, hroom, asInt, run_asInt, hb4, hb1, hb2, hp0, Value.cells, hzc, Addr.add_lit, hst]
theorem run_zeros_grow (w : World) (ty : TypeId) (g n cap p : Nat) (olds : List Value) (hlo : olds.length = n) (holds : ∀ j v, olds[j]? = some v → w.cell? ((⟨g, 0, none⟩ : Addr).add j) = some v) (hp : 0 < p) (hpb : n + p ≤ 1099511627776) (hpb2 : p ≤ 1048576) (hgr : cap < n + p) :
    (Builtin.append_ #[31, 3] ty #[.slice (some ⟨g, 0, none⟩) n cap, .int .i64 (p : Int)]).run Try.prog w =
      .ok (.slice (some ⟨w.heap.size, 0, none⟩) (n + p) (grownCap w (n + p) cap 3))
        (w.drew.alloc (.cells (olds ++ ints (List.replicate p 0) ++ (Builtin.zeroCells #[.int .i64 0] (grownCap w (n + p) cap 3 - (n + p))).toList).toArray 3)) := by
  obtain ⟨i0, hi, hz0, hz1, hz2⟩ := int_row
  have hwp : IntKind.i64.wrap (p : Int) = (p : Int) := Go.IntWalk.i64_in _ (by omega)
  have hn : ¬ (n + p ≤ cap) := by omega
  have h63' : ¬ (9223372036854775807 < ((n : Int) + (p : Int))) := by omega
  have hfit := growslice_fits (need := n + p) (old := cap) (bytes := 8) (by omega) (by omega)
  have h48' : ¬ (281474976710656 < Builtin.nextslicecap (n + p) cap * 8) := by omega
  have hp0 : p ≠ 0 := by omega
  have hb1 : ¬ (p : Int) < 0 := by omega
  have hb4 : ¬ (p : Int) ≤ 0 := by omega
  have hb2 : ¬ 281474976710656 < (p : Int) * 8 := by omega
  have hfo := run_firstCells_some (P := Try.prog) w.drew 1 n ⟨g, 0, none⟩ n cap olds (by omega) (by simpa using holds)
  have hzc := zero_cells p
  simp [Builtin.append_, run_underlying Try.underlying31, run_underlying Try.underlying3, sizeOf, typeInfo, zeroValue, hi, hz0, hz1, hz2, hwp, asInt, run_asInt, hb4, hb1, hb2, hp0, Value.cells, hn, h63', h48', Question.forced, hfo, newRow, grownCap]
  congr 2
  apply Array.ext'
  simp [hzc, List.append_assoc]
theorem run_app_zeros (w : World) (ty : TypeId) (B g c : Nat) (xs : List Int) (hown : Own w B (some ⟨g, 0, none⟩) c xs) (p : Nat) (hn : xs.length + p ≤ 1099511627776) (hp : p ≤ 1048576) (hB : B ≤ w.heap.size) :
    ∃ A' c' w', (Builtin.append_ #[31, 3] ty #[.slice (some ⟨g, 0, none⟩) xs.length c, .int .i64 (p : Int)]).run Try.prog w = .ok (.slice A' (xs.length + p) c') w' ∧ Own w' B A' c' (xs ++ List.replicate p 0) ∧ Wrote w w' (some ⟨g, 0, none⟩) ∧ Moved (some ⟨g, 0, none⟩) A' w.heap.size := by
  have hlen := hown.1
  have hcap := own_cap hown
  rcases Nat.eq_zero_or_pos p with h0 | h0
  · subst h0
    exact ⟨_, _, w, run_zeros_none w ty g _ c hcap.1, by simpa using hown, World.grownBy.refl _ _, .inl rfl⟩
  · have hL : (xs ++ List.replicate p (0 : Int)).length = xs.length + p := by simp
    rcases hown.2 with ⟨e, _⟩ | ⟨g', cap, cur, e, hbg, hg, hnc, hcm, hcs, htake⟩
    · cases e
    · injection e with e1 e2 e3
      injection e1 with e1
      injection e1 with e1
      subst e1 e3
      simp only [Nat.mul_one] at hcs htake
      by_cases hroom : xs.length + p ≤ c
      · refine ⟨_, _, _, run_zeros_room w ty g xs.length c p cur hg h0 hp hroom hcs, ?_, ⟨rfl, rfl, rfl, by simp, fun k _ hk => setRow_other w g k _ (fun e => hk (by simp [row, e]))⟩, .inl rfl⟩
        refine ⟨by rw [ints_length]; omega, .inr ⟨g, c, _, by rw [hL], hbg, setRow_heap w g cur _ 3 _ hg, by rw [hL]; exact hroom, hcm, ?_, ?_⟩⟩
        · simp [ints]; omega
        · rw [htake, ints_append]
          have : (ints xs ++ ints (List.replicate p 0)).length = (xs ++ List.replicate p (0 : Int)).length * 1 := by rw [← ints_append, ints_length]; omega
          simp only [List.toList_toArray]
          rw [← this]
          exact List.take_left
      · have holds : ∀ j u, (ints xs)[j]? = some u → w.cell? ((⟨g, 0, none⟩ : Addr).add j) = some u := World.ownsRow.cells (g := g) hown rfl
        have hge := grownCap_ge w (xs.length + p) c 3
        have hcm2 := grownCap_le_maxLen w (xs.length + p) c 3 (by simp only [maxLen]; omega)
        refine ⟨_, _, _, run_zeros_grow w ty g xs.length c p (ints xs) (ints_length xs) holds h0 hn hp (by omega), ?_, ⟨rfl, rfl, rfl, by simp, fun k hk _ => Below.heap_alloc w.drew _ k hk⟩, .inr fun a ha => by injection ha with ha; subst ha; exact Nat.le_refl _⟩
        refine ⟨by rw [ints_length]; omega, .inr ⟨w.heap.size, _, _, by rw [hL], hB, heap_alloc_new w.drew _, by rw [hL]; exact hge, hcm2, ?_, ?_⟩⟩
        · simp [ints, size_zeroCells]; omega
        · have : (ints xs ++ ints (List.replicate p 0)).length = (xs ++ List.replicate p (0 : Int)).length * 1 := by rw [← ints_append, ints_length]; omega
          simp only [List.toList_toArray]
          rw [← this, ints_append]
          exact List.take_left
theorem app_zeros {w : World} {ops : Array Oper} {rest : List Oper} {o : Oper} {a : Act} {Q : Exit → Act → World → Prop} (hgd : o.guard = none) (s x : Operand)
    (ho : o.op = .call { callee := .builtin .append, args := #[s, x], argTypes := #[31, 3] })
    (B g c n : Nat) (xs : List Int) (hl : xs.length = n) (hs : a.eval s = .slice (some ⟨g, 0, none⟩) n c) (hown : Own w B (some ⟨g, 0, none⟩) c xs) (p : Nat) (hx : a.eval x = .int .i64 (p : Int))
    (hn : n ≤ 1048576) (hp : p ≤ 1048576) (hB : B ≤ w.heap.size)
    (h : ∀ A' c' w', Own w' B A' c' (xs ++ List.replicate p 0) → Wrote w w' (some ⟨g, 0, none⟩) → Moved (some ⟨g, 0, none⟩) A' w.heap.size → wpList Try.prog ops Q rest (a.put o.dst (.slice A' (n + p) c')) w') :
    wpList Try.prog ops Q (o :: rest) a w := by
  subst hl
  refine wpList_plain hgd fun K hK => ?_
  obtain ⟨A', c', w', hr, h2, h3, h5⟩ := run_app_zeros w o.type B g c xs hown p (by omega) hp hB
  unfold Oper.wp execOp
  simp only [ho, resolve, invoke, builtin, Sem.run_bind, Sem.run_pure, Result.andThen_ok, List.map_toArray, List.map_cons, List.map_nil, hs, hx, hr]
  exact hK _ _ (h A' c' w' h2 h3 h5)
end Go.Proofs.Ytfplecbacgcjgaa
