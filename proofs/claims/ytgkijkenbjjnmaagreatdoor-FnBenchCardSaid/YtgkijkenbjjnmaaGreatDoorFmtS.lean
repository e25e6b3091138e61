/- Slices of strings that own their row; contract of the program's FormatSequence. -/
import Derived.Test.YtgkijkenbjjnmaaGreatDoorDec
import Derived.Test.YtgkijkenbjjnmaaGreatDoorBase
import Derived.Test.YtgkijkenbjjnmaaGreatDoorShelf
namespace Go.Proofs.YtgkijkenbjjnmaaGreatDoor
open Go.RowKit
set_option linter.unusedVariables false
set_option linter.unusedSimpArgs false
def OwnS (w : World) (B : Nat) (A : Option Addr) (c : Nat) (xs : List ByteArray) : Prop := w.ownsRow B 9 1 (.slice A xs.length c) xs.length (xs.map Value.string)
theorem strInfo : (Tryz.prog.info? 9).map (fun i => (i.zero, i.size, i.bytes)) = some (some (.string ⟨#[]⟩), 1, 16) := by kernel_rfl
theorem ownS_lo {w : World} {B c : Nat} {A : Option Addr} {xs : List ByteArray} (h : OwnS w B A c xs) : Lo A B := fun a e => by
  subst e
  exact (World.ownsRow.lt h _ rfl).1
theorem ownS_empty (w : World) (B : Nat) (hB : B ≤ w.heap.size) : OwnS (w.alloc (.cells #[] 9)) B (some ⟨w.heap.size, 0, none⟩) 0 [] :=
  World.ownsRow_lit (base := B) (e := 9) (size := 1) w #[] 0 hB (by simp [maxLen]) rfl
theorem appS_new {w : World} {ops : Array Oper} {rest : List Oper} {o : Oper} {a : Act} {Q : Exit → Act → World → Prop} (hgd : o.guard = none) (s x : Operand)
    (ho : o.op = .call { callee := .builtin .append, args := #[s, x], argTypes := #[44, 44] })
    (B : Nat) (A : Option Addr) (c n : Nat) (xs : List ByteArray) (v : ByteArray) (hln : xs.length = n) (hs : a.eval s = .slice A n c) (hown : OwnS w B A c xs) (hx : a.eval x = .slice (some ⟨w.heap.size, 0, none⟩) 1 1)
    (hn : n ≤ 1099511627776) (hB : B ≤ w.heap.size)
    (h : ∀ A' c' w', OwnS w' B A' c' (xs ++ [v]) → Wrote w w' A → wpList Tryz.prog ops Q rest (a.put o.dst (.slice A' (n + 1) c')) w') :
    wpList Tryz.prog ops Q (o :: rest) a (w.alloc (.cells #[.string v] 9)) := by
  subst hln
  obtain ⟨i0, hi, hz0, hz1, hz2⟩ := info_parts strInfo
  have hA : w.grownBy (w.alloc (.cells #[.string v] 9)) (row A) := World.grownBy_alloc w _ _
  have hown' := World.ownsRow.alloc hown (.cells #[.string v] 9)
  refine wpList_append_own_at _ hgd s x 44 ho B 9 i0 (.string ⟨#[]⟩) 1 16 Tryz.underlying44 hi hz0 hz1 hz2 rfl (by decide) _ xs.length (xs.map Value.string) hs hown' ⟨w.heap.size, 0, none⟩ 1 1 [.string v] hx rfl (cell_one_new _ _ _) (by simp [Value.oneCell']) (by simp only [maxLen]; omega) (by omega) (by simp; omega) ?_
  intro v' w' k1 k2 _ k3
  have e : (Value.slice A xs.length c).ownBlock = row A := by cases A <;> rfl
  rw [e] at k2
  have hl : (xs ++ [v]).length = xs.length + 1 := by simp
  have hm : xs.map Value.string ++ [.string v] = (xs ++ [v]).map Value.string := by simp
  have hv : ∃ A' c', v' = .slice A' (xs.length + 1) c' := by
    rcases k1.2 with ⟨rfl, h0⟩ | ⟨g, cap, cur, rfl, _⟩
    · omega
    · exact ⟨_, _, rfl⟩
  obtain ⟨A', c', rfl⟩ := hv
  refine h A' c' w' ?_ (hA.trans k2)
  unfold OwnS
  rw [← hm, hl] at *
  exact k1
theorem ownS_cap {w : World} {B c : Nat} {A : Option Addr} {xs : List ByteArray} (h : OwnS w B A c xs) : xs.length ≤ c := by
  rcases h.2 with ⟨hv, hn⟩ | ⟨g, cap, cur, hv, hb, hh, r⟩
  · omega
  · injection hv with h1 h2 h3
    subst h3
    have := r
    simp at this
    omega
theorem ownS_head {w : World} {B c : Nat} {A : Option Addr} {xs : List ByteArray} (h : OwnS w B A c xs) (hk : 0 < xs.length) : ∃ g, A = some ⟨g, 0, none⟩ ∧ g < w.heap.size ∧ ∀ (j : Nat) x, xs[j]? = some x → w.cell? ⟨g, 0 + j, none⟩ = some (.string x) := by
  rcases h.2 with ⟨hv, hn⟩ | ⟨g, cap, cur, hv, hb, hh, _⟩
  · omega
  · injection hv with h1
    subst h1
    refine ⟨g, rfl, (Array.getElem?_eq_some_iff.1 hh).1, fun j x hx => ?_⟩
    have hj := (List.getElem?_eq_some_iff.1 hx).1
    rw [Nat.zero_add, World.ownsRow.cellAt h j (by omega), List.getElem?_map, hx]; rfl
def txts (xs : List Int) : List ByteArray := xs.map fun v => bs (decI v)
def fmtL (xs : List Int) : List UInt8 := if xs.length = 0 then [46] else Lib.join (xs.map decI) [44]
def fmtI (xs : List Int) : List UInt8 := if seqOk xs then fmtL xs else []
theorem txts_bytes (xs : List Int) : (txts xs).map (·.data.toList) = xs.map decI := by
  unfold txts
  rw [List.map_map]
  exact List.map_congr_left fun v _ => by simp [bs]
theorem lens_le {xs : List Int} (h : seqOk xs = true) : Lib.lens (xs.map decI) ≤ 20 * xs.length := by
  have hb := seqOk_mem h
  clear h
  induction xs with
  | nil => simp [Lib.lens]
  | cons x xs ih =>
    have h1 := ih fun v hv => hb v (List.mem_cons_of_mem _ hv)
    have h2 := hb x (List.mem_cons_self ..)
    have h3 := decI_le (n := x) (by omega) (by omega)
    simp only [Lib.lens, List.map_cons, List.sum_cons, List.length_cons] at h1 ⊢
    omega
theorem join_le {xs : List Int} (h : seqOk xs = true) : (Lib.join (xs.map decI) [44]).length ≤ 30000 := by
  have h1 := lens_le h
  have h2 := seqOk_len h
  cases xs with
  | nil => simp [Lib.join_nil]
  | cons x r =>
    rw [List.map_cons] at h1 ⊢
    rw [Lib.join_length]
    simp at h1 h2 ⊢
    omega
theorem txts_take {xs : List Int} {k : Nat} (h : k < xs.length) : txts (xs.take (k + 1)) = txts (xs.take k) ++ [bs (decI xs[k])] := by
  rw [List.take_succ_eq_append_getElem h]; unfold txts; rw [List.map_append]; rfl
theorem txts_len (xs : List Int) (k : Nat) (h : k ≤ xs.length) : (txts (xs.take k)).length = k := by
  simp [txts]; omega
set_option maxRecDepth 100000 in
set_option maxHeartbeats 1000000 in
theorem implFormat_any (A : Option Addr) (c : Nat) (xs : List Int) (w : World) (hr : Rd w w.heap.size A xs) (hn : xs.length ≤ 1048576) :
    Calls Tryz.prog 51 #[.slice A xs.length c] w fun e w' => e = .returned (.string (bs (fmtI xs))) ∧ Below w.heap.size w w' := by
  have hi := implIsSequence_any A c xs w hr (by omega)
  rcases Bool.eq_false_or_eq_true (seqOk xs) with hs | hs
  · rw [hs] at hi
    have Hi := Lib.hid hi
    have HS := Lib.hid hs
    have hl := seqOk_len hs
    clear hi hs
    by_cases h0 : xs.length = 0
    · have HY : Hid (fmtI xs = [46]) := by show _ = _; simp [fmtI, HS.out, fmtL, h0]
      have tz : ((xs.length : Int) == 0) = true := by simp [h0]
      clear h0
      go_enter Tryz.func51, Tryz.ntmps51
      go_wp2_with fail
      refine Hi.out.mono ?_; rintro e w' ⟨rfl, rfl⟩
      go_wp2
      go_ret
      exact ⟨by rw [HY.out]; rfl, Below.refl _ _⟩
    · have HY : Hid (fmtI xs = Lib.join (xs.map decI) [44]) := by show _ = _; simp [fmtI, HS.out, fmtL, h0]
      have tz : ((xs.length : Int) == 0) = false := by rw [beq_eq_false_iff_ne]; omega
      have HR := Lib.hid hr
      clear hr
      go_enter Tryz.func51, Tryz.ntmps51
      go_wp2_with fail
      refine Hi.out.mono ?_; rintro e w' ⟨rfl, rfl⟩
      go_wp2_with fail
      go_loopw [3, 15] (fun q i wr => ∃ (k : Nat) (Aq : Option Addr) (cq : Nat), k ≤ xs.length ∧ i = .int .i64 k ∧ q = .slice Aq k cq ∧ Hid (OwnS wr w.heap.size Aq cq (txts (xs.take k))) ∧ Hid (Below w.heap.size w wr)) (fun _ i _ => xs.length - (intOf i).toNat)
      case atStart => exact ⟨0, _, 0, by omega, rfl, rfl, ownS_empty w _ (Nat.le_refl _), (Below.refl _ _).alloc (Nat.le_refl _) _⟩
      case round =>
        obtain ⟨k, Aq, cq, hk, rfl, rfl, hO, hb⟩ := hrel
        by_cases hlt : k < xs.length
        · obtain ⟨ad, rfl, hbl, hcell⟩ := HR.out.at_ hlt
          have hc1 : wr.cell? (ad.add k) = some (.int .i64 (xs.getD k 0)) := (hb.out.cell (by rw [block_add]; exact hbl)).trans (hcell k hlt)
          rw [getD_at hlt] at hc1
          have b1 := seqOk_at HS.out hlt
          have hpl := txts_len xs k hk
          have HP : Hid (txts (xs.take (k + 1)) = txts (xs.take k) ++ [bs (decI xs[k])]) := txts_take hlt
          obtain ⟨v, hv⟩ : ∃ v, v = xs[k] := ⟨_, rfl⟩
          rw [← hv] at hc1 b1 HP
          clear hcell hv
          go_wp2_with (first | (go_at_call 55; refine (implDec_any v _ (by omega) (by omega)).mono ?_; rintro e w' ⟨rfl, rfl⟩) | (at_builtin; refine appS_new rfl (.tmp 19) (.tmp 22) rfl w.heap.size Aq cq k (txts (xs.take k)) _ hpl rfl hO.out rfl (by omega) hb.out.size ?_))
          intro A1 c1 w1 hO1 hw1
          have hB1 := Lib.hid (hb.out.trans (below_wrote hw1 hb.out.size (ownS_lo hO.out)))
          have HO1 : Hid (OwnS w1 w.heap.size A1 c1 (txts (xs.take (k + 1)))) := by show OwnS _ _ _ _ _; rw [HP.out]; exact hO1
          clear hO1 hw1 hpl
          go_wp2
          go_roundw
          case rel => exact ⟨k + 1, A1, c1, by omega, by go_num, rfl, HO1.out, hB1.out⟩
          case measure => simp [intOf]; omega
        · obtain rfl : k = xs.length := by omega
          have hO' := hO.out
          rw [List.take_length] at hO'
          have hpl : (txts xs).length = xs.length := by simp [txts]
          obtain ⟨g, rfl, hg, hcells⟩ := ownS_head hO' (by omega)
          have hj := Tryz.strings_Join g 0 cq (txts xs) ⟨#[44]⟩ wr hcells hg (by omega) (ownS_cap hO') (by rw [txts_bytes]; have := join_le HS.out; exact Nat.le_trans this (by omega))
          rw [txts_bytes, hpl] at hj
          have Hj := Lib.hid hj
          clear hj hO' hcells hpl
          go_wp2_with fail
          refine Hj.out.mono ?_; rintro e w2 ⟨rfl, h2⟩
          have HB := Lib.hid (hb.out.trans (h2.mono hb.out.size))
          go_wp2
          go_ret
          exact ⟨by rw [HY.out]; rfl, HB.out⟩
  · rw [hs] at hi
    have Hi := Lib.hid hi
    have HY : Hid (fmtI xs = []) := by show _ = _; simp [fmtI, hs]
    clear hi hs hr
    go_enter Tryz.func51, Tryz.ntmps51
    go_wp2_with fail
    refine Hi.out.mono ?_; rintro e w' ⟨rfl, rfl⟩
    go_wp2
    go_ret
    exact ⟨by rw [HY.out]; rfl, Below.refl _ _⟩
end Go.Proofs.YtgkijkenbjjnmaaGreatDoor
