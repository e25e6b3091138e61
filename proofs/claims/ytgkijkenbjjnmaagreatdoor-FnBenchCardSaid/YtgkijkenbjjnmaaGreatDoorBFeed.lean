/- Contracts of strings.Cut at a space, of l7Two and l7Feed. (Printed by mkbfeed.py.) -/
import Derived.Test.YtgkijkenbjjnmaaGreatDoorBCopy
import Derived.Test.YtgkijkenbjjnmaaGreatDoorBAsk
namespace Go.Proofs.YtgkijkenbjjnmaaGreatDoor
open Go.RowKit
set_option linter.unusedVariables false
set_option linter.unusedSimpArgs false
def RetCut (l : List UInt8) (w : World) (e : Ending) (w' : World) : Prop := (∃ b, e = .returned (.tuple #[.string (bs (cutW l)), .string (bs (cutT l)), .bool b])) ∧ Below w.heap.size w w'
theorem index_cases (l : List UInt8) : ((32 : UInt8) ∉ l ∧ Lib.indexByte l 32 = -1) ∨ ∃ i : Nat, i < l.length ∧ Lib.indexByte l 32 = i ∧ cutW l = l.take i ∧ cutT l = l.drop (i + 1) := by
  have hge := Lib.indexByte_ge l 32
  by_cases h : Lib.indexByte l 32 = -1
  · refine .inl ⟨fun hm => ?_, h⟩
    obtain ⟨k, hk, e⟩ := List.getElem_of_mem hm
    exact Lib.indexByte_none h k (by rw [List.getElem?_eq_getElem hk, e])
  · obtain ⟨i, hi⟩ : ∃ i : Nat, Lib.indexByte l 32 = i := ⟨(Lib.indexByte l 32).toNat, by omega⟩
    obtain ⟨h1, h2⟩ := split_at hi
    refine .inr ⟨i, ?_, hi, ?_⟩
    · have := (Lib.indexByte_some hi).1
      exact (List.getElem?_eq_some_iff.1 this).1
    · have := cut_app (a := l.take i) (r := l.drop (i + 1)) h1
      rw [← h2] at this
      exact this
set_option maxHeartbeats 1000000 in
theorem liteCut_any (s : ByteArray) (w : World) (hs : s.size ≤ 4000000000) : Calls Tryz.prog 91 #[.string s, .string ⟨#[32]⟩] w (RetCut s.data.toList w) := by
  have hl := sizeL s
  rcases index_cases s.data.toList with ⟨h1, h2⟩ | ⟨i, hi, h2, h3, h4⟩
  · have HC := Lib.hid (cut_none h1)
    have hcall := fun W => Tryz.stringslite_Index_one s 32 W
    rw [h2] at hcall
    have Hc := Lib.hid hcall
    have HS := Lib.hid (bs_list s)
    clear hcall h1 h2 hl
    go_enter Tryz.func91, Tryz.ntmps91
    go_wp2_with fail
    refine (Hc.out _).mono ?_; rintro e w1 ⟨rfl, rfl⟩
    go_wp2
    go_ret3
    exact ⟨⟨false, by rw [HC.out.1, HC.out.2, HS.out]; rfl⟩, Below.refl _ _⟩
  · have hcall := fun W => Tryz.stringslite_Index_one s 32 W
    rw [h2] at hcall
    have Hc := Lib.hid hcall
    have H3 := Lib.hid h3
    have H4 := Lib.hid h4
    have E1 := Lib.hid (bs_extract s 0 i)
    have E2 := Lib.hid (bs_extract_end s (i + 1))
    have c1 : (0 : Int) ≤ (i : Int) := by omega
    have c2 : (i : Int) ≤ (s.size : Int) := by omega
    have c3 : (0 : Int) ≤ (i : Int) + 1 := by omega
    have c4 : (i : Int) + 1 ≤ (s.size : Int) := by omega
    have c5 : ((i : Int) + 1).toNat = i + 1 := by omega
    have sI : IntKind.i64.wrap ((i : Int) + 1) = (i : Int) + 1 := Go.IntWalk.i64_in _ (by omega)
    clear hcall h2 h3 h4 hl
    go_enter Tryz.func91, Tryz.ntmps91
    go_wp2_with fail
    refine (Hc.out _).mono ?_; rintro e w1 ⟨rfl, rfl⟩
    go_wp2_with fail
    go_quiet (fail)
    go_wp2
    go_ret3
    refine ⟨⟨true, ?_⟩, below_drewN' (Below.refl _ _) _⟩
    rw [H3.out, H4.out, ← E2.out]
    have := E1.out
    rw [Nat.sub_zero, List.drop_zero] at this
    rw [← this]
    rfl
theorem cut_any (s : ByteArray) (w : World) (hs : s.size ≤ 4000000000) : Calls Tryz.prog 46 #[.string s, .string ⟨#[32]⟩] w (RetCut s.data.toList w) := by
  have HC := Lib.hid (fun W => liteCut_any s W hs)
  go_enter Tryz.func46, Tryz.ntmps46
  go_wp2_with fail
  refine (HC.out _).mono ?_; rintro e w1 ⟨⟨b, rfl⟩, h⟩
  go_wp2
  go_ret3
  exact ⟨⟨b, rfl⟩, h⟩
def RetFeed (w : World) (vs : Array Value) (b : Bool) (ok : Option Addr → Nat → Array Value) (x : List Int) (e : Ending) (w' : World) : Prop :=
  (if b then ∃ A c, e = .returned (.tuple #[.agg (ok A c), .string (bs okT)]) ∧ Own w' w.heap.size A c x else e = .returned (.tuple #[.agg vs, .string (bs noT)])) ∧ Below w.heap.size w w'
def twoB (xs ys : List Int) : List Int × Bool := if seqOk (xs ++ ys) then (xs ++ ys, true) else ([], false)
set_option maxHeartbeats 1000000 in
theorem l7Two_any (A : Option Addr) (c : Nat) (xs : List Int) (A' : Option Addr) (c' : Nat) (ys : List Int) (w : World) (hr : Rd w w.heap.size A xs) (hr' : Rd w w.heap.size A' ys) (hn : xs.length ≤ 1000) (hn' : ys.length ≤ 1000) :
    Calls Tryz.prog 121 #[.slice A xs.length c, .slice A' ys.length c'] w (RetLB w (twoB xs ys)) := by
  have HR' := Lib.hid hr'
  have HT : Hid (doneOf (xs ++ ys) = twoB xs ys) := rfl
  have HL : Hid ((xs ++ ys).length = xs.length + ys.length) := List.length_append
  have hc := fun W h => l1Copy_any A c xs W h (by omega)
  have HC := Lib.hid (hc w hr)
  clear hr hr' hc
  go_enter Tryz.func121, Tryz.ntmps121
  go_wp2_with fail
  refine HC.out.mono ?_; rintro e w1 ⟨A1, c1, rfl, O1, h1⟩
  have R1 := Lib.hid (HR'.out.past h1)
  have H1 := Lib.hid h1
  have z1 : w.heap.size ≤ w1.heap.size := h1.size
  have HO := Lib.hid O1
  clear h1 O1
  go_wp2_with (at_builtin; refine app_list rfl (.tmp 7) (.tmp 8) rfl w.heap.size A1 c1 xs.length xs rfl rfl HO.out w1.heap.size A' c' ys rfl R1.out (by omega) z1 ?_)
  intro A2 c2 w2 O2 hw mv
  have hD := l1Done_own A2 w.heap.size c2 (xs ++ ys) w2 O2 (by rw [List.length_append]; omega)
  rw [HL.out, HT.out] at hD
  have HD := Lib.hid hD
  have HB := Lib.hid (below_app H1.out hw HO.out z1)
  clear hD O2 hw mv
  go_wp2_with fail
  refine HD.out.mono ?_; rintro e w3 ⟨A3, c3, rfl, O3, rfl⟩
  go_wp2
  go_ret2
  exact ⟨A3, c3, rfl, O3, HB.out⟩
theorem l7Feed_res {tmps : Array Value} {g : Nat} {w : World} {v0 v1 v2 v3 v4 v5 v6 t : Value} (hp : tmps.getD 6 undef = .pointer (some ⟨g, 0, none⟩)) (hb : tmps.getD 7 undef = t) (c0 : w.cell? ⟨g, 0, none⟩ = some v0) (c1 : w.cell? ⟨g, 1, none⟩ = some v1) (c2 : w.cell? ⟨g, 2, none⟩ = some v2) (c3 : w.cell? ⟨g, 3, none⟩ = some v3) (c4 : w.cell? ⟨g, 4, none⟩ = some v4) (c5 : w.cell? ⟨g, 5, none⟩ = some v5) (c6 : w.cell? ⟨g, 6, none⟩ = some v6) :
    (results Tryz.f76 tmps).run Tryz.prog w = .ok (.tuple #[.agg #[v0, v1, v2, v3, v4, v5, v6], t]) w := by
  have hp' := hp
  have hb' := hb
  simp at hp' hb'
  simp only [results, Tryz.results76]
  simp [go_sem, hp', hb', c0, c1, c2, c3, c4, c5, c6]
set_option maxRecDepth 100000 in
set_option maxHeartbeats 2000000 in
theorem l7Feed_in (l s : Int) (A1 : Option Addr) (c1 : Nat) (x1 : List Int) (A2 : Option Addr) (c2 : Nat) (x2 : List Int) (A3 : Option Addr) (c3 : Nat) (x3 : List Int) (A4 : Option Addr) (c4 : Nat) (x4 : List Int) (A5 : Option Addr) (c5 : Nat) (x5 : List Int) (ln : ByteArray) (w : World) (hln : ln.size ≤ 4000000000) (b : Bool) (hb : ((pars ln.data.toList).2) = b) :
    Calls Tryz.prog 76 #[.agg #[.int .i64 l, .int .i64 s, .slice A1 x1.length c1, .slice A2 x2.length c2, .slice A3 x3.length c3, .slice A4 x4.length c4, .slice A5 x5.length c5], .string ⟨#[105, 110]⟩, .string ln] w (RetFeed w #[.int .i64 l, .int .i64 s, .slice A1 x1.length c1, .slice A2 x2.length c2, .slice A3 x3.length c3, .slice A4 x4.length c4, .slice A5 x5.length c5] b (fun A c => #[.int .i64 l, .int .i64 s, .slice A1 x1.length c1, .slice A2 x2.length c2, .slice A (pars ln.data.toList).1.length c, .slice none 0 0, .slice none 0 0]) (pars ln.data.toList).1) := by
  obtain ⟨W, hW⟩ : ∃ W, W = (w.alloc (.cells #[.int .i64 l, .int .i64 s, .slice A1 x1.length c1, .slice A2 x2.length c2, .slice A3 x3.length c3, .slice A4 x4.length c4, .slice A5 x5.length c5] 33)).alloc (.cells #[.int .i64 0, .int .i64 0, .slice none 0 0, .slice none 0 0, .slice none 0 0, .slice none 0 0, .slice none 0 0] 33) := ⟨_, rfl⟩
  have Hb : Hid (Below w.heap.size w W) := by rw [hW]; exact ((Below.refl _ _).alloc (Nat.le_refl _) _).alloc (by simp) _
  have BB : Blk W w.heap.size 33 #[.int .i64 l, .int .i64 s, .slice A1 x1.length c1, .slice A2 x2.length c2, .slice A3 x3.length c3, .slice A4 x4.length c4, .slice A5 x5.length c5] := by rw [hW]; exact (Blk.new w 33 #[.int .i64 l, .int .i64 s, .slice A1 x1.length c1, .slice A2 x2.length c2, .slice A3 x3.length c3, .slice A4 x4.length c4, .slice A5 x5.length c5]).alloc _
  have BR : Blk W (w.heap.size + 1) 33 #[.int .i64 0, .int .i64 0, .slice none 0 0, .slice none 0 0, .slice none 0 0, .slice none 0 0, .slice none 0 0] := by rw [hW]; have := Blk.new (w.alloc (.cells #[.int .i64 l, .int .i64 s, .slice A1 x1.length c1, .slice A2 x2.length c2, .slice A3 x3.length c3, .slice A4 x4.length c4, .slice A5 x5.length c5] 33)) 33 #[.int .i64 0, .int .i64 0, .slice none 0 0, .slice none 0 0, .slice none 0 0, .slice none 0 0, .slice none 0 0]; simpa using this
  have z0 : w.heap.size + 1 < W.heap.size := BR.lt
  have HC := Lib.hid (fun V => specPars_any ln V hln)
  have HLn := Lib.hid (pars_len ln.data.toList)
  obtain ⟨Y, hY⟩ : ∃ Y, Y = pars ln.data.toList := ⟨_, rfl⟩
  rw [← hY] at HC hb HLn ⊢
  obtain ⟨Y1, Y2⟩ := Y
  dsimp only at hb HLn ⊢
  clear hY
  have HB := Lib.hid hb
  clear hb
  go_enter Tryz.func76, Tryz.ntmps76
  go_upto_region 1 with fail
  rw [← hW]
  clear hW
  go_wp2_with fail
  refine (HC.out _).mono ?_; rintro e w1 ⟨Aq, cq, rfl, Oq, h⟩
  replace BB := BB.past h
  replace BR := BR.past h
  replace Hb := Lib.hid (thenB Hb.out h)
  have HO := Lib.hid (own_mono Oq (show w.heap.size ≤ W.heap.size by omega))
  have z1 : W.heap.size ≤ w1.heap.size := h.size
  have N : ∀ a, Aq = some a → w.heap.size + 1 < a.block := fun a e => Nat.lt_of_lt_of_le z0 (own_lo Oq a e)
  clear h Oq HC
  cases Y2
  · have eb : b = false := by rw [← HB.out]
    subst eb
    have q0 := BB.cell 0; have g0 := BB.frozen 0; have q1 := BB.cell 1; have g1 := BB.frozen 1; have q2 := BB.cell 2; have g2 := BB.frozen 2; have q3 := BB.cell 3; have g3 := BB.frozen 3; have q4 := BB.cell 4; have g4 := BB.frozen 4; have q5 := BB.cell 5; have g5 := BB.frozen 5; have q6 := BB.cell 6; have g6 := BB.frozen 6; have p0 := BR.cell 0; have f0 := BR.frozen 0; have p1 := BR.cell 1; have f1 := BR.frozen 1; have p2 := BR.cell 2; have f2 := BR.frozen 2; have p3 := BR.cell 3; have f3 := BR.frozen 3; have p4 := BR.cell 4; have f4 := BR.frozen 4; have p5 := BR.cell 5; have f5 := BR.frozen 5; have p6 := BR.cell 6; have f6 := BR.frozen 6; simp at q0 p0 q1 p1 q2 p2 q3 p3 q4 p4 q5 p5 q6 p6
    have DD := (((((((BR.set_ 0 (.int .i64 l)).set_ 1 (.int .i64 s)).set_ 2 (.slice A1 x1.length c1)).set_ 3 (.slice A2 x2.length c2)).set_ 4 (.slice A3 x3.length c3)).set_ 5 (.slice A4 x4.length c4)).set_ 6 (.slice A5 x5.length c5))
    have d0 := DD.cell 0
    have d1 := DD.cell 1
    have d2 := DD.cell 2
    have d3 := DD.cell 3
    have d4 := DD.cell 4
    have d5 := DD.cell 5
    have d6 := DD.cell 6
    simp at d0 d1 d2 d3 d4 d5 d6
    have T := (turn_set (turn_set (turn_set (turn_set (turn_set (turn_set (turn_set (turn_refl w1 (w.heap.size + 1)) (p := ⟨w.heap.size + 1, 0, none⟩) rfl (.int .i64 l)) (p := ⟨w.heap.size + 1, 1, none⟩) rfl (.int .i64 s)) (p := ⟨w.heap.size + 1, 2, none⟩) rfl (.slice A1 x1.length c1)) (p := ⟨w.heap.size + 1, 3, none⟩) rfl (.slice A2 x2.length c2)) (p := ⟨w.heap.size + 1, 4, none⟩) rfl (.slice A3 x3.length c3)) (p := ⟨w.heap.size + 1, 5, none⟩) rfl (.slice A4 x4.length c4)) (p := ⟨w.heap.size + 1, 6, none⟩) rfl (.slice A5 x5.length c5))
    have HBf := Lib.hid ((((((((Hb.out.setCell (p := ⟨w.heap.size + 1, 0, none⟩) (show w.heap.size ≤ w.heap.size + 1 by omega) (.int .i64 l)).setCell (p := ⟨w.heap.size + 1, 1, none⟩) (show w.heap.size ≤ w.heap.size + 1 by omega) (.int .i64 s)).setCell (p := ⟨w.heap.size + 1, 2, none⟩) (show w.heap.size ≤ w.heap.size + 1 by omega) (.slice A1 x1.length c1)).setCell (p := ⟨w.heap.size + 1, 3, none⟩) (show w.heap.size ≤ w.heap.size + 1 by omega) (.slice A2 x2.length c2)).setCell (p := ⟨w.heap.size + 1, 4, none⟩) (show w.heap.size ≤ w.heap.size + 1 by omega) (.slice A3 x3.length c3)).setCell (p := ⟨w.heap.size + 1, 5, none⟩) (show w.heap.size ≤ w.heap.size + 1 by omega) (.slice A4 x4.length c4)).setCell (p := ⟨w.heap.size + 1, 6, none⟩) (show w.heap.size ≤ w.heap.size + 1 by omega) (.slice A5 x5.length c5)))
    have HD0 := Lib.hid d0
    have HD1 := Lib.hid d1
    have HD2 := Lib.hid d2
    have HD3 := Lib.hid d3
    have HD4 := Lib.hid d4
    have HD5 := Lib.hid d5
    have HD6 := Lib.hid d6
    skip
    clear DD T d0 d1 d2 d3 d4 d5 d6
    go_wp2
    refine bodyPost_ret (l7Feed_res rfl rfl HD0.out HD1.out HD2.out HD3.out HD4.out HD5.out HD6.out) rfl ?_
    exact ⟨rfl, HBf.out⟩
  · have eb : b = true := by rw [← HB.out]
    subst eb
    have q0 := BB.cell 0; have g0 := BB.frozen 0; have q1 := BB.cell 1; have g1 := BB.frozen 1; have q2 := BB.cell 2; have g2 := BB.frozen 2; have q3 := BB.cell 3; have g3 := BB.frozen 3; have q4 := BB.cell 4; have g4 := BB.frozen 4; have q5 := BB.cell 5; have g5 := BB.frozen 5; have q6 := BB.cell 6; have g6 := BB.frozen 6; have p0 := BR.cell 0; have f0 := BR.frozen 0; have p1 := BR.cell 1; have f1 := BR.frozen 1; have p2 := BR.cell 2; have f2 := BR.frozen 2; have p3 := BR.cell 3; have f3 := BR.frozen 3; have p4 := BR.cell 4; have f4 := BR.frozen 4; have p5 := BR.cell 5; have f5 := BR.frozen 5; have p6 := BR.cell 6; have f6 := BR.frozen 6; simp at q0 p0 q1 p1 q2 p2 q3 p3 q4 p4 q5 p5 q6 p6
    go_upto_region 8 with fail
    have T := (turn_set (turn_set (turn_set (turn_refl w1 w.heap.size) (p := ⟨w.heap.size, 4, none⟩) rfl (.slice Aq Y1.length cq)) (p := ⟨w.heap.size, 5, none⟩) rfl (.slice none 0 0)) (p := ⟨w.heap.size, 6, none⟩) rfl (.slice none 0 0))
    replace BB : Blk (((w1.setCell ⟨w.heap.size, 4, none⟩ (.slice Aq Y1.length cq)).setCell ⟨w.heap.size, 5, none⟩ (.slice none 0 0)).setCell ⟨w.heap.size, 6, none⟩ (.slice none 0 0)) w.heap.size 33 #[.int .i64 l, .int .i64 s, .slice A1 x1.length c1, .slice A2 x2.length c2, .slice Aq Y1.length cq, .slice none 0 0, .slice none 0 0] := (((BB.set_ 4 (.slice Aq Y1.length cq)).set_ 5 (.slice none 0 0)).set_ 6 (.slice none 0 0))
    replace BR := (((BR.far (p := ⟨w.heap.size, 4, none⟩) (show w.heap.size + 1 ≠ w.heap.size by omega) (.slice Aq Y1.length cq)).far (p := ⟨w.heap.size, 5, none⟩) (show w.heap.size + 1 ≠ w.heap.size by omega) (.slice none 0 0)).far (p := ⟨w.heap.size, 6, none⟩) (show w.heap.size + 1 ≠ w.heap.size by omega) (.slice none 0 0))
    replace Hb := Lib.hid (((Hb.out.setCell (p := ⟨w.heap.size, 4, none⟩) (Nat.le_refl _) (.slice Aq Y1.length cq)).setCell (p := ⟨w.heap.size, 5, none⟩) (Nat.le_refl _) (.slice none 0 0)).setCell (p := ⟨w.heap.size, 6, none⟩) (Nat.le_refl _) (.slice none 0 0))
    replace HO := Lib.hid (own_grown HO.out T (fun a e e' => by have h1 := N a e; have h2 := Option.some.inj e'; omega))
    clear T q0 g0 p0 f0 q1 g1 p1 f1 q2 g2 p2 f2 q3 g3 p3 f3 q4 g4 p4 f4 q5 g5 p5 f5 q6 g6 p6 f6
    obtain ⟨w2, hw2⟩ : ∃ V, V = (((w1.setCell ⟨w.heap.size, 4, none⟩ (.slice Aq Y1.length cq)).setCell ⟨w.heap.size, 5, none⟩ (.slice none 0 0)).setCell ⟨w.heap.size, 6, none⟩ (.slice none 0 0)) := ⟨_, rfl⟩
    rw [← hw2] at BB BR Hb HO ⊢
    clear hw2
    have q0 := BB.cell 0; have g0 := BB.frozen 0; have q1 := BB.cell 1; have g1 := BB.frozen 1; have q2 := BB.cell 2; have g2 := BB.frozen 2; have q3 := BB.cell 3; have g3 := BB.frozen 3; have q4 := BB.cell 4; have g4 := BB.frozen 4; have q5 := BB.cell 5; have g5 := BB.frozen 5; have q6 := BB.cell 6; have g6 := BB.frozen 6; have p0 := BR.cell 0; have f0 := BR.frozen 0; have p1 := BR.cell 1; have f1 := BR.frozen 1; have p2 := BR.cell 2; have f2 := BR.frozen 2; have p3 := BR.cell 3; have f3 := BR.frozen 3; have p4 := BR.cell 4; have f4 := BR.frozen 4; have p5 := BR.cell 5; have f5 := BR.frozen 5; have p6 := BR.cell 6; have f6 := BR.frozen 6; simp at q0 p0 q1 p1 q2 p2 q3 p3 q4 p4 q5 p5 q6 p6
    have DD := (((((((BR.set_ 0 (.int .i64 l)).set_ 1 (.int .i64 s)).set_ 2 (.slice A1 x1.length c1)).set_ 3 (.slice A2 x2.length c2)).set_ 4 (.slice Aq Y1.length cq)).set_ 5 (.slice none 0 0)).set_ 6 (.slice none 0 0))
    have d0 := DD.cell 0
    have d1 := DD.cell 1
    have d2 := DD.cell 2
    have d3 := DD.cell 3
    have d4 := DD.cell 4
    have d5 := DD.cell 5
    have d6 := DD.cell 6
    simp at d0 d1 d2 d3 d4 d5 d6
    have T := (turn_set (turn_set (turn_set (turn_set (turn_set (turn_set (turn_set (turn_refl w2 (w.heap.size + 1)) (p := ⟨w.heap.size + 1, 0, none⟩) rfl (.int .i64 l)) (p := ⟨w.heap.size + 1, 1, none⟩) rfl (.int .i64 s)) (p := ⟨w.heap.size + 1, 2, none⟩) rfl (.slice A1 x1.length c1)) (p := ⟨w.heap.size + 1, 3, none⟩) rfl (.slice A2 x2.length c2)) (p := ⟨w.heap.size + 1, 4, none⟩) rfl (.slice Aq Y1.length cq)) (p := ⟨w.heap.size + 1, 5, none⟩) rfl (.slice none 0 0)) (p := ⟨w.heap.size + 1, 6, none⟩) rfl (.slice none 0 0))
    have HBf := Lib.hid ((((((((Hb.out.setCell (p := ⟨w.heap.size + 1, 0, none⟩) (show w.heap.size ≤ w.heap.size + 1 by omega) (.int .i64 l)).setCell (p := ⟨w.heap.size + 1, 1, none⟩) (show w.heap.size ≤ w.heap.size + 1 by omega) (.int .i64 s)).setCell (p := ⟨w.heap.size + 1, 2, none⟩) (show w.heap.size ≤ w.heap.size + 1 by omega) (.slice A1 x1.length c1)).setCell (p := ⟨w.heap.size + 1, 3, none⟩) (show w.heap.size ≤ w.heap.size + 1 by omega) (.slice A2 x2.length c2)).setCell (p := ⟨w.heap.size + 1, 4, none⟩) (show w.heap.size ≤ w.heap.size + 1 by omega) (.slice Aq Y1.length cq)).setCell (p := ⟨w.heap.size + 1, 5, none⟩) (show w.heap.size ≤ w.heap.size + 1 by omega) (.slice none 0 0)).setCell (p := ⟨w.heap.size + 1, 6, none⟩) (show w.heap.size ≤ w.heap.size + 1 by omega) (.slice none 0 0)))
    have HD0 := Lib.hid d0
    have HD1 := Lib.hid d1
    have HD2 := Lib.hid d2
    have HD3 := Lib.hid d3
    have HD4 := Lib.hid d4
    have HD5 := Lib.hid d5
    have HD6 := Lib.hid d6
    have HQ := Lib.hid (own_grown HO.out T (fun a e e' => by have h1 := N a e; have h2 := Option.some.inj e'; omega))
    clear DD T d0 d1 d2 d3 d4 d5 d6
    go_wp2
    refine bodyPost_ret (l7Feed_res rfl rfl HD0.out HD1.out HD2.out HD3.out HD4.out HD5.out HD6.out) rfl ?_
    exact ⟨⟨Aq, cq, rfl, HQ.out⟩, HBf.out⟩
set_option maxRecDepth 100000 in
set_option maxHeartbeats 2000000 in
theorem l7Feed_more (l s : Int) (A1 : Option Addr) (c1 : Nat) (x1 : List Int) (A2 : Option Addr) (c2 : Nat) (x2 : List Int) (A3 : Option Addr) (c3 : Nat) (x3 : List Int) (A4 : Option Addr) (c4 : Nat) (x4 : List Int) (A5 : Option Addr) (c5 : Nat) (x5 : List Int) (ln : ByteArray) (w : World) (hr3 : Rd w w.heap.size A3 x3) (hn3 : x3.length ≤ 1000) (hln : ln.size ≤ 4000000000) (b : Bool) (hb : ((pars ln.data.toList).2 && seqOk (x3 ++ (pars ln.data.toList).1)) = b) :
    Calls Tryz.prog 76 #[.agg #[.int .i64 l, .int .i64 s, .slice A1 x1.length c1, .slice A2 x2.length c2, .slice A3 x3.length c3, .slice A4 x4.length c4, .slice A5 x5.length c5], .string ⟨#[109, 111, 114, 101]⟩, .string ln] w (RetFeed w #[.int .i64 l, .int .i64 s, .slice A1 x1.length c1, .slice A2 x2.length c2, .slice A3 x3.length c3, .slice A4 x4.length c4, .slice A5 x5.length c5] b (fun A c => #[.int .i64 l, .int .i64 s, .slice A1 x1.length c1, .slice A2 x2.length c2, .slice A (x3 ++ (pars ln.data.toList).1).length c, .slice A4 x4.length c4, .slice A5 x5.length c5]) (x3 ++ (pars ln.data.toList).1)) := by
  obtain ⟨W, hW⟩ : ∃ W, W = (w.alloc (.cells #[.int .i64 l, .int .i64 s, .slice A1 x1.length c1, .slice A2 x2.length c2, .slice A3 x3.length c3, .slice A4 x4.length c4, .slice A5 x5.length c5] 33)).alloc (.cells #[.int .i64 0, .int .i64 0, .slice none 0 0, .slice none 0 0, .slice none 0 0, .slice none 0 0, .slice none 0 0] 33) := ⟨_, rfl⟩
  have Hb : Hid (Below w.heap.size w W) := by rw [hW]; exact ((Below.refl _ _).alloc (Nat.le_refl _) _).alloc (by simp) _
  have BB : Blk W w.heap.size 33 #[.int .i64 l, .int .i64 s, .slice A1 x1.length c1, .slice A2 x2.length c2, .slice A3 x3.length c3, .slice A4 x4.length c4, .slice A5 x5.length c5] := by rw [hW]; exact (Blk.new w 33 #[.int .i64 l, .int .i64 s, .slice A1 x1.length c1, .slice A2 x2.length c2, .slice A3 x3.length c3, .slice A4 x4.length c4, .slice A5 x5.length c5]).alloc _
  have BR : Blk W (w.heap.size + 1) 33 #[.int .i64 0, .int .i64 0, .slice none 0 0, .slice none 0 0, .slice none 0 0, .slice none 0 0, .slice none 0 0] := by rw [hW]; have := Blk.new (w.alloc (.cells #[.int .i64 l, .int .i64 s, .slice A1 x1.length c1, .slice A2 x2.length c2, .slice A3 x3.length c3, .slice A4 x4.length c4, .slice A5 x5.length c5] 33)) 33 #[.int .i64 0, .int .i64 0, .slice none 0 0, .slice none 0 0, .slice none 0 0, .slice none 0 0, .slice none 0 0]; simpa using this
  have z0 : w.heap.size + 1 < W.heap.size := BR.lt
  have HR3 := Lib.hid hr3
  clear hr3
  have HC := Lib.hid (fun V => specPars_any ln V hln)
  have HLn := Lib.hid (pars_len ln.data.toList)
  obtain ⟨Y, hY⟩ : ∃ Y, Y = pars ln.data.toList := ⟨_, rfl⟩
  rw [← hY] at HC hb HLn ⊢
  obtain ⟨Y1, Y2⟩ := Y
  dsimp only at hb HLn ⊢
  clear hY
  obtain ⟨X, hX⟩ : ∃ X, X = x3 ++ Y1 := ⟨_, rfl⟩
  rw [← hX] at hb ⊢
  have HX := Lib.hid hX
  clear hX
  have HB := Lib.hid hb
  clear hb
  go_enter Tryz.func76, Tryz.ntmps76
  go_upto_region 1 with fail
  rw [← hW]
  clear hW
  go_wp2_with fail
  refine (HC.out _).mono ?_; rintro e w1 ⟨Aq, cq, rfl, Oq, h⟩
  replace BB := BB.past h
  replace BR := BR.past h
  replace Hb := Lib.hid (thenB Hb.out h)
  have HO := Lib.hid (own_mono Oq (show w.heap.size ≤ W.heap.size by omega))
  have z1 : W.heap.size ≤ w1.heap.size := h.size
  have N : ∀ a, Aq = some a → w.heap.size + 1 < a.block := fun a e => Nat.lt_of_lt_of_le z0 (own_lo Oq a e)
  clear h Oq HC
  cases Y2
  · have eb : b = false := by rw [← HB.out]; rfl
    subst eb
    have q0 := BB.cell 0; have g0 := BB.frozen 0; have q1 := BB.cell 1; have g1 := BB.frozen 1; have q2 := BB.cell 2; have g2 := BB.frozen 2; have q3 := BB.cell 3; have g3 := BB.frozen 3; have q4 := BB.cell 4; have g4 := BB.frozen 4; have q5 := BB.cell 5; have g5 := BB.frozen 5; have q6 := BB.cell 6; have g6 := BB.frozen 6; have p0 := BR.cell 0; have f0 := BR.frozen 0; have p1 := BR.cell 1; have f1 := BR.frozen 1; have p2 := BR.cell 2; have f2 := BR.frozen 2; have p3 := BR.cell 3; have f3 := BR.frozen 3; have p4 := BR.cell 4; have f4 := BR.frozen 4; have p5 := BR.cell 5; have f5 := BR.frozen 5; have p6 := BR.cell 6; have f6 := BR.frozen 6; simp at q0 p0 q1 p1 q2 p2 q3 p3 q4 p4 q5 p5 q6 p6
    have DD := (((((((BR.set_ 0 (.int .i64 l)).set_ 1 (.int .i64 s)).set_ 2 (.slice A1 x1.length c1)).set_ 3 (.slice A2 x2.length c2)).set_ 4 (.slice A3 x3.length c3)).set_ 5 (.slice A4 x4.length c4)).set_ 6 (.slice A5 x5.length c5))
    have d0 := DD.cell 0
    have d1 := DD.cell 1
    have d2 := DD.cell 2
    have d3 := DD.cell 3
    have d4 := DD.cell 4
    have d5 := DD.cell 5
    have d6 := DD.cell 6
    simp at d0 d1 d2 d3 d4 d5 d6
    have T := (turn_set (turn_set (turn_set (turn_set (turn_set (turn_set (turn_set (turn_refl w1 (w.heap.size + 1)) (p := ⟨w.heap.size + 1, 0, none⟩) rfl (.int .i64 l)) (p := ⟨w.heap.size + 1, 1, none⟩) rfl (.int .i64 s)) (p := ⟨w.heap.size + 1, 2, none⟩) rfl (.slice A1 x1.length c1)) (p := ⟨w.heap.size + 1, 3, none⟩) rfl (.slice A2 x2.length c2)) (p := ⟨w.heap.size + 1, 4, none⟩) rfl (.slice A3 x3.length c3)) (p := ⟨w.heap.size + 1, 5, none⟩) rfl (.slice A4 x4.length c4)) (p := ⟨w.heap.size + 1, 6, none⟩) rfl (.slice A5 x5.length c5))
    have HBf := Lib.hid ((((((((Hb.out.setCell (p := ⟨w.heap.size + 1, 0, none⟩) (show w.heap.size ≤ w.heap.size + 1 by omega) (.int .i64 l)).setCell (p := ⟨w.heap.size + 1, 1, none⟩) (show w.heap.size ≤ w.heap.size + 1 by omega) (.int .i64 s)).setCell (p := ⟨w.heap.size + 1, 2, none⟩) (show w.heap.size ≤ w.heap.size + 1 by omega) (.slice A1 x1.length c1)).setCell (p := ⟨w.heap.size + 1, 3, none⟩) (show w.heap.size ≤ w.heap.size + 1 by omega) (.slice A2 x2.length c2)).setCell (p := ⟨w.heap.size + 1, 4, none⟩) (show w.heap.size ≤ w.heap.size + 1 by omega) (.slice A3 x3.length c3)).setCell (p := ⟨w.heap.size + 1, 5, none⟩) (show w.heap.size ≤ w.heap.size + 1 by omega) (.slice A4 x4.length c4)).setCell (p := ⟨w.heap.size + 1, 6, none⟩) (show w.heap.size ≤ w.heap.size + 1 by omega) (.slice A5 x5.length c5)))
    have HD0 := Lib.hid d0
    have HD1 := Lib.hid d1
    have HD2 := Lib.hid d2
    have HD3 := Lib.hid d3
    have HD4 := Lib.hid d4
    have HD5 := Lib.hid d5
    have HD6 := Lib.hid d6
    skip
    clear DD T d0 d1 d2 d3 d4 d5 d6
    go_wp2
    refine bodyPost_ret (l7Feed_res rfl rfl HD0.out HD1.out HD2.out HD3.out HD4.out HD5.out HD6.out) rfl ?_
    exact ⟨rfl, HBf.out⟩
  · have eb : seqOk (x3 ++ Y1) = b := by rw [← HX.out]; exact HB.out
    have hT : twoB x3 Y1 = if b then (X, true) else ([], false) := by unfold twoB; rw [eb, HX.out]
    have HTw := Lib.hid hT
    clear hT eb
    have q0 := BB.cell 0; have g0 := BB.frozen 0; have q1 := BB.cell 1; have g1 := BB.frozen 1; have q2 := BB.cell 2; have g2 := BB.frozen 2; have q3 := BB.cell 3; have g3 := BB.frozen 3; have q4 := BB.cell 4; have g4 := BB.frozen 4; have q5 := BB.cell 5; have g5 := BB.frozen 5; have q6 := BB.cell 6; have g6 := BB.frozen 6; have p0 := BR.cell 0; have f0 := BR.frozen 0; have p1 := BR.cell 1; have f1 := BR.frozen 1; have p2 := BR.cell 2; have f2 := BR.frozen 2; have p3 := BR.cell 3; have f3 := BR.frozen 3; have p4 := BR.cell 4; have f4 := BR.frozen 4; have p5 := BR.cell 5; have f5 := BR.frozen 5; have p6 := BR.cell 6; have f6 := BR.frozen 6; simp at q0 p0 q1 p1 q2 p2 q3 p3 q4 p4 q5 p5 q6 p6
    have HC := Lib.hid (l7Two_any A3 c3 x3 Aq cq Y1 w1 (HR3.out.past Hb.out) (own_rd HO.out) hn3 HLn.out)
    go_wp2_with fail
    refine HC.out.mono ?_; rintro e w2 ⟨At, ct, rfl, Ot, h⟩
    replace BB := BB.past h
    replace BR := BR.past h
    replace Hb := Lib.hid (thenB Hb.out h)
    have N2 : ∀ a, At = some a → w.heap.size + 1 < a.block := fun a e => Nat.lt_of_lt_of_le (Nat.lt_of_lt_of_le z0 z1) (own_lo Ot a e)
    replace Ot := own_mono Ot (show w.heap.size ≤ w1.heap.size by omega)
    have e := HTw.out
    clear h HC q0 g0 p0 f0 q1 g1 p1 f1 q2 g2 p2 f2 q3 g3 p3 f3 q4 g4 p4 f4 q5 g5 p5 f5 q6 g6 p6 f6
    cases b
    · rw [if_neg (by decide)] at e
      rw [e] at Ot ⊢
      clear e
      have q0 := BB.cell 0; have g0 := BB.frozen 0; have q1 := BB.cell 1; have g1 := BB.frozen 1; have q2 := BB.cell 2; have g2 := BB.frozen 2; have q3 := BB.cell 3; have g3 := BB.frozen 3; have q4 := BB.cell 4; have g4 := BB.frozen 4; have q5 := BB.cell 5; have g5 := BB.frozen 5; have q6 := BB.cell 6; have g6 := BB.frozen 6; have p0 := BR.cell 0; have f0 := BR.frozen 0; have p1 := BR.cell 1; have f1 := BR.frozen 1; have p2 := BR.cell 2; have f2 := BR.frozen 2; have p3 := BR.cell 3; have f3 := BR.frozen 3; have p4 := BR.cell 4; have f4 := BR.frozen 4; have p5 := BR.cell 5; have f5 := BR.frozen 5; have p6 := BR.cell 6; have f6 := BR.frozen 6; simp at q0 p0 q1 p1 q2 p2 q3 p3 q4 p4 q5 p5 q6 p6
      have DD := (((((((BR.set_ 0 (.int .i64 l)).set_ 1 (.int .i64 s)).set_ 2 (.slice A1 x1.length c1)).set_ 3 (.slice A2 x2.length c2)).set_ 4 (.slice A3 x3.length c3)).set_ 5 (.slice A4 x4.length c4)).set_ 6 (.slice A5 x5.length c5))
      have d0 := DD.cell 0
      have d1 := DD.cell 1
      have d2 := DD.cell 2
      have d3 := DD.cell 3
      have d4 := DD.cell 4
      have d5 := DD.cell 5
      have d6 := DD.cell 6
      simp at d0 d1 d2 d3 d4 d5 d6
      have T := (turn_set (turn_set (turn_set (turn_set (turn_set (turn_set (turn_set (turn_refl w2 (w.heap.size + 1)) (p := ⟨w.heap.size + 1, 0, none⟩) rfl (.int .i64 l)) (p := ⟨w.heap.size + 1, 1, none⟩) rfl (.int .i64 s)) (p := ⟨w.heap.size + 1, 2, none⟩) rfl (.slice A1 x1.length c1)) (p := ⟨w.heap.size + 1, 3, none⟩) rfl (.slice A2 x2.length c2)) (p := ⟨w.heap.size + 1, 4, none⟩) rfl (.slice A3 x3.length c3)) (p := ⟨w.heap.size + 1, 5, none⟩) rfl (.slice A4 x4.length c4)) (p := ⟨w.heap.size + 1, 6, none⟩) rfl (.slice A5 x5.length c5))
      have HBf := Lib.hid ((((((((Hb.out.setCell (p := ⟨w.heap.size + 1, 0, none⟩) (show w.heap.size ≤ w.heap.size + 1 by omega) (.int .i64 l)).setCell (p := ⟨w.heap.size + 1, 1, none⟩) (show w.heap.size ≤ w.heap.size + 1 by omega) (.int .i64 s)).setCell (p := ⟨w.heap.size + 1, 2, none⟩) (show w.heap.size ≤ w.heap.size + 1 by omega) (.slice A1 x1.length c1)).setCell (p := ⟨w.heap.size + 1, 3, none⟩) (show w.heap.size ≤ w.heap.size + 1 by omega) (.slice A2 x2.length c2)).setCell (p := ⟨w.heap.size + 1, 4, none⟩) (show w.heap.size ≤ w.heap.size + 1 by omega) (.slice A3 x3.length c3)).setCell (p := ⟨w.heap.size + 1, 5, none⟩) (show w.heap.size ≤ w.heap.size + 1 by omega) (.slice A4 x4.length c4)).setCell (p := ⟨w.heap.size + 1, 6, none⟩) (show w.heap.size ≤ w.heap.size + 1 by omega) (.slice A5 x5.length c5)))
      have HD0 := Lib.hid d0
      have HD1 := Lib.hid d1
      have HD2 := Lib.hid d2
      have HD3 := Lib.hid d3
      have HD4 := Lib.hid d4
      have HD5 := Lib.hid d5
      have HD6 := Lib.hid d6
      skip
      clear DD T d0 d1 d2 d3 d4 d5 d6
      go_wp2
      refine bodyPost_ret (l7Feed_res rfl rfl HD0.out HD1.out HD2.out HD3.out HD4.out HD5.out HD6.out) rfl ?_
      exact ⟨rfl, HBf.out⟩
    · rw [if_pos rfl] at e
      rw [e] at Ot ⊢
      clear e
      have HO2 : Hid (Own w2 w.heap.size At ct X) := Ot
      clear Ot
      have q0 := BB.cell 0; have g0 := BB.frozen 0; have q1 := BB.cell 1; have g1 := BB.frozen 1; have q2 := BB.cell 2; have g2 := BB.frozen 2; have q3 := BB.cell 3; have g3 := BB.frozen 3; have q4 := BB.cell 4; have g4 := BB.frozen 4; have q5 := BB.cell 5; have g5 := BB.frozen 5; have q6 := BB.cell 6; have g6 := BB.frozen 6; have p0 := BR.cell 0; have f0 := BR.frozen 0; have p1 := BR.cell 1; have f1 := BR.frozen 1; have p2 := BR.cell 2; have f2 := BR.frozen 2; have p3 := BR.cell 3; have f3 := BR.frozen 3; have p4 := BR.cell 4; have f4 := BR.frozen 4; have p5 := BR.cell 5; have f5 := BR.frozen 5; have p6 := BR.cell 6; have f6 := BR.frozen 6; simp at q0 p0 q1 p1 q2 p2 q3 p3 q4 p4 q5 p5 q6 p6
      go_upto_region 13 with fail
      have T := (turn_set (turn_refl w2 w.heap.size) (p := ⟨w.heap.size, 4, none⟩) rfl (.slice At X.length ct))
      replace BB : Blk (w2.setCell ⟨w.heap.size, 4, none⟩ (.slice At X.length ct)) w.heap.size 33 #[.int .i64 l, .int .i64 s, .slice A1 x1.length c1, .slice A2 x2.length c2, .slice At X.length ct, .slice A4 x4.length c4, .slice A5 x5.length c5] := (BB.set_ 4 (.slice At X.length ct))
      replace BR := (BR.far (p := ⟨w.heap.size, 4, none⟩) (show w.heap.size + 1 ≠ w.heap.size by omega) (.slice At X.length ct))
      replace Hb := Lib.hid (Hb.out.setCell (p := ⟨w.heap.size, 4, none⟩) (Nat.le_refl _) (.slice At X.length ct))
      replace HO2 := Lib.hid (own_grown HO2.out T (fun a e e' => by have h1 := N2 a e; have h2 := Option.some.inj e'; omega))
      clear T q0 g0 p0 f0 q1 g1 p1 f1 q2 g2 p2 f2 q3 g3 p3 f3 q4 g4 p4 f4 q5 g5 p5 f5 q6 g6 p6 f6
      obtain ⟨w3, hw3⟩ : ∃ V, V = (w2.setCell ⟨w.heap.size, 4, none⟩ (.slice At X.length ct)) := ⟨_, rfl⟩
      rw [← hw3] at BB BR Hb HO2 ⊢
      clear hw3
      have q0 := BB.cell 0; have g0 := BB.frozen 0; have q1 := BB.cell 1; have g1 := BB.frozen 1; have q2 := BB.cell 2; have g2 := BB.frozen 2; have q3 := BB.cell 3; have g3 := BB.frozen 3; have q4 := BB.cell 4; have g4 := BB.frozen 4; have q5 := BB.cell 5; have g5 := BB.frozen 5; have q6 := BB.cell 6; have g6 := BB.frozen 6; have p0 := BR.cell 0; have f0 := BR.frozen 0; have p1 := BR.cell 1; have f1 := BR.frozen 1; have p2 := BR.cell 2; have f2 := BR.frozen 2; have p3 := BR.cell 3; have f3 := BR.frozen 3; have p4 := BR.cell 4; have f4 := BR.frozen 4; have p5 := BR.cell 5; have f5 := BR.frozen 5; have p6 := BR.cell 6; have f6 := BR.frozen 6; simp at q0 p0 q1 p1 q2 p2 q3 p3 q4 p4 q5 p5 q6 p6
      have DD := (((((((BR.set_ 0 (.int .i64 l)).set_ 1 (.int .i64 s)).set_ 2 (.slice A1 x1.length c1)).set_ 3 (.slice A2 x2.length c2)).set_ 4 (.slice At X.length ct)).set_ 5 (.slice A4 x4.length c4)).set_ 6 (.slice A5 x5.length c5))
      have d0 := DD.cell 0
      have d1 := DD.cell 1
      have d2 := DD.cell 2
      have d3 := DD.cell 3
      have d4 := DD.cell 4
      have d5 := DD.cell 5
      have d6 := DD.cell 6
      simp at d0 d1 d2 d3 d4 d5 d6
      have T := (turn_set (turn_set (turn_set (turn_set (turn_set (turn_set (turn_set (turn_refl w3 (w.heap.size + 1)) (p := ⟨w.heap.size + 1, 0, none⟩) rfl (.int .i64 l)) (p := ⟨w.heap.size + 1, 1, none⟩) rfl (.int .i64 s)) (p := ⟨w.heap.size + 1, 2, none⟩) rfl (.slice A1 x1.length c1)) (p := ⟨w.heap.size + 1, 3, none⟩) rfl (.slice A2 x2.length c2)) (p := ⟨w.heap.size + 1, 4, none⟩) rfl (.slice At X.length ct)) (p := ⟨w.heap.size + 1, 5, none⟩) rfl (.slice A4 x4.length c4)) (p := ⟨w.heap.size + 1, 6, none⟩) rfl (.slice A5 x5.length c5))
      have HBf := Lib.hid ((((((((Hb.out.setCell (p := ⟨w.heap.size + 1, 0, none⟩) (show w.heap.size ≤ w.heap.size + 1 by omega) (.int .i64 l)).setCell (p := ⟨w.heap.size + 1, 1, none⟩) (show w.heap.size ≤ w.heap.size + 1 by omega) (.int .i64 s)).setCell (p := ⟨w.heap.size + 1, 2, none⟩) (show w.heap.size ≤ w.heap.size + 1 by omega) (.slice A1 x1.length c1)).setCell (p := ⟨w.heap.size + 1, 3, none⟩) (show w.heap.size ≤ w.heap.size + 1 by omega) (.slice A2 x2.length c2)).setCell (p := ⟨w.heap.size + 1, 4, none⟩) (show w.heap.size ≤ w.heap.size + 1 by omega) (.slice At X.length ct)).setCell (p := ⟨w.heap.size + 1, 5, none⟩) (show w.heap.size ≤ w.heap.size + 1 by omega) (.slice A4 x4.length c4)).setCell (p := ⟨w.heap.size + 1, 6, none⟩) (show w.heap.size ≤ w.heap.size + 1 by omega) (.slice A5 x5.length c5)))
      have HD0 := Lib.hid d0
      have HD1 := Lib.hid d1
      have HD2 := Lib.hid d2
      have HD3 := Lib.hid d3
      have HD4 := Lib.hid d4
      have HD5 := Lib.hid d5
      have HD6 := Lib.hid d6
      have HQ := Lib.hid (own_grown HO2.out T (fun a e e' => by have h1 := N2 a e; have h2 := Option.some.inj e'; omega))
      clear DD T d0 d1 d2 d3 d4 d5 d6
      go_wp2
      refine bodyPost_ret (l7Feed_res rfl rfl HD0.out HD1.out HD2.out HD3.out HD4.out HD5.out HD6.out) rfl ?_
      exact ⟨⟨At, ct, rfl, HQ.out⟩, HBf.out⟩
end Go.Proofs.YtgkijkenbjjnmaaGreatDoor
