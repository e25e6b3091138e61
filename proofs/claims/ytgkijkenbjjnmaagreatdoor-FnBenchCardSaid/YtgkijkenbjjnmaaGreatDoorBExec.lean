/- Contract of the program's ExecuteLine. (Printed by mkexec.py.) -/
import Derived.Test.YtgkijkenbjjnmaaGreatDoorBFeed
import Derived.Test.YtgkijkenbjjnmaaGreatDoorParM
namespace Go.Proofs.YtgkijkenbjjnmaaGreatDoor
open Go.RowKit
set_option linter.unusedVariables false
set_option linter.unusedSimpArgs false
theorem cutT_len (l : List UInt8) : (cutT l).length ≤ l.length := by
  unfold cutT
  rw [List.length_drop]
  have := (List.dropWhile_suffix (· != 32) (l := l)).length_le
  omega
section
variable {w W : World} {l s : Int} {A1 : Option Addr} {c1 : Nat} {x1 : List Int} {A2 : Option Addr} {c2 : Nat} {x2 : List Int} {A3 : Option Addr} {c3 : Nat} {x3 : List Int} {A4 : Option Addr} {c4 : Nat} {x4 : List Int} {A5 : Option Addr} {c5 : Nat} {x5 : List Int}
theorem Bx.nil1 (h : Bx w W l s A1 c1 x1 A2 c2 x2 A3 c3 x3 A4 c4 x4 A5 c5 x5) : Bx w (W.setCell ⟨w.heap.size, 2, none⟩ (.slice none 0 0)) l s none 0 [] A2 c2 x2 A3 c3 x3 A4 c4 x4 A5 c5 x5 :=
  h.set1 (own_nil _ _) (fun a e => by cases e) (apart_none _) (apart_none _) (apart_none _) (apart_none _)
theorem Bx.nil2 (h : Bx w W l s A1 c1 x1 A2 c2 x2 A3 c3 x3 A4 c4 x4 A5 c5 x5) : Bx w (W.setCell ⟨w.heap.size, 3, none⟩ (.slice none 0 0)) l s A1 c1 x1 none 0 [] A3 c3 x3 A4 c4 x4 A5 c5 x5 :=
  h.set2 (own_nil _ _) (fun a e => by cases e) (apart_none _) (apart_none _) (apart_none _) (apart_none _)
theorem Bx.nil3 (h : Bx w W l s A1 c1 x1 A2 c2 x2 A3 c3 x3 A4 c4 x4 A5 c5 x5) : Bx w (W.setCell ⟨w.heap.size, 4, none⟩ (.slice none 0 0)) l s A1 c1 x1 A2 c2 x2 none 0 [] A4 c4 x4 A5 c5 x5 :=
  h.set3 (own_nil _ _) (fun a e => by cases e) (apart_none _) (apart_none _) (apart_none _) (apart_none _)
theorem Bx.nil4 (h : Bx w W l s A1 c1 x1 A2 c2 x2 A3 c3 x3 A4 c4 x4 A5 c5 x5) : Bx w (W.setCell ⟨w.heap.size, 5, none⟩ (.slice none 0 0)) l s A1 c1 x1 A2 c2 x2 A3 c3 x3 none 0 [] A5 c5 x5 :=
  h.set4 (own_nil _ _) (fun a e => by cases e) (apart_none _) (apart_none _) (apart_none _) (apart_none _)
theorem Bx.nil5 (h : Bx w W l s A1 c1 x1 A2 c2 x2 A3 c3 x3 A4 c4 x4 A5 c5 x5) : Bx w (W.setCell ⟨w.heap.size, 6, none⟩ (.slice none 0 0)) l s A1 c1 x1 A2 c2 x2 A3 c3 x3 A4 c4 x4 none 0 [] :=
  h.set5 (own_nil _ _) (fun a e => by cases e) (apart_none _) (apart_none _) (apart_none _) (apart_none _)
end
theorem own_set1 {w W : World} {B c : Nat} {A : Option Addr} {x : List Int} (o : Own W B A c x) (n : ∀ a, A = some a → w.heap.size + 1 < a.block) (i : Nat) (v : Value) : Own (W.setCell ⟨w.heap.size, i, none⟩ v) B A c x :=
  own_grown o (turn_set (turn_refl W w.heap.size) (p := ⟨w.heap.size, i, none⟩) rfl v) (fun a e e' => by have h1 := n a e; have h2 := Option.some.inj e'; omega)
theorem implExec_res {tmps : Array Value} {g : Nat} {w : World} {v0 v1 v2 v3 v4 v5 v6 t : Value} (hp : tmps.getD 4 undef = .pointer (some ⟨g, 0, none⟩)) (hb : tmps.getD 5 undef = t) (c0 : w.cell? ⟨g, 0, none⟩ = some v0) (c1 : w.cell? ⟨g, 1, none⟩ = some v1) (c2 : w.cell? ⟨g, 2, none⟩ = some v2) (c3 : w.cell? ⟨g, 3, none⟩ = some v3) (c4 : w.cell? ⟨g, 4, none⟩ = some v4) (c5 : w.cell? ⟨g, 5, none⟩ = some v5) (c6 : w.cell? ⟨g, 6, none⟩ = some v6) :
    (results Tryz.f11 tmps).run Tryz.prog w = .ok (.tuple #[.agg #[v0, v1, v2, v3, v4, v5, v6], t]) w := by
  have hp' := hp
  have hb' := hb
  simp at hp' hb'
  simp only [results, Tryz.results11]
  simp [go_sem, hp', hb', c0, c1, c2, c3, c4, c5, c6]
set_option maxRecDepth 100000 in
set_option maxHeartbeats 8000000 in
theorem implExec_any (l s : Int) (B1 B2 B3 B4 B5 : Option Addr) (d1 d2 d3 d4 d5 : Nat) (x1 x2 x3 x4 x5 : List Int) (ln : ByteArray) (w : World) (hr1 : Rd w w.heap.size B1 x1) (hr2 : Rd w w.heap.size B2 x2) (hr3 : Rd w w.heap.size B3 x3) (hr4 : Rd w w.heap.size B4 x4) (hr5 : Rd w w.heap.size B5 x5) (hn1 : x1.length ≤ 1048576) (hn2 : x2.length ≤ 1048576) (hn3 : x3.length ≤ 1048576) (hn4 : x4.length ≤ 1048576) (hn5 : x5.length ≤ 1048576) (hln : ln.size ≤ 4000000000) :
    Calls Tryz.prog 11 #[.agg #[.int .i64 l, .int .i64 s, .slice B1 x1.length d1, .slice B2 x2.length d2, .slice B3 x3.length d3, .slice B4 x4.length d4, .slice B5 x5.length d5], .string ln] w (RetBS w (exec ⟨l, s, x1, x2, x3, x4, x5⟩ ln.data.toList)) := by
  obtain ⟨W, hW⟩ : ∃ W, W = (w.alloc (.cells #[.int .i64 l, .int .i64 s, .slice B1 x1.length d1, .slice B2 x2.length d2, .slice B3 x3.length d3, .slice B4 x4.length d4, .slice B5 x5.length d5] 33)).alloc (.cells #[.int .i64 0, .int .i64 0, .slice none 0 0, .slice none 0 0, .slice none 0 0, .slice none 0 0, .slice none 0 0] 33) := ⟨_, rfl⟩
  have Hb : Hid (Below w.heap.size w W) := by rw [hW]; exact ((Below.refl _ _).alloc (Nat.le_refl _) _).alloc (by simp) _
  have BB : Blk W w.heap.size 33 #[.int .i64 l, .int .i64 s, .slice B1 x1.length d1, .slice B2 x2.length d2, .slice B3 x3.length d3, .slice B4 x4.length d4, .slice B5 x5.length d5] := by rw [hW]; exact (Blk.new w 33 #[.int .i64 l, .int .i64 s, .slice B1 x1.length d1, .slice B2 x2.length d2, .slice B3 x3.length d3, .slice B4 x4.length d4, .slice B5 x5.length d5]).alloc _
  have BR : Blk W (w.heap.size + 1) 33 #[.int .i64 0, .int .i64 0, .slice none 0 0, .slice none 0 0, .slice none 0 0, .slice none 0 0, .slice none 0 0] := by rw [hW]; have := Blk.new (w.alloc (.cells #[.int .i64 l, .int .i64 s, .slice B1 x1.length d1, .slice B2 x2.length d2, .slice B3 x3.length d3, .slice B4 x4.length d4, .slice B5 x5.length d5] 33)) 33 #[.int .i64 0, .int .i64 0, .slice none 0 0, .slice none 0 0, .slice none 0 0, .slice none 0 0, .slice none 0 0]; simpa using this
  have z0 : w.heap.size + 1 < W.heap.size := BR.lt
  have Hr1 := Lib.hid hr1
  have Hr2 := Lib.hid hr2
  have Hr3 := Lib.hid hr3
  have Hr4 := Lib.hid hr4
  have Hr5 := Lib.hid hr5
  have Hn1 := Lib.hid hn1
  have Hn2 := Lib.hid hn2
  have Hn3 := Lib.hid hn3
  have Hn4 := Lib.hid hn4
  have Hn5 := Lib.hid hn5
  have HL := Lib.hid hln
  clear hr1 hr2 hr3 hr4 hr5 hn1 hn2 hn3 hn4 hn5 hln
  go_enter Tryz.func11, Tryz.ntmps11
  go_upto_region 1 with fail
  rw [← hW]
  clear hW
  have q0 := BB.cell 0; have q1 := BB.cell 1; have q2 := BB.cell 2; have q3 := BB.cell 3; have q4 := BB.cell 4; have q5 := BB.cell 5; have q6 := BB.cell 6; simp at q0 q1 q2 q3 q4 q5 q6
  go_wp2_with fail
  refine (implCopyB_any l s B1 B2 B3 B4 B5 d1 d2 d3 d4 d5 x1 x2 x3 x4 x5 _ (Hr1.out.past Hb.out) (Hr2.out.past Hb.out) (Hr3.out.past Hb.out) (Hr4.out.past Hb.out) (Hr5.out.past Hb.out) Hn1.out Hn2.out Hn3.out Hn4.out Hn5.out).mono ?_
  rintro e w1 ⟨A1, c1, A2, c2, A3, c3, A4, c4, A5, c5, rfl, O1, O2, O3, O4, O5, P12, P13, P14, P15, P23, P24, P25, P34, P35, P45, h⟩
  replace BB := BB.past h
  replace BR := BR.past h
  replace Hb := Lib.hid (thenB Hb.out h)
  clear h q0 q1 q2 q3 q4 q5 q6
  have q0 := BB.cell 0; have g0 := BB.frozen 0; have q1 := BB.cell 1; have g1 := BB.frozen 1; have q2 := BB.cell 2; have g2 := BB.frozen 2; have q3 := BB.cell 3; have g3 := BB.frozen 3; have q4 := BB.cell 4; have g4 := BB.frozen 4; have q5 := BB.cell 5; have g5 := BB.frozen 5; have q6 := BB.cell 6; have g6 := BB.frozen 6; simp at q0 q1 q2 q3 q4 q5 q6
  go_upto_region 2 with fail
  have HX := Bx.start (l := l) (s := s) BB BR z0 O1 O2 O3 O4 O5 P12 P13 P14 P15 P23 P24 P25 P34 P35 P45 Hb.out
  obtain ⟨v1, hw⟩ : ∃ V, V = (((((((w1.setCell ⟨w.heap.size, 0, none⟩ (.int .i64 (l))).setCell ⟨w.heap.size, 1, none⟩ (.int .i64 (s))).setCell ⟨w.heap.size, 2, none⟩ (.slice A1 (x1).length c1)).setCell ⟨w.heap.size, 3, none⟩ (.slice A2 (x2).length c2)).setCell ⟨w.heap.size, 4, none⟩ (.slice A3 (x3).length c3)).setCell ⟨w.heap.size, 5, none⟩ (.slice A4 (x4).length c4)).setCell ⟨w.heap.size, 6, none⟩ (.slice A5 (x5).length c5)) := ⟨_, rfl⟩
  rw [← hw] at HX ⊢
  clear hw BB BR Hb O1 O2 O3 O4 O5 P12 P13 P14 P15 P23 P24 P25 P34 P35 P45
  clear q0 q1 q2 q3 q4 q5 q6 g0 g1 g2 g3 g4 g5 g6
  obtain ⟨q0, q1, q2, q3, q4, q5, q6⟩ := HX.get
  go_wp2_with fail
  refine (implIsBench_any l s A1 A2 A3 A4 A5 c1 c2 c3 c4 c5 x1 x2 x3 x4 x5 _ (own_rd HX.o1) (own_rd HX.o2) (own_rd HX.o3) (own_rd HX.o4) (own_rd HX.o5) Hn1.out Hn2.out Hn3.out Hn4.out Hn5.out).mono ?_; rintro e v2 ⟨rfl, h⟩
  replace HX := HX.past h
  clear h
  clear q0 q1 q2 q3 q4 q5 q6
  rcases Bool.eq_false_or_eq_true (benchOk l s x1 x2 x3 x4 x5) with hok | hok
  rotate_left
  · rw [hok]
    have HE := Lib.hid (exec_bad (X := ⟨l, s, x1, x2, x3, x4, x5⟩) (l := ln.data.toList) hok)
    clear hok
    obtain ⟨q0, q1, q2, q3, q4, q5, q6⟩ := HX.get
    obtain ⟨p0, p1, p2, p3, p4, p5, p6⟩ := HX.res
    obtain ⟨f0, f1, f2, f3, f4, f5, f6⟩ := HX.resF
    obtain ⟨d0, d1, d2, d3, d4, d5, d6, hd⟩ := HX.done (noT)
    have D0 := Lib.hid d0
    have D1 := Lib.hid d1
    have D2 := Lib.hid d2
    have D3 := Lib.hid d3
    have D4 := Lib.hid d4
    have D5 := Lib.hid d5
    have D6 := Lib.hid d6
    have HF := Lib.hid hd
    clear hd d0 d1 d2 d3 d4 d5 d6
    go_wp2
    refine bodyPost_ret (implExec_res rfl rfl D0.out D1.out D2.out D3.out D4.out D5.out D6.out) rfl ?_
    rw [HE.out]
    exact HF.out
  rw [hok]
  have HOK : Hid (Be.ok ⟨l, s, x1, x2, x3, x4, x5⟩ = true) := hok
  obtain ⟨hm, hs3, hs4, hs5⟩ : memOk l s x1 x2 = true ∧ seqOk x3 = true ∧ seqOk x4 = true ∧ seqOk x5 = true := ok_parts HOK.out
  have HM := Lib.hid hm
  have HMo := Lib.hid (mem_parts hm).1
  have HS3 := Lib.hid hs3
  have HS4 := Lib.hid hs4
  have HS5 := Lib.hid hs5
  have HB := Lib.hid hok
  clear hm hs3 hs4 hs5 hok
  have HP := Lib.hid (fun V => implParM_any ln V HL.out)
  have HE0 := Lib.hid (fun h => exec_mod (X := ⟨l, s, x1, x2, x3, x4, x5⟩) (l := ln.data.toList) HOK.out h)
  have HE1 := Lib.hid (fun h => exec_food (X := ⟨l, s, x1, x2, x3, x4, x5⟩) (l := ln.data.toList) HOK.out h)
  have HQ := Lib.hid (fun h => (parm_ok (l := ln.data.toList) h).1)
  obtain ⟨M, hM⟩ : ∃ M, M = parm ln.data.toList := ⟨_, rfl⟩
  rw [← hM] at HP HE0 HE1 HQ
  clear hM
  obtain ⟨ml, ms, mc, mo⟩ := M
  obtain ⟨q0, q1, q2, q3, q4, q5, q6⟩ := HX.get
  go_wp2_with fail
  refine (HP.out _).mono ?_; rintro e v3 ⟨Am, cm, rfl, Om, h⟩
  dsimp only at Om ⊢
  obtain ⟨om, nm, am1, am2, am3, am4, am5⟩ := HX.fresh h Om
  replace HX := HX.past h
  clear h Om HP
  clear q0 q1 q2 q3 q4 q5 q6
  have bx : Below v3.heap.size v3 (v3.alloc (.cells #[.int .i64 ml, .int .i64 ms, .slice Am mc.length cm] 27)) := (Below.refl _ _).alloc (Nat.le_refl _) _
  have BM := Blk.new v3 27 #[.int .i64 ml, .int .i64 ms, .slice Am mc.length cm]
  have zm : w.heap.size < v3.heap.size := by have := HX.lt; omega
  have gmm : ∀ a, Am = some a → a.block ≠ v3.heap.size := fun a e => Nat.ne_of_lt (own_hi om a e)
  replace HX := HX.past bx
  replace om := own_past om bx
  clear bx
  go_upto_region 5 with fail
  obtain ⟨v4, hw⟩ : ∃ V, V = (v3.alloc (.cells #[.int .i64 ml, .int .i64 ms, .slice Am mc.length cm] 27)) := ⟨_, rfl⟩
  rw [← hw] at HX BM om ⊢
  clear hw
  obtain ⟨g, hg⟩ : ∃ g, g = v3.heap.size := ⟨_, rfl⟩
  rw [← hg] at BM zm gmm ⊢
  clear hg
  cases mo
  rotate_left
  · have HE := Lib.hid (HE0.out rfl)
    have HMm : Hid (modOk ml ms mc = true) := HQ.out rfl
    clear HE0 HE1 HQ
    have b0 := BM.cell 0; have b1 := BM.cell 1; have b2 := BM.cell 2; simp at b0 b1 b2
    obtain ⟨q0, q1, q2, q3, q4, q5, q6⟩ := HX.get
    obtain ⟨g0, g1, g2, g3, g4, g5, g6⟩ := HX.getF
    go_upto_region 7 with fail
    replace HX := HX.setM (l' := ml) (s' := ms) om nm am2 am3 am4 am5
    replace BM := BM.far (p := ⟨w.heap.size, 0, none⟩) (Nat.ne_of_gt zm) (.int .i64 ml)
    replace BM := BM.far (p := ⟨w.heap.size, 1, none⟩) (Nat.ne_of_gt zm) (.int .i64 ms)
    replace BM := BM.far (p := ⟨w.heap.size, 2, none⟩) (Nat.ne_of_gt zm) (.slice Am mc.length cm)
    clear b0 b1 b2 om nm am1 am2 am3 am4 am5
    clear q0 q1 q2 q3 q4 q5 q6 g0 g1 g2 g3 g4 g5 g6
    obtain ⟨v5, hw⟩ : ∃ V, V = (((v4.setCell ⟨w.heap.size, 0, none⟩ (.int .i64 ml)).setCell ⟨w.heap.size, 1, none⟩ (.int .i64 ms)).setCell ⟨w.heap.size, 2, none⟩ (.slice Am mc.length cm)) := ⟨_, rfl⟩
    rw [← hw] at HX BM ⊢
    clear hw
    have b0 := BM.cell 0; have b1 := BM.cell 1; have b2 := BM.cell 2; simp at b0 b1 b2
    obtain ⟨q0, q1, q2, q3, q4, q5, q6⟩ := HX.get
    go_wp2_with fail
    refine (implPlain_yes (ml) (ms) Am cm (mc) _ (own_rd HX.o1) HMm.out).mono ?_; rintro e v6 ⟨Ap, cp, rfl, Op, h⟩
    obtain ⟨op, np, ap1, ap2, ap3, ap4, ap5⟩ := HX.fresh h Op
    replace HX := HX.past h
    clear h Op BM b0 b1 b2
    clear q0 q1 q2 q3 q4 q5 q6
    obtain ⟨q0, q1, q2, q3, q4, q5, q6⟩ := HX.get
    obtain ⟨g0, g1, g2, g3, g4, g5, g6⟩ := HX.getF
    rw [List.length_replicate]
    have hrl : (List.replicate mc.length (0 : Int)).length = mc.length := List.length_replicate
    obtain ⟨zr, hzr⟩ : ∃ zr : List Int, zr = List.replicate mc.length 0 := ⟨_, rfl⟩
    rw [← hzr] at op hrl
    have HZ := Lib.hid hzr
    clear hzr
    go_upto_region 8 with fail
    replace HX := HX.set2 op np ap1 ap3 ap4 ap5
    rw [hrl] at HX
    obtain ⟨v7, hw⟩ : ∃ V, V = (v6.setCell ⟨w.heap.size, 3, none⟩ (.slice Ap mc.length cp)) := ⟨_, rfl⟩
    rw [← hw] at HX ⊢
    clear hw op np ap1 ap2 ap3 ap4 ap5
    clear q0 q1 q2 q3 q4 q5 q6 g0 g1 g2 g3 g4 g5 g6
    have HE2 : Hid (exec ⟨l, s, x1, x2, x3, x4, x5⟩ ln.data.toList = (⟨ml, ms, mc, zr, x3, x4, x5⟩, okT)) := by show _ = _; rw [HE.out, HZ.out]; rfl
    have HRl := Lib.hid hrl
    clear hrl
    obtain ⟨q0, q1, q2, q3, q4, q5, q6⟩ := HX.get
    obtain ⟨p0, p1, p2, p3, p4, p5, p6⟩ := HX.res
    obtain ⟨f0, f1, f2, f3, f4, f5, f6⟩ := HX.resF
    obtain ⟨d0, d1, d2, d3, d4, d5, d6, hd⟩ := HX.done (okT)
    have D0 := Lib.hid d0
    have D1 := Lib.hid d1
    have D2 := Lib.hid d2
    have D3 := Lib.hid d3
    have D4 := Lib.hid d4
    have D5 := Lib.hid d5
    have D6 := Lib.hid d6
    have HF := Lib.hid hd
    clear hd d0 d1 d2 d3 d4 d5 d6
    go_wp2
    refine bodyPost_ret (implExec_res rfl rfl D0.out D1.out D2.out D3.out D4.out D5.out D6.out) rfl ?_
    rw [HE2.out]
    exact HF.out
  have HE := Lib.hid (HE1.out rfl)
  clear HE0 HE1 HQ om nm am1 am2 am3 am4 am5 gmm zm BM
  have HC := Lib.hid (fun V => cut_any ln V HL.out)
  have hwt : (cutT ln.data.toList).length ≤ 4000000000 := by have h1 := sizeL ln; have h2 := HL.out; have h3 := cutT_len ln.data.toList; omega
  have HF0 : Hid (execF ⟨l, s, x1, x2, x3, x4, x5⟩ ln.data.toList = execF ⟨l, s, x1, x2, x3, x4, x5⟩ ln.data.toList) := rfl
  obtain ⟨tx, htx⟩ : ∃ t, t = cutT ln.data.toList := ⟨_, rfl⟩
  obtain ⟨wd, hwd⟩ : ∃ t, t = cutW ln.data.toList := ⟨_, rfl⟩
  have hxF : execF ⟨l, s, x1, x2, x3, x4, x5⟩ ln.data.toList = (if wd = tIn then (if (pars tx).2 then (fedIn ⟨l, s, x1, x2, x3, x4, x5⟩ (pars tx).1, okT) else (⟨l, s, x1, x2, x3, x4, x5⟩, noT)) else if wd = tMore then (if (pars tx).2 && seqOk (x3 ++ (pars tx).1) then (fedMore ⟨l, s, x1, x2, x3, x4, x5⟩ (pars tx).1, okT) else (⟨l, s, x1, x2, x3, x4, x5⟩, noT)) else execR ⟨l, s, x1, x2, x3, x4, x5⟩ ln.data.toList) := by rw [htx, hwd]; rfl
  have HXF := Lib.hid hxF
  clear hxF HF0
  have hcut : ∀ V, Calls Tryz.prog 46 #[.string ln, .string ⟨#[32]⟩] V (fun e w' => (∃ b, e = .returned (.tuple #[.string (bs wd), .string (bs tx), .bool b])) ∧ Below V.heap.size V w') := fun V => by rw [htx, hwd]; exact HC.out V
  have HCut := Lib.hid hcut
  rw [← htx] at hwt
  clear hcut HC htx hwd
  go_wp2_with fail
  refine (HCut.out _).mono ?_; rintro e v5 ⟨⟨cb, rfl⟩, h⟩
  replace HX := HX.past h
  clear h HCut
  have ebs : ∀ l : List UInt8, (bs l).data.toList = l := fun l => by simp [bs]
  have HBs := Lib.hid ebs
  clear ebs
  by_cases hin : wd = tIn
  · have HE2 := HE.out
    rw [HXF.out, if_pos hin] at HE2
    have t1 : ((bs wd).toList == [105, 110]) = true := by rw [ByteArray.toList_eq, HBs.out, hin]; rfl
    have t2 : ((bs wd).toList == [109, 111, 114, 101]) = false := str_ne _ _ (by rw [HBs.out, hin]; decide)
    have HPa := Lib.hid (fun V => implPars_any (bs tx) V (by rw [bs_size]; exact hwt))
    rw [HBs.out] at HPa
    have HSq := Lib.hid (fun h => pars_seq (l := tx) h)
    have HLn := Lib.hid (pars_len tx)
    obtain ⟨Y, hY⟩ : ∃ Y, Y = pars tx := ⟨_, rfl⟩
    rw [← hY] at HE2 HPa HSq HLn
    obtain ⟨Y1, Y2⟩ := Y
    have HE3 := Lib.hid HE2
    clear HE2 hY hin HE HXF
    go_wp2_with fail
    refine (HPa.out _).mono ?_; rintro e v6 ⟨Ay, cy, rfl, Oy, h⟩
    dsimp only at Oy ⊢
    obtain ⟨oy, ny, ay1, ay2, ay3, ay4, ay5⟩ := HX.fresh h Oy
    replace HX := HX.past h
    clear h Oy HPa
    cases Y2
    · have HE4 : Hid (exec ⟨l, s, x1, x2, x3, x4, x5⟩ ln.data.toList = (⟨l, s, x1, x2, x3, x4, x5⟩, noT)) := HE3.out
      obtain ⟨q0, q1, q2, q3, q4, q5, q6⟩ := HX.get
      obtain ⟨p0, p1, p2, p3, p4, p5, p6⟩ := HX.res
      obtain ⟨f0, f1, f2, f3, f4, f5, f6⟩ := HX.resF
      obtain ⟨d0, d1, d2, d3, d4, d5, d6, hd⟩ := HX.done (noT)
      have D0 := Lib.hid d0
      have D1 := Lib.hid d1
      have D2 := Lib.hid d2
      have D3 := Lib.hid d3
      have D4 := Lib.hid d4
      have D5 := Lib.hid d5
      have D6 := Lib.hid d6
      have HF := Lib.hid hd
      clear hd d0 d1 d2 d3 d4 d5 d6
      go_wp2
      refine bodyPost_ret (implExec_res rfl rfl D0.out D1.out D2.out D3.out D4.out D5.out D6.out) rfl ?_
      rw [HE4.out]
      exact HF.out
    · have HE4 : Hid (exec ⟨l, s, x1, x2, x3, x4, x5⟩ ln.data.toList = (fedIn ⟨l, s, x1, x2, x3, x4, x5⟩ Y1, okT)) := HE3.out
      have hsq : seqOk Y1 = true := HSq.out rfl
      have HSY := Lib.hid hsq
      have HLy : Hid (Y1.length ≤ 1000) := HLn.out
      clear hsq HSq HLn HE3
      go_wp2_with fail
      refine (implIsSequence_any _ _ _ _ (own_rd oy) (by have := HLy.out; omega)).mono ?_; rintro e u ⟨rfl, rfl⟩
      rw [HSY.out]
      obtain ⟨q0, q1, q2, q3, q4, q5, q6⟩ := HX.get
      obtain ⟨g0, g1, g2, g3, g4, g5, g6⟩ := HX.getF
      go_upto_region 22 with fail
      replace HX := HX.set3 oy ny ay1 ay2 ay4 ay5
      replace HX := HX.nil4 
      replace HX := HX.nil5 
      obtain ⟨v7, hw⟩ : ∃ V, V = (((v6.setCell ⟨w.heap.size, 4, none⟩ (.slice Ay Y1.length cy)).setCell ⟨w.heap.size, 5, none⟩ (.slice none 0 0)).setCell ⟨w.heap.size, 6, none⟩ (.slice none 0 0)) := ⟨_, rfl⟩
      rw [← hw] at HX  ⊢
      clear hw
      clear oy ny ay1 ay2 ay3 ay4 ay5
      clear q0 q1 q2 q3 q4 q5 q6 g0 g1 g2 g3 g4 g5 g6
      obtain ⟨q0, q1, q2, q3, q4, q5, q6⟩ := HX.get
      obtain ⟨p0, p1, p2, p3, p4, p5, p6⟩ := HX.res
      obtain ⟨f0, f1, f2, f3, f4, f5, f6⟩ := HX.resF
      obtain ⟨d0, d1, d2, d3, d4, d5, d6, hd⟩ := HX.done (okT)
      have D0 := Lib.hid d0
      have D1 := Lib.hid d1
      have D2 := Lib.hid d2
      have D3 := Lib.hid d3
      have D4 := Lib.hid d4
      have D5 := Lib.hid d5
      have D6 := Lib.hid d6
      have HF := Lib.hid hd
      clear hd d0 d1 d2 d3 d4 d5 d6
      go_wp2
      refine bodyPost_ret (implExec_res rfl rfl D0.out D1.out D2.out D3.out D4.out D5.out D6.out) rfl ?_
      rw [HE4.out]
      exact HF.out
  by_cases hmo : wd = tMore
  · have HE2 := HE.out
    rw [HXF.out, if_neg hin, if_pos hmo] at HE2
    have t1 : ((bs wd).toList == [105, 110]) = false := str_ne _ _ (by rw [HBs.out, hmo]; decide)
    have t2 : ((bs wd).toList == [109, 111, 114, 101]) = true := by rw [ByteArray.toList_eq, HBs.out, hmo]; rfl
    have HPa := Lib.hid (fun V => implPars_any (bs tx) V (by rw [bs_size]; exact hwt))
    rw [HBs.out] at HPa
    have HLn := Lib.hid (pars_len tx)
    obtain ⟨Y, hY⟩ : ∃ Y, Y = pars tx := ⟨_, rfl⟩
    rw [← hY] at HE2 HPa HLn
    obtain ⟨Y1, Y2⟩ := Y
    have HE3 := Lib.hid HE2
    clear HE2 hY hin hmo HE HXF
    go_wp2_with fail
    refine (HPa.out _).mono ?_; rintro e v6 ⟨Ay, cy, rfl, Oy, h⟩
    dsimp only at Oy ⊢
    replace HX := HX.past h
    have HLy : Hid (Y1.length ≤ 1000) := HLn.out
    have HL3 := Lib.hid (seqOk_len HS3.out)
    clear h HPa HLn
    obtain ⟨q0, q1, q2, q3, q4, q5, q6⟩ := HX.get
    go_wp2_with fail
    refine (clone_any A3 c3 x3 _ (own_rd HX.o3) (by have := HL3.out; omega)).mono ?_; rintro e v7 ⟨Az, cz, rfl, Oz, h⟩
    have HOz := Lib.hid Oz
    have zz : v6.heap.size ≤ v7.heap.size := h.size
    have HOy := Lib.hid (own_past Oy h)
    have HXp := HX
    have Hh := Lib.hid h
    replace HX := HX.past h
    clear h Oz Oy
    clear q0 q1 q2 q3 q4 q5 q6
    have b3 := HL3.out
    have by3 := HLy.out
    go_wp2_with (at_builtin; refine app_list rfl (.tmp 54) (.tmp 55) rfl v6.heap.size Az cz x3.length x3 rfl rfl HOz.out v7.heap.size Ay cy Y1 rfl (own_rd HOy.out) (by omega) zz ?_)
    intro Ax cx v8 Ox hw mv
    have h := Hh.out.trans (below_wrote hw Hh.out.size (own_lo HOz.out))
    replace HX := HXp
    clear HXp
    obtain ⟨ox, nx, ax1, ax2, ax3, ax4, ax5⟩ := HX.fresh h Ox
    replace HX := HX.past h
    clear h Ox hw mv HOz HOy Hh b3 by3 zz
    have hXl : (x3 ++ Y1).length = x3.length + Y1.length := List.length_append
    have hlx : (x3 ++ Y1).length ≤ 2000 := by have h1 := HL3.out; have h2 := HLy.out; omega
    have HE5 : Hid (exec ⟨l, s, x1, x2, x3, x4, x5⟩ ln.data.toList = (if Y2 && seqOk (x3 ++ Y1) then (⟨l, s, x1, x2, x3 ++ Y1, x4, x5⟩, okT) else (⟨l, s, x1, x2, x3, x4, x5⟩, noT))) := HE3.out
    obtain ⟨xy, hxy⟩ : ∃ t, t = x3 ++ Y1 := ⟨_, rfl⟩
    rw [← hxy] at ox hXl hlx HE5
    have HXl := Lib.hid hXl
    clear hxy HE3
    rw [← hXl]
    clear hXl
    cases Y2
    · have HE4 : Hid (exec ⟨l, s, x1, x2, x3, x4, x5⟩ ln.data.toList = (⟨l, s, x1, x2, x3, x4, x5⟩, noT)) := HE5.out
      obtain ⟨q0, q1, q2, q3, q4, q5, q6⟩ := HX.get
      obtain ⟨p0, p1, p2, p3, p4, p5, p6⟩ := HX.res
      obtain ⟨f0, f1, f2, f3, f4, f5, f6⟩ := HX.resF
      obtain ⟨d0, d1, d2, d3, d4, d5, d6, hd⟩ := HX.done (noT)
      have D0 := Lib.hid d0
      have D1 := Lib.hid d1
      have D2 := Lib.hid d2
      have D3 := Lib.hid d3
      have D4 := Lib.hid d4
      have D5 := Lib.hid d5
      have D6 := Lib.hid d6
      have HF := Lib.hid hd
      clear hd d0 d1 d2 d3 d4 d5 d6
      go_wp2
      refine bodyPost_ret (implExec_res rfl rfl D0.out D1.out D2.out D3.out D4.out D5.out D6.out) rfl ?_
      rw [HE4.out]
      exact HF.out
    · go_wp2_with fail
      refine (implIsSequence_any _ _ _ _ (own_rd ox) (by omega)).mono ?_; rintro e u ⟨rfl, rfl⟩
      rcases Bool.eq_false_or_eq_true (seqOk xy) with hs | hs
      · rw [hs]
        have HE4 : Hid (exec ⟨l, s, x1, x2, x3, x4, x5⟩ ln.data.toList = (⟨l, s, x1, x2, xy, x4, x5⟩, okT)) := by show _ = _; rw [HE5.out, hs]; rfl
        clear hs HE5
        obtain ⟨q0, q1, q2, q3, q4, q5, q6⟩ := HX.get
        obtain ⟨g0, g1, g2, g3, g4, g5, g6⟩ := HX.getF
        go_upto_region 22 with fail
        replace HX := HX.set3 ox nx ax1 ax2 ax4 ax5
        obtain ⟨v9, hw⟩ : ∃ V, V = (v8.setCell ⟨w.heap.size, 4, none⟩ (.slice Ax xy.length cx)) := ⟨_, rfl⟩
        rw [← hw] at HX  ⊢
        clear hw
        clear ox nx ax1 ax2 ax3 ax4 ax5
        clear q0 q1 q2 q3 q4 q5 q6 g0 g1 g2 g3 g4 g5 g6
        obtain ⟨q0, q1, q2, q3, q4, q5, q6⟩ := HX.get
        obtain ⟨p0, p1, p2, p3, p4, p5, p6⟩ := HX.res
        obtain ⟨f0, f1, f2, f3, f4, f5, f6⟩ := HX.resF
        obtain ⟨d0, d1, d2, d3, d4, d5, d6, hd⟩ := HX.done (okT)
        have D0 := Lib.hid d0
        have D1 := Lib.hid d1
        have D2 := Lib.hid d2
        have D3 := Lib.hid d3
        have D4 := Lib.hid d4
        have D5 := Lib.hid d5
        have D6 := Lib.hid d6
        have HF := Lib.hid hd
        clear hd d0 d1 d2 d3 d4 d5 d6
        go_wp2
        refine bodyPost_ret (implExec_res rfl rfl D0.out D1.out D2.out D3.out D4.out D5.out D6.out) rfl ?_
        rw [HE4.out]
        exact HF.out
      · rw [hs]
        have HE4 : Hid (exec ⟨l, s, x1, x2, x3, x4, x5⟩ ln.data.toList = (⟨l, s, x1, x2, x3, x4, x5⟩, noT)) := by show _ = _; rw [HE5.out, hs]; rfl
        clear hs HE5
        obtain ⟨q0, q1, q2, q3, q4, q5, q6⟩ := HX.get
        obtain ⟨p0, p1, p2, p3, p4, p5, p6⟩ := HX.res
        obtain ⟨f0, f1, f2, f3, f4, f5, f6⟩ := HX.resF
        obtain ⟨d0, d1, d2, d3, d4, d5, d6, hd⟩ := HX.done (noT)
        have D0 := Lib.hid d0
        have D1 := Lib.hid d1
        have D2 := Lib.hid d2
        have D3 := Lib.hid d3
        have D4 := Lib.hid d4
        have D5 := Lib.hid d5
        have D6 := Lib.hid d6
        have HF := Lib.hid hd
        clear hd d0 d1 d2 d3 d4 d5 d6
        go_wp2
        refine bodyPost_ret (implExec_res rfl rfl D0.out D1.out D2.out D3.out D4.out D5.out D6.out) rfl ?_
        rw [HE4.out]
        exact HF.out
  have HE2 := HE.out
  rw [HXF.out, if_neg hin, if_neg hmo] at HE2
  have HE3 := Lib.hid HE2
  have t1 : ((bs wd).toList == [105, 110]) = false := str_ne _ _ (by rw [HBs.out]; exact hin)
  have t2 : ((bs wd).toList == [109, 111, 114, 101]) = false := str_ne _ _ (by rw [HBs.out]; exact hmo)
  clear HE2 hin hmo HE HXF
  by_cases hru : ln.data.toList = tRun
  · skip
    have t3 : (ln.toList == [114, 117, 110]) = true := by rw [ByteArray.toList_eq, hru]; rfl
    have HE4 := HE3.out
    unfold execR at HE4
    rw [if_pos hru] at HE4
    have HE5 := Lib.hid HE4
    clear HE4 HE3 hru
    have HRP := Lib.hid (fun h => run_parts (X := ⟨l, s, x1, x2, x3, x4, x5⟩) h)
    have HRM := Lib.hid (fun V a b c => implRunM_yes l s A1 c1 x1 A2 c2 x2 A3 c3 x3 V a b c HM.out HS3.out)
    have HRS : Hid ((runX ⟨l, s, x1, x2, x3, x4, x5⟩).ok = true → seqOk (runX ⟨l, s, x1, x2, x3, x4, x5⟩).y = true) := fun h => by obtain ⟨r1, r2⟩ := run_parts h; rw [r2]; exact runY_seq r1
    have HRE : Hid (runX ⟨l, s, x1, x2, x3, x4, x5⟩ = runM l s x1 x2 x3) := rfl
    rw [← HRE.out] at HRM
    have HE6 : Hid (exec ⟨l, s, x1, x2, x3, x4, x5⟩ ln.data.toList = (if (runX ⟨l, s, x1, x2, x3, x4, x5⟩).ok then (⟨l, s, x1, (runX ⟨l, s, x1, x2, x3, x4, x5⟩).m, [], (runX ⟨l, s, x1, x2, x3, x4, x5⟩).y, (runX ⟨l, s, x1, x2, x3, x4, x5⟩).e⟩, fmtL (runX ⟨l, s, x1, x2, x3, x4, x5⟩).y) else (⟨l, s, x1, x2, x3, x4, x5⟩, noT))) := HE5.out
    obtain ⟨Q, hQ⟩ : ∃ Q, Q = runX ⟨l, s, x1, x2, x3, x4, x5⟩ := ⟨_, rfl⟩
    rw [← hQ] at HRM HRS HE6
    clear hQ HRE HRP HE5
    obtain ⟨qy, qe, qm, qo⟩ := Q
    have HRS2 : Hid (qo = true → seqOk qy = true) := HRS.out
    have HE7 : Hid (exec ⟨l, s, x1, x2, x3, x4, x5⟩ ln.data.toList = (if qo then (⟨l, s, x1, qm, [], qy, qe⟩, fmtL qy) else (⟨l, s, x1, x2, x3, x4, x5⟩, noT))) := HE6.out
    clear HRS HE6
    obtain ⟨q0, q1, q2, q3, q4, q5, q6⟩ := HX.get
    go_wp2_with fail
    refine (HRM.out _ (own_rd HX.o1) (own_rd HX.o2) (own_rd HX.o3)).mono ?_; rintro e v6 ⟨Ay, cy, Ae, ce, Am, cm, rfl, Oy, Oe, Om, aye, aym, aem, h⟩
    dsimp only at Oy Oe Om ⊢
    obtain ⟨oy, ny, ay1, ay2, ay3, ay4, ay5⟩ := HX.fresh h Oy
    obtain ⟨oe, ne, ae1, ae2, ae3, ae4, ae5⟩ := HX.fresh h Oe
    obtain ⟨om, nm, am1, am2, am3, am4, am5⟩ := HX.fresh h Om
    replace HX := HX.past h
    clear h HRM Oy Oe Om
    clear q0 q1 q2 q3 q4 q5 q6
    cases qo
    · have HE8 : Hid (exec ⟨l, s, x1, x2, x3, x4, x5⟩ ln.data.toList = (⟨l, s, x1, x2, x3, x4, x5⟩, noT)) := HE7.out
      obtain ⟨q0, q1, q2, q3, q4, q5, q6⟩ := HX.get
      obtain ⟨p0, p1, p2, p3, p4, p5, p6⟩ := HX.res
      obtain ⟨f0, f1, f2, f3, f4, f5, f6⟩ := HX.resF
      obtain ⟨d0, d1, d2, d3, d4, d5, d6, hd⟩ := HX.done (noT)
      have D0 := Lib.hid d0
      have D1 := Lib.hid d1
      have D2 := Lib.hid d2
      have D3 := Lib.hid d3
      have D4 := Lib.hid d4
      have D5 := Lib.hid d5
      have D6 := Lib.hid d6
      have HF := Lib.hid hd
      clear hd d0 d1 d2 d3 d4 d5 d6
      go_wp2
      refine bodyPost_ret (implExec_res rfl rfl D0.out D1.out D2.out D3.out D4.out D5.out D6.out) rfl ?_
      rw [HE8.out]
      exact HF.out
    · have HE8 : Hid (exec ⟨l, s, x1, x2, x3, x4, x5⟩ ln.data.toList = (⟨l, s, x1, qm, [], qy, qe⟩, fmtL qy)) := HE7.out
      have HSY : Hid (seqOk qy = true) := HRS2.out rfl
      clear HE7 HRS2
      obtain ⟨q0, q1, q2, q3, q4, q5, q6⟩ := HX.get
      obtain ⟨g0, g1, g2, g3, g4, g5, g6⟩ := HX.getF
      go_upto_region 32 with fail
      replace HX := HX.nil3 
      replace oy := own_set1 oy ny 4 (.slice none 0 0)
      replace oe := own_set1 oe ne 4 (.slice none 0 0)
      replace om := own_set1 om nm 4 (.slice none 0 0)
      replace HX := HX.set4 oy ny ay1 ay2 (apart_symm (apart_none _)) ay5
      replace oe := own_set1 oe ne 5 (.slice Ay qy.length cy)
      replace om := own_set1 om nm 5 (.slice Ay qy.length cy)
      replace HX := HX.set5 oe ne ae1 ae2 (apart_symm (apart_none _)) aye
      replace om := own_set1 om nm 6 (.slice Ae qe.length ce)
      replace HX := HX.set2 om nm am1 (apart_symm (apart_none _)) aym aem
      obtain ⟨v7, hw⟩ : ∃ V, V = ((((v6.setCell ⟨w.heap.size, 4, none⟩ (.slice none 0 0)).setCell ⟨w.heap.size, 5, none⟩ (.slice Ay qy.length cy)).setCell ⟨w.heap.size, 6, none⟩ (.slice Ae qe.length ce)).setCell ⟨w.heap.size, 3, none⟩ (.slice Am qm.length cm)) := ⟨_, rfl⟩
      rw [← hw] at HX  ⊢
      clear hw
      clear oy ny oe ne om nm aye aym aem ay1 ay2 ay3 ay4 ay5 ae1 ae2 ae3 ae4 ae5 am1 am2 am3 am4 am5
      clear q0 q1 q2 q3 q4 q5 q6 g0 g1 g2 g3 g4 g5 g6
      have bx := (Below.refl v7.heap.size v7).drew
      replace HX := HX.past bx
      clear bx
      obtain ⟨q0, q1, q2, q3, q4, q5, q6⟩ := HX.get
      go_wp2_with fail
      go_region_held3 (fun w' => w'.cell? ⟨w.heap.size, 0, none⟩ = some (.int .i64 (l)) ∧ w'.cell? ⟨w.heap.size, 1, none⟩ = some (.int .i64 (s)) ∧ w'.cell? ⟨w.heap.size, 2, none⟩ = some (.slice A1 (x1).length c1) ∧ w'.cell? ⟨w.heap.size, 3, none⟩ = some (.slice Am (qm).length cm) ∧ w'.cell? ⟨w.heap.size, 4, none⟩ = some (.slice none 0 0) ∧ w'.cell? ⟨w.heap.size, 5, none⟩ = some (.slice Ay (qy).length cy) ∧ w'.cell? ⟨w.heap.size, 6, none⟩ = some (.slice Ae (qe).length ce)) (first | go_keep)
        (first | (go_at_call 51; refine (implFmt_ok Ay cy qy _ (own_rd HX.o4) HSY.out).mono ?_; rintro e v8 ⟨rfl, h⟩; replace HX := HX.past h; clear h q0 q1 q2 q3 q4 q5 q6; obtain ⟨q0, q1, q2, q3, q4, q5, q6⟩ := HX.get; obtain ⟨p0, p1, p2, p3, p4, p5, p6⟩ := HX.res; obtain ⟨f0, f1, f2, f3, f4, f5, f6⟩ := HX.resF))
      obtain ⟨d0, d1, d2, d3, d4, d5, d6, hd⟩ := HX.done (fmtL qy)
      have D0 := Lib.hid d0
      have D1 := Lib.hid d1
      have D2 := Lib.hid d2
      have D3 := Lib.hid d3
      have D4 := Lib.hid d4
      have D5 := Lib.hid d5
      have D6 := Lib.hid d6
      have HF := Lib.hid hd
      clear hd d0 d1 d2 d3 d4 d5 d6
      clear q0 q1 q2 q3 q4 q5 q6 p0 p1 p2 p3 p4 p5 p6 f0 f1 f2 f3 f4 f5 f6
      go_wp2
      refine bodyPost_ret (implExec_res rfl rfl D0.out D1.out D2.out D3.out D4.out D5.out D6.out) rfl ?_
      rw [HE8.out]
      exact HF.out
  have t3 : (ln.toList == [114, 117, 110]) = false := str_ne _ _ hru
  by_cases hcl : ln.data.toList = tClear
  · skip
    have t4 : (ln.toList == [99, 108, 101, 97, 114]) = true := by rw [ByteArray.toList_eq, hcl]; rfl
    have HE4 := HE3.out
    unfold execR at HE4
    rw [if_neg hru, if_pos hcl] at HE4
    have HE5 : Hid (exec ⟨l, s, x1, x2, x3, x4, x5⟩ ln.data.toList = (⟨l, s, x1, zers x1.length, x3, x4, x5⟩, okT)) := HE4
    clear HE4 HE3 hru hcl
    have HMm := HMo
    obtain ⟨q0, q1, q2, q3, q4, q5, q6⟩ := HX.get
    go_wp2_with fail
    refine (implPlain_yes (l) (s) A1 c1 (x1) _ (own_rd HX.o1) HMm.out).mono ?_; rintro e v6 ⟨Ap, cp, rfl, Op, h⟩
    obtain ⟨op, np, ap1, ap2, ap3, ap4, ap5⟩ := HX.fresh h Op
    replace HX := HX.past h
    clear h Op
    clear q0 q1 q2 q3 q4 q5 q6
    have hrl : (List.replicate x1.length (0 : Int)).length = x1.length := List.length_replicate
    obtain ⟨zr, hzr⟩ : ∃ zr : List Int, zr = List.replicate x1.length 0 := ⟨_, rfl⟩
    rw [hrl]
    rw [← hzr] at op hrl
    have HE6 : Hid (exec ⟨l, s, x1, x2, x3, x4, x5⟩ ln.data.toList = (⟨l, s, x1, zr, x3, x4, x5⟩, okT)) := by show _ = _; rw [HE5.out, hzr]; rfl
    clear hzr HE5
    obtain ⟨q0, q1, q2, q3, q4, q5, q6⟩ := HX.get
    obtain ⟨g0, g1, g2, g3, g4, g5, g6⟩ := HX.getF
    have HRl := Lib.hid hrl
    clear hrl
    go_upto_region 35 with fail
    replace HX := HX.set2 op np ap1 ap3 ap4 ap5
    rw [HRl.out] at HX
    obtain ⟨v7, hw⟩ : ∃ V, V = (v6.setCell ⟨w.heap.size, 3, none⟩ (.slice Ap x1.length cp)) := ⟨_, rfl⟩
    rw [← hw] at HX ⊢
    clear hw op np ap1 ap2 ap3 ap4 ap5
    clear q0 q1 q2 q3 q4 q5 q6 g0 g1 g2 g3 g4 g5 g6
    obtain ⟨q0, q1, q2, q3, q4, q5, q6⟩ := HX.get
    obtain ⟨p0, p1, p2, p3, p4, p5, p6⟩ := HX.res
    obtain ⟨f0, f1, f2, f3, f4, f5, f6⟩ := HX.resF
    obtain ⟨d0, d1, d2, d3, d4, d5, d6, hd⟩ := HX.done (okT)
    have D0 := Lib.hid d0
    have D1 := Lib.hid d1
    have D2 := Lib.hid d2
    have D3 := Lib.hid d3
    have D4 := Lib.hid d4
    have D5 := Lib.hid d5
    have D6 := Lib.hid d6
    have HF := Lib.hid hd
    clear hd d0 d1 d2 d3 d4 d5 d6
    go_wp2
    refine bodyPost_ret (implExec_res rfl rfl D0.out D1.out D2.out D3.out D4.out D5.out D6.out) rfl ?_
    rw [HE6.out]
    exact HF.out
  have t4 : (ln.toList == [99, 108, 101, 97, 114]) = false := str_ne _ _ hcl
  have HE4 := HE3.out
  unfold execR at HE4
  rw [if_neg hru, if_neg hcl] at HE4
  have HE5 := Lib.hid HE4
  clear HE4 HE3 hru hcl
  have bx := (Below.refl v5.heap.size v5).drew
  replace HX := HX.past bx
  clear bx
  obtain ⟨q0, q1, q2, q3, q4, q5, q6⟩ := HX.get
  go_wp2_with fail
  go_region_held3 (fun w' => w'.cell? ⟨w.heap.size, 0, none⟩ = some (.int .i64 (l)) ∧ w'.cell? ⟨w.heap.size, 1, none⟩ = some (.int .i64 (s)) ∧ w'.cell? ⟨w.heap.size, 2, none⟩ = some (.slice A1 (x1).length c1) ∧ w'.cell? ⟨w.heap.size, 3, none⟩ = some (.slice A2 (x2).length c2) ∧ w'.cell? ⟨w.heap.size, 4, none⟩ = some (.slice A3 (x3).length c3) ∧ w'.cell? ⟨w.heap.size, 5, none⟩ = some (.slice A4 (x4).length c4) ∧ w'.cell? ⟨w.heap.size, 6, none⟩ = some (.slice A5 (x5).length c5)) (first | go_keep)
    (first | (go_at_call 52; refine (implAsk_any l s A1 c1 x1 A2 c2 x2 A3 c3 x3 A4 c4 x4 A5 c5 x5 _ (own_rd HX.o1) (own_rd HX.o2) (own_rd HX.o3) (own_rd HX.o4) (own_rd HX.o5) HB.out ln).mono ?_; rintro e v6 ⟨rfl, h⟩; replace HX := HX.past h; clear h q0 q1 q2 q3 q4 q5 q6; obtain ⟨q0, q1, q2, q3, q4, q5, q6⟩ := HX.get; obtain ⟨p0, p1, p2, p3, p4, p5, p6⟩ := HX.res; obtain ⟨f0, f1, f2, f3, f4, f5, f6⟩ := HX.resF))
  obtain ⟨d0, d1, d2, d3, d4, d5, d6, hd⟩ := HX.done ((askT ⟨l, s, x1, x2, x3, x4, x5⟩ ln.data.toList).getD noT)
  have D0 := Lib.hid d0
  have D1 := Lib.hid d1
  have D2 := Lib.hid d2
  have D3 := Lib.hid d3
  have D4 := Lib.hid d4
  have D5 := Lib.hid d5
  have D6 := Lib.hid d6
  have HF := Lib.hid hd
  clear hd d0 d1 d2 d3 d4 d5 d6
  clear q0 q1 q2 q3 q4 q5 q6 p0 p1 p2 p3 p4 p5 p6 f0 f1 f2 f3 f4 f5 f6
  go_wp2
  refine bodyPost_ret (implExec_res rfl rfl D0.out D1.out D2.out D3.out D4.out D5.out D6.out) rfl ?_
  rw [HE5.out]
  exact HF.out
end Go.Proofs.YtgkijkenbjjnmaaGreatDoor
