/- What the calls of the law FnBench give, as contracts over names; what meets behind its drawn regions. (Printed by mkbenpk.py.) -/
import Derived.Test.YtgkijkenbjjnmaaGreatDoorPBn2
import Derived.Test.YtgkijkenbjjnmaaGreatDoorBExec
import Derived.Test.YtgkijkenbjjnmaaGreatDoorBRun
import Derived.Test.YtgkijkenbjjnmaaGreatDoorBAsk
import Derived.Test.YtgkijkenbjjnmaaGreatDoorBenMk
import Derived.Test.YtgkijkenbjjnmaaGreatDoorMkMod
import Derived.Test.YtgkijkenbjjnmaaGreatDoorSpecM2
import Derived.Test.YtgkijkenbjjnmaaGreatDoorBenIs
namespace Go.Proofs.YtgkijkenbjjnmaaGreatDoor
open Go.RowKit
set_option linter.unusedVariables false
set_option linter.unusedSimpArgs false
def RetE (l s : Int) (x1 x2 x3 x4 x5 : List Int) (T : ByteArray) (W : World) (e : Ending) (w' : World) : Prop :=
  ∃ A1 c1 A2 c2 A3 c3 A4 c4 A5 c5, e = .returned (.tuple #[.agg #[.int .i64 l, .int .i64 s, .slice A1 x1.length c1, .slice A2 x2.length c2, .slice A3 x3.length c3, .slice A4 x4.length c4, .slice A5 x5.length c5], .string T]) ∧ Own w' W.heap.size A1 c1 x1 ∧ Own w' W.heap.size A2 c2 x2 ∧ Own w' W.heap.size A3 c3 x3 ∧ Own w' W.heap.size A4 c4 x4 ∧ Own w' W.heap.size A5 c5 x5 ∧ Below W.heap.size W w'
abbrev CExec (l s : Int) (x1 x2 x3 x4 x5 : List Int) (ln : ByteArray) (l' s' : Int) (y1 y2 y3 y4 y5 : List Int) (T : ByteArray) : Prop :=
  ∀ (W : World) (A1 A2 A3 A4 A5 : Option Addr) (c1 c2 c3 c4 c5 : Nat), Rd W W.heap.size A1 x1 → Rd W W.heap.size A2 x2 → Rd W W.heap.size A3 x3 → Rd W W.heap.size A4 x4 → Rd W W.heap.size A5 x5 → Calls Tryz.prog 11 #[.agg #[.int .i64 l, .int .i64 s, .slice A1 x1.length c1, .slice A2 x2.length c2, .slice A3 x3.length c3, .slice A4 x4.length c4, .slice A5 x5.length c5], .string ln] W (RetE l' s' y1 y2 y3 y4 y5 T W)
theorem cexec {l s : Int} {x1 x2 x3 x4 x5 : List Int} {ln : ByteArray} {l' s' : Int} {y1 y2 y3 y4 y5 : List Int} {t : List UInt8} {T : ByteArray} (hX : Be.ok ⟨l, s, x1, x2, x3, x4, x5⟩ = true) (hl : ln.size ≤ 4000000000) (h : exec ⟨l, s, x1, x2, x3, x4, x5⟩ ln.data.toList = (⟨l', s', y1, y2, y3, y4, y5⟩, t)) (hT : bs t = T) : CExec l s x1 x2 x3 x4 x5 ln l' s' y1 y2 y3 y4 y5 T := by
  intro W A1 A2 A3 A4 A5 c1 c2 c3 c4 c5 r1 r2 r3 r4 r5
  obtain ⟨n1, n2, n3, n4, n5⟩ := ok_lens hX
  have q := implExec_any l s A1 A2 A3 A4 A5 c1 c2 c3 c4 c5 x1 x2 x3 x4 x5 ln W r1 r2 r3 r4 r5 (Nat.le_trans n1 (by omega)) (Nat.le_trans n2 (by omega)) (Nat.le_trans n3 (by omega)) (Nat.le_trans n4 (by omega)) (Nat.le_trans n5 (by omega)) hl
  rw [h] at q
  refine q.mono fun e w' k => ?_
  obtain ⟨B1, d1, B2, d2, B3, d3, B4, d4, B5, d5, he, o1, o2, o3, o4, o5, _, _, _, _, _, _, _, _, _, _, hb⟩ := k
  exact ⟨B1, d1, B2, d2, B3, d3, B4, d4, B5, d5, by rw [he, ← hT], o1, o2, o3, o4, o5, hb⟩
abbrev CNew (l s : Int) (x1 x2 x3 x4 x5 : List Int) : Prop := ∀ W : World, Calls Tryz.prog 12 #[] W (fun e w' => ∃ A1 c1 A2 c2 A3 c3 A4 c4 A5 c5, e = .returned (.agg #[.int .i64 l, .int .i64 s, .slice A1 x1.length c1, .slice A2 x2.length c2, .slice A3 x3.length c3, .slice A4 x4.length c4, .slice A5 x5.length c5]) ∧ Own w' W.heap.size A1 c1 x1 ∧ Own w' W.heap.size A2 c2 x2 ∧ Own w' W.heap.size A3 c3 x3 ∧ Own w' W.heap.size A4 c4 x4 ∧ Own w' W.heap.size A5 c5 x5 ∧ Below W.heap.size W w')
abbrev CFmt (f : Nat) (l s : Int) (cs : List Int) (T : ByteArray) : Prop := ∀ (W : World) (A : Option Addr) (c : Nat), Rd W W.heap.size A cs → cs.length ≤ c ∧ c ≤ maxLen → Calls Tryz.prog f #[.agg #[.int .i64 l, .int .i64 s, .slice A cs.length c]] W fun e w' => e = .returned (.string T) ∧ Below W.heap.size W w'
abbrev CText (xs : List Int) (n : Nat) (T : ByteArray) : Prop := ∀ (W : World) (A : Option Addr) (c : Nat), Rd W W.heap.size A xs → n ≤ c → c ≤ 9223372036854775807 → Calls Tryz.prog 14 #[.slice A n c] W fun e w' => e = .returned (.string T) ∧ Below W.heap.size W w'
abbrev CIs (l s : Int) (x1 x2 x3 x4 x5 : List Int) : Prop := ∀ (W : World) (A1 A2 A3 A4 A5 : Option Addr) (c1 c2 c3 c4 c5 : Nat), Rd W W.heap.size A1 x1 → Rd W W.heap.size A2 x2 → Rd W W.heap.size A3 x3 → Rd W W.heap.size A4 x4 → Rd W W.heap.size A5 x5 → Calls Tryz.prog 15 #[.agg #[.int .i64 l, .int .i64 s, .slice A1 x1.length c1, .slice A2 x2.length c2, .slice A3 x3.length c3, .slice A4 x4.length c4, .slice A5 x5.length c5]] W fun e w' => e = .returned (.bool true) ∧ Below W.heap.size W w'
abbrev CPlain (l s : Int) (cs z : List Int) : Prop := ∀ (W : World) (A : Option Addr) (c : Nat), Rd W W.heap.size A cs → Calls Tryz.prog 18 #[.agg #[.int .i64 l, .int .i64 s, .slice A cs.length c]] W fun e w' => ∃ B d, e = .returned (.slice B z.length d) ∧ Own w' W.heap.size B d z ∧ Below W.heap.size W w'
abbrev CRun (l s : Int) (cs z x ry re rm : List Int) (ok : Bool) : Prop := ∀ (W : World) (A : Option Addr) (c : Nat) (A' : Option Addr) (c' : Nat) (X : Option Addr) (cx : Nat), Rd W W.heap.size A cs → Rd W W.heap.size A' z → Rd W W.heap.size X x → Calls Tryz.prog 17 #[.agg #[.int .i64 l, .int .i64 s, .slice A cs.length c], .slice A' z.length c', .slice X x.length cx] W fun e w' => ∃ B0 d0 B1 d1 B2 d2, e = .returned (.tuple #[.slice B0 ry.length d0, .slice B1 re.length d1, .slice B2 rm.length d2, .bool ok]) ∧ Own w' W.heap.size B0 d0 ry ∧ Own w' W.heap.size B1 d1 re ∧ Own w' W.heap.size B2 d2 rm ∧ Below W.heap.size W w'
abbrev CSum (ry : List Int) (v : Int) : Prop := ∀ (W : World) (A : Option Addr) (c : Nat), Rd W W.heap.size A ry → Calls Tryz.prog 22 #[.slice A ry.length c] W fun e w' => e = .returned (.int .i64 v) ∧ W = w'
abbrev CNum (v : Int) (T : ByteArray) : Prop := ∀ W : World, Calls Tryz.prog 21 #[.int .i64 v] W fun e w' => e = .returned (.string T) ∧ Below W.heap.size W w'
abbrev CSafe (l s : Int) (cs : List Int) (v : Int) : Prop := ∀ (W : World) (A : Option Addr) (c : Nat), Rd W W.heap.size A cs → Calls Tryz.prog 23 #[.agg #[.int .i64 l, .int .i64 s, .slice A cs.length c]] W fun e w' => e = .returned (.int .i64 v) ∧ Below W.heap.size W w'
abbrev CScript (S : ByteArray) (xs : List ByteArray) : Prop := ∀ W : World, Calls Tryz.prog 19 #[.string S] W fun e w' => ∃ A c, e = .returned (.tuple #[.slice A 4 c, .bool true]) ∧ OwnS w' W.heap.size A c xs ∧ Below W.heap.size W w'
theorem ctext {xs : List Int} (h : seqOk xs = true) {n : Nat} (hn : xs.length = n) : CText xs n (bs (fmtL xs)) := fun W A c r h1 h2 => by
  subst hn
  exact MakeText_any A c xs W r h1 h2 h
/-- The good end: what is asked behind the run. -/
structure GoodEnd (l s : Int) (cs z x N ry re rm : List Int) (FM TX : ByteArray) (TY TE TS TF TM O0 O1 : ByteArray) (sy sf : Int) : Prop where
  run : CExec l s cs z x N N (ByteArray.mk #[114, 117, 110]) l s cs rm N ry re TY
  err : CExec l s cs rm N ry re (ByteArray.mk #[101, 114, 114, 111, 114, 115]) l s cs rm N ry re TE
  sum : CExec l s cs rm N ry re (ByteArray.mk #[115, 117, 109]) l s cs rm N ry re TS
  safe : CExec l s cs rm N ry re (ByteArray.mk #[115, 97, 102, 101]) l s cs rm N ry re TF
  ty : CText ry ry.length TY
  te : CText re re.length TE
  tm : CText rm rm.length TM
  so : CSum ry sy
  ns : CNum sy TS
  sa : CSafe l s cs sf
  nf : CNum sf TF
  sc : CScript (((FM ++ ByteArray.mk #[10, 105, 110, 32]) ++ TX) ++ ByteArray.mk #[10, 114, 117, 110, 10, 109, 101, 109, 111, 114, 121]) [O0, O1, TY, TM]
  hr : rm.length ≤ 1048576
structure BadEnd (l s : Int) (cs z x N : List Int) (T : ByteArray) : Prop where
  run : CExec l s cs z x N N (ByteArray.mk #[114, 117, 110]) l s cs z x N N T
  no : (T.toList == [110, 111]) = true
structure Pack (l s : Int) (cs x : List Int) (h : Nat) (nl ns : Int) (n1 n2 n3 n4 n5 z N xa xb ry re rm : List Int) (ok : Bool) (FM TA TB TX OKB : ByteArray) : Prop where
  hxa : x.take h = xa
  hxb : x.drop h = xb
  n0 : ((N.length : Int) == 0) = true
  new : CNew nl ns n1 n2 n3 n4 n5
  fi : CFmt 13 l s cs FM
  fs : CFmt 20 l s cs FM
  ta : CText xa h TA
  tb : CText xb (x.length - h) TB
  tx : CText x x.length TX
  hok : (OKB.toList != [111, 107]) = false
  sm : FM.size ≤ 100000
  sa : TA.size ≤ 100000
  sb : TB.size ≤ 100000
  sx : TX.size ≤ 100000
  e1 : CExec nl ns n1 n2 n3 n4 n5 FM l s cs z N N N OKB
  e2 : CExec l s cs z N N N (ByteArray.mk #[105, 110, 32] ++ TA) l s cs z xa N N OKB
  e3 : CExec l s cs z xa N N (ByteArray.mk #[109, 111, 114, 101, 32] ++ TB) l s cs z x N N OKB
  is : CIs l s cs z x N N
  pl : CPlain l s cs z
  rn : CRun l s cs z x ry re rm ok
  bad : ok = false → ∃ T, BadEnd l s cs z x N T
  good : ok = true → ∃ TY TE TS TF TM O0 O1 sy sf, GoodEnd l s cs z x N ry re rm FM TX TY TE TS TF TM O0 O1 sy sf
theorem four_text {l s : Int} {cs x : List Int} : (((bs (fmtM l s cs) ++ ByteArray.mk #[10, 105, 110, 32]) ++ bs (fmtL x)) ++ ByteArray.mk #[10, 114, 117, 110, 10, 109, 101, 109, 111, 114, 121]).data.toList = fourT l s cs x := by
  rw [show (ByteArray.mk #[10, 105, 110, 32]) = bs [10, 105, 110, 32] from rfl, show (ByteArray.mk #[10, 114, 117, 110, 10, 109, 101, 109, 111, 114, 121]) = bs [10, 114, 117, 110, 10, 109, 101, 109, 111, 114, 121] from rfl]
  simp only [bs_app]
  simp [bs, fourT, tIn, tRun, tMemory, List.append_assoc]
theorem in_text {x : List Int} : (ByteArray.mk #[105, 110, 32] ++ bs (fmtL x)).data.toList = tIn ++ 32 :: fmtL x := by
  rw [show (ByteArray.mk #[105, 110, 32]) = bs [105, 110, 32] from rfl]
  simp only [bs_app]
  simp [bs, tIn]
theorem more_text {x : List Int} : (ByteArray.mk #[109, 111, 114, 101, 32] ++ bs (fmtL x)).data.toList = tMore ++ 32 :: fmtL x := by
  rw [show (ByteArray.mk #[109, 111, 114, 101, 32]) = bs [109, 111, 114, 101, 32] from rfl]
  simp only [bs_app]
  simp [bs, tMore]
theorem bs_data (t : List UInt8) : (bs t).data.toList = t := by simp [bs]
theorem fmtM_le {l s : Int} {cs : List Int} (h : modOk l s cs = true) : (fmtM l s cs).length ≤ 30100 := by
  have m := mod_parts h
  have q := quant_parts m.2.1
  have d1 := decI_le (n := l) (by omega) (by omega)
  have d2 := decI_le (n := s) (by omega) (by omega)
  have d3 := fmtL_le (modOk_seq h)
  simp [fmtM, modT]
  omega
theorem seq_take {x : List Int} (h : seqOk x = true) (k : Nat) : seqOk (x.take k) = true := by
  have hb := seqOk_len h
  refine seqOk_of (fun v hv => ?_) (by rw [List.length_take]; omega)
  obtain ⟨j, hj, rfl⟩ := List.getElem_of_mem (List.mem_of_mem_take hv)
  have := seqOk_at h hj
  omega
theorem seq_drop {x : List Int} (h : seqOk x = true) (k : Nat) : seqOk (x.drop k) = true := by
  have hb := seqOk_len h
  refine seqOk_of (fun v hv => ?_) (by rw [List.length_drop]; omega)
  obtain ⟨j, hj, rfl⟩ := List.getElem_of_mem (List.mem_of_mem_drop hv)
  have := seqOk_at h hj
  omega
set_option maxHeartbeats 1000000 in
theorem good_end {l s : Int} {cs x : List Int} (hm : modOk l s cs = true) (hx : seqOk x = true) (hr : (runX (benX l s cs x)).ok = true) :
    GoodEnd l s cs (zers cs.length) x [] (runX (benX l s cs x)).y (runX (benX l s cs x)).e (runX (benX l s cs x)).m (bs (fmtM l s cs)) (bs (fmtL x)) (bs (fmtL (runX (benX l s cs x)).y)) (bs (fmtL (runX (benX l s cs x)).e)) (bs (decI (seqSum (runX (benX l s cs x)).y))) (bs (decI (safeW l s cs))) (bs (fmtL (runX (benX l s cs x)).m)) (bs okT) (bs okT) (seqSum (runX (benX l s cs x)).y) (safeW l s cs) := by
  have hX := benX_ok hm hx
  obtain ⟨qy, qe, qm⟩ := run_seqs hr
  have s3 : exec (benX l s cs x) tRun = (runBe (benX l s cs x), fmtL (runX (benX l s cs x)).y) := by rw [exec_run hX, if_pos hr]
  have hR : (runBe (benX l s cs x)).ok = true := by have := exec_ok (l := tRun) hX; rw [s3] at this; exact this
  have hsf := safe_bd hm
  have hsb := seqSum_bd qy
  have hsc := script_four hm hx hr
  have hml := seqOk_len qm
  have hf := fmtM_le hm
  have hfx := fmtL_le hx
  obtain ⟨R, hRR⟩ : ∃ R, R = runX (benX l s cs x) := ⟨_, rfl⟩
  have s3' : exec ⟨l, s, cs, zers cs.length, x, [], []⟩ tRun = (⟨l, s, cs, R.m, [], R.y, R.e⟩, fmtL R.y) := by rw [hRR]; exact s3
  have hR' : Be.ok ⟨l, s, cs, R.m, [], R.y, R.e⟩ = true := by rw [hRR]; exact hR
  rw [← hRR] at qy qe qm hsb hsc hml ⊢
  clear s3 hR hRR hr
  refine ⟨cexec hX (by decide) s3' rfl, cexec hR' (by decide) (exec_errors hR') rfl, cexec hR' (by decide) (exec_sum hR') rfl, cexec hR' (by decide) (exec_safe hR') rfl, ctext qy rfl, ctext qe rfl, ctext qm rfl, ?_, ?_, ?_, ?_, ?_, by omega⟩
  · intro W A c r
    exact specSumOf_b A c R.y W r (by have := seqOk_len qy; omega)
  · intro W
    exact MakeNumber_any _ W (by omega) (by omega)
  · intro W A c r
    exact implSafe_yes l s A c cs W r hm
  · intro W
    exact MakeNumber_any _ W (by omega) (by omega)
  · intro W
    have q := implRun_any (((bs (fmtM l s cs) ++ ByteArray.mk #[10, 105, 110, 32]) ++ bs (fmtL x)) ++ ByteArray.mk #[10, 114, 117, 110, 10, 109, 101, 109, 111, 114, 121]) W (by
      have e1 : (ByteArray.mk #[10, 105, 110, 32]).size = 4 := rfl
      have e2 : (ByteArray.mk #[10, 114, 117, 110, 10, 109, 101, 109, 111, 114, 121]).size = 11 := rfl
      rw [ByteArray.size_append, ByteArray.size_append, ByteArray.size_append, bs_size, bs_size, e1, e2]; omega)
    rw [four_text, hsc] at q
    refine q.mono fun e w' k => ?_
    obtain ⟨A, c, he, ho, hb⟩ := k
    exact ⟨A, c, he, ho, hb⟩
theorem bad_end {l s : Int} {cs x : List Int} (hm : modOk l s cs = true) (hx : seqOk x = true) (hr : (runX (benX l s cs x)).ok = false) : BadEnd l s cs (zers cs.length) x [] (bs noT) := by
  have hX := benX_ok hm hx
  refine ⟨cexec hX (by decide) ?_ rfl, by rw [ByteArray.toList_eq]; rfl⟩
  show exec (benX l s cs x) tRun = (benX l s cs x, noT)
  rw [exec_run hX, hr]
  rfl
set_option maxHeartbeats 1000000 in
theorem bench_pack {l s : Int} {cs x : List Int} (hm : modOk l s cs = true) (hx : seqOk x = true) (h : Nat) (hh : h ≤ x.length) :
    ∃ (nl ns : Int) (n1 n2 n3 n4 n5 z N xa xb ry re rm : List Int) (ok : Bool) (FM TA TB TX OKB : ByteArray), Pack l s cs x h nl ns n1 n2 n3 n4 n5 z N xa xb ry re rm ok FM TA TB TX OKB := by
  have ha := seq_take hx h
  have hb := seq_drop hx h
  have hap : x.take h ++ x.drop h = x := List.take_append_drop h x
  have hf := fmtM_le hm
  have hfi : fmtMI l s cs = fmtM l s cs := by simp [fmtMI, hm]
  have hl := seqOk_len hx
  have h6 := (mod_parts hm).2.2.2
  have hfa := fmtL_le ha
  have hfb := fmtL_le hb
  have s2 : exec ⟨l, s, cs, zers cs.length, [], [], []⟩ (ByteArray.mk #[105, 110, 32] ++ bs (fmtL (x.take h))).data.toList = (⟨l, s, cs, zers cs.length, x.take h, [], []⟩, okT) := by rw [in_text]; exact exec_inX hm seq_nil ha
  have s3 : exec ⟨l, s, cs, zers cs.length, x.take h, [], []⟩ (ByteArray.mk #[109, 111, 114, 101, 32] ++ bs (fmtL (x.drop h))).data.toList = (⟨l, s, cs, zers cs.length, x, [], []⟩, okT) := by
    rw [more_text]
    have q := exec_moreX (x := x.take h) (y := x.drop h) hm ha hb (by rw [hap]; exact hx)
    rw [hap] at q
    exact q
  have s1 : exec ⟨2, 16, [-1], [0], [], [], []⟩ (bs (fmtM l s cs)).data.toList = (⟨l, s, cs, zers cs.length, [], [], []⟩, okT) := by rw [bs_data]; exact exec_new hm
  have eN : (ByteArray.mk #[105, 110, 32]).size = 3 := rfl
  have eM : (ByteArray.mk #[109, 111, 114, 101, 32]).size = 5 := rfl
  refine ⟨2, 16, [-1], [0], [], [], [], zers cs.length, [], x.take h, x.drop h, (runX (benX l s cs x)).y, (runX (benX l s cs x)).e, (runX (benX l s cs x)).m, (runX (benX l s cs x)).ok, bs (fmtM l s cs), bs (fmtL (x.take h)), bs (fmtL (x.drop h)), bs (fmtL x), bs okT, ?_⟩
  refine ⟨rfl, rfl, rfl, ?_, ?_, ?_, ctext ha (by rw [List.length_take]; omega), ctext hb (by rw [List.length_drop]), ctext hx rfl, by rw [ByteArray.toList_eq]; rfl, by rw [bs_size]; omega, by rw [bs_size]; omega, by rw [bs_size]; omega, by rw [bs_size]; have := fmtL_le hx; omega, cexec newBe_ok (by rw [bs_size]; omega) s1 rfl, cexec (benX_ok hm seq_nil) (by rw [ByteArray.size_append, bs_size, eN]; omega) s2 rfl, cexec (benX_ok hm ha) (by rw [ByteArray.size_append, bs_size, eM]; omega) s3 rfl, ?_, ?_, ?_, ?_, ?_⟩
  · intro W
    refine (implNewBench_any W).mono fun e w' k => ?_
    obtain ⟨A1, c1, A2, c2, A3, c3, A4, c4, A5, c5, he, o1, o2, o3, o4, o5, _, _, _, _, _, _, _, _, _, _, hb⟩ := k
    exact ⟨A1, c1, A2, c2, A3, c3, A4, c4, A5, c5, he, o1, o2, o3, o4, o5, hb⟩
  · intro W A c r k
    have q := implFormatM_any l s A c cs W r (by omega)
    rw [hfi] at q
    exact q
  · intro W A c r k
    have q := specFormatM_any l s A c cs W r (by omega) k.1 (by have := k.2; unfold maxLen at this; exact this)
    rw [hfi] at q
    exact q
  · intro W A1 A2 A3 A4 A5 c1 c2 c3 c4 c5 r1 r2 r3 r4 r5
    have q := specIsBench_any l s A1 A2 A3 A4 A5 c1 c2 c3 c4 c5 cs (zers cs.length) x [] [] W r1 r2 r3 r4 r5 (by omega) (by simp [zers]; omega) (by omega) (by simp) (by simp)
    rw [show benchOk l s cs (zers cs.length) x [] [] = true from benX_ok hm hx] at q
    exact q
  · intro W A c r
    exact specPlain_yes l s A c cs W r hm
  · intro W A c A' c' X cx r r' rx
    refine (specRunM_yes l s A c cs A' c' (zers cs.length) X cx x W r r' rx (benX_mem hm) hx).mono fun e w' k => ?_
    obtain ⟨B0, d0, B1, d1, B2, d2, he, o0, o1, o2, _, _, _, hb⟩ := k
    exact ⟨B0, d0, B1, d1, B2, d2, he, o0, o1, o2, hb⟩
  · intro hr
    exact ⟨_, bad_end hm hx hr⟩
  · intro hr
    exact ⟨_, _, _, _, _, _, _, _, _, good_end hm hx hr⟩
/-- Behind a region: a bench lies in a block of its own, which may have been there, and nothing else of what there was has turned. -/
structure MT (W : World) (g : Nat) (l s : Int) (A1 : Option Addr) (c1 : Nat) (x1 : List Int) (A2 : Option Addr) (c2 : Nat) (x2 : List Int) (A3 : Option Addr) (c3 : Nat) (x3 : List Int) (A4 : Option Addr) (c4 : Nat) (x4 : List Int) (A5 : Option Addr) (c5 : Nat) (x5 : List Int) (wx : World) : Prop where
  T : W.grownBy wx (some g)
  m : Blk wx g 33 #[.int .i64 l, .int .i64 s, .slice A1 x1.length c1, .slice A2 x2.length c2, .slice A3 x3.length c3, .slice A4 x4.length c4, .slice A5 x5.length c5]
  o1 : Own wx W.heap.size A1 c1 x1
  o2 : Own wx W.heap.size A2 c2 x2
  o3 : Own wx W.heap.size A3 c3 x3
  o4 : Own wx W.heap.size A4 c4 x4
  o5 : Own wx W.heap.size A5 c5 x5
  n1 : ∀ a, A1 = some a → a.block ≠ g
  n2 : ∀ a, A2 = some a → a.block ≠ g
  n3 : ∀ a, A3 = some a → a.block ≠ g
  n4 : ∀ a, A4 = some a → a.block ≠ g
  n5 : ∀ a, A5 = some a → a.block ≠ g
theorem mt_after {W W2 : World} {l s : Int} {A1 : Option Addr} {c1 : Nat} {x1 : List Int} {A2 : Option Addr} {c2 : Nat} {x2 : List Int} {A3 : Option Addr} {c3 : Nat} {x3 : List Int} {A4 : Option Addr} {c4 : Nat} {x4 : List Int} {A5 : Option Addr} {c5 : Nat} {x5 : List Int} (hb : Below W.heap.size W W2) (o1 : Own W2 W.heap.size A1 c1 x1) (o2 : Own W2 W.heap.size A2 c2 x2) (o3 : Own W2 W.heap.size A3 c3 x3) (o4 : Own W2 W.heap.size A4 c4 x4) (o5 : Own W2 W.heap.size A5 c5 x5) : MT W W2.heap.size l s A1 c1 x1 A2 c2 x2 A3 c3 x3 A4 c4 x4 A5 c5 x5 (W2.alloc (.cells #[.int .i64 l, .int .i64 s, .slice A1 x1.length c1, .slice A2 x2.length c2, .slice A3 x3.length c3, .slice A4 x4.length c4, .slice A5 x5.length c5] 33)) := by
  have bx : Below W2.heap.size W2 (W2.alloc (.cells #[.int .i64 l, .int .i64 s, .slice A1 x1.length c1, .slice A2 x2.length c2, .slice A3 x3.length c3, .slice A4 x4.length c4, .slice A5 x5.length c5] 33)) := (Below.refl _ _).alloc (Nat.le_refl _) _
  exact ⟨turn_below (thenB hb bx) _, Blk.new _ _ _, own_past o1 bx, own_past o2 bx, own_past o3 bx, own_past o4 bx, own_past o5 bx, fun a e => Nat.ne_of_lt (own_hi o1 a e), fun a e => Nat.ne_of_lt (own_hi o2 a e), fun a e => Nat.ne_of_lt (own_hi o3 a e), fun a e => Nat.ne_of_lt (own_hi o4 a e), fun a e => Nat.ne_of_lt (own_hi o5 a e)⟩
set_option maxHeartbeats 1000000 in
theorem mt_store {W W2 : World} {g : Nat} {u0 u1 u2 u3 u4 u5 u6 : Value} {l s : Int} {A1 : Option Addr} {c1 : Nat} {x1 : List Int} {A2 : Option Addr} {c2 : Nat} {x2 : List Int} {A3 : Option Addr} {c3 : Nat} {x3 : List Int} {A4 : Option Addr} {c4 : Nat} {x4 : List Int} {A5 : Option Addr} {c5 : Nat} {x5 : List Int} (hb : Below W.heap.size W W2) (B : Blk W2 g 33 #[u0, u1, u2, u3, u4, u5, u6]) (o1 : Own W2 W.heap.size A1 c1 x1) (o2 : Own W2 W.heap.size A2 c2 x2) (o3 : Own W2 W.heap.size A3 c3 x3) (o4 : Own W2 W.heap.size A4 c4 x4) (o5 : Own W2 W.heap.size A5 c5 x5) (n1 : ∀ a, A1 = some a → a.block ≠ g) (n2 : ∀ a, A2 = some a → a.block ≠ g) (n3 : ∀ a, A3 = some a → a.block ≠ g) (n4 : ∀ a, A4 = some a → a.block ≠ g) (n5 : ∀ a, A5 = some a → a.block ≠ g) : MT W g l s A1 c1 x1 A2 c2 x2 A3 c3 x3 A4 c4 x4 A5 c5 x5 (((((((W2.setCell ⟨g, 0, none⟩ (.int .i64 l)).setCell ⟨g, 1, none⟩ (.int .i64 s)).setCell ⟨g, 2, none⟩ (.slice A1 x1.length c1)).setCell ⟨g, 3, none⟩ (.slice A2 x2.length c2)).setCell ⟨g, 4, none⟩ (.slice A3 x3.length c3)).setCell ⟨g, 5, none⟩ (.slice A4 x4.length c4)).setCell ⟨g, 6, none⟩ (.slice A5 x5.length c5)) := by
  have T := turn_set (turn_set (turn_set (turn_set (turn_set (turn_set (turn_set (turn_refl W2 (g)) (p := ⟨g, 0, none⟩) rfl (.int .i64 l)) (p := ⟨g, 1, none⟩) rfl (.int .i64 s)) (p := ⟨g, 2, none⟩) rfl (.slice A1 x1.length c1)) (p := ⟨g, 3, none⟩) rfl (.slice A2 x2.length c2)) (p := ⟨g, 4, none⟩) rfl (.slice A3 x3.length c3)) (p := ⟨g, 5, none⟩) rfl (.slice A4 x4.length c4)) (p := ⟨g, 6, none⟩) rfl (.slice A5 x5.length c5)
  exact ⟨(turn_below hb _).trans T, (((((((B.set_ 0 (.int .i64 l)).set_ 1 (.int .i64 s)).set_ 2 (.slice A1 x1.length c1)).set_ 3 (.slice A2 x2.length c2)).set_ 4 (.slice A3 x3.length c3)).set_ 5 (.slice A4 x4.length c4)).set_ 6 (.slice A5 x5.length c5)), own_grown o1 T (fun a e e' => n1 a e (Option.some.inj e')), own_grown o2 T (fun a e e' => n2 a e (Option.some.inj e')), own_grown o3 T (fun a e e' => n3 a e (Option.some.inj e')), own_grown o4 T (fun a e e' => n4 a e (Option.some.inj e')), own_grown o5 T (fun a e e' => n5 a e (Option.some.inj e')), n1, n2, n3, n4, n5⟩
end Go.Proofs.YtgkijkenbjjnmaaGreatDoor
