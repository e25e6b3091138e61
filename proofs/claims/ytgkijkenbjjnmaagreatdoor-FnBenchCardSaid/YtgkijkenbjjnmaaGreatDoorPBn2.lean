/- What the bench answers to the lines of the law FnBench, in plain words. Nothing of the program. -/
import Derived.Test.YtgkijkenbjjnmaaGreatDoorPBen
namespace Go.Proofs.YtgkijkenbjjnmaaGreatDoor
open Go.RowKit
set_option linter.unusedVariables false
set_option linter.unusedSimpArgs false
/-- A bench with a modulator's plain memory and some input. -/
def benX (l s : Int) (cs x : List Int) : Be := ⟨l, s, cs, zers cs.length, x, [], []⟩
theorem benX_ok {l s : Int} {cs x : List Int} (hm : modOk l s cs = true) (hx : seqOk x = true) : (benX l s cs x).ok = true := by
  refine ok_of ?_ hx seq_nil seq_nil
  have h6 := (mod_parts hm).2.2.2
  have hz : seqOk (zers cs.length) = true := zers_ok (by omega)
  show memOk l s cs (zers cs.length) = true
  have hl : (zers cs.length).length = cs.length := by simp [zers]
  simp [memOk, hm, hz, hl]
theorem benX_mem {l s : Int} {cs : List Int} (hm : modOk l s cs = true) : memOk l s cs (zers cs.length) = true := (ok_parts (benX_ok hm seq_nil)).1
theorem exec_new {l s : Int} {cs : List Int} (hm : modOk l s cs = true) : exec newBe (fmtM l s cs) = (benX l s cs [], okT) := by
  rw [exec_mod newBe_ok (by rw [parm_fmt hm]), parm_fmt hm]
  rfl
theorem sp_fmt {xs : List Int} : (32 : UInt8) ∉ fmtL xs := fmtL_no (by decide) (by decide) (by decide) (by decide)
theorem nl_fmt {xs : List Int} : (10 : UInt8) ∉ fmtL xs := fmtL_no (by decide) (by decide) (by decide) (by decide)
theorem nl_fmtM {l s : Int} {cs : List Int} : (10 : UInt8) ∉ fmtM l s cs := by
  unfold fmtM
  simp only [List.mem_append, not_or]
  refine ⟨⟨⟨⟨⟨⟨by decide, by decide⟩, decI_no l (by decide) (by decide)⟩, by decide⟩, decI_no s (by decide) (by decide)⟩, by decide⟩, nl_fmt⟩
theorem exec_inX {l s : Int} {cs x y : List Int} (hm : modOk l s cs = true) (hx : seqOk x = true) (hy : seqOk y = true) : exec (benX l s cs x) (tIn ++ 32 :: fmtL y) = (benX l s cs y, okT) := by
  rw [exec_in (t := fmtL y) (benX_ok hm hx) (by rw [spl_hit _ (by decide), spl_none sp_fmt]), pars_fmt hy]
  rfl
theorem exec_moreX {l s : Int} {cs x y : List Int} (hm : modOk l s cs = true) (hx : seqOk x = true) (hy : seqOk y = true) (hxy : seqOk (x ++ y) = true) : exec (benX l s cs x) (tMore ++ 32 :: fmtL y) = (benX l s cs (x ++ y), okT) := by
  rw [exec_more (t := fmtL y) (benX_ok hm hx) (by rw [spl_hit _ (by decide), spl_none sp_fmt]), pars_fmt hy]
  show (if (true && seqOk (x ++ y)) = true then _ else _) = _
  rw [hxy]
  rfl
theorem exec_run {X : Be} (hX : X.ok = true) : exec X tRun = if (runX X).ok then (runBe X, fmtL (runX X).y) else (X, noT) := by
  rw [exec_rest hX (by decide) (.inl (by decide)) (ask_word (by decide)), if_neg (by decide), if_pos rfl]
theorem exec_errors {X : Be} (hX : X.ok = true) : exec X tErrors = (X, fmtL X.errors) := exec_ask hX (by
  unfold askT
  rw [if_neg (by decide), if_neg (by decide), if_neg (by decide), if_pos rfl])
theorem exec_memory {X : Be} (hX : X.ok = true) : exec X tMemory = (X, fmtL X.memory) := exec_ask hX (by
  unfold askT
  rw [if_neg (by decide), if_pos rfl])
theorem exec_safe {X : Be} (hX : X.ok = true) : exec X tSafe = (X, decI (safeW X.levels X.step X.coefs)) := exec_ask hX (by
  unfold askT
  rw [if_neg (by decide), if_neg (by decide), if_neg (by decide), if_neg (by decide), if_neg (by decide), if_pos rfl])
theorem exec_sum {X : Be} (hX : X.ok = true) : exec X tSum = (X, decI (seqSum X.output)) := exec_ask hX (by
  unfold askT
  rw [if_neg (by decide), if_neg (by decide), if_neg (by decide), if_neg (by decide), if_neg (by decide), if_neg (by decide), if_pos rfl])
/-- The four lines, and what they are answered. -/
def fourT (l s : Int) (cs x : List Int) : List UInt8 := fmtM l s cs ++ 10 :: ((tIn ++ 32 :: fmtL x) ++ 10 :: (tRun ++ 10 :: tMemory))
theorem nl_in {x : List Int} : (10 : UInt8) ∉ tIn ++ 32 :: fmtL x := by
  simp only [List.mem_append, List.mem_cons, not_or]
  exact ⟨by decide, by decide, nl_fmt⟩
theorem spl_lines {l s : Int} {cs x : List Int} : spl 10 (fourT l s cs x) = [fmtM l s cs, tIn ++ 32 :: fmtL x, tRun, tMemory] := by
  unfold fourT
  rw [spl_hit _ nl_fmtM, spl_hit _ nl_in, spl_hit _ (by decide), spl_none (by decide)]
theorem script_four {l s : Int} {cs x : List Int} (hm : modOk l s cs = true) (hx : seqOk x = true) (hr : (runX (benX l s cs x)).ok = true) : scriptB (fourT l s cs x) = ([okT, okT, fmtL (runX (benX l s cs x)).y, fmtL (runX (benX l s cs x)).m], true) := by
  unfold scriptB
  rw [spl_lines]
  rw [if_pos (by show 4 ≤ 40; omega)]
  have s1 : exec newBe (fmtM l s cs) = (benX l s cs [], okT) := exec_new hm
  have s2 : exec (benX l s cs []) (tIn ++ 32 :: fmtL x) = (benX l s cs x, okT) := exec_inX hm seq_nil hx
  have hX := benX_ok hm hx
  have s3 : exec (benX l s cs x) tRun = (runBe (benX l s cs x), fmtL (runX (benX l s cs x)).y) := by rw [exec_run hX, if_pos hr]
  have hR : (runBe (benX l s cs x)).ok = true := by have := exec_ok (l := tRun) hX; rw [s3] at this; exact this
  have s4 : exec (runBe (benX l s cs x)) tMemory = (runBe (benX l s cs x), fmtL (runX (benX l s cs x)).m) := exec_memory hR
  have e : ansB [fmtM l s cs, tIn ++ 32 :: fmtL x, tRun, tMemory] = [(exec newBe (fmtM l s cs)).2, (exec (exec newBe (fmtM l s cs)).1 (tIn ++ 32 :: fmtL x)).2, (exec (exec (exec newBe (fmtM l s cs)).1 (tIn ++ 32 :: fmtL x)).1 tRun).2, (exec (exec (exec (exec newBe (fmtM l s cs)).1 (tIn ++ 32 :: fmtL x)).1 tRun).1 tMemory).2] := rfl
  rw [e, s1]
  show ([_, (exec (benX l s cs []) (tIn ++ 32 :: fmtL x)).2, (exec (exec (benX l s cs []) (tIn ++ 32 :: fmtL x)).1 tRun).2, (exec (exec (exec (benX l s cs []) (tIn ++ 32 :: fmtL x)).1 tRun).1 tMemory).2], true) = _
  rw [s2]
  show ([_, _, (exec (benX l s cs x) tRun).2, (exec (exec (benX l s cs x) tRun).1 tMemory).2], true) = _
  rw [s3]
  show ([_, _, _, (exec (runBe (benX l s cs x)) tMemory).2], true) = _
  rw [s4]
theorem run_seqs {l s : Int} {cs x : List Int} (hr : (runX (benX l s cs x)).ok = true) : seqOk (runX (benX l s cs x)).y = true ∧ seqOk (runX (benX l s cs x)).e = true ∧ seqOk (runX (benX l s cs x)).m = true := by
  have hp := run_parts hr
  have hk := runsOk_parts hp.1
  have hX : (benX l s cs x).ok = true := by
    exact benX_ok (mem_parts hk.1).1 hk.2.1
  have hR : (runBe (benX l s cs x)).ok = true := by
    have := exec_ok (l := tRun) hX; rw [exec_run hX, if_pos hr] at this; exact this
  obtain ⟨h1, h2, h3, h4⟩ := ok_parts hR
  exact ⟨h3, h4, (mem_parts h1).2.2⟩
end Go.Proofs.YtgkijkenbjjnmaaGreatDoor
