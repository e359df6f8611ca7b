/-
  Directories: what an entry's sector tells in the document.
-/
import Derived.Test.YtfmpfhfeokemcaaDoorLayE
namespace Go.AM.Spec
set_option linter.unusedVariables false
set_option linter.unusedSimpArgs false
set_option maxHeartbeats 4000000
set_option maxRecDepth 20000

theorem sec_get0 (x : En) (hu : x.used = true) : x.sec[0]? = some (u8 1) := by
  unfold En.sec; rw [if_pos hu]; rfl
theorem sec_get3 (x : En) (hu : x.used = true) : x.sec[3]? = some (u8 x.name.length) := by
  unfold En.sec; rw [if_pos hu]; rfl
theorem zero_right : zeroEn.right = true := rfl
theorem zero_out : zeroEn.out = zeroSec := rfl

open Classical in
theorem refEntryOf_eq (l : List UInt8) (hl : l.length = 32) (H : Heap) : eval tbl noExt n_flotsamref07_EntryOf [.agg (bys l)] H = some (.tup [.agg (entOf l).1.cells, .bool (entOf l).2], H) := by
  have ok := bys_ok hl
  have g0 : (bys l)[0]? = some (u8 (l.getD 0 0).toNat) := by apply bys_get; rw [List.getD_eq_getElem?_getD, List.getElem?_eq_getElem (by omega)]; rfl
  have g1 : (bys l)[1]? = some (u8 (l.getD 1 0).toNat) := by apply bys_get; rw [List.getD_eq_getElem?_getD, List.getElem?_eq_getElem (by omega)]; rfl
  have g2 : (bys l)[2]? = some (u8 (l.getD 2 0).toNat) := by apply bys_get; rw [List.getD_eq_getElem?_getD, List.getElem?_eq_getElem (by omega)]; rfl
  have g3 : (bys l)[3]? = some (u8 (l.getD 3 0).toNat) := by apply bys_get; rw [List.getD_eq_getElem?_getD, List.getElem?_eq_getElem (by omega)]; rfl
  have b1 := UInt8.toNat_lt (l.getD 1 0)
  have b2 := UInt8.toNat_lt (l.getD 2 0)
  have b3 := UInt8.toNat_lt (l.getD 3 0)
  have hE := refEntry_eq (entIn l) (by unfold entIn; exact Nat.le_trans (cut_len _ _) (by omega)) []
  have hZ := refEntry_eq zeroEn (by decide) []
  have hc : (entIn l).cells = [.bool true, iw (l.getD 1 0).toNat, .str (cutOf l (l.getD 3 0).toNat), iw (l.getD 2 0).toNat] := rfl
  have hn : (entIn l).name = cutOf l (l.getD 3 0).toNat := rfl
  have s0 := sec_get0 (entIn l) rfl
  have s3 := sec_get3 (entIn l) rfl
  obtain ⟨p0, hp0⟩ : ∃ x, x = (l.getD 0 0).toNat := ⟨_, rfl⟩
  obtain ⟨p1, hp1⟩ : ∃ x, x = (l.getD 1 0).toNat := ⟨_, rfl⟩
  obtain ⟨p2, hp2⟩ : ∃ x, x = (l.getD 2 0).toNat := ⟨_, rfl⟩
  obtain ⟨p3, hp3⟩ : ∃ x, x = (l.getD 3 0).toNat := ⟨_, rfl⟩
  rw [← hp0] at g0
  rw [← hp1] at g1 b1 hc
  rw [← hp2] at g2 b2 hc
  rw [← hp3] at g3 b3 hc hn
  have k0 := get_of g0
  have k1 := get_of g1
  have k2 := get_of g2
  have k3 := get_of g3
  have w1 : IntKind.i64.wrap (p1 : Int) = p1 := by rw [w64] <;> omega
  have w2 : IntKind.i64.wrap (p2 : Int) = p2 := by rw [w64] <;> omega
  have w3 : IntKind.i64.wrap (p3 : Int) = p3 := by rw [w64] <;> omega
  have hr := rowsBytes_of (cutOf l p3)
  have oz := zeroSec_ok
  rw [zero_right, zero_out] at hZ
  simp only [zeroEn, En.cells] at hZ
  have hez := oz.eqc ok
  rw [eval_M rfl rfl t_flotsamref07_EntryOf rfl]
  unfold entOf
  by_cases h1 : p0 = 1 ∧ p3 ≤ 8
  · obtain ⟨ha, hb⟩ := h1
    subst ha
    have hz : ¬ bys l = zeroSec := by
      intro h
      rw [h] at g0
      exact absurd g0 (by simp [zeroSec, List.replicate])
    rw [if_neg hz]
    have hb' : (p3 : Int) ≤ 8 := by omega
    obtain ⟨m, hm⟩ : ∃ m, m = 16 + p3 := ⟨_, rfl⟩
    have e2 : IntKind.i64.wrap (16 + (p3 : Int)) = (m : Int) := by rw [w64] <;> omega
    have e3 : (m : Int) ≤ 32 := by omega
    have e4 : (16 : Int) ≤ m := by omega
    have e5 : m - 16 = p3 := by omega
    have f1 : 16 + p3 ≤ 32 := by omega
    have f2 : chunk 1 (bys l) 16 p3 = bytesRows (cutOf l p3) := by rw [chunk_bys p3 l 16 (by omega), cutOf, if_pos (by omega)]
    cases hg : (entIn l).right with
    | false =>
      rw [if_neg (by simp)]
      have ho : (entIn l).out = zeroSec := by unfold En.out; rw [if_neg (by simp [hg])]
      rw [hc, hg, ho] at hE
      simp [c_flotsamref07_EntryOf, ok.len, ok.take, ok.strip, ok.one, ok.under, oz.len, oz.take, oz.strip, oz.one, oz.under, h32 oz, zeroEn, En.cells, g0, g1, g2, g3, k0, k1, k2, k3, w1, w2, w3, hr, hE, hb', e2, e3, e4, e5, f1, f2]
    | true =>
      have ho : (entIn l).out = (entIn l).sec := by unfold En.out; rw [if_pos hg]
      obtain ⟨r1, r2, r3, r4, r5⟩ := right_used hg rfl
      have os : SecOK (entIn l).sec := by unfold En.sec; rw [if_pos (show (entIn l).used = true from rfl)]; exact secAt_ok _ _ _ _ _ (Nat.le_refl _) (by omega)
      have he := os.eqc ok
      rw [hc, hg, ho] at hE
      by_cases hq : bys l = (entIn l).sec
      · rw [decide_eq_true hq.symm] at he
        rw [if_pos ⟨rfl, hq⟩, hc]
        simp [c_flotsamref07_EntryOf, ok.len, ok.take, ok.strip, ok.one, ok.under, os.len, os.take, os.strip, os.one, os.under, h32 os, g0, g1, g2, g3, k0, k1, k2, k3, w1, w2, w3, hr, hE, he, hb', e2, e3, e4, e5, f1, f2]
      · rw [decide_eq_false (fun h => hq h.symm)] at he
        rw [if_neg (fun h => hq h.2)]
        simp [c_flotsamref07_EntryOf, ok.len, ok.take, ok.strip, ok.one, ok.under, os.len, os.take, os.strip, os.one, os.under, h32 os, g0, g1, g2, g3, k0, k1, k2, k3, w1, w2, w3, hr, hE, he, hb', e2, e3, e4, e5, f1, f2, zeroEn, En.cells]
  · have hB : (if (bys l) = zeroSec then (zeroEn, true) else if (entIn l).right = true ∧ bys l = (entIn l).sec then (entIn l, true) else (zeroEn, false)) = (zeroEn, decide (zeroSec = bys l)) := by
      by_cases hz : bys l = zeroSec
      · rw [if_pos hz, decide_eq_true hz.symm]
      · rw [if_neg hz, decide_eq_false (fun h => hz h.symm), if_neg]
        intro ⟨hg, hq⟩
        apply h1
        rw [hq] at g0 g3
        rw [s0] at g0
        rw [s3] at g3
        obtain ⟨r1, r2, r3, r4, r5⟩ := right_used hg rfl
        simp only [Option.some.injEq, V.int.injEq, true_and] at g0 g3
        omega
    rw [hB]
    have hcond : p0 = 1 → ¬ (p3 : Int) ≤ 8 := fun h hh => h1 ⟨h, by omega⟩
    cases hd : decide (zeroSec = bys l) with
    | true =>
      rw [hd] at hez
      by_cases h0 : p0 = 1
      · have := hcond h0
        subst h0
        simp [c_flotsamref07_EntryOf, ok.len, ok.take, ok.strip, ok.one, ok.under, oz.len, oz.take, oz.strip, oz.one, oz.under, h32 oz, zeroEn, En.cells, g0, g1, g2, g3, k0, k1, k2, k3, hZ, hez, this]
      · have h0' : ¬ (p0 : Int) = 1 := by omega
        simp [c_flotsamref07_EntryOf, ok.len, ok.take, ok.strip, ok.one, ok.under, oz.len, oz.take, oz.strip, oz.one, oz.under, h32 oz, zeroEn, En.cells, g0, g1, g2, g3, k0, k1, k2, k3, hZ, hez, h0, h0']
    | false =>
      rw [hd] at hez
      by_cases h0 : p0 = 1
      · have := hcond h0
        subst h0
        simp [c_flotsamref07_EntryOf, ok.len, ok.take, ok.strip, ok.one, ok.under, oz.len, oz.take, oz.strip, oz.one, oz.under, h32 oz, zeroEn, En.cells, g0, g1, g2, g3, k0, k1, k2, k3, hZ, hez, this]
      · have h0' : ¬ (p0 : Int) = 1 := by omega
        simp [c_flotsamref07_EntryOf, ok.len, ok.take, ok.strip, ok.one, ok.under, oz.len, oz.take, oz.strip, oz.one, oz.under, h32 oz, zeroEn, En.cells, g0, g1, g2, g3, k0, k1, k2, k3, hZ, hez, h0, h0']

end Go.AM.Spec
