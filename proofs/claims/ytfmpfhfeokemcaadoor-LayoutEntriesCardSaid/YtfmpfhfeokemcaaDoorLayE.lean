/-
  Directories: what an entry's sector tells, in the program and in the document.
-/
import Derived.Test.YtfmpfhfeokemcaaDoorLayD
namespace Go.AM.Spec
set_option linter.unusedVariables false
set_option linter.unusedSimpArgs false
set_option maxHeartbeats 4000000
set_option maxRecDepth 20000

/-- Bytes of a sector's second half. -/
def cutOf (l : List UInt8) (n : Nat) : List UInt8 := if n ≤ 16 then (l.drop 16).take n else []

theorem bys_strip (l : List UInt8) : (bys l).map V.strip = bys l := by
  unfold bys; rw [List.map_map]; rfl
theorem rows_all_plain (s : List UInt8) : ((bytesRows s).all fun r => r.all V.plain) = true := by
  rw [List.all_eq_true]
  intro r hr
  unfold bytesRows at hr
  obtain ⟨c, _, rfl⟩ := List.mem_map.1 hr
  rfl
theorem rows_len (s : List UInt8) : (bytesRows s).length = s.length := by simp [bytesRows]
theorem bys_len (l : List UInt8) : (bys l).length = l.length := by simp [bys]

theorem rowsOf_half (H : Heap) (l : List UInt8) (hl : l.length = 32) (n : Nat) (hn : n ≤ 16) : rowsOf (H ++ [some (bys l)]) 1 (.ms H.length 16 n 16) = some (bytesRows (cutOf l n)) := by
  have e : (H ++ [some (bys l)])[H.length]? = some (some (bys l)) := by
    rw [List.getElem?_append_right (Nat.le_refl _), Nat.sub_self]; rfl
  unfold rowsOf
  simp only [e]
  rw [if_pos (by rw [bys_len]; omega), bys_strip, chunk_bys n l 16 (by omega), cutOf, if_pos hn]

theorem Clone_eq (H : Heap) (l : List UInt8) (hl : l.length = 32) (n : Nat) (hn : n ≤ 16) :
    eval tbl noExt n_bytes_Clone [.ms H.length 16 n 16] (H ++ [some (bys l)]) = some (.own 1 (bytesRows (cutOf l n)), H ++ [some (bys l)]) := by
  have h1 := rowsOf_half H l hl n hn
  have h2 := rows_all_plain (cutOf l n)
  have h3 := rows_len (cutOf l n)
  have h4 : (cutOf l n).length ≤ 16 := by unfold cutOf; rw [if_pos hn, List.length_take]; omega
  have h5 : 2 * (0 + (bytesRows (cutOf l n)).length) * 1 ≤ 2 ^ 48 := by rw [h3]; omega
  have g1 : 16 + n ≤ (bys l).length := by rw [bys_len]; omega
  have g2 : chunk 1 (List.map V.strip (bys l)) 16 n = bytesRows (cutOf l n) := by rw [bys_strip, chunk_bys n l 16 (by omega), cutOf, if_pos hn]
  have g3 : 2 * (cutOf l n).length ≤ 281474976710656 := by omega
  rw [eval_M rfl rfl t_bytes_Clone rfl]
  simp [c_bytes_Clone, g1, g2, g3, h2, h3, List.take_of_length_le]

theorem fits_eq (n : Nat) (H : Heap) : eval tbl noExt n_sector_fits [iw 16, iw n] H = some (.bool (decide (n ≤ 16)), H) := by
  have e1 : IntKind.i64.wrap 16 = 16 := rfl
  rw [eval_M rfl rfl t_sector_fits rfl]
  by_cases h : n ≤ 16
  · have h' : (n : Int) ≤ 16 := by omega
    simp [c_sector_fits, h, h', e1]
  · have h' : ¬ (n : Int) ≤ 16 := by omega
    have h'' : (16 : Int) < n := by omega
    simp [c_sector_fits, h, h', h'', e1]

theorem Cut_eq (l : List UInt8) (hl : l.length = 32) (n : Nat) (hn : n < 256) (H : Heap) :
    eval tbl noExt n_sector_Cut [.agg (bys l), iw 16, iw n] H = some (.own 1 (bytesRows (cutOf l n)), H) := by
  have hC := Clone_eq H l hl n
  have e1 : IntKind.i64.wrap (32 - 16) = 16 := rfl
  have ok := bys_ok hl
  have hf := fits_eq n []
  rw [eval_M rfl rfl t_sector_Cut rfl]
  by_cases h : n ≤ 16
  · have hC := hC h
    obtain ⟨m, hm⟩ : ∃ m, m = 16 + n := ⟨_, rfl⟩
    have e2 : IntKind.i64.wrap (16 + (n : Int)) = (m : Int) := by rw [w64] <;> omega
    have e3 : (m : Int) ≤ 32 := by omega
    have e4 : (16 : Int) ≤ m := by omega
    have e5 : m - 16 = n := by omega
    simp [c_sector_Cut, h, hC, hf, e2, e3, e4, e5]
  · simp [c_sector_Cut, h, hf, cutOf, bytesRows]

open Classical in
theorem Zero_eq (l : List UInt8) (hl : l.length = 32) (H : Heap) : eval tbl noExt n_sector_Zero [.agg (bys l)] H = some (.bool (decide (bys l = zeroSec)), H) := by
  have ok := bys_ok hl
  have he := ok.eqc zeroSec_ok
  have hz : [u8 0, u8 0, u8 0, u8 0, u8 0, u8 0, u8 0, u8 0, u8 0, u8 0, u8 0, u8 0, u8 0, u8 0, u8 0, u8 0, u8 0, u8 0, u8 0, u8 0, u8 0, u8 0, u8 0, u8 0, u8 0, u8 0, u8 0, u8 0, u8 0, u8 0, u8 0, u8 0] = zeroSec := rfl
  rw [eval_M rfl rfl t_sector_Zero rfl]
  simp [c_sector_Zero, ok.len, ok.take, ok.strip, ok.one, ok.under, hz, he]

theorem get_of {α : Type} {l : List α} {i : Nat} {c : α} (h : l[i]? = some c) : ∀ h : i < l.length, l[i] = c := fun hi => by
  rw [List.getElem?_eq_getElem hi] at h; exact Option.some.inj h

/-- An entry, of a sector. -/
def entIn (l : List UInt8) : En := ⟨true, (l.getD 1 0).toNat, cutOf l (l.getD 3 0).toNat, (l.getD 2 0).toNat⟩
open Classical in
noncomputable def entOf (l : List UInt8) : En × Bool :=
  if bys l = zeroSec then (zeroEn, true)
  else if (entIn l).right = true ∧ bys l = (entIn l).sec then (entIn l, true) else (zeroEn, false)

theorem cut_len (l : List UInt8) (n : Nat) : (cutOf l n).length ≤ 16 := by
  unfold cutOf
  split
  · rw [List.length_take]; omega
  · simp

open Classical in
theorem EntryOf_eq (l : List UInt8) (hl : l.length = 32) (H : Heap) : eval tbl noExt n_layout_EntryOf [.agg (bys l)] H = some (.tup [.agg (entOf l).1.cells, .bool (entOf l).2], H) := by
  have ok := bys_ok hl
  have hZ := Zero_eq l hl []
  have g1 : (bys l)[1]? = some (u8 (l.getD 1 0).toNat) := by apply bys_get; rw [List.getD_eq_getElem?_getD, List.getElem?_eq_getElem (by omega)]; rfl
  have g2 : (bys l)[2]? = some (u8 (l.getD 2 0).toNat) := by apply bys_get; rw [List.getD_eq_getElem?_getD, List.getElem?_eq_getElem (by omega)]; rfl
  have g3 : (bys l)[3]? = some (u8 (l.getD 3 0).toNat) := by apply bys_get; rw [List.getD_eq_getElem?_getD, List.getElem?_eq_getElem (by omega)]; rfl
  have b1 := UInt8.toNat_lt (l.getD 1 0)
  have b2 := UInt8.toNat_lt (l.getD 2 0)
  have b3 := UInt8.toNat_lt (l.getD 3 0)
  have hC := Cut_eq l hl (l.getD 3 0).toNat (by simpa using b3) []
  have hE := Entry_eq (entIn l) (by unfold entIn; exact Nat.le_trans (cut_len _ _) (by omega)) []
  have hc : (entIn l).cells = [.bool true, iw (l.getD 1 0).toNat, .str (cutOf l (l.getD 3 0).toNat), iw (l.getD 2 0).toNat] := rfl
  obtain ⟨p1, hp1⟩ : ∃ x, x = (l.getD 1 0).toNat := ⟨_, rfl⟩
  obtain ⟨p2, hp2⟩ : ∃ x, x = (l.getD 2 0).toNat := ⟨_, rfl⟩
  obtain ⟨p3, hp3⟩ : ∃ x, x = (l.getD 3 0).toNat := ⟨_, rfl⟩
  rw [← hp1] at g1 b1 hc
  rw [← hp2] at g2 b2 hc
  rw [← hp3] at g3 b3 hc hC
  have k1 := get_of g1
  have k2 := get_of g2
  have k3 := get_of g3
  have w1 : IntKind.i64.wrap (p1 : Int) = p1 := by rw [w64] <;> omega
  have w2 : IntKind.i64.wrap (p2 : Int) = p2 := by rw [w64] <;> omega
  have w3 : IntKind.i64.wrap (p3 : Int) = p3 := by rw [w64] <;> omega
  have hr := rowsBytes_of (cutOf l p3)
  rw [eval_M rfl rfl t_layout_EntryOf rfl]
  unfold entOf
  by_cases hz : bys l = zeroSec
  · rw [if_pos hz]
    rw [decide_eq_true hz] at hZ
    simp [c_layout_EntryOf, ok.len, ok.take, ok.strip, ok.one, ok.under, hZ, zeroEn, En.cells]
  · rw [if_neg hz]
    rw [decide_eq_false hz] at hZ
    cases hg : (entIn l).right with
    | false =>
      rw [if_neg (by simp)]
      have ho : (entIn l).out = zeroSec := by unfold En.out; rw [if_neg (by simp [hg])]
      have oz := zeroSec_ok
      rw [hc, hg, ho] at hE
      simp [c_layout_EntryOf, ok.len, ok.take, ok.strip, ok.one, ok.under, oz.len, oz.take, oz.strip, oz.one, oz.under, h32 oz, hZ, zeroEn, En.cells, g1, g2, g3, k1, k2, k3, w1, w2, w3, hC, hr, hE]
    | true =>
      have ho : (entIn l).out = (entIn l).sec := by unfold En.out; rw [if_pos hg]
      obtain ⟨r1, r2, r3, r4, r5⟩ := right_used hg rfl
      have os : SecOK (entIn l).sec := by unfold En.sec; rw [if_pos (show (entIn l).used = true from rfl)]; exact secAt_ok _ _ _ _ _ (Nat.le_refl _) (by omega)
      have he := ok.eqc os
      rw [hc, hg, ho] at hE
      by_cases hq : bys l = (entIn l).sec
      · rw [decide_eq_true hq] at he
        rw [if_pos ⟨rfl, hq⟩, hc]
        simp [c_layout_EntryOf, ok.len, ok.take, ok.strip, ok.one, ok.under, os.len, os.take, os.strip, os.one, os.under, h32 os, hZ, g1, g2, g3, k1, k2, k3, w1, w2, w3, hC, hr, hE, he]
      · rw [decide_eq_false hq] at he
        rw [if_neg (fun h => hq h.2)]
        simp [c_layout_EntryOf, ok.len, ok.take, ok.strip, ok.one, ok.under, os.len, os.take, os.strip, os.one, os.under, h32 os, hZ, g1, g2, g3, k1, k2, k3, w1, w2, w3, hC, hr, hE, he, zeroEn, En.cells]

end Go.AM.Spec
