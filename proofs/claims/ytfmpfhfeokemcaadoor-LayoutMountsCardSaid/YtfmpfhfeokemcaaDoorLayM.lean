/-
  Disks: the empty one, and which are disks of files; the law.
-/
import Derived.Test.YtfmpfhfeokemcaaDoorLayK
import Derived.Test.YtfmpfhfeokemcaaDoorLayQ
namespace Go.AM.Spec
set_option linter.unusedVariables false
set_option linter.unusedSimpArgs false
set_option maxHeartbeats 4000000
set_option maxRecDepth 20000

def emptyRows : List (List V) := superCells :: ([u8 2] ++ List.replicate 31 (u8 0)) :: List.replicate 63 zeroSec

theorem Empty_eq : eval tbl noExt n_layout_Empty [] [] = some (.sl 32 emptyRows, []) := (eval_iff _ _ _ _ _ _).2 ⟨60, by kernel_rfl⟩
theorem refEmpty_eq : eval tbl noExt n_flotsamref07_Empty [] [] = some (.sl 32 emptyRows, []) := (eval_iff _ _ _ _ _ _).2 ⟨60, by kernel_rfl⟩
theorem sameEmpty : eval tbl noExt n_flotsamlaw04_Same [.sl 32 emptyRows, .sl 32 emptyRows] [] = some (.bool true, []) := (eval_iff _ _ _ _ _ _).2 ⟨200, by kernel_rfl⟩
theorem super_eq : eval tbl noExt n_layout_super [] [] = some (.agg superCells, []) := by rw [eval_X (e := xSuper) rfl rfl]; rfl
theorem refSuper_eq : eval tbl noExt n_flotsamref07_Super [] [] = some (.agg superCells, []) := (eval_iff _ _ _ _ _ _).2 ⟨60, by kernel_rfl⟩
theorem super_ok : SecOK superCells := ⟨⟨[70, 76, 79, 84] ++ List.replicate 28 0, rfl, rfl⟩⟩

theorem bys_ok' {l : List UInt8} (h : l.length = 32) : SecOK (bys l) := ⟨⟨l.map fun c => (c.toNat : Int), by unfold secOf bys; rw [List.map_map]; rfl, by simpa using h⟩⟩

open Classical in
noncomputable def mountsB : List (List UInt8) → Bool
  | s0 :: s1 :: r => decide (r.length = 63) && decide (bys s0 = superCells) && (inoOf s1).2 && decide ((inoOf s1).1.1 = 2)
  | _ => false

open Classical in
theorem mountsB_cons (s0 s1 : List UInt8) (r : List (List UInt8)) : mountsB (s0 :: s1 :: r) = (decide (r.length = 63) && decide (bys s0 = superCells) && (inoOf s1).2 && decide ((inoOf s1).1.1 = 2)) := rfl

open Classical in
theorem Mounts_eq (l : List (List UInt8)) (hl : ∀ s ∈ l, s.length = 32) : eval tbl noExt n_layout_Mounts [.sl 32 (l.map bys)] [] = some (.bool (mountsB l), []) := by
  have hs := super_eq
  rw [eval_M rfl rfl t_layout_Mounts rfl]
  by_cases hn : l.length = 65
  · match l, hn with
    | s0 :: s1 :: r, hn =>
      have hr : r.length = 63 := by simpa using hn
      have o0 := bys_ok' (hl s0 (by simp))
      have hI := InodeOf_eq s1 (hl s1 (by simp)) []
      have os := super_ok
      have he := o0.eqc os
      have o1 := bys_ok' (hl s1 (by simp))
      obtain ⟨y, hy⟩ : ∃ y, y = inoOf s1 := ⟨_, rfl⟩
      rw [mountsB_cons, ← hy]
      rw [← hy] at hI
      obtain ⟨⟨y0, y1, y2, y3, y4, y5⟩, b⟩ := y
      simp only [inoCells] at hI ⊢
      generalize superCells = O at *
      by_cases hq : bys s0 = O
      · rw [decide_eq_true hq, hq] at he
        cases b with
        | false => simp [c_layout_Mounts, hr, hs, o0.len, o0.take, o0.strip, o0.under, o0.one, o1.len, o1.take, o1.strip, o1.under, o1.one, os.len, os.take, os.strip, os.under, os.one, hq, he, hI]
        | true =>
          by_cases hk : y0 = 2
          · simp [c_layout_Mounts, hr, hs, o0.len, o0.take, o0.strip, o0.under, o0.one, o1.len, o1.take, o1.strip, o1.under, o1.one, os.len, os.take, os.strip, os.under, os.one, hq, he, hI, hk]
          · simp [c_layout_Mounts, hr, hs, o0.len, o0.take, o0.strip, o0.under, o0.one, o1.len, o1.take, o1.strip, o1.under, o1.one, os.len, os.take, os.strip, os.under, os.one, hq, he, hI, hk]
      · rw [decide_eq_false hq] at he
        simp [c_layout_Mounts, hr, hs, o0.len, o0.take, o0.strip, o0.under, o0.one, os.len, os.take, os.strip, os.under, os.one, hq, he]
  · have hB : mountsB l = false := by
      match l, hn with
      | [], _ => rfl
      | [_], _ => rfl
      | s0 :: s1 :: r, hn =>
        have : ¬ r.length = 63 := fun h => hn (by simp [h])
        simp [mountsB, this]
    have hn' : ¬ (l.length : Int) = 65 := by omega
    rw [hB]
    simp [c_layout_Mounts, hn, hn']

open Classical in
theorem refMounts_eq (l : List (List UInt8)) (hl : ∀ s ∈ l, s.length = 32) : eval tbl noExt n_flotsamref07_Mounts [.sl 32 (l.map bys)] [] = some (.bool (mountsB l), []) := by
  have hs := refSuper_eq
  rw [eval_M rfl rfl t_flotsamref07_Mounts rfl]
  by_cases hn : l.length = 65
  · match l, hn with
    | s0 :: s1 :: r, hn =>
      have hr : r.length = 63 := by simpa using hn
      have o0 := bys_ok' (hl s0 (by simp))
      have hI := refInodeOf_eq s1 (hl s1 (by simp)) []
      have os := super_ok
      have he := o0.eqc os
      have o1 := bys_ok' (hl s1 (by simp))
      obtain ⟨y, hy⟩ : ∃ y, y = inoOf s1 := ⟨_, rfl⟩
      rw [mountsB_cons, ← hy]
      rw [← hy] at hI
      obtain ⟨⟨y0, y1, y2, y3, y4, y5⟩, b⟩ := y
      simp only [inoCells] at hI ⊢
      generalize superCells = O at *
      by_cases hq : bys s0 = O
      · rw [decide_eq_true hq, hq] at he
        cases b with
        | false => simp [c_flotsamref07_Mounts, hr, hs, o0.len, o0.take, o0.strip, o0.under, o0.one, o1.len, o1.take, o1.strip, o1.under, o1.one, os.len, os.take, os.strip, os.under, os.one, hq, he, hI]
        | true =>
          by_cases hk : y0 = 2
          · simp [c_flotsamref07_Mounts, hr, hs, o0.len, o0.take, o0.strip, o0.under, o0.one, o1.len, o1.take, o1.strip, o1.under, o1.one, os.len, os.take, os.strip, os.under, os.one, hq, he, hI, hk]
          · simp [c_flotsamref07_Mounts, hr, hs, o0.len, o0.take, o0.strip, o0.under, o0.one, o1.len, o1.take, o1.strip, o1.under, o1.one, os.len, os.take, os.strip, os.under, os.one, hq, he, hI, hk]
      · rw [decide_eq_false hq] at he
        simp [c_flotsamref07_Mounts, hr, hs, o0.len, o0.take, o0.strip, o0.under, o0.one, os.len, os.take, os.strip, os.under, os.one, hq, he]
  · have hB : mountsB l = false := by
      match l, hn with
      | [], _ => rfl
      | [_], _ => rfl
      | s0 :: s1 :: r, hn =>
        have : ¬ r.length = 63 := fun h => hn (by simp [h])
        simp [mountsB, this]
    have hn' : ¬ (l.length : Int) = 65 := by omega
    rw [hB]
    simp [c_flotsamref07_Mounts, hn, hn']

theorem LayoutMounts_eq (l : List (List UInt8)) (hl : ∀ s ∈ l, s.length = 32) : eval tbl noExt n_flotsamlaw07_LayoutMounts [.sl 32 (l.map bys)] [] = some (.bool true, []) := by
  have hk := knows07
  have h1 := Empty_eq
  have h2 := refEmpty_eq
  have h3 := sameEmpty
  have h4 := Mounts_eq l hl
  have h5 := refMounts_eq l hl
  rw [eval_M rfl rfl t_flotsamlaw07_LayoutMounts rfl]
  by_cases hn : l.length ≤ 200
  · have hn' : ¬ (200 : Int) < l.length := by omega
    generalize emptyRows = E at *
    simp [c_flotsamlaw07_LayoutMounts, hn, hn', h1, h2, h3, h4, h5, hk]
  · have hn' : (200 : Int) < l.length := by omega
    simp [c_flotsamlaw07_LayoutMounts, hn, hn', hk]

theorem LayoutMounts_all (l : List (List UInt8)) (hl : ∀ s ∈ l, s.length = 32) : ∃ H', eval tbl noExt n_flotsamlaw07_LayoutMounts [.sl 32 (l.map bys)] [] = some (.bool true, H') := ⟨_, LayoutMounts_eq l hl⟩

end Go.AM.Spec
