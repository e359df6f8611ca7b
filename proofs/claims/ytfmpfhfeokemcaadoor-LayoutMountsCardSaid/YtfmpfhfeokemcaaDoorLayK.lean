/-
  Inodes: their sectors in the document, and what a sector tells.
-/
import Derived.Test.YtfmpfhfeokemcaaDoorLayJ
namespace Go.AM.Spec
set_option linter.unusedVariables false
set_option linter.unusedSimpArgs false
set_option maxHeartbeats 4000000
set_option maxRecDepth 20000

theorem refInode_eq (k s a b c d : Int) (H : Heap) : eval tbl noExt n_flotsamref07_Inode [.agg [iw k, iw s, iw a, iw b, iw c, iw d]] H = some (.tup [.agg (secOf (inoOut k s a b c d)), .bool (inoOK k s a b c d)], H) := by
  have hR := refRightInode_eq k s a b c d []
  rw [eval_M rfl rfl t_flotsamref07_Inode rfl]
  unfold inoOut
  cases hr : inoOK k s a b c d with
  | false =>
    rw [hr] at hR
    simp [c_flotsamref07_Inode, hR, secOf, List.replicate]
  | true =>
    rw [hr] at hR
    obtain ⟨bk, bs, ba, bb, bc, bd⟩ := ino_bounds hr
    have ek := wu8 bk.1 (by omega)
    have es := wu8 bs.1 (by omega)
    have ea := wu8 ba.1 (by omega)
    have eb := wu8 bb.1 (by omega)
    have ec := wu8 bc.1 (by omega)
    have ed := wu8 bd.1 (by omega)
    have v1 : IntKind.i64.wrap 1 = 1 := rfl
    have v2 : IntKind.i64.wrap 2 = 2 := rfl
    have v3 : IntKind.i64.wrap 3 = 3 := rfl
    have v4 : IntKind.i64.wrap 4 = 4 := rfl
    have v5 : IntKind.i64.wrap 5 = 5 := rfl
    simp [c_flotsamref07_Inode, hR, ek, es]
    rw [l_flotsamref07_Inode_0, M_loop, ← l_flotsamref07_Inode_0]
    simp [b_flotsamref07_Inode_0, v1, v2, ea]
    rw [l_flotsamref07_Inode_0, M_loop, ← l_flotsamref07_Inode_0]
    simp [b_flotsamref07_Inode_0, v2, v3, eb]
    rw [l_flotsamref07_Inode_0, M_loop, ← l_flotsamref07_Inode_0]
    simp [b_flotsamref07_Inode_0, v3, v4, ec]
    rw [l_flotsamref07_Inode_0, M_loop, ← l_flotsamref07_Inode_0]
    simp [b_flotsamref07_Inode_0, v4, v5, ed]
    rw [l_flotsamref07_Inode_0, M_loop, ← l_flotsamref07_Inode_0]
    simp [b_flotsamref07_Inode_0, r_flotsamref07_Inode_0]
    rfl

theorem inoOut_ok (k s a b c d : Int) : SecOK (secOf (inoOut k s a b c d)) := SecOK.of _ (inoOut_len ..)

/-- The six numbers ahead in a sector. -/
def six (l : List UInt8) : Int × Int × Int × Int × Int × Int := ((l.getD 0 0).toNat, (l.getD 1 0).toNat, (l.getD 2 0).toNat, (l.getD 3 0).toNat, (l.getD 4 0).toNat, (l.getD 5 0).toNat)
def inoCells (x : Int × Int × Int × Int × Int × Int) : List V := [iw x.1, iw x.2.1, iw x.2.2.1, iw x.2.2.2.1, iw x.2.2.2.2.1, iw x.2.2.2.2.2]
def okOf (x : Int × Int × Int × Int × Int × Int) : Bool := inoOK x.1 x.2.1 x.2.2.1 x.2.2.2.1 x.2.2.2.2.1 x.2.2.2.2.2
def outOf (x : Int × Int × Int × Int × Int × Int) : List Int := inoOut x.1 x.2.1 x.2.2.1 x.2.2.2.1 x.2.2.2.2.1 x.2.2.2.2.2
open Classical in
/-- An inode, of a sector. -/
noncomputable def inoOf (l : List UInt8) : (Int × Int × Int × Int × Int × Int) × Bool :=
  if okOf (six l) = true ∧ bys l = secOf (outOf (six l)) then (six l, true) else ((0, 0, 0, 0, 0, 0), false)

theorem get_at {α : Type} {l : List α} {i : Nat} {c : α} (h : l[i]? = some c) : ∀ h : i < l.length, l[i] = c := fun hi => by
  rw [List.getElem?_eq_getElem hi] at h; exact Option.some.inj h

theorem bys_at (l : List UInt8) (hl : l.length = 32) {i : Nat} (h : i < 32) : (bys l)[i]? = some (u8 (l.getD i 0).toNat) := by
  unfold bys
  rw [List.getElem?_map, List.getD_eq_getElem?_getD, List.getElem?_eq_getElem (by omega)]
  rfl

open Classical in
theorem InodeOf_eq (l : List UInt8) (hl : l.length = 32) (H : Heap) : eval tbl noExt n_layout_InodeOf [.agg (bys l)] H = some (.tup [.agg (inoCells (inoOf l).1), .bool (inoOf l).2], H) := by
  have hb : (bys l).length = 32 := by simp [bys, hl]
  have ok : SecOK (bys l) := ⟨⟨l.map fun c => (c.toNat : Int), by unfold bys secOf; rw [List.map_map]; rfl, by simpa using hl⟩⟩
  have g0 := bys_at l hl (i := 0) (by omega)
  have g1 := bys_at l hl (i := 1) (by omega)
  have g2 := bys_at l hl (i := 2) (by omega)
  have g3 := bys_at l hl (i := 3) (by omega)
  have g4 := bys_at l hl (i := 4) (by omega)
  have g5 := bys_at l hl (i := 5) (by omega)
  have t0 := UInt8.toNat_lt (l.getD 0 0)
  have t1 := UInt8.toNat_lt (l.getD 1 0)
  have t2 := UInt8.toNat_lt (l.getD 2 0)
  have t3 := UInt8.toNat_lt (l.getD 3 0)
  have t4 := UInt8.toNat_lt (l.getD 4 0)
  have t5 := UInt8.toNat_lt (l.getD 5 0)
  have h6 : six l = (((l.getD 0 0).toNat : Int), ((l.getD 1 0).toNat : Int), ((l.getD 2 0).toNat : Int), ((l.getD 3 0).toNat : Int), ((l.getD 4 0).toNat : Int), ((l.getD 5 0).toNat : Int)) := rfl
  unfold inoOf
  rw [h6]
  obtain ⟨p0, hp0⟩ : ∃ x, x = (l.getD 0 0).toNat := ⟨_, rfl⟩
  obtain ⟨p1, hp1⟩ : ∃ x, x = (l.getD 1 0).toNat := ⟨_, rfl⟩
  obtain ⟨p2, hp2⟩ : ∃ x, x = (l.getD 2 0).toNat := ⟨_, rfl⟩
  obtain ⟨p3, hp3⟩ : ∃ x, x = (l.getD 3 0).toNat := ⟨_, rfl⟩
  obtain ⟨p4, hp4⟩ : ∃ x, x = (l.getD 4 0).toNat := ⟨_, rfl⟩
  obtain ⟨p5, hp5⟩ : ∃ x, x = (l.getD 5 0).toNat := ⟨_, rfl⟩
  rw [← hp0] at g0 t0 ⊢
  rw [← hp1] at g1 t1 ⊢
  rw [← hp2] at g2 t2 ⊢
  rw [← hp3] at g3 t3 ⊢
  rw [← hp4] at g4 t4 ⊢
  rw [← hp5] at g5 t5 ⊢
  clear hp0 hp1 hp2 hp3 hp4 hp5 h6
  have k0 := get_at g0
  have k1 := get_at g1
  have k2 := get_at g2
  have k3 := get_at g3
  have k4 := get_at g4
  have k5 := get_at g5
  have w0 : IntKind.i64.wrap (p0 : Int) = p0 := by rw [w64] <;> omega
  have w1 : IntKind.i64.wrap (p1 : Int) = p1 := by rw [w64] <;> omega
  have w2 : IntKind.i64.wrap (p2 : Int) = p2 := by rw [w64] <;> omega
  have w3 : IntKind.i64.wrap (p3 : Int) = p3 := by rw [w64] <;> omega
  have w4 : IntKind.i64.wrap (p4 : Int) = p4 := by rw [w64] <;> omega
  have w5 : IntKind.i64.wrap (p5 : Int) = p5 := by rw [w64] <;> omega
  have v1 : IntKind.i64.wrap 1 = 1 := rfl
  have v2 : IntKind.i64.wrap 2 = 2 := rfl
  have v3 : IntKind.i64.wrap 3 = 3 := rfl
  have v4 : IntKind.i64.wrap 4 = 4 := rfl
  have v5 : IntKind.i64.wrap 5 = 5 := rfl
  have hE := Inode_eq p0 p1 p2 p3 p4 p5 []
  have os := inoOut_ok p0 p1 p2 p3 p4 p5
  have he := ok.eqc os
  have hI : (if okOf ((p0 : Int), (p1 : Int), (p2 : Int), (p3 : Int), (p4 : Int), (p5 : Int)) = true ∧ bys l = secOf (outOf ((p0 : Int), (p1 : Int), (p2 : Int), (p3 : Int), (p4 : Int), (p5 : Int))) then (((p0 : Int), (p1 : Int), (p2 : Int), (p3 : Int), (p4 : Int), (p5 : Int)), true) else ((0, 0, 0, 0, 0, 0), false)) =
      (if inoOK p0 p1 p2 p3 p4 p5 = true ∧ bys l = secOf (inoOut p0 p1 p2 p3 p4 p5) then (((p0 : Int), (p1 : Int), (p2 : Int), (p3 : Int), (p4 : Int), (p5 : Int)), true) else ((0, 0, 0, 0, 0, 0), false)) := rfl
  rw [hI]
  generalize hO : secOf (inoOut p0 p1 p2 p3 p4 p5) = O at *
  rw [eval_M rfl rfl t_layout_InodeOf rfl]
  simp [c_layout_InodeOf, ok.len, ok.take, ok.strip, ok.one, ok.under, g0, g1, k0, k1, w0, w1]
  rw [l_layout_InodeOf_0, M_loop, ← l_layout_InodeOf_0]
  simp [b_layout_InodeOf_0, v1, v2, ok.len, g2, k2, w2]
  rw [l_layout_InodeOf_0, M_loop, ← l_layout_InodeOf_0]
  simp [b_layout_InodeOf_0, v2, v3, ok.len, g3, k3, w3]
  rw [l_layout_InodeOf_0, M_loop, ← l_layout_InodeOf_0]
  simp [b_layout_InodeOf_0, v3, v4, ok.len, g4, k4, w4]
  rw [l_layout_InodeOf_0, M_loop, ← l_layout_InodeOf_0]
  simp [b_layout_InodeOf_0, v4, v5, ok.len, g5, k5, w5]
  rw [l_layout_InodeOf_0, M_loop, ← l_layout_InodeOf_0]
  cases hr : inoOK p0 p1 p2 p3 p4 p5 with
  | false =>
    rw [hr] at hE
    simp [b_layout_InodeOf_0, r_layout_InodeOf_0, hE, os.len, os.take, os.strip, os.one, os.under, h32 os, inoCells]
  | true =>
    rw [hr] at hE
    by_cases hq : bys l = O
    · rw [decide_eq_true hq, hq] at he
      simp [b_layout_InodeOf_0, r_layout_InodeOf_0, hE, ok.len, ok.take, ok.strip, ok.one, ok.under, os.len, os.take, os.strip, os.one, os.under, h32 os, he, hq, inoCells]
    · rw [decide_eq_false hq] at he
      simp [b_layout_InodeOf_0, r_layout_InodeOf_0, hE, ok.len, ok.take, ok.strip, ok.one, ok.under, os.len, os.take, os.strip, os.one, os.under, h32 os, he, hq, inoCells]

open Classical in
theorem refInodeOf_eq (l : List UInt8) (hl : l.length = 32) (H : Heap) : eval tbl noExt n_flotsamref07_InodeOf [.agg (bys l)] H = some (.tup [.agg (inoCells (inoOf l).1), .bool (inoOf l).2], H) := by
  have hb : (bys l).length = 32 := by simp [bys, hl]
  have ok : SecOK (bys l) := ⟨⟨l.map fun c => (c.toNat : Int), by unfold bys secOf; rw [List.map_map]; rfl, by simpa using hl⟩⟩
  have g0 := bys_at l hl (i := 0) (by omega)
  have g1 := bys_at l hl (i := 1) (by omega)
  have g2 := bys_at l hl (i := 2) (by omega)
  have g3 := bys_at l hl (i := 3) (by omega)
  have g4 := bys_at l hl (i := 4) (by omega)
  have g5 := bys_at l hl (i := 5) (by omega)
  have t0 := UInt8.toNat_lt (l.getD 0 0)
  have t1 := UInt8.toNat_lt (l.getD 1 0)
  have t2 := UInt8.toNat_lt (l.getD 2 0)
  have t3 := UInt8.toNat_lt (l.getD 3 0)
  have t4 := UInt8.toNat_lt (l.getD 4 0)
  have t5 := UInt8.toNat_lt (l.getD 5 0)
  have h6 : six l = (((l.getD 0 0).toNat : Int), ((l.getD 1 0).toNat : Int), ((l.getD 2 0).toNat : Int), ((l.getD 3 0).toNat : Int), ((l.getD 4 0).toNat : Int), ((l.getD 5 0).toNat : Int)) := rfl
  unfold inoOf
  rw [h6]
  obtain ⟨p0, hp0⟩ : ∃ x, x = (l.getD 0 0).toNat := ⟨_, rfl⟩
  obtain ⟨p1, hp1⟩ : ∃ x, x = (l.getD 1 0).toNat := ⟨_, rfl⟩
  obtain ⟨p2, hp2⟩ : ∃ x, x = (l.getD 2 0).toNat := ⟨_, rfl⟩
  obtain ⟨p3, hp3⟩ : ∃ x, x = (l.getD 3 0).toNat := ⟨_, rfl⟩
  obtain ⟨p4, hp4⟩ : ∃ x, x = (l.getD 4 0).toNat := ⟨_, rfl⟩
  obtain ⟨p5, hp5⟩ : ∃ x, x = (l.getD 5 0).toNat := ⟨_, rfl⟩
  rw [← hp0] at g0 t0 ⊢
  rw [← hp1] at g1 t1 ⊢
  rw [← hp2] at g2 t2 ⊢
  rw [← hp3] at g3 t3 ⊢
  rw [← hp4] at g4 t4 ⊢
  rw [← hp5] at g5 t5 ⊢
  clear hp0 hp1 hp2 hp3 hp4 hp5 h6
  have k0 := get_at g0
  have k1 := get_at g1
  have k2 := get_at g2
  have k3 := get_at g3
  have k4 := get_at g4
  have k5 := get_at g5
  have w0 : IntKind.i64.wrap (p0 : Int) = p0 := by rw [w64] <;> omega
  have w1 : IntKind.i64.wrap (p1 : Int) = p1 := by rw [w64] <;> omega
  have w2 : IntKind.i64.wrap (p2 : Int) = p2 := by rw [w64] <;> omega
  have w3 : IntKind.i64.wrap (p3 : Int) = p3 := by rw [w64] <;> omega
  have w4 : IntKind.i64.wrap (p4 : Int) = p4 := by rw [w64] <;> omega
  have w5 : IntKind.i64.wrap (p5 : Int) = p5 := by rw [w64] <;> omega
  have v1 : IntKind.i64.wrap 1 = 1 := rfl
  have v2 : IntKind.i64.wrap 2 = 2 := rfl
  have v3 : IntKind.i64.wrap 3 = 3 := rfl
  have v4 : IntKind.i64.wrap 4 = 4 := rfl
  have v5 : IntKind.i64.wrap 5 = 5 := rfl
  have hE := refInode_eq p0 p1 p2 p3 p4 p5 []
  have os := inoOut_ok p0 p1 p2 p3 p4 p5
  have he := os.eqc ok
  have hI : (if okOf ((p0 : Int), (p1 : Int), (p2 : Int), (p3 : Int), (p4 : Int), (p5 : Int)) = true ∧ bys l = secOf (outOf ((p0 : Int), (p1 : Int), (p2 : Int), (p3 : Int), (p4 : Int), (p5 : Int))) then (((p0 : Int), (p1 : Int), (p2 : Int), (p3 : Int), (p4 : Int), (p5 : Int)), true) else ((0, 0, 0, 0, 0, 0), false)) =
      (if inoOK p0 p1 p2 p3 p4 p5 = true ∧ bys l = secOf (inoOut p0 p1 p2 p3 p4 p5) then (((p0 : Int), (p1 : Int), (p2 : Int), (p3 : Int), (p4 : Int), (p5 : Int)), true) else ((0, 0, 0, 0, 0, 0), false)) := rfl
  rw [hI]
  generalize hO : secOf (inoOut p0 p1 p2 p3 p4 p5) = O at *
  rw [eval_M rfl rfl t_flotsamref07_InodeOf rfl]
  simp [c_flotsamref07_InodeOf, ok.len, ok.take, ok.strip, ok.one, ok.under, g0, g1, k0, k1, w0, w1]
  rw [l_flotsamref07_InodeOf_0, M_loop, ← l_flotsamref07_InodeOf_0]
  simp [b_flotsamref07_InodeOf_0, v1, v2, ok.len, g2, k2, w2]
  rw [l_flotsamref07_InodeOf_0, M_loop, ← l_flotsamref07_InodeOf_0]
  simp [b_flotsamref07_InodeOf_0, v2, v3, ok.len, g3, k3, w3]
  rw [l_flotsamref07_InodeOf_0, M_loop, ← l_flotsamref07_InodeOf_0]
  simp [b_flotsamref07_InodeOf_0, v3, v4, ok.len, g4, k4, w4]
  rw [l_flotsamref07_InodeOf_0, M_loop, ← l_flotsamref07_InodeOf_0]
  simp [b_flotsamref07_InodeOf_0, v4, v5, ok.len, g5, k5, w5]
  rw [l_flotsamref07_InodeOf_0, M_loop, ← l_flotsamref07_InodeOf_0]
  cases hr : inoOK p0 p1 p2 p3 p4 p5 with
  | false =>
    rw [hr] at hE
    simp [b_flotsamref07_InodeOf_0, r_flotsamref07_InodeOf_0, hE, os.len, os.take, os.strip, os.one, os.under, h32 os, inoCells]
  | true =>
    rw [hr] at hE
    by_cases hq : bys l = O
    · rw [decide_eq_true hq.symm, hq] at he
      simp [b_flotsamref07_InodeOf_0, r_flotsamref07_InodeOf_0, hE, ok.len, ok.take, ok.strip, ok.one, ok.under, os.len, os.take, os.strip, os.one, os.under, h32 os, he, hq, inoCells]
    · rw [decide_eq_false (fun h => hq h.symm)] at he
      simp [b_flotsamref07_InodeOf_0, r_flotsamref07_InodeOf_0, hE, ok.len, ok.take, ok.strip, ok.one, ok.under, os.len, os.take, os.strip, os.one, os.under, h32 os, he, hq, inoCells]

end Go.AM.Spec
