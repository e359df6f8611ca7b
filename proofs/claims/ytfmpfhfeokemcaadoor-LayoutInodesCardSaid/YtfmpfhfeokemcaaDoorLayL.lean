/-
  Inodes: the law.
-/
import Derived.Test.YtfmpfhfeokemcaaDoorLayK
import Derived.Test.YtfmpfhfeokemcaaDoorLayQ
namespace Go.AM.Spec
set_option linter.unusedVariables false
set_option linter.unusedSimpArgs false
set_option maxHeartbeats 4000000
set_option maxRecDepth 20000

theorem ino_eqs (a b c d e f : Int) : eqCells [.int .i64, .int .i64, .int .i64, .int .i64, .int .i64, .int .i64] [iw a, iw b, iw c, iw d, iw e, iw f] [iw a, iw b, iw c, iw d, iw e, iw f] = some true := by
  simp [eqCells]

open Classical in
theorem LayoutInodes_eq (k s a b c d : Int) (l : List UInt8) (hl : l.length = 32) : eval tbl noExt n_flotsamlaw07_LayoutInodes [.agg [iw k, iw s, iw a, iw b, iw c, iw d], .agg (bys l)] [] = some (.bool true, []) := by
  have hk := knows07
  have hb : (bys l).length = 32 := by simp [bys, hl]
  have ok : SecOK (bys l) := ⟨⟨l.map fun c => (c.toNat : Int), by unfold bys secOf; rw [List.map_map]; rfl, by simpa using hl⟩⟩
  have hE := Inode_eq k s a b c d []
  have hE' := refInode_eq k s a b c d []
  have hR := RightInode_eq k s a b c d []
  have hR' := refRightInode_eq k s a b c d []
  have hO := InodeOf_eq l hl []
  have hO' := refInodeOf_eq l hl []
  have oo := inoOut_ok k s a b c d
  generalize secOf (inoOut k s a b c d) = O at *
  have he := oo.eqc oo
  rw [decide_eq_true rfl] at he
  obtain ⟨y, hy⟩ : ∃ y, y = inoOf l := ⟨_, rfl⟩
  rw [← hy] at hO hO'
  obtain ⟨⟨y0, y1, y2, y3, y4, y5⟩, r⟩ := y
  simp only [inoCells] at hO hO'
  have hes := ino_eqs y0 y1 y2 y3 y4 y5
  rw [eval_M rfl rfl t_flotsamlaw07_LayoutInodes rfl]
  simp [c_flotsamlaw07_LayoutInodes, ok.len, ok.take, ok.strip, ok.one, ok.under, oo.len, oo.take, oo.strip, oo.one, oo.under, h32 oo, hE, hE', hR, hR', hO, hO', he, hes, hk]

theorem LayoutInodes_all (x : Ino) (l : List UInt8) (hl : l.length = 32) : ∃ H', eval tbl noExt n_flotsamlaw07_LayoutInodes [.agg x.cells, .agg (bys l)] [] = some (.bool true, H') := ⟨_, LayoutInodes_eq x.1 x.2 x.3 x.4 x.5 x.6 l hl⟩

end Go.AM.Spec
