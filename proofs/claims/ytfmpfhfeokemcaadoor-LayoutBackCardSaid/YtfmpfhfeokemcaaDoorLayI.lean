/-
  What layout.RightInode calls, without functions taken as given.
-/
import Derived.Test.YtfmpfhfeokemcaaDoorContI
import Derived.Test.YtfmpfhfeokemcaaDoorLayB
namespace Go.AM.Spec
set_option linter.unusedVariables false
set_option linter.unusedSimpArgs false
set_option maxHeartbeats 1000000

theorem RightInode_1_0 (b : Int) (H : Heap) : eval tbl (fun _ => none) n_layout_RightInode_1 [iw b] H = some (.bool (odd24 b), H) := by
  rw [eval_M rfl rfl t_layout_RightInode_1 rfl]
  unfold odd24
  by_cases h : b < 1
  · simp [c_layout_RightInode_1, h]
  · simp [c_layout_RightInode_1, h]

theorem RightInode_2_0 (b : Int) (H : Heap) : eval tbl (fun _ => none) n_layout_RightInode_2 [iw b] H = some (.bool (decide (b ≠ 0)), H) := by
  rw [eval_M rfl rfl t_layout_RightInode_2 rfl]
  simp [c_layout_RightInode_2]

theorem contains1_0 (l : List Int) (hl : l.length ≤ 1000000) (H : Heap) : eval tbl (fun _ => none) n_slices_ContainsFunc_int_int [.sl 1 (l.map fun a => [iw a]), .fn (.func n_layout_RightInode_1) [] []] H = some (.bool (l.any odd24), H) :=
  ContainsFunc_int_int lt_layout_RightInode_1 (fun a => a) l hl odd24 H (fun a _ => RightInode_1_0 a H)

theorem contains2_0 (l : List Int) (hl : l.length ≤ 1000000) (H : Heap) : eval tbl (fun _ => none) n_slices_ContainsFunc_int_int [.sl 1 (l.map fun a => [iw a]), .fn (.func n_layout_RightInode_2) [] []] H = some (.bool (l.any fun b => decide (b ≠ 0)), H) :=
  ContainsFunc_int_int lt_layout_RightInode_2 (fun a => a) l hl (fun b => decide (b ≠ 0)) H (fun a _ => RightInode_2_0 a H)

/-- Where no list is sorted. -/
theorem rin_free0 (k s a b c d : Int) (h : k = 0 ∨ k = 2) : eval tbl (fun _ => none) n_layout_RightInode [.agg [iw k, iw s, iw a, iw b, iw c, iw d]] [] = some (.bool (decide (s = 0 ∧ a = 0 ∧ b = 0 ∧ c = 0 ∧ d = 0)), []) := by
  rw [eval_M rfl rfl t_layout_RightInode rfl]
  rcases h with h | h
  · subst h
    simp [c_layout_RightInode, eqCells, Bool.and_assoc]
  · subst h
    simp [c_layout_RightInode, eqCells, Bool.and_assoc]

theorem rin_odd0 (k s a b c d : Int) (h0 : k ≠ 0) (h2 : k ≠ 2) (h1 : k ≠ 1) : eval tbl (fun _ => none) n_layout_RightInode [.agg [iw k, iw s, iw a, iw b, iw c, iw d]] [] = some (.bool false, []) := by
  rw [eval_M rfl rfl t_layout_RightInode rfl]
  simp [c_layout_RightInode, h0, h1, h2]

theorem rin_size0 (s a b c d : Int) (h : s < 0 ∨ 128 < s) : eval tbl (fun _ => none) n_layout_RightInode [.agg [iw 1, iw s, iw a, iw b, iw c, iw d]] [] = some (.bool false, []) := by
  rw [eval_M rfl rfl t_layout_RightInode rfl]
  by_cases h1 : s < 0
  · simp [c_layout_RightInode, h1]
  · have h2 : (128 : Int) < s := by omega
    simp [c_layout_RightInode, h1, h2]

end Go.AM.Spec
