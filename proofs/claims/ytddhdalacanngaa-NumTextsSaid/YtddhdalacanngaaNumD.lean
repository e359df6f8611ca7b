/-
  What the law NumRange answers: true for all numbers and bounds.
-/
import Derived.Test.YtddhdalacanngaaNumC
namespace Go.AM.Spec
set_option linter.unusedVariables false
set_option linter.unusedSimpArgs false
set_option maxHeartbeats 400000
variable (H : Heap)

theorem read_120 : readR [49, 50, 48] = (120, true) := by decide +kernel

theorem text_45 : text (-45) = [45, 52, 53] := by decide +kernel

theorem knows_eq : eval tbl noExt n_flotsamlaw01_knows [] H = some (.bool true, H) := by
  rw [eval_M rfl t_flotsamlaw01_knows rfl]
  have h1 : clamp (clamp 1000000000000 + clamp 1) = 1000000000000 := by decide +kernel
  have h2 : narrow 9 1 5 = 5 := by decide +kernel
  simp [c_flotsamlaw01_knows, read_eq, read_120, add_eq, digits_eq, text_45, narrow_eq, h1, h2]

theorem range_eq (a b : Int) (low high : Int) (_ : (Lit.int .i64 a).wf = true) (_ : (Lit.int .i64 b).wf = true) (_ : (Lit.int .i64 low).wf = true) (_ : (Lit.int .i64 high).wf = true) : eval tbl noExt n_flotsamlaw01_NumRange [.int .i64 a, .int .i64 b, .int .i64 low, .int .i64 high] H = some (.bool true, H) := by
  rw [eval_M rfl t_flotsamlaw01_NumRange rfl]
  simp [c_flotsamlaw01_NumRange, add_eq, refAdd_eq, sub_eq, refSub_eq, narrow_eq, refNarrow_eq, knows_eq]

end Go.AM.Spec
