/-
  What the functions of the numbers answer: In, Add, Sub, Narrow of both packages, as plain equations.
-/
import Derived.Test.YtddhdalacanngaaCode
namespace Go.AM.Spec
set_option linter.unusedVariables false
set_option linter.unusedSimpArgs false

def noExt : Ext := fun _ => none

attribute [simp] stepO stepA wantedA ev rd takeX takeAll Fr.get Fr.put Fr.mask V.strip finish result resOne resMany trunc V.under V.underAll params arith compare index optBound bound ofNat? strOp load loadFrom

def clamp (n : Int) : Int := max (-1000000000000) (min n 1000000000000)

theorem clamp_small (n : Int) : -1000000000000 ≤ clamp n ∧ clamp n ≤ 1000000000000 := by unfold clamp; omega

theorem w64 {n : Int} (h1 : -9223372036854775808 ≤ n) (h2 : n ≤ 9223372036854775807) : IntKind.i64.wrap n = n := by rw [IntKind.wrap_i64]; omega

set_option maxHeartbeats 400000
variable (H : Heap)

theorem in_eq (n : Int) : eval tbl noExt n_num_in [.int .i64 n] H = some (.int .i64 (clamp n), H) := by
  rw [eval_M rfl t_num_in rfl]
  simp [c_num_in, clamp]

theorem refIn_eq (n : Int) : eval tbl noExt n_flotsamref01_In [.int .i64 n] H = some (.int .i64 (clamp n), H) := by
  rw [eval_M rfl t_flotsamref01_In rfl]
  simp [c_flotsamref01_In, clamp]
  omega

theorem add_eq (a b : Int) : eval tbl noExt n_num_Add [.int .i64 a, .int .i64 b] H = some (.int .i64 (clamp (clamp a + clamp b)), H) := by
  rw [eval_M rfl t_num_Add rfl]
  have ha := clamp_small a
  have hb := clamp_small b
  simp [c_num_Add, in_eq, w64 (n := clamp a + clamp b) (by omega) (by omega)]

theorem refAdd_eq (a b : Int) : eval tbl noExt n_flotsamref01_Add [.int .i64 a, .int .i64 b] H = some (.int .i64 (clamp (clamp a + clamp b)), H) := by
  rw [eval_M rfl t_flotsamref01_Add rfl]
  have ha := clamp_small a
  have hb := clamp_small b
  simp [c_flotsamref01_Add, refIn_eq, w64 (n := clamp a + clamp b) (by omega) (by omega)]

theorem sub_eq (a b : Int) : eval tbl noExt n_num_Sub [.int .i64 a, .int .i64 b] H = some (.int .i64 (clamp (clamp a - clamp b)), H) := by
  rw [eval_M rfl t_num_Sub rfl]
  have ha := clamp_small a
  have hb := clamp_small b
  simp [c_num_Sub, in_eq, w64 (n := clamp a - clamp b) (by omega) (by omega)]

theorem refSub_eq (a b : Int) : eval tbl noExt n_flotsamref01_Sub [.int .i64 a, .int .i64 b] H = some (.int .i64 (clamp (clamp a - clamp b)), H) := by
  rw [eval_M rfl t_flotsamref01_Sub rfl]
  have ha := clamp_small a
  have hb := clamp_small b
  simp [c_flotsamref01_Sub, refIn_eq, w64 (n := clamp a - clamp b) (by omega) (by omega)]

def narrow (n low high : Int) : Int := if high < low then low else max low (min n high)

theorem narrow_eq (n low high : Int) : eval tbl noExt n_num_Narrow [.int .i64 n, .int .i64 low, .int .i64 high] H = some (.int .i64 (narrow n low high), H) := by
  rw [eval_M rfl t_num_Narrow rfl]
  by_cases h : high < low <;> simp [c_num_Narrow, narrow, h]

theorem refNarrow_eq (n low high : Int) : eval tbl noExt n_flotsamref01_Narrow [.int .i64 n, .int .i64 low, .int .i64 high] H = some (.int .i64 (narrow n low high), H) := by
  rw [eval_M rfl t_flotsamref01_Narrow rfl]
  by_cases h : high < low
  · simp [c_flotsamref01_Narrow, narrow, h]
  · by_cases h1 : n < low
    · simp [c_flotsamref01_Narrow, narrow, h, h1]; omega
    · by_cases h2 : high < n <;> simp [c_flotsamref01_Narrow, narrow, h, h1, h2] <;> omega

end Go.AM.Spec
