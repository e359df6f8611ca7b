/-
  Disks: what must come.
-/
import Derived.Test.YtfmpfhfeokemcaaDoorLayB
namespace Go.AM.Spec

theorem knows07 : eval tbl noExt n_flotsamlaw07_knows [] [] = some (.bool true, []) := (eval_iff _ _ _ _ _ _).2 ⟨200, by kernel_rfl⟩

end Go.AM.Spec
