/-
  What a function over no memory of ours answers: the whole relation, not only a law's true. And steps of regions by hand.
-/
import Derived.Test.YtfbnodahmmlfdaaGreatDoorExt
namespace Go.AM
open Go.RowKit
set_option linter.unusedVariables false
section
variable {P : Program}
variable {ops : Array Oper} {Q : Exit → Act → World → Prop} {o : Oper} {rest : List Oper} {a : Act} {w w' : World}
theorem wl_val {v : Value} (hg : o.guard = none) (hr : (execOp a.eval o).run P w = .ok (.value v) w') (k : wpList P ops Q rest (a.put o.dst v) w') : wpList P ops Q (o :: rest) a w :=
 wpList_plain hg fun K hK => by unfold Oper.wp; rw [hr]; exact hK _ _ k
theorem Wrote.cells {w w' : World} {b off : Nat} {xs : Array Value} (h : Wrote w w' b off xs.toList) {c : Array Value} {t : TypeId} {fr : Nat × Nat} (hb : w.heap[b]? = some (.cells c t fr)) (hs : off + xs.size ≤ c.size) :
  (∃ c', w'.heap[b]? = some (.cells c' t fr) ∧ c'.size = c.size) ∧ ∀ j, (hj : j < xs.size) → w'.cell? ⟨b, off + j, none⟩ = some xs[j] := by
 obtain ⟨c', h1, h2, h3⟩ := h.row c t fr hb
 refine ⟨⟨c', h1, h2⟩, fun j hj => ?_⟩
 rw [cell_of_obj h1, h3 (off + j) (by omega), if_pos (by simp; omega)]
 simp [hj]
theorem Wrote.below {w w' : World} {b off : Nat} {xs : List Value} (h : Wrote w w' b off xs) {B : Nat} (hB : B ≤ b) : Below B w w' :=
 ⟨h.os, h.tape, h.output, by have := h.size; omega, fun k hk => h.other k (by omega)⟩
end
end Go.AM
