/-
  Maps: what the model's runs do with them, as the evaluator takes it.
-/
import Derived.Test.YtkpopdcojheniaaEqa
import Derived.Test.YtkpopdcojheniaaOpM
import Derived.Carry
import Derived.WideKeyRuns
namespace Go.AM
open Go.MapKept
set_option linter.unusedVariables false
set_option linter.unusedSimpArgs false
theorem Cs.part : ∀ {m : Nat} {l : List CK} {a : List V} {xs : List Value}, Cs (List.replicate m l).flatten a xs → ∀ j, j < m → ∃ b, Cs l b ((xs.drop (j * l.length)).take l.length)
 | 0, _, _, _, _, j, hj => by omega
 | m + 1, l, a, xs, h, j, hj => by
  rw [List.replicate_succ, List.flatten_cons] at h
  obtain ⟨h1, h2⟩ := h.split
  cases j with
  | zero => exact ⟨_, by simpa using h1⟩
  | succ j =>
   obtain ⟨b, hb⟩ := h2.part j (by omega)
   rw [List.drop_drop] at hb
   exact ⟨b, by rw [Nat.add_mul, Nat.one_mul, Nat.add_comm]; exact hb⟩
section
variable {P : Program} (w : World)
end
section
variable {P : Program} {E : LblP} {nt : Cx} {φ : Fr} {H : Heap} {ρ : Own} {ι : Places} {a : Act} {w : World} {o : Oper}
end
end Go.AM
