/-
  What all specifications share: no foreign functions; the equations that the simplifier runs; the memory's end.
-/
import Derived.Test.YtbgblfbbeamleaaGreatDoorCode
namespace Go.AM.Spec
set_option linter.unusedVariables false
set_option linter.unusedSimpArgs false


attribute [simp] stepO stepA wantedA ev rd takeX takeAll Fr.get Fr.put Fr.mask V.strip finish result resOne resMany trunc V.under V.underAll params arith compare index optBound bound ofNat? strOp load loadFrom

theorem w64 {n : Int} (h1 : -9223372036854775808 ≤ n) (h2 : n ≤ 9223372036854775807) : IntKind.i64.wrap n = n := by rw [IntKind.wrap_i64]; omega

/-! The memory's end. -/
theorem get0 (l : Heap) (x : Option (List V)) (r : Heap) : (l ++ x :: r)[l.length]? = some x := by simp
theorem get1 (l : Heap) (a x : Option (List V)) (r : Heap) : (l ++ a :: x :: r)[l.length + 1]? = some x := by
  rw [List.getElem?_append_right (by omega)]; simp
theorem set0 (l : Heap) (x y : Option (List V)) (r : Heap) : (l ++ x :: r).set l.length y = l ++ y :: r := by
  rw [List.set_append_right _ _ (Nat.le_refl _)]; simp
theorem set1 (l : Heap) (a x y : Option (List V)) (r : Heap) : (l ++ a :: x :: r).set (l.length + 1) y = l ++ a :: y :: r := by
  rw [List.set_append_right _ _ (by omega)]; simp

theorem take_more {K H : Heap} {n : Nat} (h : K.take n = H) (hn : n ≤ K.length) (r : Heap) : (K ++ r).take n = H := by
  rw [List.take_append_of_le_length hn]; exact h

attribute [simp] finishW frzL frzA mapNew mapAt V.scalar

mutual
theorem V.eqb_self : ∀ v : V, V.eqb v v = true
  | .bool _ | .int .. | .str _ | .nilp | .nilf | .undef | .no | .ptr .. | .ms .. | .yld _ | .bld .. | .bptr _ | .mptr _ | .nilm | .nils _ | .mg .. => by simp [V.eqb]
  | .rp r _ | .agg r | .tup r => by simp [V.eqb, V.eqbL_self r]
  | .sl _ r | .own _ r | .mix _ r _ _ => by simp [V.eqb, V.eqbR_self r]
  | .fn _ r s => by simp [V.eqb, V.eqbL_self r, V.eqbL_self s]
  | .lrec _ _ _ _ _ r => by simp [V.eqb, V.eqbL_self r]
  | .mp _ _ r s => by simp [V.eqb, V.eqbR_self r, V.eqbL_self s]
theorem V.eqbL_self : ∀ l : List V, V.eqbL l l = true
  | [] => rfl
  | v :: l => by simp [V.eqbL, V.eqb_self v, V.eqbL_self l]
theorem V.eqbR_self : ∀ l : List (List V), V.eqbR l l = true
  | [] => rfl
  | v :: l => by simp [V.eqbR, V.eqbL_self v, V.eqbR_self l]
end
@[simp] theorem heapEqb_self : ∀ H : Heap, heapEqb H H = true
  | [] => rfl
  | none :: H => by simp [heapEqb, heapEqb_self H]
  | some x :: H => by simp [heapEqb, V.eqbL_self x, heapEqb_self H]
attribute [simp] callSame

attribute [simp] V.ref
attribute [simp] V.cells V.one V.isUndef setMany allStrip partsOf rdp fits overlay chunk rowsOf V.plain fnParts fnParts0 callCalm

end Go.AM.Spec
