/-
  Directories: the law of entries.
-/
import Derived.Test.YtfmpfhfeokemcaaDoorLayF
namespace Go.AM.Spec
set_option linter.unusedVariables false
set_option linter.unusedSimpArgs false
set_option maxHeartbeats 4000000
set_option maxRecDepth 20000

theorem knows07 : eval tbl noExt n_flotsamlaw07_knows [] [] = some (.bool true, []) := (eval_iff _ _ _ _ _ _).2 ⟨200, by kernel_rfl⟩

theorem out_ok (x : En) : SecOK x.out := by
  unfold En.out
  split
  · rename_i hr
    unfold En.sec
    split
    · rename_i hu
      exact secAt_ok _ _ _ _ _ (Nat.le_refl _) (by have := (right_used hr hu).2.2.2.2; omega)
    · exact zeroSec_ok
  · exact zeroSec_ok

theorem En.eqs (x : En) : eqCells [.bool, .int .i64, .str, .int .i64] x.cells x.cells = some true := by
  obtain ⟨a, b, c, d⟩ := x
  cases a <;> simp [eqCells, En.cells]
theorem En.len (x : En) : x.cells.length = 4 := rfl
theorem En.strip (x : En) : x.cells.map V.strip = x.cells := rfl
theorem En.take (x : En) : x.cells.take 4 = x.cells := rfl

open Classical in
theorem LayoutEntries_eq (x : En) (l : List UInt8) (hl : l.length = 32) (name : List UInt8) : eval tbl noExt n_flotsamlaw07_LayoutEntries [.agg x.cells, .agg (bys l), .str name] [] = some (.bool true, []) := by
  have hk := knows07
  rw [eval_M rfl rfl t_flotsamlaw07_LayoutEntries rfl]
  have hc : x.cells = [.bool x.used, iw x.parent, .str x.name, iw x.target] := rfl
  have ok := bys_ok hl
  by_cases h1 : x.name.length ≤ 300
  · by_cases h2 : name.length ≤ 300
    · have hE := Entry_eq x (by omega) []
      have hE' := refEntry_eq x (by omega) []
      have hR := RightEntry_eq x (by omega) []
      have hR' := refRightEntry_eq x (by omega) []
      have hO := EntryOf_eq l hl []
      have hO' := refEntryOf_eq l hl []
      have hN := LName_eq name (by omega) []
      have hN' := refLName_eq name (by omega) []
      have d1 : ¬ (300 : Int) < x.name.length := by omega
      have d2 : ¬ (300 : Int) < name.length := by omega
      have oo := out_ok x
      have he := oo.eqc oo
      rw [decide_eq_true rfl] at he
      have hes := (entOf l).1.eqs
      obtain ⟨y, hy⟩ : ∃ y, y = entOf l := ⟨_, rfl⟩
      rw [← hy] at hO hO' hes
      obtain ⟨y, b⟩ := y
      obtain ⟨yu, yp, yn, yt⟩ := y
      simp only [En.cells] at hO hO' hes
      rw [hc] at hE hE' hR hR' ⊢
      simp [c_flotsamlaw07_LayoutEntries, d1, d2, ok.len, ok.take, ok.strip, ok.one, ok.under, oo.len, oo.take, oo.strip, oo.one, oo.under, h32 oo, hE, hE', hR, hR', hO, hO', hN, hN', he, hes, hk]
    · rw [hc]
      have h2' : (300 : Int) < name.length := by omega
      have h1' : ¬ (300 : Int) < x.name.length := by omega
      simp [c_flotsamlaw07_LayoutEntries, h1, h2, h1', h2', hk]
  · rw [hc]
    have h1' : (300 : Int) < x.name.length := by omega
    simp [c_flotsamlaw07_LayoutEntries, h1, h1', hk]

theorem LayoutEntries_all (x : En) (l : List UInt8) (hl : l.length = 32) (name : List UInt8) : ∃ H', eval tbl noExt n_flotsamlaw07_LayoutEntries [.agg x.cells, .agg (bys l), .str name] [] = some (.bool true, H') := ⟨_, LayoutEntries_eq x l hl name⟩

end Go.AM.Spec
