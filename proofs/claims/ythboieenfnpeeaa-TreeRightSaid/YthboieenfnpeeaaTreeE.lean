/-
  What the laws of trees expect of every program: computed. And the law TreeLists.
-/
import Derived.Test.YthboieenfnpeeaaTreeP
namespace Go.AM.Spec
set_option linter.unusedVariables false
set_option linter.unusedSimpArgs false
set_option maxHeartbeats 1000000

theorem knows16 : eval tbl noExt n_flotsamlaw16_knows [] [] = some (.bool true, []) := (eval_iff _ _ _ _ _ _).2 ⟨200, by kernel_rfl⟩


theorem TreeLists_eq (p : Pg) (hfit : p.fit) : eval tbl noExt n_flotsamlaw16_TreeLists [.agg p.cells] [] = some (.bool true, []) := by
  obtain ⟨b, hb, hs⟩ := Small_eq p
  rw [eval_M rfl rfl t_flotsamlaw16_TreeLists rfl]
  cases b with
  | false =>
    simp only [Pg.cells] at hb ⊢
    simp [c_flotsamlaw16_TreeLists, hb, knows16, lt_flotsamlaw16_Small, lt_flotsamlaw16_knows]
  | true =>
    obtain ⟨hsz, _⟩ := hs rfl
    have ha := All_eq p (by omega)
    have hr := refAll_eq p (by omega)
    have hps := p.parts_size
    have hfl := Sm.flats_sizes p.parts.flatten
    have hsame := SameStmts_eq p.flats p.flats (by simp only [Pg.flats]; omega) (fun e he => by have := Sm.flats_mem p.parts.flatten e he; omega)
    rw [Sm.sames_rfl] at hsame
    have hm : Sm.sizes p.main ≤ p.size := by simp only [Pg.size]; omega
    have hc := Count_eq p.main (by omega) []
    have hd := refCount_ok 1000 p.main (by omega) (Nat.le_refl _)
    simp only [Pg.cells] at hb ha hr ⊢
    simp [c_flotsamlaw16_TreeLists, hb, ha, hr, hsame, hc, hd, knows16, lt_flotsamlaw16_Small, lt_flotsamlaw16_knows, lt_tree_All, lt_flotsamref16_All, lt_flotsamref16_SameStmts, lt_tree_Count, lt_flotsamref16_Count]

end Go.AM.Spec
