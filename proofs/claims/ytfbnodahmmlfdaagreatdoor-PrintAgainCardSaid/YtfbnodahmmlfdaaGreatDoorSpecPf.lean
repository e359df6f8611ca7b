/-
 The parts of this proof that speak of the functions one by one.
-/
import Derived.Test.YtfbnodahmmlfdaaGreatDoorSpecTr
import Derived.Test.YtfbnodahmmlfdaaGreatDoorSpecPc
import Derived.Test.YtfbnodahmmlfdaaGreatDoorSpecPr
import Derived.Test.YtfbnodahmmlfdaaGreatDoorSpecPe
namespace Go.AM.Spec
set_option linter.unusedVariables false
set_option linter.unusedSimpArgs false
set_option maxHeartbeats 1000000
theorem SameExpr_loop (call : CallF) (a0 a1 a2 b0 b1 b2 : V) (l m : List Ex) (hl : l.length ≤ 20000) (hm : m.length = l.length)
  (hf : ∀ e ∈ l, ∀ f, call n_r16_SameExpr [.agg e.cells, .agg f.cells] [] = some (.bool (e.same f), [])) (R : Option (V × Heap)) (k : List Item)
  (hret : ∀ φ' , Fr.get φ' 4 = .bool false → Ex.sames l m = false → retK k φ' [some [a0, a1, a2, .sl 4 (Ex.rows l)], some [b0, b1, b2, .sl 4 (Ex.rows m)]] = R)
  (hexit : ∀ φ', Ex.sames l m = true → M call k φ' [some [a0, a1, a2, .sl 4 (Ex.rows l)], some [b0, b1, b2, .sl 4 (Ex.rows m)]] = R) :
  ∀ (j i : Nat) (φ : Fr), i + j = l.length → Fr.get φ 2 = .ptr 0 0 → Fr.get φ 3 = .ptr 1 0 → Fr.get φ 5 = .int .i64 i → Ex.sames l m = Ex.sames (l.drop i) (m.drop i) →
   M call (.code l_r16_SameExpr_0 :: .blk 0 :: k) φ [some [a0, a1, a2, .sl 4 (Ex.rows l)], some [b0, b1, b2, .sl 4 (Ex.rows m)]] = R := by
 intro j
 induction j with
 | zero =>
  intro i φ hj h2 h3 h5 hs
  have hi : ¬ ((i : Int) < l.length) := by omega
  rw [List.drop_of_length_le (by omega), List.drop_of_length_le (by omega)] at hs
  have h := fun φ' => hexit φ' (by rw [hs]; rfl)
  rw [l_r16_SameExpr_0, M_loop, ← l_r16_SameExpr_0]
  simp [b_r16_SameExpr_0, h2, h3, h5, hi, Ex.rows_len, h]
 | succ j ih =>
  intro i φ hj h2 h3 h5 hs
  have hi : (i : Int) < l.length := by omega
  have hi' : (i : Int) < m.length := by omega
  obtain ⟨e, he, hmem, hd⟩ := at_some (l := l) (i := i) (by omega)
  obtain ⟨f, hf', hmem', hd'⟩ := at_some (l := m) (i := i) (by omega)
  have hre := Ex.rows_at he
  have hrf := Ex.rows_at hf'
  have hw : IntKind.i64.wrap ((i : Int) + 1) = ((i + 1 : Nat) : Int) := by rw [w64 (by omega) (by omega)]; rfl
  have hcall := hf e hmem f
  rw [hd, hd', Ex.sames] at hs
  obtain ⟨c0, c1, c2, c3, hc⟩ := e.cells_shape
  obtain ⟨d0, d1, d2, d3, hd0⟩ := f.cells_shape
  rw [hc, hd0] at hcall
  rw [hc] at hre
  rw [hd0] at hrf
  rw [l_r16_SameExpr_0, M_loop, ← l_r16_SameExpr_0]
  cases hb : e.same f with
  | false =>
   rw [hb, Bool.false_and] at hs
   rw [hb] at hcall
   simp [b_r16_SameExpr_0, h2, h3, h5, hi, Ex.rows_len, hi', hre, hrf, hcall]
   exact hret _ (by simp) hs
  | true =>
   rw [hb, Bool.true_and] at hs
   rw [hb] at hcall
   simp [b_r16_SameExpr_0, h2, h3, h5, hi, Ex.rows_len, hi', hre, hrf, hcall, hw]
   exact ih (i + 1) _ (by omega) (by simp [h2]) (by simp [h3]) (by simp) hs
theorem SameExpr_eq : ∀ (n : Nat) (a b : Ex), a.size ≤ n → n ≤ 20000 → eval tbl noExt n_r16_SameExpr [.agg a.cells, .agg b.cells] [] = some (.bool (a.same b), []) := by
 intro n
 induction n with
 | zero => intro a b h; cases a; simp only [Ex.size] at h; omega
 | succ n ih =>
  intro a b h hn
  obtain ⟨op, w, s, x⟩ := a
  obtain ⟨op', w', s', x'⟩ := b
  simp only [Ex.size] at h
  have hx := Ex.sizes_ge x
  have hf : ∀ e ∈ x, ∀ f, eval tbl noExt n_r16_SameExpr [.agg e.cells, .agg f.cells] [] = some (.bool (e.same f), []) := fun e he f => ih e f (by have := Ex.sizes_mem he; omega) (by omega)
  rw [eval_M rfl rfl t_r16_SameExpr rfl]
  by_cases h1 : op = op'
  ·by_cases h2 : w = w'
   ·by_cases h3 : s = s'
    ·by_cases h4 : x.length = x'.length
     ·have h4' : (x.length : Int) = x'.length := by omega
      simp [c_r16_SameExpr, Ex.cells, h1, h2, h3, h4', Ex.rows_len]
      refine SameExpr_loop _ _ _ _ _ _ _ x x' (by omega) h4.symm hf _ _ (fun φ' g hs => ?_) (fun φ' hs => ?_) x.length 0 _ (by omega) (by simp) (by simp) (by simp) (by simp)
      ·simp [g, Ex.same, hs]
      ·simp [r_r16_SameExpr_0, Ex.same, hs]
     ·have h4' : ¬ (x.length : Int) = x'.length := by omega
      simp [c_r16_SameExpr, Ex.cells, h1, h2, h3, h4', Ex.rows_len, Ex.same, Ex.sames_len h4]
    ·simp [c_r16_SameExpr, Ex.cells, h1, h2, h3, Ex.same]
   ·simp [c_r16_SameExpr, Ex.cells, h1, h2, Ex.same]
  ·simp [c_r16_SameExpr, Ex.cells, h1, Ex.same]
theorem SameStmt_loop (call : CallF) (a0 a1 a2 a4 a5 a6 b0 b1 b2 b4 b5 b6 : V) (l m : List Ex) (hl : l.length ≤ 20000) (hm : m.length = l.length)
  (hf : ∀ e ∈ l, ∀ f, call n_r16_SameExpr [.agg e.cells, .agg f.cells] [] = some (.bool (e.same f), [])) (R : Option (V × Heap)) (k : List Item)
  (hret : ∀ φ' , Fr.get φ' 4 = .bool false → Ex.sames l m = false → retK k φ' [some [a0, a1, a2, .sl 4 (Ex.rows l), a4, a5, a6], some [b0, b1, b2, .sl 4 (Ex.rows m), b4, b5, b6]] = R)
  (hexit : ∀ φ', Fr.get φ' 2 = .ptr 0 0 → Fr.get φ' 3 = .ptr 1 0 → Ex.sames l m = true → M call k φ' [some [a0, a1, a2, .sl 4 (Ex.rows l), a4, a5, a6], some [b0, b1, b2, .sl 4 (Ex.rows m), b4, b5, b6]] = R) :
  ∀ (j i : Nat) (φ : Fr), i + j = l.length → Fr.get φ 2 = .ptr 0 0 → Fr.get φ 3 = .ptr 1 0 → Fr.get φ 5 = .int .i64 i → Ex.sames l m = Ex.sames (l.drop i) (m.drop i) →
   M call (.code l_r16_SameStmt_0 :: .blk 0 :: k) φ [some [a0, a1, a2, .sl 4 (Ex.rows l), a4, a5, a6], some [b0, b1, b2, .sl 4 (Ex.rows m), b4, b5, b6]] = R := by
 intro j
 induction j with
 | zero =>
  intro i φ hj h2 h3 h5 hs
  have hi : ¬ ((i : Int) < l.length) := by omega
  rw [List.drop_of_length_le (by omega), List.drop_of_length_le (by omega)] at hs
  rw [l_r16_SameStmt_0, M_loop, ← l_r16_SameStmt_0]
  simp [b_r16_SameStmt_0, h2, h3, h5, hi, Ex.rows_len]
  exact hexit _ (by simp [h2]) (by simp [h3]) (by rw [hs]; rfl)
 | succ j ih =>
  intro i φ hj h2 h3 h5 hs
  have hi : (i : Int) < l.length := by omega
  have hi' : (i : Int) < m.length := by omega
  obtain ⟨e, he, hmem, hd⟩ := at_some (l := l) (i := i) (by omega)
  obtain ⟨f, hf', hmem', hd'⟩ := at_some (l := m) (i := i) (by omega)
  have hre := Ex.rows_at he
  have hrf := Ex.rows_at hf'
  have hw : IntKind.i64.wrap ((i : Int) + 1) = ((i + 1 : Nat) : Int) := by rw [w64 (by omega) (by omega)]; rfl
  have hcall := hf e hmem f
  rw [hd, hd', Ex.sames] at hs
  obtain ⟨c0, c1, c2, c3, hc⟩ := e.cells_shape
  obtain ⟨d0, d1, d2, d3, hd0⟩ := f.cells_shape
  rw [hc, hd0] at hcall
  rw [hc] at hre
  rw [hd0] at hrf
  rw [l_r16_SameStmt_0, M_loop, ← l_r16_SameStmt_0]
  cases hb : e.same f with
  | false =>
   rw [hb, Bool.false_and] at hs
   rw [hb] at hcall
   simp [b_r16_SameStmt_0, h2, h3, h5, hi, Ex.rows_len, hi', hre, hrf, hcall]
   exact hret _ (by simp) hs
  | true =>
   rw [hb, Bool.true_and] at hs
   rw [hb] at hcall
   simp [b_r16_SameStmt_0, h2, h3, h5, hi, Ex.rows_len, hi', hre, hrf, hcall, hw]
   exact ih (i + 1) _ (by omega) (by simp [h2]) (by simp [h3]) (by simp) hs
theorem SameStmts_loop (call : CallF) (l m : List Sm) (hl : l.length ≤ 20000) (hm : m.length = l.length)
  (hf : ∀ e ∈ l, ∀ f, call n_r16_SameStmt [.agg e.cells, .agg f.cells] [] = some (.bool (e.same f), [])) (R : Option (V × Heap)) (k : List Item)
  (hret : ∀ φ' , Fr.get φ' 4 = .bool false → Sm.sames l m = false → retK k φ' [] = R)
  (hexit : ∀ φ', Sm.sames l m = true → M call k φ' [] = R) :
  ∀ (j i : Nat) (φ : Fr), i + j = l.length → Fr.get φ 0 = .sl 7 (Sm.rows l) → Fr.get φ 1 = .sl 7 (Sm.rows m) → Fr.get φ 5 = .int .i64 i → Sm.sames l m = Sm.sames (l.drop i) (m.drop i) →
   M call (.code l_r16_SameStmts_0 :: .blk 0 :: k) φ [] = R := by
 intro j
 induction j with
 | zero =>
  intro i φ hj h2 h3 h5 hs
  have hi : ¬ ((i : Int) < l.length) := by omega
  rw [List.drop_of_length_le (by omega), List.drop_of_length_le (by omega)] at hs
  rw [l_r16_SameStmts_0, M_loop, ← l_r16_SameStmts_0]
  simp [b_r16_SameStmts_0, h2, h3, h5, hi, Sm.rows_len]
  exact hexit _ (by rw [hs]; rfl)
 | succ j ih =>
  intro i φ hj h2 h3 h5 hs
  have hi : (i : Int) < l.length := by omega
  have hi' : (i : Int) < m.length := by omega
  obtain ⟨e, he, hmem, hd⟩ := at_some (l := l) (i := i) (by omega)
  obtain ⟨f, hf', hmem', hd'⟩ := at_some (l := m) (i := i) (by omega)
  have hre := Sm.rows_at he
  have hrf := Sm.rows_at hf'
  have hw : IntKind.i64.wrap ((i : Int) + 1) = ((i + 1 : Nat) : Int) := by rw [w64 (by omega) (by omega)]; rfl
  have hcall := hf e hmem f
  rw [hd, hd', Sm.sames] at hs
  obtain ⟨c0, c1, c2, c3, c4, c5, c6, hc⟩ := e.cells_shape
  obtain ⟨d0, d1, d2, d3, d4, d5, d6, hd0⟩ := f.cells_shape
  rw [hc, hd0] at hcall
  rw [hc] at hre
  rw [hd0] at hrf
  rw [l_r16_SameStmts_0, M_loop, ← l_r16_SameStmts_0]
  cases hb : e.same f with
  | false =>
   rw [hb, Bool.false_and] at hs
   rw [hb] at hcall
   simp [b_r16_SameStmts_0, h2, h3, h5, hi, Sm.rows_len, hi', hre, hrf, hcall]
   exact hret _ (by simp) hs
  | true =>
   rw [hb, Bool.true_and] at hs
   rw [hb] at hcall
   simp [b_r16_SameStmts_0, h2, h3, h5, hi, Sm.rows_len, hi', hre, hrf, hcall, hw]
   exact ih (i + 1) _ (by omega) (by simp [h2]) (by simp [h3]) (by simp) hs
theorem SameStmts_step (l m : List Sm) (hl : l.length ≤ 20000)
  (hf : ∀ e ∈ l, ∀ f, eval tbl noExt n_r16_SameStmt [.agg e.cells, .agg f.cells] [] = some (.bool (e.same f), [])) :
  eval tbl noExt n_r16_SameStmts [.sl 7 (Sm.rows l), .sl 7 (Sm.rows m)] [] = some (.bool (Sm.sames l m), []) := by
 rw [eval_M rfl rfl t_r16_SameStmts rfl]
 by_cases h4 : l.length = m.length
 ·have h4' : (l.length : Int) = m.length := by omega
  simp [c_r16_SameStmts, h4', Sm.rows_len]
  refine SameStmts_loop _ l m (by omega) h4.symm hf _ _ (fun φ' g hs => ?_) (fun φ' hs => ?_) l.length 0 _ (by omega) (by simp) (by simp) (by simp) (by simp)
  ·simp [g, hs]
  ·simp [r_r16_SameStmts_0, hs]
 ·have h4' : ¬ (l.length : Int) = m.length := by omega
  simp [c_r16_SameStmts, h4', Sm.rows_len, Sm.sames_len h4]
theorem SameStmt_eq : ∀ (n : Nat) (a b : Sm), a.size ≤ n → n ≤ 20000 → eval tbl noExt n_r16_SameStmt [.agg a.cells, .agg b.cells] [] = some (.bool (a.same b), []) := by
 intro n
 induction n with
 | zero => intro a b h; cases a; simp only [Sm.size] at h; omega
 | succ n ih =>
  intro a b h hn
  obtain ⟨op, s, w, x, y, z, g⟩ := a
  obtain ⟨op', s', w', x', y', z', g'⟩ := b
  simp only [Sm.size] at h
  have hx := Ex.sizes_ge x
  have hy := Sm.sizes_ge y
  have hz := Sm.sizes_ge z
  have hf : ∀ e ∈ x, ∀ f, eval tbl noExt n_r16_SameExpr [.agg e.cells, .agg f.cells] [] = some (.bool (e.same f), []) := fun e he f => SameExpr_eq 20000 e f (by have := Ex.sizes_mem he; omega) (by omega)
  have e1 := SameStmts_step y y' (by omega) (fun e he f => ih e f (by have := Sm.sizes_mem he; omega) (by omega))
  have e2 := SameStmts_step z z' (by omega) (fun e he f => ih e f (by have := Sm.sizes_mem he; omega) (by omega))
  rw [eval_M rfl rfl t_r16_SameStmt rfl]
  by_cases h1 : op = op'
  ·by_cases h2 : s = s'
   ·by_cases h3 : w = w'
    ·by_cases h5 : g = g'
     ·by_cases h4 : x.length = x'.length
      ·have h4' : (x.length : Int) = x'.length := by omega
       simp [c_r16_SameStmt, Sm.cells, h1, h2, h3, h4', h5, Ex.rows_len]
       refine SameStmt_loop _ _ _ _ _ _ _ _ _ _ _ _ _ x x' (by omega) h4.symm hf _ _ (fun φ' q hs => ?_) (fun φ' q2 q3 hs => ?_) x.length 0 _ (by omega) (by simp) (by simp) (by simp) (by simp)
       ·simp [q, Sm.same, hs]
       ·cases hv : Sm.sames y y' <;> simp [r_r16_SameStmt_0, Sm.same, hs, q2, q3, e1, e2, hv]
      ·have h4' : ¬ (x.length : Int) = x'.length := by omega
       simp [c_r16_SameStmt, Sm.cells, h1, h2, h3, h4', h5, Ex.rows_len, Sm.same, Ex.sames_len h4]
     ·simp [c_r16_SameStmt, Sm.cells, h1, h2, h3, h5, Sm.same]
    ·simp [c_r16_SameStmt, Sm.cells, h1, h2, h3, Sm.same]
   ·simp [c_r16_SameStmt, Sm.cells, h1, h2, Sm.same]
  ·simp [c_r16_SameStmt, Sm.cells, h1, Sm.same]
theorem SameStmts_eq (l m : List Sm) (hl : l.length ≤ 20000) (he : ∀ e ∈ l, e.size ≤ 20000) :
  eval tbl noExt n_r16_SameStmts [.sl 7 (Sm.rows l), .sl 7 (Sm.rows m)] [] = some (.bool (Sm.sames l m), []) :=
 SameStmts_step l m hl fun e h f => SameStmt_eq 20000 e f (he e h) (Nat.le_refl _)
set_option maxHeartbeats 4000000
set_option maxRecDepth 10000
theorem refSame_oracles (p : Pg) (hol : p.oracles.length ≤ 20000) (ho : ∀ x ∈ p.oracles, x.2.size ≤ 20000) :
  ∀ (j i : Nat) (φ : Fr), i + j = p.oracles.length → Fr.get φ 2 = .ptr 0 0 → Fr.get φ 3 = .ptr 1 0 → Fr.get φ 6 = .int .i64 i →
   M (eval tbl noExt) [.code l_r16_Same_1, .blk 2, .code r_r16_Same_0, .fin [.t 4] 0] φ [some p.cells, some p.cells] = some (.bool true, []) := by
 intro j
 have hpc : p.cells = [.sl 2 p.pcells, .sl 7 (Sm.rows p.main), .sl 7 (Sm.rows p.recover), .sl 5 p.ocells] := rfl
 have hl := p.ocells_len
 induction j with
 | zero =>
  intro i φ hj h2 h3 h6
  have hi : ¬ ((i : Int) < p.oracles.length) := by omega
  rw [l_r16_Same_1, M_loop]
  simp [b_r16_Same_1, r_r16_Same_0, hpc, h2, h3, h6, hi, hl]
 | succ j ih =>
  intro i φ hj h2 h3 h6
  have hi : (i : Int) < p.oracles.length := by omega
  obtain ⟨x, hx, hmem, hd⟩ := at_some (l := p.oracles) (i := i) (by omega)
  have hr := Pg.orow hx
  have hw : IntKind.i64.wrap ((i : Int) + 1) = ((i + 1 : Nat) : Int) := by rw [w64 (by omega) (by omega)]; rfl
  obtain ⟨nm, e⟩ := x
  have hcall := SameExpr_eq 20000 e e (ho _ hmem) (Nat.le_refl _)
  rw [Ex.same_rfl] at hcall
  obtain ⟨c0, c1, c2, c3, hc⟩ := e.cells_shape
  simp only [hc] at hr hcall
  have hn := ih (i + 1)
  rw [hpc] at hn ⊢
  rw [l_r16_Same_1, M_loop, ← l_r16_Same_1]
  simp [b_r16_Same_1, h2, h3, h6, hi, hl, hr, hcall, hw]
  exact hn _ (by omega) (by simp [h2]) (by simp [h3]) (by simp)
theorem refSame_procs (p : Pg) (hpl : p.procs.length ≤ 20000) (hp : ∀ x ∈ p.procs, Sm.sizes x.2 ≤ 20000) (hol : p.oracles.length ≤ 20000) (ho : ∀ x ∈ p.oracles, x.2.size ≤ 20000) :
  ∀ (j i : Nat) (φ : Fr), i + j = p.procs.length → Fr.get φ 2 = .ptr 0 0 → Fr.get φ 3 = .ptr 1 0 → Fr.get φ 5 = .int .i64 i →
   M (eval tbl noExt) [.code l_r16_Same_0, .blk 0, .code r_r16_Same_1, .fin [.t 4] 0] φ [some p.cells, some p.cells] = some (.bool true, []) := by
 intro j
 have hpc : p.cells = [.sl 2 p.pcells, .sl 7 (Sm.rows p.main), .sl 7 (Sm.rows p.recover), .sl 5 p.ocells] := rfl
 have hl := p.pcells_len
 induction j with
 | zero =>
  intro i φ hj h2 h3 h6
  have hi : ¬ ((i : Int) < p.procs.length) := by omega
  have hn := refSame_oracles p hol ho p.oracles.length 0
  rw [hpc] at hn ⊢
  rw [l_r16_Same_0, M_loop]
  simp [b_r16_Same_0, r_r16_Same_1, h2, h3, h6, hi, hl]
  exact hn _ (by omega) (by simp [h2]) (by simp [h3]) (by simp)
 | succ j ih =>
  intro i φ hj h2 h3 h6
  have hi : (i : Int) < p.procs.length := by omega
  obtain ⟨x, hx, hmem, hd⟩ := at_some (l := p.procs) (i := i) (by omega)
  have hr := Pg.prow hx
  have hw : IntKind.i64.wrap ((i : Int) + 1) = ((i + 1 : Nat) : Int) := by rw [w64 (by omega) (by omega)]; rfl
  obtain ⟨nm, e⟩ := x
  have hs := hp _ hmem
  have hcall := SameStmts_eq e e (by have := Sm.sizes_ge e; dsimp only at hs; omega) (fun y hy => by have := Sm.sizes_mem hy; dsimp only at hs; omega)
  rw [Sm.sames_rfl] at hcall
  simp only at hr
  have hn := ih (i + 1)
  rw [hpc] at hn ⊢
  rw [l_r16_Same_0, M_loop, ← l_r16_Same_0]
  simp [b_r16_Same_0, h2, h3, h6, hi, hl, hr, hcall, hw]
  exact hn _ (by omega) (by simp [h2]) (by simp [h3]) (by simp)
theorem refSame_eq (p : Pg) (h : p.size ≤ 20000) : eval tbl noExt n_r16_Same [.agg p.cells, .agg p.cells] [] = some (.bool true, []) := by
 have hpc : p.cells = [.sl 2 p.pcells, .sl 7 (Sm.rows p.main), .sl 7 (Sm.rows p.recover), .sl 5 p.ocells] := rfl
 have hs := p.size_eq
 have hb : ∀ b, Sm.sizes b ≤ 20000 → eval tbl noExt n_r16_SameStmts [.sl 7 (Sm.rows b), .sl 7 (Sm.rows b)] [] = some (.bool true, []) := fun b hb => by
  have := SameStmts_eq b b (by have := Sm.sizes_ge b; omega) (fun y hy => by have := Sm.sizes_mem hy; omega)
  rwa [Sm.sames_rfl] at this
 have h1 := hb p.main (by omega)
 have h2 := hb p.recover (by omega)
 have hp : ∀ x ∈ p.procs, Sm.sizes x.2 ≤ 20000 := fun x hx => by
  have hm : x.2 ∈ p.bodies := by simp only [Pg.bodies, List.mem_map]; exact ⟨x, hx, rfl⟩
  have := sizes_flatten hm
  omega
 have ho : ∀ x ∈ p.oracles, x.2.size ≤ 20000 := fun x hx => by
  have hm : x.2 ∈ p.exprs := by simp only [Pg.exprs, List.mem_map]; exact ⟨x, hx, rfl⟩
  have := Ex.sizes_mem hm
  omega
 have hn := refSame_procs p (by omega) hp (by omega) ho p.procs.length 0
 rw [hpc] at hn ⊢
 rw [eval_M rfl rfl t_r16_Same rfl]
 simp [c_r16_Same, h1, h2]
 exact hn _ (by omega) (by simp) (by simp) (by simp)
set_option maxHeartbeats 2000000
open PS
theorem name_le {s : List UInt8} (h : isName s = true) : s.length ≤ 300 := by
 unfold isName at h
 simp only [Bool.and_eq_true, decide_eq_true_eq] at h
 omega
mutual
theorem ex_txt_ok : ∀ (e : Ex) (d : Nat), e.ok d = true → e.txt
 | .mk op n s x, d, h => by
  rw [Ex.ok] at h
  cases hpo : parts op with
  | none => rw [hpo] at h; cases h
  | some k =>
  rw [hpo] at h
  simp only [Bool.and_eq_true, decide_eq_true_eq] at h
  obtain ⟨⟨_, hleaf⟩, hoks⟩ := h
  simp only [Ex.txt]
  refine ⟨?_, ex_txts_ok x (d - 1) hoks⟩
  unfold leafOk at hleaf
  repeat' split at hleaf
  all_goals simp only [Bool.and_eq_true, decide_eq_true_eq] at hleaf
  ·rw [hleaf.2]; simp
  ·rw [hleaf.2]; simp
  ·omega
  ·exact name_le hleaf.1
  ·rw [hleaf.1]; simp
theorem ex_txts_ok : ∀ (l : List Ex) (d : Nat), Ex.oks l d = true → Ex.txts l
 | [], _, _ => trivial
 | e :: l, d, h => by
  simp only [Ex.oks, Bool.and_eq_true] at h
  exact ⟨ex_txt_ok e d h.1, ex_txts_ok l d h.2⟩
end
mutual
theorem sm_txt_ok : ∀ (e : Sm) (d : Nat), e.ok d = true → e.txt
 | .mk op s n x b c g, d, h => by
  obtain ⟨_, hsh, _, hob, hoc⟩ := Sm.ok_parts h
  unfold shapeOk at hsh
  cases hxs : exprs op with
  | none => rw [hxs] at hsh; cases hsh
  | some k =>
  rw [hxs] at hsh
  simp only [Bool.and_eq_true, decide_eq_true_eq] at hsh
  obtain ⟨_, hnm, _, _, _, _, _, _, hoe⟩ := hsh
  simp only [Sm.txt]
  refine ⟨?_, ex_txts_ok x 8 hoe, sm_txts_ok b (d + 1) hob, sm_txts_ok c (d + 1) hoc⟩
  split at hnm
  ·exact name_le hnm
  ·simp only [decide_eq_true_eq] at hnm; rw [hnm]; simp
theorem sm_txts_ok : ∀ (l : List Sm) (d : Nat), Sm.oks l d = true → Sm.txts l
 | [], _, _ => trivial
 | e :: l, d, h => by
  simp only [Sm.oks, Bool.and_eq_true] at h
  exact ⟨sm_txt_ok e d h.1, sm_txts_ok l d h.2⟩
end
theorem pg_txt_ok {p : Pg} (hok : p.ok = true) : p.txt := by
 simp only [Pg.ok, Bool.and_eq_true, decide_eq_true_eq, List.all_eq_true] at hok
 obtain ⟨h1, h2, _, h3, h4, h5, h6⟩ := hok
 exact ⟨fun x hx => ⟨name_le (h3 x hx).1, sm_txts_ok _ _ (h3 x hx).2⟩, sm_txts_ok _ _ h5, sm_txts_ok _ _ h6, fun x hx => ⟨name_le (h4 x hx).1, ex_txt_ok _ _ (h4 x hx).2⟩⟩
theorem back_prog {p : Pg} (hok : p.ok = true) (hl : p.text.length ≤ 4096) : eval tbl noExt n_parse_Program [.str p.text] [] = some (.tup [.agg p.cells, .agg [iw 0, iw 0]], []) := by
 obtain ⟨L, h1, h2, h3, h4⟩ := text_words (sf_pg p hok (pg_txt_ok hok)).sc hl
 have hE := Program_eq (by omega) h1 h3
 obtain ⟨s', k1, k2⟩ := program_again hok (n := 4097) (by omega) h4 (s := pst L) ⟨rfl, rfl, h2⟩ rfl
 rw [k1] at hE
 rw [hE]
 unfold ansP
 rw [if_pos k2]
 obtain ⟨c1, c2⟩ := k2
 simp only [c1, c2]
theorem Words_long (s : List UInt8) (h : 4096 < s.length) (H : Heap) : eval tbl noExt n_lex_Words [.str s] H = some (wordsV (wordsS s), H) := by
 rw [eval_M rfl rfl t_lex_Words rfl]
 unfold wordsS
 have h' : (4096 : Int) < s.length := by omega
 rw [if_pos h]
 simp [c_lex_Words, h, h', wordsV]
theorem long_prog {s : List UInt8} (h : 4096 < s.length) : eval tbl noExt n_parse_Program [.str s] [] = some (.tup [.agg zp.cells, .agg [iw 14, iw 0]], []) := by
 have hW := fun H => Words_long s h H
 have hw : wordsS s = ([], 14, 0) := by unfold wordsS; rw [if_pos h]
 rw [hw] at hW
 simp only [wordsV] at hW
 have hz : zp.cells = [.sl 2 [], .sl 7 [], .sl 7 [], .sl 5 []] := rfl
 rw [hz]
 rw [eval_M rfl rfl t_parse_Program rfl]
 simp [c_parse_Program, hW, eqCells, V.apart, storeOf]
def SzS (m : Nat) (stm : SF) : Prop := ∀ (d : Int) (s : PS), s.good → s.left.length ≤ m → (stm d s).2.clean → (stm d s).1.size + 2 * (stm d s).2.left.length ≤ 2 * s.left.length
section
variable {m : Nat} {stm : SF} (hto : ∀ d, Goes' (stm d)) (hS : SzS m stm)
include hto hS
end
set_option maxHeartbeats 4000000
theorem pknows18 : eval tbl noExt n_l18_knows [] [] = some (.bool true, []) := (eval_iff ..).2 ⟨200, by kernel_rfl⟩
theorem parse_right {s : List UInt8} (hs : s.length ≤ 5000) : ∃ (p : Pg) (e a : Int), eval tbl noExt n_parse_Program [.str s] [] = some (.tup [.agg p.cells, .agg [iw e, iw a]], []) ∧ (e = 0 → p.ok = true ∧ p.size ≤ 19000) := by
 by_cases h0 : (wordsS s).2.1 = 0
 ·obtain ⟨l, hw, hg, hf⟩ := words_fed s h0
  have hL : (0 : Int) ≤ s.length := by omega
  have h1 := Program_eq (by omega) hw hg
  have f1 := (programP_led 4097 (pst l)).fed hL hf
  have lg := hg.len
  have c1 : (programP 4097 (pst l)).2.clean ↔ (programP 4097 (pst l)).2.fe = 0 := ⟨fun h => h.1, fun h => ⟨h, f1.none h⟩⟩
  refine ⟨_, _, _, h1, fun h => ?_⟩
  have hc := c1.2 h
  obtain ⟨p1, p2⟩ := program_ok hL hg hf lg rfl hc
  unfold ansP
  rw [if_pos hc]
  exact ⟨p1, by omega⟩
 ·exact ⟨_, _, _, Program_bad (by omega) h0, fun h => absurd h h0⟩
theorem PrintAgain_eq (s : List UInt8) : eval tbl noExt n_l18_PrintAgain [.str s] [] = some (.bool true, []) := by
 have hk := pknows18
 rw [eval_M rfl rfl t_l18_PrintAgain rfl]
 have lts := lt_l18_knows
 have ltp := lt_parse_Program
 by_cases h : s.length ≤ 5000
 ·have h' : ¬ (5000 : Int) < s.length := by omega
  have h'' : ¬ 5000 < s.length := by omega
  obtain ⟨p, e, a, h1, h2⟩ := parse_right h
  have hpc : p.cells = [.sl 2 p.pcells, .sl 7 (Sm.rows p.main), .sl 7 (Sm.rows p.recover), .sl 5 p.ocells] := rfl
  by_cases he : e = 0
  ·obtain ⟨hok, hsz⟩ := h2 he
   subst he
   have hf : p.Fine := ⟨hsz, pg_txt_ok hok⟩
   have hP := PProgram_eq p hf []
   rw [hok] at hP
   simp only [if_true] at hP
   have hS := refSame_eq p (by omega)
   have ltr := lt_pP
   by_cases hl : p.text.length ≤ 4096
   ·have hl' : ¬ (4096 : Int) < p.text.length := by omega
    have hl'' : ¬ 4096 < p.text.length := by omega
    have hB := back_prog hok hl
    rw [hpc] at h1 hP hS hB
    generalize p.text = T at *
    simp [c_l18_PrintAgain, h, h', h'', hk, lts, ltp, ltr, h1, hP, hB, hl, hl', hl'', hS]
   ·have hl' : (4096 : Int) < p.text.length := by omega
    have hl'' : 4096 < p.text.length := by omega
    have hB := long_prog hl''
    have hz : zp.cells = [.sl 2 [], .sl 7 [], .sl 7 [], .sl 5 []] := rfl
    rw [hz] at hB
    rw [hpc] at h1 hP
    generalize p.text = T at *
    simp [c_l18_PrintAgain, h, h', h'', hk, lts, ltp, ltr, h1, hP, hB, hl, hl', hl'']
  ·rw [hpc] at h1
   simp [c_l18_PrintAgain, h, h', h'', hk, lts, ltp, h1, he]
 ·have h' : (5000 : Int) < s.length := by omega
  have h'' : 5000 < s.length := by omega
  simp [c_l18_PrintAgain, h, h', h'', hk, lts]
theorem PrintAgain_all (s : List UInt8) : ∃ H', eval tbl noExt n_l18_PrintAgain [.str s] [] = some (.bool true, H') := ⟨[], PrintAgain_eq s⟩
end Go.AM.Spec
