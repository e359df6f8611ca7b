/-
  The parts of this proof that speak of the functions one by one.
-/
import Derived.Test.YteafmhnbeobboaaDoorSpecSi
import Derived.Test.YteafmhnbeobboaaDoorSpc
namespace Go.AM.Spec
set_option linter.unusedVariables false
set_option linter.unusedSimpArgs false
set_option maxHeartbeats 1000000
set_option maxRecDepth 10000

abbrev uv (n : Int) : V := .int .u64 n

/-- A cell. -/
structure Ce where
  says : Int
  point : Int
  kept : Int
  verdict : Int
  err : Int
  limit : Int
  deriving DecidableEq

def Ce.cells (c : Ce) : List V := [iv c.says, iv c.point, uv c.kept, iv c.verdict, iv c.err, iv c.limit]
theorem Ce.strip (c : Ce) : c.cells.map V.strip = c.cells := rfl
theorem Ce.under (c : Ce) (n : Nat) : V.underAll n c.cells = true := rfl
theorem Ce.len (c : Ce) : c.cells.length = 6 := rfl

def Ce.witOK (c : Ce) : Bool := decide (0 ≤ c.point) && (decide (c.point ≤ 1000000) && (decide (c.kept < 65536) &&
  (if c.verdict = 1 then decide (c.err = 0) else if c.verdict = 2 then decide (0 < c.err) && (decide (c.err ≤ 15) && decide (c.err ≠ 10)) else false)))

/-- May a cell be? -/
def Ce.right (c : Ce) : Bool :=
  if c.says = 1 then decide (c.limit = 0) && c.witOK
  else if c.says = 2 then (decide (c.point = 0) && (decide (c.kept = 0) && (decide (c.verdict = 0) && decide (c.err = 0)))) && (decide (c.limit = 10) || (decide (c.limit = 13) || decide (c.limit = 14)))
  else decide (c.says = 0) && (decide (c.point = 0) && (decide (c.kept = 0) && (decide (c.verdict = 0) && (decide (c.err = 0) && decide (c.limit = 0)))))

theorem limit_eq (n : Int) (H : Heap) : eval tbl noExt n_cell_limit [iv n] H = some (.bool (decide (n = 10) || (decide (n = 13) || decide (n = 14))), H) := by
  rw [eval_M rfl rfl t_cell_limit rfl]
  by_cases a1 : n = 10
  · simp [c_cell_limit, a1]
  · by_cases a2 : n = 13
    · simp [c_cell_limit, a2]
    · simp [c_cell_limit, a1, a2]

theorem witness_eq (c : Ce) (H : Heap) : eval tbl noExt n_cell_witness [.agg [iv c.point, uv c.kept, iv c.verdict, iv c.err]] H = some (.bool c.witOK, H) := by
  rw [eval_M rfl rfl t_cell_witness rfl]
  unfold Ce.witOK
  by_cases a1 : c.point < 0
  · have a1' : ¬ 0 ≤ c.point := by omega
    simp [c_cell_witness, a1, a1']
  · have a1' : 0 ≤ c.point := by omega
    by_cases a2 : 1000000 < c.point
    · have a2' : ¬ c.point ≤ 1000000 := by omega
      simp [c_cell_witness, a1, a1', a2, a2']
    · have a2' : c.point ≤ 1000000 := by omega
      by_cases a3 : 65536 ≤ c.kept
      · have a3' : ¬ c.kept < 65536 := by omega
        simp [c_cell_witness, a1, a1', a2, a2', a3, a3']
      · have a3' : c.kept < 65536 := by omega
        by_cases a4 : c.verdict = 1
        · simp [c_cell_witness, a1, a1', a2, a2', a3, a3', a4]
        · by_cases a5 : c.verdict = 2
          · by_cases a6 : 0 < c.err
            · by_cases a7 : c.err ≤ 15
              · simp [c_cell_witness, a1, a1', a2, a2', a3, a3', a4, a5, a6, a7]
              · simp [c_cell_witness, a1, a1', a2, a2', a3, a3', a4, a5, a6, a7]
            · simp [c_cell_witness, a1, a1', a2, a2', a3, a3', a4, a5, a6]
          · simp [c_cell_witness, a1, a1', a2, a2', a3, a3', a4, a5]

theorem CRight_eq (c : Ce) (H : Heap) : eval tbl noExt n_cell_Right [.agg c.cells] H = some (.bool c.right, H) := by
  have hw := fun K => witness_eq c K
  have hl := fun K => limit_eq c.limit K
  rw [eval_M rfl rfl t_cell_Right rfl]
  unfold Ce.right Ce.cells
  by_cases a1 : c.says = 1
  · by_cases a2 : c.limit = 0
    · simp [c_cell_Right, a1, a2, hw]
    · simp [c_cell_Right, a1, a2]
  · by_cases a2 : c.says = 2
    · by_cases a3 : c.point = 0 ∧ c.kept = 0 ∧ c.verdict = 0 ∧ c.err = 0
      · obtain ⟨b1, b2, b3, b4⟩ := a3
        simp [c_cell_Right, a2, hl, b1, b2, b3, b4, eqCells]
      · have e : (decide (c.point = 0) && (decide (c.kept = 0) && (decide (c.verdict = 0) && decide (c.err = 0)))) = false := by
          simp only [Bool.and_eq_false_iff, decide_eq_false_iff_not]
          omega
        simp [c_cell_Right, a2, hl, eqCells, e]
    · simp [c_cell_Right, a1, a2, eqCells]

theorem refCRight_eq (c : Ce) (H : Heap) : eval tbl noExt n_flotsamref30_Right [.agg c.cells] H = some (.bool c.right, H) := by
  rw [eval_M rfl rfl t_flotsamref30_Right rfl]
  unfold Ce.right Ce.cells Ce.witOK
  by_cases a0 : c.says = 0
  · simp [c_flotsamref30_Right, a0, eqCells]
  · by_cases a1 : c.says = 1
    · by_cases a2 : c.limit = 0
      · by_cases b1 : c.point < 0
        · have b1' : ¬ 0 ≤ c.point := by omega
          simp [c_flotsamref30_Right, a1, a2, b1, b1']
        · have b1' : 0 ≤ c.point := by omega
          by_cases b2 : 1000000 < c.point
          · have b2' : ¬ c.point ≤ 1000000 := by omega
            simp [c_flotsamref30_Right, a1, a2, b1, b1', b2, b2']
          · have b2' : c.point ≤ 1000000 := by omega
            by_cases b3 : 65536 ≤ c.kept
            · have b3' : ¬ c.kept < 65536 := by omega
              simp [c_flotsamref30_Right, a1, a2, b1, b1', b2, b2', b3, b3']
            · have b3' : c.kept < 65536 := by omega
              by_cases b4 : c.verdict = 1
              · by_cases b5 : c.err = 0
                · simp [c_flotsamref30_Right, a1, a2, b1, b1', b2, b2', b3, b3', b4, b5]
                · simp [c_flotsamref30_Right, a1, a2, b1, b1', b2, b2', b3, b3', b4, b5]
              · by_cases b5 : c.verdict = 2
                · by_cases b6 : 1 ≤ c.err
                  · have b6' : 0 < c.err := by omega
                    by_cases b7 : c.err ≤ 15
                    · simp [c_flotsamref30_Right, a1, a2, b1, b1', b2, b2', b3, b3', b4, b5, b6, b6', b7]
                    · simp [c_flotsamref30_Right, a1, a2, b1, b1', b2, b2', b3, b3', b4, b5, b6, b6', b7]
                  · have b6' : ¬ 0 < c.err := by omega
                    simp [c_flotsamref30_Right, a1, a2, b1, b1', b2, b2', b3, b3', b4, b5, b6, b6']
                · simp [c_flotsamref30_Right, a1, a2, b1, b1', b2, b2', b3, b3', b4, b5]
      · simp [c_flotsamref30_Right, a1, a2]
    · by_cases a2 : c.says = 2
      · by_cases a3 : c.point = 0 ∧ c.kept = 0 ∧ c.verdict = 0 ∧ c.err = 0
        · obtain ⟨b1, b2, b3, b4⟩ := a3
          by_cases d1 : c.limit = 10
          · simp [c_flotsamref30_Right, a2, b1, b2, b3, b4, d1, eqCells]
          · by_cases d2 : c.limit = 13
            · simp [c_flotsamref30_Right, a2, b1, b2, b3, b4, d1, d2, eqCells]
            · simp [c_flotsamref30_Right, a2, b1, b2, b3, b4, d1, d2, eqCells]
        · have e : (decide (c.point = 0) && (decide (c.kept = 0) && (decide (c.verdict = 0) && decide (c.err = 0)))) = false := by
            simp only [Bool.and_eq_false_iff, decide_eq_false_iff_not]
            omega
          simp [c_flotsamref30_Right, a2, eqCells, e]
      · simp [c_flotsamref30_Right, a0, a1, a2]

/-! What cells come to. -/
def sumStep (s : Int) (c : Ce) : Int := if c.says = 1 ∨ c.says = 2 ∧ s = 0 then c.says else s
def sumC (l : List Ce) : Int := l.foldl sumStep 0

theorem sumStep_range {s : Int} (c : Ce) (h : s = 0 ∨ s = 1 ∨ s = 2) : sumStep s c = 0 ∨ sumStep s c = 1 ∨ sumStep s c = 2 := by
  unfold sumStep
  split
  · omega
  · exact h
theorem sumC_range (l : List Ce) : sumC l = 0 ∨ sumC l = 1 ∨ sumC l = 2 := by
  unfold sumC
  have : ∀ (l : List Ce) (s : Int), (s = 0 ∨ s = 1 ∨ s = 2) → (l.foldl sumStep s = 0 ∨ l.foldl sumStep s = 1 ∨ l.foldl sumStep s = 2) := by
    intro l
    induction l with
    | nil => intro s h; exact h
    | cons c l ih => intro s h; exact ih _ (sumStep_range c h)
  exact this l 0 (.inl rfl)

theorem row_get (l : List Ce) (i : Nat) (c : Ce) (h : l[i]? = some c) : (l.map Ce.cells)[i]? = some c.cells := by rw [List.getElem?_map, h]; rfl

end Go.AM.Spec

namespace Go.AM.Spec
set_option linter.unusedVariables false
set_option linter.unusedSimpArgs false
set_option maxHeartbeats 1000000

theorem IndexFunc_api_Cell_api_Cell_loop {α : Type} {f : Nat} {first cap : List V} (hp : f < yBase) (e : α → List (List V)) (l : List α) (hl : l.length ≤ 1000000) (p : α → Bool) (H : Heap) (call : CallF)
    (hf : ∀ a ∈ l, call f (first ++ [V.sl 6 (e a)] ++ cap) H = some (.bool (p a), H)) (Q : Option (V × Heap) → Prop) (k : List Item)
    (hret : ∀ φ' (i : Nat), l.any p = true → Fr.get φ' 4 = .int .i64 i → Q (retK k φ' H)) (hexit : ∀ φ', l.any p = false → Q (M call k φ' H)) :
    ∀ (j i : Nat) (φ : Fr), i + j = l.length → l.any p = (l.drop i).any p → Fr.get φ 0 = .sl 1 (l.map fun a => [V.sl 6 (e a)]) → Fr.get φ 1 = .fn (.func f) first cap → Fr.get φ 7 = .int .i64 l.length → Fr.get φ 8 = .int .i64 i →
      Q (M call (.code l_slices_IndexFunc_api_Cell_api_Cell_0 :: .blk 0 :: k) φ H) := by
  intro j
  induction j with
  | zero =>
    intro i φ hj hs h0 h1 h7 h8
    have hi : ¬ ((i : Int) < l.length) := by omega
    rw [List.drop_of_length_le (by omega)] at hs
    rw [l_slices_IndexFunc_api_Cell_api_Cell_0, M_loop, ← l_slices_IndexFunc_api_Cell_api_Cell_0]
    simp [b_slices_IndexFunc_api_Cell_api_Cell_0, h0, h1, h7, h8, hi]
    exact hexit _ (by rw [hs]; rfl)
  | succ j ih =>
    intro i φ hj hs h0 h1 h7 h8
    have hi : (i : Int) < l.length := by omega
    have hil : i < l.length := by omega
    obtain ⟨a, ha, hmem, hd⟩ : ∃ a, l[i]? = some a ∧ a ∈ l ∧ l.drop i = a :: l.drop (i + 1) := ⟨l[i], List.getElem?_eq_getElem hil, List.getElem_mem hil, List.drop_eq_getElem_cons hil⟩
    have hr : (l.map fun a => [V.sl 6 (e a)])[i]? = some [V.sl 6 (e a)] := by rw [List.getElem?_map, ha]; rfl
    have hgl : (l.map fun a => [V.sl 6 (e a)]).length = l.length := List.length_map ..
    have hw1 : IntKind.i64.wrap ((i : Int) + 1) = ((i + 1 : Nat) : Int) := by rw [w64 (by omega) (by omega)]; rfl
    have hcall := hf a hmem
    rw [hd, List.any_cons] at hs
    rw [l_slices_IndexFunc_api_Cell_api_Cell_0, M_loop, ← l_slices_IndexFunc_api_Cell_api_Cell_0]
    cases hb : p a with
    | true =>
      rw [hb, Bool.true_or] at hs
      rw [hb] at hcall
      simp at hcall
      simp [b_slices_IndexFunc_api_Cell_api_Cell_0, h0, h1, h7, h8, hi, hgl, hr, hp, hcall]
      exact hret _ i hs (by simp)
    | false =>
      rw [hb, Bool.false_or] at hs
      rw [hb] at hcall
      simp at hcall
      simp [b_slices_IndexFunc_api_Cell_api_Cell_0, h0, h1, h7, h8, hi, hgl, hr, hp, hcall, hw1]
      exact ih (i + 1) _ (by omega) hs (by simp [h0]) (by simp [h1]) (by simp [h7]) (by simp)

theorem ContainsFunc_api_Cell_api_Cell {α : Type} {f : Nat} {first cap : List V} (hp : f < yBase) (e : α → List (List V)) (l : List α) (hl : l.length ≤ 1000000) (p : α → Bool) (H : Heap)
    (hf : ∀ a ∈ l, eval tbl noExt f (first ++ [V.sl 6 (e a)] ++ cap) H = some (.bool (p a), H)) :
    eval tbl noExt n_slices_ContainsFunc_api_Cell_api_Cell [.sl 1 (l.map fun a => [V.sl 6 (e a)]), .fn (.func f) first cap] H = some (.bool (l.any p), H) := by
  obtain ⟨n, hn, hn2⟩ : ∃ n : Int, eval tbl noExt n_slices_IndexFunc_api_Cell_api_Cell [.sl 1 (l.map fun a => [V.sl 6 (e a)]), .fn (.func f) first cap] H = some (.int .i64 n, H) ∧ decide (0 ≤ n) = l.any p := by
    rw [eval_M rfl rfl t_slices_IndexFunc_api_Cell_api_Cell rfl]
    simp [c_slices_IndexFunc_api_Cell_api_Cell]
    refine IndexFunc_api_Cell_api_Cell_loop hp e l hl p H _ hf (fun o => ∃ n : Int, o = some (.int .i64 n, H) ∧ decide (0 ≤ n) = l.any p) _ (fun φ' i h g => ?_) (fun φ' h => ?_) l.length 0 _ (by omega) (by simp) (by simp) (by simp) (by simp) (by simp)
    · exact ⟨i, by simp [g], by rw [h]; simp⟩
    · exact ⟨-1, by simp [r_slices_IndexFunc_api_Cell_api_Cell_0], by rw [h]; simp⟩
  rw [eval_M rfl rfl t_slices_ContainsFunc_api_Cell_api_Cell rfl]
  simp [c_slices_ContainsFunc_api_Cell_api_Cell, hn, hn2, lt_slices_IndexFunc_api_Cell_api_Cell]

theorem ContainsFunc_api_Cell_api_Cell_own {α : Type} {f : Nat} {first cap : List V} (hp : f < yBase) (e : α → List (List V)) (l : List α) (hl : l.length ≤ 1000000) (p : α → Bool) (H : Heap)
    (hf : ∀ a ∈ l, eval tbl noExt f (first ++ [V.sl 6 (e a)] ++ cap) H = some (.bool (p a), H)) :
    eval tbl noExt n_slices_ContainsFunc_api_Cell_api_Cell [.own 1 (l.map fun a => [V.sl 6 (e a)]), .fn (.func f) first cap] H = some (.bool (l.any p), H) := by
  obtain ⟨n, hn, hn2⟩ : ∃ n : Int, eval tbl noExt n_slices_IndexFunc_api_Cell_api_Cell [.sl 1 (l.map fun a => [V.sl 6 (e a)]), .fn (.func f) first cap] H = some (.int .i64 n, H) ∧ decide (0 ≤ n) = l.any p := by
    rw [eval_M rfl rfl t_slices_IndexFunc_api_Cell_api_Cell rfl]
    simp [c_slices_IndexFunc_api_Cell_api_Cell]
    refine IndexFunc_api_Cell_api_Cell_loop hp e l hl p H _ hf (fun o => ∃ n : Int, o = some (.int .i64 n, H) ∧ decide (0 ≤ n) = l.any p) _ (fun φ' i h g => ?_) (fun φ' h => ?_) l.length 0 _ (by omega) (by simp) (by simp) (by simp) (by simp) (by simp)
    · exact ⟨i, by simp [g], by rw [h]; simp⟩
    · exact ⟨-1, by simp [r_slices_IndexFunc_api_Cell_api_Cell_0], by rw [h]; simp⟩
  rw [eval_M rfl rfl t_slices_ContainsFunc_api_Cell_api_Cell rfl]
  simp [c_slices_ContainsFunc_api_Cell_api_Cell, hn, hn2, lt_slices_IndexFunc_api_Cell_api_Cell]

end Go.AM.Spec

namespace Go.AM.Spec
set_option linter.unusedVariables false
set_option linter.unusedSimpArgs false
set_option maxHeartbeats 1000000
set_option maxRecDepth 10000

theorem sum_loop (n : Nat) (H : Heap) (call : CallF) (Q : Option (V × Heap) → Prop) (k : List Item) (l : List Ce) (hl : l.length ≤ 100000) (X : Int)
    (hexit : ∀ φ' K', K'.take n = H → n ≤ K'.length → Fr.get φ' 3 = iv X → Q (M call k φ' K')) :
    ∀ (j i : Nat) (φ : Fr) (K : Heap) (s : Int), i + j = l.length → (l.drop i).foldl sumStep s = X → K.take n = H → n ≤ K.length → (s = 0 ∨ s = 1 ∨ s = 2) → Fr.get φ 3 = iv s → Fr.get φ 6 = .sl 6 (l.map Ce.cells) → Fr.get φ 7 = iv l.length → Fr.get φ 8 = iv i →
      Q (M call (.code l_cell_Sum_0 :: .blk 0 :: k) φ K) := by
  intro j
  induction j with
  | zero =>
    intro i φ K s hi hX hK hn hs h3 h6 h7 h8
    have hlt : ¬ (i : Int) < l.length := by omega
    rw [List.drop_eq_nil_of_le (by omega)] at hX
    rw [l_cell_Sum_0, M_loop]
    simp [b_cell_Sum_0, h3, h6, h7, h8, hlt]
    exact hexit _ _ hK hn (by rw [← hX]; simp [h3])
  | succ j ih =>
    intro i φ K s hi hX hK hn hs h3 h6 h7 h8
    have hlt : i < l.length := by omega
    obtain ⟨c, hc⟩ : ∃ c, c = l[i] := ⟨_, rfl⟩
    have hc' : l[i]? = some c := by rw [hc]; exact List.getElem?_eq_getElem hlt
    have hg : ∀ h : i < l.length, l[i] = c := fun h => hc.symm
    rw [List.drop_eq_getElem_cons hlt, ← hc, List.foldl_cons] at hX
    have hr := row_get l i c hc'
    have e1 : (i : Int) < l.length := by omega
    have e2 : IntKind.i64.wrap ((i : Int) + 1) = ((i + 1 : Nat) : Int) := by rw [w64] <;> omega
    have hcell : c.cells = [iv c.says, iv c.point, uv c.kept, iv c.verdict, iv c.err, iv c.limit] := rfl
    have hK2 : ∀ r, (K ++ r).take n = H := fun r => take_more hK hn r
    have hn2 : ∀ r : Heap, n ≤ (K ++ r).length := fun r => by simp; omega
    have hrange := sumStep_range c hs
    rw [l_cell_Sum_0, M_loop, ← l_cell_Sum_0]
    by_cases a2 : c.says = 2
    · by_cases a3 : s = 1
      · have hst : sumStep s c = s := by unfold sumStep; rw [if_neg (by omega)]
        rw [hst] at hX hrange
        simp [b_cell_Sum_0, h3, h6, h7, h8, hr, e1, e2, hg, hlt, hcell, a2, a3]
        refine ih (i + 1) _ _ s (by omega) hX (hK2 _) (hn2 _) hrange ?_ ?_ ?_ ?_ <;> simp [h3, h6, h7, a3]
      · have hst : sumStep s c = 2 := by
          unfold sumStep
          by_cases h0 : s = 0
          · rw [if_pos (by omega), a2]
          · rw [if_neg (by omega)]; omega
        rw [hst] at hX
        simp [b_cell_Sum_0, h3, h6, h7, h8, hr, e1, e2, hg, hlt, hcell, a2, a3]
        refine ih (i + 1) _ _ 2 (by omega) hX (hK2 _) (hn2 _) (.inr (.inr rfl)) ?_ ?_ ?_ ?_ <;> simp [h6, h7]
    · by_cases a1 : c.says = 1
      · have hst : sumStep s c = 1 := by unfold sumStep; rw [if_pos (by omega), a1]
        rw [hst] at hX
        simp [b_cell_Sum_0, h3, h6, h7, h8, hr, e1, e2, hg, hlt, hcell, a1]
        refine ih (i + 1) _ _ 1 (by omega) hX (hK2 _) (hn2 _) (.inr (.inl rfl)) ?_ ?_ ?_ ?_ <;> simp [h6, h7]
      · have hst : sumStep s c = s := by unfold sumStep; rw [if_neg (by omega)]
        rw [hst] at hX hrange
        simp [b_cell_Sum_0, h3, h6, h7, h8, hr, e1, e2, hg, hlt, hcell, a1, a2]
        refine ih (i + 1) _ _ s (by omega) hX (hK2 _) (hn2 _) hrange ?_ ?_ ?_ ?_ <;> simp [h3, h6, h7]

theorem Sum_eq (l : List Ce) (hl : l.length ≤ 100000) (H : Heap) : eval tbl noExt n_cell_Sum [.sl 6 (l.map Ce.cells)] H = some (iv (sumC l), H) := by
  rw [eval_M rfl rfl t_cell_Sum rfl]
  simp [c_cell_Sum]
  refine sum_loop H.length H _ (fun r => r = some (iv (sumC l), H)) _ l hl (sumC l) ?_ l.length 0 _ _ 0 (by omega) rfl (by simp) (Nat.le_refl _) (.inl rfl) ?_ ?_ ?_ ?_
  · intro φ' K' hK hn h3
    simp [r_cell_Sum_0, h3, hK]
  all_goals simp

theorem refSum_loop (call : CallF) (K : Heap) (Q : Option (V × Heap) → Prop) (k : List Item) (l : List Ce) (hl : l.length ≤ 100000) (X : Int)
    (hexit : ∀ φ', Fr.get φ' 3 = iv X → Q (M call k φ' K)) :
    ∀ (j i : Nat) (φ : Fr) (s : Int), i + j = l.length → (l.drop i).foldl sumStep s = X → Fr.get φ 3 = iv s → Fr.get φ 0 = .sl 6 (l.map Ce.cells) → Fr.get φ 4 = iv i →
      Q (M call (.code l_flotsamref30_Sum_0 :: .blk 0 :: k) φ K) := by
  intro j
  induction j with
  | zero =>
    intro i φ s hi hX h3 h0 h4
    have hlt : ¬ (i : Int) < l.length := by omega
    rw [List.drop_eq_nil_of_le (by omega)] at hX
    rw [l_flotsamref30_Sum_0, M_loop]
    simp [b_flotsamref30_Sum_0, h3, h0, h4, hlt]
    exact hexit _ (by rw [← hX]; simp [h3])
  | succ j ih =>
    intro i φ s hi hX h3 h0 h4
    have hlt : i < l.length := by omega
    obtain ⟨c, hc⟩ : ∃ c, c = l[i] := ⟨_, rfl⟩
    have hc' : l[i]? = some c := by rw [hc]; exact List.getElem?_eq_getElem hlt
    have hg : ∀ h : i < l.length, l[i] = c := fun h => hc.symm
    rw [List.drop_eq_getElem_cons hlt, ← hc, List.foldl_cons] at hX
    have hr := row_get l i c hc'
    have e1 : (i : Int) < l.length := by omega
    have e2 : IntKind.i64.wrap ((i : Int) + 1) = ((i + 1 : Nat) : Int) := by rw [w64] <;> omega
    have hcell : c.cells = [iv c.says, iv c.point, uv c.kept, iv c.verdict, iv c.err, iv c.limit] := rfl
    rw [l_flotsamref30_Sum_0, M_loop, ← l_flotsamref30_Sum_0]
    by_cases a1 : c.says = 1
    · have hst : sumStep s c = c.says := by unfold sumStep; rw [if_pos (by omega)]
      rw [hst] at hX
      simp [b_flotsamref30_Sum_0, h3, h0, h4, hr, e1, e2, hg, hlt, hcell, a1]
      refine ih (i + 1) _ c.says (by omega) hX ?_ ?_ ?_ <;> simp [h0, a1]
    · by_cases a2 : c.says = 2
      · by_cases a3 : s = 0
        · have hst : sumStep s c = c.says := by unfold sumStep; rw [if_pos (by omega)]
          rw [hst] at hX
          simp [b_flotsamref30_Sum_0, h3, h0, h4, hr, e1, e2, hg, hlt, hcell, a2, a3]
          refine ih (i + 1) _ c.says (by omega) hX ?_ ?_ ?_ <;> simp [h0, a2]
        · have hst : sumStep s c = s := by unfold sumStep; rw [if_neg (by omega)]
          rw [hst] at hX
          simp [b_flotsamref30_Sum_0, h3, h0, h4, hr, e1, e2, hg, hlt, hcell, a2, a3]
          refine ih (i + 1) _ s (by omega) hX ?_ ?_ ?_ <;> simp [h0, h3]
      · have hst : sumStep s c = s := by unfold sumStep; rw [if_neg (by omega)]
        rw [hst] at hX
        simp [b_flotsamref30_Sum_0, h3, h0, h4, hr, e1, e2, hg, hlt, hcell, a1, a2]
        refine ih (i + 1) _ s (by omega) hX ?_ ?_ ?_ <;> simp [h0, h3]

theorem refSum_eq (l : List Ce) (hl : l.length ≤ 100000) (H : Heap) : eval tbl noExt n_flotsamref30_Sum [.sl 6 (l.map Ce.cells)] H = some (iv (sumC l), H) := by
  rw [eval_M rfl rfl t_flotsamref30_Sum rfl]
  simp [c_flotsamref30_Sum]
  refine refSum_loop _ H (fun r => r = some (iv (sumC l), H)) _ l hl (sumC l) ?_ l.length 0 _ 0 (by omega) rfl ?_ ?_ ?_
  · intro φ' h3
    simp [r_flotsamref30_Sum_0, h3]
  all_goals simp

end Go.AM.Spec

namespace Go.AM.Spec
set_option linter.unusedVariables false
set_option linter.unusedSimpArgs false
set_option maxHeartbeats 1000000
set_option maxRecDepth 10000

def rowV (l : List Ce) : List V := [.sl 6 (l.map Ce.cells)]

/-- A matrix. -/
structure Mx where
  bad : Bool
  base : List Ce
  sites : List Si
  rows : List (List Ce)

def Mx.cells (m : Mx) : List V := [.bool m.bad, .sl 6 (m.base.map Ce.cells), .sl 11 (m.sites.map Si.cells), .sl 1 (m.rows.map rowV)]
structure Mx.few (m : Mx) : Prop where
  base : m.base.length ≤ 30
  sites : m.sites.length ≤ 512
  rows : m.rows.length ≤ 512
  row : ∀ l ∈ m.rows, l.length ≤ 30

theorem get_take {H K : Heap} {n i : Nat} {x : Option (List V)} (hK : K.take n = H) (hi : H[i]? = some x) : K[i]? = some x := by
  rw [← hK, List.getElem?_take] at hi
  split at hi
  · exact hi
  · cases hi

/-- How many of a list of cells are such: a closure asked. -/
theorem count6_loop (n : Nat) (H : Heap) (call : CallF) (Q : Option (V × Heap) → Prop) (k : List Item) (l : List Ce) (hl : l.length ≤ 100000) {f : Nat} {first cap : List V} (hp : f < yBase) (p : Ce → Bool)
    (hf : ∀ c ∈ l, ∀ K : Heap, K.take n = H → n ≤ K.length → call f (first ++ [.agg c.cells] ++ cap) K = some (.bool (p c), K)) (X : Nat)
    (hexit : ∀ φ' K', K'.take n = H → n ≤ K'.length → Fr.get φ' 5 = iv X → Q (M call k φ' K')) :
    ∀ (j i : Nat) (φ : Fr) (K : Heap) (s : Nat), i + j = l.length → s ≤ i → s + (l.drop i).countP p = X → K.take n = H → n ≤ K.length → Fr.get φ 1 = .fn (.func f) first cap → Fr.get φ 5 = iv s → Fr.get φ 8 = .sl 6 (l.map Ce.cells) → Fr.get φ 9 = iv l.length → Fr.get φ 10 = iv i →
      Q (M call (.code l_score_count_api_Cell_0 :: .blk 0 :: k) φ K) := by
  intro j
  induction j with
  | zero =>
    intro i φ K s hi hs hX hK hn h1 h5 h8 h9 h10
    have hlt : ¬ (i : Int) < l.length := by omega
    rw [List.drop_eq_nil_of_le (by omega)] at hX
    rw [l_score_count_api_Cell_0, M_loop]
    simp [b_score_count_api_Cell_0, h1, h5, h8, h9, h10, hlt]
    exact hexit _ _ hK hn (by rw [← hX]; simp [h5])
  | succ j ih =>
    intro i φ K s hi hs hX hK hn h1 h5 h8 h9 h10
    have hlt : i < l.length := by omega
    obtain ⟨c, hc⟩ : ∃ c, c = l[i] := ⟨_, rfl⟩
    have hc' : l[i]? = some c := by rw [hc]; exact List.getElem?_eq_getElem hlt
    have hmem : c ∈ l := by rw [hc]; exact List.getElem_mem _
    have hg : ∀ h : i < l.length, l[i] = c := fun h => hc.symm
    rw [List.drop_eq_getElem_cons hlt, ← hc, List.countP_cons] at hX
    have hr := row_get l i c hc'
    have e1 : (i : Int) < l.length := by omega
    have e2 : IntKind.i64.wrap ((i : Int) + 1) = ((i + 1 : Nat) : Int) := by rw [w64] <;> omega
    have e3 : IntKind.i64.wrap ((s : Int) + 1) = ((s + 1 : Nat) : Int) := by rw [w64] <;> omega
    have hK2 : ∀ r, (K ++ r).take n = H := fun r => take_more hK hn r
    have hn2 : ∀ r : Heap, n ≤ (K ++ r).length := fun r => by simp; omega
    have hcl := Ce.len c
    have hcs := Ce.strip c
    have hct : c.cells.take 6 = c.cells := rfl
    have hcu := Ce.under c
    have hco : c.cells.all V.one = true := rfl
    have hset : ∀ a b d e f g : V, setMany [a, b, d, e, f, g] 0 c.cells = c.cells := fun _ _ _ _ _ _ => rfl
    have hcall := hf c hmem (K ++ [some c.cells]) (hK2 _) (hn2 _)
    simp at hcall
    rw [l_score_count_api_Cell_0, M_loop, ← l_score_count_api_Cell_0]
    cases hb : p c with
    | true =>
      rw [hb] at hcall
      simp only [hb, if_true] at hX
      simp [b_score_count_api_Cell_0, h1, h5, h8, h9, h10, hr, e1, e2, e3, hg, hlt, hcl, hcs, hct, hcu, hco, hset, hp, hcall]
      refine ih (i + 1) _ _ (s + 1) (by omega) (by omega) (by omega) (hK2 _) (hn2 _) ?_ ?_ ?_ ?_ ?_ <;> simp [h1, h8, h9]
    | false =>
      rw [hb] at hcall
      simp only [hb, Bool.false_eq_true, if_false] at hX
      simp [b_score_count_api_Cell_0, h1, h5, h8, h9, h10, hr, e1, e2, e3, hg, hlt, hcl, hcs, hct, hcu, hco, hset, hp, hcall]
      refine ih (i + 1) _ _ s (by omega) (by omega) (by omega) (hK2 _) (hn2 _) ?_ ?_ ?_ ?_ ?_ <;> simp [h1, h5, h8, h9]

theorem count6_eq (l : List Ce) (hl : l.length ≤ 100000) {f : Nat} {first cap : List V} (hp : f < yBase) (p : Ce → Bool) (H : Heap) (hf : ∀ c ∈ l, ∀ K : Heap, K.take H.length = H → H.length ≤ K.length → eval tbl noExt f (first ++ [.agg c.cells] ++ cap) K = some (.bool (p c), K)) :
    eval tbl noExt n_score_count_api_Cell [.sl 6 (l.map Ce.cells), .fn (.func f) first cap] H = some (iv (l.countP p), H) := by
  rw [eval_M rfl rfl t_score_count_api_Cell rfl]
  simp [c_score_count_api_Cell]
  refine count6_loop H.length H _ (fun r => r = some (iv (l.countP p), H)) _ l hl hp p hf (l.countP p) ?_ l.length 0 _ _ 0 (by omega) (Nat.le_refl _) (by simp) (by simp) (Nat.le_refl _) ?_ ?_ ?_ ?_ ?_
  · intro φ' K' hK hn h5
    simp [r_score_count_api_Cell_0, h5, hK]
  all_goals simp

end Go.AM.Spec

namespace Go.AM.Spec
set_option linter.unusedVariables false
set_option linter.unusedSimpArgs false
set_option maxHeartbeats 1000000
set_option maxRecDepth 10000

def rowOK (n : Nat) (l : List Ce) : Bool := decide (l.length = n) && l.all Ce.right
def sitesOK : List Si → List Si → Bool
  | _, [] => true
  | done, s :: rest => s.name.2 && (!decide (s ∈ done) && sitesOK (done ++ [s]) rest)
/-- May a matrix be? -/
def Mx.right (m : Mx) : Bool := decide (m.base.length ≤ 16) && (m.base.all Ce.right && (decide (m.bad = decide (sumC m.base = 1)) &&
  (if m.bad = true then decide (m.sites.length = 0) && decide (m.rows.length = 0) else decide (m.sites.length = m.rows.length) && (m.rows.all (rowOK m.base.length) && sitesOK [] m.sites))))

theorem countP_all (l : List Ce) : decide (l.countP Ce.right = l.length) = l.all Ce.right := by
  rw [Bool.eq_iff_iff, decide_eq_true_eq, List.all_eq_true]
  exact List.countP_eq_length

theorem odd1_eq (n : Nat) (l : List Ce) (hl : l.length ≤ 30) (i : Nat) (K : Heap) (hi : K[i]? = some (some [iv n])) : eval tbl noExt n_score_odd_1 [.sl 6 (l.map Ce.cells), .ptr i 0] K = some (.bool (!rowOK n l), K) := by
  have hc := count6_eq l (by omega) (first := []) (cap := []) lt_cell_Right Ce.right [] (fun c _ K _ _ => CRight_eq c K)
  rw [eval_M rfl rfl t_score_odd_1 rfl]
  unfold rowOK
  by_cases h1 : l.length = n
  · have h1' : (l.length : Int) = n := by omega
    have ha := countP_all l
    by_cases h2 : l.countP Ce.right = l.length
    · rw [← ha]
      rw [h2, h1] at hc
      simp [c_score_odd_1, hi, h1, hc, h2]
    · rw [← ha]
      have h2' : ¬ ((l.countP Ce.right : Nat) : Int) = n := by omega
      have h2'' : ¬ l.countP Ce.right = n := by omega
      simp [c_score_odd_1, hi, h1, hc, h2', h2'']
  · have h1' : ¬ (l.length : Int) = n := by omega
    simp [c_score_odd_1, hi, h1, h1']

theorem odd_eq (n : Nat) (H : Heap) : eval tbl noExt n_score_odd [iv n] H = some (.fn (.func n_score_odd_1) [] [.ptr H.length 0], H ++ [some [iv n]]) := by
  rw [eval_M rfl rfl t_score_odd rfl]
  simp [c_score_odd]
theorem odd_own (k n : Nat) : callOwn (eval tbl noExt) n_score_odd [iv k] n = some (.fn (.func n_score_odd_1) [] [.ptr n 0], [some [iv k]]) := by
  unfold callOwn
  rw [odd_eq]
  simp

/-! Sites that are the same. -/
theorem siteIx_loop (K : Heap) (n : Nat) (s : Si) (hs : s.ok) (hn : K[n]? = some (some s.cells)) (l : List Si) (hl : l.length ≤ 100000) (hok : ∀ t ∈ l, t.ok) (call : CallF) (Q : Option (V × Heap) → Prop) (k : List Item)
    (hret : ∀ φ' (i : Nat), s ∈ l → Fr.get φ' 4 = iv i → Q (retK k φ' K)) (hexit : ∀ φ', s ∉ l → Q (M call k φ' K)) :
    ∀ (j i : Nat) (φ : Fr), i + j = l.length → (s ∈ l ↔ s ∈ l.drop i) → Fr.get φ 0 = .sl 11 (l.map Si.cells) → Fr.get φ 3 = .ptr n 0 → Fr.get φ 7 = iv l.length → Fr.get φ 8 = iv i → Q (M call (.code l_slices_Index_api_Site_api_Site_0 :: .blk 0 :: k) φ K) := by
  intro j
  induction j with
  | zero =>
    intro i φ hi hX h0 h3 h7 h8
    have hlt : ¬ (i : Int) < l.length := by omega
    rw [List.drop_eq_nil_of_le (by omega)] at hX
    rw [l_slices_Index_api_Site_api_Site_0, M_loop]
    simp [b_slices_Index_api_Site_api_Site_0, h0, h3, h7, h8, hlt]
    exact hexit _ (by rw [hX]; simp)
  | succ j ih =>
    intro i φ hi hX h0 h3 h7 h8
    have hlt : i < l.length := by omega
    obtain ⟨t, ht⟩ : ∃ t, t = l[i] := ⟨_, rfl⟩
    have hmem : t ∈ l := by rw [ht]; exact List.getElem_mem _
    have hg : ∀ h : i < l.length, l[i] = t := fun h => ht.symm
    rw [List.drop_eq_getElem_cons hlt, ← ht, List.mem_cons] at hX
    have e1 : (i : Int) < l.length := by omega
    have e2 : IntKind.i64.wrap ((i : Int) + 1) = ((i + 1 : Nat) : Int) := by rw [w64] <;> omega
    have okt := hok t hmem
    have heq := Si.eqc hs okt
    have q1 := Si.len hs
    have q2 := Si.len okt
    have q3 := Si.strip (s := s)
    have q4 := Si.strip (s := t)
    have q5 := Si.take hs
    have q6 := Si.take okt
    rw [l_slices_Index_api_Site_api_Site_0, M_loop, ← l_slices_Index_api_Site_api_Site_0]
    by_cases a1 : s = t
    · have heq' : eqCells [.int .i64, .int .i64, .int .i64, .int .i64, .int .i64, .int .i64, .int .i64, .int .i64, .int .i64, .int .i64, .int .i64] s.cells t.cells = some true := by rw [heq]; simp [a1]
      simp [b_slices_Index_api_Site_api_Site_0, h0, h3, h7, h8, hn, hlt, hg, e1, e2, q1, q2, q3, q4, q5, q6, heq']
      exact hret _ i (by rw [a1]; exact hmem) (by simp)
    · have heq' : eqCells [.int .i64, .int .i64, .int .i64, .int .i64, .int .i64, .int .i64, .int .i64, .int .i64, .int .i64, .int .i64, .int .i64] s.cells t.cells = some false := by rw [heq]; simp [a1]
      simp [b_slices_Index_api_Site_api_Site_0, h0, h3, h7, h8, hn, hlt, hg, e1, e2, q1, q2, q3, q4, q5, q6, heq']
      refine ih (i + 1) _ (by omega) (by rw [hX]; simp [a1]) ?_ ?_ ?_ ?_ <;> simp [h0, h3, h7]

theorem siteContains_eq (s : Si) (hs : s.ok) (l : List Si) (hl : l.length ≤ 100000) (hok : ∀ t ∈ l, t.ok) (H : Heap) : eval tbl noExt n_slices_Contains_api_Site_api_Site [.sl 11 (l.map Si.cells), .agg s.cells] H = some (.bool (decide (s ∈ l)), H) := by
  have q1 := Si.len hs
  have q3 := Si.strip (s := s)
  have q5 := Si.take hs
  have qu := fun n => Si.under (s := s) n
  obtain ⟨n, hn, hn2⟩ : ∃ n : Int, eval tbl noExt n_slices_Index_api_Site_api_Site [.sl 11 (l.map Si.cells), .agg s.cells] [] = some (iv n, []) ∧ decide (0 ≤ n) = decide (s ∈ l) := by
    rw [eval_M rfl rfl t_slices_Index_api_Site_api_Site rfl]
    simp [c_slices_Index_api_Site_api_Site]
    refine siteIx_loop _ 0 s hs (by rfl) l hl hok _ (fun r => ∃ n : Int, r = some (iv n, []) ∧ (0 ≤ n ↔ s ∈ l)) _ ?_ ?_ l.length 0 _ (by omega) (by simp) ?_ ?_ ?_ ?_
    · intro φ' i hm h4
      exact ⟨i, by simp [h4], by simp [hm]⟩
    · intro φ' hm
      exact ⟨-1, by simp [r_slices_Index_api_Site_api_Site_0], by simp [hm]⟩
    all_goals simp
  have hulist : V.underAll 0 [V.sl 11 (l.map Si.cells), .agg s.cells] = true := by simp [V.underAll, V.under, qu]
  have hni : (if 0 ≤ n then true else false) = decide (s ∈ l) := by rw [← hn2]; split <;> simp_all
  rw [eval_M rfl rfl t_slices_Contains_api_Site_api_Site rfl]
  simp [c_slices_Contains_api_Site_api_Site, hn, hn2, q1, q3, q5, qu]

end Go.AM.Spec

namespace Go.AM.Spec
set_option linter.unusedVariables false
set_option linter.unusedSimpArgs false
set_option maxHeartbeats 2000000
set_option maxRecDepth 10000

theorem right_loop (n : Nat) (H : Heap) (q : Nat) (m : Mx) (hs : m.sites.length ≤ 512) (hok : ∀ s ∈ m.sites, s.ok) (hq : H[q]? = some (some m.cells)) (Q : Option (V × Heap) → Prop) (k : List Item) (X : Bool)
    (hyes : ∀ φ' K', K'.take n = H → n ≤ K'.length → X = true → Q (M (eval tbl noExt) k φ' K')) (hno : ∀ φ' K', K'.take n = H → n ≤ K'.length → X = false → Fr.get φ' 2 = .bool false → Q (retK k φ' K')) :
    ∀ (j i : Nat) (φ : Fr) (K : Heap), i + j = m.sites.length → sitesOK (m.sites.take i) (m.sites.drop i) = X → K.take n = H → n ≤ K.length → Fr.get φ 1 = .ptr q 0 → Fr.get φ 65 = .sl 11 (m.sites.map Si.cells) → Fr.get φ 66 = iv m.sites.length → Fr.get φ 67 = iv i →
      Q (M (eval tbl noExt) (.code l_score_Right_0 :: .blk 1 :: k) φ K) := by
  have hcell : m.cells = [.bool m.bad, .sl 6 (m.base.map Ce.cells), .sl 11 (m.sites.map Si.cells), .sl 1 (m.rows.map rowV)] := rfl
  intro j
  induction j with
  | zero =>
    intro i φ K hi hX hK hn h1 h65 h66 h67
    have hlt : ¬ (i : Int) < m.sites.length := by omega
    rw [List.drop_eq_nil_of_le (by omega)] at hX
    rw [l_score_Right_0, M_loop]
    simp [b_score_Right_0, h1, h65, h66, h67, hlt]
    exact hyes _ _ hK hn (by rw [← hX]; rfl)
  | succ j ih =>
    intro i φ K hi hX hK hn h1 h65 h66 h67
    have hlt : i < m.sites.length := by omega
    obtain ⟨t, ht⟩ : ∃ t, t = m.sites[i] := ⟨_, rfl⟩
    have hmem : t ∈ m.sites := by rw [ht]; exact List.getElem_mem _
    have okt := hok t hmem
    have hg : ∀ h : i < m.sites.length, m.sites[i] = t := fun h => ht.symm
    have hnext : m.sites.take i ++ [t] = m.sites.take (i + 1) := by rw [List.take_add_one, List.getElem?_eq_getElem hlt, ← ht]; rfl
    rw [List.drop_eq_getElem_cons hlt, ← ht, sitesOK, hnext] at hX
    have e1 : (i : Int) < m.sites.length := by omega
    have e1' : (i : Int) ≤ m.sites.length := by omega
    have e2 : IntKind.i64.wrap ((i : Int) + 1) = ((i + 1 : Nat) : Int) := by rw [w64] <;> omega
    have hKq : ∀ r : Heap, (K ++ r)[q]? = some (some m.cells) := fun r => get_take (take_more hK hn r) hq
    rw [hcell] at hKq
    have hK2 : ∀ r, (K ++ r).take n = H := fun r => take_more hK hn r
    have hn2 : ∀ r : Heap, n ≤ (K ++ r).length := fun r => by simp; omega
    have hN := Name_eq t okt []
    have hC := siteContains_eq t okt (m.sites.take i) (by simp; omega) (fun s hs => hok s (List.mem_of_mem_take hs)) []
    rw [List.map_take] at hC
    have q1 := Si.len okt
    have q3 := Si.strip (s := t)
    have q5 := Si.take okt
    have qu := fun n => Si.under (s := t) n
    have qo := Si.one (s := t)
    have qs := h11 t okt
    rw [l_score_Right_0, M_loop, ← l_score_Right_0]
    cases hnm : t.name.2 with
    | false =>
      rw [hnm, Bool.false_and] at hX
      rw [hnm] at hN
      simp [b_score_Right_0, h1, h65, h66, h67, hlt, hg, e1, e2, hN, q1, q3, q5, qu, qo, qs]
      exact hno _ _ (hK2 _) (hn2 _) hX.symm (by simp)
    | true =>
      rw [hnm, Bool.true_and] at hX
      rw [hnm] at hN
      by_cases hd : t ∈ m.sites.take i
      · have hd' : decide (t ∈ m.sites.take i) = true := by simp [hd]
        rw [hd'] at hC hX
        simp [b_score_Right_0, h1, h65, h66, h67, hlt, hg, e1, e1', e2, hN, q1, q3, q5, qu, qo, qs, hKq, hC]
        exact hno _ _ (hK2 _) (hn2 _) (by rw [← hX]; simp) (by simp)
      · have hd' : decide (t ∈ m.sites.take i) = false := by simp [hd]
        rw [hd'] at hC hX
        simp [b_score_Right_0, h1, h65, h66, h67, hlt, hg, e1, e1', e2, hN, q1, q3, q5, qu, qo, qs, hKq, hC]
        refine ih (i + 1) _ _ (by omega) (by rw [← hX]; simp) (hK2 _) (hn2 _) ?_ ?_ ?_ ?_ <;> simp [h1, h65, h66]

theorem get2 (l : Heap) (a b x : Option (List V)) (r : Heap) : (l ++ a :: b :: x :: r)[l.length + 1 + 1]? = some x := by
  rw [List.getElem?_append_right (by omega), show l.length + 1 + 1 - l.length = 2 by omega]; rfl

theorem any_notOK (n : Nat) (rows : List (List Ce)) : (rows.any fun l => !rowOK n l) = !(rows.all (rowOK n)) := by
  induction rows with
  | nil => rfl
  | cons a l ih => simp only [List.any_cons, List.all_cons, ih, Bool.not_and]

theorem take_one (H : Heap) (x : Option (List V)) (r : Heap) : (H ++ x :: r).take (H.length + 1) = H ++ [x] := by
  rw [show H ++ x :: r = (H ++ [x]) ++ r by simp, List.take_left' (by simp)]

theorem SRight_eq (m : Mx) (hm : m.few) (hok : ∀ s ∈ m.sites, s.ok) (H : Heap) : eval tbl noExt n_score_Right [.agg m.cells] H = some (.bool m.right, H) := by
  have hcell : m.cells = [.bool m.bad, .sl 6 (m.base.map Ce.cells), .sl 11 (m.sites.map Si.cells), .sl 1 (m.rows.map rowV)] := rfl
  have hbl := hm.base
  have hsl := hm.sites
  have hrl := hm.rows
  obtain ⟨R, hR⟩ : ∃ R, R = m.right := ⟨_, rfl⟩
  rw [← hR]
  unfold Mx.right at hR
  rw [eval_M rfl rfl t_score_Right rfl]
  by_cases a1 : 16 < m.base.length
  · have a1' : (16 : Int) < m.base.length := by omega
    have a1'' : ¬ m.base.length ≤ 16 := by omega
    simp only [a1'', decide_false, Bool.false_and] at hR
    simp [c_score_Right, hcell, a1', hR]
  · have a1' : ¬ (16 : Int) < m.base.length := by omega
    have a1'' : m.base.length ≤ 16 := by omega
    simp only [a1'', decide_true, Bool.true_and] at hR
    have hx := odd_own m.base.length (H.length + 1)
    have ho := odd1_eq m.base.length m.base (by omega) (H.length + 1) (H ++ [some m.cells, some [iv m.base.length]]) (by simp)
    have hp := lt_score_odd_1
    have hrow : rowOK m.base.length m.base = m.base.all Ce.right := by unfold rowOK; simp
    rw [hrow] at ho
    have hS := Sum_eq m.base (by omega) []
    rw [hcell] at ho
    cases hA : m.base.all Ce.right with
    | false =>
      rw [hA] at ho
      simp only [hA, Bool.false_and] at hR
      simp [c_score_Right, hcell, a1', hx, ho, hp, hR]
    | true =>
      rw [hA] at ho
      simp only [hA, Bool.true_and] at hR
      by_cases a2 : m.bad = decide (sumC m.base = 1)
      · have a2' : decide (m.bad = decide (sumC m.base = 1)) = true := by simp [← a2]
        rw [a2', Bool.true_and] at hR
        cases hB : m.bad with
        | true =>
          rw [hB] at a2
          have a3 : sumC m.base = 1 := by simpa using a2.symm
          rw [hB, if_pos rfl] at hR
          rw [hB] at ho
          by_cases b1 : m.sites.length = 0
          · have b1' : ((m.sites.length : Nat) : Int) = 0 := by omega
            simp [c_score_Right, hcell, hB, a1', hx, ho, hp, hS, a3, b1', b1, hR]
          · have b1' : ¬ ((m.sites.length : Nat) : Int) = 0 := by omega
            simp [c_score_Right, hcell, hB, a1', hx, ho, hp, hS, a3, b1', b1, hR]
        | false =>
          rw [hB] at a2
          have a3 : ¬ sumC m.base = 1 := by simpa using a2.symm
          rw [hB, if_neg (by simp)] at hR
          rw [hB] at ho
          have b2 : ¬ (512 : Int) < m.sites.length := by omega
          have b2r : ¬ (512 : Int) < m.rows.length := by omega
          by_cases b1 : m.sites.length = m.rows.length
          · have b1' : ((m.sites.length : Nat) : Int) = m.rows.length := by omega
            rw [decide_eq_true b1, Bool.true_and] at hR
            have hx2 := odd_own m.base.length (H.length + 1 + 1)
            have hC := ContainsFunc_api_Cell_api_Cell (f := n_score_odd_1) (first := []) (cap := [.ptr (H.length + 1 + 1) 0]) lt_score_odd_1 (fun c : List Ce => c.map Ce.cells) m.rows (by omega) (fun l => !rowOK m.base.length l) (H ++ [some m.cells, some [iv m.base.length], some [iv m.base.length]]) (fun c hc => odd1_eq m.base.length c (hm.row c hc) (H.length + 1 + 1) _ (get2 ..))
            have hrv : (m.rows.map fun a => [V.sl 6 (a.map Ce.cells)]) = m.rows.map rowV := rfl
            rw [hrv, any_notOK, hcell, hB] at hC
            cases hall : m.rows.all (rowOK m.base.length) with
            | false =>
              rw [hall] at hC
              rw [hall, Bool.false_and] at hR
              simp [c_score_Right, hcell, hB, a1', hx, ho, hp, hS, a3, b1', b2, b2r, hR, hx2, hC]
            | true =>
              rw [hall] at hC
              rw [hall, Bool.true_and] at hR
              simp [c_score_Right, hcell, hB, a1', hx, ho, hp, hS, a3, b1', b2, b2r, hx2, hC]
              rw [← b1']
              refine right_loop (H.length + 1) (H ++ [some m.cells]) H.length m hsl hok (by simp) (fun r => r = some (.bool R, H)) _ R ?_ ?_ m.sites.length 0 _ _ (by omega) (by rw [hR]; rfl) ?_ ?_ ?_ ?_ ?_ ?_
              · intro φ' K' hK hn hX
                have hK1 : K'.take H.length = H := by
                  have : (K'.take (H.length + 1)).take H.length = H := by rw [hK]; simp
                  rwa [List.take_take, show min H.length (H.length + 1) = H.length by omega] at this
                simp [r_score_Right_0, hK1, hX]
              · intro φ' K' hK hn hX h2
                have hK1 : K'.take H.length = H := by
                  have : (K'.take (H.length + 1)).take H.length = H := by rw [hK]; simp
                  rwa [List.take_take, show min H.length (H.length + 1) = H.length by omega] at this
                simp [h2, hK1, hX]
              · rw [hcell, hB]; exact take_one H _ _
              all_goals simp
          · have b1' : ¬ ((m.sites.length : Nat) : Int) = m.rows.length := by omega
            rw [decide_eq_false b1, Bool.false_and] at hR
            simp [c_score_Right, hcell, hB, a1', hx, ho, hp, hS, a3, b1', b2, b2r, hR]
      · have a2' : decide (m.bad = decide (sumC m.base = 1)) = false := by simp [a2]
        rw [a2', Bool.false_and] at hR
        have a4 : (if m.bad = decide (sumC m.base = 1) then false else true) = true := by simp [a2]
        simp [c_score_Right, hcell, a1', hx, ho, hp, hS, a2, hR]

end Go.AM.Spec

namespace Go.AM.Spec
set_option linter.unusedVariables false
set_option linter.unusedSimpArgs false
set_option maxHeartbeats 2000000
set_option maxRecDepth 10000

theorem cellsR_loop (call : CallF) (K : Heap) (Q : Option (V × Heap) → Prop) (k : List Item) (l : List Ce) (hl : l.length ≤ 1000)
    (hcall : ∀ c H, call n_flotsamref30_Right [.agg c.cells] H = some (.bool (Ce.right c), H)) (hown : ∀ c n, callOwn call n_flotsamref30_Right [.agg (Ce.cells c)] n = some (.bool (Ce.right c), []))
    (hyes : ∀ φ', l.all Ce.right = true → Q (M call k φ' K)) (hno : ∀ φ', l.all Ce.right = false → Fr.get φ' 2 = .bool false → Q (retK k φ' K)) :
    ∀ (j i : Nat) (φ : Fr), i + j = l.length → (l.drop i).all Ce.right = l.all Ce.right → Fr.get φ 0 = .sl 6 (l.map Ce.cells) → Fr.get φ 3 = iv i → Q (M call (.code l_flotsamref32_cells_0 :: .blk 0 :: k) φ K) := by
  intro j
  induction j with
  | zero =>
    intro i φ hi hX h0 h3
    have hlt : ¬ (i : Int) < l.length := by omega
    rw [List.drop_eq_nil_of_le (by omega)] at hX
    rw [l_flotsamref32_cells_0, M_loop]
    simp [b_flotsamref32_cells_0, h0, h3, hlt]
    exact hyes _ hX.symm
  | succ j ih =>
    intro i φ hi hX h0 h3
    have hlt : i < l.length := by omega
    obtain ⟨c, hc⟩ : ∃ c, c = l[i] := ⟨_, rfl⟩
    have hc' : l[i]? = some c := by rw [hc]; exact List.getElem?_eq_getElem hlt
    have hg : ∀ h : i < l.length, l[i] = c := fun h => hc.symm
    rw [List.drop_eq_getElem_cons hlt, ← hc, List.all_cons] at hX
    have hr := row_get l i c hc'
    have e1 : (i : Int) < l.length := by omega
    have e2 : IntKind.i64.wrap ((i : Int) + 1) = ((i + 1 : Nat) : Int) := by rw [w64] <;> omega
    have hcl := Ce.len c
    have hcs := Ce.strip c
    have hct : c.cells.take 6 = c.cells := rfl
    have hcu := Ce.under c
    have hco : c.cells.all V.one = true := rfl
    have hcc := hcall c []
    have hcw := hown c
    rw [l_flotsamref32_cells_0, M_loop, ← l_flotsamref32_cells_0]
    cases hb : c.right with
    | true =>
      rw [hb] at hcc hcw hX
      simp [b_flotsamref32_cells_0, h0, h3, hr, e1, e2, hg, hlt, hcl, hcs, hct, hcu, hco, hcc, hcw]
      refine ih (i + 1) _ (by omega) (by simpa using hX) ?_ ?_ <;> simp [h0]
    | false =>
      rw [hb] at hcc hcw hX
      simp [b_flotsamref32_cells_0, h0, h3, hr, e1, e2, hg, hlt, hcl, hcs, hct, hcu, hco, hcc, hcw]
      exact hno _ (by rw [← hX]; simp) (by simp)

theorem cellsR_eq (l : List Ce) (hl : l.length ≤ 1000) (H : Heap) : eval tbl noExt n_flotsamref32_cells [.sl 6 (l.map Ce.cells)] H = some (.bool (l.all Ce.right), H) := by
  rw [eval_M rfl rfl t_flotsamref32_cells rfl]
  simp [c_flotsamref32_cells]
  refine cellsR_loop _ H (fun r => r = some (.bool (l.all Ce.right), H)) _ l hl (fun c H => refCRight_eq c H) (fun c n => by unfold callOwn; rw [refCRight_eq]; simp) ?_ ?_ l.length 0 _ (by omega) (by simp) ?_ ?_
  · intro φ' h
    simp [r_flotsamref32_cells_0, h]
  · intro φ' h h2
    simp [h2, h]
  all_goals simp

end Go.AM.Spec

namespace Go.AM.Spec
set_option linter.unusedVariables false
set_option linter.unusedSimpArgs false
set_option maxHeartbeats 2000000
set_option maxRecDepth 10000

theorem refDup_loop (m : Mx) (hs : m.sites.length ≤ 512) (hok : ∀ s ∈ m.sites, s.ok) (K : Heap) (q : Nat) (hq : K[q]? = some (some m.cells)) (i : Nat) (t : Si) (ht : m.sites[i]? = some t) (call : CallF) (Q : Option (V × Heap) → Prop) (k : List Item)
    (hdup : ∀ φ', t ∈ m.sites.take i → Fr.get φ' 2 = .bool false → Q (retK k φ' K)) (hexit : ∀ φ', t ∉ m.sites.take i → Fr.get φ' 1 = .ptr q 0 → Fr.get φ' 3 = iv i → Q (M call k φ' K)) :
    ∀ (j p : Nat) (φ : Fr), p + j = i → (t ∈ m.sites.take i ↔ t ∈ (m.sites.take i).drop p) → Fr.get φ 1 = .ptr q 0 → Fr.get φ 3 = iv i → Fr.get φ 6 = iv p → Q (M call (.code l_flotsamref32_Right_0 :: .blk 2 :: k) φ K) := by
  have hcell : m.cells = [.bool m.bad, .sl 6 (m.base.map Ce.cells), .sl 11 (m.sites.map Si.cells), .sl 1 (m.rows.map rowV)] := rfl
  have hq2 := hq
  rw [hcell] at hq2
  have hlti : i < m.sites.length := by
    rcases Nat.lt_or_ge i m.sites.length with h1 | h1
    · exact h1
    · rw [List.getElem?_eq_none h1] at ht; cases ht
  have okt := hok t (List.mem_of_getElem? ht)
  have hgi : ∀ h : i < m.sites.length, m.sites[i] = t := fun h => by
    rw [List.getElem?_eq_getElem h] at ht
    exact Option.some.inj ht
  intro j
  induction j with
  | zero =>
    intro p φ hp hX h1 h3 h6
    have hlt : ¬ (p : Int) < i := by omega
    rw [List.drop_eq_nil_of_le (by simp; omega)] at hX
    rw [l_flotsamref32_Right_0, M_loop]
    simp [b_flotsamref32_Right_0, h1, h3, h6, hlt]
    exact hexit _ (by rw [hX]; simp) (by simp [h1]) (by simp [h3])
  | succ j ih =>
    intro p φ hp hX h1 h3 h6
    have hlt : p < m.sites.length := by omega
    have hlt2 : p < (m.sites.take i).length := by simp; omega
    obtain ⟨s, hse⟩ : ∃ s, s = m.sites[p] := ⟨_, rfl⟩
    have oks := hok s (by rw [hse]; exact List.getElem_mem _)
    have hg : ∀ h : p < m.sites.length, m.sites[p] = s := fun h => hse.symm
    have hget : (m.sites.take i)[p] = s := by rw [List.getElem_take, hse]
    rw [List.drop_eq_getElem_cons hlt2, hget, List.mem_cons] at hX
    have e1 : (p : Int) < i := by omega
    have e2 : IntKind.i64.wrap ((p : Int) + 1) = ((p + 1 : Nat) : Int) := by rw [w64] <;> omega
    have heq := Si.eqc oks okt
    have q1 := Si.len oks
    have q2 := Si.len okt
    have q3 := Si.strip (s := s)
    have q4 := Si.strip (s := t)
    have q5 := Si.take oks
    have q6 := Si.take okt
    rw [l_flotsamref32_Right_0, M_loop, ← l_flotsamref32_Right_0]
    by_cases a1 : t = s
    · have heq' : eqCells [.int .i64, .int .i64, .int .i64, .int .i64, .int .i64, .int .i64, .int .i64, .int .i64, .int .i64, .int .i64, .int .i64] s.cells t.cells = some true := by rw [heq]; simp [a1]
      simp [b_flotsamref32_Right_0, h1, h3, h6, hq2, hlt, hlti, hg, hgi, e1, e2, q1, q2, q3, q4, q5, q6, heq']
      exact hdup _ (by rw [hX]; exact .inl a1) (by simp)
    · have a1' : ¬ s = t := fun h => a1 h.symm
      have heq' : eqCells [.int .i64, .int .i64, .int .i64, .int .i64, .int .i64, .int .i64, .int .i64, .int .i64, .int .i64, .int .i64, .int .i64] s.cells t.cells = some false := by rw [heq]; simp [a1']
      simp [b_flotsamref32_Right_0, h1, h3, h6, hq2, hlt, hlti, hg, hgi, e1, e2, q1, q2, q3, q4, q5, q6, heq']
      refine ih (p + 1) _ (by omega) (by rw [hX]; simp [a1]) ?_ ?_ ?_ <;> simp [h1, h3]

/-- What the document's loop over the rows asks. -/
def restOK (n : Nat) : List Si → List (List Ce) → List Si → Bool
  | done, r :: rs, s :: ss => rowOK n r && (s.name.2 && (!decide (s ∈ done) && restOK n (done ++ [s]) rs ss))
  | _, _, _ => true

theorem restOK_eq (n : Nat) : ∀ (rs : List (List Ce)) (ss done : List Si), rs.length = ss.length → restOK n done rs ss = (rs.all (rowOK n) && sitesOK done ss)
  | [], [], done, _ => rfl
  | r :: rs, s :: ss, done, h => by
    rw [restOK, restOK_eq n rs ss _ (by simpa using h), List.all_cons, sitesOK]
    cases rowOK n r <;> cases s.name.2 <;> cases decide (s ∈ done) <;> cases rs.all (rowOK n) <;> rfl
  | [], _ :: _, _, h => by simp at h
  | _ :: _, [], _, h => by simp at h

theorem refRight_loop (m : Mx) (hm : m.few) (hok : ∀ s ∈ m.sites, s.ok) (hlen : m.sites.length = m.rows.length) (K : Heap) (q : Nat) (hq : K[q]? = some (some m.cells)) (Q : Option (V × Heap) → Prop) (k : List Item) (X : Bool)
    (hyes : ∀ φ', X = true → Q (M (eval tbl noExt) k φ' K)) (hno : ∀ φ', X = false → Fr.get φ' 2 = .bool false → Q (retK k φ' K)) :
    ∀ (j i : Nat) (φ : Fr), i + j = m.sites.length → restOK m.base.length (m.sites.take i) (m.rows.drop i) (m.sites.drop i) = X → Fr.get φ 1 = .ptr q 0 → Fr.get φ 3 = iv i → Q (M (eval tbl noExt) (.code l_flotsamref32_Right_1 :: .blk 0 :: k) φ K) := by
  have hcell : m.cells = [.bool m.bad, .sl 6 (m.base.map Ce.cells), .sl 11 (m.sites.map Si.cells), .sl 1 (m.rows.map rowV)] := rfl
  have hq2 := hq
  rw [hcell] at hq2
  have hsl := hm.sites
  have hrl := hm.rows
  intro j
  induction j with
  | zero =>
    intro i φ hi hX h1 h3
    have hlt : ¬ (i : Int) < m.sites.length := by omega
    have d1 : m.sites.drop i = [] := List.drop_eq_nil_of_le (by omega)
    have d2 : m.rows.drop i = [] := List.drop_eq_nil_of_le (by omega)
    rw [d1, d2] at hX
    rw [l_flotsamref32_Right_1, M_loop]
    simp [b_flotsamref32_Right_1, h1, h3, hq2, hlt]
    exact hyes _ (by rw [← hX]; rfl)
  | succ j ih =>
    intro i φ hi hX h1 h3
    have hlt : i < m.sites.length := by omega
    have hltr : i < m.rows.length := by omega
    obtain ⟨t, ht⟩ : ∃ t, t = m.sites[i] := ⟨_, rfl⟩
    obtain ⟨c, hc⟩ : ∃ c, c = m.rows[i] := ⟨_, rfl⟩
    have ht' : m.sites[i]? = some t := by rw [ht]; exact List.getElem?_eq_getElem hlt
    have okt := hok t (List.mem_of_getElem? ht')
    have hcl := hm.row c (by rw [hc]; exact List.getElem_mem _)
    have hg : ∀ h : i < m.sites.length, m.sites[i] = t := fun h => ht.symm
    have hgr : ∀ h : i < m.rows.length, m.rows[i] = c := fun h => hc.symm
    have hrv : rowV c = [.sl 6 (c.map Ce.cells)] := rfl
    have hnext : m.sites.take i ++ [t] = m.sites.take (i + 1) := by rw [List.take_add_one, ht']; rfl
    rw [List.drop_eq_getElem_cons hlt, List.drop_eq_getElem_cons hltr, ← ht, ← hc, restOK, hnext] at hX
    have e1 : (i : Int) < m.sites.length := by omega
    have e1r : (i : Int) < m.rows.length := by omega
    have e2 : IntKind.i64.wrap ((i : Int) + 1) = ((i + 1 : Nat) : Int) := by rw [w64] <;> omega
    have hN := refNameS_eq t okt []
    have hC := cellsR_eq c (by omega) []
    have q1 := Si.len okt
    have q3 := Si.strip (s := t)
    have q5 := Si.take okt
    have qu := fun n => Si.under (s := t) n
    rw [l_flotsamref32_Right_1, M_loop, ← l_flotsamref32_Right_1]
    by_cases b1 : c.length = m.base.length
    · have b1' : (c.length : Int) = m.base.length := by omega
      cases b2 : c.all Ce.right with
      | false =>
        have hr : rowOK m.base.length c = false := by unfold rowOK; rw [b2, Bool.and_false]
        rw [hr, Bool.false_and] at hX
        rw [b2] at hC
        simp [b_flotsamref32_Right_1, h1, h3, hq2, hlt, hltr, hg, hgr, hrv, e1, e1r, b1', hC]
        exact hno _ hX.symm (by simp)
      | true =>
        have hr : rowOK m.base.length c = true := by unfold rowOK; rw [b2, b1]; simp
        rw [hr, Bool.true_and] at hX
        rw [b2] at hC
        cases hnm : t.name.2 with
        | false =>
          rw [hnm, Bool.false_and] at hX
          rw [hnm] at hN
          simp [b_flotsamref32_Right_1, h1, h3, hq2, hlt, hltr, hg, hgr, hrv, e1, e1r, b1', hC, hN, q1, q3, q5, qu]
          exact hno _ hX.symm (by simp)
        | true =>
          rw [hnm, Bool.true_and] at hX
          rw [hnm] at hN
          simp [b_flotsamref32_Right_1, h1, h3, hq2, hlt, hltr, hg, hgr, hrv, e1, e1r, b1', hC, hN, q1, q3, q5, qu]
          refine refDup_loop m hsl hok K q hq i t ht' _ Q _ ?_ ?_ i 0 _ (by omega) (by simp) ?_ ?_ ?_
          · intro φ' hd h2
            simp
            exact hno _ (by rw [← hX]; simp [hd]) (by simp [h2])
          · intro φ' hd p1 p3
            simp [r_flotsamref32_Right_0, p1, p3, e2]
            refine ih (i + 1) _ (by omega) (by rw [← hX]; simp [hd]) ?_ ?_ <;> simp [p1]
          all_goals simp [h1, h3]
    · have b1' : ¬ (c.length : Int) = m.base.length := by omega
      have hr : rowOK m.base.length c = false := by unfold rowOK; simp [b1]
      rw [hr, Bool.false_and] at hX
      simp [b_flotsamref32_Right_1, h1, h3, hq2, hlt, hltr, hg, hgr, hrv, e1, e1r, b1']
      exact hno _ hX.symm (by simp)

theorem refRight_eq (m : Mx) (hm : m.few) (hok : ∀ s ∈ m.sites, s.ok) (H : Heap) : eval tbl noExt n_flotsamref32_Right [.agg m.cells] H = some (.bool m.right, H) := by
  have hcell : m.cells = [.bool m.bad, .sl 6 (m.base.map Ce.cells), .sl 11 (m.sites.map Si.cells), .sl 1 (m.rows.map rowV)] := rfl
  have hbl := hm.base
  have hsl := hm.sites
  have hrl := hm.rows
  obtain ⟨R, hR⟩ : ∃ R, R = m.right := ⟨_, rfl⟩
  rw [← hR]
  unfold Mx.right at hR
  have hS := refSum_eq m.base (by omega) []
  have hC := cellsR_eq m.base (by omega) []
  rw [eval_M rfl rfl t_flotsamref32_Right rfl]
  by_cases a1 : 16 < m.base.length
  · have a1' : (16 : Int) < m.base.length := by omega
    have a1'' : ¬ m.base.length ≤ 16 := by omega
    simp only [a1'', decide_false, Bool.false_and] at hR
    simp [c_flotsamref32_Right, hcell, a1', hR]
  · have a1' : ¬ (16 : Int) < m.base.length := by omega
    have a1'' : m.base.length ≤ 16 := by omega
    simp only [a1'', decide_true, Bool.true_and] at hR
    cases hA : m.base.all Ce.right with
    | false =>
      rw [hA] at hC
      simp only [hA, Bool.false_and] at hR
      simp [c_flotsamref32_Right, hcell, a1', hC, hR]
    | true =>
      rw [hA] at hC
      simp only [hA, Bool.true_and] at hR
      by_cases a2 : m.bad = decide (sumC m.base = 1)
      · have a2' : decide (m.bad = decide (sumC m.base = 1)) = true := by simp [← a2]
        rw [a2', Bool.true_and] at hR
        cases hB : m.bad with
        | true =>
          rw [hB] at a2
          have a3 : sumC m.base = 1 := by simpa using a2.symm
          rw [hB, if_pos rfl] at hR
          have e3 : IntKind.i64.wrap ((m.sites.length : Int) + m.rows.length) = (m.sites.length : Int) + m.rows.length := by rw [w64] <;> omega
          by_cases b1 : m.sites.length = 0 ∧ m.rows.length = 0
          · obtain ⟨b1, b2⟩ := b1
            have b1' : ((m.sites.length : Nat) : Int) = 0 := by omega
            have b2' : ((m.rows.length : Nat) : Int) = 0 := by omega
            rw [b1, b2, decide_eq_true rfl, Bool.and_self] at hR
            have b1l : m.sites = [] := List.eq_nil_of_length_eq_zero b1
            have b2l : m.rows = [] := List.eq_nil_of_length_eq_zero b2
            have e0 : IntKind.i64.wrap 0 = 0 := by rw [w64] <;> omega
            simp [c_flotsamref32_Right, hcell, hB, a1', hC, hS, a3, b1l, b2l, e0]
            rw [l_flotsamref32_Right_1, M_loop]
            simp [b_flotsamref32_Right_1, r_flotsamref32_Right_1, hR]
          · have b3 : (0 : Int) < (m.sites.length : Int) + m.rows.length := by omega
            have hR' : R = false := by
              rw [hR]
              by_cases c1 : m.sites.length = 0
              · have c2 : ¬ m.rows.length = 0 := fun h => b1 ⟨c1, h⟩
                rw [decide_eq_false c2, Bool.and_false]
              · rw [decide_eq_false c1, Bool.false_and]
            simp [c_flotsamref32_Right, hcell, hB, a1', hC, hS, a3, e3, b3, hR']
        | false =>
          rw [hB] at a2
          have a3 : ¬ sumC m.base = 1 := by simpa using a2.symm
          rw [hB, if_neg (by simp)] at hR
          have b2 : ¬ (512 : Int) < m.sites.length := by omega
          by_cases b1 : m.sites.length = m.rows.length
          · have b1' : ((m.sites.length : Nat) : Int) = m.rows.length := by omega
            have b2r : ¬ (512 : Int) < m.rows.length := by omega
            rw [decide_eq_true b1, Bool.true_and, ← restOK_eq _ _ _ _ b1.symm] at hR
            simp [c_flotsamref32_Right, hcell, hB, a1', hC, hS, a3, b1', b2, b2r]
            refine refRight_loop m hm hok b1 _ H.length (by rw [hcell, hB]; simp) (fun r => r = some (.bool R, H)) _ R ?_ ?_ m.sites.length 0 _ (by omega) (by rw [hR]; rfl) ?_ ?_
            · intro φ' hX
              simp [r_flotsamref32_Right_1, hX]
            · intro φ' hX h2
              simp [h2, hX]
            all_goals simp
          · have b1' : ¬ ((m.sites.length : Nat) : Int) = m.rows.length := by omega
            rw [decide_eq_false b1, Bool.false_and] at hR
            simp [c_flotsamref32_Right, hcell, hB, a1', hC, hS, a3, b1', b2, hR]
      · have a2' : decide (m.bad = decide (sumC m.base = 1)) = false := by simp [a2]
        rw [a2', Bool.false_and] at hR
        simp [c_flotsamref32_Right, hcell, a1', hC, hS, a2, hR]

end Go.AM.Spec

namespace Go.AM.Spec
set_option linter.unusedVariables false
set_option linter.unusedSimpArgs false

theorem list_of {α : Type} (f : α → List V) (p : α → Prop) : ∀ {rows : List (List V)}, (∀ r ∈ rows, ∃ a, r = f a ∧ p a) → ∃ l : List α, rows = l.map f ∧ ∀ a ∈ l, p a
  | [], _ => ⟨[], rfl, by simp⟩
  | r :: rows, h => by
    obtain ⟨l, rfl, h2⟩ := list_of f p (rows := rows) (fun q hq => h q (by simp [hq]))
    obtain ⟨a, rfl, ha⟩ := h r (by simp)
    refine ⟨a :: l, rfl, fun b hb => ?_⟩
    rcases List.mem_cons.1 hb with rfl | hb
    · exact ha
    · exact h2 b hb

section
variable {P : Program}

theorem TyL_3 {a b c : TypeId} {parts : List (List V)} (h : TyL P [a, b, c] parts) : ∃ p q r, parts = [p, q, r] ∧ Ty P a p ∧ Ty P b q ∧ Ty P c r := by
  match parts, h with
  | [p, q, r], ⟨h1, h2, h3, _⟩ => exact ⟨p, q, r, rfl, h1, h2, h3⟩

def Ce.fit (c : Ce) : Prop := Fit c.says ∧ Fit c.point ∧ (Lit.int .u64 c.kept).wf = true ∧ Fit c.verdict ∧ Fit c.err ∧ Fit c.limit

theorem cell_of {t tS tW tL tP tU tV tE : TypeId} {fs gs : Array Field} {vs : List V} (h : Ty P t vs) (hu : P.underlying t = some (.struct fs)) (hf : fs.toList.map (·.type) = [tS, tW, tL]) (hw : P.underlying tW = some (.struct gs)) (hg : gs.toList.map (·.type) = [tP, tU, tV, tE])
    (hS : P.underlying tS = some (.int .i64)) (hL : P.underlying tL = some (.int .i64)) (hP : P.underlying tP = some (.int .i64)) (hU : P.underlying tU = some (.int .u64)) (hV : P.underlying tV = some (.int .i64)) (hE : P.underlying tE = some (.int .i64)) :
    ∃ c : Ce, vs = c.cells ∧ c.fit := by
  obtain ⟨parts, rfl, hl⟩ := Ty_struct_of h hu
  rw [hf] at hl
  obtain ⟨p, q, r, rfl, h0, h1, h2⟩ := TyL_3 hl
  obtain ⟨a, rfl, w0⟩ := Ty_int_of h0 hS
  obtain ⟨b, rfl, w2⟩ := Ty_int_of h2 hL
  obtain ⟨ps, rfl, hm⟩ := Ty_struct_of h1 hw
  rw [hg] at hm
  obtain ⟨x, y, z, u, rfl, k0, k1, k2, k3⟩ := TyL_4 hm
  obtain ⟨x0, rfl, wx⟩ := Ty_int_of k0 hP
  obtain ⟨y0, rfl, wy⟩ := Ty_int_of k1 hU
  obtain ⟨z0, rfl, wz⟩ := Ty_int_of k2 hV
  obtain ⟨u0, rfl, wu⟩ := Ty_int_of k3 hE
  exact ⟨⟨a, x0, y0, z0, u0, b⟩, rfl, w0, wx, wy, wz, wu, w2⟩

def Mx.fit (m : Mx) : Prop := (∀ c ∈ m.base, c.fit) ∧ (∀ s ∈ m.sites, s.fit) ∧ (∀ l ∈ m.rows, ∀ c ∈ l, c.fit) ∧ Len m.base.length ∧ Len m.sites.length ∧ Len m.rows.length ∧ ∀ l ∈ m.rows, Len l.length

theorem mx_of {t tB tC tLC tT tLT tR : TypeId} {fs : Array Field} {vs : List V} (h : Ty P t vs) (hu : P.underlying t = some (.struct fs)) (hf : fs.toList.map (·.type) = [tB, tLC, tLT, tR])
    (hB : P.underlying tB = some .bool) (hLC : P.underlying tLC = some (.slice tC)) (hLT : P.underlying tLT = some (.slice tT)) (hR : P.underlying tR = some (.slice tLC)) (cC : P.cellsOf tC = 6) (cT : P.cellsOf tT = 11) (cL : P.cellsOf tLC = 1)
    (hC : ∀ vs, Ty P tC vs → ∃ c : Ce, vs = c.cells ∧ c.fit) (hT : ∀ vs, Ty P tT vs → ∃ s : Si, vs = s.cells ∧ s.fit) :
    ∃ m : Mx, vs = m.cells ∧ m.fit := by
  obtain ⟨parts, rfl, hl⟩ := Ty_struct_of h hu
  rw [hf] at hl
  obtain ⟨p, q, r, u, rfl, h0, h1, h2, h3⟩ := TyL_4 hl
  obtain ⟨bad, rfl⟩ := Ty_bool_of h0 hB
  obtain ⟨rows1, rfl, n1, m1⟩ := Ty_sl_of h1 hLC
  obtain ⟨rows2, rfl, n2, m2⟩ := Ty_sl_of h2 hLT
  obtain ⟨rows3, rfl, n3, m3⟩ := Ty_sl_of h3 hR
  obtain ⟨base, rfl, f1⟩ := list_of Ce.cells Ce.fit (fun r hr => hC r (m1 r hr))
  obtain ⟨sites, rfl, f2⟩ := list_of Si.cells Si.fit (fun r hr => hT r (m2 r hr))
  obtain ⟨rows, rfl, f3⟩ := list_of rowV (fun l => (∀ c ∈ l, c.fit) ∧ Len l.length) (rows := rows3) (fun r hr => by
    obtain ⟨rs, rfl, n4, m4⟩ := Ty_sl_of (m3 r hr) hLC
    obtain ⟨l, rfl, f4⟩ := list_of Ce.cells Ce.fit (fun r hr => hC r (m4 r hr))
    exact ⟨l, by rw [cC]; rfl, f4, by simpa using n4⟩)
  refine ⟨⟨bad, base, sites, rows⟩, by rw [cC, cT, cL]; rfl, f1, f2, fun l hl => (f3 l hl).1, by simpa using n1, by simpa using n2, by simpa using n3, fun l hl => (f3 l hl).2⟩

end
end Go.AM.Spec

namespace Go.AM.Spec
set_option linter.unusedVariables false
set_option linter.unusedSimpArgs false
set_option maxHeartbeats 2000000
set_option maxRecDepth 10000

def Mx.fewB (m : Mx) : Bool := (m.rows.take 50).all (fun l => decide (l.length ≤ 30)) && (decide (m.base.length ≤ 30) && (decide (m.sites.length ≤ 50) && decide (m.rows.length ≤ 50)))

theorem Mx.few_of {m : Mx} (h : m.fewB = true) : m.few := by
  simp only [Mx.fewB, Bool.and_eq_true, decide_eq_true_eq, List.all_eq_true] at h
  obtain ⟨h1, h2, h3, h4⟩ := h
  rw [List.take_of_length_le h4] at h1
  exact ⟨h2, by omega, by omega, h1⟩

theorem few_loop (m : Mx) (K : Heap) (q : Nat) (hq : K[q]? = some (some m.cells)) (call : CallF) (Q : Option (V × Heap) → Prop) (k : List Item) (X : Bool)
    (hyes : ∀ φ', X = true → Fr.get φ' 1 = .ptr q 0 → Q (M call k φ' K)) (hno : ∀ φ', X = false → Fr.get φ' 2 = .bool false → Q (retK k φ' K)) :
    ∀ (j i : Nat) (φ : Fr), i + j = (m.rows.take 50).length → ((m.rows.take 50).drop i).all (fun l => decide (l.length ≤ 30)) = X → Fr.get φ 1 = .ptr q 0 → Fr.get φ 3 = iv i → Q (M call (.code l_flotsamlaw32_Few_0 :: .blk 0 :: k) φ K) := by
  have hcell : m.cells = [.bool m.bad, .sl 6 (m.base.map Ce.cells), .sl 11 (m.sites.map Si.cells), .sl 1 (m.rows.map rowV)] := rfl
  have hq2 := hq
  rw [hcell] at hq2
  intro j
  induction j with
  | zero =>
    intro i φ hi hX h1 h3
    rw [List.drop_eq_nil_of_le (by omega)] at hX
    rw [l_flotsamlaw32_Few_0, M_loop]
    simp only [List.length_take] at hi
    by_cases a1 : (i : Int) < m.rows.length
    · have a2 : ¬ (i : Int) < 50 := by omega
      have a3 : i < m.rows.length := by omega
      have a4 : ¬ i < 50 := by omega
      simp [b_flotsamlaw32_Few_0, h1, h3, hq2, a1, a2, a3, a4]
      exact hyes _ (by rw [← hX]; rfl) (by simp [h1])
    · have a3 : ¬ i < m.rows.length := by omega
      simp [b_flotsamlaw32_Few_0, h1, h3, hq2, a1, a3]
      exact hyes _ (by rw [← hX]; rfl) (by simp [h1])
  | succ j ih =>
    intro i φ hi hX h1 h3
    have hlt : i < (m.rows.take 50).length := by omega
    have hi' := hi
    simp only [List.length_take] at hi'
    have hltr : i < m.rows.length := by omega
    obtain ⟨c, hc⟩ : ∃ c, c = m.rows[i] := ⟨_, rfl⟩
    have hgr : ∀ h : i < m.rows.length, m.rows[i] = c := fun h => hc.symm
    have hget : (m.rows.take 50)[i] = c := by rw [List.getElem_take, hc]
    have hrv : rowV c = [.sl 6 (c.map Ce.cells)] := rfl
    rw [List.drop_eq_getElem_cons hlt, hget, List.all_cons] at hX
    have e1 : (i : Int) < m.rows.length := by omega
    have e3 : (i : Int) < 50 := by omega
    have e4 : i < 50 := by omega
    have e2 : IntKind.i64.wrap ((i : Int) + 1) = ((i + 1 : Nat) : Int) := by rw [w64] <;> omega
    rw [l_flotsamlaw32_Few_0, M_loop, ← l_flotsamlaw32_Few_0]
    by_cases b1 : c.length ≤ 30
    · have b1' : ¬ (30 : Int) < c.length := by omega
      simp [b_flotsamlaw32_Few_0, h1, h3, hq2, hltr, hgr, hrv, e1, e2, e3, e4, b1']
      refine ih (i + 1) _ (by omega) (by rw [← hX]; simp [b1]) ?_ ?_ <;> simp [h1]
    · have b1' : (30 : Int) < c.length := by omega
      simp [b_flotsamlaw32_Few_0, h1, h3, hq2, hltr, hgr, hrv, e1, e2, e3, e4, b1']
      exact hno _ (by rw [← hX]; simp [b1]) (by simp)

theorem Few_eq (m : Mx) (H : Heap) : eval tbl noExt n_flotsamlaw32_Few [.agg m.cells] H = some (.bool m.fewB, H) := by
  have hcell : m.cells = [.bool m.bad, .sl 6 (m.base.map Ce.cells), .sl 11 (m.sites.map Si.cells), .sl 1 (m.rows.map rowV)] := rfl
  rw [eval_M rfl rfl t_flotsamlaw32_Few rfl]
  simp [c_flotsamlaw32_Few]
  refine few_loop m _ H.length (by simp) _ (fun r => r = some (.bool m.fewB, H)) _ ((m.rows.take 50).all fun l => decide (l.length ≤ 30)) ?_ ?_ (m.rows.take 50).length 0 _ (by omega) rfl ?_ ?_
  · intro φ' hX h1
    unfold Mx.fewB
    rw [hX, Bool.true_and]
    by_cases a1 : m.base.length ≤ 30
    · have a1' : (m.base.length : Int) ≤ 30 := by omega
      by_cases a2 : m.sites.length ≤ 50
      · have a2' : (m.sites.length : Int) ≤ 50 := by omega
        by_cases a3 : m.rows.length ≤ 50
        · have a3' : (m.rows.length : Int) ≤ 50 := by omega
          simp [r_flotsamlaw32_Few_0, h1, hcell, a1, a2, a3, a1', a2', a3']
        · have a3' : ¬ (m.rows.length : Int) ≤ 50 := by omega
          simp [r_flotsamlaw32_Few_0, h1, hcell, a1, a2, a3, a1', a2', a3']
      · have a2' : ¬ (m.sites.length : Int) ≤ 50 := by omega
        simp [r_flotsamlaw32_Few_0, h1, hcell, a1, a2, a1', a2']
    · have a1' : ¬ (m.base.length : Int) ≤ 30 := by omega
      simp [r_flotsamlaw32_Few_0, h1, hcell, a1, a1']
  · intro φ' hX h2
    unfold Mx.fewB
    simp [h2, hX]
  all_goals simp


end Go.AM.Spec
