/-
 The parts of this proof that speak of the functions one by one.
-/
import Derived.Test.YtfmbdcpdoffdeaaGreatDoorSpecSi
import Derived.Test.YtfmbdcpdoffdeaaGreatDoorSpc
namespace Go.AM.Spec
set_option linter.unusedVariables false
set_option linter.unusedSimpArgs false
set_option maxHeartbeats 1000000
set_option maxRecDepth 10000
abbrev uv (n : Int) : V := .int .u64 n
structure Ce where
 says : Int
 point : Int
 kept : Int
 verdict : Int
 err : Int
 limit : Int
 deriving DecidableEq
def Ce.cells (c : Ce) : List V := [iv c.says, iv c.point, uv c.kept, iv c.verdict, iv c.err, iv c.limit]
theorem Ce.strip (c : Ce) : c.cells.map V.strip = c.cells := rfl
theorem Ce.under (c : Ce) (n : Nat) : V.underAll n c.cells = true := rfl
theorem Ce.len (c : Ce) : c.cells.length = 6 := rfl
def Ce.witOK (c : Ce) : Bool := decide (0 ≤ c.point) && (decide (c.point ≤ 1000000) && (decide (c.kept < 65536) &&
 (if c.verdict = 1 then decide (c.err = 0) else if c.verdict = 2 then decide (0 < c.err) && (decide (c.err ≤ 15) && decide (c.err ≠ 10)) else false)))
def Ce.right (c : Ce) : Bool :=
 if c.says = 1 then decide (c.limit = 0) && c.witOK
 else if c.says = 2 then (decide (c.point = 0) && (decide (c.kept = 0) && (decide (c.verdict = 0) && decide (c.err = 0)))) && (decide (c.limit = 10) || (decide (c.limit = 13) || decide (c.limit = 14)))
 else decide (c.says = 0) && (decide (c.point = 0) && (decide (c.kept = 0) && (decide (c.verdict = 0) && (decide (c.err = 0) && decide (c.limit = 0)))))
theorem limit_eq (n : Int) (H : Heap) : eval tbl noExt n_cell_limit [iv n] H = some (.bool (decide (n = 10) || (decide (n = 13) || decide (n = 14))), H) := by
 rw [eval_M rfl rfl t_cell_limit rfl]
 by_cases a1 : n = 10
 ·simp [c_cell_limit, a1]
 ·by_cases a2 : n = 13
  ·simp [c_cell_limit, a2]
  ·simp [c_cell_limit, a1, a2]
theorem witness_eq (c : Ce) (H : Heap) : eval tbl noExt n_cell_witness [.agg [iv c.point, uv c.kept, iv c.verdict, iv c.err]] H = some (.bool c.witOK, H) := by
 rw [eval_M rfl rfl t_cell_witness rfl]
 unfold Ce.witOK
 by_cases a1 : c.point < 0
 ·have a1' : ¬ 0 ≤ c.point := by omega
  simp [c_cell_witness, a1, a1']
 ·have a1' : 0 ≤ c.point := by omega
  by_cases a2 : 1000000 < c.point
  ·have a2' : ¬ c.point ≤ 1000000 := by omega
   simp [c_cell_witness, a1, a1', a2, a2']
  ·have a2' : c.point ≤ 1000000 := by omega
   by_cases a3 : 65536 ≤ c.kept
   ·have a3' : ¬ c.kept < 65536 := by omega
    simp [c_cell_witness, a1, a1', a2, a2', a3, a3']
   ·have a3' : c.kept < 65536 := by omega
    by_cases a4 : c.verdict = 1
    ·simp [c_cell_witness, a1, a1', a2, a2', a3, a3', a4]
    ·by_cases a5 : c.verdict = 2
     ·by_cases a6 : 0 < c.err
      ·by_cases a7 : c.err ≤ 15
       ·simp [c_cell_witness, a1, a1', a2, a2', a3, a3', a4, a5, a6, a7]
       ·simp [c_cell_witness, a1, a1', a2, a2', a3, a3', a4, a5, a6, a7]
      ·simp [c_cell_witness, a1, a1', a2, a2', a3, a3', a4, a5, a6]
     ·simp [c_cell_witness, a1, a1', a2, a2', a3, a3', a4, a5]
theorem CRight_eq (c : Ce) (H : Heap) : eval tbl noExt n_cell_Right [.agg c.cells] H = some (.bool c.right, H) := by
 have hw := fun K => witness_eq c K
 have hl := fun K => limit_eq c.limit K
 rw [eval_M rfl rfl t_cell_Right rfl]
 unfold Ce.right Ce.cells
 by_cases a1 : c.says = 1
 ·by_cases a2 : c.limit = 0
  ·simp [c_cell_Right, a1, a2, hw]
  ·simp [c_cell_Right, a1, a2]
 ·by_cases a2 : c.says = 2
  ·by_cases a3 : c.point = 0 ∧ c.kept = 0 ∧ c.verdict = 0 ∧ c.err = 0
   ·obtain ⟨b1, b2, b3, b4⟩ := a3
    simp [c_cell_Right, a2, hl, b1, b2, b3, b4, eqCells]
   ·have e : (decide (c.point = 0) && (decide (c.kept = 0) && (decide (c.verdict = 0) && decide (c.err = 0)))) = false := by
     simp only [Bool.and_eq_false_iff, decide_eq_false_iff_not]
     omega
    simp [c_cell_Right, a2, hl, eqCells, e]
  ·simp [c_cell_Right, a1, a2, eqCells]
theorem refCRight_eq (c : Ce) (H : Heap) : eval tbl noExt n_flotsamref30_Right [.agg c.cells] H = some (.bool c.right, H) := by
 rw [eval_M rfl rfl t_flotsamref30_Right rfl]
 unfold Ce.right Ce.cells Ce.witOK
 by_cases a0 : c.says = 0
 ·simp [c_flotsamref30_Right, a0, eqCells]
 ·by_cases a1 : c.says = 1
  ·by_cases a2 : c.limit = 0
   ·by_cases b1 : c.point < 0
    ·have b1' : ¬ 0 ≤ c.point := by omega
     simp [c_flotsamref30_Right, a1, a2, b1, b1']
    ·have b1' : 0 ≤ c.point := by omega
     by_cases b2 : 1000000 < c.point
     ·have b2' : ¬ c.point ≤ 1000000 := by omega
      simp [c_flotsamref30_Right, a1, a2, b1, b1', b2, b2']
     ·have b2' : c.point ≤ 1000000 := by omega
      by_cases b3 : 65536 ≤ c.kept
      ·have b3' : ¬ c.kept < 65536 := by omega
       simp [c_flotsamref30_Right, a1, a2, b1, b1', b2, b2', b3, b3']
      ·have b3' : c.kept < 65536 := by omega
       by_cases b4 : c.verdict = 1
       ·by_cases b5 : c.err = 0
        ·simp [c_flotsamref30_Right, a1, a2, b1, b1', b2, b2', b3, b3', b4, b5]
        ·simp [c_flotsamref30_Right, a1, a2, b1, b1', b2, b2', b3, b3', b4, b5]
       ·by_cases b5 : c.verdict = 2
        ·by_cases b6 : 1 ≤ c.err
         ·have b6' : 0 < c.err := by omega
          by_cases b7 : c.err ≤ 15
          ·simp [c_flotsamref30_Right, a1, a2, b1, b1', b2, b2', b3, b3', b4, b5, b6, b6', b7]
          ·simp [c_flotsamref30_Right, a1, a2, b1, b1', b2, b2', b3, b3', b4, b5, b6, b6', b7]
         ·have b6' : ¬ 0 < c.err := by omega
          simp [c_flotsamref30_Right, a1, a2, b1, b1', b2, b2', b3, b3', b4, b5, b6, b6']
        ·simp [c_flotsamref30_Right, a1, a2, b1, b1', b2, b2', b3, b3', b4, b5]
   ·simp [c_flotsamref30_Right, a1, a2]
  ·by_cases a2 : c.says = 2
   ·by_cases a3 : c.point = 0 ∧ c.kept = 0 ∧ c.verdict = 0 ∧ c.err = 0
    ·obtain ⟨b1, b2, b3, b4⟩ := a3
     by_cases d1 : c.limit = 10
     ·simp [c_flotsamref30_Right, a2, b1, b2, b3, b4, d1, eqCells]
     ·by_cases d2 : c.limit = 13
      ·simp [c_flotsamref30_Right, a2, b1, b2, b3, b4, d1, d2, eqCells]
      ·simp [c_flotsamref30_Right, a2, b1, b2, b3, b4, d1, d2, eqCells]
    ·have e : (decide (c.point = 0) && (decide (c.kept = 0) && (decide (c.verdict = 0) && decide (c.err = 0)))) = false := by
      simp only [Bool.and_eq_false_iff, decide_eq_false_iff_not]
      omega
     simp [c_flotsamref30_Right, a2, eqCells, e]
   ·simp [c_flotsamref30_Right, a0, a1, a2]
def sumStep (s : Int) (c : Ce) : Int := if c.says = 1 ∨ c.says = 2 ∧ s = 0 then c.says else s
def sumC (l : List Ce) : Int := l.foldl sumStep 0
theorem sumStep_range {s : Int} (c : Ce) (h : s = 0 ∨ s = 1 ∨ s = 2) : sumStep s c = 0 ∨ sumStep s c = 1 ∨ sumStep s c = 2 := by
 unfold sumStep
 split
 ·omega
 ·exact h
theorem sumC_range (l : List Ce) : sumC l = 0 ∨ sumC l = 1 ∨ sumC l = 2 := by
 unfold sumC
 have : ∀ (l : List Ce) (s : Int), (s = 0 ∨ s = 1 ∨ s = 2) → (l.foldl sumStep s = 0 ∨ l.foldl sumStep s = 1 ∨ l.foldl sumStep s = 2) := by
  intro l
  induction l with
  | nil => intro s h; exact h
  | cons c l ih => intro s h; exact ih _ (sumStep_range c h)
 exact this l 0 (.inl rfl)
theorem row_get (l : List Ce) (i : Nat) (c : Ce) (h : l[i]? = some c) : (l.map Ce.cells)[i]? = some c.cells := by rw [List.getElem?_map, h]; rfl
theorem IndexFunc_api_Cell_api_Cell_loop {α : Type} {f : Nat} {first cap : List V} (hp : f < yBase) (e : α → List (List V)) (l : List α) (hl : l.length ≤ 1000000) (p : α → Bool) (H : Heap) (call : CallF)
  (hf : ∀ a ∈ l, call f (first ++ [V.sl 6 (e a)] ++ cap) H = some (.bool (p a), H)) (Q : Option (V × Heap) → Prop) (k : List Item)
  (hret : ∀ φ' (i : Nat), l.any p = true → Fr.get φ' 4 = .int .i64 i → Q (retK k φ' H)) (hexit : ∀ φ', l.any p = false → Q (M call k φ' H)) :
  ∀ (j i : Nat) (φ : Fr), i + j = l.length → l.any p = (l.drop i).any p → Fr.get φ 0 = .sl 1 (l.map fun a => [V.sl 6 (e a)]) → Fr.get φ 1 = .fn (.func f) first cap → Fr.get φ 7 = .int .i64 l.length → Fr.get φ 8 = .int .i64 i →
   Q (M call (.code l_sI_Cell_api_Cell_0 :: .blk 0 :: k) φ H) := by
 intro j
 induction j with
 | zero =>
  intro i φ hj hs h0 h1 h7 h8
  have hi : ¬ ((i : Int) < l.length) := by omega
  rw [List.drop_of_length_le (by omega)] at hs
  rw [l_sI_Cell_api_Cell_0, M_loop, ← l_sI_Cell_api_Cell_0]
  simp [b_sI_Cell_api_Cell_0, h0, h1, h7, h8, hi]
  exact hexit _ (by rw [hs]; rfl)
 | succ j ih =>
  intro i φ hj hs h0 h1 h7 h8
  have hi : (i : Int) < l.length := by omega
  have hil : i < l.length := by omega
  obtain ⟨a, ha, hmem, hd⟩ : ∃ a, l[i]? = some a ∧ a ∈ l ∧ l.drop i = a :: l.drop (i + 1) := ⟨l[i], List.getElem?_eq_getElem hil, List.getElem_mem hil, List.drop_eq_getElem_cons hil⟩
  have hr : (l.map fun a => [V.sl 6 (e a)])[i]? = some [V.sl 6 (e a)] := by rw [List.getElem?_map, ha]; rfl
  have hgl : (l.map fun a => [V.sl 6 (e a)]).length = l.length := List.length_map ..
  have hw1 : IntKind.i64.wrap ((i : Int) + 1) = ((i + 1 : Nat) : Int) := by rw [w64 (by omega) (by omega)]; rfl
  have hcall := hf a hmem
  rw [hd, List.any_cons] at hs
  rw [l_sI_Cell_api_Cell_0, M_loop, ← l_sI_Cell_api_Cell_0]
  cases hb : p a with
  | true =>
   rw [hb, Bool.true_or] at hs
   rw [hb] at hcall
   simp at hcall
   simp [b_sI_Cell_api_Cell_0, h0, h1, h7, h8, hi, hgl, hr, hp, hcall]
   exact hret _ i hs (by simp)
  | false =>
   rw [hb, Bool.false_or] at hs
   rw [hb] at hcall
   simp at hcall
   simp [b_sI_Cell_api_Cell_0, h0, h1, h7, h8, hi, hgl, hr, hp, hcall, hw1]
   exact ih (i + 1) _ (by omega) hs (by simp [h0]) (by simp [h1]) (by simp [h7]) (by simp)
theorem ContainsFunc_api_Cell_api_Cell {α : Type} {f : Nat} {first cap : List V} (hp : f < yBase) (e : α → List (List V)) (l : List α) (hl : l.length ≤ 1000000) (p : α → Bool) (H : Heap)
  (hf : ∀ a ∈ l, eval tbl noExt f (first ++ [V.sl 6 (e a)] ++ cap) H = some (.bool (p a), H)) :
  eval tbl noExt n_sC_Cell_api_Cell [.sl 1 (l.map fun a => [V.sl 6 (e a)]), .fn (.func f) first cap] H = some (.bool (l.any p), H) := by
 obtain ⟨n, hn, hn2⟩ : ∃ n : Int, eval tbl noExt n_sI_Cell_api_Cell [.sl 1 (l.map fun a => [V.sl 6 (e a)]), .fn (.func f) first cap] H = some (.int .i64 n, H) ∧ decide (0 ≤ n) = l.any p := by
  rw [eval_M rfl rfl t_sI_Cell_api_Cell rfl]
  simp [c_sI_Cell_api_Cell]
  refine IndexFunc_api_Cell_api_Cell_loop hp e l hl p H _ hf (fun o => ∃ n : Int, o = some (.int .i64 n, H) ∧ decide (0 ≤ n) = l.any p) _ (fun φ' i h g => ?_) (fun φ' h => ?_) l.length 0 _ (by omega) (by simp) (by simp) (by simp) (by simp) (by simp)
  ·exact ⟨i, by simp [g], by rw [h]; simp⟩
  ·exact ⟨-1, by simp [r_sI_Cell_api_Cell_0], by rw [h]; simp⟩
 rw [eval_M rfl rfl t_sC_Cell_api_Cell rfl]
 simp [c_sC_Cell_api_Cell, hn, hn2]
theorem sum_loop (n : Nat) (H : Heap) (call : CallF) (Q : Option (V × Heap) → Prop) (k : List Item) (l : List Ce) (hl : l.length ≤ 100000) (X : Int)
  (hexit : ∀ φ' K', K'.take n = H → n ≤ K'.length → Fr.get φ' 3 = iv X → Q (M call k φ' K')) :
  ∀ (j i : Nat) (φ : Fr) (K : Heap) (s : Int), i + j = l.length → (l.drop i).foldl sumStep s = X → K.take n = H → n ≤ K.length → (s = 0 ∨ s = 1 ∨ s = 2) → Fr.get φ 3 = iv s → Fr.get φ 6 = .sl 6 (l.map Ce.cells) → Fr.get φ 7 = iv l.length → Fr.get φ 8 = iv i →
   Q (M call (.code l_cell_Sum_0 :: .blk 0 :: k) φ K) := by
 intro j
 induction j with
 | zero =>
  intro i φ K s hi hX hK hn hs h3 h6 h7 h8
  have hlt : ¬ (i : Int) < l.length := by omega
  rw [List.drop_eq_nil_of_le (by omega)] at hX
  rw [l_cell_Sum_0, M_loop]
  simp [b_cell_Sum_0, h3, h6, h7, h8, hlt]
  exact hexit _ _ hK hn (by rw [← hX]; simp [h3])
 | succ j ih =>
  intro i φ K s hi hX hK hn hs h3 h6 h7 h8
  have hlt : i < l.length := by omega
  obtain ⟨c, hc⟩ : ∃ c, c = l[i] := ⟨_, rfl⟩
  have hc' : l[i]? = some c := by rw [hc]; exact List.getElem?_eq_getElem hlt
  have hg : ∀ h : i < l.length, l[i] = c := fun h => hc.symm
  rw [List.drop_eq_getElem_cons hlt, ← hc, List.foldl_cons] at hX
  have hr := row_get l i c hc'
  have e1 : (i : Int) < l.length := by omega
  have e2 : IntKind.i64.wrap ((i : Int) + 1) = ((i + 1 : Nat) : Int) := by rw [w64] <;> omega
  have hcell : c.cells = [iv c.says, iv c.point, uv c.kept, iv c.verdict, iv c.err, iv c.limit] := rfl
  have hK2 : ∀ r, (K ++ r).take n = H := fun r => take_more hK hn r
  have hn2 : ∀ r : Heap, n ≤ (K ++ r).length := fun r => by simp; omega
  have hrange := sumStep_range c hs
  rw [l_cell_Sum_0, M_loop, ← l_cell_Sum_0]
  by_cases a2 : c.says = 2
  ·by_cases a3 : s = 1
   ·have hst : sumStep s c = s := by unfold sumStep; rw [if_neg (by omega)]
    rw [hst] at hX hrange
    simp [b_cell_Sum_0, h3, h6, h7, h8, hr, e1, e2, hg, hlt, hcell, a2, a3]
    refine ih (i + 1) _ _ s (by omega) hX (hK2 _) (hn2 _) hrange ?_ ?_ ?_ ?_ <;> simp [h3, h6, h7, a3]
   ·have hst : sumStep s c = 2 := by
     unfold sumStep
     by_cases h0 : s = 0
     ·rw [if_pos (by omega), a2]
     ·rw [if_neg (by omega)]; omega
    rw [hst] at hX
    simp [b_cell_Sum_0, h3, h6, h7, h8, hr, e1, e2, hg, hlt, hcell, a2, a3]
    refine ih (i + 1) _ _ 2 (by omega) hX (hK2 _) (hn2 _) (.inr (.inr rfl)) ?_ ?_ ?_ ?_ <;> simp [h6, h7]
  ·by_cases a1 : c.says = 1
   ·have hst : sumStep s c = 1 := by unfold sumStep; rw [if_pos (by omega), a1]
    rw [hst] at hX
    simp [b_cell_Sum_0, h3, h6, h7, h8, hr, e1, e2, hg, hlt, hcell, a1]
    refine ih (i + 1) _ _ 1 (by omega) hX (hK2 _) (hn2 _) (.inr (.inl rfl)) ?_ ?_ ?_ ?_ <;> simp [h6, h7]
   ·have hst : sumStep s c = s := by unfold sumStep; rw [if_neg (by omega)]
    rw [hst] at hX hrange
    simp [b_cell_Sum_0, h3, h6, h7, h8, hr, e1, e2, hg, hlt, hcell, a1, a2]
    refine ih (i + 1) _ _ s (by omega) hX (hK2 _) (hn2 _) hrange ?_ ?_ ?_ ?_ <;> simp [h3, h6, h7]
theorem Sum_eq (l : List Ce) (hl : l.length ≤ 100000) (H : Heap) : eval tbl noExt n_cell_Sum [.sl 6 (l.map Ce.cells)] H = some (iv (sumC l), H) := by
 rw [eval_M rfl rfl t_cell_Sum rfl]
 simp [c_cell_Sum]
 refine sum_loop H.length H _ (fun r => r = some (iv (sumC l), H)) _ l hl (sumC l) ?_ l.length 0 _ _ 0 (by omega) rfl (by simp) (Nat.le_refl _) (.inl rfl) ?_ ?_ ?_ ?_
 ·intro φ' K' hK hn h3
  simp [r_cell_Sum_0, h3, hK]
 all_goals simp
theorem refSum_loop (call : CallF) (K : Heap) (Q : Option (V × Heap) → Prop) (k : List Item) (l : List Ce) (hl : l.length ≤ 100000) (X : Int)
  (hexit : ∀ φ', Fr.get φ' 3 = iv X → Q (M call k φ' K)) :
  ∀ (j i : Nat) (φ : Fr) (s : Int), i + j = l.length → (l.drop i).foldl sumStep s = X → Fr.get φ 3 = iv s → Fr.get φ 0 = .sl 6 (l.map Ce.cells) → Fr.get φ 4 = iv i →
   Q (M call (.code l_flotsamref30_Sum_0 :: .blk 0 :: k) φ K) := by
 intro j
 induction j with
 | zero =>
  intro i φ s hi hX h3 h0 h4
  have hlt : ¬ (i : Int) < l.length := by omega
  rw [List.drop_eq_nil_of_le (by omega)] at hX
  rw [l_flotsamref30_Sum_0, M_loop]
  simp [b_flotsamref30_Sum_0, h3, h0, h4, hlt]
  exact hexit _ (by rw [← hX]; simp [h3])
 | succ j ih =>
  intro i φ s hi hX h3 h0 h4
  have hlt : i < l.length := by omega
  obtain ⟨c, hc⟩ : ∃ c, c = l[i] := ⟨_, rfl⟩
  have hc' : l[i]? = some c := by rw [hc]; exact List.getElem?_eq_getElem hlt
  have hg : ∀ h : i < l.length, l[i] = c := fun h => hc.symm
  rw [List.drop_eq_getElem_cons hlt, ← hc, List.foldl_cons] at hX
  have hr := row_get l i c hc'
  have e1 : (i : Int) < l.length := by omega
  have e2 : IntKind.i64.wrap ((i : Int) + 1) = ((i + 1 : Nat) : Int) := by rw [w64] <;> omega
  have hcell : c.cells = [iv c.says, iv c.point, uv c.kept, iv c.verdict, iv c.err, iv c.limit] := rfl
  rw [l_flotsamref30_Sum_0, M_loop, ← l_flotsamref30_Sum_0]
  by_cases a1 : c.says = 1
  ·have hst : sumStep s c = c.says := by unfold sumStep; rw [if_pos (by omega)]
   rw [hst] at hX
   simp [b_flotsamref30_Sum_0, h3, h0, h4, hr, e1, e2, hg, hlt, hcell, a1]
   refine ih (i + 1) _ c.says (by omega) hX ?_ ?_ ?_ <;> simp [h0, a1]
  ·by_cases a2 : c.says = 2
   ·by_cases a3 : s = 0
    ·have hst : sumStep s c = c.says := by unfold sumStep; rw [if_pos (by omega)]
     rw [hst] at hX
     simp [b_flotsamref30_Sum_0, h3, h0, h4, hr, e1, e2, hg, hlt, hcell, a2, a3]
     refine ih (i + 1) _ c.says (by omega) hX ?_ ?_ ?_ <;> simp [h0, a2]
    ·have hst : sumStep s c = s := by unfold sumStep; rw [if_neg (by omega)]
     rw [hst] at hX
     simp [b_flotsamref30_Sum_0, h3, h0, h4, hr, e1, e2, hg, hlt, hcell, a2, a3]
     refine ih (i + 1) _ s (by omega) hX ?_ ?_ ?_ <;> simp [h0, h3]
   ·have hst : sumStep s c = s := by unfold sumStep; rw [if_neg (by omega)]
    rw [hst] at hX
    simp [b_flotsamref30_Sum_0, h3, h0, h4, hr, e1, e2, hg, hlt, hcell, a1, a2]
    refine ih (i + 1) _ s (by omega) hX ?_ ?_ ?_ <;> simp [h0, h3]
theorem refSum_eq (l : List Ce) (hl : l.length ≤ 100000) (H : Heap) : eval tbl noExt n_flotsamref30_Sum [.sl 6 (l.map Ce.cells)] H = some (iv (sumC l), H) := by
 rw [eval_M rfl rfl t_flotsamref30_Sum rfl]
 simp [c_flotsamref30_Sum]
 refine refSum_loop _ H (fun r => r = some (iv (sumC l), H)) _ l hl (sumC l) ?_ l.length 0 _ 0 (by omega) rfl ?_ ?_ ?_
 ·intro φ' h3
  simp [r_flotsamref30_Sum_0, h3]
 all_goals simp
def rowV (l : List Ce) : List V := [.sl 6 (l.map Ce.cells)]
structure Mx where
 bad : Bool
 base : List Ce
 sites : List Si
 rows : List (List Ce)
def Mx.cells (m : Mx) : List V := [.bool m.bad, .sl 6 (m.base.map Ce.cells), .sl 11 (m.sites.map Si.cells), .sl 1 (m.rows.map rowV)]
structure Mx.few (m : Mx) : Prop where
 base : m.base.length ≤ 3001
 sites : m.sites.length ≤ 512
 rows : m.rows.length ≤ 512
 row : ∀ l ∈ m.rows, l.length ≤ 3001
theorem get_take {H K : Heap} {n i : Nat} {x : Option (List V)} (hK : K.take n = H) (hi : H[i]? = some x) : K[i]? = some x := by
 rw [← hK, List.getElem?_take] at hi
 split at hi
 ·exact hi
 ·cases hi
theorem count6_loop (n : Nat) (H : Heap) (call : CallF) (Q : Option (V × Heap) → Prop) (k : List Item) (l : List Ce) (hl : l.length ≤ 100000) {f : Nat} {first cap : List V} (hp : f < yBase) (p : Ce → Bool)
  (hf : ∀ c ∈ l, ∀ K : Heap, K.take n = H → n ≤ K.length → call f (first ++ [.agg c.cells] ++ cap) K = some (.bool (p c), K)) (X : Nat)
  (hexit : ∀ φ' K', K'.take n = H → n ≤ K'.length → Fr.get φ' 5 = iv X → Q (M call k φ' K')) :
  ∀ (j i : Nat) (φ : Fr) (K : Heap) (s : Nat), i + j = l.length → s ≤ i → s + (l.drop i).countP p = X → K.take n = H → n ≤ K.length → Fr.get φ 1 = .fn (.func f) first cap → Fr.get φ 5 = iv s → Fr.get φ 8 = .sl 6 (l.map Ce.cells) → Fr.get φ 9 = iv l.length → Fr.get φ 10 = iv i →
   Q (M call (.code l_score_count_api_Cell_0 :: .blk 0 :: k) φ K) := by
 intro j
 induction j with
 | zero =>
  intro i φ K s hi hs hX hK hn h1 h5 h8 h9 h10
  have hlt : ¬ (i : Int) < l.length := by omega
  rw [List.drop_eq_nil_of_le (by omega)] at hX
  rw [l_score_count_api_Cell_0, M_loop]
  simp [b_score_count_api_Cell_0, h1, h5, h8, h9, h10, hlt]
  exact hexit _ _ hK hn (by rw [← hX]; simp [h5])
 | succ j ih =>
  intro i φ K s hi hs hX hK hn h1 h5 h8 h9 h10
  have hlt : i < l.length := by omega
  obtain ⟨c, hc⟩ : ∃ c, c = l[i] := ⟨_, rfl⟩
  have hc' : l[i]? = some c := by rw [hc]; exact List.getElem?_eq_getElem hlt
  have hmem : c ∈ l := by rw [hc]; exact List.getElem_mem _
  have hg : ∀ h : i < l.length, l[i] = c := fun h => hc.symm
  rw [List.drop_eq_getElem_cons hlt, ← hc, List.countP_cons] at hX
  have hr := row_get l i c hc'
  have e1 : (i : Int) < l.length := by omega
  have e2 : IntKind.i64.wrap ((i : Int) + 1) = ((i + 1 : Nat) : Int) := by rw [w64] <;> omega
  have e3 : IntKind.i64.wrap ((s : Int) + 1) = ((s + 1 : Nat) : Int) := by rw [w64] <;> omega
  have hK2 : ∀ r, (K ++ r).take n = H := fun r => take_more hK hn r
  have hn2 : ∀ r : Heap, n ≤ (K ++ r).length := fun r => by simp; omega
  have hcl := Ce.len c
  have hcs := Ce.strip c
  have hct : c.cells.take 6 = c.cells := rfl
  have hcu := Ce.under c
  have hco : c.cells.all V.one = true := rfl
  have hset : ∀ a b d e f g : V, setMany [a, b, d, e, f, g] 0 c.cells = c.cells := fun _ _ _ _ _ _ => rfl
  have hcall := hf c hmem (K ++ [some c.cells]) (hK2 _) (hn2 _)
  simp at hcall
  rw [l_score_count_api_Cell_0, M_loop, ← l_score_count_api_Cell_0]
  cases hb : p c with
  | true =>
   rw [hb] at hcall
   simp only [hb, if_true] at hX
   simp [b_score_count_api_Cell_0, h1, h5, h8, h9, h10, hr, e1, e2, e3, hg, hlt, hcl, hcs, hct, hcu, hco, hset, hp, hcall]
   refine ih (i + 1) _ _ (s + 1) (by omega) (by omega) (by omega) (hK2 _) (hn2 _) ?_ ?_ ?_ ?_ ?_ <;> simp [h1, h8, h9]
  | false =>
   rw [hb] at hcall
   simp only [hb, Bool.false_eq_true, if_false] at hX
   simp [b_score_count_api_Cell_0, h1, h5, h8, h9, h10, hr, e1, e2, e3, hg, hlt, hcl, hcs, hct, hcu, hco, hset, hp, hcall]
   refine ih (i + 1) _ _ s (by omega) (by omega) (by omega) (hK2 _) (hn2 _) ?_ ?_ ?_ ?_ ?_ <;> simp [h1, h5, h8, h9]
theorem count6_eq (l : List Ce) (hl : l.length ≤ 100000) {f : Nat} {first cap : List V} (hp : f < yBase) (p : Ce → Bool) (H : Heap) (hf : ∀ c ∈ l, ∀ K : Heap, K.take H.length = H → H.length ≤ K.length → eval tbl noExt f (first ++ [.agg c.cells] ++ cap) K = some (.bool (p c), K)) :
  eval tbl noExt n_score_count_api_Cell [.sl 6 (l.map Ce.cells), .fn (.func f) first cap] H = some (iv (l.countP p), H) := by
 rw [eval_M rfl rfl t_score_count_api_Cell rfl]
 simp [c_score_count_api_Cell]
 refine count6_loop H.length H _ (fun r => r = some (iv (l.countP p), H)) _ l hl hp p hf (l.countP p) ?_ l.length 0 _ _ 0 (by omega) (Nat.le_refl _) (by simp) (by simp) (Nat.le_refl _) ?_ ?_ ?_ ?_ ?_
 ·intro φ' K' hK hn h5
  simp [r_score_count_api_Cell_0, h5, hK]
 all_goals simp
def rowOK (n : Nat) (l : List Ce) : Bool := decide (l.length = n) && l.all Ce.right
def sitesOK : List Si → List Si → Bool
 | _, [] => true
 | done, s :: rest => s.name.2 && (!decide (s ∈ done) && sitesOK (done ++ [s]) rest)
def Mx.right (m : Mx) : Bool := decide (m.base.length ≤ 16) && (m.base.all Ce.right && (decide (m.bad = decide (sumC m.base = 1)) &&
 (if m.bad = true then decide (m.sites.length = 0) && decide (m.rows.length = 0) else decide (m.sites.length = m.rows.length) && (m.rows.all (rowOK m.base.length) && sitesOK [] m.sites))))
theorem countP_all (l : List Ce) : decide (l.countP Ce.right = l.length) = l.all Ce.right := by
 rw [Bool.eq_iff_iff, decide_eq_true_eq, List.all_eq_true]
 exact List.countP_eq_length
theorem odd1_eq (n : Nat) (l : List Ce) (hl : l.length ≤ 3001) (i : Nat) (K : Heap) (hi : K[i]? = some (some [iv n])) : eval tbl noExt n_score_odd_1 [.sl 6 (l.map Ce.cells), .ptr i 0] K = some (.bool (!rowOK n l), K) := by
 have hc := count6_eq l (by omega) (first := []) (cap := []) lt_cell_Right Ce.right [] (fun c _ K _ _ => CRight_eq c K)
 rw [eval_M rfl rfl t_score_odd_1 rfl]
 unfold rowOK
 by_cases h1 : l.length = n
 ·have h1' : (l.length : Int) = n := by omega
  have ha := countP_all l
  by_cases h2 : l.countP Ce.right = l.length
  ·rw [← ha]
   rw [h2, h1] at hc
   simp [c_score_odd_1, hi, h1, hc, h2]
  ·rw [← ha]
   have h2' : ¬ ((l.countP Ce.right : Nat) : Int) = n := by omega
   have h2'' : ¬ l.countP Ce.right = n := by omega
   simp [c_score_odd_1, hi, h1, hc, h2', h2'']
 ·have h1' : ¬ (l.length : Int) = n := by omega
  simp [c_score_odd_1, hi, h1, h1']
theorem odd_eq (n : Nat) (H : Heap) : eval tbl noExt n_score_odd [iv n] H = some (.fn (.func n_score_odd_1) [] [.ptr H.length 0], H ++ [some [iv n]]) := by
 rw [eval_M rfl rfl t_score_odd rfl]
 simp [c_score_odd]
theorem odd_own (k n : Nat) : callOwn (eval tbl noExt) n_score_odd [iv k] n = some (.fn (.func n_score_odd_1) [] [.ptr n 0], [some [iv k]]) := by
 unfold callOwn
 rw [odd_eq]
 simp
theorem siteIx_loop (K : Heap) (n : Nat) (s : Si) (hs : s.ok) (hn : K[n]? = some (some s.cells)) (l : List Si) (hl : l.length ≤ 100000) (hok : ∀ t ∈ l, t.ok) (call : CallF) (Q : Option (V × Heap) → Prop) (k : List Item)
  (hret : ∀ φ' (i : Nat), s ∈ l → Fr.get φ' 4 = iv i → Q (retK k φ' K)) (hexit : ∀ φ', s ∉ l → Q (M call k φ' K)) :
  ∀ (j i : Nat) (φ : Fr), i + j = l.length → (s ∈ l ↔ s ∈ l.drop i) → Fr.get φ 0 = .sl 11 (l.map Si.cells) → Fr.get φ 3 = .ptr n 0 → Fr.get φ 7 = iv l.length → Fr.get φ 8 = iv i → Q (M call (.code l_slices_Index_api_Site_api_Site_0 :: .blk 0 :: k) φ K) := by
 intro j
 induction j with
 | zero =>
  intro i φ hi hX h0 h3 h7 h8
  have hlt : ¬ (i : Int) < l.length := by omega
  rw [List.drop_eq_nil_of_le (by omega)] at hX
  rw [l_slices_Index_api_Site_api_Site_0, M_loop]
  simp [b_slices_Index_api_Site_api_Site_0, h0, h3, h7, h8, hlt]
  exact hexit _ (by rw [hX]; simp)
 | succ j ih =>
  intro i φ hi hX h0 h3 h7 h8
  have hlt : i < l.length := by omega
  obtain ⟨t, ht⟩ : ∃ t, t = l[i] := ⟨_, rfl⟩
  have hmem : t ∈ l := by rw [ht]; exact List.getElem_mem _
  have hg : ∀ h : i < l.length, l[i] = t := fun h => ht.symm
  rw [List.drop_eq_getElem_cons hlt, ← ht, List.mem_cons] at hX
  have e1 : (i : Int) < l.length := by omega
  have e2 : IntKind.i64.wrap ((i : Int) + 1) = ((i + 1 : Nat) : Int) := by rw [w64] <;> omega
  have okt := hok t hmem
  have heq := Si.eqc hs okt
  have q1 := Si.len hs
  have q2 := Si.len okt
  have q3 := Si.strip (s := s)
  have q4 := Si.strip (s := t)
  have q5 := Si.take hs
  have q6 := Si.take okt
  rw [l_slices_Index_api_Site_api_Site_0, M_loop, ← l_slices_Index_api_Site_api_Site_0]
  by_cases a1 : s = t
  ·have heq' : eqCells [.int .i64, .int .i64, .int .i64, .int .i64, .int .i64, .int .i64, .int .i64, .int .i64, .int .i64, .int .i64, .int .i64] s.cells t.cells = some true := by rw [heq]; simp [a1]
   simp [b_slices_Index_api_Site_api_Site_0, h0, h3, h7, h8, hn, hlt, hg, e1, e2, q1, q2, q3, q4, q5, q6, heq']
   exact hret _ i (by rw [a1]; exact hmem) (by simp)
  ·have heq' : eqCells [.int .i64, .int .i64, .int .i64, .int .i64, .int .i64, .int .i64, .int .i64, .int .i64, .int .i64, .int .i64, .int .i64] s.cells t.cells = some false := by rw [heq]; simp [a1]
   simp [b_slices_Index_api_Site_api_Site_0, h0, h3, h7, h8, hn, hlt, hg, e1, e2, q1, q2, q3, q4, q5, q6, heq']
   refine ih (i + 1) _ (by omega) (by rw [hX]; simp [a1]) ?_ ?_ ?_ ?_ <;> simp [h0, h3, h7]
theorem siteContains_eq (s : Si) (hs : s.ok) (l : List Si) (hl : l.length ≤ 100000) (hok : ∀ t ∈ l, t.ok) (H : Heap) : eval tbl noExt n_slices_Contains_api_Site_api_Site [.sl 11 (l.map Si.cells), .agg s.cells] H = some (.bool (decide (s ∈ l)), H) := by
 have q1 := Si.len hs
 have q3 := Si.strip (s := s)
 have q5 := Si.take hs
 have qu := fun n => Si.under (s := s) n
 obtain ⟨n, hn, hn2⟩ : ∃ n : Int, eval tbl noExt n_slices_Index_api_Site_api_Site [.sl 11 (l.map Si.cells), .agg s.cells] [] = some (iv n, []) ∧ decide (0 ≤ n) = decide (s ∈ l) := by
  rw [eval_M rfl rfl t_slices_Index_api_Site_api_Site rfl]
  simp [c_slices_Index_api_Site_api_Site]
  refine siteIx_loop _ 0 s hs (by rfl) l hl hok _ (fun r => ∃ n : Int, r = some (iv n, []) ∧ (0 ≤ n ↔ s ∈ l)) _ ?_ ?_ l.length 0 _ (by omega) (by simp) ?_ ?_ ?_ ?_
  ·intro φ' i hm h4
   exact ⟨i, by simp [h4], by simp [hm]⟩
  ·intro φ' hm
   exact ⟨-1, by simp [r_slices_Index_api_Site_api_Site_0], by simp [hm]⟩
  all_goals simp
 have hulist : V.underAll 0 [V.sl 11 (l.map Si.cells), .agg s.cells] = true := by simp [V.underAll, V.under, qu]
 have hni : (if 0 ≤ n then true else false) = decide (s ∈ l) := by rw [← hn2]; split <;> simp_all
 rw [eval_M rfl rfl t_slices_Contains_api_Site_api_Site rfl]
 simp [c_slices_Contains_api_Site_api_Site, hn, hn2, q1, q3, q5, qu]
end Go.AM.Spec
