/-
  The parts of this proof that speak of the functions one by one.
-/
import Derived.Test.YtehbmajjoolcnaaGpA
import Derived.Test.YtehbmajjoolcnaaTyl
namespace Go.AM.Spec
set_option linter.unusedVariables false
set_option linter.unusedSimpArgs false
set_option maxHeartbeats 1000000
set_option maxRecDepth 10000
end Go.AM.Spec
namespace Go.AM.Spec
set_option linter.unusedVariables false
set_option linter.unusedSimpArgs false
set_option maxHeartbeats 1000000
set_option maxRecDepth 10000
end Go.AM.Spec
namespace Go.AM.Spec
set_option linter.unusedVariables false
set_option linter.unusedSimpArgs false
set_option maxHeartbeats 4000000
set_option maxRecDepth 10000
end Go.AM.Spec
namespace Go.AM.Spec
set_option linter.unusedVariables false
set_option linter.unusedSimpArgs false
set_option maxHeartbeats 1000000
def SzE (e : Ex) : Prop := ∀ left : Int, -1000 ≤ left → left ≤ 1000 → ∃ r : Int, eval tbl noExt n_r16_expr [.agg e.cells, .int .i64 left] [] = some (.int .i64 r, []) ∧ -1000 ≤ r ∧ r ≤ 1001 ∧ (r ≤ left → r = e.size ∧ e.txt)
def SzB (l : List Sm) : Prop := ∀ left : Int, -1000 ≤ left → left ≤ 1000 → ∃ r : Int, eval tbl noExt n_r16_block [.sl 7 (Sm.rows l), .int .i64 left] [] = some (.int .i64 r, []) ∧ -1000 ≤ r ∧ r ≤ 1001 ∧ (r ≤ left → r = Sm.sizes l ∧ Sm.txts l)
theorem wi {n : Int} (h1 : -100000 ≤ n) (h2 : n ≤ 100000) : IntKind.i64.wrap n = n := w64 (by omega) (by omega)
theorem expr_loop (a0 a1 a2 : V) (l : List Ex) (left : Int) (h1l : left ≤ 1000) (hf : ∀ e ∈ l, SzE e) (Q : Option (V × Heap) → Prop) (k : List Item)
    (hret : ∀ φ', Fr.get φ' 4 = .int .i64 (left + 1) → Q (retK k φ' [some [a0, a1, a2, .sl 4 (Ex.rows l)]]))
    (hexit : ∀ φ', Fr.get φ' 5 = .int .i64 (1 + Ex.sizes l) → 1 + (Ex.sizes l : Int) ≤ left → Ex.txts l → Q (M (eval tbl noExt) k φ' [some [a0, a1, a2, .sl 4 (Ex.rows l)]])) :
    ∀ (j i : Nat) (φ : Fr), i + j = l.length → 1 + (Ex.sizes (l.take i) : Int) ≤ left → Ex.txts (l.take i) → Fr.get φ 1 = .int .i64 left → Fr.get φ 2 = .ptr 0 0 → Fr.get φ 5 = .int .i64 (1 + Ex.sizes (l.take i)) → Fr.get φ 6 = .int .i64 i →
      Q (M (eval tbl noExt) (.code l_r16_expr_0 :: .blk 0 :: k) φ [some [a0, a1, a2, .sl 4 (Ex.rows l)]]) := by
  intro j
  induction j with
  | zero =>
    intro i φ hj hle ht h1 h2 h5 h6
    have hi : ¬ ((i : Int) < l.length) := by omega
    rw [List.take_of_length_le (by omega)] at hle ht h5
    rw [l_r16_expr_0, M_loop, ← l_r16_expr_0]
    simp [b_r16_expr_0, h1, h2, h5, h6, hi, Ex.rows_len]
    exact hexit _ (by simp [h5]) hle ht
  | succ j ih =>
    intro i φ hj hle ht h1 h2 h5 h6
    have hi : (i : Int) < l.length := by omega
    obtain ⟨e, he, hmem, hd⟩ := at_some (l := l) (i := i) (by omega)
    have hre := Ex.rows_at he
    have hi2 := Ex.sizes_ge (l.take i)
    rw [List.length_take, Nat.min_eq_left (by omega)] at hi2
    have hw : IntKind.i64.wrap ((i : Int) + 1) = ((i + 1 : Nat) : Int) := by rw [wi (by omega) (by omega)]; rfl
    obtain ⟨r, hr, hr0, hr1, hr2⟩ := hf e hmem (left - (1 + Ex.sizes (l.take i))) (by omega) (by omega)
    obtain ⟨c0, c1, c2, c3, hc⟩ := e.cells_shape
    rw [hc] at hr hre
    have hw1 : IntKind.i64.wrap (left - (1 + (Ex.sizes (l.take i) : Int))) = left - (1 + (Ex.sizes (l.take i) : Int)) := wi (by omega) (by omega)
    have hw2 : IntKind.i64.wrap (1 + (Ex.sizes (l.take i) : Int) + r) = 1 + (Ex.sizes (l.take i) : Int) + r := wi (by omega) (by omega)
    have hw3 : IntKind.i64.wrap (left + 1) = left + 1 := wi (by omega) (by omega)
    have hnext := take_next he
    rw [l_r16_expr_0, M_loop, ← l_r16_expr_0]
    by_cases hgt : left < 1 + (Ex.sizes (l.take i) : Int) + r
    · simp [b_r16_expr_0, h1, h2, h5, h6, hi, Ex.rows_len, hre, hw1, hr, hw2, hgt, hw3]
      exact hret _ (by simp)
    · obtain ⟨hr3, hr4⟩ := hr2 (by omega)
      have hsz : 1 + (Ex.sizes (l.take i) : Int) + r = 1 + (Ex.sizes (l.take (i + 1)) : Int) := by
        rw [hnext, Ex.sizes_append]; simp only [Ex.sizes]; omega
      simp [b_r16_expr_0, h1, h2, h5, h6, hi, Ex.rows_len, hre, hw1, hr, hw2, hgt, hw]
      refine ih (i + 1) _ (by omega) (by omega) (by rw [hnext, Ex.txts_append]; exact ⟨ht, hr4, trivial⟩) (by simp [h1]) (by simp [h2]) (by simp [hsz]) (by simp)
theorem expr_ok : ∀ (n : Nat) (e : Ex), e.size ≤ n → SzE e := by
  intro n
  induction n with
  | zero => intro e h; cases e; simp only [Ex.size] at h; omega
  | succ n ih =>
    intro e h left hl0 hl1
    obtain ⟨op, w, s, x⟩ := e
    simp only [Ex.size] at h
    have hw3 : IntKind.i64.wrap (left + 1) = left + 1 := wi (by omega) (by omega)
    rw [eval_M rfl rfl t_r16_expr rfl]
    by_cases h1 : left < 1
    · refine ⟨left + 1, ?_, by omega, by omega, fun h => by omega⟩
      simp [c_r16_expr, Ex.cells, h1, hw3]
    · by_cases h2 : 300 < s.length
      · have h2' : (300 : Int) < s.length := by omega
        refine ⟨left + 1, ?_, by omega, by omega, fun h => by omega⟩
        simp [c_r16_expr, Ex.cells, h1, h2', hw3]
      · have h2' : ¬ (300 : Int) < s.length := by omega
        simp [c_r16_expr, Ex.cells, h1, h2']
        refine expr_loop _ _ _ x left hl1 (fun e he => ih e (by have := Ex.sizes_mem he; omega)) (fun o => ∃ r : Int, o = some (.int .i64 r, []) ∧ -1000 ≤ r ∧ r ≤ 1001 ∧ (r ≤ left → r = (Ex.mk op w s x).size ∧ (Ex.mk op w s x).txt)) _ (fun φ' g => ?_) (fun φ' g hle ht => ?_) x.length 0 _ (by omega) (by simp [Ex.sizes]; omega) (by simp [Ex.txts]) (by simp) (by simp) (by simp [Ex.sizes]) (by simp)
        · exact ⟨left + 1, by simp [g], by omega, by omega, fun h => by omega⟩
        · refine ⟨1 + Ex.sizes x, by simp [r_r16_expr_0, g], by omega, by omega, fun h => ⟨by simp [Ex.size], ?_⟩⟩
          simp only [Ex.txt]
          exact ⟨by omega, ht⟩
theorem block_inner (l : List Sm) (i0 : Nat) (op : Int) (s : List UInt8) (w : Int) (x : List Ex) (b c : List Sm) (g : Bool) (hi0 : (i0 : Int) < l.length) (hrow : (Sm.rows l)[i0]? = some (Sm.cells (.mk op s w x b c g))) (left n0 : Int) (hl0 : -1000 ≤ left) (h1l : left ≤ 1000) (hn0 : 0 ≤ n0) (Q : Option (V × Heap) → Prop) (k : List Item)
    (hret : ∀ φ', Fr.get φ' 4 = .int .i64 (left + 1) → Q (retK k φ' []))
    (hexit : ∀ φ', Fr.get φ' 0 = .sl 7 (Sm.rows l) → Fr.get φ' 1 = .int .i64 left → Fr.get φ' 6 = .int .i64 i0 → Fr.get φ' 5 = .int .i64 (n0 + Ex.sizes x) → n0 + (Ex.sizes x : Int) ≤ left → Ex.txts x → Q (M (eval tbl noExt) k φ' [])) :
    ∀ (j i : Nat) (φ : Fr), i + j = x.length → n0 + (Ex.sizes (x.take i) : Int) ≤ left → Ex.txts (x.take i) → Fr.get φ 0 = .sl 7 (Sm.rows l) → Fr.get φ 1 = .int .i64 left → Fr.get φ 6 = .int .i64 i0 → Fr.get φ 5 = .int .i64 (n0 + Ex.sizes (x.take i)) → Fr.get φ 7 = .int .i64 i →
      Q (M (eval tbl noExt) (.code l_r16_block_0 :: .blk 2 :: k) φ []) := by
  simp only [Sm.cells] at hrow
  intro j
  induction j with
  | zero =>
    intro i φ hj hle ht h0 h1 h6 h5 h7
    have hi : ¬ ((i : Int) < x.length) := by omega
    rw [List.take_of_length_le (by omega)] at hle ht h5
    rw [l_r16_block_0, M_loop, ← l_r16_block_0]
    simp [b_r16_block_0, h0, h1, h5, h6, h7, hi, hi0, hrow, Ex.rows_len, Sm.rows_len]
    exact hexit _ (by simp [h0]) (by simp [h1]) (by simp [h6]) (by simp [h5]) hle ht
  | succ j ih =>
    intro i φ hj hle ht h0 h1 h6 h5 h7
    have hi : (i : Int) < x.length := by omega
    obtain ⟨e, he, hmem, hd⟩ := at_some (l := x) (i := i) (by omega)
    have hre := Ex.rows_at he
    have hi2 := Ex.sizes_ge (x.take i)
    rw [List.length_take, Nat.min_eq_left (by omega)] at hi2
    have hw : IntKind.i64.wrap ((i : Int) + 1) = ((i + 1 : Nat) : Int) := by rw [wi (by omega) (by omega)]; rfl
    obtain ⟨r, hr, hr0, hr1, hr2⟩ := expr_ok e.size e (Nat.le_refl _) (left - (n0 + Ex.sizes (x.take i))) (by omega) (by omega)
    obtain ⟨c0, c1, c2, c3, hc⟩ := e.cells_shape
    rw [hc] at hr hre
    have hw1 : IntKind.i64.wrap (left - (n0 + (Ex.sizes (x.take i) : Int))) = left - (n0 + (Ex.sizes (x.take i) : Int)) := wi (by omega) (by omega)
    have hw2 : IntKind.i64.wrap (n0 + (Ex.sizes (x.take i) : Int) + r) = n0 + (Ex.sizes (x.take i) : Int) + r := wi (by omega) (by omega)
    have hw3 : IntKind.i64.wrap (left + 1) = left + 1 := wi (by omega) (by omega)
    have hnext := take_next he
    rw [l_r16_block_0, M_loop, ← l_r16_block_0]
    by_cases hgt : left < n0 + (Ex.sizes (x.take i) : Int) + r
    · simp [b_r16_block_0, h0, h1, h5, h6, h7, hi, hi0, hrow, Ex.rows_len, Sm.rows_len, hre, hw1, hr, hw2, hgt, hw3]
      exact hret _ (by simp)
    · obtain ⟨hr3, hr4⟩ := hr2 (by omega)
      have hsz : n0 + (Ex.sizes (x.take i) : Int) + r = n0 + (Ex.sizes (x.take (i + 1)) : Int) := by
        rw [hnext, Ex.sizes_append]; simp only [Ex.sizes]; omega
      simp [b_r16_block_0, h0, h1, h5, h6, h7, hi, hi0, hrow, Ex.rows_len, Sm.rows_len, hre, hw1, hr, hw2, hgt, hw]
      refine ih (i + 1) _ (by omega) (by omega) (by rw [hnext, Ex.txts_append]; exact ⟨ht, hr4, trivial⟩) (by simp [h0]) (by simp [h1]) (by simp [h6]) (by simp [hsz]) (by simp)
theorem sblock_loop (l : List Sm) (left : Int) (hl0 : -1000 ≤ left) (h1l : left ≤ 1000) (hf : ∀ e ∈ l, ∀ b ∈ e.blocks, SzB b) (Q : Option (V × Heap) → Prop) (k : List Item)
    (hret : ∀ φ', Fr.get φ' 4 = .int .i64 (left + 1) → Q (retK k φ' []))
    (hexit : ∀ φ', Fr.get φ' 5 = .int .i64 (Sm.sizes l) → (Sm.sizes l : Int) ≤ 1000 → Sm.txts l → Q (M (eval tbl noExt) k φ' [])) :
    ∀ (j i : Nat) (φ : Fr), i + j = l.length → (Sm.sizes (l.take i) : Int) ≤ 1000 → Sm.txts (l.take i) → Fr.get φ 0 = .sl 7 (Sm.rows l) → Fr.get φ 1 = .int .i64 left → Fr.get φ 5 = .int .i64 (Sm.sizes (l.take i)) → Fr.get φ 6 = .int .i64 i →
      Q (M (eval tbl noExt) (.code l_r16_block_1 :: .blk 0 :: k) φ []) := by
  intro j
  induction j with
  | zero =>
    intro i φ hj hle ht h0 h1 h5 h6
    have hi : ¬ ((i : Int) < l.length) := by omega
    rw [List.take_of_length_le (by omega)] at hle ht h5
    rw [l_r16_block_1, M_loop, ← l_r16_block_1]
    simp [b_r16_block_1, h0, h1, h5, h6, hi, Sm.rows_len]
    exact hexit _ (by simp [h5]) hle ht
  | succ j ih =>
    intro i φ hj hle ht h0 h1 h5 h6
    have hi : (i : Int) < l.length := by omega
    obtain ⟨e, he, hmem, hd⟩ := at_some (l := l) (i := i) (by omega)
    have hre := Sm.rows_at he
    have hi2 := Sm.sizes_ge (l.take i)
    rw [List.length_take, Nat.min_eq_left (by omega)] at hi2
    have hw : IntKind.i64.wrap ((i : Int) + 1) = ((i + 1 : Nat) : Int) := by rw [wi (by omega) (by omega)]; rfl
    have hfe := hf e hmem
    have hnext := take_next he
    obtain ⟨op, s, w, x, b, c, g⟩ := e
    have hre' := hre
    simp only [Sm.cells] at hre
    have hw1 : IntKind.i64.wrap ((Sm.sizes (l.take i) : Int) + 1) = (Sm.sizes (l.take i) : Int) + 1 := wi (by omega) (by omega)
    have hw3 : IntKind.i64.wrap (left + 1) = left + 1 := wi (by omega) (by omega)
    rw [l_r16_block_1, M_loop, ← l_r16_block_1]
    by_cases hgt : left < (Sm.sizes (l.take i) : Int) + 1
    · simp [b_r16_block_1, h0, h1, h5, h6, hi, Sm.rows_len, hre, hw1, hgt, hw3]
      exact hret _ (by simp)
    by_cases hs : 300 < s.length
    · have hs' : (300 : Int) < s.length := by omega
      simp [b_r16_block_1, h0, h1, h5, h6, hi, Sm.rows_len, hre, hw1, hgt, hw3, hs']
      exact hret _ (by simp)
    have hs' : ¬ (300 : Int) < s.length := by omega
    simp [b_r16_block_1, h0, h1, h5, h6, hi, Sm.rows_len, hre, hw1, hgt, hw3, hs']
    refine block_inner l i op s w x b c g hi hre' left ((Sm.sizes (l.take i) : Int) + 1) hl0 h1l (by omega) Q _ (fun φ' q => ?_) (fun φ' q0 q1 q6 q5 qle qt => ?_) x.length 0 _ (by omega) (by simp [Ex.sizes]; omega) (by simp [Ex.txts]) (by simp [h0]) (by simp [h1]) (by simp [h6]) (by simp [Ex.sizes]) (by simp)
    · simp
      exact hret _ q
    · obtain ⟨r, hr, hr0, hr1, hr2⟩ := hfe b (by simp [Sm.blocks]) (left - ((Sm.sizes (l.take i) : Int) + 1 + Ex.sizes x)) (by omega) (by omega)
      have hw4 : IntKind.i64.wrap (left - ((Sm.sizes (l.take i) : Int) + 1 + Ex.sizes x)) = left - ((Sm.sizes (l.take i) : Int) + 1 + Ex.sizes x) := wi (by omega) (by omega)
      have hw5 : IntKind.i64.wrap ((Sm.sizes (l.take i) : Int) + 1 + Ex.sizes x + r) = (Sm.sizes (l.take i) : Int) + 1 + Ex.sizes x + r := wi (by omega) (by omega)
      by_cases hgt2 : left < (Sm.sizes (l.take i) : Int) + 1 + Ex.sizes x + r
      · simp [r_r16_block_0, q0, q1, q5, q6, hi, Sm.rows_len, hre, hw4, hr, hw5, hgt2, hw3]
        exact hret _ (by simp)
      obtain ⟨hr3, hr4⟩ := hr2 (by omega)
      obtain ⟨t, ht1, ht0, ht2, ht3⟩ := hfe c (by simp [Sm.blocks]) (left - ((Sm.sizes (l.take i) : Int) + 1 + Ex.sizes x + r)) (by omega) (by omega)
      have hw6 : IntKind.i64.wrap (left - ((Sm.sizes (l.take i) : Int) + 1 + Ex.sizes x + r)) = left - ((Sm.sizes (l.take i) : Int) + 1 + Ex.sizes x + r) := wi (by omega) (by omega)
      have hw7 : IntKind.i64.wrap ((Sm.sizes (l.take i) : Int) + 1 + Ex.sizes x + r + t) = (Sm.sizes (l.take i) : Int) + 1 + Ex.sizes x + r + t := wi (by omega) (by omega)
      by_cases hgt3 : left < (Sm.sizes (l.take i) : Int) + 1 + Ex.sizes x + r + t
      · simp [r_r16_block_0, q0, q1, q5, q6, hi, Sm.rows_len, hre, hw4, hr, hw5, hgt2, hw3, hw6, ht1, hw7, hgt3]
        exact hret _ (by simp)
      obtain ⟨ht4, ht5⟩ := ht3 (by omega)
      have hsz : (Sm.sizes (l.take i) : Int) + 1 + Ex.sizes x + r + t = (Sm.sizes (l.take (i + 1)) : Int) := by
        rw [hnext, _root_.Go.AM.Spec.sizes_append]; simp only [Sm.sizes, Sm.size]; omega
      simp [r_r16_block_0, q0, q1, q5, q6, hi, Sm.rows_len, hre, hw4, hr, hw5, hgt2, hw3, hw6, ht1, hw7, hgt3, r_r16_block_1, hw]
      refine ih (i + 1) _ (by omega) (by omega) (by rw [hnext, Sm.txts_append]; exact ⟨ht, ⟨by omega, qt, hr4, ht5⟩, trivial⟩) (by simp [q0]) (by simp [q1]) (by simp [hsz]) (by simp)
theorem block_step (l : List Sm) (hf : ∀ e ∈ l, ∀ b ∈ e.blocks, SzB b) : SzB l := by
  intro left hl0 hl1
  rw [eval_M rfl rfl t_r16_block rfl]
  simp [c_r16_block]
  refine sblock_loop l left hl0 hl1 hf (fun o => ∃ r : Int, o = some (.int .i64 r, []) ∧ -1000 ≤ r ∧ r ≤ 1001 ∧ (r ≤ left → r = Sm.sizes l ∧ Sm.txts l)) _ (fun φ' g => ?_) (fun φ' g hle ht => ?_) l.length 0 _ (by omega) (by simp [Sm.sizes]) (by simp [Sm.txts]) (by simp) (by simp) (by simp [Sm.sizes]) (by simp)
  · exact ⟨left + 1, by simp [g], by omega, by omega, fun h => by omega⟩
  · exact ⟨Sm.sizes l, by simp [r_r16_block_2, g], by omega, by omega, fun h => ⟨rfl, ht⟩⟩
theorem block_ok : ∀ (n : Nat) (l : List Sm), Sm.sizes l ≤ n → SzB l := by
  intro n
  induction n with
  | zero =>
    intro l hl
    have h0 : l = [] := by
      have := Sm.sizes_ge l
      exact List.length_eq_zero_iff.1 (by omega)
    subst h0
    exact block_step [] (by simp)
  | succ n ih =>
    intro l hl
    refine block_step l fun e he b hb => ih b ?_
    have h1 := Sm.sizes_mem he
    obtain ⟨op, w, m, ee, b1, b2, g⟩ := e
    simp only [Sm.size] at h1
    simp only [Sm.blocks, List.mem_cons, List.not_mem_nil, or_false] at hb
    rcases hb with rfl | rfl <;> omega
theorem Size_loop0 (p : Pg) (left : Int) (hl0 : 0 ≤ left) (h1l : left ≤ 1000) (hpl : (p.procs.length : Int) ≤ left) (hol : (p.oracles.length : Int) ≤ left) (Q : Option (V × Heap) → Prop) (k : List Item)
    (hret : ∀ φ', Fr.get φ' 4 = .int .i64 (left + 1) → Q (retK k φ' [some p.cells]))
    (hexit : ∀ φ' (n : Int), n = p.procs.length + p.oracles.length + Sm.sizes p.bodies.flatten → n ≤ left → (∀ x ∈ p.procs, x.1.length ≤ 300 ∧ Sm.txts x.2) → Fr.get φ' 1 = .int .i64 left → Fr.get φ' 2 = .ptr 0 0 → Fr.get φ' 5 = .int .i64 n → Q (M (eval tbl noExt) k φ' [some p.cells])) :
    ∀ (j i : Nat) (φ : Fr) (n : Int), i + j = p.procs.length → n = p.procs.length + p.oracles.length + Sm.sizes (p.bodies.take i).flatten → (n ≤ left ∨ i = 0) → (∀ x ∈ p.procs.take i, x.1.length ≤ 300 ∧ Sm.txts x.2) → Fr.get φ 1 = .int .i64 left → Fr.get φ 2 = .ptr 0 0 → Fr.get φ 5 = .int .i64 n → Fr.get φ 6 = .int .i64 i →
      Q (M (eval tbl noExt) (.code l_r16_Size_0 :: .blk 0 :: k) φ [some p.cells]) := by
  have hbl : p.bodies.length = p.procs.length := by simp [Pg.bodies]
  intro j
  induction j with
  | zero =>
    intro i φ n hj hn hle ht h1 h2 h5 h6
    have hi : ¬ ((i : Int) < p.procs.length) := by omega
    rw [List.take_of_length_le (by omega)] at hn
    rw [List.take_of_length_le (by omega)] at ht
    have hle' : n ≤ left := by
      rcases hle with h | h
      · exact h
      · have h0 : p.procs = [] := List.length_eq_zero_iff.1 (by omega)
        have h00 : p.bodies = [] := by rw [Pg.bodies, h0]; rfl
        rw [h0, h00] at hn
        simp only [List.length_nil, List.flatten_nil, Sm.sizes] at hn
        omega
    rw [l_r16_Size_0, M_loop, ← l_r16_Size_0]
    have hexit' := hexit
    simp only [Pg.cells] at hexit' ⊢
    simp [b_r16_Size_0, h1, h2, h5, h6, hi, Pg.pcells_len]
    exact hexit' _ n hn hle' ht (by simp [h1]) (by simp [h2]) (by simp [h5])
  | succ j ih =>
    intro i φ n hj hn hle ht h1 h2 h5 h6
    have hi : (i : Int) < p.procs.length := by omega
    obtain ⟨e, he, hmem, hd⟩ := at_some (l := p.procs) (i := i) (by omega)
    have hrow := p.prow he
    have hw : IntKind.i64.wrap ((i : Int) + 1) = ((i + 1 : Nat) : Int) := by rw [wi (by omega) (by omega)]; rfl
    have hb : p.bodies[i]? = some e.2 := by rw [Pg.bodies, List.getElem?_map, he]; rfl
    have hn0 : 0 ≤ n ∧ n ≤ 2000 := by
      rcases hle with h | h
      · omega
      · subst h
        simp only [List.take_zero, List.flatten_nil, Sm.sizes] at hn
        omega
    have hn1 : n - left ≤ 1000 := by
      rcases hle with h | h
      · omega
      · subst h
        simp only [List.take_zero, List.flatten_nil, Sm.sizes] at hn
        omega
    obtain ⟨r, hr, hr0, hr1, hr2⟩ := block_ok (Sm.sizes e.2) e.2 (Nat.le_refl _) (left - n) (by omega) (by omega)
    have hw1 : IntKind.i64.wrap (left - n) = left - n := wi (by omega) (by omega)
    have hw2 : IntKind.i64.wrap (n + r) = n + r := wi (by omega) (by omega)
    have hw3 : IntKind.i64.wrap (left + 1) = left + 1 := wi (by omega) (by omega)
    have hnext := take_next hb
    have hnext2 := take_next he
    rw [l_r16_Size_0, M_loop, ← l_r16_Size_0]
    have hret' := hret
    simp only [Pg.cells] at hret' ih ⊢
    by_cases hs : 300 < e.1.length
    · have hs' : (300 : Int) < e.1.length := by omega
      simp [b_r16_Size_0, h1, h2, h5, h6, hi, Pg.pcells_len, hrow, hw1, hr, hw2, hs', hw3]
      exact hret' _ (by simp)
    have hs' : ¬ (300 : Int) < e.1.length := by omega
    by_cases hgt : left < n + r
    · simp [b_r16_Size_0, h1, h2, h5, h6, hi, Pg.pcells_len, hrow, hw1, hr, hw2, hs', hw3, hgt]
      exact hret' _ (by simp)
    · obtain ⟨hr3, hr4⟩ := hr2 (by omega)
      simp [b_r16_Size_0, h1, h2, h5, h6, hi, Pg.pcells_len, hrow, hw1, hr, hw2, hs', hw, hgt]
      refine ih (i + 1) _ (n + r) (by omega) ?_ (Or.inl (by omega)) ?_ (by simp [h1]) (by simp [h2]) (by simp) (by simp)
      · rw [hnext, List.flatten_append, Go.AM.Spec.sizes_append]
        simp only [List.flatten_cons, List.flatten_nil, List.append_nil]
        omega
      · rw [hnext2]
        intro x hx
        rcases List.mem_append.1 hx with h | h
        · exact ht x h
        · rw [List.mem_singleton.1 h]
          exact ⟨by omega, hr4⟩
theorem Size_loop1 (p : Pg) (left N : Int) (hl0 : 0 ≤ left) (h1l : left ≤ 1000) (hol : (p.oracles.length : Int) ≤ left) (hN : 0 ≤ N) (Q : Option (V × Heap) → Prop) (k : List Item)
    (hret : ∀ φ', Fr.get φ' 4 = .int .i64 (left + 1) → Q (retK k φ' [some p.cells]))
    (hexit : ∀ φ' (n : Int), n ≤ 10000 → (n ≤ left → n = N + Ex.sizes p.exprs ∧ ∀ x ∈ p.oracles, x.1.length ≤ 300 ∧ x.2.txt) → Fr.get φ' 5 = .int .i64 n → Q (M (eval tbl noExt) k φ' [some p.cells])) :
    ∀ (j i : Nat) (φ : Fr) (n : Int), i + j = p.oracles.length → 0 ≤ n → n ≤ 10000 → (n ≤ left → n = N + Ex.sizes (p.exprs.take i) ∧ ∀ x ∈ p.oracles.take i, x.1.length ≤ 300 ∧ x.2.txt) → Fr.get φ 1 = .int .i64 left → Fr.get φ 2 = .ptr 0 0 → Fr.get φ 5 = .int .i64 n → Fr.get φ 7 = .int .i64 i →
      Q (M (eval tbl noExt) (.code l_r16_Size_1 :: .blk 2 :: k) φ [some p.cells]) := by
  have hbl : p.exprs.length = p.oracles.length := by simp [Pg.exprs]
  intro j
  induction j with
  | zero =>
    intro i φ n hj hn0 hn hle h1 h2 h5 h7
    have hi : ¬ ((i : Int) < p.oracles.length) := by omega
    rw [List.take_of_length_le (by omega), List.take_of_length_le (by omega)] at hle
    rw [l_r16_Size_1, M_loop, ← l_r16_Size_1]
    have hexit' := hexit
    simp only [Pg.cells] at hexit' ⊢
    simp [b_r16_Size_1, h1, h2, h5, h7, hi, Pg.ocells_len]
    exact hexit' _ n hn hle (by simp [h5])
  | succ j ih =>
    intro i φ n hj hn0 hn hle h1 h2 h5 h7
    have hi : (i : Int) < p.oracles.length := by omega
    have hexit' := hexit
    have hret' := hret
    simp only [Pg.cells] at hret' hexit' ih ⊢
    rw [l_r16_Size_1, M_loop, ← l_r16_Size_1]
    by_cases hgt : left < n
    · have hgt' : ¬ n ≤ left := by omega
      simp [b_r16_Size_1, h1, h2, h5, h7, hi, Pg.ocells_len, hgt']
      exact hexit' _ n hn (fun h => by omega) (by simp [h5])
    obtain ⟨hn1, hn2⟩ := hle (by omega)
    have hgt' : n ≤ left := by omega
    obtain ⟨e, he, hmem, hd⟩ := at_some (l := p.oracles) (i := i) (by omega)
    have hrow := p.orow he
    have hw : IntKind.i64.wrap ((i : Int) + 1) = ((i + 1 : Nat) : Int) := by rw [wi (by omega) (by omega)]; rfl
    have hb : p.exprs[i]? = some e.2 := by rw [Pg.exprs, List.getElem?_map, he]; rfl
    obtain ⟨r, hr, hr0, hr1, hr2⟩ := expr_ok e.2.size e.2 (Nat.le_refl _) (left - n) (by omega) (by omega)
    obtain ⟨c0, c1, c2, c3, hc⟩ := e.2.cells_shape
    rw [hc] at hr hrow
    have hw1 : IntKind.i64.wrap (left - n) = left - n := wi (by omega) (by omega)
    have hw2 : IntKind.i64.wrap (n + r) = n + r := wi (by omega) (by omega)
    have hw3 : IntKind.i64.wrap (left + 1) = left + 1 := wi (by omega) (by omega)
    have hnext := take_next hb
    have hnext2 := take_next he
    by_cases hs : 300 < e.1.length
    · have hs' : (300 : Int) < e.1.length := by omega
      simp [b_r16_Size_1, h1, h2, h5, h7, hi, Pg.ocells_len, hgt', hrow, hw1, hr, hw2, hs', hw3]
      exact hret' _ (by simp)
    have hs' : ¬ (300 : Int) < e.1.length := by omega
    simp [b_r16_Size_1, h1, h2, h5, h7, hi, Pg.ocells_len, hgt', hrow, hw1, hr, hw2, hs', hw]
    have hr5 : 0 ≤ r := by
      by_cases h : r ≤ left - n
      · have := (hr2 h).1; omega
      · omega
    refine ih (i + 1) _ (n + r) (by omega) (by omega) (by omega) (fun h => ?_) (by simp [h1]) (by simp [h2]) (by simp) (by simp)
    obtain ⟨hr3, hr4⟩ := hr2 (by omega)
    constructor
    · rw [hnext, Ex.sizes_append]
      simp only [Ex.sizes]
      omega
    · rw [hnext2]
      intro x hx
      rcases List.mem_append.1 hx with h | h
      · exact hn2 x h
      · rw [List.mem_singleton.1 h]
        exact ⟨by omega, hr4⟩
theorem Size_eq (p : Pg) (left : Int) (hl0 : 0 ≤ left) (h1l : left ≤ 1000) : ∃ r : Int, eval tbl noExt n_r16_Size [.agg p.cells, .int .i64 left] [] = some (.int .i64 r, []) ∧ (r ≤ left → (p.size : Int) ≤ left ∧ p.txt) := by
  have hw3 : IntKind.i64.wrap (left + 1) = left + 1 := wi (by omega) (by omega)
  have hmin : min left 1000 = left := by omega
  have hsz := p.size_eq
  rw [eval_M rfl rfl t_r16_Size rfl]
  by_cases hp : left < p.procs.length
  · refine ⟨left + 1, ?_, fun h => by omega⟩
    simp [c_r16_Size, Pg.cells, hmin, Pg.pcells_len, hp, hw3]
  by_cases ho : left < p.oracles.length
  · refine ⟨left + 1, ?_, fun h => by omega⟩
    simp [c_r16_Size, Pg.cells, hmin, Pg.pcells_len, Pg.ocells_len, hp, ho, hw3]
  have hw4 : IntKind.i64.wrap ((p.procs.length : Int) + p.oracles.length) = (p.procs.length : Int) + p.oracles.length := wi (by omega) (by omega)
  simp [c_r16_Size, Pg.cells, hmin, Pg.pcells_len, Pg.ocells_len, hp, ho, hw3, hw4]
  refine Size_loop0 p left hl0 h1l (by omega) (by omega) (fun o => ∃ r : Int, o = some (.int .i64 r, []) ∧ (r ≤ left → (p.size : Int) ≤ left ∧ p.txt)) _ (fun φ' g => ?_) (fun φ' n hn hle ht g1 g2 g5 => ?_) p.procs.length 0 _ ((p.procs.length : Int) + p.oracles.length) (by omega) (by simp [Sm.sizes]) (Or.inr rfl) (by simp) (by simp) (by simp) (by simp) (by simp)
  · exact ⟨left + 1, by simp [g], fun h => by omega⟩
  · have hn0 : 0 ≤ n := by omega
    obtain ⟨r, hr, hr0, hr1, hr2⟩ := block_ok (Sm.sizes p.main) p.main (Nat.le_refl _) (left - n) (by omega) (by omega)
    have hw5 : IntKind.i64.wrap (left - n) = left - n := wi (by omega) (by omega)
    have hw6 : IntKind.i64.wrap (n + r) = n + r := wi (by omega) (by omega)
    have hr5 : 0 ≤ r := by
      by_cases h : r ≤ left - n
      · have := (hr2 h).1; omega
      · omega
    have fin : ∀ (φ' : Fr) (m : Int), Fr.get φ' 5 = .int .i64 m → (m ≤ left → (p.size : Int) ≤ left ∧ p.txt) → ∃ r : Int, M (eval tbl noExt) [.code r_r16_Size_0, .fin [.t 4] 0] φ' [some p.cells] = some (.int .i64 r, []) ∧ (r ≤ left → (p.size : Int) ≤ left ∧ p.txt) := by
      intro φ' m h5 h
      exact ⟨m, by simp [r_r16_Size_0, h5], h⟩
    by_cases hgt : left < n + r
    · have hgt' : ¬ n + r ≤ left := by omega
      simp only [Pg.cells] at fin ⊢
      simp [r_r16_Size_1, g1, g2, g5, hw5, hr, hw6, hgt']
      refine Size_loop1 p left (left + 1) hl0 h1l (by omega) (by omega) (fun o => ∃ r : Int, o = some (.int .i64 r, []) ∧ (r ≤ left → (p.size : Int) ≤ left ∧ p.txt)) _ (fun φ' g => ?_) (fun φ' m hm0 hm hg5 => ?_) p.oracles.length 0 _ (n + r) (by omega) (by omega) (by omega) (fun h => by omega) (by simp [g1]) (by simp [g2]) (by simp) (by simp)
      · exact ⟨left + 1, by simp [g], fun h => by omega⟩
      · refine ⟨m, by simp [r_r16_Size_0, hg5], fun h => ?_⟩
        have := (hm h).1
        omega
    · have hgt' : n + r ≤ left := by omega
      obtain ⟨hr3, hr4⟩ := hr2 (by omega)
      obtain ⟨t, ht1, ht0, ht2, ht3⟩ := block_ok (Sm.sizes p.recover) p.recover (Nat.le_refl _) (left - (n + r)) (by omega) (by omega)
      have hw7 : IntKind.i64.wrap (left - (n + r)) = left - (n + r) := wi (by omega) (by omega)
      have hw8 : IntKind.i64.wrap (n + r + t) = n + r + t := wi (by omega) (by omega)
      have ht5 : 0 ≤ t := by
        by_cases h : t ≤ left - (n + r)
        · have := (ht3 h).1; omega
        · omega
      simp only [Pg.cells] at fin ⊢
      simp [r_r16_Size_1, g1, g2, g5, hw5, hr, hw6, hgt', hw7, ht1, hw8]
      refine Size_loop1 p left (if left < n + r + t then left + 1 else n + r + t) hl0 h1l (by omega) (by split <;> omega) (fun o => ∃ r : Int, o = some (.int .i64 r, []) ∧ (r ≤ left → (p.size : Int) ≤ left ∧ p.txt)) _ (fun φ' g => ?_) (fun φ' m hm0 hm hg5 => ?_) p.oracles.length 0 _ (n + r + t) (by omega) (by omega) (by omega) (fun h => by rw [if_neg (by omega)]; simp [Ex.sizes]) (by simp [g1]) (by simp [g2]) (by simp) (by simp)
      · exact ⟨left + 1, by simp [g], fun h => by omega⟩
      · refine ⟨m, by simp [r_r16_Size_0, hg5], fun h => ?_⟩
        obtain ⟨hm1, hm2⟩ := hm h
        by_cases hlt : left < n + r + t
        · rw [if_pos hlt] at hm1; omega
        · rw [if_neg hlt] at hm1
          obtain ⟨ht6, ht7⟩ := ht3 (by omega)
          exact ⟨by omega, ht, hr4, ht7, hm2⟩
theorem Small_eq (p : Pg) : ∃ b : Bool, eval tbl noExt n_l16_Small [.agg p.cells] [] = some (.bool b, []) ∧ (b = true → p.size ≤ 600 ∧ p.txt) := by
  obtain ⟨r, hr, h⟩ := Size_eq p 600 (by omega) (by omega)
  rw [eval_M rfl rfl t_l16_Small rfl]
  refine ⟨decide (r ≤ 600), ?_, fun hb => ?_⟩
  · simp only [Pg.cells] at hr ⊢
    simp [c_l16_Small, hr]
  · obtain ⟨h1, h2⟩ := h (of_decide_eq_true hb)
    exact ⟨by omega, h2⟩
end Go.AM.Spec
namespace Go.AM.Spec
set_option linter.unusedVariables false
set_option linter.unusedSimpArgs false
mutual
def Ex.fit : Ex → Prop
  | .mk op n s x => Fit op ∧ Fit n ∧ Len s.length ∧ Len x.length ∧ Ex.fits x
def Ex.fits : List Ex → Prop
  | [] => True
  | e :: l => e.fit ∧ Ex.fits l
end
mutual
def Sm.fit : Sm → Prop
  | .mk op s n e b c _ => Fit op ∧ Len s.length ∧ Fit n ∧ (Len e.length ∧ Ex.fits e) ∧ (Len b.length ∧ Sm.fits b) ∧ (Len c.length ∧ Sm.fits c)
def Sm.fits : List Sm → Prop
  | [] => True
  | e :: l => e.fit ∧ Sm.fits l
end
structure Pg.fit (p : Pg) : Prop where
  pl : Len p.procs.length
  ps : ∀ x ∈ p.procs, Len x.1.length ∧ Len x.2.length ∧ Sm.fits x.2
  ml : Len p.main.length
  ms : Sm.fits p.main
  rl : Len p.recover.length
  rs : Sm.fits p.recover
  ol : Len p.oracles.length
  os : ∀ x ∈ p.oracles, Len x.1.length ∧ x.2.fit
section
variable {P : Program}
theorem ex_list {rows : List (List V)} (h : ∀ r ∈ rows, ∃ e : Ex, r = e.cells ∧ e.fit) : ∃ l : List Ex, rows = Ex.rows l ∧ Ex.fits l ∧ l.length = rows.length := by
  induction rows with
  | nil => exact ⟨[], rfl, trivial, rfl⟩
  | cons r rows ih =>
    obtain ⟨e, rfl, he⟩ := h r (by simp)
    obtain ⟨l, rfl, hl, hn⟩ := ih (fun r hr => h r (by simp [hr]))
    exact ⟨e :: l, rfl, ⟨he, hl⟩, by simp [hn]⟩
theorem sm_list {rows : List (List V)} (h : ∀ r ∈ rows, ∃ e : Sm, r = e.cells ∧ e.fit) : ∃ l : List Sm, rows = Sm.rows l ∧ Sm.fits l ∧ l.length = rows.length := by
  induction rows with
  | nil => exact ⟨[], rfl, trivial, rfl⟩
  | cons r rows ih =>
    obtain ⟨e, rfl, he⟩ := h r (by simp)
    obtain ⟨l, rfl, hl, hn⟩ := ih (fun r hr => h r (by simp [hr]))
    exact ⟨e :: l, rfl, ⟨he, hl⟩, by simp [hn]⟩
structure TreeTys (P : Program) (tG tPs tSs tOs tP tO tS tEs tE tI tN tB tT : TypeId) : Prop where
  g : ∃ fs, P.underlying tG = some (.struct fs) ∧ fs.toList.map (·.type) = [tPs, tSs, tSs, tOs]
  ps : P.underlying tPs = some (.slice tP)
  ss : P.underlying tSs = some (.slice tS)
  os : P.underlying tOs = some (.slice tO)
  es : P.underlying tEs = some (.slice tE)
  p : ∃ fs, P.underlying tP = some (.struct fs) ∧ fs.toList.map (·.type) = [tT, tSs]
  o : ∃ fs, P.underlying tO = some (.struct fs) ∧ fs.toList.map (·.type) = [tT, tE]
  s : ∃ fs, P.underlying tS = some (.struct fs) ∧ fs.toList.map (·.type) = [tI, tT, tN, tEs, tSs, tSs, tB]
  e : ∃ fs, P.underlying tE = some (.struct fs) ∧ fs.toList.map (·.type) = [tI, tN, tT, tEs]
  i : P.underlying tI = some (.int .i64)
  n : P.underlying tN = some (.int .i64)
  b : P.underlying tB = some .bool
  t : P.underlying tT = some .string
  cp : P.cellsOf tP = 2
  cs : P.cellsOf tS = 7
  co : P.cellsOf tO = 5
  ce : P.cellsOf tE = 4
variable {tG tPs tSs tOs tP tO tS tEs tE tI tN tB tT : TypeId} (T : TreeTys P tG tPs tSs tOs tP tO tS tEs tE tI tN tB tT)
include T
theorem ex_of {t : TypeId} {vs : List V} (h : Ty P t vs) : (t = tE → ∃ e : Ex, vs = e.cells ∧ e.fit) ∧ (t = tEs → ∃ l : List Ex, vs = [.sl 4 (Ex.rows l)] ∧ Len l.length ∧ Ex.fits l) := by
  induction h with
  | bool h b =>
    obtain ⟨fs, hu, _⟩ := T.e
    exact ⟨fun ht => (by subst ht; rw [hu] at h; cases h), fun ht => (by subst ht; rw [T.es] at h; cases h)⟩
  | int h n hw =>
    obtain ⟨fs, hu, _⟩ := T.e
    exact ⟨fun ht => (by subst ht; rw [hu] at h; cases h), fun ht => (by subst ht; rw [T.es] at h; cases h)⟩
  | str h s hs =>
    obtain ⟨fs, hu, _⟩ := T.e
    exact ⟨fun ht => (by subst ht; rw [hu] at h; cases h), fun ht => (by subst ht; rw [T.es] at h; cases h)⟩
  | sl h rows hl hr ih =>
    obtain ⟨fs, hu, _⟩ := T.e
    refine ⟨fun ht => (by subst ht; rw [hu] at h; cases h), fun ht => ?_⟩
    subst ht
    rw [T.es] at h
    cases h
    obtain ⟨l, rfl, hf, hn⟩ := ex_list (fun r hr => (ih r hr).1 rfl)
    exact ⟨l, by rw [T.ce], by rw [hn]; exact hl, hf⟩
  | @struct t' gs h parts hl hp ih =>
    obtain ⟨fs, hu, hfs⟩ := T.e
    refine ⟨fun ht => ?_, fun ht => (by subst ht; rw [T.es] at h; cases h)⟩
    subst ht
    obtain rfl : fs = gs := by
      have := hu.symm.trans h
      simpa using this
    have hL := TyL_of (by rw [hl, Array.length_toList]) (fun j f p h1 h2 => hp j f p (by rw [← Array.getElem?_toList]; exact h1) h2)
    rw [hfs] at hL
    obtain ⟨p0, p1, p2, p3, rfl, h0, h1, h2, h3⟩ := TyL_4 hL
    obtain ⟨op, rfl, w0⟩ := Ty_int_of h0 T.i
    obtain ⟨n, rfl, w1⟩ := Ty_int_of h1 T.n
    obtain ⟨s, rfl, w2⟩ := Ty_str_of h2 T.t
    have hf3 : ∃ f : Field, fs[3]? = some f ∧ f.type = tEs := by
      have : (fs.toList.map (·.type))[3]? = some tEs := by rw [hfs]; rfl
      rw [List.getElem?_map, Option.map_eq_some_iff] at this
      obtain ⟨f, hf, hf'⟩ := this
      exact ⟨f, by rw [← Array.getElem?_toList]; exact hf, hf'⟩
    obtain ⟨f, hf, hft⟩ := hf3
    obtain ⟨l, rfl, hll, hlf⟩ := (ih 3 f p3 hf rfl).2 hft
    exact ⟨.mk op n s l, rfl, w0, w1, w2, hll, hlf⟩
  | arr h parts hl hp ih =>
    obtain ⟨fs, hu, _⟩ := T.e
    exact ⟨fun ht => (by subst ht; rw [hu] at h; cases h), fun ht => (by subst ht; rw [T.es] at h; cases h)⟩
theorem sm_of {t : TypeId} {vs : List V} (h : Ty P t vs) : (t = tS → ∃ e : Sm, vs = e.cells ∧ e.fit) ∧ (t = tSs → ∃ l : List Sm, vs = [.sl 7 (Sm.rows l)] ∧ Len l.length ∧ Sm.fits l) := by
  induction h with
  | bool h b =>
    obtain ⟨fs, hu, _⟩ := T.s
    exact ⟨fun ht => (by subst ht; rw [hu] at h; cases h), fun ht => (by subst ht; rw [T.ss] at h; cases h)⟩
  | int h n hw =>
    obtain ⟨fs, hu, _⟩ := T.s
    exact ⟨fun ht => (by subst ht; rw [hu] at h; cases h), fun ht => (by subst ht; rw [T.ss] at h; cases h)⟩
  | str h s hs =>
    obtain ⟨fs, hu, _⟩ := T.s
    exact ⟨fun ht => (by subst ht; rw [hu] at h; cases h), fun ht => (by subst ht; rw [T.ss] at h; cases h)⟩
  | sl h rows hl hr ih =>
    obtain ⟨fs, hu, _⟩ := T.s
    refine ⟨fun ht => (by subst ht; rw [hu] at h; cases h), fun ht => ?_⟩
    subst ht
    rw [T.ss] at h
    cases h
    obtain ⟨l, rfl, hf, hn⟩ := sm_list (fun r hr => (ih r hr).1 rfl)
    exact ⟨l, by rw [T.cs], by rw [hn]; exact hl, hf⟩
  | @struct t' gs h parts hl hp ih =>
    obtain ⟨fs, hu, hfs⟩ := T.s
    refine ⟨fun ht => ?_, fun ht => (by subst ht; rw [T.ss] at h; cases h)⟩
    subst ht
    obtain rfl : fs = gs := by
      have := hu.symm.trans h
      simpa using this
    have hL := TyL_of (by rw [hl, Array.length_toList]) (fun j f p h1 h2 => hp j f p (by rw [← Array.getElem?_toList]; exact h1) h2)
    rw [hfs] at hL
    obtain ⟨p0, p1, p2, p3, p4, p5, p6, rfl, h0, h1, h2, h3, h4, h5, h6⟩ := TyL_7 hL
    obtain ⟨op, rfl, w0⟩ := Ty_int_of h0 T.i
    obtain ⟨s, rfl, w1⟩ := Ty_str_of h1 T.t
    obtain ⟨n, rfl, w2⟩ := Ty_int_of h2 T.n
    obtain ⟨e, rfl, w3⟩ := (ex_of T h3).2 rfl
    obtain ⟨k, rfl⟩ := Ty_bool_of h6 T.b
    have hf : ∀ i, fs.toList.map (·.type) = [tI, tT, tN, tEs, tSs, tSs, tB] → i = 4 ∨ i = 5 → ∃ f : Field, fs[i]? = some f ∧ f.type = tSs := by
      intro i hfs hi
      have : (fs.toList.map (·.type))[i]? = some tSs := by rw [hfs]; rcases hi with rfl | rfl <;> rfl
      rw [List.getElem?_map, Option.map_eq_some_iff] at this
      obtain ⟨f, hf, hf'⟩ := this
      exact ⟨f, by rw [← Array.getElem?_toList]; exact hf, hf'⟩
    obtain ⟨f4, hf4, ht4⟩ := hf 4 hfs (.inl rfl)
    obtain ⟨f5, hf5, ht5⟩ := hf 5 hfs (.inr rfl)
    obtain ⟨b, rfl, w4⟩ := (ih 4 f4 p4 hf4 rfl).2 ht4
    obtain ⟨c, rfl, w5⟩ := (ih 5 f5 p5 hf5 rfl).2 ht5
    exact ⟨.mk op s n e b c k, rfl, w0, w1, w2, w3, w4, w5⟩
  | arr h parts hl hp ih =>
    obtain ⟨fs, hu, _⟩ := T.s
    exact ⟨fun ht => (by subst ht; rw [hu] at h; cases h), fun ht => (by subst ht; rw [T.ss] at h; cases h)⟩
theorem pr_list {prows : List (List V)} (hpr : ∀ r ∈ prows, Ty P tP r) : ∃ ps : List (List UInt8 × List Sm), prows = ps.map (fun x => [.str x.1, .sl 7 (Sm.rows x.2)]) ∧ ∀ x ∈ ps, Len x.1.length ∧ Len x.2.length ∧ Sm.fits x.2 := by
    induction prows with
    | nil => exact ⟨[], rfl, by simp⟩
    | cons x l ih =>
      obtain ⟨ps, rfl, hps⟩ := ih (fun r hr => hpr r (by simp [hr]))
      obtain ⟨gs, gu, ggs⟩ := T.p
      have gi := Ty_inv (hpr x (by simp))
      rw [gu] at gi
      obtain ⟨parts, rfl, hL⟩ := gi
      rw [ggs] at hL
      obtain ⟨q0, q1, rfl, k0, k1⟩ := TyL_2 hL
      obtain ⟨s, rfl, w0⟩ := Ty_str_of k0 T.t
      obtain ⟨b, rfl, w1, w2⟩ := (sm_of T k1).2 rfl
      refine ⟨(s, b) :: ps, rfl, ?_⟩
      intro x hx
      rcases List.mem_cons.1 hx with rfl | hx
      · exact ⟨w0, w1, w2⟩
      · exact hps x hx
theorem or_list {orows : List (List V)} (hor : ∀ r ∈ orows, Ty P tO r) : ∃ os : List (List UInt8 × Ex), orows = os.map (fun x => .str x.1 :: x.2.cells) ∧ ∀ x ∈ os, Len x.1.length ∧ x.2.fit := by
    induction orows with
    | nil => exact ⟨[], rfl, by simp⟩
    | cons x l ih =>
      obtain ⟨os, rfl, hos⟩ := ih (fun r hr => hor r (by simp [hr]))
      obtain ⟨gs, gu, ggs⟩ := T.o
      have gi := Ty_inv (hor x (by simp))
      rw [gu] at gi
      obtain ⟨parts, rfl, hL⟩ := gi
      rw [ggs] at hL
      obtain ⟨q0, q1, rfl, k0, k1⟩ := TyL_2 hL
      obtain ⟨s, rfl, w0⟩ := Ty_str_of k0 T.t
      obtain ⟨e, rfl, w1⟩ := (ex_of T k1).1 rfl
      refine ⟨(s, e) :: os, by simp, ?_⟩
      intro x hx
      rcases List.mem_cons.1 hx with rfl | hx
      · exact ⟨w0, w1⟩
      · exact hos x hx
theorem pg_of {vs : List V} (h : Ty P tG vs) : ∃ p : Pg, vs = p.cells ∧ p.fit := by
  obtain ⟨fs, hu, hfs⟩ := T.g
  have hi := Ty_inv h
  rw [hu] at hi
  obtain ⟨parts, rfl, hL⟩ := hi
  rw [hfs] at hL
  obtain ⟨p0, p1, p2, p3, rfl, h0, h1, h2, h3⟩ := TyL_4 hL
  obtain ⟨m, rfl, m1, m2⟩ := (sm_of T h1).2 rfl
  obtain ⟨r, rfl, r1, r2⟩ := (sm_of T h2).2 rfl
  obtain ⟨prows, rfl, pl, hpr⟩ := Ty_sl_of h0 T.ps
  obtain ⟨orows, rfl, ol, hor⟩ := Ty_sl_of h3 T.os
  have hps := pr_list T hpr
  have hos := or_list T hor
  obtain ⟨ps, rfl, hps⟩ := hps
  obtain ⟨os, rfl, hos⟩ := hos
  refine ⟨⟨ps, m, r, os⟩, ?_, ⟨by simpa using pl, hps, m1, m2, r1, r2, by simpa using ol, hos⟩⟩
  rw [T.cp, T.co]
  simp [Pg.cells, Pg.pcells, Pg.ocells]
end
end Go.AM.Spec
