/-
  How many parts a program has: the document's Size, and Small.
-/
import Derived.Test.YthboieenfnpeeaaTreeC
namespace Go.AM.Spec
set_option linter.unusedVariables false
set_option linter.unusedSimpArgs false
set_option maxHeartbeats 1000000

mutual
/-- Are all texts short? -/
def Ex.txt : Ex → Prop
  | .mk _ _ s x => s.length ≤ 300 ∧ Ex.txts x
def Ex.txts : List Ex → Prop
  | [] => True
  | e :: l => e.txt ∧ Ex.txts l
end
mutual
def Sm.txt : Sm → Prop
  | .mk _ s _ e b c _ => s.length ≤ 300 ∧ Ex.txts e ∧ Sm.txts b ∧ Sm.txts c
def Sm.txts : List Sm → Prop
  | [] => True
  | e :: l => e.txt ∧ Sm.txts l
end

theorem Ex.sizes_append (a b : List Ex) : Ex.sizes (a ++ b) = Ex.sizes a + Ex.sizes b := by
  induction a with
  | nil => simp [Ex.sizes]
  | cons e l ih => simp only [List.cons_append, Ex.sizes, ih]; omega
theorem Ex.txts_append {a b : List Ex} : Ex.txts (a ++ b) ↔ Ex.txts a ∧ Ex.txts b := by
  induction a with
  | nil => simp [Ex.txts]
  | cons e l ih => simp only [List.cons_append, Ex.txts, ih, and_assoc]
theorem Sm.txts_append {a b : List Sm} : Sm.txts (a ++ b) ↔ Sm.txts a ∧ Sm.txts b := by
  induction a with
  | nil => simp [Sm.txts]
  | cons e l ih => simp only [List.cons_append, Sm.txts, ih, and_assoc]

theorem take_next {α : Type} {l : List α} {i : Nat} {e : α} (h : l[i]? = some e) : l.take (i + 1) = l.take i ++ [e] := by
  rw [List.take_add_one, h]; rfl

def SzE (e : Ex) : Prop := ∀ left : Int, -1000 ≤ left → left ≤ 1000 → ∃ r : Int, eval tbl noExt n_flotsamref16_expr [.agg e.cells, .int .i64 left] [] = some (.int .i64 r, []) ∧ -1000 ≤ r ∧ r ≤ 1001 ∧ (r ≤ left → r = e.size ∧ e.txt)
def SzB (l : List Sm) : Prop := ∀ left : Int, -1000 ≤ left → left ≤ 1000 → ∃ r : Int, eval tbl noExt n_flotsamref16_block [.sl 7 (Sm.rows l), .int .i64 left] [] = some (.int .i64 r, []) ∧ -1000 ≤ r ∧ r ≤ 1001 ∧ (r ≤ left → r = Sm.sizes l ∧ Sm.txts l)

theorem wi {n : Int} (h1 : -100000 ≤ n) (h2 : n ≤ 100000) : IntKind.i64.wrap n = n := w64 (by omega) (by omega)

theorem expr_loop (a0 a1 a2 : V) (l : List Ex) (left : Int) (h1l : left ≤ 1000) (hf : ∀ e ∈ l, SzE e) (Q : Option (V × Heap) → Prop) (k : List Item)
    (hret : ∀ φ', Fr.get φ' 4 = .int .i64 (left + 1) → Q (retK k φ' [some [a0, a1, a2, .sl 4 (Ex.rows l)]]))
    (hexit : ∀ φ', Fr.get φ' 5 = .int .i64 (1 + Ex.sizes l) → 1 + (Ex.sizes l : Int) ≤ left → Ex.txts l → Q (M (eval tbl noExt) k φ' [some [a0, a1, a2, .sl 4 (Ex.rows l)]])) :
    ∀ (j i : Nat) (φ : Fr), i + j = l.length → 1 + (Ex.sizes (l.take i) : Int) ≤ left → Ex.txts (l.take i) → Fr.get φ 1 = .int .i64 left → Fr.get φ 2 = .ptr 0 0 → Fr.get φ 5 = .int .i64 (1 + Ex.sizes (l.take i)) → Fr.get φ 6 = .int .i64 i →
      Q (M (eval tbl noExt) (.code l_flotsamref16_expr_0 :: .blk 0 :: k) φ [some [a0, a1, a2, .sl 4 (Ex.rows l)]]) := by
  intro j
  induction j with
  | zero =>
    intro i φ hj hle ht h1 h2 h5 h6
    have hi : ¬ ((i : Int) < l.length) := by omega
    rw [List.take_of_length_le (by omega)] at hle ht h5
    rw [l_flotsamref16_expr_0, M_loop, ← l_flotsamref16_expr_0]
    simp [b_flotsamref16_expr_0, h1, h2, h5, h6, hi, Ex.rows_len]
    exact hexit _ (by simp [h5]) hle ht
  | succ j ih =>
    intro i φ hj hle ht h1 h2 h5 h6
    have hi : (i : Int) < l.length := by omega
    obtain ⟨e, he, hmem, hd⟩ := at_some (l := l) (i := i) (by omega)
    have hre := Ex.rows_at he
    have hi2 := Ex.sizes_ge (l.take i)
    rw [List.length_take, Nat.min_eq_left (by omega)] at hi2
    have hw : IntKind.i64.wrap ((i : Int) + 1) = ((i + 1 : Nat) : Int) := by rw [wi (by omega) (by omega)]; rfl
    obtain ⟨r, hr, hr0, hr1, hr2⟩ := hf e hmem (left - (1 + Ex.sizes (l.take i))) (by omega) (by omega)
    obtain ⟨c0, c1, c2, c3, hc⟩ := e.cells_shape
    rw [hc] at hr hre
    have hw1 : IntKind.i64.wrap (left - (1 + (Ex.sizes (l.take i) : Int))) = left - (1 + (Ex.sizes (l.take i) : Int)) := wi (by omega) (by omega)
    have hw2 : IntKind.i64.wrap (1 + (Ex.sizes (l.take i) : Int) + r) = 1 + (Ex.sizes (l.take i) : Int) + r := wi (by omega) (by omega)
    have hw3 : IntKind.i64.wrap (left + 1) = left + 1 := wi (by omega) (by omega)
    have hnext := take_next he
    rw [l_flotsamref16_expr_0, M_loop, ← l_flotsamref16_expr_0]
    by_cases hgt : left < 1 + (Ex.sizes (l.take i) : Int) + r
    · simp [b_flotsamref16_expr_0, h1, h2, h5, h6, hi, Ex.rows_len, hre, hw1, hr, hw2, hgt, hw3, lt_flotsamref16_expr]
      exact hret _ (by simp)
    · obtain ⟨hr3, hr4⟩ := hr2 (by omega)
      have hsz : 1 + (Ex.sizes (l.take i) : Int) + r = 1 + (Ex.sizes (l.take (i + 1)) : Int) := by
        rw [hnext, Ex.sizes_append]; simp only [Ex.sizes]; omega
      simp [b_flotsamref16_expr_0, h1, h2, h5, h6, hi, Ex.rows_len, hre, hw1, hr, hw2, hgt, hw, lt_flotsamref16_expr]
      refine ih (i + 1) _ (by omega) (by omega) (by rw [hnext, Ex.txts_append]; exact ⟨ht, hr4, trivial⟩) (by simp [h1]) (by simp [h2]) (by simp [hsz]) (by simp)

theorem expr_ok : ∀ (n : Nat) (e : Ex), e.size ≤ n → SzE e := by
  intro n
  induction n with
  | zero => intro e h; cases e; simp only [Ex.size] at h; omega
  | succ n ih =>
    intro e h left hl0 hl1
    obtain ⟨op, w, s, x⟩ := e
    simp only [Ex.size] at h
    have hw3 : IntKind.i64.wrap (left + 1) = left + 1 := wi (by omega) (by omega)
    rw [eval_M rfl rfl t_flotsamref16_expr rfl]
    by_cases h1 : left < 1
    · refine ⟨left + 1, ?_, by omega, by omega, fun h => by omega⟩
      simp [c_flotsamref16_expr, Ex.cells, h1, hw3]
    · by_cases h2 : 300 < s.length
      · have h2' : (300 : Int) < s.length := by omega
        refine ⟨left + 1, ?_, by omega, by omega, fun h => by omega⟩
        simp [c_flotsamref16_expr, Ex.cells, h1, h2', hw3]
      · have h2' : ¬ (300 : Int) < s.length := by omega
        simp [c_flotsamref16_expr, Ex.cells, h1, h2']
        refine expr_loop _ _ _ x left hl1 (fun e he => ih e (by have := Ex.sizes_mem he; omega)) (fun o => ∃ r : Int, o = some (.int .i64 r, []) ∧ -1000 ≤ r ∧ r ≤ 1001 ∧ (r ≤ left → r = (Ex.mk op w s x).size ∧ (Ex.mk op w s x).txt)) _ (fun φ' g => ?_) (fun φ' g hle ht => ?_) x.length 0 _ (by omega) (by simp [Ex.sizes]; omega) (by simp [Ex.txts]) (by simp) (by simp) (by simp [Ex.sizes]) (by simp)
        · exact ⟨left + 1, by simp [g], by omega, by omega, fun h => by omega⟩
        · refine ⟨1 + Ex.sizes x, by simp [r_flotsamref16_expr_0, g], by omega, by omega, fun h => ⟨by simp [Ex.size], ?_⟩⟩
          simp only [Ex.txt]
          exact ⟨by omega, ht⟩


/-- The expressions of a statement. -/
theorem block_inner (l : List Sm) (i0 : Nat) (op : Int) (s : List UInt8) (w : Int) (x : List Ex) (b c : List Sm) (g : Bool) (hi0 : (i0 : Int) < l.length) (hrow : (Sm.rows l)[i0]? = some (Sm.cells (.mk op s w x b c g))) (left n0 : Int) (hl0 : -1000 ≤ left) (h1l : left ≤ 1000) (hn0 : 0 ≤ n0) (Q : Option (V × Heap) → Prop) (k : List Item)
    (hret : ∀ φ', Fr.get φ' 4 = .int .i64 (left + 1) → Q (retK k φ' []))
    (hexit : ∀ φ', Fr.get φ' 0 = .sl 7 (Sm.rows l) → Fr.get φ' 1 = .int .i64 left → Fr.get φ' 6 = .int .i64 i0 → Fr.get φ' 5 = .int .i64 (n0 + Ex.sizes x) → n0 + (Ex.sizes x : Int) ≤ left → Ex.txts x → Q (M (eval tbl noExt) k φ' [])) :
    ∀ (j i : Nat) (φ : Fr), i + j = x.length → n0 + (Ex.sizes (x.take i) : Int) ≤ left → Ex.txts (x.take i) → Fr.get φ 0 = .sl 7 (Sm.rows l) → Fr.get φ 1 = .int .i64 left → Fr.get φ 6 = .int .i64 i0 → Fr.get φ 5 = .int .i64 (n0 + Ex.sizes (x.take i)) → Fr.get φ 7 = .int .i64 i →
      Q (M (eval tbl noExt) (.code l_flotsamref16_block_0 :: .blk 2 :: k) φ []) := by
  simp only [Sm.cells] at hrow
  intro j
  induction j with
  | zero =>
    intro i φ hj hle ht h0 h1 h6 h5 h7
    have hi : ¬ ((i : Int) < x.length) := by omega
    rw [List.take_of_length_le (by omega)] at hle ht h5
    rw [l_flotsamref16_block_0, M_loop, ← l_flotsamref16_block_0]
    simp [b_flotsamref16_block_0, h0, h1, h5, h6, h7, hi, hi0, hrow, Ex.rows_len, Sm.rows_len]
    exact hexit _ (by simp [h0]) (by simp [h1]) (by simp [h6]) (by simp [h5]) hle ht
  | succ j ih =>
    intro i φ hj hle ht h0 h1 h6 h5 h7
    have hi : (i : Int) < x.length := by omega
    obtain ⟨e, he, hmem, hd⟩ := at_some (l := x) (i := i) (by omega)
    have hre := Ex.rows_at he
    have hi2 := Ex.sizes_ge (x.take i)
    rw [List.length_take, Nat.min_eq_left (by omega)] at hi2
    have hw : IntKind.i64.wrap ((i : Int) + 1) = ((i + 1 : Nat) : Int) := by rw [wi (by omega) (by omega)]; rfl
    obtain ⟨r, hr, hr0, hr1, hr2⟩ := expr_ok e.size e (Nat.le_refl _) (left - (n0 + Ex.sizes (x.take i))) (by omega) (by omega)
    obtain ⟨c0, c1, c2, c3, hc⟩ := e.cells_shape
    rw [hc] at hr hre
    have hw1 : IntKind.i64.wrap (left - (n0 + (Ex.sizes (x.take i) : Int))) = left - (n0 + (Ex.sizes (x.take i) : Int)) := wi (by omega) (by omega)
    have hw2 : IntKind.i64.wrap (n0 + (Ex.sizes (x.take i) : Int) + r) = n0 + (Ex.sizes (x.take i) : Int) + r := wi (by omega) (by omega)
    have hw3 : IntKind.i64.wrap (left + 1) = left + 1 := wi (by omega) (by omega)
    have hnext := take_next he
    rw [l_flotsamref16_block_0, M_loop, ← l_flotsamref16_block_0]
    by_cases hgt : left < n0 + (Ex.sizes (x.take i) : Int) + r
    · simp [b_flotsamref16_block_0, h0, h1, h5, h6, h7, hi, hi0, hrow, Ex.rows_len, Sm.rows_len, hre, hw1, hr, hw2, hgt, hw3, lt_flotsamref16_expr]
      exact hret _ (by simp)
    · obtain ⟨hr3, hr4⟩ := hr2 (by omega)
      have hsz : n0 + (Ex.sizes (x.take i) : Int) + r = n0 + (Ex.sizes (x.take (i + 1)) : Int) := by
        rw [hnext, Ex.sizes_append]; simp only [Ex.sizes]; omega
      simp [b_flotsamref16_block_0, h0, h1, h5, h6, h7, hi, hi0, hrow, Ex.rows_len, Sm.rows_len, hre, hw1, hr, hw2, hgt, hw, lt_flotsamref16_expr]
      refine ih (i + 1) _ (by omega) (by omega) (by rw [hnext, Ex.txts_append]; exact ⟨ht, hr4, trivial⟩) (by simp [h0]) (by simp [h1]) (by simp [h6]) (by simp [hsz]) (by simp)

theorem block_loop (l : List Sm) (left : Int) (hl0 : -1000 ≤ left) (h1l : left ≤ 1000) (hf : ∀ e ∈ l, ∀ b ∈ e.blocks, SzB b) (Q : Option (V × Heap) → Prop) (k : List Item)
    (hret : ∀ φ', Fr.get φ' 4 = .int .i64 (left + 1) → Q (retK k φ' []))
    (hexit : ∀ φ', Fr.get φ' 5 = .int .i64 (Sm.sizes l) → (Sm.sizes l : Int) ≤ 1000 → Sm.txts l → Q (M (eval tbl noExt) k φ' [])) :
    ∀ (j i : Nat) (φ : Fr), i + j = l.length → (Sm.sizes (l.take i) : Int) ≤ 1000 → Sm.txts (l.take i) → Fr.get φ 0 = .sl 7 (Sm.rows l) → Fr.get φ 1 = .int .i64 left → Fr.get φ 5 = .int .i64 (Sm.sizes (l.take i)) → Fr.get φ 6 = .int .i64 i →
      Q (M (eval tbl noExt) (.code l_flotsamref16_block_1 :: .blk 0 :: k) φ []) := by
  intro j
  induction j with
  | zero =>
    intro i φ hj hle ht h0 h1 h5 h6
    have hi : ¬ ((i : Int) < l.length) := by omega
    rw [List.take_of_length_le (by omega)] at hle ht h5
    rw [l_flotsamref16_block_1, M_loop, ← l_flotsamref16_block_1]
    simp [b_flotsamref16_block_1, h0, h1, h5, h6, hi, Sm.rows_len]
    exact hexit _ (by simp [h5]) hle ht
  | succ j ih =>
    intro i φ hj hle ht h0 h1 h5 h6
    have hi : (i : Int) < l.length := by omega
    obtain ⟨e, he, hmem, hd⟩ := at_some (l := l) (i := i) (by omega)
    have hre := Sm.rows_at he
    have hi2 := Sm.sizes_ge (l.take i)
    rw [List.length_take, Nat.min_eq_left (by omega)] at hi2
    have hw : IntKind.i64.wrap ((i : Int) + 1) = ((i + 1 : Nat) : Int) := by rw [wi (by omega) (by omega)]; rfl
    have hfe := hf e hmem
    have hnext := take_next he
    obtain ⟨op, s, w, x, b, c, g⟩ := e
    have hre' := hre
    simp only [Sm.cells] at hre
    have hw1 : IntKind.i64.wrap ((Sm.sizes (l.take i) : Int) + 1) = (Sm.sizes (l.take i) : Int) + 1 := wi (by omega) (by omega)
    have hw3 : IntKind.i64.wrap (left + 1) = left + 1 := wi (by omega) (by omega)
    rw [l_flotsamref16_block_1, M_loop, ← l_flotsamref16_block_1]
    by_cases hgt : left < (Sm.sizes (l.take i) : Int) + 1
    · simp [b_flotsamref16_block_1, h0, h1, h5, h6, hi, Sm.rows_len, hre, hw1, hgt, hw3]
      exact hret _ (by simp)
    by_cases hs : 300 < s.length
    · have hs' : (300 : Int) < s.length := by omega
      simp [b_flotsamref16_block_1, h0, h1, h5, h6, hi, Sm.rows_len, hre, hw1, hgt, hw3, hs']
      exact hret _ (by simp)
    have hs' : ¬ (300 : Int) < s.length := by omega
    simp [b_flotsamref16_block_1, h0, h1, h5, h6, hi, Sm.rows_len, hre, hw1, hgt, hw3, hs']
    refine block_inner l i op s w x b c g hi hre' left ((Sm.sizes (l.take i) : Int) + 1) hl0 h1l (by omega) Q _ (fun φ' q => ?_) (fun φ' q0 q1 q6 q5 qle qt => ?_) x.length 0 _ (by omega) (by simp [Ex.sizes]; omega) (by simp [Ex.txts]) (by simp [h0]) (by simp [h1]) (by simp [h6]) (by simp [Ex.sizes]) (by simp)
    · simp
      exact hret _ q
    · obtain ⟨r, hr, hr0, hr1, hr2⟩ := hfe b (by simp [Sm.blocks]) (left - ((Sm.sizes (l.take i) : Int) + 1 + Ex.sizes x)) (by omega) (by omega)
      have hw4 : IntKind.i64.wrap (left - ((Sm.sizes (l.take i) : Int) + 1 + Ex.sizes x)) = left - ((Sm.sizes (l.take i) : Int) + 1 + Ex.sizes x) := wi (by omega) (by omega)
      have hw5 : IntKind.i64.wrap ((Sm.sizes (l.take i) : Int) + 1 + Ex.sizes x + r) = (Sm.sizes (l.take i) : Int) + 1 + Ex.sizes x + r := wi (by omega) (by omega)
      by_cases hgt2 : left < (Sm.sizes (l.take i) : Int) + 1 + Ex.sizes x + r
      · simp [r_flotsamref16_block_0, q0, q1, q5, q6, hi, Sm.rows_len, hre, hw4, hr, hw5, hgt2, hw3, lt_flotsamref16_block]
        exact hret _ (by simp)
      obtain ⟨hr3, hr4⟩ := hr2 (by omega)
      obtain ⟨t, ht1, ht0, ht2, ht3⟩ := hfe c (by simp [Sm.blocks]) (left - ((Sm.sizes (l.take i) : Int) + 1 + Ex.sizes x + r)) (by omega) (by omega)
      have hw6 : IntKind.i64.wrap (left - ((Sm.sizes (l.take i) : Int) + 1 + Ex.sizes x + r)) = left - ((Sm.sizes (l.take i) : Int) + 1 + Ex.sizes x + r) := wi (by omega) (by omega)
      have hw7 : IntKind.i64.wrap ((Sm.sizes (l.take i) : Int) + 1 + Ex.sizes x + r + t) = (Sm.sizes (l.take i) : Int) + 1 + Ex.sizes x + r + t := wi (by omega) (by omega)
      by_cases hgt3 : left < (Sm.sizes (l.take i) : Int) + 1 + Ex.sizes x + r + t
      · simp [r_flotsamref16_block_0, q0, q1, q5, q6, hi, Sm.rows_len, hre, hw4, hr, hw5, hgt2, hw3, lt_flotsamref16_block, hw6, ht1, hw7, hgt3]
        exact hret _ (by simp)
      obtain ⟨ht4, ht5⟩ := ht3 (by omega)
      have hsz : (Sm.sizes (l.take i) : Int) + 1 + Ex.sizes x + r + t = (Sm.sizes (l.take (i + 1)) : Int) := by
        rw [hnext, _root_.Go.AM.Spec.sizes_append]; simp only [Sm.sizes, Sm.size]; omega
      simp [r_flotsamref16_block_0, q0, q1, q5, q6, hi, Sm.rows_len, hre, hw4, hr, hw5, hgt2, hw3, lt_flotsamref16_block, hw6, ht1, hw7, hgt3, r_flotsamref16_block_1, hw]
      refine ih (i + 1) _ (by omega) (by omega) (by rw [hnext, Sm.txts_append]; exact ⟨ht, ⟨by omega, qt, hr4, ht5⟩, trivial⟩) (by simp [q0]) (by simp [q1]) (by simp [hsz]) (by simp)

theorem block_step (l : List Sm) (hf : ∀ e ∈ l, ∀ b ∈ e.blocks, SzB b) : SzB l := by
  intro left hl0 hl1
  rw [eval_M rfl rfl t_flotsamref16_block rfl]
  simp [c_flotsamref16_block]
  refine block_loop l left hl0 hl1 hf (fun o => ∃ r : Int, o = some (.int .i64 r, []) ∧ -1000 ≤ r ∧ r ≤ 1001 ∧ (r ≤ left → r = Sm.sizes l ∧ Sm.txts l)) _ (fun φ' g => ?_) (fun φ' g hle ht => ?_) l.length 0 _ (by omega) (by simp [Sm.sizes]) (by simp [Sm.txts]) (by simp) (by simp) (by simp [Sm.sizes]) (by simp)
  · exact ⟨left + 1, by simp [g], by omega, by omega, fun h => by omega⟩
  · exact ⟨Sm.sizes l, by simp [r_flotsamref16_block_2, g], by omega, by omega, fun h => ⟨rfl, ht⟩⟩

theorem block_ok : ∀ (n : Nat) (l : List Sm), Sm.sizes l ≤ n → SzB l := by
  intro n
  induction n with
  | zero =>
    intro l hl
    have h0 : l = [] := by
      have := Sm.sizes_ge l
      exact List.length_eq_zero_iff.1 (by omega)
    subst h0
    exact block_step [] (by simp)
  | succ n ih =>
    intro l hl
    refine block_step l fun e he b hb => ih b ?_
    have h1 := Sm.sizes_mem he
    obtain ⟨op, w, m, ee, b1, b2, g⟩ := e
    simp only [Sm.size] at h1
    simp only [Sm.blocks, List.mem_cons, List.not_mem_nil, or_false] at hb
    rcases hb with rfl | rfl <;> omega


def Pg.bodies (p : Pg) : List (List Sm) := p.procs.map (·.2)
def Pg.exprs (p : Pg) : List Ex := p.oracles.map (·.2)

theorem Pg.size_eq (p : Pg) : p.size = p.procs.length + p.oracles.length + Sm.sizes p.bodies.flatten + Sm.sizes p.main + Sm.sizes p.recover + Ex.sizes p.exprs := by
  have h : ∀ l : List (List UInt8 × List Sm), Sm.sizes (l.map (·.2)).flatten + l.length = (l.map fun x => 1 + Sm.sizes x.2).sum := by
    intro l
    induction l with
    | nil => rfl
    | cons x l ih => simp only [List.map_cons, List.flatten_cons, Go.AM.Spec.sizes_append, List.length_cons, List.sum_cons]; omega
  have h2 : ∀ l : List (List UInt8 × Ex), Ex.sizes (l.map (·.2)) + l.length = (l.map fun x => 1 + x.2.size).sum := by
    intro l
    induction l with
    | nil => rfl
    | cons x l ih => simp only [List.map_cons, Ex.sizes, List.length_cons, List.sum_cons]; omega
  have := h p.procs
  have := h2 p.oracles
  simp only [Pg.size, Pg.psize, Pg.osize, Pg.bodies, Pg.exprs]
  omega

/-- Are all its texts short? -/
def Pg.txt (p : Pg) : Prop := (∀ x ∈ p.procs, x.1.length ≤ 300 ∧ Sm.txts x.2) ∧ Sm.txts p.main ∧ Sm.txts p.recover ∧ (∀ x ∈ p.oracles, x.1.length ≤ 300 ∧ x.2.txt)

theorem Pg.orow {p : Pg} {i : Nat} {e : List UInt8 × Ex} (he : p.oracles[i]? = some e) : p.ocells[i]? = some (.str e.1 :: e.2.cells) := by rw [Pg.ocells, List.getElem?_map, he]; rfl

theorem Size_loop0 (p : Pg) (left : Int) (hl0 : 0 ≤ left) (h1l : left ≤ 1000) (hpl : (p.procs.length : Int) ≤ left) (hol : (p.oracles.length : Int) ≤ left) (Q : Option (V × Heap) → Prop) (k : List Item)
    (hret : ∀ φ', Fr.get φ' 4 = .int .i64 (left + 1) → Q (retK k φ' [some p.cells]))
    (hexit : ∀ φ' (n : Int), n = p.procs.length + p.oracles.length + Sm.sizes p.bodies.flatten → n ≤ left → (∀ x ∈ p.procs, x.1.length ≤ 300 ∧ Sm.txts x.2) → Fr.get φ' 1 = .int .i64 left → Fr.get φ' 2 = .ptr 0 0 → Fr.get φ' 5 = .int .i64 n → Q (M (eval tbl noExt) k φ' [some p.cells])) :
    ∀ (j i : Nat) (φ : Fr) (n : Int), i + j = p.procs.length → n = p.procs.length + p.oracles.length + Sm.sizes (p.bodies.take i).flatten → (n ≤ left ∨ i = 0) → (∀ x ∈ p.procs.take i, x.1.length ≤ 300 ∧ Sm.txts x.2) → Fr.get φ 1 = .int .i64 left → Fr.get φ 2 = .ptr 0 0 → Fr.get φ 5 = .int .i64 n → Fr.get φ 6 = .int .i64 i →
      Q (M (eval tbl noExt) (.code l_flotsamref16_Size_0 :: .blk 0 :: k) φ [some p.cells]) := by
  have hbl : p.bodies.length = p.procs.length := by simp [Pg.bodies]
  intro j
  induction j with
  | zero =>
    intro i φ n hj hn hle ht h1 h2 h5 h6
    have hi : ¬ ((i : Int) < p.procs.length) := by omega
    rw [List.take_of_length_le (by omega)] at hn
    rw [List.take_of_length_le (by omega)] at ht
    have hle' : n ≤ left := by
      rcases hle with h | h
      · exact h
      · have h0 : p.procs = [] := List.length_eq_zero_iff.1 (by omega)
        have h00 : p.bodies = [] := by rw [Pg.bodies, h0]; rfl
        rw [h0, h00] at hn
        simp only [List.length_nil, List.flatten_nil, Sm.sizes] at hn
        omega
    rw [l_flotsamref16_Size_0, M_loop, ← l_flotsamref16_Size_0]
    have hexit' := hexit
    simp only [Pg.cells] at hexit' ⊢
    simp [b_flotsamref16_Size_0, h1, h2, h5, h6, hi, Pg.pcells_len]
    exact hexit' _ n hn hle' ht (by simp [h1]) (by simp [h2]) (by simp [h5])
  | succ j ih =>
    intro i φ n hj hn hle ht h1 h2 h5 h6
    have hi : (i : Int) < p.procs.length := by omega
    obtain ⟨e, he, hmem, hd⟩ := at_some (l := p.procs) (i := i) (by omega)
    have hrow := p.prow he
    have hw : IntKind.i64.wrap ((i : Int) + 1) = ((i + 1 : Nat) : Int) := by rw [wi (by omega) (by omega)]; rfl
    have hb : p.bodies[i]? = some e.2 := by rw [Pg.bodies, List.getElem?_map, he]; rfl
    have hn0 : 0 ≤ n ∧ n ≤ 2000 := by
      rcases hle with h | h
      · omega
      · subst h
        simp only [List.take_zero, List.flatten_nil, Sm.sizes] at hn
        omega
    have hn1 : n - left ≤ 1000 := by
      rcases hle with h | h
      · omega
      · subst h
        simp only [List.take_zero, List.flatten_nil, Sm.sizes] at hn
        omega
    obtain ⟨r, hr, hr0, hr1, hr2⟩ := block_ok (Sm.sizes e.2) e.2 (Nat.le_refl _) (left - n) (by omega) (by omega)
    have hw1 : IntKind.i64.wrap (left - n) = left - n := wi (by omega) (by omega)
    have hw2 : IntKind.i64.wrap (n + r) = n + r := wi (by omega) (by omega)
    have hw3 : IntKind.i64.wrap (left + 1) = left + 1 := wi (by omega) (by omega)
    have hnext := take_next hb
    have hnext2 := take_next he
    rw [l_flotsamref16_Size_0, M_loop, ← l_flotsamref16_Size_0]
    have hret' := hret
    simp only [Pg.cells] at hret' ih ⊢
    by_cases hs : 300 < e.1.length
    · have hs' : (300 : Int) < e.1.length := by omega
      simp [b_flotsamref16_Size_0, h1, h2, h5, h6, hi, Pg.pcells_len, hrow, hw1, hr, hw2, hs', hw3, lt_flotsamref16_block]
      exact hret' _ (by simp)
    have hs' : ¬ (300 : Int) < e.1.length := by omega
    by_cases hgt : left < n + r
    · simp [b_flotsamref16_Size_0, h1, h2, h5, h6, hi, Pg.pcells_len, hrow, hw1, hr, hw2, hs', hw3, hgt, lt_flotsamref16_block]
      exact hret' _ (by simp)
    · obtain ⟨hr3, hr4⟩ := hr2 (by omega)
      simp [b_flotsamref16_Size_0, h1, h2, h5, h6, hi, Pg.pcells_len, hrow, hw1, hr, hw2, hs', hw, hgt, lt_flotsamref16_block]
      refine ih (i + 1) _ (n + r) (by omega) ?_ (Or.inl (by omega)) ?_ (by simp [h1]) (by simp [h2]) (by simp) (by simp)
      · rw [hnext, List.flatten_append, Go.AM.Spec.sizes_append]
        simp only [List.flatten_cons, List.flatten_nil, List.append_nil]
        omega
      · rw [hnext2]
        intro x hx
        rcases List.mem_append.1 hx with h | h
        · exact ht x h
        · rw [List.mem_singleton.1 h]
          exact ⟨by omega, hr4⟩

theorem Size_loop1 (p : Pg) (left N : Int) (hl0 : 0 ≤ left) (h1l : left ≤ 1000) (hol : (p.oracles.length : Int) ≤ left) (hN : 0 ≤ N) (Q : Option (V × Heap) → Prop) (k : List Item)
    (hret : ∀ φ', Fr.get φ' 4 = .int .i64 (left + 1) → Q (retK k φ' [some p.cells]))
    (hexit : ∀ φ' (n : Int), n ≤ 10000 → (n ≤ left → n = N + Ex.sizes p.exprs ∧ ∀ x ∈ p.oracles, x.1.length ≤ 300 ∧ x.2.txt) → Fr.get φ' 5 = .int .i64 n → Q (M (eval tbl noExt) k φ' [some p.cells])) :
    ∀ (j i : Nat) (φ : Fr) (n : Int), i + j = p.oracles.length → 0 ≤ n → n ≤ 10000 → (n ≤ left → n = N + Ex.sizes (p.exprs.take i) ∧ ∀ x ∈ p.oracles.take i, x.1.length ≤ 300 ∧ x.2.txt) → Fr.get φ 1 = .int .i64 left → Fr.get φ 2 = .ptr 0 0 → Fr.get φ 5 = .int .i64 n → Fr.get φ 7 = .int .i64 i →
      Q (M (eval tbl noExt) (.code l_flotsamref16_Size_1 :: .blk 2 :: k) φ [some p.cells]) := by
  have hbl : p.exprs.length = p.oracles.length := by simp [Pg.exprs]
  intro j
  induction j with
  | zero =>
    intro i φ n hj hn0 hn hle h1 h2 h5 h7
    have hi : ¬ ((i : Int) < p.oracles.length) := by omega
    rw [List.take_of_length_le (by omega), List.take_of_length_le (by omega)] at hle
    rw [l_flotsamref16_Size_1, M_loop, ← l_flotsamref16_Size_1]
    have hexit' := hexit
    simp only [Pg.cells] at hexit' ⊢
    simp [b_flotsamref16_Size_1, h1, h2, h5, h7, hi, Pg.ocells_len]
    exact hexit' _ n hn hle (by simp [h5])
  | succ j ih =>
    intro i φ n hj hn0 hn hle h1 h2 h5 h7
    have hi : (i : Int) < p.oracles.length := by omega
    have hexit' := hexit
    have hret' := hret
    simp only [Pg.cells] at hret' hexit' ih ⊢
    rw [l_flotsamref16_Size_1, M_loop, ← l_flotsamref16_Size_1]
    by_cases hgt : left < n
    · have hgt' : ¬ n ≤ left := by omega
      simp [b_flotsamref16_Size_1, h1, h2, h5, h7, hi, Pg.ocells_len, hgt']
      exact hexit' _ n hn (fun h => by omega) (by simp [h5])
    obtain ⟨hn1, hn2⟩ := hle (by omega)
    have hgt' : n ≤ left := by omega
    obtain ⟨e, he, hmem, hd⟩ := at_some (l := p.oracles) (i := i) (by omega)
    have hrow := p.orow he
    have hw : IntKind.i64.wrap ((i : Int) + 1) = ((i + 1 : Nat) : Int) := by rw [wi (by omega) (by omega)]; rfl
    have hb : p.exprs[i]? = some e.2 := by rw [Pg.exprs, List.getElem?_map, he]; rfl
    obtain ⟨r, hr, hr0, hr1, hr2⟩ := expr_ok e.2.size e.2 (Nat.le_refl _) (left - n) (by omega) (by omega)
    obtain ⟨c0, c1, c2, c3, hc⟩ := e.2.cells_shape
    rw [hc] at hr hrow
    have hw1 : IntKind.i64.wrap (left - n) = left - n := wi (by omega) (by omega)
    have hw2 : IntKind.i64.wrap (n + r) = n + r := wi (by omega) (by omega)
    have hw3 : IntKind.i64.wrap (left + 1) = left + 1 := wi (by omega) (by omega)
    have hnext := take_next hb
    have hnext2 := take_next he
    by_cases hs : 300 < e.1.length
    · have hs' : (300 : Int) < e.1.length := by omega
      simp [b_flotsamref16_Size_1, h1, h2, h5, h7, hi, Pg.ocells_len, hgt', hrow, hw1, hr, hw2, hs', hw3, lt_flotsamref16_expr]
      exact hret' _ (by simp)
    have hs' : ¬ (300 : Int) < e.1.length := by omega
    simp [b_flotsamref16_Size_1, h1, h2, h5, h7, hi, Pg.ocells_len, hgt', hrow, hw1, hr, hw2, hs', hw, lt_flotsamref16_expr]
    have hr5 : 0 ≤ r := by
      by_cases h : r ≤ left - n
      · have := (hr2 h).1; omega
      · omega
    refine ih (i + 1) _ (n + r) (by omega) (by omega) (by omega) (fun h => ?_) (by simp [h1]) (by simp [h2]) (by simp) (by simp)
    obtain ⟨hr3, hr4⟩ := hr2 (by omega)
    constructor
    · rw [hnext, Ex.sizes_append]
      simp only [Ex.sizes]
      omega
    · rw [hnext2]
      intro x hx
      rcases List.mem_append.1 hx with h | h
      · exact hn2 x h
      · rw [List.mem_singleton.1 h]
        exact ⟨by omega, hr4⟩

theorem Size_eq (p : Pg) (left : Int) (hl0 : 0 ≤ left) (h1l : left ≤ 1000) : ∃ r : Int, eval tbl noExt n_flotsamref16_Size [.agg p.cells, .int .i64 left] [] = some (.int .i64 r, []) ∧ (r ≤ left → (p.size : Int) ≤ left ∧ p.txt) := by
  have hw3 : IntKind.i64.wrap (left + 1) = left + 1 := wi (by omega) (by omega)
  have hmin : min left 1000 = left := by omega
  have hsz := p.size_eq
  rw [eval_M rfl rfl t_flotsamref16_Size rfl]
  by_cases hp : left < p.procs.length
  · refine ⟨left + 1, ?_, fun h => by omega⟩
    simp [c_flotsamref16_Size, Pg.cells, hmin, Pg.pcells_len, hp, hw3]
  by_cases ho : left < p.oracles.length
  · refine ⟨left + 1, ?_, fun h => by omega⟩
    simp [c_flotsamref16_Size, Pg.cells, hmin, Pg.pcells_len, Pg.ocells_len, hp, ho, hw3]
  have hw4 : IntKind.i64.wrap ((p.procs.length : Int) + p.oracles.length) = (p.procs.length : Int) + p.oracles.length := wi (by omega) (by omega)
  simp [c_flotsamref16_Size, Pg.cells, hmin, Pg.pcells_len, Pg.ocells_len, hp, ho, hw3, hw4]
  refine Size_loop0 p left hl0 h1l (by omega) (by omega) (fun o => ∃ r : Int, o = some (.int .i64 r, []) ∧ (r ≤ left → (p.size : Int) ≤ left ∧ p.txt)) _ (fun φ' g => ?_) (fun φ' n hn hle ht g1 g2 g5 => ?_) p.procs.length 0 _ ((p.procs.length : Int) + p.oracles.length) (by omega) (by simp [Sm.sizes]) (Or.inr rfl) (by simp) (by simp) (by simp) (by simp) (by simp)
  · exact ⟨left + 1, by simp [g], fun h => by omega⟩
  · have hn0 : 0 ≤ n := by omega
    obtain ⟨r, hr, hr0, hr1, hr2⟩ := block_ok (Sm.sizes p.main) p.main (Nat.le_refl _) (left - n) (by omega) (by omega)
    have hw5 : IntKind.i64.wrap (left - n) = left - n := wi (by omega) (by omega)
    have hw6 : IntKind.i64.wrap (n + r) = n + r := wi (by omega) (by omega)
    have hr5 : 0 ≤ r := by
      by_cases h : r ≤ left - n
      · have := (hr2 h).1; omega
      · omega
    have fin : ∀ (φ' : Fr) (m : Int), Fr.get φ' 5 = .int .i64 m → (m ≤ left → (p.size : Int) ≤ left ∧ p.txt) → ∃ r : Int, M (eval tbl noExt) [.code r_flotsamref16_Size_0, .fin [.t 4] 0] φ' [some p.cells] = some (.int .i64 r, []) ∧ (r ≤ left → (p.size : Int) ≤ left ∧ p.txt) := by
      intro φ' m h5 h
      exact ⟨m, by simp [r_flotsamref16_Size_0, h5], h⟩
    by_cases hgt : left < n + r
    · have hgt' : ¬ n + r ≤ left := by omega
      simp only [Pg.cells] at fin ⊢
      simp [r_flotsamref16_Size_1, g1, g2, g5, hw5, hr, hw6, hgt', lt_flotsamref16_block]
      refine Size_loop1 p left (left + 1) hl0 h1l (by omega) (by omega) (fun o => ∃ r : Int, o = some (.int .i64 r, []) ∧ (r ≤ left → (p.size : Int) ≤ left ∧ p.txt)) _ (fun φ' g => ?_) (fun φ' m hm0 hm hg5 => ?_) p.oracles.length 0 _ (n + r) (by omega) (by omega) (by omega) (fun h => by omega) (by simp [g1]) (by simp [g2]) (by simp) (by simp)
      · exact ⟨left + 1, by simp [g], fun h => by omega⟩
      · refine ⟨m, by simp [r_flotsamref16_Size_0, hg5], fun h => ?_⟩
        have := (hm h).1
        omega
    · have hgt' : n + r ≤ left := by omega
      obtain ⟨hr3, hr4⟩ := hr2 (by omega)
      obtain ⟨t, ht1, ht0, ht2, ht3⟩ := block_ok (Sm.sizes p.recover) p.recover (Nat.le_refl _) (left - (n + r)) (by omega) (by omega)
      have hw7 : IntKind.i64.wrap (left - (n + r)) = left - (n + r) := wi (by omega) (by omega)
      have hw8 : IntKind.i64.wrap (n + r + t) = n + r + t := wi (by omega) (by omega)
      have ht5 : 0 ≤ t := by
        by_cases h : t ≤ left - (n + r)
        · have := (ht3 h).1; omega
        · omega
      simp only [Pg.cells] at fin ⊢
      simp [r_flotsamref16_Size_1, g1, g2, g5, hw5, hr, hw6, hgt', lt_flotsamref16_block, hw7, ht1, hw8]
      refine Size_loop1 p left (if left < n + r + t then left + 1 else n + r + t) hl0 h1l (by omega) (by split <;> omega) (fun o => ∃ r : Int, o = some (.int .i64 r, []) ∧ (r ≤ left → (p.size : Int) ≤ left ∧ p.txt)) _ (fun φ' g => ?_) (fun φ' m hm0 hm hg5 => ?_) p.oracles.length 0 _ (n + r + t) (by omega) (by omega) (by omega) (fun h => by rw [if_neg (by omega)]; simp [Ex.sizes]) (by simp [g1]) (by simp [g2]) (by simp) (by simp)
      · exact ⟨left + 1, by simp [g], fun h => by omega⟩
      · refine ⟨m, by simp [r_flotsamref16_Size_0, hg5], fun h => ?_⟩
        obtain ⟨hm1, hm2⟩ := hm h
        by_cases hlt : left < n + r + t
        · rw [if_pos hlt] at hm1; omega
        · rw [if_neg hlt] at hm1
          obtain ⟨ht6, ht7⟩ := ht3 (by omega)
          exact ⟨by omega, ht, hr4, ht7, hm2⟩

theorem Small_eq (p : Pg) : ∃ b : Bool, eval tbl noExt n_flotsamlaw16_Small [.agg p.cells] [] = some (.bool b, []) ∧ (b = true → p.size ≤ 600 ∧ p.txt) := by
  obtain ⟨r, hr, h⟩ := Size_eq p 600 (by omega) (by omega)
  rw [eval_M rfl rfl t_flotsamlaw16_Small rfl]
  refine ⟨decide (r ≤ 600), ?_, fun hb => ?_⟩
  · simp only [Pg.cells] at hr ⊢
    simp [c_flotsamlaw16_Small, hr, lt_flotsamref16_Size]
  · obtain ⟨h1, h2⟩ := h (of_decide_eq_true hb)
    exact ⟨by omega, h2⟩

end Go.AM.Spec
