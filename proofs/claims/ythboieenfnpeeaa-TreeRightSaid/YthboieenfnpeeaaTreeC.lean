/-
  The document's answers for trees: Same, list, All, Count.
-/
import Derived.Test.YthboieenfnpeeaaTreeB
namespace Go.AM.Spec
set_option linter.unusedVariables false
set_option linter.unusedSimpArgs false
set_option maxHeartbeats 1000000

mutual
/-- Are two the same? -/
def Ex.same : Ex → Ex → Bool
  | .mk op n s x, .mk op' n' s' x' => op == op' && n == n' && s == s' && Ex.sames x x'
def Ex.sames : List Ex → List Ex → Bool
  | [], [] => true
  | a :: l, b :: m => a.same b && Ex.sames l m
  | _, _ => false
end

mutual
def Sm.same : Sm → Sm → Bool
  | .mk op s n e b c k, .mk op' s' n' e' b' c' k' => op == op' && s == s' && n == n' && k == k' && Ex.sames e e' && Sm.sames b b' && Sm.sames c c'
def Sm.sames : List Sm → List Sm → Bool
  | [], [] => true
  | a :: l, b :: m => a.same b && Sm.sames l m
  | _, _ => false
end

theorem Ex.sames_len {l m : List Ex} (h : l.length ≠ m.length) : Ex.sames l m = false := by
  induction l generalizing m with
  | nil => cases m with
    | nil => simp at h
    | cons => rfl
  | cons a l ih => cases m with
    | nil => rfl
    | cons b m => simp only [Ex.sames, ih (m := m) (fun e => h (by simp [e])), Bool.and_false]
theorem Sm.sames_len {l m : List Sm} (h : l.length ≠ m.length) : Sm.sames l m = false := by
  induction l generalizing m with
  | nil => cases m with
    | nil => simp at h
    | cons => rfl
  | cons a l ih => cases m with
    | nil => rfl
    | cons b m => simp only [Sm.sames, ih (m := m) (fun e => h (by simp [e])), Bool.and_false]

mutual
theorem Ex.same_rfl : ∀ e : Ex, e.same e = true
  | .mk op n s x => by simp [Ex.same, Ex.sames_rfl x]
theorem Ex.sames_rfl : ∀ l : List Ex, Ex.sames l l = true
  | [] => rfl
  | e :: l => by simp [Ex.sames, Ex.same_rfl e, Ex.sames_rfl l]
end
mutual
theorem Sm.same_rfl : ∀ e : Sm, e.same e = true
  | .mk op s n e b c k => by simp [Sm.same, Ex.sames_rfl e, Sm.sames_rfl b, Sm.sames_rfl c]
theorem Sm.sames_rfl : ∀ l : List Sm, Sm.sames l l = true
  | [] => rfl
  | e :: l => by simp [Sm.sames, Sm.same_rfl e, Sm.sames_rfl l]
end

mutual
theorem Ex.same_eq : ∀ a b : Ex, a.same b = true → a = b
  | .mk op n s x, .mk op' n' s' x', h => by
    simp only [Ex.same, Bool.and_eq_true, beq_iff_eq] at h
    obtain ⟨⟨⟨rfl, rfl⟩, rfl⟩, h⟩ := h
    rw [Ex.sames_eq x x' h]
theorem Ex.sames_eq : ∀ l m : List Ex, Ex.sames l m = true → l = m
  | [], [], _ => rfl
  | a :: l, b :: m, h => by
    simp only [Ex.sames, Bool.and_eq_true] at h
    rw [Ex.same_eq a b h.1, Ex.sames_eq l m h.2]
  | [], _ :: _, h => by simp [Ex.sames] at h
  | _ :: _, [], h => by simp [Ex.sames] at h
end
mutual
theorem Sm.same_eq : ∀ a b : Sm, a.same b = true → a = b
  | .mk op s n e b c k, .mk op' s' n' e' b' c' k', h => by
    simp only [Sm.same, Bool.and_eq_true, beq_iff_eq] at h
    obtain ⟨⟨⟨⟨⟨⟨rfl, rfl⟩, rfl⟩, rfl⟩, h1⟩, h2⟩, h3⟩ := h
    rw [Ex.sames_eq e e' h1, Sm.sames_eq b b' h2, Sm.sames_eq c c' h3]
theorem Sm.sames_eq : ∀ l m : List Sm, Sm.sames l m = true → l = m
  | [], [], _ => rfl
  | a :: l, b :: m, h => by
    simp only [Sm.sames, Bool.and_eq_true] at h
    rw [Sm.same_eq a b h.1, Sm.sames_eq l m h.2]
  | [], _ :: _, h => by simp [Sm.sames] at h
  | _ :: _, [], h => by simp [Sm.sames] at h
end

theorem Ex.rows_len (l : List Ex) : (Ex.rows l).length = l.length := by simp [Ex.rows_eq]
theorem Sm.rows_len (l : List Sm) : (Sm.rows l).length = l.length := by simp [Sm.rows_eq]
theorem Ex.rows_at {l : List Ex} {i : Nat} {e : Ex} (h : l[i]? = some e) : (Ex.rows l)[i]? = some e.cells := by rw [Ex.rows_eq, List.getElem?_map, h]; rfl
theorem Sm.rows_at {l : List Sm} {i : Nat} {e : Sm} (h : l[i]? = some e) : (Sm.rows l)[i]? = some e.cells := by rw [Sm.rows_eq, List.getElem?_map, h]; rfl
theorem Ex.cells_shape (e : Ex) : ∃ a b c d, e.cells = [.int .i64 a, .int .i64 b, .str c, .sl 4 d] := by cases e; exact ⟨_, _, _, _, rfl⟩
theorem Sm.cells_shape (e : Sm) : ∃ a b c d f g h, e.cells = [.int .i64 a, .str b, .int .i64 c, .sl 4 d, .sl 7 f, .sl 7 g, .bool h] := by cases e; exact ⟨_, _, _, _, _, _, _, rfl⟩

theorem at_some {α : Type} {l : List α} {i : Nat} (h : i < l.length) : ∃ e, l[i]? = some e ∧ e ∈ l ∧ l.drop i = e :: l.drop (i + 1) := by
  refine ⟨l[i], List.getElem?_eq_getElem h, List.getElem_mem h, ?_⟩
  rw [List.drop_eq_getElem_cons h]

/-- The loop over the parts of two expressions. -/
theorem SameExpr_loop (call : CallF) (a0 a1 a2 b0 b1 b2 : V) (l m : List Ex) (hl : l.length ≤ 1000) (hm : m.length = l.length)
    (hf : ∀ e ∈ l, ∀ f, call n_flotsamref16_SameExpr [.agg e.cells, .agg f.cells] [] = some (.bool (e.same f), [])) (R : Option (V × Heap)) (k : List Item)
    (hret : ∀ φ' , Fr.get φ' 4 = .bool false → Ex.sames l m = false → retK k φ' [some [a0, a1, a2, .sl 4 (Ex.rows l)], some [b0, b1, b2, .sl 4 (Ex.rows m)]] = R)
    (hexit : ∀ φ', Ex.sames l m = true → M call k φ' [some [a0, a1, a2, .sl 4 (Ex.rows l)], some [b0, b1, b2, .sl 4 (Ex.rows m)]] = R) :
    ∀ (j i : Nat) (φ : Fr), i + j = l.length → Fr.get φ 2 = .ptr 0 0 → Fr.get φ 3 = .ptr 1 0 → Fr.get φ 5 = .int .i64 i → Ex.sames l m = Ex.sames (l.drop i) (m.drop i) →
      M call (.code l_flotsamref16_SameExpr_0 :: .blk 0 :: k) φ [some [a0, a1, a2, .sl 4 (Ex.rows l)], some [b0, b1, b2, .sl 4 (Ex.rows m)]] = R := by
  intro j
  induction j with
  | zero =>
    intro i φ hj h2 h3 h5 hs
    have hi : ¬ ((i : Int) < l.length) := by omega
    rw [List.drop_of_length_le (by omega), List.drop_of_length_le (by omega)] at hs
    have h := fun φ' => hexit φ' (by rw [hs]; rfl)
    rw [l_flotsamref16_SameExpr_0, M_loop, ← l_flotsamref16_SameExpr_0]
    simp [b_flotsamref16_SameExpr_0, h2, h3, h5, hi, Ex.rows_len, h]
  | succ j ih =>
    intro i φ hj h2 h3 h5 hs
    have hi : (i : Int) < l.length := by omega
    have hi' : (i : Int) < m.length := by omega
    obtain ⟨e, he, hmem, hd⟩ := at_some (l := l) (i := i) (by omega)
    obtain ⟨f, hf', hmem', hd'⟩ := at_some (l := m) (i := i) (by omega)
    have hre := Ex.rows_at he
    have hrf := Ex.rows_at hf'
    have hw : IntKind.i64.wrap ((i : Int) + 1) = ((i + 1 : Nat) : Int) := by rw [w64 (by omega) (by omega)]; rfl
    have hcall := hf e hmem f
    rw [hd, hd', Ex.sames] at hs
    obtain ⟨c0, c1, c2, c3, hc⟩ := e.cells_shape
    obtain ⟨d0, d1, d2, d3, hd0⟩ := f.cells_shape
    rw [hc, hd0] at hcall
    rw [hc] at hre
    rw [hd0] at hrf
    rw [l_flotsamref16_SameExpr_0, M_loop, ← l_flotsamref16_SameExpr_0]
    cases hb : e.same f with
    | false =>
      rw [hb, Bool.false_and] at hs
      rw [hb] at hcall
      simp [b_flotsamref16_SameExpr_0, h2, h3, h5, hi, Ex.rows_len, hi', hre, hrf, hcall]
      exact hret _ (by simp) hs
    | true =>
      rw [hb, Bool.true_and] at hs
      rw [hb] at hcall
      simp [b_flotsamref16_SameExpr_0, h2, h3, h5, hi, Ex.rows_len, hi', hre, hrf, hcall, hw]
      exact ih (i + 1) _ (by omega) (by simp [h2]) (by simp [h3]) (by simp) hs

theorem SameExpr_eq : ∀ (n : Nat) (a b : Ex), a.size ≤ n → n ≤ 1000 → eval tbl noExt n_flotsamref16_SameExpr [.agg a.cells, .agg b.cells] [] = some (.bool (a.same b), []) := by
  intro n
  induction n with
  | zero => intro a b h; cases a; simp only [Ex.size] at h; omega
  | succ n ih =>
    intro a b h hn
    obtain ⟨op, w, s, x⟩ := a
    obtain ⟨op', w', s', x'⟩ := b
    simp only [Ex.size] at h
    have hx := Ex.sizes_ge x
    have hf : ∀ e ∈ x, ∀ f, eval tbl noExt n_flotsamref16_SameExpr [.agg e.cells, .agg f.cells] [] = some (.bool (e.same f), []) := fun e he f => ih e f (by have := Ex.sizes_mem he; omega) (by omega)
    rw [eval_M rfl rfl t_flotsamref16_SameExpr rfl]
    by_cases h1 : op = op'
    · by_cases h2 : w = w'
      · by_cases h3 : s = s'
        · by_cases h4 : x.length = x'.length
          · have h4' : (x.length : Int) = x'.length := by omega
            simp [c_flotsamref16_SameExpr, Ex.cells, h1, h2, h3, h4', Ex.rows_len]
            refine SameExpr_loop _ _ _ _ _ _ _ x x' (by omega) h4.symm hf _ _ (fun φ' g hs => ?_) (fun φ' hs => ?_) x.length 0 _ (by omega) (by simp) (by simp) (by simp) (by simp)
            · simp [g, Ex.same, hs]
            · simp [r_flotsamref16_SameExpr_0, Ex.same, hs]
          · have h4' : ¬ (x.length : Int) = x'.length := by omega
            simp [c_flotsamref16_SameExpr, Ex.cells, h1, h2, h3, h4', Ex.rows_len, Ex.same, Ex.sames_len h4]
        · simp [c_flotsamref16_SameExpr, Ex.cells, h1, h2, h3, Ex.same]
      · simp [c_flotsamref16_SameExpr, Ex.cells, h1, h2, Ex.same]
    · simp [c_flotsamref16_SameExpr, Ex.cells, h1, Ex.same]

theorem SameStmt_loop (call : CallF) (a0 a1 a2 a4 a5 a6 b0 b1 b2 b4 b5 b6 : V) (l m : List Ex) (hl : l.length ≤ 1000) (hm : m.length = l.length)
    (hf : ∀ e ∈ l, ∀ f, call n_flotsamref16_SameExpr [.agg e.cells, .agg f.cells] [] = some (.bool (e.same f), [])) (R : Option (V × Heap)) (k : List Item)
    (hret : ∀ φ' , Fr.get φ' 4 = .bool false → Ex.sames l m = false → retK k φ' [some [a0, a1, a2, .sl 4 (Ex.rows l), a4, a5, a6], some [b0, b1, b2, .sl 4 (Ex.rows m), b4, b5, b6]] = R)
    (hexit : ∀ φ', Fr.get φ' 2 = .ptr 0 0 → Fr.get φ' 3 = .ptr 1 0 → Ex.sames l m = true → M call k φ' [some [a0, a1, a2, .sl 4 (Ex.rows l), a4, a5, a6], some [b0, b1, b2, .sl 4 (Ex.rows m), b4, b5, b6]] = R) :
    ∀ (j i : Nat) (φ : Fr), i + j = l.length → Fr.get φ 2 = .ptr 0 0 → Fr.get φ 3 = .ptr 1 0 → Fr.get φ 5 = .int .i64 i → Ex.sames l m = Ex.sames (l.drop i) (m.drop i) →
      M call (.code l_flotsamref16_SameStmt_0 :: .blk 0 :: k) φ [some [a0, a1, a2, .sl 4 (Ex.rows l), a4, a5, a6], some [b0, b1, b2, .sl 4 (Ex.rows m), b4, b5, b6]] = R := by
  intro j
  induction j with
  | zero =>
    intro i φ hj h2 h3 h5 hs
    have hi : ¬ ((i : Int) < l.length) := by omega
    rw [List.drop_of_length_le (by omega), List.drop_of_length_le (by omega)] at hs
    rw [l_flotsamref16_SameStmt_0, M_loop, ← l_flotsamref16_SameStmt_0]
    simp [b_flotsamref16_SameStmt_0, h2, h3, h5, hi, Ex.rows_len]
    exact hexit _ (by simp [h2]) (by simp [h3]) (by rw [hs]; rfl)
  | succ j ih =>
    intro i φ hj h2 h3 h5 hs
    have hi : (i : Int) < l.length := by omega
    have hi' : (i : Int) < m.length := by omega
    obtain ⟨e, he, hmem, hd⟩ := at_some (l := l) (i := i) (by omega)
    obtain ⟨f, hf', hmem', hd'⟩ := at_some (l := m) (i := i) (by omega)
    have hre := Ex.rows_at he
    have hrf := Ex.rows_at hf'
    have hw : IntKind.i64.wrap ((i : Int) + 1) = ((i + 1 : Nat) : Int) := by rw [w64 (by omega) (by omega)]; rfl
    have hcall := hf e hmem f
    rw [hd, hd', Ex.sames] at hs
    obtain ⟨c0, c1, c2, c3, hc⟩ := e.cells_shape
    obtain ⟨d0, d1, d2, d3, hd0⟩ := f.cells_shape
    rw [hc, hd0] at hcall
    rw [hc] at hre
    rw [hd0] at hrf
    rw [l_flotsamref16_SameStmt_0, M_loop, ← l_flotsamref16_SameStmt_0]
    cases hb : e.same f with
    | false =>
      rw [hb, Bool.false_and] at hs
      rw [hb] at hcall
      simp [b_flotsamref16_SameStmt_0, h2, h3, h5, hi, Ex.rows_len, hi', hre, hrf, hcall]
      exact hret _ (by simp) hs
    | true =>
      rw [hb, Bool.true_and] at hs
      rw [hb] at hcall
      simp [b_flotsamref16_SameStmt_0, h2, h3, h5, hi, Ex.rows_len, hi', hre, hrf, hcall, hw]
      exact ih (i + 1) _ (by omega) (by simp [h2]) (by simp [h3]) (by simp) hs

theorem SameStmts_loop (call : CallF) (l m : List Sm) (hl : l.length ≤ 1000) (hm : m.length = l.length)
    (hf : ∀ e ∈ l, ∀ f, call n_flotsamref16_SameStmt [.agg e.cells, .agg f.cells] [] = some (.bool (e.same f), [])) (R : Option (V × Heap)) (k : List Item)
    (hret : ∀ φ' , Fr.get φ' 4 = .bool false → Sm.sames l m = false → retK k φ' [] = R)
    (hexit : ∀ φ', Sm.sames l m = true → M call k φ' [] = R) :
    ∀ (j i : Nat) (φ : Fr), i + j = l.length → Fr.get φ 0 = .sl 7 (Sm.rows l) → Fr.get φ 1 = .sl 7 (Sm.rows m) → Fr.get φ 5 = .int .i64 i → Sm.sames l m = Sm.sames (l.drop i) (m.drop i) →
      M call (.code l_flotsamref16_SameStmts_0 :: .blk 0 :: k) φ [] = R := by
  intro j
  induction j with
  | zero =>
    intro i φ hj h2 h3 h5 hs
    have hi : ¬ ((i : Int) < l.length) := by omega
    rw [List.drop_of_length_le (by omega), List.drop_of_length_le (by omega)] at hs
    rw [l_flotsamref16_SameStmts_0, M_loop, ← l_flotsamref16_SameStmts_0]
    simp [b_flotsamref16_SameStmts_0, h2, h3, h5, hi, Sm.rows_len]
    exact hexit _ (by rw [hs]; rfl)
  | succ j ih =>
    intro i φ hj h2 h3 h5 hs
    have hi : (i : Int) < l.length := by omega
    have hi' : (i : Int) < m.length := by omega
    obtain ⟨e, he, hmem, hd⟩ := at_some (l := l) (i := i) (by omega)
    obtain ⟨f, hf', hmem', hd'⟩ := at_some (l := m) (i := i) (by omega)
    have hre := Sm.rows_at he
    have hrf := Sm.rows_at hf'
    have hw : IntKind.i64.wrap ((i : Int) + 1) = ((i + 1 : Nat) : Int) := by rw [w64 (by omega) (by omega)]; rfl
    have hcall := hf e hmem f
    rw [hd, hd', Sm.sames] at hs
    obtain ⟨c0, c1, c2, c3, c4, c5, c6, hc⟩ := e.cells_shape
    obtain ⟨d0, d1, d2, d3, d4, d5, d6, hd0⟩ := f.cells_shape
    rw [hc, hd0] at hcall
    rw [hc] at hre
    rw [hd0] at hrf
    rw [l_flotsamref16_SameStmts_0, M_loop, ← l_flotsamref16_SameStmts_0]
    cases hb : e.same f with
    | false =>
      rw [hb, Bool.false_and] at hs
      rw [hb] at hcall
      simp [b_flotsamref16_SameStmts_0, h2, h3, h5, hi, Sm.rows_len, hi', hre, hrf, hcall]
      exact hret _ (by simp) hs
    | true =>
      rw [hb, Bool.true_and] at hs
      rw [hb] at hcall
      simp [b_flotsamref16_SameStmts_0, h2, h3, h5, hi, Sm.rows_len, hi', hre, hrf, hcall, hw]
      exact ih (i + 1) _ (by omega) (by simp [h2]) (by simp [h3]) (by simp) hs

theorem SameStmts_step (l m : List Sm) (hl : l.length ≤ 1000)
    (hf : ∀ e ∈ l, ∀ f, eval tbl noExt n_flotsamref16_SameStmt [.agg e.cells, .agg f.cells] [] = some (.bool (e.same f), [])) :
    eval tbl noExt n_flotsamref16_SameStmts [.sl 7 (Sm.rows l), .sl 7 (Sm.rows m)] [] = some (.bool (Sm.sames l m), []) := by
  rw [eval_M rfl rfl t_flotsamref16_SameStmts rfl]
  by_cases h4 : l.length = m.length
  · have h4' : (l.length : Int) = m.length := by omega
    simp [c_flotsamref16_SameStmts, h4', Sm.rows_len]
    refine SameStmts_loop _ l m (by omega) h4.symm hf _ _ (fun φ' g hs => ?_) (fun φ' hs => ?_) l.length 0 _ (by omega) (by simp) (by simp) (by simp) (by simp)
    · simp [g, hs]
    · simp [r_flotsamref16_SameStmts_0, hs]
  · have h4' : ¬ (l.length : Int) = m.length := by omega
    simp [c_flotsamref16_SameStmts, h4', Sm.rows_len, Sm.sames_len h4]

theorem SameStmt_eq : ∀ (n : Nat) (a b : Sm), a.size ≤ n → n ≤ 1000 → eval tbl noExt n_flotsamref16_SameStmt [.agg a.cells, .agg b.cells] [] = some (.bool (a.same b), []) := by
  intro n
  induction n with
  | zero => intro a b h; cases a; simp only [Sm.size] at h; omega
  | succ n ih =>
    intro a b h hn
    obtain ⟨op, s, w, x, y, z, g⟩ := a
    obtain ⟨op', s', w', x', y', z', g'⟩ := b
    simp only [Sm.size] at h
    have hx := Ex.sizes_ge x
    have hy := Sm.sizes_ge y
    have hz := Sm.sizes_ge z
    have hf : ∀ e ∈ x, ∀ f, eval tbl noExt n_flotsamref16_SameExpr [.agg e.cells, .agg f.cells] [] = some (.bool (e.same f), []) := fun e he f => SameExpr_eq 1000 e f (by have := Ex.sizes_mem he; omega) (by omega)
    have e1 := SameStmts_step y y' (by omega) (fun e he f => ih e f (by have := Sm.sizes_mem he; omega) (by omega))
    have e2 := SameStmts_step z z' (by omega) (fun e he f => ih e f (by have := Sm.sizes_mem he; omega) (by omega))
    rw [eval_M rfl rfl t_flotsamref16_SameStmt rfl]
    by_cases h1 : op = op'
    · by_cases h2 : s = s'
      · by_cases h3 : w = w'
        · by_cases h5 : g = g'
          · by_cases h4 : x.length = x'.length
            · have h4' : (x.length : Int) = x'.length := by omega
              simp [c_flotsamref16_SameStmt, Sm.cells, h1, h2, h3, h4', h5, Ex.rows_len]
              refine SameStmt_loop _ _ _ _ _ _ _ _ _ _ _ _ _ x x' (by omega) h4.symm hf _ _ (fun φ' q hs => ?_) (fun φ' q2 q3 hs => ?_) x.length 0 _ (by omega) (by simp) (by simp) (by simp) (by simp)
              · simp [q, Sm.same, hs]
              · cases hv : Sm.sames y y' <;> simp [r_flotsamref16_SameStmt_0, Sm.same, hs, q2, q3, e1, e2, hv]
            · have h4' : ¬ (x.length : Int) = x'.length := by omega
              simp [c_flotsamref16_SameStmt, Sm.cells, h1, h2, h3, h4', h5, Ex.rows_len, Sm.same, Ex.sames_len h4]
          · simp [c_flotsamref16_SameStmt, Sm.cells, h1, h2, h3, h5, Sm.same]
        · simp [c_flotsamref16_SameStmt, Sm.cells, h1, h2, h3, Sm.same]
      · simp [c_flotsamref16_SameStmt, Sm.cells, h1, h2, Sm.same]
    · simp [c_flotsamref16_SameStmt, Sm.cells, h1, Sm.same]

theorem SameStmts_eq (l m : List Sm) (hl : l.length ≤ 1000) (he : ∀ e ∈ l, e.size ≤ 1000) :
    eval tbl noExt n_flotsamref16_SameStmts [.sl 7 (Sm.rows l), .sl 7 (Sm.rows m)] [] = some (.bool (Sm.sames l m), []) :=
  SameStmts_step l m hl fun e h f => SameStmt_eq 1000 e f (he e h) (Nat.le_refl _)


/-! The document's lists. -/
theorem Sm.rows_append (a b : List Sm) : Sm.rows (a ++ b) = Sm.rows a ++ Sm.rows b := by simp [Sm.rows_eq]

theorem list_loop (call : CallF) (l : List Sm) (hl : l.length ≤ 1000)
    (hf : ∀ e ∈ l, ∀ b ∈ e.blocks, ∀ (x : List Sm) (K : Heap), x.length + (Sm.flats b).length ≤ 100000 → call n_flotsamref16_list [.sl 7 (Sm.rows b), .own 7 (Sm.rows x)] K = some (.own 7 (Sm.rows (x ++ Sm.flats b)), K)) (K : Heap) (R : Option (V × Heap)) (k : List Item) :
    ∀ (j i : Nat) (x : List Sm) (φ : Fr), i + j = l.length → x.length + (Sm.flats (l.drop i)).length ≤ 100000 → Fr.get φ 0 = .sl 7 (Sm.rows l) → Fr.get φ 1 = .own 7 (Sm.rows x) → Fr.get φ 5 = .int .i64 i →
      (∀ φ', Fr.get φ' 1 = .own 7 (Sm.rows (x ++ Sm.flats (l.drop i))) → M call k φ' K = R) →
      M call (.code l_flotsamref16_list_0 :: .blk 0 :: k) φ K = R := by
  intro j
  induction j with
  | zero =>
    intro i x φ hj hN h0 h1 h5 hexit
    have hi : ¬ ((i : Int) < l.length) := by omega
    rw [List.drop_of_length_le (by omega)] at hexit
    simp only [Sm.flats, List.append_nil] at hexit
    rw [l_flotsamref16_list_0, M_loop, ← l_flotsamref16_list_0]
    simp [b_flotsamref16_list_0, h0, h1, h5, hi, Sm.rows_len]
    exact hexit _ (by simp [h1])
  | succ j ih =>
    intro i x φ hj hN h0 h1 h5 hexit
    have hi : (i : Int) < l.length := by omega
    obtain ⟨e, he, hmem, hd⟩ := at_some (l := l) (i := i) (by omega)
    have hre := Sm.rows_at he
    have hcl := hf e hmem
    have hw : IntKind.i64.wrap ((i : Int) + 1) = ((i + 1 : Nat) : Int) := by rw [w64 (by omega) (by omega)]; rfl
    obtain ⟨op, s, n, ee, b, c, g⟩ := e
    rw [hd] at hN hexit
    simp only [Sm.flats, Sm.flat, List.length_append, List.length_cons, List.cons_append] at hN hexit
    have hb : 2 * (x.length + 1) * 112 ≤ 281474976710656 := by omega
    have c1 := hcl b (by simp [Sm.blocks]) (x ++ [.mk op s n ee b c g]) K (by simp; omega)
    have c2 := hcl c (by simp [Sm.blocks]) (x ++ [.mk op s n ee b c g] ++ Sm.flats b) K (by simp; omega)
    simp only [Sm.cells] at hre
    have e0 : Sm.rows x ++ [[V.int .i64 op, .str s, .int .i64 n, .sl 4 (Ex.rows ee), .sl 7 (Sm.rows b), .sl 7 (Sm.rows c), .bool g]] = Sm.rows (x ++ [.mk op s n ee b c g]) := by simp [Sm.rows_eq, Sm.cells]
    rw [l_flotsamref16_list_0, M_loop, ← l_flotsamref16_list_0]
    simp only [List.append_assoc, List.cons_append, List.nil_append] at c1 c2 e0
    simp [b_flotsamref16_list_0, h0, h1, h5, hi, Sm.rows_len, hre, hb, c1, c2, e0, lt_flotsamref16_list, hw]
    refine ih (i + 1) (x ++ .mk op s n ee b c g :: (Sm.flats b ++ Sm.flats c)) _ (by omega) (by simp; omega) (by simp [h0]) (by simp) (by simp) ?_
    intro φ' g1
    refine hexit φ' ?_
    simpa using g1

theorem list_step (l : List Sm) (hl : l.length ≤ 1000)
    (hf : ∀ e ∈ l, ∀ b ∈ e.blocks, ∀ (x : List Sm) (K : Heap), x.length + (Sm.flats b).length ≤ 100000 → eval tbl noExt n_flotsamref16_list [.sl 7 (Sm.rows b), .own 7 (Sm.rows x)] K = some (.own 7 (Sm.rows (x ++ Sm.flats b)), K))
    (x : List Sm) (K : Heap) (hN : x.length + (Sm.flats l).length ≤ 100000) :
    eval tbl noExt n_flotsamref16_list [.sl 7 (Sm.rows l), .own 7 (Sm.rows x)] K = some (.own 7 (Sm.rows (x ++ Sm.flats l)), K) := by
  rw [eval_M rfl rfl t_flotsamref16_list rfl]
  simp [c_flotsamref16_list]
  refine list_loop _ l hl hf K _ _ l.length 0 x _ (by omega) (by simpa using hN) (by simp) (by simp) (by simp) ?_
  intro φ' g1
  simp [r_flotsamref16_list_0, g1]

theorem list_ok : ∀ (n : Nat) (l : List Sm), Sm.sizes l ≤ n → n ≤ 1000 → ∀ (x : List Sm) (K : Heap), x.length + (Sm.flats l).length ≤ 100000 →
    eval tbl noExt n_flotsamref16_list [.sl 7 (Sm.rows l), .own 7 (Sm.rows x)] K = some (.own 7 (Sm.rows (x ++ Sm.flats l)), K) := by
  intro n
  induction n with
  | zero =>
    intro l hl hn
    have h0 : l = [] := by
      have := Sm.sizes_ge l
      exact List.length_eq_zero_iff.1 (by omega)
    subst h0
    exact list_step [] (by simp) (by simp)
  | succ n ih =>
    intro l hl hn
    refine list_step l (by have := Sm.sizes_ge l; omega) fun e he b hb => ih b ?_ (by omega)
    have h1 := Sm.sizes_mem he
    obtain ⟨op, w, m, ee, b1, b2, g⟩ := e
    simp only [Sm.size] at h1
    simp only [Sm.blocks, List.mem_cons, List.not_mem_nil, or_false] at hb
    rcases hb with rfl | rfl <;> omega

theorem Pg.prow {p : Pg} {i : Nat} {e : List UInt8 × List Sm} (he : p.procs[i]? = some e) : p.pcells[i]? = some [.str e.1, .sl 7 (Sm.rows e.2)] := by rw [Pg.pcells, List.getElem?_map, he]; rfl
theorem Pg.pcells_len (p : Pg) : p.pcells.length = p.procs.length := by simp [Pg.pcells]
theorem Pg.ocells_len (p : Pg) : p.ocells.length = p.oracles.length := by simp [Pg.ocells]

theorem refAll_loop (p : Pg) (hp : p.size ≤ 1000) (R : Option (V × Heap)) (k : List Item)
    (hexit : ∀ φ', Fr.get φ' 1 = .ptr 0 0 → Fr.get φ' 3 = .own 7 (Sm.rows (Sm.flats (p.procs.map (·.2)).flatten)) → M (eval tbl noExt) k φ' [some p.cells] = R) :
    ∀ (j i : Nat) (φ : Fr), i + j = p.procs.length → Fr.get φ 1 = .ptr 0 0 → Fr.get φ 3 = .own 7 (Sm.rows (Sm.flats ((p.procs.map (·.2)).take i).flatten)) → Fr.get φ 4 = .int .i64 i →
      M (eval tbl noExt) (.code l_flotsamref16_All_0 :: .blk 0 :: k) φ [some p.cells] = R := by
  have hsz := p.parts_size
  intro j
  induction j with
  | zero =>
    intro i φ hj h1 h3 h4
    have hi : ¬ ((i : Int) < p.procs.length) := by omega
    rw [List.take_of_length_le (by simp; omega)] at h3
    rw [l_flotsamref16_All_0, M_loop, ← l_flotsamref16_All_0]
    simp only [Pg.cells] at hexit ⊢
    simp [b_flotsamref16_All_0, h1, h3, h4, hi, Pg.pcells_len]
    exact hexit _ (by simp [h1]) (by simp [h3])
  | succ j ih =>
    intro i φ hj h1 h3 h4
    have hi : (i : Int) < p.procs.length := by omega
    obtain ⟨e, he, hmem, hd⟩ := at_some (l := p.procs) (i := i) (by omega)
    have hrow := p.prow he
    have hw : IntKind.i64.wrap ((i : Int) + 1) = ((i + 1 : Nat) : Int) := by rw [w64 (by omega) (by omega)]; rfl
    have hs1 : Sm.sizes ((p.procs.map (·.2)).take i).flatten + Sm.sizes e.2 ≤ Sm.sizes p.parts.flatten := by
      have : p.parts = (p.procs.map (·.2)).take i ++ (e.2 :: ((p.procs.drop (i + 1)).map (·.2) ++ [p.main, p.recover])) := by
        rw [Pg.parts]
        conv => lhs; rw [← List.take_append_drop i p.procs, hd]
        simp
      rw [this]
      simp only [List.flatten_append, List.flatten_cons, sizes_append]
      omega
    have hc := list_ok 1000 e.2 (by omega) (Nat.le_refl _) (Sm.flats ((p.procs.map (·.2)).take i).flatten) [some p.cells] (by
      have := Sm.flats_sizes ((p.procs.map (·.2)).take i).flatten
      have := Sm.flats_sizes e.2
      omega)
    have hnext : Sm.flats ((p.procs.map (·.2)).take i).flatten ++ Sm.flats e.2 = Sm.flats ((p.procs.map (·.2)).take (i + 1)).flatten := by
      rw [List.take_add_one, List.getElem?_map, he]; simp [Sm.flats_append]
    rw [hnext] at hc
    rw [l_flotsamref16_All_0, M_loop, ← l_flotsamref16_All_0]
    simp only [Pg.cells] at hc ih ⊢
    simp [b_flotsamref16_All_0, h1, h3, h4, hi, Pg.pcells_len, hrow, lt_flotsamref16_list, hc, hw]
    exact ih (i + 1) _ (by omega) (by simp [h1]) (by simp) (by simp)

theorem refAll_eq (p : Pg) (hp : p.size ≤ 1000) : eval tbl noExt n_flotsamref16_All [.agg p.cells] [] = some (.own 7 (Sm.rows p.flats), []) := by
  have hsz := p.parts_size
  have hs : Sm.sizes (p.procs.map (·.2)).flatten + Sm.sizes p.main + Sm.sizes p.recover = Sm.sizes p.parts.flatten := by
    simp only [Pg.parts, List.flatten_append, sizes_append, List.flatten_cons, List.flatten_nil, List.append_nil]; omega
  have f0 := Sm.flats_sizes (p.procs.map (·.2)).flatten
  have f1 := Sm.flats_sizes p.main
  have f2 := Sm.flats_sizes p.recover
  have c1 := list_ok 1000 p.main (by omega) (Nat.le_refl _) (Sm.flats (p.procs.map (·.2)).flatten) [some p.cells] (by omega)
  have c2 := list_ok 1000 p.recover (by omega) (Nat.le_refl _) (Sm.flats (p.procs.map (·.2)).flatten ++ Sm.flats p.main) [some p.cells] (by simp; omega)
  have hall : Sm.flats (p.procs.map (·.2)).flatten ++ Sm.flats p.main ++ Sm.flats p.recover = p.flats := by
    simp [Pg.flats, Pg.parts, Sm.flats_append]
  rw [hall] at c2
  rw [eval_M rfl rfl t_flotsamref16_All rfl]
  simp [c_flotsamref16_All]
  refine refAll_loop p hp _ _ (fun φ' h1 h3 => ?_) p.procs.length 0 _ (by omega) (by simp) (by simp [Sm.flats, Sm.rows]) (by simp)
  simp only [Pg.cells] at c1 c2 ⊢
  simp [r_flotsamref16_All_0, h1, h3, lt_flotsamref16_list, c1, c2]

theorem refCount_loop (call : CallF) (l : List Sm) (hl : l.length ≤ 1000) (hN : (Sm.flats l).length ≤ 100000)
    (hf : ∀ e ∈ l, ∀ b ∈ e.blocks, call n_flotsamref16_Count [.sl 7 (Sm.rows b)] [] = some (.int .i64 (Sm.flats b).length, [])) (R : Option (V × Heap)) (k : List Item) :
    ∀ (j i x : Nat) (φ : Fr), i + j = l.length → x + (Sm.flats (l.drop i)).length = (Sm.flats l).length + j → Fr.get φ 0 = .sl 7 (Sm.rows l) → Fr.get φ 3 = .int .i64 x → Fr.get φ 4 = .int .i64 i →
      (∀ φ', Fr.get φ' 3 = .int .i64 (Sm.flats l).length → M call k φ' [] = R) →
      M call (.code l_flotsamref16_Count_0 :: .blk 0 :: k) φ [] = R := by
  intro j
  induction j with
  | zero =>
    intro i x φ hj hx h0 h3 h4 hexit
    have hi : ¬ ((i : Int) < l.length) := by omega
    rw [List.drop_of_length_le (by omega)] at hx
    simp only [Sm.flats, List.length_nil, Nat.add_zero] at hx
    rw [l_flotsamref16_Count_0, M_loop, ← l_flotsamref16_Count_0]
    simp [b_flotsamref16_Count_0, h0, h3, h4, hi, Sm.rows_len]
    exact hexit _ (by simp [h3, hx])
  | succ j ih =>
    intro i x φ hj hx h0 h3 h4 hexit
    have hi : (i : Int) < l.length := by omega
    obtain ⟨e, he, hmem, hd⟩ := at_some (l := l) (i := i) (by omega)
    have hre := Sm.rows_at he
    have hcl := hf e hmem
    have hw : IntKind.i64.wrap ((i : Int) + 1) = ((i + 1 : Nat) : Int) := by rw [w64 (by omega) (by omega)]; rfl
    obtain ⟨op, s, n, ee, b, c, g⟩ := e
    rw [hd] at hx
    simp only [Sm.flats, Sm.flat, List.length_append, List.length_cons] at hx
    have c1 := hcl b (by simp [Sm.blocks])
    have c2 := hcl c (by simp [Sm.blocks])
    simp only [Sm.cells] at hre
    have hw1 : IntKind.i64.wrap ((x : Int) + (Sm.flats b).length) = ((x + (Sm.flats b).length : Nat) : Int) := by rw [w64 (by omega) (by omega)]; rfl
    have hw2 : IntKind.i64.wrap ((x : Int) + (Sm.flats b).length + (Sm.flats c).length) = ((x + (Sm.flats b).length + (Sm.flats c).length : Nat) : Int) := by rw [w64 (by omega) (by omega)]; rfl
    rw [l_flotsamref16_Count_0, M_loop, ← l_flotsamref16_Count_0]
    simp [b_flotsamref16_Count_0, h0, h3, h4, hi, Sm.rows_len, hre, c1, c2, lt_flotsamref16_Count, hw, hw1, hw2]
    exact ih (i + 1) (x + (Sm.flats b).length + (Sm.flats c).length) _ (by omega) (by omega) (by simp [h0]) (by simp) (by simp) hexit

theorem refCount_step (l : List Sm) (hl : l.length ≤ 1000) (hN : (Sm.flats l).length ≤ 100000)
    (hf : ∀ e ∈ l, ∀ b ∈ e.blocks, eval tbl noExt n_flotsamref16_Count [.sl 7 (Sm.rows b)] [] = some (.int .i64 (Sm.flats b).length, [])) :
    eval tbl noExt n_flotsamref16_Count [.sl 7 (Sm.rows l)] [] = some (.int .i64 (Sm.flats l).length, []) := by
  rw [eval_M rfl rfl t_flotsamref16_Count rfl]
  simp [c_flotsamref16_Count, Sm.rows_len]
  refine refCount_loop _ l hl hN hf _ _ l.length 0 l.length _ (by omega) (by simp; omega) (by simp) (by simp) (by simp) ?_
  intro φ' g1
  simp [r_flotsamref16_Count_0, g1]

theorem refCount_ok : ∀ (n : Nat) (l : List Sm), Sm.sizes l ≤ n → n ≤ 1000 → eval tbl noExt n_flotsamref16_Count [.sl 7 (Sm.rows l)] [] = some (.int .i64 (Sm.flats l).length, []) := by
  intro n
  induction n with
  | zero =>
    intro l hl hn
    have h0 : l = [] := by
      have := Sm.sizes_ge l
      exact List.length_eq_zero_iff.1 (by omega)
    subst h0
    exact refCount_step [] (by simp) (by simp [Sm.flats]) (by simp)
  | succ n ih =>
    intro l hl hn
    refine refCount_step l (by have := Sm.sizes_ge l; omega) (by have := Sm.flats_sizes l; omega) fun e he b hb => ih b ?_ (by omega)
    have h1 := Sm.sizes_mem he
    obtain ⟨op, w, m, ee, b1, b2, g⟩ := e
    simp only [Sm.size] at h1
    simp only [Sm.blocks, List.mem_cons, List.not_mem_nil, or_false] at hb
    rcases hb with rfl | rfl <;> omega

end Go.AM.Spec
