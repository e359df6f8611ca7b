/-
  Programs as data: expressions, statements; their cells. What the cloning functions answer.
-/
import Derived.Test.YthboieenfnpeeaaSpc
namespace Go.AM.Spec
set_option linter.unusedVariables false
set_option linter.unusedSimpArgs false
set_option maxHeartbeats 1000000

inductive Ex where
  | mk (op n : Int) (s : List UInt8) (x : List Ex)

inductive Sm where
  | mk (op : Int) (s : List UInt8) (n : Int) (e : List Ex) (body els : List Sm) (commit : Bool)

mutual
def Ex.cells : Ex → List V
  | .mk op n s x => [.int .i64 op, .int .i64 n, .str s, .sl 4 (Ex.rows x)]
def Ex.rows : List Ex → List (List V)
  | [] => []
  | e :: l => e.cells :: Ex.rows l
end

mutual
def Sm.cells : Sm → List V
  | .mk op s n e b c k => [.int .i64 op, .str s, .int .i64 n, .sl 4 (Ex.rows e), .sl 7 (Sm.rows b), .sl 7 (Sm.rows c), .bool k]
def Sm.rows : List Sm → List (List V)
  | [] => []
  | e :: l => e.cells :: Sm.rows l
end

theorem Ex.rows_eq (l : List Ex) : Ex.rows l = l.map Ex.cells := by induction l with
  | nil => rfl
  | cons e l ih => simp [Ex.rows, ih]
theorem Sm.rows_eq (l : List Sm) : Sm.rows l = l.map Sm.cells := by induction l with
  | nil => rfl
  | cons e l ih => simp [Sm.rows, ih]

mutual
/-- How many expressions. -/
def Ex.size : Ex → Nat
  | .mk _ _ _ x => 1 + Ex.sizes x
def Ex.sizes : List Ex → Nat
  | [] => 0
  | e :: l => e.size + Ex.sizes l
end

mutual
def Sm.size : Sm → Nat
  | .mk _ _ _ e b c _ => 1 + Ex.sizes e + Sm.sizes b + Sm.sizes c
def Sm.sizes : List Sm → Nat
  | [] => 0
  | e :: l => e.size + Sm.sizes l
end

theorem Ex.sizes_ge : ∀ l : List Ex, l.length ≤ Ex.sizes l
  | [] => Nat.le_refl _
  | e :: l => by
    have := Ex.sizes_ge l
    cases e
    simp only [Ex.sizes, Ex.size, List.length_cons]; omega
theorem Sm.sizes_ge : ∀ l : List Sm, l.length ≤ Sm.sizes l
  | [] => Nat.le_refl _
  | e :: l => by
    have := Sm.sizes_ge l
    cases e
    simp only [Sm.sizes, Sm.size, List.length_cons]; omega
theorem Ex.sizes_mem : ∀ {l : List Ex} {e : Ex}, e ∈ l → e.size ≤ Ex.sizes l
  | [], _, h => by simp at h
  | x :: l, e, h => by
    simp only [Ex.sizes]
    rcases List.mem_cons.1 h with rfl | h
    · omega
    · have := Ex.sizes_mem h; omega
theorem Sm.sizes_mem : ∀ {l : List Sm} {e : Sm}, e ∈ l → e.size ≤ Sm.sizes l
  | [], _, h => by simp at h
  | x :: l, e, h => by
    simp only [Sm.sizes]
    rcases List.mem_cons.1 h with rfl | h
    · omega
    · have := Sm.sizes_mem h; omega

theorem each_expr_loop (call : CallF) (R : Option (V × Heap)) (n : Nat) (H : Heap) (l : List Ex) (hl : l.length ≤ 1000) (hf : ∀ e ∈ l, ∀ K, call n_tree_clonedExpr [.agg e.cells] K = some (.agg e.cells, K)) (k : List Item)
    (hexit : ∀ φ' K, K.take n = H → n ≤ K.length → Fr.get φ' 5 = .own 4 (Ex.rows l) → M call k φ' K = R) :
    ∀ (j i : Nat) (φ : Fr) (K : Heap), i + j = l.length → K.take n = H → n ≤ K.length → Fr.get φ 1 = .fn (.func n_tree_clonedExpr) [] [] → Fr.get φ 5 = .own 4 (Ex.rows (l.take i)) → Fr.get φ 8 = .sl 4 (Ex.rows l) → Fr.get φ 9 = .int .i64 l.length → Fr.get φ 10 = .int .i64 i →
      M call (.code l_tree_each_api_Expr_0 :: .blk 0 :: k) φ K = R := by
  intro j
  induction j with
  | zero =>
    intro i φ K hj hK hn h1 h5 h8 h9 h10
    have hi : ¬ ((i : Int) < l.length) := by omega
    have h5' : Fr.get φ 5 = .own 4 (Ex.rows l) := by rw [h5, List.take_of_length_le (by omega)]
    rw [l_tree_each_api_Expr_0, M_loop, ← l_tree_each_api_Expr_0]
    simp [b_tree_each_api_Expr_0, h1, h5', h8, h9, h10, hi]
    exact hexit _ _ hK hn (by simp)
  | succ j ih =>
    intro i φ K hj hK hn h1 h5 h8 h9 h10
    have hi : (i : Int) < l.length := by omega
    have hil : i < l.length := by omega
    obtain ⟨e, he⟩ : ∃ e, l[i]? = some e := ⟨l[i], List.getElem?_eq_getElem hil⟩
    have hmem : e ∈ l := List.mem_of_getElem? he
    have hrow : (Ex.rows l)[i]? = some e.cells := by rw [Ex.rows_eq, List.getElem?_map, he]; rfl
    have hcl : (Ex.rows l).length = l.length := by rw [Ex.rows_eq]; simp
    have hck : (Ex.rows (l.take i)).length = i := by rw [Ex.rows_eq]; simp; omega
    have hnext : Ex.rows (l.take i) ++ [e.cells] = Ex.rows (l.take (i + 1)) := by
      rw [Ex.rows_eq, Ex.rows_eq, List.take_add_one, he]; simp
    have hw : IntKind.i64.wrap ((i : Int) + 1) = ((i + 1 : Nat) : Int) := by rw [w64 (by omega) (by omega)]; rfl
    have hb : 2 * (i + 1) * 56 ≤ 281474976710656 := by omega
    obtain ⟨op, m, s, x⟩ := e
    simp only [Ex.cells] at hrow hnext
    have hcall := hf _ hmem
    simp only [Ex.cells] at hcall
    rw [l_tree_each_api_Expr_0, M_loop, ← l_tree_each_api_Expr_0]
    simp [b_tree_each_api_Expr_0, h1, h5, h8, h9, h10, hi, hcl, hrow, hcall, hck, get0, set0, lt_tree_clonedExpr, hnext, hw, hb]
    refine ih (i + 1) _ _ (by omega) (take_more hK hn _) (by simp; omega) ?_ ?_ ?_ ?_ ?_ <;> simp

/-- A list, every element cloned. -/
theorem each_expr_eq (l : List Ex) (hl : l.length ≤ 1000) (hf : ∀ e ∈ l, ∀ K, eval tbl noExt n_tree_clonedExpr [.agg e.cells] K = some (.agg e.cells, K)) (H : Heap) :
    eval tbl noExt n_tree_each_api_Expr [.sl 4 (Ex.rows l), .fn (.func n_tree_clonedExpr) [] []] H = some (.own 4 (Ex.rows l), H) := by
  have hcl : (Ex.rows l).length = l.length := by rw [Ex.rows_eq]; simp
  rw [eval_M rfl rfl t_tree_each_api_Expr rfl]
  simp [c_tree_each_api_Expr, hcl]
  refine each_expr_loop _ _ H.length H l hl hf _ (fun φ' K hK hn h5 => by simp [r_tree_each_api_Expr_0, h5, hK]) l.length 0 _ H (by omega) (by simp) (Nat.le_refl _) ?_ ?_ ?_ ?_ ?_ <;> simp [Ex.rows]

theorem clonedExpr_eq : ∀ (n : Nat) (e : Ex), e.size ≤ n → n ≤ 1000 → ∀ H, eval tbl noExt n_tree_clonedExpr [.agg e.cells] H = some (.agg e.cells, H) := by
  intro n
  induction n with
  | zero =>
    intro e h
    cases e
    simp only [Ex.size] at h; omega
  | succ n ih =>
    intro e h hn H
    obtain ⟨op, m, s, x⟩ := e
    simp only [Ex.size] at h
    have hx := Ex.sizes_ge x
    have he := each_expr_eq x (by omega) (fun e he K => ih e (by have := Ex.sizes_mem he; omega) (by omega) K) []
    rw [eval_M rfl rfl t_tree_clonedExpr rfl]
    simp [c_tree_clonedExpr, Ex.cells, he, get0, get1, set0, set1]

theorem each_stmt_loop (call : CallF) (R : Option (V × Heap)) (n : Nat) (H : Heap) (l : List Sm) (hl : l.length ≤ 1000) (hf : ∀ e ∈ l, ∀ K, call n_tree_cloned [.agg e.cells] K = some (.agg e.cells, K)) (k : List Item)
    (hexit : ∀ φ' K, K.take n = H → n ≤ K.length → Fr.get φ' 5 = .own 7 (Sm.rows l) → M call k φ' K = R) :
    ∀ (j i : Nat) (φ : Fr) (K : Heap), i + j = l.length → K.take n = H → n ≤ K.length → Fr.get φ 1 = .fn (.func n_tree_cloned) [] [] → Fr.get φ 5 = .own 7 (Sm.rows (l.take i)) → Fr.get φ 8 = .sl 7 (Sm.rows l) → Fr.get φ 9 = .int .i64 l.length → Fr.get φ 10 = .int .i64 i →
      M call (.code l_tree_each_api_Stmt_0 :: .blk 0 :: k) φ K = R := by
  intro j
  induction j with
  | zero =>
    intro i φ K hj hK hn h1 h5 h8 h9 h10
    have hi : ¬ ((i : Int) < l.length) := by omega
    have h5' : Fr.get φ 5 = .own 7 (Sm.rows l) := by rw [h5, List.take_of_length_le (by omega)]
    rw [l_tree_each_api_Stmt_0, M_loop, ← l_tree_each_api_Stmt_0]
    simp [b_tree_each_api_Stmt_0, h1, h5', h8, h9, h10, hi]
    exact hexit _ _ hK hn (by simp)
  | succ j ih =>
    intro i φ K hj hK hn h1 h5 h8 h9 h10
    have hi : (i : Int) < l.length := by omega
    have hil : i < l.length := by omega
    obtain ⟨e, he⟩ : ∃ e, l[i]? = some e := ⟨l[i], List.getElem?_eq_getElem hil⟩
    have hmem : e ∈ l := List.mem_of_getElem? he
    have hrow : (Sm.rows l)[i]? = some e.cells := by rw [Sm.rows_eq, List.getElem?_map, he]; rfl
    have hcl : (Sm.rows l).length = l.length := by rw [Sm.rows_eq]; simp
    have hck : (Sm.rows (l.take i)).length = i := by rw [Sm.rows_eq]; simp; omega
    have hnext : Sm.rows (l.take i) ++ [e.cells] = Sm.rows (l.take (i + 1)) := by
      rw [Sm.rows_eq, Sm.rows_eq, List.take_add_one, he]; simp
    have hw : IntKind.i64.wrap ((i : Int) + 1) = ((i + 1 : Nat) : Int) := by rw [w64 (by omega) (by omega)]; rfl
    have hb : 2 * (i + 1) * 112 ≤ 281474976710656 := by omega
    obtain ⟨op, s, m, x, b, c, g⟩ := e
    simp only [Sm.cells] at hrow hnext
    have hcall := hf _ hmem
    simp only [Sm.cells] at hcall
    rw [l_tree_each_api_Stmt_0, M_loop, ← l_tree_each_api_Stmt_0]
    simp [b_tree_each_api_Stmt_0, h1, h5, h8, h9, h10, hi, hcl, hrow, hcall, hck, get0, set0, lt_tree_cloned, hnext, hw, hb]
    refine ih (i + 1) _ _ (by omega) (take_more hK hn _) (by simp; omega) ?_ ?_ ?_ ?_ ?_ <;> simp

/-- A list, every element cloned. -/
theorem each_stmt_eq (l : List Sm) (hl : l.length ≤ 1000) (hf : ∀ e ∈ l, ∀ K, eval tbl noExt n_tree_cloned [.agg e.cells] K = some (.agg e.cells, K)) (H : Heap) :
    eval tbl noExt n_tree_each_api_Stmt [.sl 7 (Sm.rows l), .fn (.func n_tree_cloned) [] []] H = some (.own 7 (Sm.rows l), H) := by
  have hcl : (Sm.rows l).length = l.length := by rw [Sm.rows_eq]; simp
  rw [eval_M rfl rfl t_tree_each_api_Stmt rfl]
  simp [c_tree_each_api_Stmt, hcl]
  refine each_stmt_loop _ _ H.length H l hl hf _ (fun φ' K hK hn h5 => by simp [r_tree_each_api_Stmt_0, h5, hK]) l.length 0 _ H (by omega) (by simp) (Nat.le_refl _) ?_ ?_ ?_ ?_ ?_ <;> simp [Sm.rows]


theorem cloned_eq : ∀ (n : Nat) (e : Sm), e.size ≤ n → n ≤ 1000 → ∀ H, eval tbl noExt n_tree_cloned [.agg e.cells] H = some (.agg e.cells, H) := by
  intro n
  induction n with
  | zero =>
    intro e h
    cases e
    simp only [Sm.size] at h; omega
  | succ n ih =>
    intro e h hn H
    obtain ⟨op, s, m, x, b, c, g⟩ := e
    simp only [Sm.size] at h
    have hx := Ex.sizes_ge x
    have hb := Sm.sizes_ge b
    have hc := Sm.sizes_ge c
    have he := each_expr_eq x (by omega) (fun e he K => clonedExpr_eq 1000 e (by have := Ex.sizes_mem he; omega) (by omega) K) []
    have he2 := each_stmt_eq b (by omega) (fun e he K => ih e (by have := Sm.sizes_mem he; omega) (by omega) K) []
    have he3 := each_stmt_eq c (by omega) (fun e he K => ih e (by have := Sm.sizes_mem he; omega) (by omega) K) []
    rw [eval_M rfl rfl t_tree_cloned rfl]
    simp [c_tree_cloned, Sm.cells, he, he2, he3, get0, get1, set0, set1]

end Go.AM.Spec
