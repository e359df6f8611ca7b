/-
  The parts of this proof that speak of the functions one by one.
-/
import Derived.Test.YtdblombkhoifeaaDoorSpc
import Derived.Test.YtdblombkhoifeaaDoorTyl
namespace Go.AM.Spec
set_option linter.unusedVariables false
set_option linter.unusedSimpArgs false
set_option maxHeartbeats 1000000

inductive Ex where
  | mk (op n : Int) (s : List UInt8) (x : List Ex)

inductive Sm where
  | mk (op : Int) (s : List UInt8) (n : Int) (e : List Ex) (body els : List Sm) (commit : Bool)

mutual
def Ex.cells : Ex → List V
  | .mk op n s x => [.int .i64 op, .int .i64 n, .str s, .sl 4 (Ex.rows x)]
def Ex.rows : List Ex → List (List V)
  | [] => []
  | e :: l => e.cells :: Ex.rows l
end

mutual
def Sm.cells : Sm → List V
  | .mk op s n e b c k => [.int .i64 op, .str s, .int .i64 n, .sl 4 (Ex.rows e), .sl 7 (Sm.rows b), .sl 7 (Sm.rows c), .bool k]
def Sm.rows : List Sm → List (List V)
  | [] => []
  | e :: l => e.cells :: Sm.rows l
end

theorem Ex.rows_eq (l : List Ex) : Ex.rows l = l.map Ex.cells := by induction l with
  | nil => rfl
  | cons e l ih => simp [Ex.rows, ih]
theorem Sm.rows_eq (l : List Sm) : Sm.rows l = l.map Sm.cells := by induction l with
  | nil => rfl
  | cons e l ih => simp [Sm.rows, ih]

mutual
/-- How many expressions. -/
def Ex.size : Ex → Nat
  | .mk _ _ _ x => 1 + Ex.sizes x
def Ex.sizes : List Ex → Nat
  | [] => 0
  | e :: l => e.size + Ex.sizes l
end

mutual
def Sm.size : Sm → Nat
  | .mk _ _ _ e b c _ => 1 + Ex.sizes e + Sm.sizes b + Sm.sizes c
def Sm.sizes : List Sm → Nat
  | [] => 0
  | e :: l => e.size + Sm.sizes l
end

theorem Ex.sizes_ge : ∀ l : List Ex, l.length ≤ Ex.sizes l
  | [] => Nat.le_refl _
  | e :: l => by
    have := Ex.sizes_ge l
    cases e
    simp only [Ex.sizes, Ex.size, List.length_cons]; omega
theorem Sm.sizes_ge : ∀ l : List Sm, l.length ≤ Sm.sizes l
  | [] => Nat.le_refl _
  | e :: l => by
    have := Sm.sizes_ge l
    cases e
    simp only [Sm.sizes, Sm.size, List.length_cons]; omega
theorem Ex.sizes_mem : ∀ {l : List Ex} {e : Ex}, e ∈ l → e.size ≤ Ex.sizes l
  | [], _, h => by simp at h
  | x :: l, e, h => by
    simp only [Ex.sizes]
    rcases List.mem_cons.1 h with rfl | h
    · omega
    · have := Ex.sizes_mem h; omega
theorem Sm.sizes_mem : ∀ {l : List Sm} {e : Sm}, e ∈ l → e.size ≤ Sm.sizes l
  | [], _, h => by simp at h
  | x :: l, e, h => by
    simp only [Sm.sizes]
    rcases List.mem_cons.1 h with rfl | h
    · omega
    · have := Sm.sizes_mem h; omega

theorem each_expr_loop (call : CallF) (R : Option (V × Heap)) (n : Nat) (H : Heap) (l : List Ex) (hl : l.length ≤ 1000) (hf : ∀ e ∈ l, ∀ K, call n_tree_clonedExpr [.agg e.cells] K = some (.agg e.cells, K)) (k : List Item)
    (hexit : ∀ φ' K, K.take n = H → n ≤ K.length → Fr.get φ' 5 = .own 4 (Ex.rows l) → M call k φ' K = R) :
    ∀ (j i : Nat) (φ : Fr) (K : Heap), i + j = l.length → K.take n = H → n ≤ K.length → Fr.get φ 1 = .fn (.func n_tree_clonedExpr) [] [] → Fr.get φ 5 = .own 4 (Ex.rows (l.take i)) → Fr.get φ 8 = .sl 4 (Ex.rows l) → Fr.get φ 9 = .int .i64 l.length → Fr.get φ 10 = .int .i64 i →
      M call (.code l_tree_each_api_Expr_0 :: .blk 0 :: k) φ K = R := by
  intro j
  induction j with
  | zero =>
    intro i φ K hj hK hn h1 h5 h8 h9 h10
    have hi : ¬ ((i : Int) < l.length) := by omega
    have h5' : Fr.get φ 5 = .own 4 (Ex.rows l) := by rw [h5, List.take_of_length_le (by omega)]
    rw [l_tree_each_api_Expr_0, M_loop, ← l_tree_each_api_Expr_0]
    simp [b_tree_each_api_Expr_0, h1, h5', h8, h9, h10, hi]
    exact hexit _ _ hK hn (by simp)
  | succ j ih =>
    intro i φ K hj hK hn h1 h5 h8 h9 h10
    have hi : (i : Int) < l.length := by omega
    have hil : i < l.length := by omega
    obtain ⟨e, he⟩ : ∃ e, l[i]? = some e := ⟨l[i], List.getElem?_eq_getElem hil⟩
    have hmem : e ∈ l := List.mem_of_getElem? he
    have hrow : (Ex.rows l)[i]? = some e.cells := by rw [Ex.rows_eq, List.getElem?_map, he]; rfl
    have hcl : (Ex.rows l).length = l.length := by rw [Ex.rows_eq]; simp
    have hck : (Ex.rows (l.take i)).length = i := by rw [Ex.rows_eq]; simp; omega
    have hnext : Ex.rows (l.take i) ++ [e.cells] = Ex.rows (l.take (i + 1)) := by
      rw [Ex.rows_eq, Ex.rows_eq, List.take_add_one, he]; simp
    have hw : IntKind.i64.wrap ((i : Int) + 1) = ((i + 1 : Nat) : Int) := by rw [w64 (by omega) (by omega)]; rfl
    have hb : 2 * (i + 1) * 56 ≤ 281474976710656 := by omega
    obtain ⟨op, m, s, x⟩ := e
    simp only [Ex.cells] at hrow hnext
    have hcall := hf _ hmem
    simp only [Ex.cells] at hcall
    rw [l_tree_each_api_Expr_0, M_loop, ← l_tree_each_api_Expr_0]
    simp [b_tree_each_api_Expr_0, h1, h5, h8, h9, h10, hi, hcl, hrow, hcall, hck, get0, set0, lt_tree_clonedExpr, hnext, hw, hb]
    refine ih (i + 1) _ _ (by omega) (take_more hK hn _) (by simp; omega) ?_ ?_ ?_ ?_ ?_ <;> simp

/-- A list, every element cloned. -/
theorem each_expr_eq (l : List Ex) (hl : l.length ≤ 1000) (hf : ∀ e ∈ l, ∀ K, eval tbl noExt n_tree_clonedExpr [.agg e.cells] K = some (.agg e.cells, K)) (H : Heap) :
    eval tbl noExt n_tree_each_api_Expr [.sl 4 (Ex.rows l), .fn (.func n_tree_clonedExpr) [] []] H = some (.own 4 (Ex.rows l), H) := by
  have hcl : (Ex.rows l).length = l.length := by rw [Ex.rows_eq]; simp
  rw [eval_M rfl rfl t_tree_each_api_Expr rfl]
  simp [c_tree_each_api_Expr, hcl]
  refine each_expr_loop _ _ H.length H l hl hf _ (fun φ' K hK hn h5 => by simp [r_tree_each_api_Expr_0, h5, hK]) l.length 0 _ H (by omega) (by simp) (Nat.le_refl _) ?_ ?_ ?_ ?_ ?_ <;> simp [Ex.rows]

theorem clonedExpr_eq : ∀ (n : Nat) (e : Ex), e.size ≤ n → n ≤ 1000 → ∀ H, eval tbl noExt n_tree_clonedExpr [.agg e.cells] H = some (.agg e.cells, H) := by
  intro n
  induction n with
  | zero =>
    intro e h
    cases e
    simp only [Ex.size] at h; omega
  | succ n ih =>
    intro e h hn H
    obtain ⟨op, m, s, x⟩ := e
    simp only [Ex.size] at h
    have hx := Ex.sizes_ge x
    have he := each_expr_eq x (by omega) (fun e he K => ih e (by have := Ex.sizes_mem he; omega) (by omega) K) []
    rw [eval_M rfl rfl t_tree_clonedExpr rfl]
    simp [c_tree_clonedExpr, Ex.cells, he, get0, get1, set0, set1]

theorem each_stmt_loop (call : CallF) (R : Option (V × Heap)) (n : Nat) (H : Heap) (l : List Sm) (hl : l.length ≤ 1000) (hf : ∀ e ∈ l, ∀ K, call n_tree_cloned [.agg e.cells] K = some (.agg e.cells, K)) (k : List Item)
    (hexit : ∀ φ' K, K.take n = H → n ≤ K.length → Fr.get φ' 5 = .own 7 (Sm.rows l) → M call k φ' K = R) :
    ∀ (j i : Nat) (φ : Fr) (K : Heap), i + j = l.length → K.take n = H → n ≤ K.length → Fr.get φ 1 = .fn (.func n_tree_cloned) [] [] → Fr.get φ 5 = .own 7 (Sm.rows (l.take i)) → Fr.get φ 8 = .sl 7 (Sm.rows l) → Fr.get φ 9 = .int .i64 l.length → Fr.get φ 10 = .int .i64 i →
      M call (.code l_tree_each_api_Stmt_0 :: .blk 0 :: k) φ K = R := by
  intro j
  induction j with
  | zero =>
    intro i φ K hj hK hn h1 h5 h8 h9 h10
    have hi : ¬ ((i : Int) < l.length) := by omega
    have h5' : Fr.get φ 5 = .own 7 (Sm.rows l) := by rw [h5, List.take_of_length_le (by omega)]
    rw [l_tree_each_api_Stmt_0, M_loop, ← l_tree_each_api_Stmt_0]
    simp [b_tree_each_api_Stmt_0, h1, h5', h8, h9, h10, hi]
    exact hexit _ _ hK hn (by simp)
  | succ j ih =>
    intro i φ K hj hK hn h1 h5 h8 h9 h10
    have hi : (i : Int) < l.length := by omega
    have hil : i < l.length := by omega
    obtain ⟨e, he⟩ : ∃ e, l[i]? = some e := ⟨l[i], List.getElem?_eq_getElem hil⟩
    have hmem : e ∈ l := List.mem_of_getElem? he
    have hrow : (Sm.rows l)[i]? = some e.cells := by rw [Sm.rows_eq, List.getElem?_map, he]; rfl
    have hcl : (Sm.rows l).length = l.length := by rw [Sm.rows_eq]; simp
    have hck : (Sm.rows (l.take i)).length = i := by rw [Sm.rows_eq]; simp; omega
    have hnext : Sm.rows (l.take i) ++ [e.cells] = Sm.rows (l.take (i + 1)) := by
      rw [Sm.rows_eq, Sm.rows_eq, List.take_add_one, he]; simp
    have hw : IntKind.i64.wrap ((i : Int) + 1) = ((i + 1 : Nat) : Int) := by rw [w64 (by omega) (by omega)]; rfl
    have hb : 2 * (i + 1) * 112 ≤ 281474976710656 := by omega
    obtain ⟨op, s, m, x, b, c, g⟩ := e
    simp only [Sm.cells] at hrow hnext
    have hcall := hf _ hmem
    simp only [Sm.cells] at hcall
    rw [l_tree_each_api_Stmt_0, M_loop, ← l_tree_each_api_Stmt_0]
    simp [b_tree_each_api_Stmt_0, h1, h5, h8, h9, h10, hi, hcl, hrow, hcall, hck, get0, set0, lt_tree_cloned, hnext, hw, hb]
    refine ih (i + 1) _ _ (by omega) (take_more hK hn _) (by simp; omega) ?_ ?_ ?_ ?_ ?_ <;> simp

/-- A list, every element cloned. -/
theorem each_stmt_eq (l : List Sm) (hl : l.length ≤ 1000) (hf : ∀ e ∈ l, ∀ K, eval tbl noExt n_tree_cloned [.agg e.cells] K = some (.agg e.cells, K)) (H : Heap) :
    eval tbl noExt n_tree_each_api_Stmt [.sl 7 (Sm.rows l), .fn (.func n_tree_cloned) [] []] H = some (.own 7 (Sm.rows l), H) := by
  have hcl : (Sm.rows l).length = l.length := by rw [Sm.rows_eq]; simp
  rw [eval_M rfl rfl t_tree_each_api_Stmt rfl]
  simp [c_tree_each_api_Stmt, hcl]
  refine each_stmt_loop _ _ H.length H l hl hf _ (fun φ' K hK hn h5 => by simp [r_tree_each_api_Stmt_0, h5, hK]) l.length 0 _ H (by omega) (by simp) (Nat.le_refl _) ?_ ?_ ?_ ?_ ?_ <;> simp [Sm.rows]


theorem cloned_eq : ∀ (n : Nat) (e : Sm), e.size ≤ n → n ≤ 1000 → ∀ H, eval tbl noExt n_tree_cloned [.agg e.cells] H = some (.agg e.cells, H) := by
  intro n
  induction n with
  | zero =>
    intro e h
    cases e
    simp only [Sm.size] at h; omega
  | succ n ih =>
    intro e h hn H
    obtain ⟨op, s, m, x, b, c, g⟩ := e
    simp only [Sm.size] at h
    have hx := Ex.sizes_ge x
    have hb := Sm.sizes_ge b
    have hc := Sm.sizes_ge c
    have he := each_expr_eq x (by omega) (fun e he K => clonedExpr_eq 1000 e (by have := Ex.sizes_mem he; omega) (by omega) K) []
    have he2 := each_stmt_eq b (by omega) (fun e he K => ih e (by have := Sm.sizes_mem he; omega) (by omega) K) []
    have he3 := each_stmt_eq c (by omega) (fun e he K => ih e (by have := Sm.sizes_mem he; omega) (by omega) K) []
    rw [eval_M rfl rfl t_tree_cloned rfl]
    simp [c_tree_cloned, Sm.cells, he, he2, he3, get0, get1, set0, set1]

end Go.AM.Spec

namespace Go.AM.Spec
set_option linter.unusedVariables false
set_option linter.unusedSimpArgs false
set_option maxHeartbeats 1000000

mutual
/-- A statement, and those in it. -/
def Sm.flat : Sm → List Sm
  | .mk op s n e b c k => .mk op s n e b c k :: (Sm.flats b ++ Sm.flats c)
def Sm.flats : List Sm → List Sm
  | [] => []
  | e :: l => e.flat ++ Sm.flats l
end

theorem Sm.flats_append (a b : List Sm) : Sm.flats (a ++ b) = Sm.flats a ++ Sm.flats b := by
  induction a with
  | nil => rfl
  | cons e l ih => simp [Sm.flats, ih]

mutual
theorem Sm.flat_size : ∀ e : Sm, e.flat.length ≤ e.size
  | .mk op s n e b c k => by
    have := Sm.flats_sizes b
    have := Sm.flats_sizes c
    simp only [Sm.flat, Sm.size, List.length_cons, List.length_append]; omega
theorem Sm.flats_sizes : ∀ l : List Sm, (Sm.flats l).length ≤ Sm.sizes l
  | [] => Nat.le_refl _
  | e :: l => by
    have := Sm.flat_size e
    have := Sm.flats_sizes l
    simp only [Sm.flats, Sm.sizes, List.length_append]; omega
end

mutual
theorem Sm.flat_mem : ∀ (e x : Sm), x ∈ e.flat → x.size ≤ e.size
  | .mk op s n e b c k, x, h => by
    simp only [Sm.flat, List.mem_cons, List.mem_append] at h
    rcases h with rfl | h | h
    · exact Nat.le_refl _
    · have := Sm.flats_mem b x h; simp only [Sm.size]; omega
    · have := Sm.flats_mem c x h; simp only [Sm.size]; omega
theorem Sm.flats_mem : ∀ (l : List Sm) (x : Sm), x ∈ Sm.flats l → x.size ≤ Sm.sizes l
  | [], _, h => by simp [Sm.flats] at h
  | e :: l, x, h => by
    simp only [Sm.flats, List.mem_append] at h
    simp only [Sm.sizes]
    rcases h with h | h
    · have := Sm.flat_mem e x h; omega
    · have := Sm.flats_mem l x h; omega
end

theorem at_hp {hp : Heap} {m : Nat} (h : hp.length = m) (L : Heap) (k : Nat) : (hp ++ L)[m + k]? = L[k]? := by
  rw [List.getElem?_append_right (by omega)]; congr 1; omega
theorem set_hp {hp : Heap} {m : Nat} (h : hp.length = m) (L : Heap) (k : Nat) (v : Option (List V)) : (hp ++ L).set (m + k) v = hp ++ L.set k v := by
  rw [List.set_append_right _ _ (by omega)]; congr 2; omega
theorem take_hp {hp : Heap} {m : Nat} (h : hp.length = m) (L : Heap) (k : Nat) : (hp ++ L).take (m + k) = hp ++ L.take k := by
  rw [List.take_append, List.take_of_length_le (by omega)]; congr 2; omega

/-- The blocks in a statement. -/
def Sm.blocks : Sm → List (List Sm)
  | .mk _ _ _ _ b c _ => [b, c]

/-- A program. -/
structure Pg where
  procs : List (List UInt8 × List Sm)
  main : List Sm
  recover : List Sm
  oracles : List (List UInt8 × Ex)

def Pg.pcells (p : Pg) : List (List V) := p.procs.map fun x => [.str x.1, .sl 7 (Sm.rows x.2)]
def Pg.ocells (p : Pg) : List (List V) := p.oracles.map fun x => .str x.1 :: x.2.cells
def Pg.cells (p : Pg) : List V := [.sl 2 p.pcells, .sl 7 (Sm.rows p.main), .sl 7 (Sm.rows p.recover), .sl 5 p.ocells]
def Pg.psize (p : Pg) : Nat := (p.procs.map fun x => 1 + Sm.sizes x.2).sum
def Pg.osize (p : Pg) : Nat := (p.oracles.map fun x => 1 + x.2.size).sum
def Pg.size (p : Pg) : Nat := p.psize + Sm.sizes p.main + Sm.sizes p.recover + p.osize
def Pg.parts (p : Pg) : List (List Sm) := p.procs.map (·.2) ++ [p.main, p.recover]

def brow (b : List Sm) : List V := [.sl 7 (Sm.rows b)]

def Pg.flats (p : Pg) : List Sm := Sm.flats p.parts.flatten

theorem sizes_append (a b : List Sm) : Sm.sizes (a ++ b) = Sm.sizes a + Sm.sizes b := by
  induction a with
  | nil => simp [Sm.sizes]
  | cons e l ih => simp only [List.cons_append, Sm.sizes, ih]; omega

theorem Pg.parts_size (p : Pg) : Sm.sizes p.parts.flatten + p.procs.length ≤ p.size := by
  have h : ∀ l : List (List UInt8 × List Sm), Sm.sizes (l.map (·.2)).flatten + l.length = (l.map fun x => 1 + Sm.sizes x.2).sum := by
    intro l
    induction l with
    | nil => rfl
    | cons x l ih => simp only [List.map_cons, List.flatten_cons, sizes_append, List.length_cons, List.sum_cons]; omega
  have := h p.procs
  simp only [Pg.parts, List.flatten_append, sizes_append, Pg.size, Pg.psize, List.flatten_cons, List.flatten_nil, List.append_nil]
  omega

theorem sizes_flatten {bs : List (List Sm)} {b : List Sm} (h : b ∈ bs) : Sm.sizes b ≤ Sm.sizes bs.flatten := by
  induction bs with
  | nil => simp at h
  | cons x l ih =>
    simp only [List.flatten_cons, sizes_append]
    rcases List.mem_cons.1 h with rfl | h
    · omega
    · have := ih h; omega

theorem Pg.prow {p : Pg} {i : Nat} {e : List UInt8 × List Sm} (he : p.procs[i]? = some e) : p.pcells[i]? = some [.str e.1, .sl 7 (Sm.rows e.2)] := by rw [Pg.pcells, List.getElem?_map, he]; rfl
theorem Pg.pcells_len (p : Pg) : p.pcells.length = p.procs.length := by simp [Pg.pcells]
theorem Pg.ocells_len (p : Pg) : p.ocells.length = p.oracles.length := by simp [Pg.ocells]

end Go.AM.Spec

namespace Go.AM.Spec
set_option linter.unusedVariables false
set_option linter.unusedSimpArgs false
set_option maxHeartbeats 1000000

mutual
/-- Are two the same? -/
def Ex.same : Ex → Ex → Bool
  | .mk op n s x, .mk op' n' s' x' => op == op' && n == n' && s == s' && Ex.sames x x'
def Ex.sames : List Ex → List Ex → Bool
  | [], [] => true
  | a :: l, b :: m => a.same b && Ex.sames l m
  | _, _ => false
end

mutual
def Sm.same : Sm → Sm → Bool
  | .mk op s n e b c k, .mk op' s' n' e' b' c' k' => op == op' && s == s' && n == n' && k == k' && Ex.sames e e' && Sm.sames b b' && Sm.sames c c'
def Sm.sames : List Sm → List Sm → Bool
  | [], [] => true
  | a :: l, b :: m => a.same b && Sm.sames l m
  | _, _ => false
end

theorem Ex.sames_len {l m : List Ex} (h : l.length ≠ m.length) : Ex.sames l m = false := by
  induction l generalizing m with
  | nil => cases m with
    | nil => simp at h
    | cons => rfl
  | cons a l ih => cases m with
    | nil => rfl
    | cons b m => simp only [Ex.sames, ih (m := m) (fun e => h (by simp [e])), Bool.and_false]
theorem Sm.sames_len {l m : List Sm} (h : l.length ≠ m.length) : Sm.sames l m = false := by
  induction l generalizing m with
  | nil => cases m with
    | nil => simp at h
    | cons => rfl
  | cons a l ih => cases m with
    | nil => rfl
    | cons b m => simp only [Sm.sames, ih (m := m) (fun e => h (by simp [e])), Bool.and_false]

mutual
theorem Ex.same_rfl : ∀ e : Ex, e.same e = true
  | .mk op n s x => by simp [Ex.same, Ex.sames_rfl x]
theorem Ex.sames_rfl : ∀ l : List Ex, Ex.sames l l = true
  | [] => rfl
  | e :: l => by simp [Ex.sames, Ex.same_rfl e, Ex.sames_rfl l]
end
mutual
theorem Sm.same_rfl : ∀ e : Sm, e.same e = true
  | .mk op s n e b c k => by simp [Sm.same, Ex.sames_rfl e, Sm.sames_rfl b, Sm.sames_rfl c]
theorem Sm.sames_rfl : ∀ l : List Sm, Sm.sames l l = true
  | [] => rfl
  | e :: l => by simp [Sm.sames, Sm.same_rfl e, Sm.sames_rfl l]
end

mutual
theorem Ex.same_eq : ∀ a b : Ex, a.same b = true → a = b
  | .mk op n s x, .mk op' n' s' x', h => by
    simp only [Ex.same, Bool.and_eq_true, beq_iff_eq] at h
    obtain ⟨⟨⟨rfl, rfl⟩, rfl⟩, h⟩ := h
    rw [Ex.sames_eq x x' h]
theorem Ex.sames_eq : ∀ l m : List Ex, Ex.sames l m = true → l = m
  | [], [], _ => rfl
  | a :: l, b :: m, h => by
    simp only [Ex.sames, Bool.and_eq_true] at h
    rw [Ex.same_eq a b h.1, Ex.sames_eq l m h.2]
  | [], _ :: _, h => by simp [Ex.sames] at h
  | _ :: _, [], h => by simp [Ex.sames] at h
end
mutual
theorem Sm.same_eq : ∀ a b : Sm, a.same b = true → a = b
  | .mk op s n e b c k, .mk op' s' n' e' b' c' k', h => by
    simp only [Sm.same, Bool.and_eq_true, beq_iff_eq] at h
    obtain ⟨⟨⟨⟨⟨⟨rfl, rfl⟩, rfl⟩, rfl⟩, h1⟩, h2⟩, h3⟩ := h
    rw [Ex.sames_eq e e' h1, Sm.sames_eq b b' h2, Sm.sames_eq c c' h3]
theorem Sm.sames_eq : ∀ l m : List Sm, Sm.sames l m = true → l = m
  | [], [], _ => rfl
  | a :: l, b :: m, h => by
    simp only [Sm.sames, Bool.and_eq_true] at h
    rw [Sm.same_eq a b h.1, Sm.sames_eq l m h.2]
  | [], _ :: _, h => by simp [Sm.sames] at h
  | _ :: _, [], h => by simp [Sm.sames] at h
end

theorem Ex.rows_len (l : List Ex) : (Ex.rows l).length = l.length := by simp [Ex.rows_eq]
theorem Sm.rows_len (l : List Sm) : (Sm.rows l).length = l.length := by simp [Sm.rows_eq]
theorem Ex.rows_at {l : List Ex} {i : Nat} {e : Ex} (h : l[i]? = some e) : (Ex.rows l)[i]? = some e.cells := by rw [Ex.rows_eq, List.getElem?_map, h]; rfl
theorem Sm.rows_at {l : List Sm} {i : Nat} {e : Sm} (h : l[i]? = some e) : (Sm.rows l)[i]? = some e.cells := by rw [Sm.rows_eq, List.getElem?_map, h]; rfl
theorem Ex.cells_shape (e : Ex) : ∃ a b c d, e.cells = [.int .i64 a, .int .i64 b, .str c, .sl 4 d] := by cases e; exact ⟨_, _, _, _, rfl⟩
theorem Sm.cells_shape (e : Sm) : ∃ a b c d f g h, e.cells = [.int .i64 a, .str b, .int .i64 c, .sl 4 d, .sl 7 f, .sl 7 g, .bool h] := by cases e; exact ⟨_, _, _, _, _, _, _, rfl⟩

theorem at_some {α : Type} {l : List α} {i : Nat} (h : i < l.length) : ∃ e, l[i]? = some e ∧ e ∈ l ∧ l.drop i = e :: l.drop (i + 1) := by
  refine ⟨l[i], List.getElem?_eq_getElem h, List.getElem_mem h, ?_⟩
  rw [List.drop_eq_getElem_cons h]

/-- The loop over the parts of two expressions. -/
theorem SameExpr_loop (call : CallF) (a0 a1 a2 b0 b1 b2 : V) (l m : List Ex) (hl : l.length ≤ 1000) (hm : m.length = l.length)
    (hf : ∀ e ∈ l, ∀ f, call n_flotsamref16_SameExpr [.agg e.cells, .agg f.cells] [] = some (.bool (e.same f), [])) (R : Option (V × Heap)) (k : List Item)
    (hret : ∀ φ' , Fr.get φ' 4 = .bool false → Ex.sames l m = false → retK k φ' [some [a0, a1, a2, .sl 4 (Ex.rows l)], some [b0, b1, b2, .sl 4 (Ex.rows m)]] = R)
    (hexit : ∀ φ', Ex.sames l m = true → M call k φ' [some [a0, a1, a2, .sl 4 (Ex.rows l)], some [b0, b1, b2, .sl 4 (Ex.rows m)]] = R) :
    ∀ (j i : Nat) (φ : Fr), i + j = l.length → Fr.get φ 2 = .ptr 0 0 → Fr.get φ 3 = .ptr 1 0 → Fr.get φ 5 = .int .i64 i → Ex.sames l m = Ex.sames (l.drop i) (m.drop i) →
      M call (.code l_flotsamref16_SameExpr_0 :: .blk 0 :: k) φ [some [a0, a1, a2, .sl 4 (Ex.rows l)], some [b0, b1, b2, .sl 4 (Ex.rows m)]] = R := by
  intro j
  induction j with
  | zero =>
    intro i φ hj h2 h3 h5 hs
    have hi : ¬ ((i : Int) < l.length) := by omega
    rw [List.drop_of_length_le (by omega), List.drop_of_length_le (by omega)] at hs
    have h := fun φ' => hexit φ' (by rw [hs]; rfl)
    rw [l_flotsamref16_SameExpr_0, M_loop, ← l_flotsamref16_SameExpr_0]
    simp [b_flotsamref16_SameExpr_0, h2, h3, h5, hi, Ex.rows_len, h]
  | succ j ih =>
    intro i φ hj h2 h3 h5 hs
    have hi : (i : Int) < l.length := by omega
    have hi' : (i : Int) < m.length := by omega
    obtain ⟨e, he, hmem, hd⟩ := at_some (l := l) (i := i) (by omega)
    obtain ⟨f, hf', hmem', hd'⟩ := at_some (l := m) (i := i) (by omega)
    have hre := Ex.rows_at he
    have hrf := Ex.rows_at hf'
    have hw : IntKind.i64.wrap ((i : Int) + 1) = ((i + 1 : Nat) : Int) := by rw [w64 (by omega) (by omega)]; rfl
    have hcall := hf e hmem f
    rw [hd, hd', Ex.sames] at hs
    obtain ⟨c0, c1, c2, c3, hc⟩ := e.cells_shape
    obtain ⟨d0, d1, d2, d3, hd0⟩ := f.cells_shape
    rw [hc, hd0] at hcall
    rw [hc] at hre
    rw [hd0] at hrf
    rw [l_flotsamref16_SameExpr_0, M_loop, ← l_flotsamref16_SameExpr_0]
    cases hb : e.same f with
    | false =>
      rw [hb, Bool.false_and] at hs
      rw [hb] at hcall
      simp [b_flotsamref16_SameExpr_0, h2, h3, h5, hi, Ex.rows_len, hi', hre, hrf, hcall]
      exact hret _ (by simp) hs
    | true =>
      rw [hb, Bool.true_and] at hs
      rw [hb] at hcall
      simp [b_flotsamref16_SameExpr_0, h2, h3, h5, hi, Ex.rows_len, hi', hre, hrf, hcall, hw]
      exact ih (i + 1) _ (by omega) (by simp [h2]) (by simp [h3]) (by simp) hs

theorem SameExpr_eq : ∀ (n : Nat) (a b : Ex), a.size ≤ n → n ≤ 1000 → eval tbl noExt n_flotsamref16_SameExpr [.agg a.cells, .agg b.cells] [] = some (.bool (a.same b), []) := by
  intro n
  induction n with
  | zero => intro a b h; cases a; simp only [Ex.size] at h; omega
  | succ n ih =>
    intro a b h hn
    obtain ⟨op, w, s, x⟩ := a
    obtain ⟨op', w', s', x'⟩ := b
    simp only [Ex.size] at h
    have hx := Ex.sizes_ge x
    have hf : ∀ e ∈ x, ∀ f, eval tbl noExt n_flotsamref16_SameExpr [.agg e.cells, .agg f.cells] [] = some (.bool (e.same f), []) := fun e he f => ih e f (by have := Ex.sizes_mem he; omega) (by omega)
    rw [eval_M rfl rfl t_flotsamref16_SameExpr rfl]
    by_cases h1 : op = op'
    · by_cases h2 : w = w'
      · by_cases h3 : s = s'
        · by_cases h4 : x.length = x'.length
          · have h4' : (x.length : Int) = x'.length := by omega
            simp [c_flotsamref16_SameExpr, Ex.cells, h1, h2, h3, h4', Ex.rows_len]
            refine SameExpr_loop _ _ _ _ _ _ _ x x' (by omega) h4.symm hf _ _ (fun φ' g hs => ?_) (fun φ' hs => ?_) x.length 0 _ (by omega) (by simp) (by simp) (by simp) (by simp)
            · simp [g, Ex.same, hs]
            · simp [r_flotsamref16_SameExpr_0, Ex.same, hs]
          · have h4' : ¬ (x.length : Int) = x'.length := by omega
            simp [c_flotsamref16_SameExpr, Ex.cells, h1, h2, h3, h4', Ex.rows_len, Ex.same, Ex.sames_len h4]
        · simp [c_flotsamref16_SameExpr, Ex.cells, h1, h2, h3, Ex.same]
      · simp [c_flotsamref16_SameExpr, Ex.cells, h1, h2, Ex.same]
    · simp [c_flotsamref16_SameExpr, Ex.cells, h1, Ex.same]

theorem SameStmt_loop (call : CallF) (a0 a1 a2 a4 a5 a6 b0 b1 b2 b4 b5 b6 : V) (l m : List Ex) (hl : l.length ≤ 1000) (hm : m.length = l.length)
    (hf : ∀ e ∈ l, ∀ f, call n_flotsamref16_SameExpr [.agg e.cells, .agg f.cells] [] = some (.bool (e.same f), [])) (R : Option (V × Heap)) (k : List Item)
    (hret : ∀ φ' , Fr.get φ' 4 = .bool false → Ex.sames l m = false → retK k φ' [some [a0, a1, a2, .sl 4 (Ex.rows l), a4, a5, a6], some [b0, b1, b2, .sl 4 (Ex.rows m), b4, b5, b6]] = R)
    (hexit : ∀ φ', Fr.get φ' 2 = .ptr 0 0 → Fr.get φ' 3 = .ptr 1 0 → Ex.sames l m = true → M call k φ' [some [a0, a1, a2, .sl 4 (Ex.rows l), a4, a5, a6], some [b0, b1, b2, .sl 4 (Ex.rows m), b4, b5, b6]] = R) :
    ∀ (j i : Nat) (φ : Fr), i + j = l.length → Fr.get φ 2 = .ptr 0 0 → Fr.get φ 3 = .ptr 1 0 → Fr.get φ 5 = .int .i64 i → Ex.sames l m = Ex.sames (l.drop i) (m.drop i) →
      M call (.code l_flotsamref16_SameStmt_0 :: .blk 0 :: k) φ [some [a0, a1, a2, .sl 4 (Ex.rows l), a4, a5, a6], some [b0, b1, b2, .sl 4 (Ex.rows m), b4, b5, b6]] = R := by
  intro j
  induction j with
  | zero =>
    intro i φ hj h2 h3 h5 hs
    have hi : ¬ ((i : Int) < l.length) := by omega
    rw [List.drop_of_length_le (by omega), List.drop_of_length_le (by omega)] at hs
    rw [l_flotsamref16_SameStmt_0, M_loop, ← l_flotsamref16_SameStmt_0]
    simp [b_flotsamref16_SameStmt_0, h2, h3, h5, hi, Ex.rows_len]
    exact hexit _ (by simp [h2]) (by simp [h3]) (by rw [hs]; rfl)
  | succ j ih =>
    intro i φ hj h2 h3 h5 hs
    have hi : (i : Int) < l.length := by omega
    have hi' : (i : Int) < m.length := by omega
    obtain ⟨e, he, hmem, hd⟩ := at_some (l := l) (i := i) (by omega)
    obtain ⟨f, hf', hmem', hd'⟩ := at_some (l := m) (i := i) (by omega)
    have hre := Ex.rows_at he
    have hrf := Ex.rows_at hf'
    have hw : IntKind.i64.wrap ((i : Int) + 1) = ((i + 1 : Nat) : Int) := by rw [w64 (by omega) (by omega)]; rfl
    have hcall := hf e hmem f
    rw [hd, hd', Ex.sames] at hs
    obtain ⟨c0, c1, c2, c3, hc⟩ := e.cells_shape
    obtain ⟨d0, d1, d2, d3, hd0⟩ := f.cells_shape
    rw [hc, hd0] at hcall
    rw [hc] at hre
    rw [hd0] at hrf
    rw [l_flotsamref16_SameStmt_0, M_loop, ← l_flotsamref16_SameStmt_0]
    cases hb : e.same f with
    | false =>
      rw [hb, Bool.false_and] at hs
      rw [hb] at hcall
      simp [b_flotsamref16_SameStmt_0, h2, h3, h5, hi, Ex.rows_len, hi', hre, hrf, hcall]
      exact hret _ (by simp) hs
    | true =>
      rw [hb, Bool.true_and] at hs
      rw [hb] at hcall
      simp [b_flotsamref16_SameStmt_0, h2, h3, h5, hi, Ex.rows_len, hi', hre, hrf, hcall, hw]
      exact ih (i + 1) _ (by omega) (by simp [h2]) (by simp [h3]) (by simp) hs

theorem SameStmts_loop (call : CallF) (l m : List Sm) (hl : l.length ≤ 1000) (hm : m.length = l.length)
    (hf : ∀ e ∈ l, ∀ f, call n_flotsamref16_SameStmt [.agg e.cells, .agg f.cells] [] = some (.bool (e.same f), [])) (R : Option (V × Heap)) (k : List Item)
    (hret : ∀ φ' , Fr.get φ' 4 = .bool false → Sm.sames l m = false → retK k φ' [] = R)
    (hexit : ∀ φ', Sm.sames l m = true → M call k φ' [] = R) :
    ∀ (j i : Nat) (φ : Fr), i + j = l.length → Fr.get φ 0 = .sl 7 (Sm.rows l) → Fr.get φ 1 = .sl 7 (Sm.rows m) → Fr.get φ 5 = .int .i64 i → Sm.sames l m = Sm.sames (l.drop i) (m.drop i) →
      M call (.code l_flotsamref16_SameStmts_0 :: .blk 0 :: k) φ [] = R := by
  intro j
  induction j with
  | zero =>
    intro i φ hj h2 h3 h5 hs
    have hi : ¬ ((i : Int) < l.length) := by omega
    rw [List.drop_of_length_le (by omega), List.drop_of_length_le (by omega)] at hs
    rw [l_flotsamref16_SameStmts_0, M_loop, ← l_flotsamref16_SameStmts_0]
    simp [b_flotsamref16_SameStmts_0, h2, h3, h5, hi, Sm.rows_len]
    exact hexit _ (by rw [hs]; rfl)
  | succ j ih =>
    intro i φ hj h2 h3 h5 hs
    have hi : (i : Int) < l.length := by omega
    have hi' : (i : Int) < m.length := by omega
    obtain ⟨e, he, hmem, hd⟩ := at_some (l := l) (i := i) (by omega)
    obtain ⟨f, hf', hmem', hd'⟩ := at_some (l := m) (i := i) (by omega)
    have hre := Sm.rows_at he
    have hrf := Sm.rows_at hf'
    have hw : IntKind.i64.wrap ((i : Int) + 1) = ((i + 1 : Nat) : Int) := by rw [w64 (by omega) (by omega)]; rfl
    have hcall := hf e hmem f
    rw [hd, hd', Sm.sames] at hs
    obtain ⟨c0, c1, c2, c3, c4, c5, c6, hc⟩ := e.cells_shape
    obtain ⟨d0, d1, d2, d3, d4, d5, d6, hd0⟩ := f.cells_shape
    rw [hc, hd0] at hcall
    rw [hc] at hre
    rw [hd0] at hrf
    rw [l_flotsamref16_SameStmts_0, M_loop, ← l_flotsamref16_SameStmts_0]
    cases hb : e.same f with
    | false =>
      rw [hb, Bool.false_and] at hs
      rw [hb] at hcall
      simp [b_flotsamref16_SameStmts_0, h2, h3, h5, hi, Sm.rows_len, hi', hre, hrf, hcall]
      exact hret _ (by simp) hs
    | true =>
      rw [hb, Bool.true_and] at hs
      rw [hb] at hcall
      simp [b_flotsamref16_SameStmts_0, h2, h3, h5, hi, Sm.rows_len, hi', hre, hrf, hcall, hw]
      exact ih (i + 1) _ (by omega) (by simp [h2]) (by simp [h3]) (by simp) hs

theorem SameStmts_step (l m : List Sm) (hl : l.length ≤ 1000)
    (hf : ∀ e ∈ l, ∀ f, eval tbl noExt n_flotsamref16_SameStmt [.agg e.cells, .agg f.cells] [] = some (.bool (e.same f), [])) :
    eval tbl noExt n_flotsamref16_SameStmts [.sl 7 (Sm.rows l), .sl 7 (Sm.rows m)] [] = some (.bool (Sm.sames l m), []) := by
  rw [eval_M rfl rfl t_flotsamref16_SameStmts rfl]
  by_cases h4 : l.length = m.length
  · have h4' : (l.length : Int) = m.length := by omega
    simp [c_flotsamref16_SameStmts, h4', Sm.rows_len]
    refine SameStmts_loop _ l m (by omega) h4.symm hf _ _ (fun φ' g hs => ?_) (fun φ' hs => ?_) l.length 0 _ (by omega) (by simp) (by simp) (by simp) (by simp)
    · simp [g, hs]
    · simp [r_flotsamref16_SameStmts_0, hs]
  · have h4' : ¬ (l.length : Int) = m.length := by omega
    simp [c_flotsamref16_SameStmts, h4', Sm.rows_len, Sm.sames_len h4]

theorem SameStmt_eq : ∀ (n : Nat) (a b : Sm), a.size ≤ n → n ≤ 1000 → eval tbl noExt n_flotsamref16_SameStmt [.agg a.cells, .agg b.cells] [] = some (.bool (a.same b), []) := by
  intro n
  induction n with
  | zero => intro a b h; cases a; simp only [Sm.size] at h; omega
  | succ n ih =>
    intro a b h hn
    obtain ⟨op, s, w, x, y, z, g⟩ := a
    obtain ⟨op', s', w', x', y', z', g'⟩ := b
    simp only [Sm.size] at h
    have hx := Ex.sizes_ge x
    have hy := Sm.sizes_ge y
    have hz := Sm.sizes_ge z
    have hf : ∀ e ∈ x, ∀ f, eval tbl noExt n_flotsamref16_SameExpr [.agg e.cells, .agg f.cells] [] = some (.bool (e.same f), []) := fun e he f => SameExpr_eq 1000 e f (by have := Ex.sizes_mem he; omega) (by omega)
    have e1 := SameStmts_step y y' (by omega) (fun e he f => ih e f (by have := Sm.sizes_mem he; omega) (by omega))
    have e2 := SameStmts_step z z' (by omega) (fun e he f => ih e f (by have := Sm.sizes_mem he; omega) (by omega))
    rw [eval_M rfl rfl t_flotsamref16_SameStmt rfl]
    by_cases h1 : op = op'
    · by_cases h2 : s = s'
      · by_cases h3 : w = w'
        · by_cases h5 : g = g'
          · by_cases h4 : x.length = x'.length
            · have h4' : (x.length : Int) = x'.length := by omega
              simp [c_flotsamref16_SameStmt, Sm.cells, h1, h2, h3, h4', h5, Ex.rows_len]
              refine SameStmt_loop _ _ _ _ _ _ _ _ _ _ _ _ _ x x' (by omega) h4.symm hf _ _ (fun φ' q hs => ?_) (fun φ' q2 q3 hs => ?_) x.length 0 _ (by omega) (by simp) (by simp) (by simp) (by simp)
              · simp [q, Sm.same, hs]
              · cases hv : Sm.sames y y' <;> simp [r_flotsamref16_SameStmt_0, Sm.same, hs, q2, q3, e1, e2, hv]
            · have h4' : ¬ (x.length : Int) = x'.length := by omega
              simp [c_flotsamref16_SameStmt, Sm.cells, h1, h2, h3, h4', h5, Ex.rows_len, Sm.same, Ex.sames_len h4]
          · simp [c_flotsamref16_SameStmt, Sm.cells, h1, h2, h3, h5, Sm.same]
        · simp [c_flotsamref16_SameStmt, Sm.cells, h1, h2, h3, Sm.same]
      · simp [c_flotsamref16_SameStmt, Sm.cells, h1, h2, Sm.same]
    · simp [c_flotsamref16_SameStmt, Sm.cells, h1, Sm.same]

theorem SameStmts_eq (l m : List Sm) (hl : l.length ≤ 1000) (he : ∀ e ∈ l, e.size ≤ 1000) :
    eval tbl noExt n_flotsamref16_SameStmts [.sl 7 (Sm.rows l), .sl 7 (Sm.rows m)] [] = some (.bool (Sm.sames l m), []) :=
  SameStmts_step l m hl fun e h f => SameStmt_eq 1000 e f (he e h) (Nat.le_refl _)


/-! The document's lists. -/
theorem Sm.rows_append (a b : List Sm) : Sm.rows (a ++ b) = Sm.rows a ++ Sm.rows b := by simp [Sm.rows_eq]

end Go.AM.Spec

namespace Go.AM.Spec
set_option linter.unusedVariables false
set_option linter.unusedSimpArgs false
set_option maxHeartbeats 1000000

mutual
/-- Are all texts short? -/
def Ex.txt : Ex → Prop
  | .mk _ _ s x => s.length ≤ 300 ∧ Ex.txts x
def Ex.txts : List Ex → Prop
  | [] => True
  | e :: l => e.txt ∧ Ex.txts l
end
mutual
def Sm.txt : Sm → Prop
  | .mk _ s _ e b c _ => s.length ≤ 300 ∧ Ex.txts e ∧ Sm.txts b ∧ Sm.txts c
def Sm.txts : List Sm → Prop
  | [] => True
  | e :: l => e.txt ∧ Sm.txts l
end

theorem Ex.sizes_append (a b : List Ex) : Ex.sizes (a ++ b) = Ex.sizes a + Ex.sizes b := by
  induction a with
  | nil => simp [Ex.sizes]
  | cons e l ih => simp only [List.cons_append, Ex.sizes, ih]; omega
theorem Ex.txts_append {a b : List Ex} : Ex.txts (a ++ b) ↔ Ex.txts a ∧ Ex.txts b := by
  induction a with
  | nil => simp [Ex.txts]
  | cons e l ih => simp only [List.cons_append, Ex.txts, ih, and_assoc]
theorem Sm.txts_append {a b : List Sm} : Sm.txts (a ++ b) ↔ Sm.txts a ∧ Sm.txts b := by
  induction a with
  | nil => simp [Sm.txts]
  | cons e l ih => simp only [List.cons_append, Sm.txts, ih, and_assoc]

theorem take_next {α : Type} {l : List α} {i : Nat} {e : α} (h : l[i]? = some e) : l.take (i + 1) = l.take i ++ [e] := by
  rw [List.take_add_one, h]; rfl

def SzE (e : Ex) : Prop := ∀ left : Int, -1000 ≤ left → left ≤ 1000 → ∃ r : Int, eval tbl noExt n_flotsamref16_expr [.agg e.cells, .int .i64 left] [] = some (.int .i64 r, []) ∧ -1000 ≤ r ∧ r ≤ 1001 ∧ (r ≤ left → r = e.size ∧ e.txt)
def SzB (l : List Sm) : Prop := ∀ left : Int, -1000 ≤ left → left ≤ 1000 → ∃ r : Int, eval tbl noExt n_flotsamref16_block [.sl 7 (Sm.rows l), .int .i64 left] [] = some (.int .i64 r, []) ∧ -1000 ≤ r ∧ r ≤ 1001 ∧ (r ≤ left → r = Sm.sizes l ∧ Sm.txts l)

theorem wi {n : Int} (h1 : -100000 ≤ n) (h2 : n ≤ 100000) : IntKind.i64.wrap n = n := w64 (by omega) (by omega)

theorem expr_loop (a0 a1 a2 : V) (l : List Ex) (left : Int) (h1l : left ≤ 1000) (hf : ∀ e ∈ l, SzE e) (Q : Option (V × Heap) → Prop) (k : List Item)
    (hret : ∀ φ', Fr.get φ' 4 = .int .i64 (left + 1) → Q (retK k φ' [some [a0, a1, a2, .sl 4 (Ex.rows l)]]))
    (hexit : ∀ φ', Fr.get φ' 5 = .int .i64 (1 + Ex.sizes l) → 1 + (Ex.sizes l : Int) ≤ left → Ex.txts l → Q (M (eval tbl noExt) k φ' [some [a0, a1, a2, .sl 4 (Ex.rows l)]])) :
    ∀ (j i : Nat) (φ : Fr), i + j = l.length → 1 + (Ex.sizes (l.take i) : Int) ≤ left → Ex.txts (l.take i) → Fr.get φ 1 = .int .i64 left → Fr.get φ 2 = .ptr 0 0 → Fr.get φ 5 = .int .i64 (1 + Ex.sizes (l.take i)) → Fr.get φ 6 = .int .i64 i →
      Q (M (eval tbl noExt) (.code l_flotsamref16_expr_0 :: .blk 0 :: k) φ [some [a0, a1, a2, .sl 4 (Ex.rows l)]]) := by
  intro j
  induction j with
  | zero =>
    intro i φ hj hle ht h1 h2 h5 h6
    have hi : ¬ ((i : Int) < l.length) := by omega
    rw [List.take_of_length_le (by omega)] at hle ht h5
    rw [l_flotsamref16_expr_0, M_loop, ← l_flotsamref16_expr_0]
    simp [b_flotsamref16_expr_0, h1, h2, h5, h6, hi, Ex.rows_len]
    exact hexit _ (by simp [h5]) hle ht
  | succ j ih =>
    intro i φ hj hle ht h1 h2 h5 h6
    have hi : (i : Int) < l.length := by omega
    obtain ⟨e, he, hmem, hd⟩ := at_some (l := l) (i := i) (by omega)
    have hre := Ex.rows_at he
    have hi2 := Ex.sizes_ge (l.take i)
    rw [List.length_take, Nat.min_eq_left (by omega)] at hi2
    have hw : IntKind.i64.wrap ((i : Int) + 1) = ((i + 1 : Nat) : Int) := by rw [wi (by omega) (by omega)]; rfl
    obtain ⟨r, hr, hr0, hr1, hr2⟩ := hf e hmem (left - (1 + Ex.sizes (l.take i))) (by omega) (by omega)
    obtain ⟨c0, c1, c2, c3, hc⟩ := e.cells_shape
    rw [hc] at hr hre
    have hw1 : IntKind.i64.wrap (left - (1 + (Ex.sizes (l.take i) : Int))) = left - (1 + (Ex.sizes (l.take i) : Int)) := wi (by omega) (by omega)
    have hw2 : IntKind.i64.wrap (1 + (Ex.sizes (l.take i) : Int) + r) = 1 + (Ex.sizes (l.take i) : Int) + r := wi (by omega) (by omega)
    have hw3 : IntKind.i64.wrap (left + 1) = left + 1 := wi (by omega) (by omega)
    have hnext := take_next he
    rw [l_flotsamref16_expr_0, M_loop, ← l_flotsamref16_expr_0]
    by_cases hgt : left < 1 + (Ex.sizes (l.take i) : Int) + r
    · simp [b_flotsamref16_expr_0, h1, h2, h5, h6, hi, Ex.rows_len, hre, hw1, hr, hw2, hgt, hw3, lt_flotsamref16_expr]
      exact hret _ (by simp)
    · obtain ⟨hr3, hr4⟩ := hr2 (by omega)
      have hsz : 1 + (Ex.sizes (l.take i) : Int) + r = 1 + (Ex.sizes (l.take (i + 1)) : Int) := by
        rw [hnext, Ex.sizes_append]; simp only [Ex.sizes]; omega
      simp [b_flotsamref16_expr_0, h1, h2, h5, h6, hi, Ex.rows_len, hre, hw1, hr, hw2, hgt, hw, lt_flotsamref16_expr]
      refine ih (i + 1) _ (by omega) (by omega) (by rw [hnext, Ex.txts_append]; exact ⟨ht, hr4, trivial⟩) (by simp [h1]) (by simp [h2]) (by simp [hsz]) (by simp)

theorem expr_ok : ∀ (n : Nat) (e : Ex), e.size ≤ n → SzE e := by
  intro n
  induction n with
  | zero => intro e h; cases e; simp only [Ex.size] at h; omega
  | succ n ih =>
    intro e h left hl0 hl1
    obtain ⟨op, w, s, x⟩ := e
    simp only [Ex.size] at h
    have hw3 : IntKind.i64.wrap (left + 1) = left + 1 := wi (by omega) (by omega)
    rw [eval_M rfl rfl t_flotsamref16_expr rfl]
    by_cases h1 : left < 1
    · refine ⟨left + 1, ?_, by omega, by omega, fun h => by omega⟩
      simp [c_flotsamref16_expr, Ex.cells, h1, hw3]
    · by_cases h2 : 300 < s.length
      · have h2' : (300 : Int) < s.length := by omega
        refine ⟨left + 1, ?_, by omega, by omega, fun h => by omega⟩
        simp [c_flotsamref16_expr, Ex.cells, h1, h2', hw3]
      · have h2' : ¬ (300 : Int) < s.length := by omega
        simp [c_flotsamref16_expr, Ex.cells, h1, h2']
        refine expr_loop _ _ _ x left hl1 (fun e he => ih e (by have := Ex.sizes_mem he; omega)) (fun o => ∃ r : Int, o = some (.int .i64 r, []) ∧ -1000 ≤ r ∧ r ≤ 1001 ∧ (r ≤ left → r = (Ex.mk op w s x).size ∧ (Ex.mk op w s x).txt)) _ (fun φ' g => ?_) (fun φ' g hle ht => ?_) x.length 0 _ (by omega) (by simp [Ex.sizes]; omega) (by simp [Ex.txts]) (by simp) (by simp) (by simp [Ex.sizes]) (by simp)
        · exact ⟨left + 1, by simp [g], by omega, by omega, fun h => by omega⟩
        · refine ⟨1 + Ex.sizes x, by simp [r_flotsamref16_expr_0, g], by omega, by omega, fun h => ⟨by simp [Ex.size], ?_⟩⟩
          simp only [Ex.txt]
          exact ⟨by omega, ht⟩


/-- The expressions of a statement. -/
theorem block_inner (l : List Sm) (i0 : Nat) (op : Int) (s : List UInt8) (w : Int) (x : List Ex) (b c : List Sm) (g : Bool) (hi0 : (i0 : Int) < l.length) (hrow : (Sm.rows l)[i0]? = some (Sm.cells (.mk op s w x b c g))) (left n0 : Int) (hl0 : -1000 ≤ left) (h1l : left ≤ 1000) (hn0 : 0 ≤ n0) (Q : Option (V × Heap) → Prop) (k : List Item)
    (hret : ∀ φ', Fr.get φ' 4 = .int .i64 (left + 1) → Q (retK k φ' []))
    (hexit : ∀ φ', Fr.get φ' 0 = .sl 7 (Sm.rows l) → Fr.get φ' 1 = .int .i64 left → Fr.get φ' 6 = .int .i64 i0 → Fr.get φ' 5 = .int .i64 (n0 + Ex.sizes x) → n0 + (Ex.sizes x : Int) ≤ left → Ex.txts x → Q (M (eval tbl noExt) k φ' [])) :
    ∀ (j i : Nat) (φ : Fr), i + j = x.length → n0 + (Ex.sizes (x.take i) : Int) ≤ left → Ex.txts (x.take i) → Fr.get φ 0 = .sl 7 (Sm.rows l) → Fr.get φ 1 = .int .i64 left → Fr.get φ 6 = .int .i64 i0 → Fr.get φ 5 = .int .i64 (n0 + Ex.sizes (x.take i)) → Fr.get φ 7 = .int .i64 i →
      Q (M (eval tbl noExt) (.code l_flotsamref16_block_0 :: .blk 2 :: k) φ []) := by
  simp only [Sm.cells] at hrow
  intro j
  induction j with
  | zero =>
    intro i φ hj hle ht h0 h1 h6 h5 h7
    have hi : ¬ ((i : Int) < x.length) := by omega
    rw [List.take_of_length_le (by omega)] at hle ht h5
    rw [l_flotsamref16_block_0, M_loop, ← l_flotsamref16_block_0]
    simp [b_flotsamref16_block_0, h0, h1, h5, h6, h7, hi, hi0, hrow, Ex.rows_len, Sm.rows_len]
    exact hexit _ (by simp [h0]) (by simp [h1]) (by simp [h6]) (by simp [h5]) hle ht
  | succ j ih =>
    intro i φ hj hle ht h0 h1 h6 h5 h7
    have hi : (i : Int) < x.length := by omega
    obtain ⟨e, he, hmem, hd⟩ := at_some (l := x) (i := i) (by omega)
    have hre := Ex.rows_at he
    have hi2 := Ex.sizes_ge (x.take i)
    rw [List.length_take, Nat.min_eq_left (by omega)] at hi2
    have hw : IntKind.i64.wrap ((i : Int) + 1) = ((i + 1 : Nat) : Int) := by rw [wi (by omega) (by omega)]; rfl
    obtain ⟨r, hr, hr0, hr1, hr2⟩ := expr_ok e.size e (Nat.le_refl _) (left - (n0 + Ex.sizes (x.take i))) (by omega) (by omega)
    obtain ⟨c0, c1, c2, c3, hc⟩ := e.cells_shape
    rw [hc] at hr hre
    have hw1 : IntKind.i64.wrap (left - (n0 + (Ex.sizes (x.take i) : Int))) = left - (n0 + (Ex.sizes (x.take i) : Int)) := wi (by omega) (by omega)
    have hw2 : IntKind.i64.wrap (n0 + (Ex.sizes (x.take i) : Int) + r) = n0 + (Ex.sizes (x.take i) : Int) + r := wi (by omega) (by omega)
    have hw3 : IntKind.i64.wrap (left + 1) = left + 1 := wi (by omega) (by omega)
    have hnext := take_next he
    rw [l_flotsamref16_block_0, M_loop, ← l_flotsamref16_block_0]
    by_cases hgt : left < n0 + (Ex.sizes (x.take i) : Int) + r
    · simp [b_flotsamref16_block_0, h0, h1, h5, h6, h7, hi, hi0, hrow, Ex.rows_len, Sm.rows_len, hre, hw1, hr, hw2, hgt, hw3, lt_flotsamref16_expr]
      exact hret _ (by simp)
    · obtain ⟨hr3, hr4⟩ := hr2 (by omega)
      have hsz : n0 + (Ex.sizes (x.take i) : Int) + r = n0 + (Ex.sizes (x.take (i + 1)) : Int) := by
        rw [hnext, Ex.sizes_append]; simp only [Ex.sizes]; omega
      simp [b_flotsamref16_block_0, h0, h1, h5, h6, h7, hi, hi0, hrow, Ex.rows_len, Sm.rows_len, hre, hw1, hr, hw2, hgt, hw, lt_flotsamref16_expr]
      refine ih (i + 1) _ (by omega) (by omega) (by rw [hnext, Ex.txts_append]; exact ⟨ht, hr4, trivial⟩) (by simp [h0]) (by simp [h1]) (by simp [h6]) (by simp [hsz]) (by simp)

theorem block_loop (l : List Sm) (left : Int) (hl0 : -1000 ≤ left) (h1l : left ≤ 1000) (hf : ∀ e ∈ l, ∀ b ∈ e.blocks, SzB b) (Q : Option (V × Heap) → Prop) (k : List Item)
    (hret : ∀ φ', Fr.get φ' 4 = .int .i64 (left + 1) → Q (retK k φ' []))
    (hexit : ∀ φ', Fr.get φ' 5 = .int .i64 (Sm.sizes l) → (Sm.sizes l : Int) ≤ 1000 → Sm.txts l → Q (M (eval tbl noExt) k φ' [])) :
    ∀ (j i : Nat) (φ : Fr), i + j = l.length → (Sm.sizes (l.take i) : Int) ≤ 1000 → Sm.txts (l.take i) → Fr.get φ 0 = .sl 7 (Sm.rows l) → Fr.get φ 1 = .int .i64 left → Fr.get φ 5 = .int .i64 (Sm.sizes (l.take i)) → Fr.get φ 6 = .int .i64 i →
      Q (M (eval tbl noExt) (.code l_flotsamref16_block_1 :: .blk 0 :: k) φ []) := by
  intro j
  induction j with
  | zero =>
    intro i φ hj hle ht h0 h1 h5 h6
    have hi : ¬ ((i : Int) < l.length) := by omega
    rw [List.take_of_length_le (by omega)] at hle ht h5
    rw [l_flotsamref16_block_1, M_loop, ← l_flotsamref16_block_1]
    simp [b_flotsamref16_block_1, h0, h1, h5, h6, hi, Sm.rows_len]
    exact hexit _ (by simp [h5]) hle ht
  | succ j ih =>
    intro i φ hj hle ht h0 h1 h5 h6
    have hi : (i : Int) < l.length := by omega
    obtain ⟨e, he, hmem, hd⟩ := at_some (l := l) (i := i) (by omega)
    have hre := Sm.rows_at he
    have hi2 := Sm.sizes_ge (l.take i)
    rw [List.length_take, Nat.min_eq_left (by omega)] at hi2
    have hw : IntKind.i64.wrap ((i : Int) + 1) = ((i + 1 : Nat) : Int) := by rw [wi (by omega) (by omega)]; rfl
    have hfe := hf e hmem
    have hnext := take_next he
    obtain ⟨op, s, w, x, b, c, g⟩ := e
    have hre' := hre
    simp only [Sm.cells] at hre
    have hw1 : IntKind.i64.wrap ((Sm.sizes (l.take i) : Int) + 1) = (Sm.sizes (l.take i) : Int) + 1 := wi (by omega) (by omega)
    have hw3 : IntKind.i64.wrap (left + 1) = left + 1 := wi (by omega) (by omega)
    rw [l_flotsamref16_block_1, M_loop, ← l_flotsamref16_block_1]
    by_cases hgt : left < (Sm.sizes (l.take i) : Int) + 1
    · simp [b_flotsamref16_block_1, h0, h1, h5, h6, hi, Sm.rows_len, hre, hw1, hgt, hw3]
      exact hret _ (by simp)
    by_cases hs : 300 < s.length
    · have hs' : (300 : Int) < s.length := by omega
      simp [b_flotsamref16_block_1, h0, h1, h5, h6, hi, Sm.rows_len, hre, hw1, hgt, hw3, hs']
      exact hret _ (by simp)
    have hs' : ¬ (300 : Int) < s.length := by omega
    simp [b_flotsamref16_block_1, h0, h1, h5, h6, hi, Sm.rows_len, hre, hw1, hgt, hw3, hs']
    refine block_inner l i op s w x b c g hi hre' left ((Sm.sizes (l.take i) : Int) + 1) hl0 h1l (by omega) Q _ (fun φ' q => ?_) (fun φ' q0 q1 q6 q5 qle qt => ?_) x.length 0 _ (by omega) (by simp [Ex.sizes]; omega) (by simp [Ex.txts]) (by simp [h0]) (by simp [h1]) (by simp [h6]) (by simp [Ex.sizes]) (by simp)
    · simp
      exact hret _ q
    · obtain ⟨r, hr, hr0, hr1, hr2⟩ := hfe b (by simp [Sm.blocks]) (left - ((Sm.sizes (l.take i) : Int) + 1 + Ex.sizes x)) (by omega) (by omega)
      have hw4 : IntKind.i64.wrap (left - ((Sm.sizes (l.take i) : Int) + 1 + Ex.sizes x)) = left - ((Sm.sizes (l.take i) : Int) + 1 + Ex.sizes x) := wi (by omega) (by omega)
      have hw5 : IntKind.i64.wrap ((Sm.sizes (l.take i) : Int) + 1 + Ex.sizes x + r) = (Sm.sizes (l.take i) : Int) + 1 + Ex.sizes x + r := wi (by omega) (by omega)
      by_cases hgt2 : left < (Sm.sizes (l.take i) : Int) + 1 + Ex.sizes x + r
      · simp [r_flotsamref16_block_0, q0, q1, q5, q6, hi, Sm.rows_len, hre, hw4, hr, hw5, hgt2, hw3, lt_flotsamref16_block]
        exact hret _ (by simp)
      obtain ⟨hr3, hr4⟩ := hr2 (by omega)
      obtain ⟨t, ht1, ht0, ht2, ht3⟩ := hfe c (by simp [Sm.blocks]) (left - ((Sm.sizes (l.take i) : Int) + 1 + Ex.sizes x + r)) (by omega) (by omega)
      have hw6 : IntKind.i64.wrap (left - ((Sm.sizes (l.take i) : Int) + 1 + Ex.sizes x + r)) = left - ((Sm.sizes (l.take i) : Int) + 1 + Ex.sizes x + r) := wi (by omega) (by omega)
      have hw7 : IntKind.i64.wrap ((Sm.sizes (l.take i) : Int) + 1 + Ex.sizes x + r + t) = (Sm.sizes (l.take i) : Int) + 1 + Ex.sizes x + r + t := wi (by omega) (by omega)
      by_cases hgt3 : left < (Sm.sizes (l.take i) : Int) + 1 + Ex.sizes x + r + t
      · simp [r_flotsamref16_block_0, q0, q1, q5, q6, hi, Sm.rows_len, hre, hw4, hr, hw5, hgt2, hw3, lt_flotsamref16_block, hw6, ht1, hw7, hgt3]
        exact hret _ (by simp)
      obtain ⟨ht4, ht5⟩ := ht3 (by omega)
      have hsz : (Sm.sizes (l.take i) : Int) + 1 + Ex.sizes x + r + t = (Sm.sizes (l.take (i + 1)) : Int) := by
        rw [hnext, _root_.Go.AM.Spec.sizes_append]; simp only [Sm.sizes, Sm.size]; omega
      simp [r_flotsamref16_block_0, q0, q1, q5, q6, hi, Sm.rows_len, hre, hw4, hr, hw5, hgt2, hw3, lt_flotsamref16_block, hw6, ht1, hw7, hgt3, r_flotsamref16_block_1, hw]
      refine ih (i + 1) _ (by omega) (by omega) (by rw [hnext, Sm.txts_append]; exact ⟨ht, ⟨by omega, qt, hr4, ht5⟩, trivial⟩) (by simp [q0]) (by simp [q1]) (by simp [hsz]) (by simp)

theorem block_step (l : List Sm) (hf : ∀ e ∈ l, ∀ b ∈ e.blocks, SzB b) : SzB l := by
  intro left hl0 hl1
  rw [eval_M rfl rfl t_flotsamref16_block rfl]
  simp [c_flotsamref16_block]
  refine block_loop l left hl0 hl1 hf (fun o => ∃ r : Int, o = some (.int .i64 r, []) ∧ -1000 ≤ r ∧ r ≤ 1001 ∧ (r ≤ left → r = Sm.sizes l ∧ Sm.txts l)) _ (fun φ' g => ?_) (fun φ' g hle ht => ?_) l.length 0 _ (by omega) (by simp [Sm.sizes]) (by simp [Sm.txts]) (by simp) (by simp) (by simp [Sm.sizes]) (by simp)
  · exact ⟨left + 1, by simp [g], by omega, by omega, fun h => by omega⟩
  · exact ⟨Sm.sizes l, by simp [r_flotsamref16_block_2, g], by omega, by omega, fun h => ⟨rfl, ht⟩⟩

theorem block_ok : ∀ (n : Nat) (l : List Sm), Sm.sizes l ≤ n → SzB l := by
  intro n
  induction n with
  | zero =>
    intro l hl
    have h0 : l = [] := by
      have := Sm.sizes_ge l
      exact List.length_eq_zero_iff.1 (by omega)
    subst h0
    exact block_step [] (by simp)
  | succ n ih =>
    intro l hl
    refine block_step l fun e he b hb => ih b ?_
    have h1 := Sm.sizes_mem he
    obtain ⟨op, w, m, ee, b1, b2, g⟩ := e
    simp only [Sm.size] at h1
    simp only [Sm.blocks, List.mem_cons, List.not_mem_nil, or_false] at hb
    rcases hb with rfl | rfl <;> omega


def Pg.bodies (p : Pg) : List (List Sm) := p.procs.map (·.2)
def Pg.exprs (p : Pg) : List Ex := p.oracles.map (·.2)

theorem Pg.size_eq (p : Pg) : p.size = p.procs.length + p.oracles.length + Sm.sizes p.bodies.flatten + Sm.sizes p.main + Sm.sizes p.recover + Ex.sizes p.exprs := by
  have h : ∀ l : List (List UInt8 × List Sm), Sm.sizes (l.map (·.2)).flatten + l.length = (l.map fun x => 1 + Sm.sizes x.2).sum := by
    intro l
    induction l with
    | nil => rfl
    | cons x l ih => simp only [List.map_cons, List.flatten_cons, Go.AM.Spec.sizes_append, List.length_cons, List.sum_cons]; omega
  have h2 : ∀ l : List (List UInt8 × Ex), Ex.sizes (l.map (·.2)) + l.length = (l.map fun x => 1 + x.2.size).sum := by
    intro l
    induction l with
    | nil => rfl
    | cons x l ih => simp only [List.map_cons, Ex.sizes, List.length_cons, List.sum_cons]; omega
  have := h p.procs
  have := h2 p.oracles
  simp only [Pg.size, Pg.psize, Pg.osize, Pg.bodies, Pg.exprs]
  omega

/-- Are all its texts short? -/
def Pg.txt (p : Pg) : Prop := (∀ x ∈ p.procs, x.1.length ≤ 300 ∧ Sm.txts x.2) ∧ Sm.txts p.main ∧ Sm.txts p.recover ∧ (∀ x ∈ p.oracles, x.1.length ≤ 300 ∧ x.2.txt)

theorem Pg.orow {p : Pg} {i : Nat} {e : List UInt8 × Ex} (he : p.oracles[i]? = some e) : p.ocells[i]? = some (.str e.1 :: e.2.cells) := by rw [Pg.ocells, List.getElem?_map, he]; rfl

theorem Size_loop0 (p : Pg) (left : Int) (hl0 : 0 ≤ left) (h1l : left ≤ 1000) (hpl : (p.procs.length : Int) ≤ left) (hol : (p.oracles.length : Int) ≤ left) (Q : Option (V × Heap) → Prop) (k : List Item)
    (hret : ∀ φ', Fr.get φ' 4 = .int .i64 (left + 1) → Q (retK k φ' [some p.cells]))
    (hexit : ∀ φ' (n : Int), n = p.procs.length + p.oracles.length + Sm.sizes p.bodies.flatten → n ≤ left → (∀ x ∈ p.procs, x.1.length ≤ 300 ∧ Sm.txts x.2) → Fr.get φ' 1 = .int .i64 left → Fr.get φ' 2 = .ptr 0 0 → Fr.get φ' 5 = .int .i64 n → Q (M (eval tbl noExt) k φ' [some p.cells])) :
    ∀ (j i : Nat) (φ : Fr) (n : Int), i + j = p.procs.length → n = p.procs.length + p.oracles.length + Sm.sizes (p.bodies.take i).flatten → (n ≤ left ∨ i = 0) → (∀ x ∈ p.procs.take i, x.1.length ≤ 300 ∧ Sm.txts x.2) → Fr.get φ 1 = .int .i64 left → Fr.get φ 2 = .ptr 0 0 → Fr.get φ 5 = .int .i64 n → Fr.get φ 6 = .int .i64 i →
      Q (M (eval tbl noExt) (.code l_flotsamref16_Size_0 :: .blk 0 :: k) φ [some p.cells]) := by
  have hbl : p.bodies.length = p.procs.length := by simp [Pg.bodies]
  intro j
  induction j with
  | zero =>
    intro i φ n hj hn hle ht h1 h2 h5 h6
    have hi : ¬ ((i : Int) < p.procs.length) := by omega
    rw [List.take_of_length_le (by omega)] at hn
    rw [List.take_of_length_le (by omega)] at ht
    have hle' : n ≤ left := by
      rcases hle with h | h
      · exact h
      · have h0 : p.procs = [] := List.length_eq_zero_iff.1 (by omega)
        have h00 : p.bodies = [] := by rw [Pg.bodies, h0]; rfl
        rw [h0, h00] at hn
        simp only [List.length_nil, List.flatten_nil, Sm.sizes] at hn
        omega
    rw [l_flotsamref16_Size_0, M_loop, ← l_flotsamref16_Size_0]
    have hexit' := hexit
    simp only [Pg.cells] at hexit' ⊢
    simp [b_flotsamref16_Size_0, h1, h2, h5, h6, hi, Pg.pcells_len]
    exact hexit' _ n hn hle' ht (by simp [h1]) (by simp [h2]) (by simp [h5])
  | succ j ih =>
    intro i φ n hj hn hle ht h1 h2 h5 h6
    have hi : (i : Int) < p.procs.length := by omega
    obtain ⟨e, he, hmem, hd⟩ := at_some (l := p.procs) (i := i) (by omega)
    have hrow := p.prow he
    have hw : IntKind.i64.wrap ((i : Int) + 1) = ((i + 1 : Nat) : Int) := by rw [wi (by omega) (by omega)]; rfl
    have hb : p.bodies[i]? = some e.2 := by rw [Pg.bodies, List.getElem?_map, he]; rfl
    have hn0 : 0 ≤ n ∧ n ≤ 2000 := by
      rcases hle with h | h
      · omega
      · subst h
        simp only [List.take_zero, List.flatten_nil, Sm.sizes] at hn
        omega
    have hn1 : n - left ≤ 1000 := by
      rcases hle with h | h
      · omega
      · subst h
        simp only [List.take_zero, List.flatten_nil, Sm.sizes] at hn
        omega
    obtain ⟨r, hr, hr0, hr1, hr2⟩ := block_ok (Sm.sizes e.2) e.2 (Nat.le_refl _) (left - n) (by omega) (by omega)
    have hw1 : IntKind.i64.wrap (left - n) = left - n := wi (by omega) (by omega)
    have hw2 : IntKind.i64.wrap (n + r) = n + r := wi (by omega) (by omega)
    have hw3 : IntKind.i64.wrap (left + 1) = left + 1 := wi (by omega) (by omega)
    have hnext := take_next hb
    have hnext2 := take_next he
    rw [l_flotsamref16_Size_0, M_loop, ← l_flotsamref16_Size_0]
    have hret' := hret
    simp only [Pg.cells] at hret' ih ⊢
    by_cases hs : 300 < e.1.length
    · have hs' : (300 : Int) < e.1.length := by omega
      simp [b_flotsamref16_Size_0, h1, h2, h5, h6, hi, Pg.pcells_len, hrow, hw1, hr, hw2, hs', hw3, lt_flotsamref16_block]
      exact hret' _ (by simp)
    have hs' : ¬ (300 : Int) < e.1.length := by omega
    by_cases hgt : left < n + r
    · simp [b_flotsamref16_Size_0, h1, h2, h5, h6, hi, Pg.pcells_len, hrow, hw1, hr, hw2, hs', hw3, hgt, lt_flotsamref16_block]
      exact hret' _ (by simp)
    · obtain ⟨hr3, hr4⟩ := hr2 (by omega)
      simp [b_flotsamref16_Size_0, h1, h2, h5, h6, hi, Pg.pcells_len, hrow, hw1, hr, hw2, hs', hw, hgt, lt_flotsamref16_block]
      refine ih (i + 1) _ (n + r) (by omega) ?_ (Or.inl (by omega)) ?_ (by simp [h1]) (by simp [h2]) (by simp) (by simp)
      · rw [hnext, List.flatten_append, Go.AM.Spec.sizes_append]
        simp only [List.flatten_cons, List.flatten_nil, List.append_nil]
        omega
      · rw [hnext2]
        intro x hx
        rcases List.mem_append.1 hx with h | h
        · exact ht x h
        · rw [List.mem_singleton.1 h]
          exact ⟨by omega, hr4⟩

theorem Size_loop1 (p : Pg) (left N : Int) (hl0 : 0 ≤ left) (h1l : left ≤ 1000) (hol : (p.oracles.length : Int) ≤ left) (hN : 0 ≤ N) (Q : Option (V × Heap) → Prop) (k : List Item)
    (hret : ∀ φ', Fr.get φ' 4 = .int .i64 (left + 1) → Q (retK k φ' [some p.cells]))
    (hexit : ∀ φ' (n : Int), n ≤ 10000 → (n ≤ left → n = N + Ex.sizes p.exprs ∧ ∀ x ∈ p.oracles, x.1.length ≤ 300 ∧ x.2.txt) → Fr.get φ' 5 = .int .i64 n → Q (M (eval tbl noExt) k φ' [some p.cells])) :
    ∀ (j i : Nat) (φ : Fr) (n : Int), i + j = p.oracles.length → 0 ≤ n → n ≤ 10000 → (n ≤ left → n = N + Ex.sizes (p.exprs.take i) ∧ ∀ x ∈ p.oracles.take i, x.1.length ≤ 300 ∧ x.2.txt) → Fr.get φ 1 = .int .i64 left → Fr.get φ 2 = .ptr 0 0 → Fr.get φ 5 = .int .i64 n → Fr.get φ 7 = .int .i64 i →
      Q (M (eval tbl noExt) (.code l_flotsamref16_Size_1 :: .blk 2 :: k) φ [some p.cells]) := by
  have hbl : p.exprs.length = p.oracles.length := by simp [Pg.exprs]
  intro j
  induction j with
  | zero =>
    intro i φ n hj hn0 hn hle h1 h2 h5 h7
    have hi : ¬ ((i : Int) < p.oracles.length) := by omega
    rw [List.take_of_length_le (by omega), List.take_of_length_le (by omega)] at hle
    rw [l_flotsamref16_Size_1, M_loop, ← l_flotsamref16_Size_1]
    have hexit' := hexit
    simp only [Pg.cells] at hexit' ⊢
    simp [b_flotsamref16_Size_1, h1, h2, h5, h7, hi, Pg.ocells_len]
    exact hexit' _ n hn hle (by simp [h5])
  | succ j ih =>
    intro i φ n hj hn0 hn hle h1 h2 h5 h7
    have hi : (i : Int) < p.oracles.length := by omega
    have hexit' := hexit
    have hret' := hret
    simp only [Pg.cells] at hret' hexit' ih ⊢
    rw [l_flotsamref16_Size_1, M_loop, ← l_flotsamref16_Size_1]
    by_cases hgt : left < n
    · have hgt' : ¬ n ≤ left := by omega
      simp [b_flotsamref16_Size_1, h1, h2, h5, h7, hi, Pg.ocells_len, hgt']
      exact hexit' _ n hn (fun h => by omega) (by simp [h5])
    obtain ⟨hn1, hn2⟩ := hle (by omega)
    have hgt' : n ≤ left := by omega
    obtain ⟨e, he, hmem, hd⟩ := at_some (l := p.oracles) (i := i) (by omega)
    have hrow := p.orow he
    have hw : IntKind.i64.wrap ((i : Int) + 1) = ((i + 1 : Nat) : Int) := by rw [wi (by omega) (by omega)]; rfl
    have hb : p.exprs[i]? = some e.2 := by rw [Pg.exprs, List.getElem?_map, he]; rfl
    obtain ⟨r, hr, hr0, hr1, hr2⟩ := expr_ok e.2.size e.2 (Nat.le_refl _) (left - n) (by omega) (by omega)
    obtain ⟨c0, c1, c2, c3, hc⟩ := e.2.cells_shape
    rw [hc] at hr hrow
    have hw1 : IntKind.i64.wrap (left - n) = left - n := wi (by omega) (by omega)
    have hw2 : IntKind.i64.wrap (n + r) = n + r := wi (by omega) (by omega)
    have hw3 : IntKind.i64.wrap (left + 1) = left + 1 := wi (by omega) (by omega)
    have hnext := take_next hb
    have hnext2 := take_next he
    by_cases hs : 300 < e.1.length
    · have hs' : (300 : Int) < e.1.length := by omega
      simp [b_flotsamref16_Size_1, h1, h2, h5, h7, hi, Pg.ocells_len, hgt', hrow, hw1, hr, hw2, hs', hw3, lt_flotsamref16_expr]
      exact hret' _ (by simp)
    have hs' : ¬ (300 : Int) < e.1.length := by omega
    simp [b_flotsamref16_Size_1, h1, h2, h5, h7, hi, Pg.ocells_len, hgt', hrow, hw1, hr, hw2, hs', hw, lt_flotsamref16_expr]
    have hr5 : 0 ≤ r := by
      by_cases h : r ≤ left - n
      · have := (hr2 h).1; omega
      · omega
    refine ih (i + 1) _ (n + r) (by omega) (by omega) (by omega) (fun h => ?_) (by simp [h1]) (by simp [h2]) (by simp) (by simp)
    obtain ⟨hr3, hr4⟩ := hr2 (by omega)
    constructor
    · rw [hnext, Ex.sizes_append]
      simp only [Ex.sizes]
      omega
    · rw [hnext2]
      intro x hx
      rcases List.mem_append.1 hx with h | h
      · exact hn2 x h
      · rw [List.mem_singleton.1 h]
        exact ⟨by omega, hr4⟩

theorem Size_eq (p : Pg) (left : Int) (hl0 : 0 ≤ left) (h1l : left ≤ 1000) : ∃ r : Int, eval tbl noExt n_flotsamref16_Size [.agg p.cells, .int .i64 left] [] = some (.int .i64 r, []) ∧ (r ≤ left → (p.size : Int) ≤ left ∧ p.txt) := by
  have hw3 : IntKind.i64.wrap (left + 1) = left + 1 := wi (by omega) (by omega)
  have hmin : min left 1000 = left := by omega
  have hsz := p.size_eq
  rw [eval_M rfl rfl t_flotsamref16_Size rfl]
  by_cases hp : left < p.procs.length
  · refine ⟨left + 1, ?_, fun h => by omega⟩
    simp [c_flotsamref16_Size, Pg.cells, hmin, Pg.pcells_len, hp, hw3]
  by_cases ho : left < p.oracles.length
  · refine ⟨left + 1, ?_, fun h => by omega⟩
    simp [c_flotsamref16_Size, Pg.cells, hmin, Pg.pcells_len, Pg.ocells_len, hp, ho, hw3]
  have hw4 : IntKind.i64.wrap ((p.procs.length : Int) + p.oracles.length) = (p.procs.length : Int) + p.oracles.length := wi (by omega) (by omega)
  simp [c_flotsamref16_Size, Pg.cells, hmin, Pg.pcells_len, Pg.ocells_len, hp, ho, hw3, hw4]
  refine Size_loop0 p left hl0 h1l (by omega) (by omega) (fun o => ∃ r : Int, o = some (.int .i64 r, []) ∧ (r ≤ left → (p.size : Int) ≤ left ∧ p.txt)) _ (fun φ' g => ?_) (fun φ' n hn hle ht g1 g2 g5 => ?_) p.procs.length 0 _ ((p.procs.length : Int) + p.oracles.length) (by omega) (by simp [Sm.sizes]) (Or.inr rfl) (by simp) (by simp) (by simp) (by simp) (by simp)
  · exact ⟨left + 1, by simp [g], fun h => by omega⟩
  · have hn0 : 0 ≤ n := by omega
    obtain ⟨r, hr, hr0, hr1, hr2⟩ := block_ok (Sm.sizes p.main) p.main (Nat.le_refl _) (left - n) (by omega) (by omega)
    have hw5 : IntKind.i64.wrap (left - n) = left - n := wi (by omega) (by omega)
    have hw6 : IntKind.i64.wrap (n + r) = n + r := wi (by omega) (by omega)
    have hr5 : 0 ≤ r := by
      by_cases h : r ≤ left - n
      · have := (hr2 h).1; omega
      · omega
    have fin : ∀ (φ' : Fr) (m : Int), Fr.get φ' 5 = .int .i64 m → (m ≤ left → (p.size : Int) ≤ left ∧ p.txt) → ∃ r : Int, M (eval tbl noExt) [.code r_flotsamref16_Size_0, .fin [.t 4] 0] φ' [some p.cells] = some (.int .i64 r, []) ∧ (r ≤ left → (p.size : Int) ≤ left ∧ p.txt) := by
      intro φ' m h5 h
      exact ⟨m, by simp [r_flotsamref16_Size_0, h5], h⟩
    by_cases hgt : left < n + r
    · have hgt' : ¬ n + r ≤ left := by omega
      simp only [Pg.cells] at fin ⊢
      simp [r_flotsamref16_Size_1, g1, g2, g5, hw5, hr, hw6, hgt', lt_flotsamref16_block]
      refine Size_loop1 p left (left + 1) hl0 h1l (by omega) (by omega) (fun o => ∃ r : Int, o = some (.int .i64 r, []) ∧ (r ≤ left → (p.size : Int) ≤ left ∧ p.txt)) _ (fun φ' g => ?_) (fun φ' m hm0 hm hg5 => ?_) p.oracles.length 0 _ (n + r) (by omega) (by omega) (by omega) (fun h => by omega) (by simp [g1]) (by simp [g2]) (by simp) (by simp)
      · exact ⟨left + 1, by simp [g], fun h => by omega⟩
      · refine ⟨m, by simp [r_flotsamref16_Size_0, hg5], fun h => ?_⟩
        have := (hm h).1
        omega
    · have hgt' : n + r ≤ left := by omega
      obtain ⟨hr3, hr4⟩ := hr2 (by omega)
      obtain ⟨t, ht1, ht0, ht2, ht3⟩ := block_ok (Sm.sizes p.recover) p.recover (Nat.le_refl _) (left - (n + r)) (by omega) (by omega)
      have hw7 : IntKind.i64.wrap (left - (n + r)) = left - (n + r) := wi (by omega) (by omega)
      have hw8 : IntKind.i64.wrap (n + r + t) = n + r + t := wi (by omega) (by omega)
      have ht5 : 0 ≤ t := by
        by_cases h : t ≤ left - (n + r)
        · have := (ht3 h).1; omega
        · omega
      simp only [Pg.cells] at fin ⊢
      simp [r_flotsamref16_Size_1, g1, g2, g5, hw5, hr, hw6, hgt', lt_flotsamref16_block, hw7, ht1, hw8]
      refine Size_loop1 p left (if left < n + r + t then left + 1 else n + r + t) hl0 h1l (by omega) (by split <;> omega) (fun o => ∃ r : Int, o = some (.int .i64 r, []) ∧ (r ≤ left → (p.size : Int) ≤ left ∧ p.txt)) _ (fun φ' g => ?_) (fun φ' m hm0 hm hg5 => ?_) p.oracles.length 0 _ (n + r + t) (by omega) (by omega) (by omega) (fun h => by rw [if_neg (by omega)]; simp [Ex.sizes]) (by simp [g1]) (by simp [g2]) (by simp) (by simp)
      · exact ⟨left + 1, by simp [g], fun h => by omega⟩
      · refine ⟨m, by simp [r_flotsamref16_Size_0, hg5], fun h => ?_⟩
        obtain ⟨hm1, hm2⟩ := hm h
        by_cases hlt : left < n + r + t
        · rw [if_pos hlt] at hm1; omega
        · rw [if_neg hlt] at hm1
          obtain ⟨ht6, ht7⟩ := ht3 (by omega)
          exact ⟨by omega, ht, hr4, ht7, hm2⟩

theorem Small_eq (p : Pg) : ∃ b : Bool, eval tbl noExt n_flotsamlaw16_Small [.agg p.cells] [] = some (.bool b, []) ∧ (b = true → p.size ≤ 600 ∧ p.txt) := by
  obtain ⟨r, hr, h⟩ := Size_eq p 600 (by omega) (by omega)
  rw [eval_M rfl rfl t_flotsamlaw16_Small rfl]
  refine ⟨decide (r ≤ 600), ?_, fun hb => ?_⟩
  · simp only [Pg.cells] at hr ⊢
    simp [c_flotsamlaw16_Small, hr, lt_flotsamref16_Size]
  · obtain ⟨h1, h2⟩ := h (of_decide_eq_true hb)
    exact ⟨by omega, h2⟩

end Go.AM.Spec

namespace Go.AM.Spec
set_option linter.unusedVariables false
set_option linter.unusedSimpArgs false

mutual
def Ex.fit : Ex → Prop
  | .mk op n s x => Fit op ∧ Fit n ∧ Len s.length ∧ Len x.length ∧ Ex.fits x
def Ex.fits : List Ex → Prop
  | [] => True
  | e :: l => e.fit ∧ Ex.fits l
end
mutual
def Sm.fit : Sm → Prop
  | .mk op s n e b c _ => Fit op ∧ Len s.length ∧ Fit n ∧ (Len e.length ∧ Ex.fits e) ∧ (Len b.length ∧ Sm.fits b) ∧ (Len c.length ∧ Sm.fits c)
def Sm.fits : List Sm → Prop
  | [] => True
  | e :: l => e.fit ∧ Sm.fits l
end
structure Pg.fit (p : Pg) : Prop where
  pl : Len p.procs.length
  ps : ∀ x ∈ p.procs, Len x.1.length ∧ Len x.2.length ∧ Sm.fits x.2
  ml : Len p.main.length
  ms : Sm.fits p.main
  rl : Len p.recover.length
  rs : Sm.fits p.recover
  ol : Len p.oracles.length
  os : ∀ x ∈ p.oracles, Len x.1.length ∧ x.2.fit

theorem Ex.fits_mem {l : List Ex} : Ex.fits l ↔ ∀ e ∈ l, e.fit := by
  induction l with
  | nil => simp [Ex.fits]
  | cons e l ih => simp [Ex.fits, ih]
theorem Sm.fits_mem {l : List Sm} : Sm.fits l ↔ ∀ e ∈ l, e.fit := by
  induction l with
  | nil => simp [Sm.fits]
  | cons e l ih => simp [Sm.fits, ih]

section
variable {P : Program}

theorem ex_list {rows : List (List V)} (h : ∀ r ∈ rows, ∃ e : Ex, r = e.cells ∧ e.fit) : ∃ l : List Ex, rows = Ex.rows l ∧ Ex.fits l ∧ l.length = rows.length := by
  induction rows with
  | nil => exact ⟨[], rfl, trivial, rfl⟩
  | cons r rows ih =>
    obtain ⟨e, rfl, he⟩ := h r (by simp)
    obtain ⟨l, rfl, hl, hn⟩ := ih (fun r hr => h r (by simp [hr]))
    exact ⟨e :: l, rfl, ⟨he, hl⟩, by simp [hn]⟩
theorem sm_list {rows : List (List V)} (h : ∀ r ∈ rows, ∃ e : Sm, r = e.cells ∧ e.fit) : ∃ l : List Sm, rows = Sm.rows l ∧ Sm.fits l ∧ l.length = rows.length := by
  induction rows with
  | nil => exact ⟨[], rfl, trivial, rfl⟩
  | cons r rows ih =>
    obtain ⟨e, rfl, he⟩ := h r (by simp)
    obtain ⟨l, rfl, hl, hn⟩ := ih (fun r hr => h r (by simp [hr]))
    exact ⟨e :: l, rfl, ⟨he, hl⟩, by simp [hn]⟩

/-- The types of programs, by number. -/
structure TreeTys (P : Program) (tG tPs tSs tOs tP tO tS tEs tE tI tN tB tT : TypeId) : Prop where
  g : ∃ fs, P.underlying tG = some (.struct fs) ∧ fs.toList.map (·.type) = [tPs, tSs, tSs, tOs]
  ps : P.underlying tPs = some (.slice tP)
  ss : P.underlying tSs = some (.slice tS)
  os : P.underlying tOs = some (.slice tO)
  es : P.underlying tEs = some (.slice tE)
  p : ∃ fs, P.underlying tP = some (.struct fs) ∧ fs.toList.map (·.type) = [tT, tSs]
  o : ∃ fs, P.underlying tO = some (.struct fs) ∧ fs.toList.map (·.type) = [tT, tE]
  s : ∃ fs, P.underlying tS = some (.struct fs) ∧ fs.toList.map (·.type) = [tI, tT, tN, tEs, tSs, tSs, tB]
  e : ∃ fs, P.underlying tE = some (.struct fs) ∧ fs.toList.map (·.type) = [tI, tN, tT, tEs]
  i : P.underlying tI = some (.int .i64)
  n : P.underlying tN = some (.int .i64)
  b : P.underlying tB = some .bool
  t : P.underlying tT = some .string
  cp : P.cellsOf tP = 2
  cs : P.cellsOf tS = 7
  co : P.cellsOf tO = 5
  ce : P.cellsOf tE = 4

variable {tG tPs tSs tOs tP tO tS tEs tE tI tN tB tT : TypeId} (T : TreeTys P tG tPs tSs tOs tP tO tS tEs tE tI tN tB tT)
include T

/-- An expression's cells; a list of expressions. -/
theorem ex_of {t : TypeId} {vs : List V} (h : Ty P t vs) : (t = tE → ∃ e : Ex, vs = e.cells ∧ e.fit) ∧ (t = tEs → ∃ l : List Ex, vs = [.sl 4 (Ex.rows l)] ∧ Len l.length ∧ Ex.fits l) := by
  induction h with
  | bool h b =>
    obtain ⟨fs, hu, _⟩ := T.e
    exact ⟨fun ht => (by subst ht; rw [hu] at h; cases h), fun ht => (by subst ht; rw [T.es] at h; cases h)⟩
  | int h n hw =>
    obtain ⟨fs, hu, _⟩ := T.e
    exact ⟨fun ht => (by subst ht; rw [hu] at h; cases h), fun ht => (by subst ht; rw [T.es] at h; cases h)⟩
  | str h s hs =>
    obtain ⟨fs, hu, _⟩ := T.e
    exact ⟨fun ht => (by subst ht; rw [hu] at h; cases h), fun ht => (by subst ht; rw [T.es] at h; cases h)⟩
  | sl h rows hl hr ih =>
    obtain ⟨fs, hu, _⟩ := T.e
    refine ⟨fun ht => (by subst ht; rw [hu] at h; cases h), fun ht => ?_⟩
    subst ht
    rw [T.es] at h
    cases h
    obtain ⟨l, rfl, hf, hn⟩ := ex_list (fun r hr => (ih r hr).1 rfl)
    exact ⟨l, by rw [T.ce], by rw [hn]; exact hl, hf⟩
  | @struct t' gs h parts hl hp ih =>
    obtain ⟨fs, hu, hfs⟩ := T.e
    refine ⟨fun ht => ?_, fun ht => (by subst ht; rw [T.es] at h; cases h)⟩
    subst ht
    obtain rfl : fs = gs := by
      have := hu.symm.trans h
      simpa using this
    have hL := TyL_of (by rw [hl, Array.length_toList]) (fun j f p h1 h2 => hp j f p (by rw [← Array.getElem?_toList]; exact h1) h2)
    rw [hfs] at hL
    obtain ⟨p0, p1, p2, p3, rfl, h0, h1, h2, h3⟩ := TyL_4 hL
    obtain ⟨op, rfl, w0⟩ := Ty_int_of h0 T.i
    obtain ⟨n, rfl, w1⟩ := Ty_int_of h1 T.n
    obtain ⟨s, rfl, w2⟩ := Ty_str_of h2 T.t
    have hf3 : ∃ f : Field, fs[3]? = some f ∧ f.type = tEs := by
      have : (fs.toList.map (·.type))[3]? = some tEs := by rw [hfs]; rfl
      rw [List.getElem?_map, Option.map_eq_some_iff] at this
      obtain ⟨f, hf, hf'⟩ := this
      exact ⟨f, by rw [← Array.getElem?_toList]; exact hf, hf'⟩
    obtain ⟨f, hf, hft⟩ := hf3
    obtain ⟨l, rfl, hll, hlf⟩ := (ih 3 f p3 hf rfl).2 hft
    exact ⟨.mk op n s l, rfl, w0, w1, w2, hll, hlf⟩
  | arr h parts hl hp ih =>
    obtain ⟨fs, hu, _⟩ := T.e
    exact ⟨fun ht => (by subst ht; rw [hu] at h; cases h), fun ht => (by subst ht; rw [T.es] at h; cases h)⟩

/-- A statement's cells; a list of statements. -/
theorem sm_of {t : TypeId} {vs : List V} (h : Ty P t vs) : (t = tS → ∃ e : Sm, vs = e.cells ∧ e.fit) ∧ (t = tSs → ∃ l : List Sm, vs = [.sl 7 (Sm.rows l)] ∧ Len l.length ∧ Sm.fits l) := by
  induction h with
  | bool h b =>
    obtain ⟨fs, hu, _⟩ := T.s
    exact ⟨fun ht => (by subst ht; rw [hu] at h; cases h), fun ht => (by subst ht; rw [T.ss] at h; cases h)⟩
  | int h n hw =>
    obtain ⟨fs, hu, _⟩ := T.s
    exact ⟨fun ht => (by subst ht; rw [hu] at h; cases h), fun ht => (by subst ht; rw [T.ss] at h; cases h)⟩
  | str h s hs =>
    obtain ⟨fs, hu, _⟩ := T.s
    exact ⟨fun ht => (by subst ht; rw [hu] at h; cases h), fun ht => (by subst ht; rw [T.ss] at h; cases h)⟩
  | sl h rows hl hr ih =>
    obtain ⟨fs, hu, _⟩ := T.s
    refine ⟨fun ht => (by subst ht; rw [hu] at h; cases h), fun ht => ?_⟩
    subst ht
    rw [T.ss] at h
    cases h
    obtain ⟨l, rfl, hf, hn⟩ := sm_list (fun r hr => (ih r hr).1 rfl)
    exact ⟨l, by rw [T.cs], by rw [hn]; exact hl, hf⟩
  | @struct t' gs h parts hl hp ih =>
    obtain ⟨fs, hu, hfs⟩ := T.s
    refine ⟨fun ht => ?_, fun ht => (by subst ht; rw [T.ss] at h; cases h)⟩
    subst ht
    obtain rfl : fs = gs := by
      have := hu.symm.trans h
      simpa using this
    have hL := TyL_of (by rw [hl, Array.length_toList]) (fun j f p h1 h2 => hp j f p (by rw [← Array.getElem?_toList]; exact h1) h2)
    rw [hfs] at hL
    obtain ⟨p0, p1, p2, p3, p4, p5, p6, rfl, h0, h1, h2, h3, h4, h5, h6⟩ := TyL_7 hL
    obtain ⟨op, rfl, w0⟩ := Ty_int_of h0 T.i
    obtain ⟨s, rfl, w1⟩ := Ty_str_of h1 T.t
    obtain ⟨n, rfl, w2⟩ := Ty_int_of h2 T.n
    obtain ⟨e, rfl, w3⟩ := (ex_of T h3).2 rfl
    obtain ⟨k, rfl⟩ := Ty_bool_of h6 T.b
    have hf : ∀ i, fs.toList.map (·.type) = [tI, tT, tN, tEs, tSs, tSs, tB] → i = 4 ∨ i = 5 → ∃ f : Field, fs[i]? = some f ∧ f.type = tSs := by
      intro i hfs hi
      have : (fs.toList.map (·.type))[i]? = some tSs := by rw [hfs]; rcases hi with rfl | rfl <;> rfl
      rw [List.getElem?_map, Option.map_eq_some_iff] at this
      obtain ⟨f, hf, hf'⟩ := this
      exact ⟨f, by rw [← Array.getElem?_toList]; exact hf, hf'⟩
    obtain ⟨f4, hf4, ht4⟩ := hf 4 hfs (.inl rfl)
    obtain ⟨f5, hf5, ht5⟩ := hf 5 hfs (.inr rfl)
    obtain ⟨b, rfl, w4⟩ := (ih 4 f4 p4 hf4 rfl).2 ht4
    obtain ⟨c, rfl, w5⟩ := (ih 5 f5 p5 hf5 rfl).2 ht5
    exact ⟨.mk op s n e b c k, rfl, w0, w1, w2, w3, w4, w5⟩
  | arr h parts hl hp ih =>
    obtain ⟨fs, hu, _⟩ := T.s
    exact ⟨fun ht => (by subst ht; rw [hu] at h; cases h), fun ht => (by subst ht; rw [T.ss] at h; cases h)⟩

theorem pr_list {prows : List (List V)} (hpr : ∀ r ∈ prows, Ty P tP r) : ∃ ps : List (List UInt8 × List Sm), prows = ps.map (fun x => [.str x.1, .sl 7 (Sm.rows x.2)]) ∧ ∀ x ∈ ps, Len x.1.length ∧ Len x.2.length ∧ Sm.fits x.2 := by
    induction prows with
    | nil => exact ⟨[], rfl, by simp⟩
    | cons x l ih =>
      obtain ⟨ps, rfl, hps⟩ := ih (fun r hr => hpr r (by simp [hr]))
      obtain ⟨gs, gu, ggs⟩ := T.p
      have gi := Ty_inv (hpr x (by simp))
      rw [gu] at gi
      obtain ⟨parts, rfl, hL⟩ := gi
      rw [ggs] at hL
      obtain ⟨q0, q1, rfl, k0, k1⟩ := TyL_2 hL
      obtain ⟨s, rfl, w0⟩ := Ty_str_of k0 T.t
      obtain ⟨b, rfl, w1, w2⟩ := (sm_of T k1).2 rfl
      refine ⟨(s, b) :: ps, rfl, ?_⟩
      intro x hx
      rcases List.mem_cons.1 hx with rfl | hx
      · exact ⟨w0, w1, w2⟩
      · exact hps x hx

theorem or_list {orows : List (List V)} (hor : ∀ r ∈ orows, Ty P tO r) : ∃ os : List (List UInt8 × Ex), orows = os.map (fun x => .str x.1 :: x.2.cells) ∧ ∀ x ∈ os, Len x.1.length ∧ x.2.fit := by
    induction orows with
    | nil => exact ⟨[], rfl, by simp⟩
    | cons x l ih =>
      obtain ⟨os, rfl, hos⟩ := ih (fun r hr => hor r (by simp [hr]))
      obtain ⟨gs, gu, ggs⟩ := T.o
      have gi := Ty_inv (hor x (by simp))
      rw [gu] at gi
      obtain ⟨parts, rfl, hL⟩ := gi
      rw [ggs] at hL
      obtain ⟨q0, q1, rfl, k0, k1⟩ := TyL_2 hL
      obtain ⟨s, rfl, w0⟩ := Ty_str_of k0 T.t
      obtain ⟨e, rfl, w1⟩ := (ex_of T k1).1 rfl
      refine ⟨(s, e) :: os, by simp, ?_⟩
      intro x hx
      rcases List.mem_cons.1 hx with rfl | hx
      · exact ⟨w0, w1⟩
      · exact hos x hx

theorem pg_of {vs : List V} (h : Ty P tG vs) : ∃ p : Pg, vs = p.cells ∧ p.fit := by
  obtain ⟨fs, hu, hfs⟩ := T.g
  have hi := Ty_inv h
  rw [hu] at hi
  obtain ⟨parts, rfl, hL⟩ := hi
  rw [hfs] at hL
  obtain ⟨p0, p1, p2, p3, rfl, h0, h1, h2, h3⟩ := TyL_4 hL
  obtain ⟨m, rfl, m1, m2⟩ := (sm_of T h1).2 rfl
  obtain ⟨r, rfl, r1, r2⟩ := (sm_of T h2).2 rfl
  obtain ⟨prows, rfl, pl, hpr⟩ := Ty_sl_of h0 T.ps
  obtain ⟨orows, rfl, ol, hor⟩ := Ty_sl_of h3 T.os
  have hps := pr_list T hpr
  have hos := or_list T hor
  obtain ⟨ps, rfl, hps⟩ := hps
  obtain ⟨os, rfl, hos⟩ := hos
  refine ⟨⟨ps, m, r, os⟩, ?_, ⟨by simpa using pl, hps, m1, m2, r1, r2, by simpa using ol, hos⟩⟩
  rw [T.cp, T.co]
  simp [Pg.cells, Pg.pcells, Pg.ocells]

end
end Go.AM.Spec

namespace Go.AM.Spec
set_option linter.unusedVariables false
set_option linter.unusedSimpArgs false
set_option maxHeartbeats 1000000
set_option maxRecDepth 10000

abbrev iv (n : Int) : V := .int .i64 n

/-- A site. -/
structure Si where
  kind : Int
  part : Int
  way : List Int
  deep : Int
  deriving DecidableEq

def Si.cells (s : Si) : List V := iv s.kind :: iv s.part :: (s.way.map iv ++ [iv s.deep])
def Si.ok (s : Si) : Prop := s.way.length = 8

theorem map_iv_strip (l : List Int) : (l.map iv).map V.strip = l.map iv := by
  rw [List.map_map]; rfl

theorem eqCells_ints : ∀ (n : Nat) (k : IntKind) (xs ys : List Int), xs.length = n → ys.length = n → eqCells (List.replicate n (.int k)) (xs.map (V.int k)) (ys.map (V.int k)) = some (decide (xs = ys))
  | 0, _, [], [], _, _ => rfl
  | n + 1, k, x :: xs, y :: ys, hx, hy => by
    simp only [List.length_cons, Nat.add_right_cancel_iff] at hx hy
    simp [List.replicate, eqCells, eqCells_ints n k xs ys hx hy]
  | 0, _, _ :: _, _, h, _ => by simp at h
  | 0, _, [], _ :: _, _, h => by simp at h
  | n + 1, _, [], _, h, _ => by simp at h
  | n + 1, _, _ :: _, [], _, h => by simp at h

variable {s : Si}

theorem Si.len (h : s.ok) : s.cells.length = 11 := by simp [Si.cells, show s.way.length = 8 from h]
theorem Si.c0 : s.cells[0]? = some (iv s.kind) := rfl
theorem Si.c1 : s.cells[1]? = some (iv s.part) := rfl
theorem Si.c10 (h : s.ok) : s.cells[10]? = some (iv s.deep) := by
  have h8 : s.way.length = 8 := h
  simp only [Si.cells, List.getElem?_cons_succ]
  rw [List.getElem?_append_right (by simp [h8])]
  simp [h8]
theorem Si.cw {i : Nat} {w : Int} (h : s.way[i]? = some w) : s.cells[2 + i]? = some (iv w) := by
  have hi : i < s.way.length := by
    rcases Nat.lt_or_ge i s.way.length with h1 | h1
    · exact h1
    · rw [List.getElem?_eq_none h1] at h; cases h
  rw [Nat.add_comm]
  simp only [Si.cells, List.getElem?_cons_succ]
  rw [List.getElem?_append_left (by simpa using hi), List.getElem?_map, h]; rfl
theorem Si.strip : s.cells.map V.strip = s.cells := by simp [Si.cells, Function.comp_def, V.strip]
theorem Si.one : s.cells.all V.one = true := by simp [Si.cells, V.one]
theorem Si.under (n : Nat) : V.underAll n s.cells = true := by
  have : ∀ l : List Int, V.underAll n (l.map iv ++ [iv s.deep]) = true := by
    intro l
    induction l with
    | nil => simp [V.underAll, V.under]
    | cons x l ih => simp only [List.map_cons, List.cons_append, V.underAll, V.under, ih, Bool.and_self]
  simp only [Si.cells, V.underAll, V.under, this, Bool.and_self]
theorem Si.take (h : s.ok) : s.cells.take 11 = s.cells := List.take_of_length_le (by rw [Si.len h]; omega)
theorem Si.ways (h : s.ok) : (s.cells.drop 2).take 8 = s.way.map iv := by
  have h8 : s.way.length = 8 := h
  simp only [Si.cells, List.drop_succ_cons, List.drop_zero]
  rw [List.take_append_of_le_length (by simp [h8]), List.take_of_length_le (by simp [h8])]

/-- May a site's way be? -/
def Si.may (s : Si) : Bool := decide (1 ≤ s.deep) && (decide (s.deep ≤ 8) && (s.way.all (fun w => decide (0 ≤ w)) && (s.way.drop s.deep.toNat).all (fun w => decide (w = 0))))

/-- The rest of the document's look. -/
def mayFrom (deep : Int) : Nat → List Int → Bool
  | _, [] => true
  | i, w :: ws => decide (0 ≤ w) && ((!decide (deep ≤ i) || decide (w = 0)) && mayFrom deep (i + 1) ws)

theorem mayFrom_eq (deep : Int) (h1 : 1 ≤ deep) : ∀ (i : Nat) (l : List Int), mayFrom deep i l = (l.all (fun w => decide (0 ≤ w)) && (l.drop (deep.toNat - i)).all (fun w => decide (w = 0)))
  | i, [] => by simp [mayFrom]
  | i, w :: ws => by
    rw [mayFrom, mayFrom_eq deep h1 (i + 1) ws]
    by_cases h : deep ≤ i
    · have e1 : deep.toNat - i = 0 := by omega
      have e2 : deep.toNat - (i + 1) = 0 := by omega
      rw [e1, e2]
      simp only [h, decide_true, Bool.not_true, Bool.false_or, List.all_cons, List.drop_zero]
      cases decide (0 ≤ w) <;> cases decide (w = 0) <;> simp
    · obtain ⟨m, hm⟩ : ∃ m, deep.toNat - i = m + 1 := ⟨deep.toNat - i - 1, by omega⟩
      have e2 : deep.toNat - (i + 1) = m := by omega
      rw [hm, e2]
      simp only [h, decide_false, Bool.not_false, Bool.true_or, List.all_cons, List.drop_succ_cons, Bool.true_and, Bool.and_assoc]

theorem refMay_loop (K : Heap) (n : Nat) (hK : K[n]? = some (some s.cells)) (ok : s.ok) (call : CallF) (Q : Option (V × Heap) → Prop) (k : List Item) (X : Bool)
    (hyes : ∀ φ', X = true → Q (M call k φ' K)) (hno : ∀ φ', X = false → Fr.get φ' 2 = .bool false → Q (retK k φ' K)) :
    ∀ (j i : Nat) (φ : Fr), i + j = 8 → mayFrom s.deep i (s.way.drop i) = X → Fr.get φ 1 = .ptr n 0 → Fr.get φ 3 = iv i → Q (M call (.code l_flotsamref25_may_0 :: .blk 0 :: k) φ K) := by
  have h8 : s.way.length = 8 := ok
  have hc := Si.c10 ok
  intro j
  induction j with
  | zero =>
    intro i φ hi hX h1 h3
    obtain rfl : i = 8 := by omega
    rw [List.drop_eq_nil_of_le (by omega)] at hX
    rw [l_flotsamref25_may_0, M_loop]
    simp [b_flotsamref25_may_0, h1, h3]
    exact hyes _ (by rw [← hX]; rfl)
  | succ j ih =>
    intro i φ hi hX h1 h3
    have hlt : i < s.way.length := by omega
    rw [List.drop_eq_getElem_cons hlt, mayFrom] at hX
    have hw := Si.cw (s := s) (i := i) (w := s.way[i]) (List.getElem?_eq_getElem hlt)
    have e1 : (i : Int) < 8 := by omega
    have e2 : IntKind.i64.wrap ((i : Int) + 1) = ((i + 1 : Nat) : Int) := by rw [w64] <;> omega
    rw [l_flotsamref25_may_0, M_loop, ← l_flotsamref25_may_0]
    by_cases a1 : s.way[i] < 0
    · have a1' : ¬ 0 ≤ s.way[i] := by omega
      simp [b_flotsamref25_may_0, h1, h3, hK, hw, hc, e1, e2, a1]
      exact hno _ (by rw [← hX]; simp [a1']) (by simp)
    · have a1' : 0 ≤ s.way[i] := by omega
      by_cases a2 : s.deep ≤ i
      · by_cases a3 : s.way[i] = 0
        · simp [b_flotsamref25_may_0, h1, h3, hK, hw, hc, e1, e2, a1, a2, a3]
          exact ih (i + 1) _ (by omega) (by rw [← hX]; simp [a1', a2, a3]) (by simp [h1]) (by simp)
        · simp [b_flotsamref25_may_0, h1, h3, hK, hw, hc, e1, e2, a1, a2, a3]
          exact hno _ (by rw [← hX]; simp [a1', a2, a3]) (by simp)
      · simp [b_flotsamref25_may_0, h1, h3, hK, hw, hc, e1, e2, a1, a2]
        exact ih (i + 1) _ (by omega) (by rw [← hX]; simp [a1', a2]) (by simp [h1]) (by simp)

theorem refMay_eq (s : Si) (ok : s.ok) (H : Heap) : eval tbl noExt n_flotsamref25_may [.agg s.cells] H = some (.bool s.may, H) := by
  have hc := Si.c10 ok
  rw [eval_M rfl rfl t_flotsamref25_may rfl]
  unfold Si.may
  by_cases a1 : s.deep < 1
  · have a1' : ¬ 1 ≤ s.deep := by omega
    simp [c_flotsamref25_may, hc, a1, a1']
  · have a1' : 1 ≤ s.deep := by omega
    by_cases a2 : 8 < s.deep
    · have a2' : ¬ s.deep ≤ 8 := by omega
      simp [c_flotsamref25_may, hc, a1, a2, a2']
    · have a2' : s.deep ≤ 8 := by omega
      have hm := mayFrom_eq s.deep a1' 0 s.way
      simp only [a1', a2', decide_true, Bool.true_and]
      rw [Nat.sub_zero] at hm
      rw [← hm]
      simp [c_flotsamref25_may, hc, a1, a2]
      refine refMay_loop (s := s) _ H.length (by simp) ok _ (fun r => r = some (V.bool (mayFrom s.deep 0 s.way), H)) _ (mayFrom s.deep 0 s.way) ?_ ?_ 8 0 _ (by omega) rfl (by simp) (by simp)
      · intro φ' hX
        simp [r_flotsamref25_may_0, hX]
      · intro φ' hX h2
        simp [hX, h2]

end Go.AM.Spec

namespace Go.AM.Spec
set_option linter.unusedVariables false
set_option linter.unusedSimpArgs false
set_option maxHeartbeats 1000000
set_option maxRecDepth 10000

variable {s : Si}

def zeroS (k : Nat) : List V := List.replicate k (V.int .i64 0)
theorem zeroS_eq (k : Nat) : zeroS k = (List.replicate k (0 : Int)).map iv := by simp [zeroS]

theorem setMany_mid (a b vs cs : List V) (h : vs.length = b.length) : setMany (a ++ (b ++ cs)) a.length vs = a ++ (vs ++ cs) := by
  induction vs generalizing a b with
  | nil =>
    have : b = [] := List.eq_nil_of_length_eq_zero (by simpa using h.symm)
    subst this; rfl
  | cons v vs ih =>
    match b, h with
    | x :: b, h =>
      simp only [List.length_cons, Nat.add_right_cancel_iff] at h
      simp only [setMany]
      have e1 : (a ++ (x :: b ++ cs)).set a.length v = (a ++ [v]) ++ (b ++ cs) := by
        rw [List.set_append_right _ _ (Nat.le_refl _)]
        simp
      have := ih (a ++ [v]) b h
      rw [e1]
      simp only [List.length_append, List.length_singleton] at this
      rw [this]; simp

/-- The way, its end cleared. -/
theorem Si.cut (ok : s.ok) (d : Nat) (hd : d ≤ 8) : (((setMany s.cells (2 + d) (zeroS (8 - d))).drop 2).take 8) = (s.way.take d ++ List.replicate (8 - d) 0).map iv := by
  have h8 : s.way.length = 8 := ok
  have e : s.cells = (iv s.kind :: iv s.part :: (s.way.take d).map iv) ++ ((s.way.drop d).map iv ++ [iv s.deep]) := by
    simp only [Si.cells, List.cons_append, ← List.append_assoc, ← List.map_append, List.take_append_drop]
  have hl : (iv s.kind :: iv s.part :: (s.way.take d).map iv).length = 2 + d := by simp; omega
  have h1 := setMany_mid (iv s.kind :: iv s.part :: (s.way.take d).map iv) ((s.way.drop d).map iv) (zeroS (8 - d)) [iv s.deep] (by rw [zeroS_eq]; simp [h8])
  rw [hl, ← e] at h1
  rw [h1]
  simp only [List.cons_append, List.drop_succ_cons, List.drop_zero, ← List.append_assoc]
  rw [List.take_append_of_le_length (by rw [zeroS_eq]; simp; omega), zeroS_eq, ← List.map_append, List.take_of_length_le (by simp; omega)]

theorem replicate_iff (l : List Int) : l = List.replicate l.length 0 ↔ (l.all fun w => decide (w = 0)) = true := by
  rw [List.eq_replicate_iff]
  simp

theorem cut_iff (ok : s.ok) (d : Nat) (hd : d ≤ 8) : decide (s.way.take d ++ List.replicate (8 - d) 0 = s.way) = (s.way.drop d).all (fun w => decide (w = 0)) := by
  have h8 : s.way.length = 8 := ok
  rw [Bool.eq_iff_iff, decide_eq_true_eq, ← replicate_iff]
  have hl : (s.way.drop d).length = 8 - d := by simp [h8]
  rw [hl]
  constructor
  · intro h
    have h1 : s.way.take d ++ List.replicate (8 - d) 0 = s.way.take d ++ s.way.drop d := by rw [h, List.take_append_drop]
    exact (List.append_cancel_left h1).symm
  · intro h
    rw [← h, List.take_append_drop]

theorem may_loop (K : Heap) (call : CallF) (Q : Option (V × Heap) → Prop) (k : List Item) (way : List Int) (h8 : way.length = 8) (v1 : V)
    (hyes : ∀ φ', Fr.get φ' 1 = v1.strip → (way.all fun w => decide (0 ≤ w)) = true → Q (M call k φ' K)) (hno : ∀ φ', (way.all fun w => decide (0 ≤ w)) = false → Fr.get φ' 2 = .bool false → Q (retK k φ' K)) :
    ∀ (j i : Nat) (φ : Fr), i + j = 8 → (way.all fun w => decide (0 ≤ w)) = ((way.drop i).all fun w => decide (0 ≤ w)) → Fr.get φ 1 = v1.strip → Fr.get φ 15 = .agg (way.map iv) → Fr.get φ 16 = iv i → Q (M call (.code l_site_may_0 :: .blk 0 :: k) φ K) := by
  intro j
  induction j with
  | zero =>
    intro i φ hi hX h1 h15 h16
    obtain rfl : i = 8 := by omega
    rw [List.drop_eq_nil_of_le (by omega)] at hX
    rw [l_site_may_0, M_loop]
    simp [b_site_may_0, h1, h15, h16]
    exact hyes _ (by simp [h1]) (by rw [hX]; rfl)
  | succ j ih =>
    intro i φ hi hX h1 h15 h16
    have hlt : i < way.length := by omega
    rw [List.drop_eq_getElem_cons hlt] at hX
    have e1 : (i : Int) < 8 := by omega
    have e2 : IntKind.i64.wrap ((i : Int) + 1) = ((i + 1 : Nat) : Int) := by rw [w64] <;> omega
    have e3 : way[i]? = some way[i] := List.getElem?_eq_getElem hlt
    rw [l_site_may_0, M_loop, ← l_site_may_0]
    by_cases a1 : way[i] < 0
    · have a1' : ¬ 0 ≤ way[i] := by omega
      simp [b_site_may_0, h1, h15, h16, e1, e2, e3, a1]
      exact hno _ (by rw [hX, List.all_cons, decide_eq_false a1', Bool.false_and]) (by simp)
    · have a1' : 0 ≤ way[i] := by omega
      simp [b_site_may_0, h1, h15, h16, e1, e2, e3, a1]
      exact ih (i + 1) _ (by omega) (by rw [hX, List.all_cons, decide_eq_true a1', Bool.true_and]) (by simp [h1]) (by simp [h15]) (by simp)

theorem eq8 (xs ys : List Int) (hx : xs.length = 8) (hy : ys.length = 8) : eqCells [.int .i64, .int .i64, .int .i64, .int .i64, .int .i64, .int .i64, .int .i64, .int .i64] (xs.map iv) (ys.map iv) = some (decide (xs = ys)) := eqCells_ints 8 .i64 xs ys hx hy

theorem setMany_len : ∀ (vs cs : List V) (off : Nat), (setMany cs off vs).length = cs.length
  | [], cs, off => rfl
  | v :: vs, cs, off => by simp [setMany, setMany_len vs]
theorem setMany_over (a cs : List V) : ∀ (vs : List V) , vs.length = cs.length → setMany (a ++ cs) a.length vs = a ++ vs := by
  intro vs h
  have := setMany_mid a cs vs [] h
  simpa using this
theorem setMany_self (cs vs : List V) (h : vs.length = cs.length) : setMany cs 0 vs = vs := by
  have := setMany_over [] cs vs h
  simpa using this
theorem h11 (s : Si) (ok : s.ok) : ∀ a b c d e f g h i j k : V, setMany [a, b, c, d, e, f, g, h, i, j, k] 0 s.cells = s.cells := fun a b c d e f g h i j k => setMany_self _ _ (by rw [Si.len ok]; rfl)

theorem eq11' (xs ys : List Int) (hx : xs.length = 11) (hy : ys.length = 11) : eqCells [.int .i64, .int .i64, .int .i64, .int .i64, .int .i64, .int .i64, .int .i64, .int .i64, .int .i64, .int .i64, .int .i64] (xs.map iv) (ys.map iv) = some (decide (xs = ys)) := eqCells_ints 11 .i64 xs ys hx hy
def Si.ints (s : Si) : List Int := s.kind :: s.part :: (s.way ++ [s.deep])
theorem Si.cells_ints (s : Si) : s.cells = s.ints.map iv := by simp [Si.cells, Si.ints]
theorem Si.ints_inj {s t : Si} (hs : s.ok) (ht : t.ok) (h : s.ints = t.ints) : s = t := by
  unfold Si.ints at h
  simp only [List.cons.injEq] at h
  obtain ⟨h1, h2, h3⟩ := h
  have hl : s.way.length = t.way.length := by rw [show s.way.length = 8 from hs, show t.way.length = 8 from ht]
  have := List.append_inj h3 hl
  cases s; cases t
  simp at this h1 h2
  simp [h1, h2, this]
theorem Si.eqc {s t : Si} (hs : s.ok) (ht : t.ok) : eqCells [.int .i64, .int .i64, .int .i64, .int .i64, .int .i64, .int .i64, .int .i64, .int .i64, .int .i64, .int .i64, .int .i64] s.cells t.cells = some (decide (s = t)) := by
  rw [Si.cells_ints, Si.cells_ints, eq11' _ _ (by simp [Si.ints, show s.way.length = 8 from hs]) (by simp [Si.ints, show t.way.length = 8 from ht])]
  congr 1
  rw [Bool.eq_iff_iff, decide_eq_true_eq, decide_eq_true_eq]
  exact ⟨Si.ints_inj hs ht, fun h => by rw [h]⟩

theorem Si.ways_strip (ok : s.ok) : List.map V.strip ((s.cells.drop 2).take 8) = s.way.map iv := by rw [Si.ways ok, map_iv_strip]
theorem Si.cut_strip (ok : s.ok) (d : Nat) (hd : d ≤ 8) : List.take 8 (List.drop 2 (List.map V.strip (setMany s.cells (2 + d) (zeroS (8 - d))))) = (s.way.take d ++ List.replicate (8 - d) 0).map iv := by
  rw [← List.map_drop, ← List.map_take, Si.cut ok d hd, map_iv_strip]

theorem may_eq (s : Si) (ok : s.ok) (H : Heap) : eval tbl noExt n_site_may [.agg s.cells] H = some (.bool s.may, H) := by
  have h8 : s.way.length = 8 := ok
  have hc := Si.c10 ok
  have hl := Si.len ok
  have hst := Si.strip (s := s)
  have hone := Si.one (s := s)
  have htk := Si.take ok
  have hw := Si.ways_strip ok
  have hself := h11 s ok
  have hcg : ∀ h : 10 < s.cells.length, s.cells[10] = iv s.deep := fun h => by
    have := hc
    rw [List.getElem?_eq_getElem h] at this
    exact Option.some.inj this
  rw [eval_M rfl rfl t_site_may rfl]
  unfold Si.may
  by_cases a1 : s.deep < 1
  · have a1' : ¬ 1 ≤ s.deep := by omega
    simp [c_site_may, hc, a1, a1']
  · have a1' : 1 ≤ s.deep := by omega
    by_cases a2 : 8 < s.deep
    · have a2' : ¬ s.deep ≤ 8 := by omega
      simp [c_site_may, hc, a1, a2, a2']
    · have a2' : s.deep ≤ 8 := by omega
      simp only [a1', a2', decide_true, Bool.true_and]
      obtain ⟨A, hA⟩ : ∃ A, A = ((s.way.all fun w => decide (0 ≤ w)) && ((s.way.drop s.deep.toNat).all fun w => decide (w = 0))) := ⟨_, rfl⟩
      rw [← hA]
      simp [c_site_may, hc, a1, a2, hw, hl, hcg]
      refine may_loop _ _ (fun r => r = some (V.bool A, H)) _ s.way h8 (.ptr H.length 0) ?_ ?_ 8 0 _ (by omega) rfl ?_ ?_ ?_
      · intro φ' h1 hX
        rw [hA]
        obtain ⟨d, hd⟩ : ∃ d : Nat, s.deep = d := ⟨s.deep.toNat, by omega⟩
        have hd8 : d ≤ 8 := by omega
        have hdi : (d : Int) ≤ 8 := by omega
        have hdt : s.deep.toNat = d := by omega
        rw [hX, hdt, Bool.true_and]
        have hci := cut_iff (s := s) ok d hd8
        rw [← hci]
        have he := eq8 (s.way.take d ++ List.replicate (8 - d) 0) s.way (by simp [h8]; omega) h8
        have hun := fun n => Si.under (s := s) n
        by_cases a3 : d = 8
        · subst a3
          have ht : s.way.take 8 = s.way := List.take_of_length_le (by omega)
          have he2 := eq8 s.way s.way h8 h8
          simp [r_site_may_0, h1, hc, hcg, hd, hl, hst, hone, htk, hw, hun, hself, ht, he2]
        · have a3' : ¬ (8 = d) := by omega
          have e1 : 2 + d + (8 - d) ≤ 11 := by omega
          have hcs := Si.cut_strip (s := s) ok d hd8
          unfold zeroS at hcs
          obtain ⟨cw, hcw⟩ : ∃ cw, cw = s.way.take d ++ List.replicate (8 - d) 0 := ⟨_, rfl⟩
          rw [← hcw] at he hcs ⊢
          have hlen : (setMany s.cells (2 + d) (List.replicate (8 - d) (V.int .i64 0))).length = 11 := by rw [setMany_len, hl]
          simp [r_site_may_0, h1, hc, hcg, hd, hdi, hl, hst, hone, htk, hw, hun, hself, a3', e1, hcs, he, hlen]
      · intro φ' hX h2
        rw [hA, hX, Bool.false_and]
        simp [h2]
      · simp
      · simp
      · simp

end Go.AM.Spec

namespace Go.AM.Spec
set_option linter.unusedVariables false
set_option linter.unusedSimpArgs false

def Si.fit (s : Si) : Prop := s.ok ∧ Fit s.kind ∧ Fit s.part ∧ (∀ w ∈ s.way, Fit w) ∧ Fit s.deep

theorem site_of {P : Program} {t tI tA : TypeId} {fs : Array Field} {vs : List V} (h : Ty P t vs) (hu : P.underlying t = some (.struct fs)) (hf : fs.toList.map (·.type) = [tI, tI, tA, tI]) (hI : P.underlying tI = some (.int .i64)) (hA : P.underlying tA = some (.array 8 tI)) :
    ∃ s : Si, vs = s.cells ∧ s.ok ∧ Fit s.kind ∧ Fit s.part ∧ (∀ w ∈ s.way, Fit w) ∧ Fit s.deep := by
  obtain ⟨parts, rfl, hL⟩ := Ty_struct_of h hu
  rw [hf] at hL
  obtain ⟨p, q, r, u, rfl, h0, h1, h2, h3⟩ := TyL_4 hL
  obtain ⟨a, rfl, w0⟩ := Ty_int_of h0 hI
  obtain ⟨b, rfl, w1⟩ := Ty_int_of h1 hI
  obtain ⟨d, rfl, w3⟩ := Ty_int_of h3 hI
  obtain ⟨ps, rfl, hl, hp⟩ := Ty_arr_of h2 hA
  obtain ⟨l, e1, e2, e3⟩ := ints_of hI hp
  refine ⟨⟨a, b, l, d⟩, ?_, by show l.length = 8; omega, w0, w1, e3, w3⟩
  simp only [List.flatten_cons, List.flatten_nil, e1, Si.cells]
  rfl

end Go.AM.Spec

namespace Go.AM.Spec
set_option linter.unusedVariables false
set_option linter.unusedSimpArgs false
set_option maxHeartbeats 1000000
set_option maxRecDepth 10000

def Sm.op : Sm → Int
  | .mk op _ _ _ _ _ _ => op
def Sm.body : Sm → List Sm
  | .mk _ _ _ _ b _ _ => b
def Sm.els : Sm → List Sm
  | .mk _ _ _ _ _ c _ => c
def Sm.commit : Sm → Bool
  | .mk _ _ _ _ _ _ k => k
def Sm.exprs : Sm → List Ex
  | .mk _ _ _ e _ _ _ => e
def Ex.op : Ex → Int
  | .mk op _ _ _ => op
def Ex.text : Ex → List UInt8
  | .mk _ _ s _ => s

/-- The blocks of a program that may be changed. -/
def Pg.blocks (p : Pg) : List (List Sm) := p.main :: p.procs.map (·.2)

/-- The block to which a number of a way leads. -/
def Sm.sub (x : Sm) (n : Int) : List Sm := if n % 2 = 1 then x.els else x.body

/-- The statements from that on to which a way leads. -/
def leadTo : List Sm → Nat → List Int → List Sm
  | b, k, [] => b.drop k
  | b, k, n :: ws => match b[k]? with
    | none => []
    | some x => leadTo (x.sub n) (n / 2).toNat ws

def leadOf (p : Pg) (s : Si) : List Sm :=
  if 0 ≤ s.part ∧ s.part < p.blocks.length ∧ s.may = true then leadTo (p.blocks.getD s.part.toNat []) (s.way.getD 0 0).toNat ((s.way.take s.deep.toNat).drop 1) else []

theorem sparts_loop (call : CallF) (R : Option (V × Heap)) (n : Nat) (H : Heap) (p : Pg) (hl : p.procs.length ≤ 1000) (k : List Item)
    (hexit : ∀ φ' K, K.take n = H → n ≤ K.length → Fr.get φ' 3 = .own 1 (p.blocks.map brow) → M call k φ' K = R) :
    ∀ (j i : Nat) (φ : Fr) (K : Heap), i + j = p.procs.length → K.take n = H → n ≤ K.length → Fr.get φ 3 = .own 1 ((p.blocks.take (i + 1)).map brow) → Fr.get φ 10 = .sl 2 p.pcells → Fr.get φ 11 = .int .i64 p.procs.length → Fr.get φ 12 = .int .i64 i →
      M call (.code l_site_parts_0 :: .blk 0 :: k) φ K = R := by
  intro j
  induction j with
  | zero =>
    intro i φ K hi hK hn h3 h10 h11 h12
    have hlt : ¬ (i : Int) < p.procs.length := by omega
    have e : p.blocks.take (i + 1) = p.blocks := List.take_of_length_le (by simp [Pg.blocks]; omega)
    rw [e] at h3
    rw [l_site_parts_0, M_loop]
    simp [b_site_parts_0, h3, h10, h11, h12, hlt]
    exact hexit _ _ hK hn (by simp [h3])
  | succ j ih =>
    intro i φ K hi hK hn h3 h10 h11 h12
    have hlt : (i : Int) < p.procs.length := by omega
    have hltn : i < p.procs.length := by omega
    obtain ⟨e, he⟩ : ∃ e, p.procs[i]? = some e := ⟨_, List.getElem?_eq_getElem hltn⟩
    have hrow := Pg.prow he
    have hpl := p.pcells_len
    have e2 : IntKind.i64.wrap ((i : Int) + 1) = ((i + 1 : Nat) : Int) := by rw [w64] <;> omega
    have hb : p.blocks[i + 1]? = some e.2 := by simp [Pg.blocks, he]
    have hnext : (p.blocks.take (i + 1)).map brow ++ [[V.sl 7 (Sm.rows e.2)]] = (p.blocks.take (i + 1 + 1)).map brow := by
      rw [List.take_add_one (i := i + 1), hb]; simp [brow]
    obtain ⟨rows, hrows⟩ : ∃ rows, rows = (p.blocks.take (i + 1)).map brow := ⟨_, rfl⟩
    have hrl : rows.length = i + 1 := by rw [hrows]; simp [Pg.blocks]; omega
    rw [← hrows] at h3 hnext
    have hcap : 2 * (i + 1 + 1) * 24 ≤ 281474976710656 := by omega
    rw [l_site_parts_0, M_loop, ← l_site_parts_0]
    simp [b_site_parts_0, h3, h10, h11, h12, hlt, hrow, hpl, hrl, hcap, e2, get0, get1, set0, set1]
    refine ih (i + 1) _ _ (by omega) (take_more hK hn _) (by simp; omega) ?_ ?_ ?_ ?_ <;> simp [h10, h11, hnext]

theorem sparts_eq (p : Pg) (hl : p.procs.length ≤ 1000) (H : Heap) : eval tbl noExt n_site_parts [.agg p.cells] H = some (.own 1 (p.blocks.map brow), H) := by
  have hpl := p.pcells_len
  have hc : p.cells = [.sl 2 p.pcells, .sl 7 (Sm.rows p.main), .sl 7 (Sm.rows p.recover), .sl 5 p.ocells] := rfl
  rw [eval_M rfl rfl t_site_parts rfl]
  simp [c_site_parts, hc, hpl]
  refine sparts_loop _ _ H.length H p hl _ (fun φ' K hK hn h3 => by simp [r_site_parts_0, h3, hK]) p.procs.length 0 _ _ (by omega) (by simp) (by simp) ?_ ?_ ?_ ?_ <;> simp [Pg.blocks, brow]

theorem bit_and {n : Int} (h0 : 0 ≤ n) (hn : n < 9223372036854775808) : IntKind.i64.wrap ↑((n % 2 ^ IntKind.i64.bits).toNat &&& 1 % 2 ^ IntKind.i64.bits) = n % 2 := by
  have e : (2 : Int) ^ IntKind.i64.bits = 18446744073709551616 := by decide
  have e' : (1 : Nat) % 2 ^ IntKind.i64.bits = 1 := by decide
  rw [e, e', Nat.and_one_is_mod, w64] <;> omega

theorem snext_eq (x : Sm) (n : Int) (h0 : 0 ≤ n) (hn : n < 9223372036854775808) (H : Heap) : eval tbl noExt n_site_next [.agg x.cells, iv n] H = some (.tup [.sl 7 (Sm.rows (x.sub n)), iv (n / 2)], H) := by
  obtain ⟨op, s, w, e, b, c, g⟩ := x
  have ha := bit_and h0 hn
  have hm : min 1 IntKind.i64.bits = 1 := by decide
  have hf : n.fdiv 2 = n / 2 := Int.fdiv_eq_ediv_of_nonneg _ (by omega)
  rw [eval_M rfl rfl t_site_next rfl]
  unfold Sm.sub
  by_cases h : n % 2 = 1
  · simp [c_site_next, Sm.cells, h, Sm.els, Sm.body, ha, hm, hf]
  · simp [c_site_next, Sm.cells, h, Sm.els, Sm.body, ha, hm, hf]

end Go.AM.Spec

namespace Go.AM.Spec
set_option linter.unusedVariables false
set_option linter.unusedSimpArgs false
set_option maxHeartbeats 1000000
set_option maxRecDepth 10000

theorem fit_range {n : Int} (h : Fit n) : -9223372036854775808 ≤ n ∧ n < 9223372036854775808 := by
  have h' : (Lit.int .i64 n).wf = true := h
  simp [Lit.wf] at h'
  have hm : IntKind.i64.min = -9223372036854775808 := by decide
  rw [hm] at h'
  omega

theorem leadTo_none {b : List Sm} {k : Nat} (h : b.length ≤ k) (ws : List Int) : leadTo b k ws = [] := by
  cases ws with
  | nil => rw [leadTo, List.drop_eq_nil_of_le h]
  | cons n ws => rw [leadTo, List.getElem?_eq_none h]
theorem leadTo_some {b : List Sm} {k : Nat} {x : Sm} (h : b[k]? = some x) (n : Int) (ws : List Int) : leadTo b k (n :: ws) = leadTo (x.sub n) (n / 2).toNat ws := by
  rw [leadTo, h]

theorem Sm.rows_drop (b : List Sm) (k : Nat) : (Sm.rows b).drop k = Sm.rows (b.drop k) := by simp [Sm.rows_eq, List.map_drop]

theorem slead_loop (s : Si) (ok : s.ok) (K : Heap) (q : Nat) (hq : K[q]? = some (some s.cells)) (d : Nat) (h1d : 1 ≤ d) (hd8 : d ≤ 8) (hpos : ∀ w ∈ s.way, 0 ≤ w) (hfit : ∀ w ∈ s.way, Fit w) (Q : Option (V × Heap) → Prop) (k : List Item) (X : List Sm)
    (hexit : ∀ φ' (b : List Sm) (u : Int), 0 ≤ u → b.drop u.toNat = X → Fr.get φ' 6 = .sl 7 (Sm.rows b) → Fr.get φ' 7 = iv u → Q (M (eval tbl noExt) k φ' K)) (hno : ∀ φ', X = [] → Fr.get φ' 4 = .own 7 [] → Q (retK k φ' K)) :
    ∀ (j i : Nat) (φ : Fr) (b : List Sm) (u : Int), i + j = d - 1 → 0 ≤ u → leadTo b u.toNat (((s.way.take d).drop 1).drop i) = X → Fr.get φ 6 = .sl 7 (Sm.rows b) → Fr.get φ 7 = iv u → Fr.get φ 38 = .ms q 3 (d - 1) 7 → Fr.get φ 39 = iv ((d - 1 : Nat) : Int) → Fr.get φ 40 = iv i →
      Q (M (eval tbl noExt) (.code l_site_lead_0 :: .blk 0 :: k) φ K) := by
  have h8 : s.way.length = 8 := ok
  have hln : ((s.way.take d).drop 1).length = d - 1 := by simp [h8]; omega
  intro j
  induction j with
  | zero =>
    intro i φ b u hi hu hX h6 h7 h38 h39 h40
    have hlt : ¬ (i : Int) < ((d - 1 : Nat) : Int) := by omega
    rw [List.drop_eq_nil_of_le (by omega), leadTo] at hX
    rw [l_site_lead_0, M_loop]
    simp [b_site_lead_0, h6, h7, h38, h39, h40, hlt]
    exact hexit _ b u hu hX (by simp [h6]) (by simp [h7])
  | succ j ih =>
    intro i φ b u hi hu hX h6 h7 h38 h39 h40
    have hlt : i < ((s.way.take d).drop 1).length := by omega
    obtain ⟨n, hn⟩ : ∃ n, n = ((s.way.take d).drop 1)[i] := ⟨_, rfl⟩
    have hn' : s.way[1 + i]? = some n := by
      rw [hn, List.getElem_drop, List.getElem_take]
      exact List.getElem?_eq_getElem (by omega)
    have hmem : n ∈ s.way := List.mem_of_getElem? hn'
    have hn0 := hpos n hmem
    have hnf := fit_range (hfit n hmem)
    rw [List.drop_eq_getElem_cons hlt, ← hn] at hX
    have hw := Si.cw (s := s) (i := 1 + i) (w := n) hn'
    rw [show 2 + (1 + i) = 3 + i by omega] at hw
    have e1 : (i : Int) < ((d - 1 : Nat) : Int) := by omega
    have e2 : IntKind.i64.wrap ((i : Int) + 1) = ((i + 1 : Nat) : Int) := by rw [w64] <;> omega
    have hrl := Sm.rows_len b
    rw [l_site_lead_0, M_loop, ← l_site_lead_0]
    by_cases a1 : (b.length : Int) ≤ u
    · rw [leadTo_none (by omega)] at hX
      simp [b_site_lead_0, h6, h7, h38, h39, h40, hq, hw, e1, e2, a1, hrl]
      exact hno _ hX.symm (by simp)
    · have hul : u.toNat < b.length := by omega
      obtain ⟨x, hx⟩ : ∃ x, b[u.toNat]? = some x := ⟨_, List.getElem?_eq_getElem hul⟩
      have hrow := Sm.rows_at hx
      rw [leadTo_some hx] at hX
      have hnx := snext_eq x n hn0 hnf.2 []
      have hu' : u < b.length := by omega
      have hul2 : u.toNat < (Sm.rows b).length := by omega
      have hrow2 : ∀ h : u.toNat < (Sm.rows b).length, (Sm.rows b)[u.toNat] = x.cells := fun h => by
        rw [List.getElem?_eq_getElem h] at hrow; exact Option.some.inj hrow
      obtain ⟨a0, a1', a2, a3, a4, a5, a6, hcs⟩ := Sm.cells_shape x
      rw [hcs] at hnx hrow hrow2
      simp [b_site_lead_0, h6, h7, h38, h39, h40, hq, hw, e1, e2, a1, hrl, hrow, hrow2, hul, hul2, hu, hu', hnx]
      refine ih (i + 1) _ (x.sub n) (n / 2) (by omega) (by omega) hX ?_ ?_ ?_ ?_ ?_ <;> simp [h38, h39]

theorem Pg.blocks_len (p : Pg) : p.blocks.length = p.procs.length + 1 := by simp [Pg.blocks]

theorem Si.c2 (s : Si) (ok : s.ok) : s.cells[2]? = some (iv (s.way.getD 0 0)) := by
  have h8 : s.way.length = 8 := ok
  have : s.way[0]? = some (s.way.getD 0 0) := by
    rw [List.getD_eq_getElem?_getD, List.getElem?_eq_getElem (by omega)]; rfl
  exact Si.cw this

theorem may_all {s : Si} (h : s.may = true) : 1 ≤ s.deep ∧ s.deep ≤ 8 ∧ ∀ w ∈ s.way, 0 ≤ w := by
  unfold Si.may at h
  simp only [Bool.and_eq_true, decide_eq_true_eq, List.all_eq_true] at h
  exact ⟨h.1, h.2.1, h.2.2.1⟩

theorem getD_mem {l : List Int} (h : 0 < l.length) : l.getD 0 0 ∈ l := by
  match l, h with
  | a :: _, _ => simp

def Led (r : V) (X : List Sm) : Prop := r = .sl 7 (Sm.rows X) ∨ r = .own 7 [] ∧ X = []

theorem slead_eq (p : Pg) (hp : p.procs.length ≤ 1000) (s : Si) (hf : s.fit) : ∃ r, Led r (leadOf p s) ∧ eval tbl noExt n_site_lead [.agg p.cells, .agg s.cells] [] = some (r, []) := by
  have ok := hf.1
  have h8 : s.way.length = 8 := ok
  have hcp : p.cells.length = 4 := rfl
  have hcpt : p.cells.take 4 = p.cells := rfl
  have hcps : p.cells.map V.strip = p.cells := rfl
  have hcpu : ∀ n, V.underAll n p.cells = true := fun n => rfl
  have hcpo : p.cells.all V.one = true := rfl
  have hparts := sparts_eq p hp []
  have hbl := p.blocks_len
  have c1 := Si.c1 (s := s)
  have c2 := Si.c2 s ok
  have c10 := Si.c10 ok
  have q1 := Si.len ok
  have q3 := Si.strip (s := s)
  have q5 := Si.take ok
  have qu := fun n => Si.under (s := s) n
  have g1 : ∀ h : 1 < s.cells.length, s.cells[1] = iv s.part := fun h => rfl
  have g2 : ∀ h : 2 < s.cells.length, s.cells[2] = iv (s.way.getD 0 0) := fun h => by
    rw [List.getElem?_eq_getElem h] at c2; exact Option.some.inj c2
  have g10 : ∀ h : 10 < s.cells.length, s.cells[10] = iv s.deep := fun h => by
    rw [List.getElem?_eq_getElem h] at c10; exact Option.some.inj c10
  have hmay := may_eq s ok []
  rw [eval_M rfl rfl t_site_lead rfl]
  unfold leadOf
  by_cases a1 : s.part < 0
  · rw [if_neg (fun h => by omega)]
    refine ⟨.own 7 [], .inr ⟨rfl, rfl⟩, ?_⟩
    simp [c_site_lead, hcp, hcpt, hcps, hcpu, hcpo, hparts, c1, g1, q1, a1]
  · by_cases a2 : (p.blocks.length : Int) ≤ s.part
    · rw [if_neg (fun h => by omega)]
      refine ⟨.own 7 [], .inr ⟨rfl, rfl⟩, ?_⟩
      simp [c_site_lead, hcp, hcpt, hcps, hcpu, hcpo, hparts, c1, g1, q1, a1, a2]
    · cases a3 : s.may with
      | false =>
        rw [if_neg (fun h => by simp at h)]
        rw [a3] at hmay
        refine ⟨.own 7 [], .inr ⟨rfl, rfl⟩, ?_⟩
        simp [c_site_lead, hcp, hcpt, hcps, hcpu, hcpo, hparts, c1, g1, q1, q3, q5, qu, a1, a2, hmay]
      | true =>
        rw [if_pos ⟨by omega, by omega, rfl⟩]
        rw [a3] at hmay
        obtain ⟨d1, d8, hpos⟩ := may_all a3
        obtain ⟨d, hd⟩ : ∃ d : Nat, s.deep = d := ⟨s.deep.toNat, by omega⟩
        have hdt : s.deep.toNat = d := by omega
        rw [hdt]
        obtain ⟨pn, hpn⟩ : ∃ pn : Nat, s.part = pn := ⟨s.part.toNat, by omega⟩
        have hpt : s.part.toNat = pn := by omega
        rw [hpt]
        have hlt : pn < p.blocks.length := by omega
        obtain ⟨b, hb⟩ : ∃ b, b = p.blocks.getD pn [] := ⟨_, rfl⟩
        have hgb : ∀ h : pn < p.blocks.length, p.blocks[pn] = b := fun h => by rw [hb, List.getD_eq_getElem?_getD, List.getElem?_eq_getElem h]; rfl
        rw [← hb]
        obtain ⟨u, hu⟩ : ∃ u, u = s.way.getD 0 0 := ⟨_, rfl⟩
        have hw0 : 0 ≤ u := by rw [hu]; exact hpos _ (getD_mem (by omega))
        rw [← hu] at c2 g2 ⊢
        obtain ⟨X, hX⟩ : ∃ X, X = leadTo b u.toNat ((s.way.take d).drop 1) := ⟨_, rfl⟩
        rw [← hX]
        rw [hpn] at c1 g1 a1 a2
        rw [hd] at c10 g10
        have e1 : (1 : Int) ≤ d := by omega
        have e8 : (d : Int) ≤ 8 := by omega
        have e9 : d ≤ 8 := by omega
        have e10 : 1 ≤ d := by omega
        simp [c_site_lead, hcp, hcpt, hcps, hcpu, hcpo, hparts, c1, g1, c2, g2, c10, g10, q1, q3, q5, qu, a1, a2, hmay, hgb, hlt, brow, e1, e8, e9, e10]
        refine slead_loop s ok _ 1 rfl d e10 e9 hpos hf.2.2.2.1 (fun out => ∃ r, Led r X ∧ out = some (r, [])) _ X ?_ ?_ (d - 1) 0 _ b u (by omega) hw0 (by rw [hX]; rfl) ?_ ?_ ?_ ?_ ?_
        · intro φ' b' v hv hb' h6 h7
          have hrl := Sm.rows_len b'
          have m1 : 0 ≤ min v (b'.length : Int) ∧ min v (b'.length : Int) ≤ b'.length := by omega
          have m2 : (Sm.rows b').take b'.length = Sm.rows b' := List.take_of_length_le (by omega)
          have m3 : (Sm.rows b').drop (min v (b'.length : Int)).toNat = Sm.rows X := by
            rw [Sm.rows_drop, ← hb']
            by_cases h : v ≤ b'.length
            · rw [Int.min_eq_left h]
            · rw [Int.min_eq_right (by omega), List.drop_eq_nil_of_le (by omega), List.drop_eq_nil_of_le (by omega)]
          simp [r_site_lead_0, h6, h7, hrl, m1, m2, m3]
          exact .inl rfl
        · intro φ' hX' h4
          simp [h4]
          exact .inr ⟨rfl, hX'⟩
        all_goals simp
/-! The document's. -/
def blockV (p : Pg) (n : Int) : V := if 0 ≤ n ∧ n < p.blocks.length then .sl 7 (Sm.rows (p.blocks.getD n.toNat [])) else .sl 7 []

theorem Block_eq (p : Pg) (hp : p.procs.length ≤ 1000) (n : Int) (h : -9223372036854775808 ≤ n ∧ n < 9223372036854775808) :
    eval tbl noExt n_flotsamref25_Block [.agg p.cells, iv n] [] = some (.tup [blockV p n, .bool (decide (0 ≤ n ∧ n < p.blocks.length))], []) := by
  have hc : p.cells = [.sl 2 p.pcells, .sl 7 (Sm.rows p.main), .sl 7 (Sm.rows p.recover), .sl 5 p.ocells] := rfl
  have hpl := p.pcells_len
  have hbl := p.blocks_len
  rw [eval_M rfl rfl t_flotsamref25_Block rfl]
  unfold blockV
  by_cases a0 : n = 0
  · subst a0
    rw [if_pos ⟨by omega, by omega⟩]
    have e : (0 : Int) < p.blocks.length := by omega
    have e' : 0 < p.blocks.length := by omega
    simp [c_flotsamref25_Block, hc, Pg.blocks]
  · by_cases a1 : n < 0
    · rw [if_neg (fun h => by omega)]
      have e : ¬ 0 ≤ n := by omega
      simp [c_flotsamref25_Block, hc, a0, a1, e]
    · by_cases a2 : (p.procs.length : Int) < n
      · rw [if_neg (fun h => by omega)]
        have e : ¬ n < p.blocks.length := by omega
        simp [c_flotsamref25_Block, hc, hpl, a0, a1, a2, e]
      · rw [if_pos ⟨by omega, by omega⟩]
        obtain ⟨m, hm⟩ : ∃ m : Nat, n = ((m + 1 : Nat) : Int) := ⟨(n - 1).toNat, by omega⟩
        have hmt : n.toNat = m + 1 := by omega
        have hlt : m < p.procs.length := by omega
        obtain ⟨e, he⟩ : ∃ e, p.procs[m]? = some e := ⟨_, List.getElem?_eq_getElem hlt⟩
        have hrow := Pg.prow he
        have e1 : 0 ≤ n ∧ n < p.blocks.length := by omega
        have e2 : IntKind.i64.wrap (n - 1) = (m : Int) := by rw [w64] <;> omega
        have hgd : p.blocks.getD n.toNat [] = e.2 := by
          rw [hmt, List.getD_eq_getElem?_getD]
          simp [Pg.blocks, he]
        have hlt2 : m < p.pcells.length := by omega
        have hrow2 : ∀ h : m < p.pcells.length, p.pcells[m] = [.str e.1, .sl 7 (Sm.rows e.2)] := fun h => by
          rw [List.getElem?_eq_getElem h] at hrow; exact Option.some.inj hrow
        rw [hgd]
        simp [c_flotsamref25_Block, hc, hpl, a0, a1, a2, e1, e2, hlt, hlt2, hrow, hrow2]

theorem refLead_loop (s : Si) (ok : s.ok) (K : Heap) (q : Nat) (hq : K[q]? = some (some s.cells)) (d : Nat) (hd : s.deep = d) (h1d : 1 ≤ d) (hd8 : d ≤ 8) (hpos : ∀ w ∈ s.way, 0 ≤ w) (hfit : ∀ w ∈ s.way, Fit w) (Q : Option (V × Heap) → Prop) (k : List Item) (X : List Sm)
    (hexit : ∀ φ' (b : List Sm) (u : Int), Sm.sizes b ≤ 1000 → 0 ≤ u → b.drop u.toNat = X → Fr.get φ' 7 = .sl 7 (Sm.rows b) → Fr.get φ' 9 = iv u → Q (M (eval tbl noExt) k φ' K)) (hno : ∀ φ', X = [] → Fr.get φ' 4 = .own 7 [] → Fr.get φ' 5 = iv 0 → Fr.get φ' 6 = .bool false → Q (retK k φ' K)) :
    ∀ (j i : Nat) (φ : Fr) (b : List Sm) (u : Int), i + j = d → 1 ≤ i → Sm.sizes b ≤ 1000 → 0 ≤ u → leadTo b u.toNat ((s.way.take d).drop i) = X → Fr.get φ 3 = .ptr q 0 → Fr.get φ 7 = .sl 7 (Sm.rows b) → Fr.get φ 9 = iv u → Fr.get φ 10 = iv i →
      Q (M (eval tbl noExt) (.code l_flotsamref25_Lead_0 :: .blk 0 :: k) φ K) := by
  have h8 : s.way.length = 8 := ok
  have hln : (s.way.take d).length = d := by simp [h8]; omega
  have c10 := Si.c10 ok
  have q1 := Si.len ok
  rw [hd] at c10
  intro j
  induction j with
  | zero =>
    intro i φ b u hi hi1 hz hu hX h3 h7 h9 h10
    have hlt : ¬ (i : Int) < d := by omega
    rw [List.drop_eq_nil_of_le (by omega), leadTo] at hX
    rw [l_flotsamref25_Lead_0, M_loop]
    simp [b_flotsamref25_Lead_0, h3, h7, h9, h10, hq, c10, hlt]
    exact hexit _ b u hz hu hX (by simp [h7]) (by simp [h9])
  | succ j ih =>
    intro i φ b u hi hi1 hz hu hX h3 h7 h9 h10
    have hlt : i < (s.way.take d).length := by omega
    obtain ⟨n, hn⟩ : ∃ n, n = (s.way.take d)[i] := ⟨_, rfl⟩
    have hn' : s.way[i]? = some n := by
      rw [hn, List.getElem_take]
      exact List.getElem?_eq_getElem (by omega)
    have hmem : n ∈ s.way := List.mem_of_getElem? hn'
    have hn0 := hpos n hmem
    have hnf := fit_range (hfit n hmem)
    rw [List.drop_eq_getElem_cons hlt, ← hn] at hX
    have hw := Si.cw (s := s) (i := i) (w := n) hn'
    have e1 : (i : Int) < d := by omega
    have e2 : IntKind.i64.wrap ((i : Int) + 1) = ((i + 1 : Nat) : Int) := by rw [w64] <;> omega
    have hrl := Sm.rows_len b
    have hi8 : (i : Int) < 8 := by omega
    have hi8n : i < 8 := by omega
    rw [l_flotsamref25_Lead_0, M_loop, ← l_flotsamref25_Lead_0]
    by_cases a1 : (b.length : Int) ≤ u
    · rw [leadTo_none (by omega)] at hX
      simp [b_flotsamref25_Lead_0, h3, h7, h9, h10, hq, c10, hw, e1, e2, a1, hrl]
      exact hno _ hX.symm (by simp) (by simp) (by simp)
    · have hul : u.toNat < b.length := by omega
      obtain ⟨x, hx⟩ : ∃ x, b[u.toNat]? = some x := ⟨_, List.getElem?_eq_getElem hul⟩
      have hrow := Sm.rows_at hx
      rw [leadTo_some hx] at hX
      have hu' : u < b.length := by omega
      have hul2 : u.toNat < (Sm.rows b).length := by omega
      have hrow2 : ∀ h : u.toNat < (Sm.rows b).length, (Sm.rows b)[u.toNat] = x.cells := fun h => by
        rw [List.getElem?_eq_getElem h] at hrow; exact Option.some.inj hrow
      obtain ⟨op, ss, w, e, bb, cc, g⟩ := x
      have ht : n.tmod 2 = n % 2 := Int.tmod_eq_emod_of_nonneg hn0
      have hq2 : n.tdiv 2 = n / 2 := Int.tdiv_eq_ediv_of_nonneg hn0
      have hwr : IntKind.i64.wrap (n / 2) = n / 2 := by rw [w64] <;> omega
      have hzx := Sm.sizes_mem (List.mem_of_getElem? hx)
      simp only [Sm.size] at hzx
      unfold Sm.sub at hX
      simp only [Sm.cells] at hrow hrow2
      by_cases a2 : n % 2 = 0
      · rw [if_neg (by omega)] at hX
        simp [b_flotsamref25_Lead_0, h3, h7, h9, h10, hq, c10, hw, e1, e2, a1, hrl, hrow, hrow2, hul, hul2, hu, hu', ht, hq2, hwr, a2, hi8, hi8n]
        refine ih (i + 1) _ bb (n / 2) (by omega) (by omega) (by omega) (by omega) hX ?_ ?_ ?_ ?_ <;> simp [h3]
      · rw [if_pos (by omega)] at hX
        simp [b_flotsamref25_Lead_0, h3, h7, h9, h10, hq, c10, hw, e1, e2, a1, hrl, hrow, hrow2, hul, hul2, hu, hu', ht, hq2, hwr, a2, hi8, hi8n]
        refine ih (i + 1) _ cc (n / 2) (by omega) (by omega) (by omega) (by omega) hX ?_ ?_ ?_ ?_ <;> simp [h3]

/-- What the document's Lead answers. -/
def LedR (r : List V) (X : List Sm) : Prop := (∃ (b : List Sm) (u : Nat), r = [.sl 7 (Sm.rows b), iv u, .bool true] ∧ u < b.length ∧ Sm.sizes b ≤ 1000 ∧ b.drop u = X) ∨ (r = [.sl 7 [], iv 0, .bool false] ∧ X = [])

theorem refLead_eq (p : Pg) (hp : p.procs.length ≤ 1000) (hbs : ∀ b ∈ p.blocks, Sm.sizes b ≤ 1000) (s : Si) (hf : s.fit) : ∃ r, LedR r (leadOf p s) ∧ eval tbl noExt n_flotsamref25_Lead [.agg p.cells, .agg s.cells] [] = some (.tup r, []) := by
  have ok := hf.1
  have h8 : s.way.length = 8 := ok
  have hcp : p.cells.length = 4 := rfl
  have hcpt : p.cells.take 4 = p.cells := rfl
  have hcps : p.cells.map V.strip = p.cells := rfl
  have hcpu : ∀ n, V.underAll n p.cells = true := fun n => rfl
  have hcpo : p.cells.all V.one = true := rfl
  have hB := Block_eq p hp s.part (fit_range hf.2.2.1)
  have hbl := p.blocks_len
  have c1 := Si.c1 (s := s)
  have c2 := Si.c2 s ok
  have c10 := Si.c10 ok
  have q1 := Si.len ok
  have q3 := Si.strip (s := s)
  have q5 := Si.take ok
  have qu := fun n => Si.under (s := s) n
  have g1 : ∀ h : 1 < s.cells.length, s.cells[1] = iv s.part := fun h => rfl
  have g2 : ∀ h : 2 < s.cells.length, s.cells[2] = iv (s.way.getD 0 0) := fun h => by
    rw [List.getElem?_eq_getElem h] at c2; exact Option.some.inj c2
  have hmay := refMay_eq s ok []
  rw [eval_M rfl rfl t_flotsamref25_Lead rfl]
  unfold leadOf
  unfold blockV at hB
  by_cases a1 : 0 ≤ s.part ∧ s.part < p.blocks.length
  · rw [if_pos a1, decide_eq_true a1] at hB
    cases a3 : s.may with
    | false =>
      rw [if_neg (fun h => by simp at h)]
      rw [a3] at hmay
      refine ⟨[.sl 7 [], iv 0, .bool false], .inr ⟨rfl, rfl⟩, ?_⟩
      simp [c_flotsamref25_Lead, hcp, hcpt, hcps, hcpu, hcpo, hB, c1, g1, q1, q3, q5, qu, hmay]
    | true =>
      rw [if_pos ⟨by omega, by omega, rfl⟩]
      rw [a3] at hmay
      obtain ⟨d1, d8, hpos⟩ := may_all a3
      obtain ⟨d, hd⟩ : ∃ d : Nat, s.deep = d := ⟨s.deep.toNat, by omega⟩
      have hdt : s.deep.toNat = d := by omega
      rw [hdt]
      obtain ⟨b, hb⟩ : ∃ b, b = p.blocks.getD s.part.toNat [] := ⟨_, rfl⟩
      have hbz : Sm.sizes b ≤ 1000 := hbs b (by
        have hlt : s.part.toNat < p.blocks.length := by omega
        rw [hb, List.getD_eq_getElem?_getD, List.getElem?_eq_getElem hlt]
        exact List.getElem_mem _)
      rw [← hb] at hB ⊢
      obtain ⟨u, hu⟩ : ∃ u, u = s.way.getD 0 0 := ⟨_, rfl⟩
      have hw0 : 0 ≤ u := by rw [hu]; exact hpos _ (getD_mem (by omega))
      rw [← hu] at c2 g2 ⊢
      obtain ⟨X, hX⟩ : ∃ X, X = leadTo b u.toNat ((s.way.take d).drop 1) := ⟨_, rfl⟩
      rw [← hX]
      have e9 : d ≤ 8 := by omega
      have e10 : 1 ≤ d := by omega
      simp [c_flotsamref25_Lead, hcp, hcpt, hcps, hcpu, hcpo, hB, c1, g1, c2, g2, q1, q3, q5, qu, hmay]
      refine refLead_loop s ok _ 1 rfl d hd e10 e9 hpos hf.2.2.2.1 (fun out => ∃ r, LedR r X ∧ out = some (.tup r, [])) _ X ?_ ?_ (d - 1) 1 _ b u (by omega) (by omega) hbz hw0 hX.symm ?_ ?_ ?_ ?_
      · intro φ' b' v hvz hv hb' h7 h9
        have hrl := Sm.rows_len b'
        by_cases m1 : (b'.length : Int) ≤ v
        · simp [r_flotsamref25_Lead_0, h7, h9, hrl, m1]
          exact .inr ⟨rfl, by rw [← hb', List.drop_eq_nil_of_le (by omega)]⟩
        · simp [r_flotsamref25_Lead_0, h7, h9, hrl, m1]
          exact .inl ⟨b', v.toNat, by rw [show ((v.toNat : Nat) : Int) = v by omega], by omega, hvz, hb'⟩
      · intro φ' hX' h4 h5 h6
        simp [h4, h5, h6]
        exact .inr ⟨rfl, hX'⟩
      all_goals simp
  · rw [if_neg a1, decide_eq_false a1] at hB
    rw [if_neg (fun h => a1 ⟨h.1, h.2.1⟩)]
    refine ⟨[.sl 7 [], iv 0, .bool false], .inr ⟨rfl, rfl⟩, ?_⟩
    simp [c_flotsamref25_Lead, hcp, hcpt, hcps, hcpu, hcpo, hB, c1, g1, q1, q3, q5, qu]

end Go.AM.Spec

namespace Go.AM.Spec
set_option linter.unusedVariables false
set_option linter.unusedSimpArgs false
set_option maxHeartbeats 2000000
set_option maxRecDepth 10000

def Sm.writes (x : Sm) : Bool := decide (x.op = 3) || decide (x.op = 4)
/-- Is the last expression a text that can be torn? -/
def lastText (l : List Ex) : Bool := match l.getLast? with
  | some e => decide (e.op = 2) && decide ((1 : Int) < e.text.length)
  | none => false
def Sm.torn (x : Sm) : Bool := x.writes && lastText x.exprs
def nextWrites : List Sm → Bool
  | y :: _ => y.writes
  | [] => false

/-- Does a kind fit the first one of some statements? -/
def fitsOf (kind : Int) : List Sm → Bool
  | [] => false
  | x :: r =>
    if kind = 1 then decide (x.op = 8) || decide (x.op = 9) else if kind = 2 then decide (x.op = 8) else if kind = 3 then decide (x.op = 10) else if kind = 4 then decide (x.op = 11)
    else if kind = 5 then x.writes && nextWrites r else if kind = 6 then decide (x.op = 16) && x.commit else if kind = 7 then x.torn else if kind = 8 then x.writes else false

theorem fitsOf_cons (kind : Int) (x : Sm) (r : List Sm) : fitsOf kind (x :: r) = if kind = 1 then decide (x.op = 8) || decide (x.op = 9) else if kind = 2 then decide (x.op = 8) else if kind = 3 then decide (x.op = 10) else if kind = 4 then decide (x.op = 11)
    else if kind = 5 then x.writes && nextWrites r else if kind = 6 then decide (x.op = 16) && x.commit else if kind = 7 then x.torn else if kind = 8 then x.writes else false := rfl

theorem swrites_eq (x : Sm) (H : Heap) : eval tbl noExt n_site_writes [.agg x.cells] H = some (.bool x.writes, H) := by
  obtain ⟨op, s, w, e, b, c, g⟩ := x
  rw [eval_M rfl rfl t_site_writes rfl]
  unfold Sm.writes Sm.op
  by_cases a1 : op = 3
  · simp [c_site_writes, Sm.cells, a1]
  · simp [c_site_writes, Sm.cells, a1]

theorem refWrites_eq (x : Sm) (H : Heap) : eval tbl noExt n_flotsamref25_writes [.agg x.cells] H = some (.bool x.writes, H) := by
  obtain ⟨op, s, w, e, b, c, g⟩ := x
  rw [eval_M rfl rfl t_flotsamref25_writes rfl]
  unfold Sm.writes Sm.op
  by_cases a1 : op = 3
  · simp [c_flotsamref25_writes, Sm.cells, a1]
  · simp [c_flotsamref25_writes, Sm.cells, a1]

theorem last_cases (l : List Ex) : l = [] ∨ ∃ (m : Nat) (e : Ex), l.length = m + 1 ∧ l[m]? = some e ∧ l.getLast? = some e := by
  rcases List.eq_nil_or_concat l with h | ⟨i, e, h⟩
  · exact .inl h
  · subst h
    refine .inr ⟨i.length, e, by simp, by simp, by simp⟩

theorem torn_eq (x : Sm) (hx : x.exprs.length ≤ 1000) (H : Heap) : eval tbl noExt n_site_torn [.agg x.cells] H = some (.bool x.torn, H) := by
  have hw := swrites_eq x []
  obtain ⟨op, s, w, l, b, c, g⟩ := x
  simp only [Sm.exprs] at hx
  rw [eval_M rfl rfl t_site_torn rfl]
  have hcl := Ex.rows_len l
  unfold Sm.torn
  cases hb : Sm.writes (.mk op s w l b c g) with
  | false =>
    rw [hb] at hw
    simp only [Sm.cells] at hw
    simp [c_site_torn, Sm.cells, hw]
  | true =>
    rw [hb] at hw
    simp only [Sm.cells] at hw
    rcases last_cases l with h | ⟨m, e, h1, h2, h3⟩
    · subst h
      simp only [Ex.rows] at hw
      simp [c_site_torn, Sm.cells, hw, Ex.rows, lastText, Sm.exprs]
    · have hrow := Ex.rows_at h2
      have hm : m < (Ex.rows l).length := by omega
      have hrow2 : ∀ h : m < (Ex.rows l).length, (Ex.rows l)[m] = e.cells := fun h => by
        rw [List.getElem?_eq_getElem h] at hrow; exact Option.some.inj hrow
      have e0 : ¬ (l.length : Int) = 0 := by omega
      have e0' : l ≠ [] := by intro h; subst h; simp at h1
      have e1 : IntKind.i64.wrap ((l.length : Int) - 1) = (m : Int) := by rw [w64] <;> omega
      have e2 : (m : Int) < l.length := by omega
      have e3 : m < l.length := by omega
      have hlt : lastText l = (decide (e.op = 2) && decide ((1 : Int) < e.text.length)) := by unfold lastText; rw [h3]
      simp only [Sm.exprs, Bool.true_and, hlt]
      obtain ⟨eo, en, es, ex⟩ := e
      simp only [Ex.cells] at hrow hrow2
      simp only [Ex.op, Ex.text]
      by_cases a1 : eo = 2
      · simp [c_site_torn, Sm.cells, hw, hcl, hrow, hrow2, hm, e0, e0', e1, e2, e3, a1]
        rfl
      · simp [c_site_torn, Sm.cells, hw, hcl, hrow, hrow2, hm, e0, e0', e1, e2, e3, a1]

theorem fits_eq (kind : Int) (l : List Sm) (hl : ∀ x ∈ l, x.exprs.length ≤ 1000) (H : Heap) : eval tbl noExt n_site_fits [iv kind, .sl 7 (Sm.rows l)] H = some (.bool (fitsOf kind l), H) := by
  rw [eval_M rfl rfl t_site_fits rfl]
  have hrl := Sm.rows_len l
  match l, hl, hrl with
  | [], _, _ => simp [c_site_fits, Sm.rows, fitsOf] <;> rfl
  | x :: r, hl, hrl =>
    have hw := swrites_eq x []
    have ht := torn_eq x (hl x (by simp)) []
    obtain ⟨op, s, w, e, b, c, g⟩ := x
    simp only [Sm.rows, Sm.cells] at hw ht hrl ⊢
    simp only [List.length_cons] at hrl
    have hrl' : (Sm.rows r).length = r.length := Sm.rows_len r
    have z : ¬ ((Sm.rows r).length : Int) + 1 = 0 := by omega
    have z0 : (0 : Int) < ((Sm.rows r).length : Int) + 1 := by omega
    rw [fitsOf_cons]
    by_cases k1 : kind = 1
    · rw [if_pos k1]
      by_cases a1 : op = 8
      · simp [c_site_fits, z, z0, k1, a1, Sm.op] <;> rfl
      · simp [c_site_fits, z, z0, k1, a1, Sm.op] <;> rfl
    rw [if_neg k1]
    by_cases k2 : kind = 2
    · rw [if_pos k2]; simp [c_site_fits, z, z0, k2, Sm.op] <;> rfl
    rw [if_neg k2]
    by_cases k3 : kind = 3
    · rw [if_pos k3]; simp [c_site_fits, z, z0, k3, Sm.op] <;> rfl
    rw [if_neg k3]
    by_cases k4 : kind = 4
    · rw [if_pos k4]; simp [c_site_fits, z, z0, k4, Sm.op] <;> rfl
    rw [if_neg k4]
    by_cases k5 : kind = 5
    · rw [if_pos k5]
      cases hb : Sm.writes (.mk op s w e b c g) with
      | false =>
        rw [hb] at hw
        simp [c_site_fits, z, z0, k5, hw] <;> rfl
      | true =>
        rw [hb] at hw
        match r, hl, hrl, hrl' with
        | [], _, _, _ => simp [c_site_fits, k5, hw, Sm.rows, nextWrites] <;> rfl
        | y :: r2, hl, hrl, hrl' =>
          have hw2 := swrites_eq y []
          have z2 : ¬ (r2.length : Int) + 1 + 1 = 0 := by omega
          have z3 : (0 : Int) < (r2.length : Int) + 1 + 1 := by omega
          have d1 : (0 : Int) < (r2.length : Int) + 1 := by omega
          have d2 : (1 : Int) < (r2.length : Int) + 1 + 1 := by omega
          have hrl2 := Sm.rows_len r2
          obtain ⟨a0, a1', a2, a3, a4, a5, a6, hcs⟩ := Sm.cells_shape y
          rw [hcs] at hw2
          simp [c_site_fits, k5, hw, hw2, Sm.rows, nextWrites, z2, z3, d1, d2, hcs, hrl2] <;> rfl
    rw [if_neg k5]
    by_cases k6 : kind = 6
    · rw [if_pos k6]
      by_cases a1 : op = 16
      · simp [c_site_fits, z, z0, k6, a1, Sm.op, Sm.commit] <;> rfl
      · simp [c_site_fits, z, z0, k6, a1, Sm.op, Sm.commit] <;> rfl
    rw [if_neg k6]
    by_cases k7 : kind = 7
    · rw [if_pos k7]; simp [c_site_fits, z, z0, k7, ht] <;> rfl
    rw [if_neg k7]
    by_cases k8 : kind = 8
    · rw [if_pos k8]; simp [c_site_fits, z, z0, k8, hw] <;> rfl
    rw [if_neg k8]
    simp [c_site_fits, z, z0, k1, k2, k3, k4, k5, k6, k7, k8] <;> rfl

/-! Sizes. -/
theorem sub_sizes (x : Sm) (n : Int) : Sm.sizes (x.sub n) ≤ x.size := by
  obtain ⟨op, s, w, e, b, c, g⟩ := x
  unfold Sm.sub Sm.els Sm.body
  simp only [Sm.size]
  split <;> omega
theorem drop_sizes (b : List Sm) (k : Nat) : Sm.sizes (b.drop k) ≤ Sm.sizes b := by
  have h := sizes_append (b.take k) (b.drop k)
  rw [List.take_append_drop] at h
  omega
theorem leadTo_sizes : ∀ (ws : List Int) (b : List Sm) (k : Nat), Sm.sizes (leadTo b k ws) ≤ Sm.sizes b
  | [], b, k => by rw [leadTo]; exact drop_sizes b k
  | n :: ws, b, k => by
    rw [leadTo]
    split
    · simp [Sm.sizes]
    · rename_i x hx
      have h1 := leadTo_sizes ws (x.sub n) (n / 2).toNat
      have h2 := sub_sizes x n
      have h3 := Sm.sizes_mem (List.mem_of_getElem? hx)
      omega
theorem block_sizes {p : Pg} (hp : p.size ≤ 1000) {b : List Sm} (h : b ∈ p.blocks) : Sm.sizes b ≤ 1000 := by
  have h1 := p.parts_size
  have h2 : b ∈ p.parts := by
    unfold Pg.blocks at h
    unfold Pg.parts
    rcases List.mem_cons.1 h with rfl | h
    · simp
    · exact List.mem_append_left _ h
  have := sizes_flatten h2
  omega
theorem procs_len {p : Pg} (hp : p.size ≤ 1000) : p.procs.length ≤ 1000 := by
  have h1 := p.parts_size
  omega
theorem leadOf_sizes {p : Pg} (hp : p.size ≤ 1000) (s : Si) : Sm.sizes (leadOf p s) ≤ 1000 := by
  unfold leadOf
  split
  · rename_i h
    refine Nat.le_trans (leadTo_sizes _ _ _) (block_sizes hp ?_)
    have hlt : s.part.toNat < p.blocks.length := by omega
    rw [List.getD_eq_getElem?_getD, List.getElem?_eq_getElem hlt]
    exact List.getElem_mem _
  · simp [Sm.sizes]
theorem exprs_len {l : List Sm} (h : Sm.sizes l ≤ 1000) : ∀ x ∈ l, x.exprs.length ≤ 1000 := by
  intro x hx
  have h1 := Sm.sizes_mem hx
  obtain ⟨op, s, w, e, b, c, g⟩ := x
  have h2 := Ex.sizes_ge e
  simp only [Sm.size] at h1
  simp only [Sm.exprs]
  omega

theorem Fits_eq (p : Pg) (hp : p.size ≤ 1000) (s : Si) (hf : s.fit) : eval tbl noExt n_site_Fits [.agg p.cells, .agg s.cells] [] = some (.bool (fitsOf s.kind (leadOf p s)), []) := by
  obtain ⟨r, hr, hl⟩ := slead_eq p (procs_len hp) s hf
  have hF := fits_eq s.kind (leadOf p s) (exprs_len (leadOf_sizes hp s)) []
  have ok := hf.1
  have hcp : p.cells.length = 4 := rfl
  have hcpt : p.cells.take 4 = p.cells := rfl
  have hcps : p.cells.map V.strip = p.cells := rfl
  have hcpu : ∀ n, V.underAll n p.cells = true := fun n => rfl
  have c0 := Si.c0 (s := s)
  have q1 := Si.len ok
  have q3 := Si.strip (s := s)
  have q5 := Si.take ok
  have qu := fun n => Si.under (s := s) n
  have g0 : ∀ h : 0 < s.cells.length, s.cells[0] = iv s.kind := fun h => rfl
  rw [eval_M rfl rfl t_site_Fits rfl]
  rcases hr with rfl | ⟨rfl, hX⟩
  · simp [c_site_Fits, hcp, hcpt, hcps, hcpu, hl, hF, c0, g0, q1, q3, q5, qu]
  · rw [hX] at hF ⊢
    simp only [Sm.rows] at hF
    simp [c_site_Fits, hcp, hcpt, hcps, hcpu, hl, hF, c0, g0, q1, q3, q5, qu]

end Go.AM.Spec

namespace Go.AM.Spec
set_option linter.unusedVariables false
set_option linter.unusedSimpArgs false
set_option maxHeartbeats 2000000
set_option maxRecDepth 10000

theorem refFits_eq (p : Pg) (hp : p.size ≤ 1000) (s : Si) (hf : s.fit) : eval tbl noExt n_flotsamref25_Fits [.agg p.cells, .agg s.cells] [] = some (.bool (fitsOf s.kind (leadOf p s)), []) := by
  obtain ⟨r, hr, hl⟩ := refLead_eq p (procs_len hp) (fun b hb => block_sizes hp hb) s hf
  have hX1 := exprs_len (leadOf_sizes hp s)
  obtain ⟨X, hX⟩ : ∃ X, X = leadOf p s := ⟨_, rfl⟩
  rw [← hX] at hr hX1 ⊢
  have ok := hf.1
  have hcp : p.cells.length = 4 := rfl
  have hcpt : p.cells.take 4 = p.cells := rfl
  have hcps : p.cells.map V.strip = p.cells := rfl
  have hcpu : ∀ n, V.underAll n p.cells = true := fun n => rfl
  have c0 := Si.c0 (s := s)
  have q1 := Si.len ok
  have q3 := Si.strip (s := s)
  have q5 := Si.take ok
  have qu := fun n => Si.under (s := s) n
  have g0 : ∀ h : 0 < s.cells.length, s.cells[0] = iv s.kind := fun h => rfl
  obtain ⟨kind, hk⟩ : ∃ kind, kind = s.kind := ⟨_, rfl⟩
  rw [← hk] at c0 g0 ⊢
  rw [eval_M rfl rfl t_flotsamref25_Fits rfl]
  rcases hr with ⟨b, u, rfl, hu, hz, hd⟩ | ⟨rfl, hX2⟩
  · have hrl := Sm.rows_len b
    have hbl := Sm.sizes_ge b
    obtain ⟨x, hx⟩ : ∃ x, b[u]? = some x := ⟨_, List.getElem?_eq_getElem hu⟩
    have hXe : X = x :: b.drop (u + 1) := by
      rw [← hd, List.drop_eq_getElem_cons hu]
      rw [List.getElem?_eq_getElem hu] at hx
      rw [Option.some.inj hx]
    have hw := refWrites_eq x []
    have hrow := Sm.rows_at hx
    have hu2 : u < (Sm.rows b).length := by omega
    have hui : (u : Int) < b.length := by omega
    have hrow2 : ∀ h : u < (Sm.rows b).length, (Sm.rows b)[u] = x.cells := fun h => by
      rw [List.getElem?_eq_getElem h] at hrow; exact Option.some.inj hrow
    have hxl := hX1 x (by rw [hXe]; simp)
    have e1 : IntKind.i64.wrap ((u : Int) + 1) = (u : Int) + 1 := by rw [w64] <;> omega
    rw [hXe, fitsOf_cons]
    obtain ⟨op, ss, w, l, bb, cc, g⟩ := x
    simp only [Sm.cells] at hw hrow hrow2
    simp only [Sm.exprs] at hxl
    have hll := Ex.rows_len l
    by_cases k1 : kind = 1
    · rw [if_pos k1]
      by_cases a1 : op = 8
      · simp [c_flotsamref25_Fits, hcp, hcpt, hcps, hcpu, hl, c0, g0, q1, q3, q5, qu, hrl, hrow, hrow2, hu, hu2, hui, k1, a1, Sm.op] <;> rfl
      · simp [c_flotsamref25_Fits, hcp, hcpt, hcps, hcpu, hl, c0, g0, q1, q3, q5, qu, hrl, hrow, hrow2, hu, hu2, hui, k1, a1, Sm.op] <;> rfl
    rw [if_neg k1]
    by_cases k2 : kind = 2
    · rw [if_pos k2]; simp [c_flotsamref25_Fits, hcp, hcpt, hcps, hcpu, hl, c0, g0, q1, q3, q5, qu, hrl, hrow, hrow2, hu, hu2, hui, k2, Sm.op] <;> rfl
    rw [if_neg k2]
    by_cases k3 : kind = 3
    · rw [if_pos k3]; simp [c_flotsamref25_Fits, hcp, hcpt, hcps, hcpu, hl, c0, g0, q1, q3, q5, qu, hrl, hrow, hrow2, hu, hu2, hui, k3, Sm.op] <;> rfl
    rw [if_neg k3]
    by_cases k4 : kind = 4
    · rw [if_pos k4]; simp [c_flotsamref25_Fits, hcp, hcpt, hcps, hcpu, hl, c0, g0, q1, q3, q5, qu, hrl, hrow, hrow2, hu, hu2, hui, k4, Sm.op] <;> rfl
    rw [if_neg k4]
    by_cases k5 : kind = 5
    · rw [if_pos k5]
      cases hb : Sm.writes (.mk op ss w l bb cc g) with
      | false =>
        rw [hb] at hw
        simp [c_flotsamref25_Fits, hcp, hcpt, hcps, hcpu, hl, c0, g0, q1, q3, q5, qu, hrl, hrow, hrow2, hu, hu2, hui, k5, hw] <;> rfl
      | true =>
        rw [hb] at hw
        by_cases a1 : u + 1 < b.length
        · obtain ⟨y, hy⟩ : ∃ y, b[u + 1]? = some y := ⟨_, List.getElem?_eq_getElem a1⟩
          have hnw : nextWrites (b.drop (u + 1)) = y.writes := by
            rw [List.drop_eq_getElem_cons a1]
            rw [List.getElem?_eq_getElem a1] at hy
            rw [Option.some.inj hy]; rfl
          have hrowy := Sm.rows_at hy
          have hy2 : u + 1 < (Sm.rows b).length := by omega
          have hrowy2 : ∀ h : u + 1 < (Sm.rows b).length, (Sm.rows b)[u + 1] = y.cells := fun h => by
            rw [List.getElem?_eq_getElem h] at hrowy; exact Option.some.inj hrowy
          have hwy := refWrites_eq y []
          obtain ⟨a0, a1', a2, a3, a4, a5, a6, hcs⟩ := Sm.cells_shape y
          rw [hcs] at hwy hrowy hrowy2
          have a1i : (u : Int) + 1 < b.length := by omega
          have a1j : (0 : Int) ≤ (u : Int) + 1 := by omega
          have a1k : ((u : Int) + 1).toNat = u + 1 := by omega
          rw [hnw]
          simp [c_flotsamref25_Fits, hcp, hcpt, hcps, hcpu, hl, c0, g0, q1, q3, q5, qu, hrl, hrow, hrow2, hu, hu2, hui, k5, hw, e1, a1, a1i, a1j, a1k, hy2, hrowy, hrowy2, hwy] <;> rfl
        · have a1i : ¬ (u : Int) + 1 < b.length := by omega
          rw [List.drop_eq_nil_of_le (by omega)]
          simp [c_flotsamref25_Fits, hcp, hcpt, hcps, hcpu, hl, c0, g0, q1, q3, q5, qu, hrl, hrow, hrow2, hu, hu2, hui, k5, hw, e1, a1, a1i, nextWrites] <;> rfl
    rw [if_neg k5]
    by_cases k6 : kind = 6
    · rw [if_pos k6]
      by_cases a1 : op = 16
      · simp [c_flotsamref25_Fits, hcp, hcpt, hcps, hcpu, hl, c0, g0, q1, q3, q5, qu, hrl, hrow, hrow2, hu, hu2, hui, k6, a1, Sm.op, Sm.commit] <;> rfl
      · simp [c_flotsamref25_Fits, hcp, hcpt, hcps, hcpu, hl, c0, g0, q1, q3, q5, qu, hrl, hrow, hrow2, hu, hu2, hui, k6, a1, Sm.op, Sm.commit] <;> rfl
    rw [if_neg k6]
    by_cases k7 : kind = 7
    · rw [if_pos k7]
      unfold Sm.torn
      cases hb : Sm.writes (.mk op ss w l bb cc g) with
      | false =>
        rw [hb] at hw
        simp [c_flotsamref25_Fits, hcp, hcpt, hcps, hcpu, hl, c0, g0, q1, q3, q5, qu, hrl, hrow, hrow2, hu, hu2, hui, k7, hw] <;> rfl
      | true =>
        rw [hb] at hw
        rcases last_cases l with h | ⟨m, e, h1, h2, h3⟩
        · subst h
          simp only [Ex.rows] at hw hrow hrow2
          simp [c_flotsamref25_Fits, hcp, hcpt, hcps, hcpu, hl, c0, g0, q1, q3, q5, qu, hrl, hrow, hrow2, hu, hu2, hui, k7, hw, lastText, Sm.exprs] <;> rfl
        · have hrowe := Ex.rows_at h2
          have hm : m < (Ex.rows l).length := by omega
          have hrowe2 : ∀ h : m < (Ex.rows l).length, (Ex.rows l)[m] = e.cells := fun h => by
            rw [List.getElem?_eq_getElem h] at hrowe; exact Option.some.inj hrowe
          have f0 : (0 : Int) < l.length := by omega
          have f0' : 0 < l.length := by omega
          have f1 : IntKind.i64.wrap ((l.length : Int) - 1) = (m : Int) := by rw [w64] <;> omega
          have f2 : (m : Int) < l.length := by omega
          have f3 : m < l.length := by omega
          have hlt : lastText l = (decide (e.op = 2) && decide ((1 : Int) < e.text.length)) := by unfold lastText; rw [h3]
          simp only [Sm.exprs, Bool.true_and, hlt]
          obtain ⟨eo, en, es, ex⟩ := e
          simp only [Ex.cells] at hrowe hrowe2
          simp only [Ex.op, Ex.text]
          by_cases a1 : eo = 2
          · by_cases a2 : (1 : Int) < es.length
            · have a3 : (2 : Int) ≤ es.length := by omega
              simp [c_flotsamref25_Fits, hcp, hcpt, hcps, hcpu, hl, c0, g0, q1, q3, q5, qu, hrl, hrow, hrow2, hu, hu2, hui, k7, hw, hll, f0, f0', f1, f2, f3, hm, hrowe, hrowe2, a1, a2, a3] <;> rfl
            · have a3 : ¬ (2 : Int) ≤ es.length := by omega
              simp [c_flotsamref25_Fits, hcp, hcpt, hcps, hcpu, hl, c0, g0, q1, q3, q5, qu, hrl, hrow, hrow2, hu, hu2, hui, k7, hw, hll, f0, f0', f1, f2, f3, hm, hrowe, hrowe2, a1, a2, a3] <;> rfl
          · simp [c_flotsamref25_Fits, hcp, hcpt, hcps, hcpu, hl, c0, g0, q1, q3, q5, qu, hrl, hrow, hrow2, hu, hu2, hui, k7, hw, hll, f0, f0', f1, f2, f3, hm, hrowe, hrowe2, a1] <;> rfl
    rw [if_neg k7]
    by_cases k8 : kind = 8
    · rw [if_pos k8]; simp [c_flotsamref25_Fits, hcp, hcpt, hcps, hcpu, hl, c0, g0, q1, q3, q5, qu, hrl, hrow, hrow2, hu, hu2, hui, k8, hw] <;> rfl
    rw [if_neg k8]
    simp [c_flotsamref25_Fits, hcp, hcpt, hcps, hcpu, hl, c0, g0, q1, q3, q5, qu, hrl, hrow, hrow2, hu, hu2, hui, k1, k2, k3, k4, k5, k6, k7, k8] <;> rfl
  · rw [hX2]
    simp [c_flotsamref25_Fits, hcp, hcpt, hcps, hcpu, hl, c0, g0, q1, q3, q5, qu, fitsOf] <;> rfl

/-! At. -/
def zeroSm : Sm := .mk 0 [] 0 [] [] [] false
def headOf (X : List Sm) : Sm := X.headD zeroSm

theorem procE : eval tbl noExt n_tree_each_api_Proc [.sl 2 [], .fn (.func n_tree_Clone_1) [] []] [] = some (.own 2 [], []) := (eval_iff ..).2 ⟨50, by kernel_rfl⟩
theorem oraE : eval tbl noExt n_tree_each_api_Oracle [.sl 5 [], .fn (.func n_tree_Clone_2) [] []] [] = some (.own 5 [], []) := (eval_iff ..).2 ⟨50, by kernel_rfl⟩

theorem clone1_eq (x : Sm) (hx : x.size ≤ 1000) : eval tbl noExt n_tree_Clone [.agg [.sl 2 [], .sl 7 [x.cells], .sl 7 [], .sl 5 []]] [] = some (.agg [.sl 2 [], .sl 7 [x.cells], .sl 7 [], .sl 5 []], []) := by
  have h1 := each_stmt_eq [x] (by simp) (fun e he K => cloned_eq 1000 e (by simp at he; subst he; exact hx) (Nat.le_refl _) K) []
  have h2 := each_stmt_eq [] (by simp) (fun e he K => by simp at he) []
  have h3 := procE
  have h4 := oraE
  simp only [Sm.rows] at h1 h2
  rw [eval_M rfl rfl t_tree_Clone rfl]
  simp [c_tree_Clone, h1, h2, h3, h4]

theorem At_eq (p : Pg) (hp : p.size ≤ 1000) (s : Si) (hf : s.fit) : eval tbl noExt n_site_At [.agg p.cells, .agg s.cells] [] = some (.tup [.agg (headOf (leadOf p s)).cells, .bool (!(leadOf p s).isEmpty)], []) := by
  obtain ⟨r, hr, hl⟩ := slead_eq p (procs_len hp) s hf
  have hsz := leadOf_sizes hp s
  obtain ⟨X, hX⟩ : ∃ X, X = leadOf p s := ⟨_, rfl⟩
  rw [← hX] at hr hsz ⊢
  have ok := hf.1
  have hcp : p.cells.length = 4 := rfl
  have hcpt : p.cells.take 4 = p.cells := rfl
  have hcps : p.cells.map V.strip = p.cells := rfl
  have hcpu : ∀ n, V.underAll n p.cells = true := fun n => rfl
  have q1 := Si.len ok
  have q3 := Si.strip (s := s)
  have q5 := Si.take ok
  have qu := fun n => Si.under (s := s) n
  rw [eval_M rfl rfl t_site_At rfl]
  have hnil : X = [] → r = .sl 7 [] ∨ r = .own 7 [] := fun h => by
    subst h
    rcases hr with h | h
    · exact .inl (by simpa [Sm.rows] using h)
    · exact .inr h.1
  match X, hr, hsz, hnil with
  | [], hr, hsz, hnil =>
    rcases hnil rfl with rfl | rfl
    · simp [c_site_At, hcp, hcpt, hcps, hcpu, hl, q1, q3, q5, qu, headOf, zeroSm, Sm.cells, Sm.rows, Ex.rows]
    · simp [c_site_At, hcp, hcpt, hcps, hcpu, hl, q1, q3, q5, qu, headOf, zeroSm, Sm.cells, Sm.rows, Ex.rows]
  | x :: X, hr, hsz, _ =>
    have hr' : r = .sl 7 (x.cells :: Sm.rows X) := by
      rcases hr with h | h
      · simpa [Sm.rows] using h
      · exact absurd h.2 (by simp)
    subst hr'
    simp only [Sm.sizes] at hsz
    have hc := clone1_eq x (by omega)
    have hrl := Sm.rows_len X
    have z : ¬ ((Sm.rows X).length : Int) + 1 = 0 := by omega
    have z1 : ¬ (X.length : Int) + 1 = 0 := by omega
    have z2 : (1 : Int) ≤ (X.length : Int) + 1 := by omega
    have z3 : (1 : Int) ≤ ((Sm.rows X).length : Int) + 1 := by omega
    obtain ⟨a0, a1', a2, a3, a4, a5, a6, hcs⟩ := Sm.cells_shape x
    have hh : (headOf (x :: X)).cells = x.cells := rfl
    rw [hh]
    rw [hcs] at hl hc ⊢
    simp [c_site_At, hcp, hcpt, hcps, hcpu, hl, q1, q3, q5, qu, hc, z, z1, z2, z3]

theorem refAt_eq (p : Pg) (hp : p.size ≤ 1000) (s : Si) (hf : s.fit) : eval tbl noExt n_flotsamref25_At [.agg p.cells, .agg s.cells] [] = some (.tup [.agg (headOf (leadOf p s)).cells, .bool (!(leadOf p s).isEmpty)], []) := by
  obtain ⟨r, hr, hl⟩ := refLead_eq p (procs_len hp) (fun b hb => block_sizes hp hb) s hf
  obtain ⟨X, hX⟩ : ∃ X, X = leadOf p s := ⟨_, rfl⟩
  rw [← hX] at hr ⊢
  have ok := hf.1
  have hcp : p.cells.length = 4 := rfl
  have hcpt : p.cells.take 4 = p.cells := rfl
  have hcps : p.cells.map V.strip = p.cells := rfl
  have hcpu : ∀ n, V.underAll n p.cells = true := fun n => rfl
  have q1 := Si.len ok
  have q3 := Si.strip (s := s)
  have q5 := Si.take ok
  have qu := fun n => Si.under (s := s) n
  rw [eval_M rfl rfl t_flotsamref25_At rfl]
  rcases hr with ⟨b, u, rfl, hu, hz, hd⟩ | ⟨rfl, hX2⟩
  · have hrl := Sm.rows_len b
    obtain ⟨x, hx⟩ : ∃ x, b[u]? = some x := ⟨_, List.getElem?_eq_getElem hu⟩
    have hXe : X = x :: b.drop (u + 1) := by
      rw [← hd, List.drop_eq_getElem_cons hu]
      rw [List.getElem?_eq_getElem hu] at hx
      rw [Option.some.inj hx]
    have hrow := Sm.rows_at hx
    have hu2 : u < (Sm.rows b).length := by omega
    have hui : (u : Int) < b.length := by omega
    have hrow2 : ∀ h : u < (Sm.rows b).length, (Sm.rows b)[u] = x.cells := fun h => by
      rw [List.getElem?_eq_getElem h] at hrow; exact Option.some.inj hrow
    have hh : (headOf X).cells = x.cells := by rw [hXe]; rfl
    have he : X.isEmpty = false := by rw [hXe]; rfl
    rw [hh, he]
    obtain ⟨a0, a1', a2, a3, a4, a5, a6, hcs⟩ := Sm.cells_shape x
    rw [hcs] at hrow hrow2 ⊢
    simp [c_flotsamref25_At, hcp, hcpt, hcps, hcpu, hl, q1, q3, q5, qu, hrl, hrow, hrow2, hu, hu2, hui]
  · rw [hX2]
    simp [c_flotsamref25_At, hcp, hcpt, hcps, hcpu, hl, q1, q3, q5, qu, headOf, zeroSm, Sm.cells, Sm.rows, Ex.rows]

end Go.AM.Spec

namespace Go.AM.Spec
set_option linter.unusedVariables false
set_option linter.unusedSimpArgs false
set_option maxHeartbeats 1000000

def Si.step (s : Si) (a : Nat) (v : Int) : Si := { s with way := s.way.set a v, deep := ((a + 1 : Nat) : Int) }
def evn (k : Nat) : Int := 2 * k
def odk (k : Nat) : Int := 2 * k + 1

/-- The ways into the rest of a block, from its place k on. -/
def loopE (rec : (Nat → Int) → Si → List Sm → List (Si × List Sm)) (t : Nat → Int) (s : Si) (a : Nat) : Nat → List Sm → List (Si × List Sm)
  | _, [] => []
  | k, x :: r => (s.step a (t k), x :: r) :: (rec evn (s.step a (t k)) x.body ++ (rec odk (s.step a (t k)) x.els ++ loopE rec t s a (k + 1) r))

/-- All ways into a block; so many steps are left. -/
def eachL : Nat → (Nat → Int) → Si → List Sm → List (Si × List Sm)
  | 0 => fun _ _ _ => []
  | d + 1 => fun t s l => loopE (eachL d) t s (8 - (d + 1)) 0 l

structure Inv (s : Si) (d : Nat) : Prop where
  ok : s.way.length = 8
  hd : d ≤ 8
  deep : s.deep = ((8 - d : Nat) : Int)
  kind : s.kind = 0
  way : ∀ w ∈ s.way, 0 ≤ w ∧ w ≤ 10000
  zero : ∀ w ∈ s.way.drop (8 - d), w = 0

theorem step_inv {s : Si} {d : Nat} (h : Inv s (d + 1)) {v : Int} (h0 : 0 ≤ v) (h1 : v ≤ 10000) : Inv (s.step (8 - (d + 1)) v) d := by
  have hd := h.hd
  refine ⟨by simp [Si.step, h.ok], by omega, by simp only [Si.step]; congr 1; omega, h.kind, fun w hw => ?_, fun w hw => ?_⟩
  · rcases List.mem_or_eq_of_mem_set hw with h2 | rfl
    · exact h.way w h2
    · exact ⟨h0, h1⟩
  · refine h.zero w ?_
    have e : 8 - d = (8 - (d + 1)) + 1 := by omega
    simp only [Si.step] at hw
    rw [e, List.drop_set_of_lt (by omega)] at hw
    exact List.mem_of_mem_drop (i := 1) (by rw [List.drop_drop]; exact hw)

theorem step_take {s : Si} {a : Nat} (h : a < s.way.length) (v : Int) : (s.step a v).way.take (a + 1) = s.way.take a ++ [v] := by
  simp only [Si.step]
  rw [List.take_add_one, List.take_set_of_le (Nat.le_refl a), List.getElem?_set_self h]
  rfl

theorem inv_may {s : Si} {d : Nat} (h : Inv s d) (h7 : d ≤ 7) : s.may = true := by
  unfold Si.may
  have hd := h.deep
  have e : s.deep.toNat = 8 - d := by omega
  simp only [Bool.and_eq_true, decide_eq_true_eq, List.all_eq_true]
  refine ⟨by omega, by omega, fun w hw => (h.way w hw).1, fun w hw => h.zero w (by rw [← e]; exact hw)⟩

def LeadW (b : List Sm) : List Int → List Sm
  | [] => []
  | u :: ws => leadTo b u.toNat ws

/-- What is known of a way that is told. -/
structure Out (b0 : List Sm) (part : Int) (e : Si × List Sm) : Prop where
  ok : e.1.way.length = 8
  may : e.1.may = true
  kind : e.1.kind = 0
  part : e.1.part = part
  way : ∀ w ∈ e.1.way, 0 ≤ w ∧ w ≤ 10000
  lead : LeadW b0 (e.1.way.take e.1.deep.toNat) = e.2
  size : Sm.sizes e.2 ≤ 1000

theorem leadTo_even (l : List Sm) (k : Nat) (x : Sm) (hx : l[k]? = some x) (j : Nat) (ws : List Int) : leadTo l k (evn j :: ws) = leadTo x.body j ws := by
  rw [leadTo_some hx]
  have h1 : ¬ evn j % 2 = 1 := by unfold evn; omega
  have h2 : (evn j / 2).toNat = j := by unfold evn; omega
  rw [h2, Sm.sub, if_neg h1]
theorem leadTo_odd (l : List Sm) (k : Nat) (x : Sm) (hx : l[k]? = some x) (j : Nat) (ws : List Int) : leadTo l k (odk j :: ws) = leadTo x.els j ws := by
  rw [leadTo_some hx]
  have h1 : odk j % 2 = 1 := by unfold odk; omega
  have h2 : (odk j / 2).toNat = j := by unfold odk; omega
  rw [h2, Sm.sub, if_pos h1]

theorem body_sizes (x : Sm) : Sm.sizes x.body + Sm.sizes x.els + 1 ≤ x.size := by
  obtain ⟨op, s, w, e, b, c, g⟩ := x
  simp only [Sm.body, Sm.els, Sm.size]
  omega

theorem eachL_out (b0 : List Sm) (part : Int) : ∀ (d : Nat) (t : Nat → Int) (s : Si) (l : List Sm), Inv s d → s.part = part → Sm.sizes l ≤ 1000 → (∀ k, k < l.length → 0 ≤ t k ∧ t k ≤ 10000) →
    (∀ k ws, LeadW b0 (s.way.take (8 - d) ++ t k :: ws) = leadTo l k ws) → ∀ e ∈ eachL d t s l, Out b0 part e := by
  intro d
  induction d with
  | zero => intro t s l _ _ _ _ _ e he; simp [eachL] at he
  | succ d ih =>
    intro t s l hI hp hs ht hL
    have hd := hI.hd
    have hlen : 8 - (d + 1) < s.way.length := by rw [hI.ok]; omega
    have hl := Sm.sizes_ge l
    have key : ∀ (r : List Sm) (k : Nat), r = l.drop k → ∀ e ∈ loopE (eachL d) t s (8 - (d + 1)) k r, Out b0 part e := by
      intro r
      induction r with
      | nil => intro k _ e he; simp [loopE] at he
      | cons x r ihr =>
        intro k hr e he
        have hk : k < l.length := by
          rcases Nat.lt_or_ge k l.length with h | h
          · exact h
          · rw [List.drop_eq_nil_of_le h] at hr; cases hr
        have hx : l[k]? = some x := by
          rw [List.drop_eq_getElem_cons hk] at hr
          rw [List.getElem?_eq_getElem hk, (List.cons.inj hr).1]
        have hrest : r = l.drop (k + 1) := by
          rw [List.drop_eq_getElem_cons hk] at hr
          exact (List.cons.inj hr).2
        have hv := ht k hk
        have hI' := step_inv hI hv.1 hv.2
        have htake := step_take hlen (t k)
        have e8 : 8 - d = (8 - (d + 1)) + 1 := by omega
        have hsx := Sm.sizes_mem (List.mem_of_getElem? hx)
        have hbs := body_sizes x
        have hgb := Sm.sizes_ge x.body
        have hge := Sm.sizes_ge x.els
        rw [loopE] at he
        rcases List.mem_cons.1 he with rfl | he
        · refine ⟨hI'.ok, inv_may hI' (by omega), hI'.kind, hp, hI'.way, ?_, ?_⟩
          · have hdp : ((s.step (8 - (d + 1)) (t k)).deep).toNat = (8 - (d + 1)) + 1 := by simp [Si.step]
            rw [hdp, htake, hL k [], leadTo, ← hr]
          · rw [hr]
            exact Nat.le_trans (drop_sizes l k) hs
        · rcases List.mem_append.1 he with he | he
          · refine ih evn _ _ hI' hp (by omega) (fun j hj => by unfold evn; omega) (fun j ws => ?_) e he
            rw [e8, htake, List.append_assoc, List.singleton_append, hL k (evn j :: ws), leadTo_even l k x hx]
          · rcases List.mem_append.1 he with he | he
            · refine ih odk _ _ hI' hp (by omega) (fun j hj => by unfold odk; omega) (fun j ws => ?_) e he
              rw [e8, htake, List.append_assoc, List.singleton_append, hL k (odk j :: ws), leadTo_odd l k x hx]
            · exact ihr (k + 1) hrest e he
    exact key l 0 (by simp)

theorem eachL_len : ∀ (d : Nat) (t : Nat → Int) (s : Si) (l : List Sm), (eachL d t s l).length ≤ Sm.sizes l := by
  intro d
  induction d with
  | zero => intro t s l; simp [eachL]
  | succ d ih =>
    intro t s l
    have key : ∀ (r : List Sm) (k : Nat), (loopE (eachL d) t s (8 - (d + 1)) k r).length ≤ Sm.sizes r := by
      intro r
      induction r with
      | nil => intro k; simp [loopE]
      | cons x r ihr =>
        intro k
        have h1 := ih evn (s.step (8 - (d + 1)) (t k)) x.body
        have h2 := ih odk (s.step (8 - (d + 1)) (t k)) x.els
        have h3 := ihr (k + 1)
        have h4 := body_sizes x
        simp only [loopE, List.length_cons, List.length_append, Sm.sizes]
        omega
    exact key l 0

/-- What a way that is told leads to. -/
theorem out_lead {p : Pg} {n : Nat} (hn : n < p.blocks.length) {e : Si × List Sm} (h : Out (p.blocks.getD n []) n e) : leadOf p e.1 = e.2 := by
  have hp := h.part
  have hm := may_all h.may
  have hlen := h.ok
  unfold leadOf
  rw [if_pos ⟨by omega, by omega, h.may⟩, ← h.lead, hp]
  obtain ⟨d, hd⟩ : ∃ d, e.1.deep.toNat = d + 1 := ⟨e.1.deep.toNat - 1, by omega⟩
  rw [hd]
  match hw : e.1.way, hlen with
  | w :: ws, _ =>
    simp [LeadW]

/-! Kinds that are picked. -/
def pk (X : List Sm) : Nat → Nat → Nat → List Nat
  | 0, _, _ => []
  | n + 1, bits, k => (if bits % 2 = 1 ∧ fitsOf ((k + 1 : Nat) : Int) X = true then [k + 1] else []) ++ pk X n (bits / 2) (k + 1)

theorem pk_zero (X : List Sm) : ∀ (n k : Nat), pk X n 0 k = []
  | 0, k => rfl
  | n + 1, k => by rw [pk, if_neg (by simp), pk_zero X n]; rfl
theorem fits_big (X : List Sm) (k : Int) (h : 8 < k) : fitsOf k X = false := by
  cases X with
  | nil => rfl
  | cons x r => rw [fitsOf_cons, if_neg (by omega), if_neg (by omega), if_neg (by omega), if_neg (by omega), if_neg (by omega), if_neg (by omega), if_neg (by omega), if_neg (by omega)]
theorem pk_big (X : List Sm) : ∀ (n bits k : Nat), 8 ≤ k → pk X n bits k = []
  | 0, _, _, _ => rfl
  | n + 1, bits, k, h => by rw [pk, if_neg (fun hh => by rw [fits_big X _ (by omega)] at hh; cases hh.2), pk_big X n _ _ (by omega)]; rfl
theorem pk_more (X : List Sm) : ∀ (n m bits k : Nat), k + n = 8 → pk X (n + m) bits k = pk X n bits k
  | 0, m, bits, k, h => by rw [pk_big X _ _ _ (by omega), pk_big X _ _ _ (by omega)]
  | n + 1, m, bits, k, h => by
    rw [show n + 1 + m = (n + m) + 1 by omega, pk, pk, pk_more X n m _ _ (by omega)]
theorem pk_len (X : List Sm) : ∀ (n bits k : Nat), (pk X n bits k).length ≤ n
  | 0, _, _ => Nat.le_refl _
  | n + 1, bits, k => by
    have := pk_len X n (bits / 2) (k + 1)
    rw [pk, List.length_append]
    split
    · simp; omega
    · simp; omega

def Si.withKind (s : Si) (k : Int) : Si := { s with kind := k }
/-- The sites that a way comes to. -/
def picks (kinds : Nat) (e : Si × List Sm) : List Si := (pk e.2 8 kinds 0).map fun k : Nat => e.1.withKind (k : Int)
def outs (kinds : Nat) (L : List (Si × List Sm)) : List Si := (L.map (picks kinds)).flatten
theorem outs_append (kinds : Nat) (a b : List (Si × List Sm)) : outs kinds (a ++ b) = outs kinds a ++ outs kinds b := by simp [outs]
theorem picks_len (kinds : Nat) (e : Si × List Sm) : (picks kinds e).length ≤ 8 := by
  unfold picks; rw [List.length_map]; exact pk_len _ _ _ _
theorem outs_len (kinds : Nat) : ∀ L : List (Si × List Sm), (outs kinds L).length ≤ 8 * L.length
  | [] => by simp [outs]
  | e :: L => by
    have h1 := outs_len kinds L
    have h2 := picks_len kinds e
    have h3 : outs kinds (e :: L) = picks kinds e ++ outs kinds L := by simp [outs]
    rw [h3, List.length_append, List.length_cons]
    omega

/-- All sites of a program. -/
def site0 (i : Nat) : Si := ⟨0, i, List.replicate 8 0, 0⟩
def idk (k : Nat) : Int := k
def waysOf (p : Pg) (i : Nat) : List (Si × List Sm) := eachL 8 idk (site0 i) (p.blocks.getD i [])
def allWays (p : Pg) : List (Si × List Sm) := ((List.range p.blocks.length).map (waysOf p)).flatten

theorem site0_inv (i : Nat) : Inv (site0 i) 8 := ⟨rfl, Nat.le_refl _, rfl, rfl, fun w hw => by simp [site0] at hw; omega, fun w hw => by simp [site0] at hw; exact hw⟩

theorem ways_out {p : Pg} (hp : p.size ≤ 1000) {i : Nat} (hi : i < p.blocks.length) : ∀ e ∈ waysOf p i, Out (p.blocks.getD i []) i e := by
  have hb : Sm.sizes (p.blocks.getD i []) ≤ 1000 := block_sizes hp (by
    rw [List.getD_eq_getElem?_getD, List.getElem?_eq_getElem hi]
    exact List.getElem_mem _)
  have hl := Sm.sizes_ge (p.blocks.getD i [])
  exact eachL_out _ _ 8 idk (site0 i) _ (site0_inv i) rfl hb (fun k hk => by unfold idk; omega) (fun k ws => by simp [LeadW, idk])

end Go.AM.Spec

namespace Go.AM.Spec
set_option linter.unusedVariables false
set_option linter.unusedSimpArgs false
set_option maxHeartbeats 2000000
set_option maxRecDepth 10000

theorem bit16_and {n : Nat} (hn : n < 65536) : IntKind.u16.wrap ↑(((n : Int) % 2 ^ IntKind.u16.bits).toNat &&& 1 % 2 ^ IntKind.u16.bits) = ((n % 2 : Nat) : Int) := by
  have e : (2 : Int) ^ IntKind.u16.bits = 65536 := by decide
  have e' : (1 : Nat) % 2 ^ IntKind.u16.bits = 1 := by decide
  have e2 : ((n : Int) % 65536).toNat = n := by omega
  rw [e, e', Nat.and_one_is_mod, e2]
  have : n % 2 = 0 ∨ n % 2 = 1 := by omega
  rcases this with h | h <;> rw [h] <;> decide

theorem withKind_ok {s : Si} (h : s.ok) (k : Int) : (s.withKind k).ok := h
theorem withKind_set (s : Si) (k j : Int) : (s.withKind k).cells.set 0 (iv j) = (s.withKind j).cells := rfl
theorem Si.plain (s : Si) : s.cells.all V.plain = true := by simp [Si.cells, V.plain]

theorem pick_loop (A : Heap) (n q : Nat) (hA : A.length = n) (hq : q < n) (s : Si) (ok : s.ok) (X : List Sm) (hX : ∀ x ∈ X, x.exprs.length ≤ 1000) (kinds : Nat) (Q : Option (V × Heap) → Prop) (k : List Item) (all : List Si)
    (hexit : ∀ φ' (j : Int), Q (M (eval tbl noExt) k φ' (A.set q (some [.own 11 (all.map Si.cells)]) ++ [some (s.withKind j).cells]))) :
    ∀ (m bits i : Nat) (B I : Int) (φ : Fr) (acc : List Si), B = bits → I = i → bits < 2 ^ m → bits < 65536 → i ≤ 100 - m → m ≤ 100 → acc ++ (pk X m bits i).map (fun k : Nat => s.withKind (k : Int)) = all → acc.length + m ≤ 20000 → Fr.get φ 1 = .sl 7 (Sm.rows X) → Fr.get φ 3 = .ptr q 0 → Fr.get φ 4 = .ptr n 0 → Fr.get φ 6 = .int .u16 B →
      Q (M (eval tbl noExt) (.code l_site_Sites_2_0 :: .blk 0 :: k) φ (A.set q (some [.own 11 (acc.map Si.cells)]) ++ [some (s.withKind I).cells])) := by
  have gq : ∀ (x : Option (List V)) (R : Heap), (A.set q x ++ R)[q]? = some x := fun x R => by
    rw [List.getElem?_append_left (by simp; omega)]
    exact List.getElem?_set_self (by omega)
  have sq : ∀ (x y : Option (List V)) (R : Heap), (A.set q x ++ R).set q y = A.set q y ++ R := fun x y R => by
    rw [List.set_append_left _ _ (by simp; omega), List.set_set]
  have gn : ∀ (x y : Option (List V)), (A.set q x ++ [y])[n]? = some y := fun x y => by
    rw [List.getElem?_append_right (by simp; omega)]
    simp [hA]
  have sn : ∀ (x y z : Option (List V)), (A.set q x ++ [y]).set n z = A.set q x ++ [z] := fun x y z => by
    rw [List.set_append_right _ _ (by simp; omega)]
    simp [hA]
  have t1 := fun k => Si.len (withKind_ok ok k)
  have t2 := fun k => Si.strip (s := s.withKind k)
  have t3 := fun k n => Si.under (s := s.withKind k) n
  have t4 := fun k => Si.one (s := s.withKind k)
  have t5 := fun k => h11 (s.withKind k) (withKind_ok ok k)
  have t6 := fun k => Si.take (withKind_ok ok k)
  have t7 := fun k => Si.c0 (s := s.withKind k)
  have t8 : ∀ (k : Int) (h : 0 < (s.withKind k).cells.length), (s.withKind k).cells[0] = iv k := fun k h => rfl
  have t9 := withKind_set s
  have t10 := fun k => Si.plain (s.withKind k)
  have t11 : ∀ k, (s.withKind k).kind = k := fun k => rfl
  intro m
  induction m with
  | zero =>
    intro bits i B I φ acc hB hI hb hb2 hi hm hacc hal h1 h3 h4 h6
    obtain rfl : bits = 0 := by simpa using hb
    rw [pk, List.map_nil, List.append_nil] at hacc
    subst hacc hB
    rw [l_site_Sites_2_0, M_loop]
    simp [b_site_Sites_2_0, h1, h3, h4, h6]
    exact hexit _ _
  | succ m ih =>
    intro bits i B I φ acc hB hI hb hb2 hi hm hacc hal h1 h3 h4 h6
    by_cases b0 : bits = 0
    · subst b0
      rw [pk_zero, List.map_nil, List.append_nil] at hacc
      subst hacc hB
      rw [l_site_Sites_2_0, M_loop]
      simp [b_site_Sites_2_0, h1, h3, h4, h6]
      exact hexit _ _
    · have hF := fits_eq (I + 1) X hX []
      have e1 : IntKind.i64.wrap (I + 1) = I + 1 := by rw [w64] <;> omega
      have e2 := bit16_and hb2
      rw [← hB] at e2
      have e3 : ¬ B = 0 := by omega
      have e4 : B.fdiv 2 = B / 2 := Int.fdiv_eq_ediv_of_nonneg _ (by omega)
      have e5 : min 1 IntKind.u16.bits = 1 := by decide
      have hb' : bits / 2 < 2 ^ m := by
        rw [Nat.pow_succ] at hb
        omega
      have hcap : 2 * (acc.length + 1) * 88 ≤ 281474976710656 := by omega
      have hfit : fitsOf ((i + 1 : Nat) : Int) X = fitsOf (I + 1) X := by rw [hI]; rfl
      have hB' : B / 2 = ((bits / 2 : Nat) : Int) := by omega
      have hI' : I + 1 = ((i + 1 : Nat) : Int) := by omega
      rw [pk, hfit] at hacc
      rw [l_site_Sites_2_0, M_loop, ← l_site_Sites_2_0]
      by_cases a1 : bits % 2 = 1
      · have a1' : ((bits % 2 : Nat) : Int) = 1 := by omega
        rw [a1'] at e2
        cases a2 : fitsOf (I + 1) X with
        | true =>
          rw [a2] at hF
          rw [if_pos ⟨a1, a2⟩] at hacc
          simp [b_site_Sites_2_0, h1, h3, h4, h6, gq, sq, gn, sn, t1, t2, t3, t4, t5, t6, t7, t8, t9, t10, t11, hF, e1, e2, e3, e4, e5, hcap]
          rw [show List.map Si.cells acc ++ [(s.withKind (I + 1)).cells] = List.map Si.cells (acc ++ [s.withKind (I + 1)]) by simp]
          refine ih (bits / 2) (i + 1) (B / 2) (I + 1) _ (acc ++ [s.withKind (I + 1)]) hB' hI' hb' (by omega) (by omega) (by omega) (by rw [← hacc, hI']; simp) (by simp; omega) ?_ ?_ ?_ ?_ <;> simp [h1, h3, h4]
        | false =>
          rw [a2] at hF
          rw [if_neg (fun h => by rw [a2] at h; simp at h), List.nil_append] at hacc
          simp [b_site_Sites_2_0, h1, h3, h4, h6, gq, sq, gn, sn, t1, t2, t3, t4, t5, t6, t7, t8, t9, t10, t11, hF, e1, e2, e3, e4, e5, hcap]
          refine ih (bits / 2) (i + 1) (B / 2) (I + 1) _ acc hB' hI' hb' (by omega) (by omega) (by omega) hacc (by omega) ?_ ?_ ?_ ?_ <;> simp [h1, h3, h4]
      · have a1' : ((bits % 2 : Nat) : Int) = 0 := by omega
        rw [a1'] at e2
        rw [if_neg (fun h => a1 h.1), List.nil_append] at hacc
        simp [b_site_Sites_2_0, h1, h3, h4, h6, gq, sq, gn, sn, t1, t2, t3, t4, t5, t6, t7, t8, t9, t10, t11, hF, e1, e2, e3, e4, e5, hcap]
        refine ih (bits / 2) (i + 1) (B / 2) (I + 1) _ acc hB' hI' hb' (by omega) (by omega) (by omega) hacc (by omega) ?_ ?_ ?_ ?_ <;> simp [h1, h3, h4]

/-- The closure: what it adds to the list. -/
theorem pick_eq (e : Si × List Sm) (ok : e.1.ok) (hk : e.1.kind = 0) (hX : ∀ x ∈ e.2, x.exprs.length ≤ 1000) (kinds : Nat) (hkd : kinds < 65536) (K : Heap) (kb q : Nat) (acc : List Si) (hal : acc.length ≤ 19000)
    (hkb : K[kb]? = some (some [.int .u16 kinds])) (hq : K[q]? = some (some [.own 11 (acc.map Si.cells)])) :
    eval tbl noExt n_site_Sites_2 [.agg e.1.cells, .sl 7 (Sm.rows e.2), .ptr kb 0, .ptr q 0] K = some (.tup [], K.set q (some [.own 11 ((acc ++ picks kinds e).map Si.cells)])) := by
  have hkb1 : kb < K.length := by
    rcases Nat.lt_or_ge kb K.length with h | h
    · exact h
    · rw [List.getElem?_eq_none h] at hkb; cases hkb
  have hq1 : q < K.length := by
    rcases Nat.lt_or_ge q K.length with h | h
    · exact h
    · rw [List.getElem?_eq_none h] at hq; cases hq
  have gk : ∀ R : Heap, (K ++ R)[kb]? = some (some [.int .u16 kinds]) := fun R => by rw [List.getElem?_append_left hkb1]; exact hkb
  have hw : e.1.withKind 0 = e.1 := by
    obtain ⟨⟨kd, pt, wy, dp⟩, X⟩ := e
    simp only at hk
    subst hk; rfl
  have hself : K.set q (some [.own 11 (acc.map Si.cells)]) = K := by
    rw [List.getElem?_eq_getElem hq1] at hq
    rw [← Option.some.inj hq]
    exact List.set_getElem_self hq1
  rw [eval_M rfl rfl t_site_Sites_2 rfl]
  simp [c_site_Sites_2, gk]
  have h := pick_loop K K.length q rfl hq1 e.1 ok e.2 hX kinds (fun r => r = some (.tup [], K.set q (some [.own 11 ((acc ++ picks kinds e).map Si.cells)]))) [.fin [] K.length] (acc ++ picks kinds e) ?_ 16 kinds 0 kinds 0 [(6, V.int .u16 kinds), (7, V.int .u16 kinds), (4, V.ptr K.length 0), (0, .agg e.1.cells), (1, .sl 7 (Sm.rows e.2)), (2, .ptr kb 0), (3, .ptr q 0)] acc rfl rfl (by omega) hkd (by omega) (by omega) (by unfold picks; rw [show 16 = 8 + 8 by rfl, pk_more _ _ _ _ _ (by rfl)]) (by omega) (by simp) (by simp) (by simp) (by simp)
  · rw [hw, hself] at h
    simpa using h
  · intro φ' j
    have ht : ∀ x y : Option (List V), (K.set q x ++ [y]).take K.length = K.set q x := fun x y => List.take_left' (by simp)
    simp [ht]

end Go.AM.Spec

namespace Go.AM.Spec
set_option linter.unusedVariables false
set_option linter.unusedSimpArgs false
set_option maxHeartbeats 2000000
set_option maxRecDepth 10000

theorem get_lt {K : Heap} {i : Nat} {x : Option (List V)} (h : K[i]? = some x) : i < K.length := by
  rcases Nat.lt_or_ge i K.length with h1 | h1
  · exact h1
  · rw [List.getElem?_eq_none h1] at h; cases h

theorem step_set {s : Si} (ok : s.ok) {a : Nat} (ha : a < 8) (v u : Int) : (s.step a v).cells.set (2 + a) (iv u) = (s.step a u).cells := by
  have h8 : s.way.length = 8 := ok
  have h1 : ∀ v, (s.step a v).cells = iv s.kind :: iv s.part :: ((s.way.set a v).map iv ++ [iv ((a + 1 : Nat) : Int)]) := fun v => rfl
  rw [h1, h1, show 2 + a = a + 1 + 1 by omega, List.set_cons_succ, List.set_cons_succ, List.set_append_left _ _ (by simp; omega), ← List.map_set, List.set_set]

def Turn (tf : Nat) (t : Nat → Int) : Prop := tf < yBase ∧ ∀ (k : Nat) (H : Heap), k ≤ 1000 → eval tbl noExt tf [iv k] H = some (iv (t k), H)

theorem turn_id : Turn n_site_Sites_1 idk := by
  refine ⟨lt_site_Sites_1, fun k H hk => ?_⟩
  rw [eval_M rfl rfl t_site_Sites_1 rfl]
  simp [c_site_Sites_1, idk]
theorem turn_even : Turn n_site_each_1 evn := by
  refine ⟨lt_site_each_1, fun k H hk => ?_⟩
  have e5 : min 1 IntKind.i64.bits = 1 := by decide
  have e : IntKind.i64.wrap ((k : Int) * 2) = 2 * (k : Int) := by rw [w64] <;> omega
  rw [eval_M rfl rfl t_site_each_1 rfl]
  simp [c_site_each_1, evn, e5, e]
theorem bit_or (k : Nat) (hk : k ≤ 1000) : IntKind.i64.wrap ↑((2 * (k : Int) % 2 ^ IntKind.i64.bits).toNat ||| 1 % 2 ^ IntKind.i64.bits) = 2 * (k : Int) + 1 := by
  have e : (2 : Int) ^ IntKind.i64.bits = 18446744073709551616 := by decide
  have e' : (1 : Nat) % 2 ^ IntKind.i64.bits = 1 := by decide
  have e2 : (2 * (k : Int) % 18446744073709551616).toNat = 2 * k := by omega
  have e3 : 2 * k ||| 1 = 2 * k + 1 := by
    have := Nat.two_pow_add_eq_or_of_lt (i := 1) (b := 1) (by omega) k
    simpa using this.symm
  rw [e, e', e2, e3, w64] <;> omega
theorem turn_odd : Turn n_site_each_2 odk := by
  refine ⟨lt_site_each_2, fun k H hk => ?_⟩
  have e5 : min 1 IntKind.i64.bits = 1 := by decide
  have e : IntKind.i64.wrap ((k : Int) * 2) = 2 * (k : Int) := by rw [w64] <;> omega
  have e2 := bit_or k hk
  rw [eval_M rfl rfl t_site_each_2 rfl]
  simp [c_site_each_2, odk, e5, e, e2]

def fnS (kb q : Nat) : V := .fn (.func n_site_Sites_2) [] [.ptr kb 0, .ptr q 0]

def EachOK (d : Nat) : Prop := ∀ (tf : Nat) (t : Nat → Int) (s : Si) (l : List Sm) (kinds : Nat) (K : Heap) (kb q : Nat) (acc : List Si), Turn tf t → Inv s d → (∀ k, k < l.length → 0 ≤ t k ∧ t k ≤ 10000) → Sm.sizes l ≤ 1000 → kinds < 65536 → acc.length + 8 * Sm.sizes l ≤ 18000 → kb ≠ q →
  K[kb]? = some (some [.int .u16 kinds]) → K[q]? = some (some [.own 11 (acc.map Si.cells)]) →
  eval tbl noExt n_site_each [.sl 7 (Sm.rows l), .agg s.cells, .fn (.func tf) [] [], fnS kb q] K = some (.tup [], K.set q (some [.own 11 ((acc ++ outs kinds (eachL d t s l)).map Si.cells)]))

theorem each_zero : EachOK 0 := by
  intro tf t s l kinds K kb q acc hT hI _ hs hkd hal hne hkb hq
  have ok : s.ok := hI.ok
  have c10 := Si.c10 ok
  have hd : s.deep = 8 := hI.deep
  rw [hd] at c10
  have hself : K.set q (some [.own 11 (acc.map Si.cells)]) = K := by
    have hq1 := get_lt hq
    rw [List.getElem?_eq_getElem hq1] at hq
    rw [← Option.some.inj hq]
    exact List.set_getElem_self hq1
  have e : acc ++ outs kinds (eachL 0 t s l) = acc := by simp [eachL, outs]
  rw [e, hself, eval_M rfl rfl t_site_each rfl]
  simp [c_site_each, c10]

theorem each_loop (d : Nat) (hEach : EachOK d) (tf : Nat) (t : Nat → Int) (hT : Turn tf t) (s : Si) (hI : Inv s (d + 1)) (l : List Sm) (ht : ∀ k, k < l.length → 0 ≤ t k ∧ t k ≤ 10000) (hs : Sm.sizes l ≤ 1000) (kinds : Nat) (hkd : kinds < 65536) (n kb q : Nat) (hkbn : kb < n) (hqn : q < n) (hne : kb ≠ q) (A : Heap) (hA : A.length = n)
    (hkb : A[kb]? = some (some [.int .u16 kinds])) (Q : Option (V × Heap) → Prop) (k : List Item) (all : List Si)
    (hexit : ∀ φ' x G, Q (M (eval tbl noExt) k φ' (A.set q (some [.own 11 (all.map Si.cells)]) ++ x :: G))) :
    ∀ (j i : Nat) (φ : Fr) (acc : List Si) (v : Int) (G : Heap), i + j = l.length → acc.length + 8 * Sm.sizes (l.drop i) ≤ 18000 → acc ++ outs kinds (loopE (eachL d) t s (8 - (d + 1)) i (l.drop i)) = all → Fr.get φ 0 = .sl 7 (Sm.rows l) → Fr.get φ 2 = .fn (.func tf) [] [] → Fr.get φ 3 = fnS kb q → Fr.get φ 5 = .ptr n 0 → Fr.get φ 8 = iv ((8 - (d + 1) : Nat) : Int) → Fr.get φ 20 = .sl 7 (Sm.rows l) → Fr.get φ 21 = iv l.length → Fr.get φ 22 = iv i →
      Q (M (eval tbl noExt) (.code l_site_each_0 :: .blk 0 :: k) φ (A.set q (some [.own 11 (acc.map Si.cells)]) ++ some (s.step (8 - (d + 1)) v).cells :: G)) := by
  have hd8 := hI.hd
  obtain ⟨a, ha⟩ : ∃ a, a = 8 - (d + 1) := ⟨_, rfl⟩
  rw [← ha]
  have ha8 : a < 8 := by omega
  have ok : s.ok := hI.ok
  have okv : ∀ v, (s.step a v).ok := fun v => by show (s.way.set a v).length = 8; rw [List.length_set]; exact hI.ok
  have hl := Sm.sizes_ge l
  have hrl := Sm.rows_len l
  have gn : ∀ (x y : Option (List V)) (R : Heap), (A.set q x ++ y :: R)[n]? = some y := fun x y R => by
    rw [List.getElem?_append_right (by simp; omega)]; simp [hA]
  have sn : ∀ (x y z : Option (List V)) (R : Heap), (A.set q x ++ y :: R).set n z = A.set q x ++ z :: R := fun x y z R => by
    rw [List.set_append_right _ _ (by simp; omega)]; simp [hA]
  have sq : ∀ (x y : Option (List V)) (R : Heap), (A.set q x ++ R).set q y = A.set q y ++ R := fun x y R => by
    rw [List.set_append_left _ _ (by simp; omega), List.set_set]
  have gq : ∀ (x : Option (List V)) (R : Heap), (A.set q x ++ R)[q]? = some x := fun x R => by
    rw [List.getElem?_append_left (by simp; omega)]; exact List.getElem?_set_self (by omega)
  have gkb : ∀ (x : Option (List V)) (R : Heap), (A.set q x ++ R)[kb]? = some (some [.int .u16 kinds]) := fun x R => by
    rw [List.getElem?_append_left (by simp; omega), List.getElem?_set_ne (by omega)]; exact hkb
  have ge : ∀ (x y z : Option (List V)) (R : Heap), (A.set q x ++ y :: (R ++ [z]))[n + (R.length + 1)]? = some z := fun x y z R => by
    rw [List.getElem?_append_right (by simp; omega)]; simp [hA]
  have se : ∀ (x y z u : Option (List V)) (R : Heap), (A.set q x ++ y :: (R ++ [z])).set (n + (R.length + 1)) u = A.set q x ++ y :: (R ++ [u]) := fun x y z u R => by
    rw [List.set_append_right _ _ (by simp; omega)]; simp [hA]
  intro j
  induction j with
  | zero =>
    intro i φ acc v G hi hac hacc h0 h2 h3 h5 h8 h20 h21 h22
    have hlt : ¬ (i : Int) < l.length := by omega
    rw [List.drop_eq_nil_of_le (by omega)] at hacc
    have hacc' : acc = all := by rw [← hacc]; simp [loopE, outs]
    subst hacc'
    rw [l_site_each_0, M_loop]
    simp [b_site_each_0, h0, h2, h3, h5, h8, h20, h21, h22, hlt]
    exact hexit _ _ _
  | succ j ih =>
    intro i φ acc v G hi hac hacc h0 h2 h3 h5 h8 h20 h21 h22
    have hlt : i < l.length := by omega
    obtain ⟨x, hx⟩ : ∃ x, l[i]? = some x := ⟨_, List.getElem?_eq_getElem hlt⟩
    have hdrop : l.drop i = x :: l.drop (i + 1) := by
      rw [List.drop_eq_getElem_cons hlt]
      rw [List.getElem?_eq_getElem hlt] at hx
      rw [Option.some.inj hx]
    have hrow := Sm.rows_at hx
    have e1 : (i : Int) < l.length := by omega
    have e1' : (i : Int) ≤ l.length := by omega
    have e2 : IntKind.i64.wrap ((i : Int) + 1) = ((i + 1 : Nat) : Int) := by rw [w64] <;> omega
    have hv := ht i hlt
    have hI' := step_inv hI hv.1 hv.2
    rw [← ha] at hI'
    have hturn := fun H => hT.2 i H (by omega)
    have hlen := okv v
    have q1 := fun v => Si.len (okv v)
    have q3 := fun v => Si.strip (s := s.step a v)
    have q5 := fun v => Si.take (okv v)
    have qu := fun v m => Si.under (s := s.step a v) m
    have qset := step_set ok ha8 v (t i)
    have hal8 : (a : Int) < 8 := by omega
    have hrd := Sm.rows_drop l i
    have hr2 : i < (Sm.rows l).length := by omega
    have htk : (Sm.rows l).take l.length = Sm.rows l := List.take_of_length_le (by omega)
    rw [hdrop, loopE] at hacc
    rw [l_site_each_0, M_loop, ← l_site_each_0]
    have hlt1 := hT.1
    have hlt2 := lt_site_Sites_2
    have hsz := drop_sizes l i
    obtain ⟨s', hs'⟩ : ∃ s', s' = s.step a (t i) := ⟨_, rfl⟩
    rw [← hs'] at hI' qset hacc
    have ok' : s'.ok := hI'.ok
    rw [hdrop, Sm.sizes] at hac hsz
    obtain ⟨X, hX⟩ : ∃ X, X = l.drop i := ⟨_, rfl⟩
    have hXe : X = x :: l.drop (i + 1) := by rw [hX, hdrop]
    have hXs : ∀ y ∈ X, y.exprs.length ≤ 1000 := exprs_len (by rw [hX]; exact Nat.le_trans (drop_sizes l i) hs)
    rw [← hXe] at hacc
    rw [← hX] at hrd
    have hbs := body_sizes x
    have m1 := picks_len kinds (s', X)
    obtain ⟨acc1, hacc1⟩ : ∃ acc1, acc1 = acc ++ picks kinds (s', X) := ⟨_, rfl⟩
    have n1 : acc1.length ≤ acc.length + 8 := by rw [hacc1, List.length_append]; omega
    obtain ⟨acc2, hacc2⟩ : ∃ acc2, acc2 = acc1 ++ outs kinds (eachL d evn s' x.body) := ⟨_, rfl⟩
    have m2 := outs_len kinds (eachL d evn s' x.body)
    have m2' := eachL_len d evn s' x.body
    have n2 : acc2.length ≤ acc1.length + 8 * Sm.sizes x.body := by rw [hacc2, List.length_append]; omega
    obtain ⟨acc3, hacc3⟩ : ∃ acc3, acc3 = acc2 ++ outs kinds (eachL d odk s' x.els) := ⟨_, rfl⟩
    have m3 := outs_len kinds (eachL d odk s' x.els)
    have m3' := eachL_len d odk s' x.els
    have n3 : acc3.length ≤ acc2.length + 8 * Sm.sizes x.els := by rw [hacc3, List.length_append]; omega
    have hgb := Sm.sizes_ge x.body
    have hge := Sm.sizes_ge x.els
    have hfin : acc3 ++ outs kinds (loopE (eachL d) t s a (i + 1) (l.drop (i + 1))) = all := by
      rw [← hacc, hacc3, hacc2, hacc1]
      have : ∀ (e : Si × List Sm) (L : List (Si × List Sm)), outs kinds (e :: L) = picks kinds e ++ outs kinds L := fun e L => by simp [outs]
      rw [this, outs_append, outs_append]
      simp only [List.append_assoc]
    have c1 := fun (R : Heap) => pick_eq (s', X) ok' hI'.kind hXs kinds hkd (A.set q (some [.own 11 (acc.map Si.cells)]) ++ R) kb q acc (by omega) (gkb _ _) (gq _ _)
    have c2 := fun (R : Heap) => hEach n_site_each_1 evn s' x.body kinds (A.set q (some [.own 11 (acc1.map Si.cells)]) ++ R) kb q acc1 turn_even hI' (fun k hk => by unfold evn; omega) (by omega) hkd (by omega) hne (gkb _ _) (gq _ _)
    have c3 := fun (R : Heap) => hEach n_site_each_2 odk s' x.els kinds (A.set q (some [.own 11 (acc2.map Si.cells)]) ++ R) kb q acc2 turn_odd hI' (fun k hk => by unfold odk; omega) (by omega) hkd (by omega) hne (gkb _ _) (gq _ _)
    simp only [sq, ← hacc1, ← hacc2, ← hacc3, fnS] at c1 c2 c3
    have p1 := Si.len ok'
    have p3 := Si.strip (s := s')
    have p5 := Si.take ok'
    have pu := fun m => Si.under (s := s') m
    have ha10 : 2 + a ≤ 10 := by omega
    obtain ⟨op, ss, w, e, b, c, g⟩ := x
    simp only [Sm.cells] at hrow
    simp only [Sm.body, Sm.els] at c2 c3
    have hrow2 : ∀ h : i < (Sm.rows l).length, (Sm.rows l)[i] = [.int .i64 op, .str ss, .int .i64 w, .sl 4 (Ex.rows e), .sl 7 (Sm.rows b), .sl 7 (Sm.rows c), .bool g] := fun h => by
      rw [List.getElem?_eq_getElem h] at hrow; exact Option.some.inj hrow
    simp [b_site_each_0, h0, h2, h3, h5, h8, h20, h21, h22, e1, e1', e2, hrl, hrow, hrow2, hr2, hlt, gn, sn, gq, sq, ge, se, hA, hturn, hlt1, hlt2, q1, q3, q5, qu, qset, ha8, hal8, ha10, htk, hrd, fnS, p1, p3, p5, pu, c1, c2, c3]
    rw [hs']
    refine ih (i + 1) _ acc3 (t i) _ (by omega) (by simp only [Sm.body, Sm.els, Sm.size] at *; omega) hfin ?_ ?_ ?_ ?_ ?_ ?_ ?_ ?_ <;> simp [fnS]

theorem each_step (d : Nat) (h : EachOK d) (hd : d + 1 ≤ 8) : EachOK (d + 1) := by
  intro tf t s l kinds K kb q acc hT hI ht hs hkd hal hne hkb hq
  have ok : s.ok := hI.ok
  have c10 := Si.c10 ok
  obtain ⟨a, ha⟩ : ∃ a, a = 8 - (d + 1) := ⟨_, rfl⟩
  have hdp : s.deep = (a : Int) := by rw [ha]; exact hI.deep
  rw [hdp] at c10
  have ha8 : a < 8 := by omega
  have e1 : ¬ (a : Int) = 8 := by omega
  have e1' : ¬ a = 8 := by omega
  have e2 : IntKind.i64.wrap ((a : Int) + 1) = (a : Int) + 1 := by rw [w64] <;> omega
  have hkb1 := get_lt hkb
  have hq1 := get_lt hq
  have hself : K.set q (some [.own 11 (acc.map Si.cells)]) = K := by
    rw [List.getElem?_eq_getElem hq1] at hq
    rw [← Option.some.inj hq]
    exact List.set_getElem_self hq1
  have g10 : ∀ h : 10 < s.cells.length, s.cells[10] = iv a := fun h => by
    rw [List.getElem?_eq_getElem h] at c10; exact Option.some.inj c10
  have q1 := Si.len ok
  obtain ⟨v, hv⟩ : ∃ v, v = s.way.getD a 0 := ⟨_, rfl⟩
  have hst : s.cells.set 10 (iv ((a : Int) + 1)) = (s.step a v).cells := by
    rw [hv]
    have h8 : s.way.length = 8 := ok
    have hw : s.way.set a (s.way.getD a 0) = s.way := by
      rw [List.getD_eq_getElem?_getD, List.getElem?_eq_getElem (by omega)]
      exact List.set_getElem_self (by omega)
    unfold Si.step
    rw [hw]
    simp only [Si.cells, List.set_cons_succ]
    rw [List.set_append_right _ _ (by simp; omega)]
    simp [h8]
  have hrl := Sm.rows_len l
  have hl := Sm.sizes_ge l
  rw [eval_M rfl rfl t_site_each rfl]
  simp [c_site_each, c10, g10, e1, e1', e2, q1, hst, hrl]
  have key := each_loop d h tf t hT s hI l ht hs kinds hkd K.length kb q hkb1 hq1 hne K rfl hkb (fun r => r = some (.tup [], K.set q (some [.own 11 ((acc ++ outs kinds (eachL (d + 1) t s l)).map Si.cells)]))) [.fin [] K.length] (acc ++ outs kinds (eachL (d + 1) t s l)) (fun φ' x G => by
    have htk : ∀ (x y : Option (List V)) (G : Heap), (K.set q x ++ y :: G).take K.length = K.set q x := fun x y G => List.take_left' (by simp)
    simp [htk]) l.length 0
  rw [← ha] at key
  rw [show K ++ [some (s.step a v).cells] = K.set q (some [.own 11 (acc.map Si.cells)]) ++ some (s.step a v).cells :: [] by rw [hself], ← List.map_append]
  refine key _ acc _ [] (by omega) (by simp only [List.drop_zero]; omega) (by rw [ha]; rfl) ?_ ?_ ?_ ?_ ?_ ?_ ?_ ?_ <;> simp

theorem each_ok : ∀ d, d ≤ 8 → EachOK d
  | 0, _ => each_zero
  | d + 1, h => each_step d (each_ok d (by omega)) h

end Go.AM.Spec

namespace Go.AM.Spec
set_option linter.unusedVariables false
set_option linter.unusedSimpArgs false
set_option maxHeartbeats 2000000
set_option maxRecDepth 10000

def wl (p : Pg) (i : Nat) : List (Si × List Sm) := ((List.range i).map (waysOf p)).flatten
theorem wl_succ (p : Pg) (i : Nat) : wl p (i + 1) = wl p i ++ waysOf p i := by simp [wl, List.range_succ]

theorem blocks_size {p : Pg} (hp : p.size ≤ 1000) : Sm.sizes p.blocks.flatten ≤ 1000 := by
  have h1 := p.parts_size
  simp only [Pg.parts, Pg.blocks, List.flatten_append, List.flatten_cons, List.flatten_nil, sizes_append, Sm.sizes] at h1 ⊢
  omega

theorem take_block {p : Pg} {i : Nat} (hi : i < p.blocks.length) : (p.blocks.take (i + 1)).flatten = (p.blocks.take i).flatten ++ p.blocks.getD i [] := by
  rw [List.take_add_one, List.getD_eq_getElem?_getD, List.getElem?_eq_getElem hi, List.flatten_append]
  simp only [Option.toList_some, Option.getD_some, List.flatten_cons, List.flatten_nil, List.append_nil]

theorem take_size (p : Pg) (i : Nat) : Sm.sizes (p.blocks.take i).flatten ≤ Sm.sizes p.blocks.flatten := by
  have h := sizes_append (p.blocks.take i).flatten (p.blocks.drop i).flatten
  rw [← List.flatten_append, List.take_append_drop] at h
  omega

theorem wl_len (p : Pg) : ∀ i, i ≤ p.blocks.length → (wl p i).length ≤ Sm.sizes (p.blocks.take i).flatten
  | 0, _ => by simp [wl]
  | i + 1, h => by
    have h1 := wl_len p i (by omega)
    have h2 : (waysOf p i).length ≤ Sm.sizes (p.blocks.getD i []) := eachL_len 8 idk (site0 i) _
    rw [wl_succ, take_block (by omega), List.length_append, sizes_append]
    omega

def allSites (p : Pg) (kinds : Nat) : List Si := outs kinds (wl p p.blocks.length)

theorem sites_loop (p : Pg) (hp : p.size ≤ 1000) (kinds : Nat) (hkd : kinds < 65536) (R : Option (V × Heap)) (k : List Item) (x0 : Option (List V))
    (hexit : ∀ φ', Fr.get φ' 5 = .ptr 2 0 → M (eval tbl noExt) k φ' [x0, some [.int .u16 kinds], some [.own 11 ((allSites p kinds).map Si.cells)]] = R) :
    ∀ (j i : Nat) (φ : Fr), i + j = p.blocks.length → Fr.get φ 3 = .ptr 1 0 → Fr.get φ 5 = .ptr 2 0 → Fr.get φ 9 = .own 1 (p.blocks.map brow) → Fr.get φ 10 = iv p.blocks.length → Fr.get φ 11 = iv i →
      M (eval tbl noExt) (.code l_site_Sites_0 :: .blk 0 :: k) φ [x0, some [.int .u16 kinds], some [.own 11 ((outs kinds (wl p i)).map Si.cells)]] = R := by
  intro j
  induction j with
  | zero =>
    intro i φ hi h3 h5 h9 h10 h11
    obtain rfl : i = p.blocks.length := by omega
    rw [l_site_Sites_0, M_loop]
    simp [b_site_Sites_0, h3, h5, h9, h10, h11]
    exact hexit _ (by simp [h5])
  | succ j ih =>
    intro i φ hi h3 h5 h9 h10 h11
    have hlt : i < p.blocks.length := by omega
    have e1 : (i : Int) < p.blocks.length := by omega
    have hbl := p.blocks_len
    have hpl := procs_len hp
    have e2 : IntKind.i64.wrap ((i : Int) + 1) = ((i + 1 : Nat) : Int) := by rw [w64] <;> omega
    obtain ⟨b, hb⟩ : ∃ b, b = p.blocks.getD i [] := ⟨_, rfl⟩
    have hgb : ∀ h : i < p.blocks.length, p.blocks[i] = b := fun h => by rw [hb, List.getD_eq_getElem?_getD, List.getElem?_eq_getElem h]; rfl
    have hbs : Sm.sizes b ≤ 1000 := block_sizes hp (by rw [← hgb hlt]; exact List.getElem_mem _)
    have hbl2 := Sm.sizes_ge b
    have hw1 := wl_len p i (by omega)
    have ho := outs_len kinds (wl p i)
    have hs1 := take_size p (i + 1)
    have hs2 := blocks_size hp
    rw [take_block hlt, sizes_append, ← hb] at hs1
    have hE := each_ok 8 (Nat.le_refl _) n_site_Sites_1 idk (site0 i) b kinds [x0, some [.int .u16 kinds], some [.own 11 ((outs kinds (wl p i)).map Si.cells)]] 1 2 (outs kinds (wl p i)) turn_id (site0_inv i) (fun k hk => by unfold idk; omega) hbs hkd (by omega) (by omega) rfl rfl
    have hnext : outs kinds (wl p i) ++ outs kinds (eachL 8 idk (site0 i) b) = outs kinds (wl p (i + 1)) := by
      rw [wl_succ, outs_append, hb]; rfl
    have hc : (site0 i).cells = [iv 0, iv i, iv 0, iv 0, iv 0, iv 0, iv 0, iv 0, iv 0, iv 0, iv 0] := rfl
    rw [hnext, hc] at hE
    simp only [fnS, List.set_cons_succ, List.set_cons_zero] at hE
    rw [l_site_Sites_0, M_loop, ← l_site_Sites_0]
    simp [b_site_Sites_0, h3, h5, h9, h10, h11, e1, e2, hlt, hgb, brow, hE]
    refine ih (i + 1) _ (by omega) ?_ ?_ ?_ ?_ ?_ <;> simp [h3, h5, h9, h10]

theorem Sites_eq (p : Pg) (hp : p.size ≤ 1000) (kinds : Nat) (hkd : kinds < 65536) : eval tbl noExt n_site_Sites [.agg p.cells, .int .u16 kinds] [] = some (.sl 11 ((allSites p kinds).map Si.cells), []) := by
  have hparts := sparts_eq p (procs_len hp) []
  have hcp : p.cells.length = 4 := rfl
  have hcpt : p.cells.take 4 = p.cells := rfl
  have hcps : p.cells.map V.strip = p.cells := rfl
  have hcpu : ∀ n, V.underAll n p.cells = true := fun n => rfl
  rw [eval_M rfl rfl t_site_Sites rfl]
  simp [c_site_Sites, hcp, hcpt, hcps, hcpu, hparts]
  refine sites_loop p hp kinds hkd _ _ _ ?_ p.blocks.length 0 _ (by omega) ?_ ?_ ?_ ?_ ?_
  · intro φ' h5
    simp [r_site_Sites_0, h5]
  all_goals simp

end Go.AM.Spec

namespace Go.AM.Spec
set_option linter.unusedVariables false
set_option linter.unusedSimpArgs false
set_option maxHeartbeats 2000000
set_option maxRecDepth 10000

def fsts (L : List (Si × List Sm)) : List Si := L.map (·.1)

def TurnR (a : Nat) (other : Int) (t : Nat → Int) : Prop := (other = 0 ∨ other = 1) ∧ (a = 0 → t = idk) ∧ (0 < a → ∀ k : Nat, t k = 2 * k + other)

def WayOK (d : Nat) : Prop := ∀ (other : Int) (t : Nat → Int) (s : Si) (l : List Sm) (acc : List Si) (H : Heap), TurnR (8 - d) other t → Inv s d → Sm.sizes l ≤ 1000 → acc.length + Sm.sizes l ≤ 10000 →
  eval tbl noExt n_flotsamref25_ways [.sl 7 (Sm.rows l), .agg s.cells, iv other, .own 11 (acc.map Si.cells)] H = some (.own 11 ((acc ++ fsts (eachL d t s l)).map Si.cells), H)

theorem ways_zero : WayOK 0 := by
  intro other t s l acc H hT hI hs hal
  have ok : s.ok := hI.ok
  have c10 := Si.c10 ok
  have hd : s.deep = 8 := hI.deep
  rw [hd] at c10
  have e : acc ++ fsts (eachL 0 t s l) = acc := by simp [eachL, fsts]
  rw [e, eval_M rfl rfl t_flotsamref25_ways rfl]
  simp [c_flotsamref25_ways, c10]

theorem ways_loop (d : Nat) (hWay : WayOK d) (other : Int) (t : Nat → Int) (s : Si) (l : List Sm) (hT : TurnR (8 - (d + 1)) other t) (hI : Inv s (d + 1)) (hs : Sm.sizes l ≤ 1000) (H : Heap) (n : Nat) (hn : H.length = n) (Q : Option (V × Heap) → Prop) (k : List Item) (all : List Si)
    (hexit : ∀ φ' G, Fr.get φ' 3 = .own 11 (all.map Si.cells) → Q (M (eval tbl noExt) k φ' (H ++ some s.cells :: G))) :
    ∀ (j i : Nat) (φ : Fr) (acc : List Si) (G : Heap), i + j = l.length → acc.length + Sm.sizes (l.drop i) ≤ 10000 → acc ++ fsts (loopE (eachL d) t s (8 - (d + 1)) i (l.drop i)) = all → Fr.get φ 0 = .sl 7 (Sm.rows l) → Fr.get φ 2 = iv other → Fr.get φ 3 = .own 11 (acc.map Si.cells) → Fr.get φ 5 = .ptr n 0 → Fr.get φ 9 = iv i →
      Q (M (eval tbl noExt) (.code l_flotsamref25_ways_0 :: .blk 0 :: k) φ (H ++ some s.cells :: G)) := by
  have hd8 := hI.hd
  have hlE := fun (d : Nat) (t : Nat → Int) (s : Si) (l : List Sm) => eachL_len d t s l
  obtain ⟨a, ha⟩ : ∃ a, a = 8 - (d + 1) := ⟨_, rfl⟩
  rw [← ha] at hT ⊢
  have ha8 : a < 8 := by omega
  have ok : s.ok := hI.ok
  have h8 : s.way.length = 8 := ok
  have hl := Sm.sizes_ge l
  have hrl := Sm.rows_len l
  have hdp : s.deep = (a : Int) := by rw [ha]; exact hI.deep
  have c10 := Si.c10 ok
  rw [hdp] at c10
  have gn : ∀ (y : Option (List V)) (R : Heap), (H ++ y :: R)[n]? = some y := fun y R => by rw [List.getElem?_append_right (by omega)]; simp [hn]
  have ge : ∀ (y z : Option (List V)) (R : Heap), (H ++ y :: (R ++ [z]))[n + (R.length + 1)]? = some z := fun y z R => by
    rw [List.getElem?_append_right (by omega)]; simp [hn]
  have se : ∀ (y z u : Option (List V)) (R : Heap), (H ++ y :: (R ++ [z])).set (n + (R.length + 1)) u = H ++ y :: (R ++ [u]) := fun y z u R => by
    rw [List.set_append_right _ _ (by omega)]; simp [hn]
  have g10 : ∀ h : 10 < s.cells.length, s.cells[10] = iv a := fun h => by
    rw [List.getElem?_eq_getElem h] at c10; exact Option.some.inj c10
  have q1 := Si.len ok
  have q3 := Si.strip (s := s)
  have q5 := Si.take ok
  have q6 := h11 s ok
  have q7 := Si.one (s := s)
  have qu := fun m => Si.under (s := s) m
  have e0 : IntKind.i64.wrap ((a : Int) + 1) = (a : Int) + 1 := by rw [w64] <;> omega
  obtain ⟨v, hv⟩ : ∃ v, v = s.way.getD a 0 := ⟨_, rfl⟩
  have hst : s.cells.set 10 (iv ((a : Int) + 1)) = (s.step a v).cells := by
    rw [hv]
    have hw : s.way.set a (s.way.getD a 0) = s.way := by
      rw [List.getD_eq_getElem?_getD, List.getElem?_eq_getElem (by omega)]
      exact List.set_getElem_self (by omega)
    unfold Si.step
    rw [hw]
    simp only [Si.cells, List.set_cons_succ]
    rw [List.set_append_right _ _ (by simp; omega)]
    simp [h8]
  intro j
  induction j with
  | zero =>
    intro i φ acc G hi hac hacc h0 h2 h3 h5 h9
    have hlt : ¬ (i : Int) < l.length := by omega
    rw [List.drop_eq_nil_of_le (by omega)] at hacc
    have hacc' : acc = all := by rw [← hacc]; simp [loopE, fsts]
    subst hacc'
    rw [l_flotsamref25_ways_0, M_loop]
    simp [b_flotsamref25_ways_0, h0, h2, h3, h5, h9, hrl, hlt]
    exact hexit _ _ (by simp [h3])
  | succ j ih =>
    intro i φ acc G hi hac hacc h0 h2 h3 h5 h9
    have hlt : i < l.length := by omega
    obtain ⟨x, hx⟩ : ∃ x, l[i]? = some x := ⟨_, List.getElem?_eq_getElem hlt⟩
    have hdrop : l.drop i = x :: l.drop (i + 1) := by
      rw [List.drop_eq_getElem_cons hlt]
      rw [List.getElem?_eq_getElem hlt] at hx
      rw [Option.some.inj hx]
    have hrow := Sm.rows_at hx
    have e1 : (i : Int) < l.length := by omega
    have e2 : IntKind.i64.wrap ((i : Int) + 1) = ((i + 1 : Nat) : Int) := by rw [w64] <;> omega
    have hr2 : i < (Sm.rows l).length := by omega
    have hti : t i = if a = 0 then (i : Int) else 2 * i + other := by
      by_cases h : a = 0
      · rw [if_pos h, hT.2.1 h]; rfl
      · rw [if_neg h, hT.2.2 (by omega)]
    have hoth := hT.1
    have hv0 : 0 ≤ t i ∧ t i ≤ 10000 := by rw [hti]; split <;> omega
    have hI' := step_inv hI hv0.1 hv0.2
    rw [← ha] at hI'
    have hsz := drop_sizes l i
    obtain ⟨s', hs'⟩ : ∃ s', s' = s.step a (t i) := ⟨_, rfl⟩
    rw [← hs'] at hI'
    have ok' : s'.ok := hI'.ok
    have p1 := Si.len ok'
    have p3 := Si.strip (s := s')
    have p5 := Si.take ok'
    have p6 := h11 s' ok'
    have p7 := Si.one (s := s')
    have p8 := Si.plain s'
    have pu := fun m => Si.under (s := s') m
    have set1 := step_set ok ha8 v i
    have set2 := step_set ok ha8 i (t i)
    rw [← hs'] at set2
    have f1 := fun u => Si.len (show (s.step a u).ok by show (s.way.set a u).length = 8; rw [List.length_set]; exact h8)
    have ha10 : 2 + a ≤ 10 := by omega
    have hai : (a : Int) < 8 := by omega
    rw [hdrop, loopE, ← hs'] at hacc
    rw [hdrop, Sm.sizes] at hac hsz
    have hbs := body_sizes x
    obtain ⟨acc1, hacc1⟩ : ∃ acc1, acc1 = acc ++ [s'] := ⟨_, rfl⟩
    have n1 : acc1.length = acc.length + 1 := by rw [hacc1]; simp
    obtain ⟨acc2, hacc2⟩ : ∃ acc2, acc2 = acc1 ++ fsts (eachL d evn s' x.body) := ⟨_, rfl⟩
    have m2' := eachL_len d evn s' x.body
    have n2 : acc2.length ≤ acc1.length + Sm.sizes x.body := by rw [hacc2, List.length_append, fsts, List.length_map]; omega
    obtain ⟨acc3, hacc3⟩ : ∃ acc3, acc3 = acc2 ++ fsts (eachL d odk s' x.els) := ⟨_, rfl⟩
    have m3' := eachL_len d odk s' x.els
    have n3 : acc3.length ≤ acc2.length + Sm.sizes x.els := by rw [hacc3, List.length_append, fsts, List.length_map]; omega
    have hgb := Sm.sizes_ge x.body
    have hge := Sm.sizes_ge x.els
    have hfin : acc3 ++ fsts (loopE (eachL d) t s a (i + 1) (l.drop (i + 1))) = all := by
      rw [← hacc, hacc3, hacc2, hacc1]
      simp [fsts]
    have c2 := fun (R : Heap) => hWay 0 evn s' x.body acc1 R ⟨.inl rfl, fun h => by omega, fun _ k => by unfold evn; omega⟩ hI' (by omega) (by omega)
    have c3 := fun (R : Heap) => hWay 1 odk s' x.els acc2 R ⟨.inr rfl, fun h => by omega, fun _ k => by unfold odk; omega⟩ hI' (by omega) (by omega)
    rw [← hacc2] at c2
    rw [← hacc3] at c3
    have hcap : 2 * (acc.length + 1) * 88 ≤ 281474976710656 := by omega
    have hm1 : acc.map Si.cells ++ [s'.cells] = acc1.map Si.cells := by rw [hacc1]; simp
    obtain ⟨op, ss, w, e, b, c, g⟩ := x
    simp only [Sm.cells] at hrow
    simp only [Sm.body, Sm.els] at c2 c3
    have hrow2 : ∀ h : i < (Sm.rows l).length, (Sm.rows l)[i] = [.int .i64 op, .str ss, .int .i64 w, .sl 4 (Ex.rows e), .sl 7 (Sm.rows b), .sl 7 (Sm.rows c), .bool g] := fun h => by
      rw [List.getElem?_eq_getElem h] at hrow; exact Option.some.inj hrow
    rw [l_flotsamref25_ways_0, M_loop, ← l_flotsamref25_ways_0]
    by_cases a0 : a = 0
    · rw [if_pos a0] at hti
      have a0i : ¬ (0 : Int) < a := by omega
      have a0n : ¬ 0 < a := by omega
      have hss : (s.step a (i : Int)) = s' := by rw [hs', hti]
      rw [hss] at set1
      simp [b_flotsamref25_ways_0, h0, h2, h3, h5, h9, e0, e1, e2, hrl, hrow, hrow2, hr2, hlt, gn, ge, se, hn, c10, g10, q1, q3, q5, q6, q7, qu, f1, hst, set1, ha8, hai, ha10, a0i, a0n, p1, p3, p5, p6, p7, p8, pu, hcap, hm1, c2, c3]
      refine ih (i + 1) _ acc3 _ (by omega) (by simp only [Sm.body, Sm.els, Sm.size] at *; omega) hfin ?_ ?_ ?_ ?_ ?_ <;> simp [h0, h2, h3, h5]
    · rw [if_neg a0] at hti
      have a0i : (0 : Int) < a := by omega
      have a0n : 0 < a := by omega
      have w1 : IntKind.i64.wrap (2 * (i : Int)) = 2 * i := by rw [w64] <;> omega
      have w2 : IntKind.i64.wrap (2 * (i : Int) + other) = 2 * i + other := by rw [w64] <;> omega
      rw [hti] at set2
      simp [b_flotsamref25_ways_0, h0, h2, h3, h5, h9, e0, e1, e2, hrl, hrow, hrow2, hr2, hlt, gn, ge, se, hn, c10, g10, q1, q3, q5, q6, q7, qu, f1, hst, set1, set2, ha8, hai, ha10, a0i, a0n, w1, w2, p1, p3, p5, p6, p7, p8, pu, hcap, hm1, c2, c3]
      refine ih (i + 1) _ acc3 _ (by omega) (by simp only [Sm.body, Sm.els, Sm.size] at *; omega) hfin ?_ ?_ ?_ ?_ ?_ <;> simp [h0, h2, h3, h5]

theorem ways_step (d : Nat) (h : WayOK d) (hd : d + 1 ≤ 8) : WayOK (d + 1) := by
  intro other t s l acc H hT hI hs hal
  have ok : s.ok := hI.ok
  have c10 := Si.c10 ok
  obtain ⟨a, ha⟩ : ∃ a, a = 8 - (d + 1) := ⟨_, rfl⟩
  have hdp : s.deep = (a : Int) := by rw [ha]; exact hI.deep
  rw [hdp] at c10
  have ha8 : ¬ (8 : Int) ≤ a := by omega
  have ha8' : ¬ 8 ≤ a := by omega
  rw [eval_M rfl rfl t_flotsamref25_ways rfl]
  simp [c_flotsamref25_ways, c10, ha8, ha8']
  refine ways_loop d h other t s l hT hI hs H H.length rfl (fun r => r = some (.own 11 (acc.map Si.cells ++ (fsts (eachL (d + 1) t s l)).map Si.cells), H)) _ (acc ++ fsts (eachL (d + 1) t s l)) ?_ l.length 0 _ acc [] (by omega) (by simp only [List.drop_zero]; omega) (by rw [List.drop_zero]; rfl) ?_ ?_ ?_ ?_ ?_
  · intro φ' G h3
    have htk : ∀ (y : Option (List V)) (G : Heap), (H ++ y :: G).take H.length = H := fun y G => List.take_left' rfl
    simp [r_flotsamref25_ways_0, h3, htk]
  all_goals simp

theorem ways_ok : ∀ d, d ≤ 8 → WayOK d
  | 0, _ => ways_zero
  | d + 1, h => ways_step d (ways_ok d (by omega)) h

theorem Ways_loop (p : Pg) (hp : p.size ≤ 1000) (Q : Option (V × Heap) → Prop) (k : List Item)
    (hexit : ∀ φ', Fr.get φ' 3 = .own 11 ((fsts (wl p p.blocks.length)).map Si.cells) → Q (M (eval tbl noExt) k φ' [some p.cells])) :
    ∀ (j i : Nat) (φ : Fr), i + j = p.blocks.length → Fr.get φ 1 = .ptr 0 0 → Fr.get φ 3 = .own 11 ((fsts (wl p i)).map Si.cells) → Fr.get φ 4 = iv i → Q (M (eval tbl noExt) (.code l_flotsamref25_Ways_0 :: .blk 0 :: k) φ [some p.cells]) := by
  have hc : p.cells = [.sl 2 p.pcells, .sl 7 (Sm.rows p.main), .sl 7 (Sm.rows p.recover), .sl 5 p.ocells] := rfl
  have hpl := p.pcells_len
  have hbl := p.blocks_len
  have hprl := procs_len hp
  intro j
  induction j with
  | zero =>
    intro i φ hi h1 h3 h4
    obtain rfl : i = p.blocks.length := by omega
    have hlt : ¬ (p.blocks.length : Int) ≤ p.procs.length := by omega
    have hlt' : ¬ p.blocks.length ≤ p.procs.length := by omega
    rw [l_flotsamref25_Ways_0, M_loop]
    simp [b_flotsamref25_Ways_0, h1, h3, h4, hc, hpl, hlt, hlt']
    exact hexit _ (by simp [h3])
  | succ j ih =>
    intro i φ hi h1 h3 h4
    have hlt : i < p.blocks.length := by omega
    have e1 : (i : Int) ≤ p.procs.length := by omega
    have e1' : i ≤ p.procs.length := by omega
    have e2 : IntKind.i64.wrap ((i : Int) + 1) = ((i + 1 : Nat) : Int) := by rw [w64] <;> omega
    have hB := Block_eq p hprl i (by omega)
    have hin : 0 ≤ (i : Int) ∧ (i : Int) < p.blocks.length := by omega
    unfold blockV at hB
    rw [if_pos hin, decide_eq_true hin, Int.toNat_natCast] at hB
    obtain ⟨b, hb⟩ : ∃ b, b = p.blocks.getD i [] := ⟨_, rfl⟩
    rw [← hb] at hB
    have hgb : p.blocks[i]? = some b := by rw [hb, List.getD_eq_getElem?_getD, List.getElem?_eq_getElem hlt]; rfl
    have hbs : Sm.sizes b ≤ 1000 := block_sizes hp (List.mem_of_getElem? hgb)
    have hw1 := wl_len p i (by omega)
    have hs1 := take_size p (i + 1)
    have hs2 := blocks_size hp
    rw [take_block hlt, sizes_append, ← hb] at hs1
    have hE := ways_ok 8 (Nat.le_refl _) 0 idk (site0 i) b (fsts (wl p i)) [some p.cells] ⟨.inl rfl, fun _ => rfl, fun h => by omega⟩ (site0_inv i) hbs (by unfold fsts; rw [List.length_map]; omega)
    have hnext : fsts (wl p i) ++ fsts (eachL 8 idk (site0 i) b) = fsts (wl p (i + 1)) := by
      rw [wl_succ, hb]; simp [fsts, waysOf]
    have hcs : (site0 i).cells = [iv 0, iv i, iv 0, iv 0, iv 0, iv 0, iv 0, iv 0, iv 0, iv 0, iv 0] := rfl
    rw [hnext, hcs] at hE
    rw [hc] at hE hB
    rw [l_flotsamref25_Ways_0, M_loop, ← l_flotsamref25_Ways_0]
    simp [b_flotsamref25_Ways_0, h1, h3, h4, hc, hpl, e1, e1', e2, hB, hE]
    rw [← hc]
    refine ih (i + 1) _ (by omega) ?_ ?_ ?_ <;> simp [h1]

theorem Ways_eq (p : Pg) (hp : p.size ≤ 1000) : eval tbl noExt n_flotsamref25_Ways [.agg p.cells] [] = some (.own 11 ((fsts (wl p p.blocks.length)).map Si.cells), []) := by
  rw [eval_M rfl rfl t_flotsamref25_Ways rfl]
  simp [c_flotsamref25_Ways]
  refine Ways_loop p hp (fun r => r = some (.own 11 ((fsts (wl p p.blocks.length)).map Si.cells), [])) _ ?_ p.blocks.length 0 _ (by omega) ?_ ?_ ?_
  · intro φ' h3
    simp [r_flotsamref25_Ways_0, h3]
  all_goals simp [wl, fsts]

end Go.AM.Spec

namespace Go.AM.Spec
set_option linter.unusedVariables false
set_option linter.unusedSimpArgs false
set_option maxHeartbeats 2000000
set_option maxRecDepth 10000

theorem fit_of {n : Int} (h0 : -10000 ≤ n) (h1 : n ≤ 10000) : Fit n := by
  have hm : IntKind.i64.min = -9223372036854775808 := by decide
  show (Lit.int .i64 n).wf = true
  simp [Lit.wf]
  rw [hm]
  omega

theorem out_fit {b0 : List Sm} {i : Nat} (hi : i ≤ 1000) {e : Si × List Sm} (h : Out b0 i e) (k : Int) (h0 : 0 ≤ k) (h1 : k ≤ 100) : (e.1.withKind k).fit := by
  have hm := may_all h.may
  refine ⟨h.ok, fit_of (show -10000 ≤ k by omega) (by show k ≤ 10000; omega), ?_, fun w hw => fit_of (by have := (h.way w hw).1; omega) (h.way w hw).2, fit_of (by show -10000 ≤ e.1.deep; omega) (by show e.1.deep ≤ 10000; omega)⟩
  show Fit e.1.part
  rw [h.part]
  exact fit_of (by omega) (by omega)

theorem lead_kind (p : Pg) (s : Si) (k : Int) : leadOf p (s.withKind k) = leadOf p s := rfl

theorem rpick_loop (p : Pg) (hp : p.size ≤ 1000) (e : Si × List Sm) (i0 : Nat) (hi0 : i0 < p.blocks.length) (ho : Out (p.blocks.getD i0 []) i0 e) (kinds : Nat) (hkd : kinds < 65536) (G : Heap) (n : Nat) (hn : G.length + 1 = n) (v6 : V) (h7i : Int) (Q : Option (V × Heap) → Prop) (k : List Item) (all : List Si)
    (hexit : ∀ φ' (j : Int), Fr.get φ' 1 = .int .u16 kinds → Fr.get φ' 2 = .ptr 0 0 → Fr.get φ' 5 = .own 11 (all.map Si.cells) → Fr.get φ' 6 = v6 → Fr.get φ' 7 = iv h7i → Q (M (eval tbl noExt) k φ' (some p.cells :: (G ++ [some (e.1.withKind j).cells])))) :
    ∀ (m i : Nat) (φ : Fr) (acc : List Si) (v : Int), i + m = 8 → acc ++ (pk e.2 m (kinds / 2 ^ i) i).map (fun k : Nat => e.1.withKind (k : Int)) = all → acc.length + m ≤ 20000 → Fr.get φ 1 = .int .u16 kinds → Fr.get φ 2 = .ptr 0 0 → Fr.get φ 5 = .own 11 (acc.map Si.cells) → Fr.get φ 6 = v6 → Fr.get φ 7 = iv h7i → Fr.get φ 8 = .ptr n 0 → Fr.get φ 9 = iv ((i + 1 : Nat) : Int) →
      Q (M (eval tbl noExt) (.code l_flotsamref25_Sites_0 :: .blk 2 :: k) φ (some p.cells :: (G ++ [some (e.1.withKind v).cells]))) := by
  have ok : e.1.ok := ho.ok
  have hbl := p.blocks_len
  have hpl := procs_len hp
  have gn : ∀ (x y : Option (List V)), (x :: (G ++ [y]))[n]? = some y := fun x y => by
    rw [← hn, List.getElem?_cons_succ, List.getElem?_append_right (Nat.le_refl _)]; simp
  have sn : ∀ (x y z : Option (List V)), (x :: (G ++ [y])).set n z = x :: (G ++ [z]) := fun x y z => by
    rw [← hn, List.set_cons_succ, List.set_append_right _ _ (Nat.le_refl _)]; simp
  have hcp : p.cells.length = 4 := rfl
  have hcpt : p.cells.take 4 = p.cells := rfl
  have hcps : p.cells.map V.strip = p.cells := rfl
  have hcpu : ∀ n, V.underAll n p.cells = true := fun n => rfl
  have t1 := fun k => Si.len (withKind_ok ok k)
  have t2 := fun k => Si.strip (s := e.1.withKind k)
  have t3 := fun k n => Si.under (s := e.1.withKind k) n
  have t4 := fun k => Si.one (s := e.1.withKind k)
  have t5 := fun k => h11 (e.1.withKind k) (withKind_ok ok k)
  have t6 := fun k => Si.take (withKind_ok ok k)
  have t9 := withKind_set e.1
  have t10 := fun k => Si.plain (e.1.withKind k)
  intro m
  induction m with
  | zero =>
    intro i φ acc v hi hacc hal h1 h2 h5 h6 h7 h8 h9
    obtain rfl : i = 8 := by omega
    rw [pk, List.map_nil, List.append_nil] at hacc
    subst hacc
    rw [l_flotsamref25_Sites_0, M_loop]
    simp [b_flotsamref25_Sites_0, h1, h2, h5, h6, h7, h8, h9]
    exact hexit _ _ (by simp [h1]) (by simp [h2]) (by simp [h5]) (by simp [h6]) (by simp [h7])
  | succ m ih =>
    intro i φ acc v hi hacc hal h1 h2 h5 h6 h7 h8 h9
    obtain ⟨I, hI⟩ : ∃ I : Int, I = ((i + 1 : Nat) : Int) := ⟨_, rfl⟩
    have hF := refFits_eq p hp (e.1.withKind I) (out_fit (by omega) ho I (by omega) (by omega))
    rw [lead_kind, out_lead hi0 ho] at hF
    have hkd2 : (e.1.withKind I).kind = I := rfl
    rw [hkd2] at hF
    have e1 : I ≤ 8 := by omega
    have e2 : IntKind.i64.wrap (I + 1) = I + 1 := by rw [w64] <;> omega
    have e3 : IntKind.i64.wrap (I - 1) = (i : Int) := by rw [w64] <;> omega
    have h16 : IntKind.u16.bits = 16 := by decide
    have hmin : min i IntKind.u16.bits = i := Nat.min_eq_left (by omega)
    have hin2 : ¬ (i : Int) < 0 := by omega
    obtain ⟨B, hB⟩ : ∃ B, B = kinds / 2 ^ i := ⟨_, rfl⟩
    have e4 : ((kinds : Int)).fdiv (2 ^ i) = (B : Int) := by
      rw [Int.fdiv_eq_ediv_of_nonneg _ (Int.pow_nonneg (by omega)), hB]
      simp
    have hB1 : B < 65536 := by rw [hB]; exact Nat.lt_of_le_of_lt (Nat.div_le_self _ _) hkd
    have e5 := bit16_and hB1
    obtain ⟨BI, hBI⟩ : ∃ BI : Int, BI = (B : Int) := ⟨_, rfl⟩
    rw [← hBI] at e4 e5
    have hnx : B / 2 = kinds / 2 ^ (i + 1) := by rw [hB, Nat.div_div_eq_div_mul, Nat.pow_succ]
    have hcap : 2 * (acc.length + 1) * 88 ≤ 281474976710656 := by omega
    rw [pk, ← hB, hnx, ← hI] at hacc
    rw [← hI] at h9
    have hin : 0 ≤ (i : Int) := by omega
    rw [l_flotsamref25_Sites_0, M_loop, ← l_flotsamref25_Sites_0]
    have hI2 : I + 1 = ((i + 1 + 1 : Nat) : Int) := by omega
    by_cases a1 : B % 2 = 1
    · have a1' : ((B % 2 : Nat) : Int) = 1 := by omega
      rw [a1'] at e5
      cases a2 : fitsOf I e.2 with
      | true =>
        rw [a2] at hF
        rw [if_pos ⟨a1, a2⟩] at hacc
        simp [b_flotsamref25_Sites_0, h1, h2, h5, h6, h7, h8, h9, gn, sn, hcp, hcpt, hcps, hcpu, t1, t2, t3, t4, t5, t6, t9, t10, hF, e1, e2, e3, e4, e5, hmin, hin2, hcap]
        rw [show List.map Si.cells acc ++ [(e.1.withKind I).cells] = List.map Si.cells (acc ++ [e.1.withKind I]) by simp]
        refine ih (i + 1) _ (acc ++ [e.1.withKind I]) I (by omega) (by rw [← hacc, hI]; simp) (by simp; omega) ?_ ?_ ?_ ?_ ?_ ?_ ?_ <;> simp [h1, h2, h6, h7, h8, hI2]
      | false =>
        rw [a2] at hF
        rw [if_neg (fun h => by rw [a2] at h; simp at h), List.nil_append] at hacc
        simp [b_flotsamref25_Sites_0, h1, h2, h5, h6, h7, h8, h9, gn, sn, hcp, hcpt, hcps, hcpu, t1, t2, t3, t4, t5, t6, t9, t10, hF, e1, e2, e3, e4, e5, hmin, hin2, hcap]
        refine ih (i + 1) _ acc I (by omega) hacc (by omega) ?_ ?_ ?_ ?_ ?_ ?_ ?_ <;> simp [h1, h2, h5, h6, h7, h8, hI2]
    · have a1' : ((B % 2 : Nat) : Int) = 0 := by omega
      rw [a1'] at e5
      rw [if_neg (fun h => a1 h.1), List.nil_append] at hacc
      simp [b_flotsamref25_Sites_0, h1, h2, h5, h6, h7, h8, h9, gn, sn, hcp, hcpt, hcps, hcpu, t1, t2, t3, t4, t5, t6, t9, t10, hF, e1, e2, e3, e4, e5, hmin, hin2, hcap]
      refine ih (i + 1) _ acc I (by omega) hacc (by omega) ?_ ?_ ?_ ?_ ?_ ?_ ?_ <;> simp [h1, h2, h5, h6, h7, h8, hI2]

theorem rsites_loop (p : Pg) (hp : p.size ≤ 1000) (kinds : Nat) (hkd : kinds < 65536) (L : List (Si × List Sm)) (hL : L.length ≤ 1000) (hout : ∀ e ∈ L, ∃ i0, i0 < p.blocks.length ∧ Out (p.blocks.getD i0 []) i0 e) (Q : Option (V × Heap) → Prop) (k : List Item)
    (hexit : ∀ φ' G, Fr.get φ' 5 = .own 11 ((outs kinds L).map Si.cells) → Q (M (eval tbl noExt) k φ' (some p.cells :: G))) :
    ∀ (j i : Nat) (φ : Fr) (acc : List Si) (G : Heap), i + j = L.length → acc.length ≤ 8 * i → acc ++ outs kinds (L.drop i) = outs kinds L → Fr.get φ 1 = .int .u16 kinds → Fr.get φ 2 = .ptr 0 0 → Fr.get φ 5 = .own 11 (acc.map Si.cells) → Fr.get φ 6 = .own 11 ((fsts L).map Si.cells) → Fr.get φ 7 = iv i →
      Q (M (eval tbl noExt) (.code l_flotsamref25_Sites_1 :: .blk 0 :: k) φ (some p.cells :: G)) := by
  have hfl : (fsts L).length = L.length := by simp [fsts]
  intro j
  induction j with
  | zero =>
    intro i φ acc G hi hac hacc h1 h2 h5 h6 h7
    have hlt : ¬ (i : Int) < L.length := by omega
    have hlt' : ¬ i < L.length := by omega
    rw [List.drop_eq_nil_of_le (by omega)] at hacc
    have hacc' : acc = outs kinds L := by rw [← hacc]; simp [outs]
    subst hacc'
    rw [l_flotsamref25_Sites_1, M_loop]
    simp [b_flotsamref25_Sites_1, h1, h2, h5, h6, h7, hfl, hlt, hlt']
    exact hexit _ _ (by simp [h5])
  | succ j ih =>
    intro i φ acc G hi hac hacc h1 h2 h5 h6 h7
    have hlt : i < L.length := by omega
    obtain ⟨e, he⟩ : ∃ e, e = L[i] := ⟨_, rfl⟩
    have hmem : e ∈ L := by rw [he]; exact List.getElem_mem _
    obtain ⟨i0, hi0, ho⟩ := hout e hmem
    have ok : e.1.ok := ho.ok
    rw [List.drop_eq_getElem_cons hlt, ← he] at hacc
    have hg : ∀ h : i < L.length, L[i] = e := fun h => he.symm
    have hgf : ∀ h : i < (fsts L).length, (fsts L)[i] = e.1 := fun h => by simp [fsts, ← he]
    have e1 : (i : Int) < L.length := by omega
    have hltf : i < (fsts L).length := by omega
    have e2 : IntKind.i64.wrap ((i : Int) + 1) = ((i + 1 : Nat) : Int) := by rw [w64] <;> omega
    have t1 := Si.len ok
    have t2 := Si.strip (s := e.1)
    have t3 := fun n => Si.under (s := e.1) n
    have t4 := Si.one (s := e.1)
    have t5 := h11 e.1 ok
    have t6 := Si.take ok
    have gn : ∀ (x y : Option (List V)), (x :: (G ++ [y]))[G.length + 1]? = some y := fun x y => by
      rw [List.getElem?_cons_succ, List.getElem?_append_right (Nat.le_refl _)]; simp
    have sn : ∀ (x y z : Option (List V)), (x :: (G ++ [y])).set (G.length + 1) z = x :: (G ++ [z]) := fun x y z => by
      rw [List.set_cons_succ, List.set_append_right _ _ (Nat.le_refl _)]; simp
    have sn' : ∀ (y z : Option (List V)), (G ++ [y]).set G.length z = G ++ [z] := fun y z => by
      rw [List.set_append_right _ _ (Nat.le_refl _)]; simp
    have hw : e.1.withKind 0 = e.1 := by
      have hk := ho.kind
      obtain ⟨⟨kd, pt, wy, dp⟩, X⟩ := e
      simp only at hk
      subst hk; rfl
    have hsplit : outs kinds (e :: L.drop (i + 1)) = picks kinds e ++ outs kinds (L.drop (i + 1)) := by simp [outs]
    rw [hsplit, ← List.append_assoc] at hacc
    have hpl := picks_len kinds e
    rw [l_flotsamref25_Sites_1, M_loop, ← l_flotsamref25_Sites_1]
    simp [b_flotsamref25_Sites_1, h1, h2, h5, h6, h7, hfl, hlt, hltf, hgf, e1, gn, sn, sn', t1, t2, t3, t4, t5, t6]
    have key := rpick_loop p hp e i0 hi0 ho kinds hkd G (G.length + 1) rfl (.own 11 ((fsts L).map Si.cells)) i Q
    rw [← hw]
    refine key _ (acc ++ picks kinds e) ?_ 8 0 _ acc 0 (by omega) (by rw [Nat.pow_zero, Nat.div_one]; rfl) (by omega) ?_ ?_ ?_ ?_ ?_ ?_ ?_
    · intro φ' v p1 p2 p5 p6 p7
      simp [r_flotsamref25_Sites_0, p1, p2, p5, p6, p7, e2]
      refine ih (i + 1) _ (acc ++ picks kinds e) _ (by omega) (by rw [List.length_append]; omega) hacc ?_ ?_ ?_ ?_ ?_ <;> simp [p1, p2, p5, p6]
    all_goals simp [h1, h2, h5, h6, h7]

theorem wl_mem {p : Pg} (hp : p.size ≤ 1000) {e : Si × List Sm} (he : e ∈ wl p p.blocks.length) : ∃ i0, i0 < p.blocks.length ∧ Out (p.blocks.getD i0 []) i0 e := by
  simp only [wl, List.mem_flatten, List.mem_map, List.mem_range] at he
  obtain ⟨l, ⟨i, hi, rfl⟩, he⟩ := he
  exact ⟨i, hi, ways_out hp hi e he⟩

theorem refSites_eq (p : Pg) (hp : p.size ≤ 1000) (kinds : Nat) (hkd : kinds < 65536) : eval tbl noExt n_flotsamref25_Sites [.agg p.cells, .int .u16 kinds] [] = some (.own 11 ((allSites p kinds).map Si.cells), []) := by
  have hW := Ways_eq p hp
  have hcp : p.cells.length = 4 := rfl
  have hcpt : p.cells.take 4 = p.cells := rfl
  have hcps : p.cells.map V.strip = p.cells := rfl
  have hcpu : ∀ n, V.underAll n p.cells = true := fun n => rfl
  have hlen : (wl p p.blocks.length).length ≤ 1000 := by
    have h1 := wl_len p p.blocks.length (Nat.le_refl _)
    have h2 := blocks_size hp
    have h3 := take_size p p.blocks.length
    omega
  rw [eval_M rfl rfl t_flotsamref25_Sites rfl]
  simp [c_flotsamref25_Sites, hcp, hcpt, hcps, hcpu, hW]
  refine rsites_loop p hp kinds hkd (wl p p.blocks.length) hlen (fun e he => wl_mem hp he) (fun r => r = some (.own 11 ((allSites p kinds).map Si.cells), [])) _ ?_ (wl p p.blocks.length).length 0 _ [] [] (by omega) (by simp) (by simp) ?_ ?_ ?_ ?_ ?_
  · intro φ' G h5
    simp [r_flotsamref25_Sites_1, h5, allSites]
  all_goals simp

theorem sameS_loop (l : List Si) (hl : l.length ≤ 100000) (hok : ∀ s ∈ l, s.ok) (call : CallF) (K : Heap) (Q : Option (V × Heap) → Prop) (k : List Item) (hexit : ∀ φ', Q (M call k φ' K)) :
    ∀ (j i : Nat) (φ : Fr), i + j = l.length → Fr.get φ 0 = .sl 11 (l.map Si.cells) → Fr.get φ 1 = .sl 11 (l.map Si.cells) → Fr.get φ 5 = iv i → Q (M call (.code l_flotsamref25_Same_0 :: .blk 0 :: k) φ K) := by
  intro j
  induction j with
  | zero =>
    intro i φ hi h0 h1 h5
    have hlt : ¬ (i : Int) < l.length := by omega
    have hlt' : ¬ i < l.length := by omega
    rw [l_flotsamref25_Same_0, M_loop]
    simp [b_flotsamref25_Same_0, h0, h1, h5, hlt, hlt']
    exact hexit _
  | succ j ih =>
    intro i φ hi h0 h1 h5
    have hlt : i < l.length := by omega
    have e1 : (i : Int) < l.length := by omega
    have e2 : IntKind.i64.wrap ((i : Int) + 1) = ((i + 1 : Nat) : Int) := by rw [w64] <;> omega
    obtain ⟨s, hs⟩ : ∃ s, s = l[i] := ⟨_, rfl⟩
    have ok := hok s (by rw [hs]; exact List.getElem_mem _)
    have hg : ∀ h : i < l.length, l[i] = s := fun h => hs.symm
    have heq := Si.eqc ok ok
    rw [decide_eq_true rfl] at heq
    have q1 := Si.len ok
    have q3 := Si.strip (s := s)
    have q5 := Si.take ok
    rw [l_flotsamref25_Same_0, M_loop, ← l_flotsamref25_Same_0]
    simp [b_flotsamref25_Same_0, h0, h1, h5, hlt, hg, e1, e2, heq, q1, q3, q5]
    refine ih (i + 1) _ (by omega) ?_ ?_ ?_ <;> simp [h0, h1]

theorem sameS_eq (l : List Si) (hl : l.length ≤ 100000) (hok : ∀ s ∈ l, s.ok) (H : Heap) : eval tbl noExt n_flotsamref25_Same [.sl 11 (l.map Si.cells), .sl 11 (l.map Si.cells)] H = some (.bool true, H) := by
  rw [eval_M rfl rfl t_flotsamref25_Same rfl]
  simp [c_flotsamref25_Same]
  refine sameS_loop l hl hok _ H (fun r => r = some (.bool true, H)) _ ?_ l.length 0 _ (by omega) ?_ ?_ ?_
  · intro φ'
    simp [r_flotsamref25_Same_0]
  all_goals simp

theorem allSites_ok {p : Pg} (hp : p.size ≤ 1000) (kinds : Nat) : ∀ s ∈ allSites p kinds, s.ok := by
  intro s hs
  simp only [allSites, outs, List.mem_flatten, List.mem_map] at hs
  obtain ⟨l, ⟨e, he, rfl⟩, hs⟩ := hs
  obtain ⟨i0, hi0, ho⟩ := wl_mem hp he
  simp only [picks, List.mem_map] at hs
  obtain ⟨k, _, rfl⟩ := hs
  exact ho.ok

theorem allSites_len {p : Pg} (hp : p.size ≤ 1000) (kinds : Nat) : (allSites p kinds).length ≤ 8000 := by
  have h1 := wl_len p p.blocks.length (Nat.le_refl _)
  have h2 := blocks_size hp
  have h3 := take_size p p.blocks.length
  have h4 := outs_len kinds (wl p p.blocks.length)
  unfold allSites
  omega

theorem knows25 : eval tbl noExt n_flotsamlaw25_knows [] [] = some (.bool true, []) := (eval_iff _ _ _ _ _ _).2 ⟨400, by kernel_rfl⟩

end Go.AM.Spec

namespace Go.AM.Spec
set_option linter.unusedVariables false
set_option linter.unusedSimpArgs false
set_option maxHeartbeats 2000000
set_option maxRecDepth 10000

theorem SiteTells_eq (p : Pg) (kinds : Nat) (hkd : kinds < 65536) (s : Si) (hf : s.fit) : ∃ H', eval tbl noExt n_flotsamlaw25_SiteTells [.agg p.cells, .int .u16 kinds, .agg s.cells] [] = some (.bool true, H') := by
  refine ⟨[], ?_⟩
  have hk := knows25
  obtain ⟨b, hb, hsm⟩ := Small_eq p
  have hcp : p.cells.length = 4 := rfl
  have hcpt : p.cells.take 4 = p.cells := rfl
  have hcps : p.cells.map V.strip = p.cells := rfl
  have hcpu : ∀ n, V.underAll n p.cells = true := fun n => rfl
  have ok := hf.1
  have q1 := Si.len ok
  have q3 := Si.strip (s := s)
  have q5 := Si.take ok
  have qu := fun n => Si.under (s := s) n
  rw [eval_M rfl rfl t_flotsamlaw25_SiteTells rfl]
  cases b with
  | false =>
    simp [c_flotsamlaw25_SiteTells, hcp, hcpt, hcps, hcpu, hb, hk]
  | true =>
    have hp : p.size ≤ 1000 := by have := (hsm rfl).1; omega
    have h1 := At_eq p hp s hf
    have h2 := refAt_eq p hp s hf
    have h3 := Fits_eq p hp s hf
    have h4 := refFits_eq p hp s hf
    have h5 := Sites_eq p hp kinds hkd
    have h6 := refSites_eq p hp kinds hkd
    have h7 := sameS_eq (allSites p kinds) (by have := allSites_len hp kinds; omega) (allSites_ok hp kinds) []
    obtain ⟨x, hx⟩ : ∃ x, x = headOf (leadOf p s) := ⟨_, rfl⟩
    have hxs : x.size ≤ 1000 := by
      rw [hx]
      unfold headOf
      have := leadOf_sizes hp s
      cases hl : leadOf p s with
      | nil => decide
      | cons y r =>
        rw [hl, Sm.sizes] at this
        show y.size ≤ 1000
        omega
    have h8 := SameStmt_eq 1000 x x hxs (Nat.le_refl _)
    rw [Sm.same_rfl] at h8
    rw [← hx] at h1 h2
    obtain ⟨a0, a1', a2, a3, a4, a5, a6, hcs⟩ := Sm.cells_shape x
    rw [hcs] at h1 h2 h8
    simp [c_flotsamlaw25_SiteTells, hcp, hcpt, hcps, hcpu, hb, hk, q1, q3, q5, qu, h1, h2, h3, h4, h5, h6, h7, h8]

theorem SiteTells_all (p : Pg) (_ : p.fit) (a : Int) (w : (Lit.int .u16 a).wf = true) (s : Si) (hf : s.fit) : ∃ H', eval tbl noExt n_flotsamlaw25_SiteTells [.agg p.cells, .int .u16 a, .agg s.cells] [] = some (.bool true, H') := by
  simp [Lit.wf] at w
  have hm : IntKind.u16.min = 0 := by decide
  have hx : IntKind.u16.max = 65535 := by decide
  rw [hm, hx] at w
  have e : a = ((a.toNat : Nat) : Int) := by omega
  rw [e]
  exact SiteTells_eq p a.toNat (by omega) s hf

end Go.AM.Spec
