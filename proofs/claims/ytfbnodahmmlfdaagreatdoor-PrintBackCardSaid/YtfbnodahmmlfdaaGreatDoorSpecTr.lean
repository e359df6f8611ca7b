/-
 The parts of this proof that speak of the functions one by one.
-/
import Derived.Test.YtfbnodahmmlfdaaGreatDoorSpc
import Derived.Lib.IndexLaws
namespace Go.AM.Spec
set_option linter.unusedVariables false
set_option linter.unusedSimpArgs false
set_option maxHeartbeats 1000000
inductive Ex where
 | mk (op n : Int) (s : List UInt8) (x : List Ex)
inductive Sm where
 | mk (op : Int) (s : List UInt8) (n : Int) (e : List Ex) (body els : List Sm) (commit : Bool)
mutual
def Ex.cells : Ex → List V
 | .mk op n s x => [.int .i64 op, .int .i64 n, .str s, .sl 4 (Ex.rows x)]
def Ex.rows : List Ex → List (List V)
 | [] => []
 | e :: l => e.cells :: Ex.rows l
end
mutual
def Sm.cells : Sm → List V
 | .mk op s n e b c k => [.int .i64 op, .str s, .int .i64 n, .sl 4 (Ex.rows e), .sl 7 (Sm.rows b), .sl 7 (Sm.rows c), .bool k]
def Sm.rows : List Sm → List (List V)
 | [] => []
 | e :: l => e.cells :: Sm.rows l
end
theorem Ex.rows_eq (l : List Ex) : Ex.rows l = l.map Ex.cells := by induction l with
 | nil => rfl
 | cons e l ih => simp [Ex.rows, ih]
theorem Sm.rows_eq (l : List Sm) : Sm.rows l = l.map Sm.cells := by induction l with
 | nil => rfl
 | cons e l ih => simp [Sm.rows, ih]
mutual
def Ex.size : Ex → Nat
 | .mk _ _ _ x => 1 + Ex.sizes x
def Ex.sizes : List Ex → Nat
 | [] => 0
 | e :: l => e.size + Ex.sizes l
end
mutual
def Sm.size : Sm → Nat
 | .mk _ _ _ e b c _ => 1 + Ex.sizes e + Sm.sizes b + Sm.sizes c
def Sm.sizes : List Sm → Nat
 | [] => 0
 | e :: l => e.size + Sm.sizes l
end
theorem Ex.sizes_ge : ∀ l : List Ex, l.length ≤ Ex.sizes l
 | [] => Nat.le_refl _
 | e :: l => by
  have := Ex.sizes_ge l
  cases e
  simp only [Ex.sizes, Ex.size, List.length_cons]; omega
theorem Sm.sizes_ge : ∀ l : List Sm, l.length ≤ Sm.sizes l
 | [] => Nat.le_refl _
 | e :: l => by
  have := Sm.sizes_ge l
  cases e
  simp only [Sm.sizes, Sm.size, List.length_cons]; omega
theorem Ex.sizes_mem : ∀ {l : List Ex} {e : Ex}, e ∈ l → e.size ≤ Ex.sizes l
 | [], _, h => by simp at h
 | x :: l, e, h => by
  simp only [Ex.sizes]
  rcases List.mem_cons.1 h with rfl | h
  ·omega
  ·have := Ex.sizes_mem h; omega
theorem Sm.sizes_mem : ∀ {l : List Sm} {e : Sm}, e ∈ l → e.size ≤ Sm.sizes l
 | [], _, h => by simp at h
 | x :: l, e, h => by
  simp only [Sm.sizes]
  rcases List.mem_cons.1 h with rfl | h
  ·omega
  ·have := Sm.sizes_mem h; omega
mutual
def Sm.flat : Sm → List Sm
 | .mk op s n e b c k => .mk op s n e b c k :: (Sm.flats b ++ Sm.flats c)
def Sm.flats : List Sm → List Sm
 | [] => []
 | e :: l => e.flat ++ Sm.flats l
end
theorem Sm.flats_append (a b : List Sm) : Sm.flats (a ++ b) = Sm.flats a ++ Sm.flats b := by
 induction a with
 | nil => rfl
 | cons e l ih => simp [Sm.flats, ih]
mutual
theorem Sm.flat_size : ∀ e : Sm, e.flat.length ≤ e.size
 | .mk op s n e b c k => by
  have := Sm.flats_sizes b
  have := Sm.flats_sizes c
  simp only [Sm.flat, Sm.size, List.length_cons, List.length_append]; omega
theorem Sm.flats_sizes : ∀ l : List Sm, (Sm.flats l).length ≤ Sm.sizes l
 | [] => Nat.le_refl _
 | e :: l => by
  have := Sm.flat_size e
  have := Sm.flats_sizes l
  simp only [Sm.flats, Sm.sizes, List.length_append]; omega
end
theorem at_hp {hp : Heap} {m : Nat} (h : hp.length = m) (L : Heap) (k : Nat) : (hp ++ L)[m + k]? = L[k]? := by
 rw [List.getElem?_append_right (by omega)]; congr 1; omega
theorem set_hp {hp : Heap} {m : Nat} (h : hp.length = m) (L : Heap) (k : Nat) (v : Option (List V)) : (hp ++ L).set (m + k) v = hp ++ L.set k v := by
 rw [List.set_append_right _ _ (by omega)]; congr 2; omega
theorem take_hp {hp : Heap} {m : Nat} (h : hp.length = m) (L : Heap) (k : Nat) : (hp ++ L).take (m + k) = hp ++ L.take k := by
 rw [List.take_append, List.take_of_length_le (by omega)]; congr 2; omega
def Sm.blocks : Sm → List (List Sm)
 | .mk _ _ _ _ b c _ => [b, c]
structure Pg where
 procs : List (List UInt8 × List Sm)
 main : List Sm
 recover : List Sm
 oracles : List (List UInt8 × Ex)
def Pg.pcells (p : Pg) : List (List V) := p.procs.map fun x => [.str x.1, .sl 7 (Sm.rows x.2)]
def Pg.ocells (p : Pg) : List (List V) := p.oracles.map fun x => .str x.1 :: x.2.cells
def Pg.cells (p : Pg) : List V := [.sl 2 p.pcells, .sl 7 (Sm.rows p.main), .sl 7 (Sm.rows p.recover), .sl 5 p.ocells]
def Pg.psize (p : Pg) : Nat := (p.procs.map fun x => 1 + Sm.sizes x.2).sum
def Pg.osize (p : Pg) : Nat := (p.oracles.map fun x => 1 + x.2.size).sum
def Pg.size (p : Pg) : Nat := p.psize + Sm.sizes p.main + Sm.sizes p.recover + p.osize
def Pg.parts (p : Pg) : List (List Sm) := p.procs.map (·.2) ++ [p.main, p.recover]
def brow (b : List Sm) : List V := [.sl 7 (Sm.rows b)]
def Pg.flats (p : Pg) : List Sm := Sm.flats p.parts.flatten
theorem sizes_append (a b : List Sm) : Sm.sizes (a ++ b) = Sm.sizes a + Sm.sizes b := by
 induction a with
 | nil => simp [Sm.sizes]
 | cons e l ih => simp only [List.cons_append, Sm.sizes, ih]; omega
theorem Pg.parts_size (p : Pg) : Sm.sizes p.parts.flatten + p.procs.length ≤ p.size := by
 have h : ∀ l : List (List UInt8 × List Sm), Sm.sizes (l.map (·.2)).flatten + l.length = (l.map fun x => 1 + Sm.sizes x.2).sum := by
  intro l
  induction l with
  | nil => rfl
  | cons x l ih => simp only [List.map_cons, List.flatten_cons, sizes_append, List.length_cons, List.sum_cons]; omega
 have := h p.procs
 simp only [Pg.parts, List.flatten_append, sizes_append, Pg.size, Pg.psize, List.flatten_cons, List.flatten_nil, List.append_nil]
 omega
theorem sizes_flatten {bs : List (List Sm)} {b : List Sm} (h : b ∈ bs) : Sm.sizes b ≤ Sm.sizes bs.flatten := by
 induction bs with
 | nil => simp at h
 | cons x l ih =>
  simp only [List.flatten_cons, sizes_append]
  rcases List.mem_cons.1 h with rfl | h
  ·omega
  ·have := ih h; omega
theorem Pg.prow {p : Pg} {i : Nat} {e : List UInt8 × List Sm} (he : p.procs[i]? = some e) : p.pcells[i]? = some [.str e.1, .sl 7 (Sm.rows e.2)] := by rw [Pg.pcells, List.getElem?_map, he]; rfl
theorem Pg.pcells_len (p : Pg) : p.pcells.length = p.procs.length := by simp [Pg.pcells]
theorem Pg.ocells_len (p : Pg) : p.ocells.length = p.oracles.length := by simp [Pg.ocells]
def Sm.op : Sm → Int
 | .mk op _ _ _ _ _ _ => op
mutual
def Ex.same : Ex → Ex → Bool
 | .mk op n s x, .mk op' n' s' x' => op == op' && n == n' && s == s' && Ex.sames x x'
def Ex.sames : List Ex → List Ex → Bool
 | [], [] => true
 | a :: l, b :: m => a.same b && Ex.sames l m
 | _, _ => false
end
mutual
def Sm.same : Sm → Sm → Bool
 | .mk op s n e b c k, .mk op' s' n' e' b' c' k' => op == op' && s == s' && n == n' && k == k' && Ex.sames e e' && Sm.sames b b' && Sm.sames c c'
def Sm.sames : List Sm → List Sm → Bool
 | [], [] => true
 | a :: l, b :: m => a.same b && Sm.sames l m
 | _, _ => false
end
theorem Ex.sames_len {l m : List Ex} (h : l.length ≠ m.length) : Ex.sames l m = false := by
 induction l generalizing m with
 | nil => cases m with
  | nil => simp at h
  | cons => rfl
 | cons a l ih => cases m with
  | nil => rfl
  | cons b m => simp only [Ex.sames, ih (m := m) (fun e => h (by simp [e])), Bool.and_false]
theorem Sm.sames_len {l m : List Sm} (h : l.length ≠ m.length) : Sm.sames l m = false := by
 induction l generalizing m with
 | nil => cases m with
  | nil => simp at h
  | cons => rfl
 | cons a l ih => cases m with
  | nil => rfl
  | cons b m => simp only [Sm.sames, ih (m := m) (fun e => h (by simp [e])), Bool.and_false]
mutual
theorem Ex.same_rfl : ∀ e : Ex, e.same e = true
 | .mk op n s x => by simp [Ex.same, Ex.sames_rfl x]
theorem Ex.sames_rfl : ∀ l : List Ex, Ex.sames l l = true
 | [] => rfl
 | e :: l => by simp [Ex.sames, Ex.same_rfl e, Ex.sames_rfl l]
end
mutual
theorem Sm.same_rfl : ∀ e : Sm, e.same e = true
 | .mk op s n e b c k => by simp [Sm.same, Ex.sames_rfl e, Sm.sames_rfl b, Sm.sames_rfl c]
theorem Sm.sames_rfl : ∀ l : List Sm, Sm.sames l l = true
 | [] => rfl
 | e :: l => by simp [Sm.sames, Sm.same_rfl e, Sm.sames_rfl l]
end
theorem Ex.rows_len (l : List Ex) : (Ex.rows l).length = l.length := by simp [Ex.rows_eq]
theorem Sm.rows_len (l : List Sm) : (Sm.rows l).length = l.length := by simp [Sm.rows_eq]
theorem Ex.rows_at {l : List Ex} {i : Nat} {e : Ex} (h : l[i]? = some e) : (Ex.rows l)[i]? = some e.cells := by rw [Ex.rows_eq, List.getElem?_map, h]; rfl
theorem Sm.rows_at {l : List Sm} {i : Nat} {e : Sm} (h : l[i]? = some e) : (Sm.rows l)[i]? = some e.cells := by rw [Sm.rows_eq, List.getElem?_map, h]; rfl
theorem Ex.cells_shape (e : Ex) : ∃ a b c d, e.cells = [.int .i64 a, .int .i64 b, .str c, .sl 4 d] := by cases e; exact ⟨_, _, _, _, rfl⟩
theorem Sm.cells_shape (e : Sm) : ∃ a b c d f g h, e.cells = [.int .i64 a, .str b, .int .i64 c, .sl 4 d, .sl 7 f, .sl 7 g, .bool h] := by cases e; exact ⟨_, _, _, _, _, _, _, rfl⟩
theorem at_some {α : Type} {l : List α} {i : Nat} (h : i < l.length) : ∃ e, l[i]? = some e ∧ e ∈ l ∧ l.drop i = e :: l.drop (i + 1) := by
 refine ⟨l[i], List.getElem?_eq_getElem h, List.getElem_mem h, ?_⟩
 rw [List.drop_eq_getElem_cons h]
set_option maxRecDepth 10000
theorem each_expr_loop (call : CallF) (R : Option (V × Heap)) (n : Nat) (H : Heap) (l : List Ex) (hl : l.length ≤ 20000) (hf : ∀ e ∈ l, ∀ K, call n_tree_clonedExpr [.agg e.cells] K = some (.agg e.cells, K)) (k : List Item)
  (hexit : ∀ φ' K, K.take n = H → n ≤ K.length → Fr.get φ' 5 = .own 4 (Ex.rows l) → M call k φ' K = R) :
  ∀ (j i : Nat) (φ : Fr) (K : Heap), i + j = l.length → K.take n = H → n ≤ K.length → Fr.get φ 1 = .fn (.func n_tree_clonedExpr) [] [] → Fr.get φ 5 = .own 4 (Ex.rows (l.take i)) → Fr.get φ 8 = .sl 4 (Ex.rows l) → Fr.get φ 9 = .int .i64 l.length → Fr.get φ 10 = .int .i64 i →
   M call (.code l_tree_each_api_Expr_0 :: .blk 0 :: k) φ K = R := by
 intro j
 induction j with
 | zero =>
  intro i φ K hj hK hn h1 h5 h8 h9 h10
  have hi : ¬ ((i : Int) < l.length) := by omega
  have h5' : Fr.get φ 5 = .own 4 (Ex.rows l) := by rw [h5, List.take_of_length_le (by omega)]
  rw [l_tree_each_api_Expr_0, M_loop, ← l_tree_each_api_Expr_0]
  simp [b_tree_each_api_Expr_0, h1, h5', h8, h9, h10, hi]
  exact hexit _ _ hK hn (by simp)
 | succ j ih =>
  intro i φ K hj hK hn h1 h5 h8 h9 h10
  have hi : (i : Int) < l.length := by omega
  have hil : i < l.length := by omega
  obtain ⟨e, he⟩ : ∃ e, l[i]? = some e := ⟨l[i], List.getElem?_eq_getElem hil⟩
  have hmem : e ∈ l := List.mem_of_getElem? he
  have hrow : (Ex.rows l)[i]? = some e.cells := by rw [Ex.rows_eq, List.getElem?_map, he]; rfl
  have hcl : (Ex.rows l).length = l.length := by rw [Ex.rows_eq]; simp
  have hck : (Ex.rows (l.take i)).length = i := by rw [Ex.rows_eq]; simp; omega
  have hnext : Ex.rows (l.take i) ++ [e.cells] = Ex.rows (l.take (i + 1)) := by
   rw [Ex.rows_eq, Ex.rows_eq, List.take_add_one, he]; simp
  have hw : IntKind.i64.wrap ((i : Int) + 1) = ((i + 1 : Nat) : Int) := by rw [w64 (by omega) (by omega)]; rfl
  have hb : 2 * (i + 1) * 56 ≤ 281474976710656 := by omega
  obtain ⟨op, m, s, x⟩ := e
  simp only [Ex.cells] at hrow hnext
  have hcall := hf _ hmem
  simp only [Ex.cells] at hcall
  rw [l_tree_each_api_Expr_0, M_loop, ← l_tree_each_api_Expr_0]
  simp [b_tree_each_api_Expr_0, h1, h5, h8, h9, h10, hi, hcl, hrow, hcall, hck, get0, set0, hnext, hw, hb]
  refine ih (i + 1) _ _ (by omega) (take_more hK hn _) (by simp; omega) ?_ ?_ ?_ ?_ ?_ <;> simp
theorem each_expr_eq (l : List Ex) (hl : l.length ≤ 20000) (hf : ∀ e ∈ l, ∀ K, eval tbl noExt n_tree_clonedExpr [.agg e.cells] K = some (.agg e.cells, K)) (H : Heap) :
  eval tbl noExt n_tree_each_api_Expr [.sl 4 (Ex.rows l), .fn (.func n_tree_clonedExpr) [] []] H = some (.own 4 (Ex.rows l), H) := by
 have hcl : (Ex.rows l).length = l.length := by rw [Ex.rows_eq]; simp
 rw [eval_M rfl rfl t_tree_each_api_Expr rfl]
 simp [c_tree_each_api_Expr, hcl]
 refine each_expr_loop _ _ H.length H l hl hf _ (fun φ' K hK hn h5 => by simp [r_tree_each_api_Expr_0, h5, hK]) l.length 0 _ H (by omega) (by simp) (Nat.le_refl _) ?_ ?_ ?_ ?_ ?_ <;> simp [Ex.rows]
theorem clonedExpr_eq : ∀ (n : Nat) (e : Ex), e.size ≤ n → n ≤ 20000 → ∀ H, eval tbl noExt n_tree_clonedExpr [.agg e.cells] H = some (.agg e.cells, H) := by
 intro n
 induction n with
 | zero =>
  intro e h
  cases e
  simp only [Ex.size] at h; omega
 | succ n ih =>
  intro e h hn H
  obtain ⟨op, m, s, x⟩ := e
  simp only [Ex.size] at h
  have hx := Ex.sizes_ge x
  have he := each_expr_eq x (by omega) (fun e he K => ih e (by have := Ex.sizes_mem he; omega) (by omega) K) []
  rw [eval_M rfl rfl t_tree_clonedExpr rfl]
  simp [c_tree_clonedExpr, Ex.cells, he, get0, get1, set0, set1]
theorem each_stmt_loop (call : CallF) (R : Option (V × Heap)) (n : Nat) (H : Heap) (l : List Sm) (hl : l.length ≤ 20000) (hf : ∀ e ∈ l, ∀ K, call n_tree_cloned [.agg e.cells] K = some (.agg e.cells, K)) (k : List Item)
  (hexit : ∀ φ' K, K.take n = H → n ≤ K.length → Fr.get φ' 5 = .own 7 (Sm.rows l) → M call k φ' K = R) :
  ∀ (j i : Nat) (φ : Fr) (K : Heap), i + j = l.length → K.take n = H → n ≤ K.length → Fr.get φ 1 = .fn (.func n_tree_cloned) [] [] → Fr.get φ 5 = .own 7 (Sm.rows (l.take i)) → Fr.get φ 8 = .sl 7 (Sm.rows l) → Fr.get φ 9 = .int .i64 l.length → Fr.get φ 10 = .int .i64 i →
   M call (.code l_tree_each_api_Stmt_0 :: .blk 0 :: k) φ K = R := by
 intro j
 induction j with
 | zero =>
  intro i φ K hj hK hn h1 h5 h8 h9 h10
  have hi : ¬ ((i : Int) < l.length) := by omega
  have h5' : Fr.get φ 5 = .own 7 (Sm.rows l) := by rw [h5, List.take_of_length_le (by omega)]
  rw [l_tree_each_api_Stmt_0, M_loop, ← l_tree_each_api_Stmt_0]
  simp [b_tree_each_api_Stmt_0, h1, h5', h8, h9, h10, hi]
  exact hexit _ _ hK hn (by simp)
 | succ j ih =>
  intro i φ K hj hK hn h1 h5 h8 h9 h10
  have hi : (i : Int) < l.length := by omega
  have hil : i < l.length := by omega
  obtain ⟨e, he⟩ : ∃ e, l[i]? = some e := ⟨l[i], List.getElem?_eq_getElem hil⟩
  have hmem : e ∈ l := List.mem_of_getElem? he
  have hrow : (Sm.rows l)[i]? = some e.cells := by rw [Sm.rows_eq, List.getElem?_map, he]; rfl
  have hcl : (Sm.rows l).length = l.length := by rw [Sm.rows_eq]; simp
  have hck : (Sm.rows (l.take i)).length = i := by rw [Sm.rows_eq]; simp; omega
  have hnext : Sm.rows (l.take i) ++ [e.cells] = Sm.rows (l.take (i + 1)) := by
   rw [Sm.rows_eq, Sm.rows_eq, List.take_add_one, he]; simp
  have hw : IntKind.i64.wrap ((i : Int) + 1) = ((i + 1 : Nat) : Int) := by rw [w64 (by omega) (by omega)]; rfl
  have hb : 2 * (i + 1) * 112 ≤ 281474976710656 := by omega
  obtain ⟨op, s, m, x, b, c, g⟩ := e
  simp only [Sm.cells] at hrow hnext
  have hcall := hf _ hmem
  simp only [Sm.cells] at hcall
  rw [l_tree_each_api_Stmt_0, M_loop, ← l_tree_each_api_Stmt_0]
  simp [b_tree_each_api_Stmt_0, h1, h5, h8, h9, h10, hi, hcl, hrow, hcall, hck, get0, set0, hnext, hw, hb]
  refine ih (i + 1) _ _ (by omega) (take_more hK hn _) (by simp; omega) ?_ ?_ ?_ ?_ ?_ <;> simp
theorem each_stmt_eq (l : List Sm) (hl : l.length ≤ 20000) (hf : ∀ e ∈ l, ∀ K, eval tbl noExt n_tree_cloned [.agg e.cells] K = some (.agg e.cells, K)) (H : Heap) :
  eval tbl noExt n_tree_each_api_Stmt [.sl 7 (Sm.rows l), .fn (.func n_tree_cloned) [] []] H = some (.own 7 (Sm.rows l), H) := by
 have hcl : (Sm.rows l).length = l.length := by rw [Sm.rows_eq]; simp
 rw [eval_M rfl rfl t_tree_each_api_Stmt rfl]
 simp [c_tree_each_api_Stmt, hcl]
 refine each_stmt_loop _ _ H.length H l hl hf _ (fun φ' K hK hn h5 => by simp [r_tree_each_api_Stmt_0, h5, hK]) l.length 0 _ H (by omega) (by simp) (Nat.le_refl _) ?_ ?_ ?_ ?_ ?_ <;> simp [Sm.rows]
theorem cloned_eq : ∀ (n : Nat) (e : Sm), e.size ≤ n → n ≤ 20000 → ∀ H, eval tbl noExt n_tree_cloned [.agg e.cells] H = some (.agg e.cells, H) := by
 intro n
 induction n with
 | zero =>
  intro e h
  cases e
  simp only [Sm.size] at h; omega
 | succ n ih =>
  intro e h hn H
  obtain ⟨op, s, m, x, b, c, g⟩ := e
  simp only [Sm.size] at h
  have hx := Ex.sizes_ge x
  have hb := Sm.sizes_ge b
  have hc := Sm.sizes_ge c
  have he := each_expr_eq x (by omega) (fun e he K => clonedExpr_eq 20000 e (by have := Ex.sizes_mem he; omega) (by omega) K) []
  have he2 := each_stmt_eq b (by omega) (fun e he K => ih e (by have := Sm.sizes_mem he; omega) (by omega) K) []
  have he3 := each_stmt_eq c (by omega) (fun e he K => ih e (by have := Sm.sizes_mem he; omega) (by omega) K) []
  rw [eval_M rfl rfl t_tree_cloned rfl]
  simp [c_tree_cloned, Sm.cells, he, he2, he3, get0, get1, set0, set1]
mutual
def Ex.txt : Ex → Prop
 | .mk _ _ s x => s.length ≤ 300 ∧ Ex.txts x
def Ex.txts : List Ex → Prop
 | [] => True
 | e :: l => e.txt ∧ Ex.txts l
end
mutual
def Sm.txt : Sm → Prop
 | .mk _ s _ e b c _ => s.length ≤ 300 ∧ Ex.txts e ∧ Sm.txts b ∧ Sm.txts c
def Sm.txts : List Sm → Prop
 | [] => True
 | e :: l => e.txt ∧ Sm.txts l
end
theorem Ex.sizes_append (a b : List Ex) : Ex.sizes (a ++ b) = Ex.sizes a + Ex.sizes b := by
 induction a with
 | nil => simp [Ex.sizes]
 | cons e l ih => simp only [List.cons_append, Ex.sizes, ih]; omega
theorem Ex.txts_append {a b : List Ex} : Ex.txts (a ++ b) ↔ Ex.txts a ∧ Ex.txts b := by
 induction a with
 | nil => simp [Ex.txts]
 | cons e l ih => simp only [List.cons_append, Ex.txts, ih, and_assoc]
theorem Sm.txts_append {a b : List Sm} : Sm.txts (a ++ b) ↔ Sm.txts a ∧ Sm.txts b := by
 induction a with
 | nil => simp [Sm.txts]
 | cons e l ih => simp only [List.cons_append, Sm.txts, ih, and_assoc]
theorem take_next {α : Type} {l : List α} {i : Nat} {e : α} (h : l[i]? = some e) : l.take (i + 1) = l.take i ++ [e] := by
 rw [List.take_add_one, h]; rfl
def Pg.bodies (p : Pg) : List (List Sm) := p.procs.map (·.2)
def Pg.exprs (p : Pg) : List Ex := p.oracles.map (·.2)
theorem Pg.size_eq (p : Pg) : p.size = p.procs.length + p.oracles.length + Sm.sizes p.bodies.flatten + Sm.sizes p.main + Sm.sizes p.recover + Ex.sizes p.exprs := by
 have h : ∀ l : List (List UInt8 × List Sm), Sm.sizes (l.map (·.2)).flatten + l.length = (l.map fun x => 1 + Sm.sizes x.2).sum := by
  intro l
  induction l with
  | nil => rfl
  | cons x l ih => simp only [List.map_cons, List.flatten_cons, Go.AM.Spec.sizes_append, List.length_cons, List.sum_cons]; omega
 have h2 : ∀ l : List (List UInt8 × Ex), Ex.sizes (l.map (·.2)) + l.length = (l.map fun x => 1 + x.2.size).sum := by
  intro l
  induction l with
  | nil => rfl
  | cons x l ih => simp only [List.map_cons, Ex.sizes, List.length_cons, List.sum_cons]; omega
 have := h p.procs
 have := h2 p.oracles
 simp only [Pg.size, Pg.psize, Pg.osize, Pg.bodies, Pg.exprs]
 omega
def Pg.txt (p : Pg) : Prop := (∀ x ∈ p.procs, x.1.length ≤ 300 ∧ Sm.txts x.2) ∧ Sm.txts p.main ∧ Sm.txts p.recover ∧ (∀ x ∈ p.oracles, x.1.length ≤ 300 ∧ x.2.txt)
theorem Pg.orow {p : Pg} {i : Nat} {e : List UInt8 × Ex} (he : p.oracles[i]? = some e) : p.ocells[i]? = some (.str e.1 :: e.2.cells) := by rw [Pg.ocells, List.getElem?_map, he]; rfl
def keyText : List UInt8 := [32, 112, 114, 111, 99, 32, 109, 97, 105, 110, 32, 114, 101, 99, 111, 118, 101, 114, 32, 111, 114, 97, 99, 108, 101, 32, 99, 114, 101, 97, 116, 101, 32, 109, 107, 100, 105, 114, 32, 119, 114, 105, 116, 101, 32, 97, 112, 112, 101, 110, 100, 32, 116, 114, 117, 110, 99, 97, 116, 101, 32, 114, 101, 110, 97, 109, 101, 32, 117, 110, 108, 105, 110, 107, 32, 102, 115, 121, 110, 99, 32, 102, 100, 97, 116, 97, 115, 121, 110, 99, 32, 115, 121, 110, 99, 100, 105, 114, 32, 98, 97, 114, 114, 105, 101, 114, 32, 108, 101, 116, 32, 105, 102, 32, 101, 108, 115, 101, 32, 114, 101, 112, 101, 97, 116, 32, 99, 97, 108, 108, 32, 116, 120, 110, 32, 99, 111, 109, 109, 105, 116, 32, 114, 101, 112, 108, 97, 121, 32, 97, 115, 115, 101, 114, 116, 32, 101, 120, 105, 115, 116, 115, 32, 115, 105, 122, 101, 32, 114, 101, 97, 100, 32, 110, 111, 116, 32, 97, 110, 100, 32, 111, 114, 32, 116, 114, 117, 101, 32, 102, 97, 108, 115, 101, 32]
def splitWords : List UInt8 → List UInt8 → List (List UInt8)
 | [], w => [w]
 | c :: l, w => if c = 32 then w :: splitWords l [] else splitWords l (w ++ [c])
def keyWords : List (List UInt8) := (splitWords keyText []).filter (· ≠ [])
def isKey (s : List UInt8) : Bool := keyWords.contains s
def isName (s : List UInt8) : Bool := (match s with | c :: _ => isLetter c | [] => false) && decide (s.length ≤ 8) && s.all isInner && !isKey s
theorem takeWhile_blank {s r : List UInt8} (h : 32 ∉ s) : (s ++ 32 :: r).takeWhile (· ≠ 32) = s := by
 induction s with
 | nil => simp
 | cons c l ih =>
  have hc : c ≠ 32 := fun e => h (by simp [e])
  have hl : 32 ∉ l := fun e => h (by simp [e])
  have := ih hl
  simp only [ne_eq, decide_not] at this
  simp [hc, this]
theorem key_words {s : List UInt8} (h0 : s ≠ []) (h : 32 ∉ s) : Go.Lib.contains keyText (32 :: (s ++ [32])) = isKey s := by
 have hmem : ∀ i : Nat, i < 200 → (keyText.drop i).head? = some 32 → (keyText.drop (i + 1)).takeWhile (· ≠ 32) = [] ∨ isKey ((keyText.drop (i + 1)).takeWhile (· ≠ 32)) = true := by decide +kernel
 have hall : ∀ w ∈ keyWords, Go.Lib.contains keyText (32 :: (w ++ [32])) = true := by decide +kernel
 cases hk : isKey s with
 | true => exact hall s (by simpa [isKey] using hk)
 | false =>
  rcases Go.Lib.index_spec keyText (32 :: (s ++ [32])) with ⟨h1, _⟩ | ⟨i, h1, h2, h3, _⟩
  ·simp [Go.Lib.contains, h1]
  ·exfalso
   have hlen : keyText.length < 200 := by decide +kernel
   unfold Go.Lib.occAt at h3
   rw [List.isPrefixOf_iff_prefix] at h3
   obtain ⟨r, hr⟩ := h3
   have e1 : keyText.drop (i + 1) = s ++ 32 :: r := by
    have : keyText.drop (i + 1) = (keyText.drop i).drop 1 := by rw [List.drop_drop]
    rw [this, ← hr]; simp
   have e2 : (keyText.drop i).head? = some 32 := by rw [← hr]; rfl
   have := hmem i (by omega) e2
   rw [e1, takeWhile_blank h, hk] at this
   rcases this with h | h
   ·exact h0 h
   ·cases h
theorem has_blank (s : List UInt8) : decide (0 ≤ Go.Lib.indexByte s 32) = s.contains 32 := by
 rw [← Go.Lib.index_one]
 rcases Go.Lib.index_spec s [32] with ⟨h1, h2⟩ | ⟨i, h1, h2, h3, _⟩
 ·rw [h1]
  have : ¬ 32 ∈ s := by
   intro hm
   obtain ⟨i, hi⟩ := List.getElem?_of_mem hm
   have hlt := (List.getElem?_eq_some_iff.1 hi).1
   have := h2 i (by omega)
   unfold Go.Lib.occAt at this
   rw [List.drop_eq_getElem_cons hlt] at this
   rw [List.getElem?_eq_getElem hlt] at hi
   simp [List.isPrefixOf, Option.some.inj hi] at this
  simp [this]
 ·rw [h1]
  have : 32 ∈ s := by
   unfold Go.Lib.occAt at h3
   rw [List.isPrefixOf_iff_prefix] at h3
   obtain ⟨r, hr⟩ := h3
   have : 32 ∈ s.drop i := by rw [← hr]; simp
   exact List.mem_of_mem_drop this
  simp [this]
theorem key_blank {s : List UInt8} (h : 32 ∈ s) : isKey s = false := by
 have hall : ∀ w ∈ keyWords, ¬ (32 : UInt8) ∈ w := by decide +kernel
 cases hk : isKey s with
 | false => rfl
 | true => exact absurd h (hall s (by simpa [isKey] using hk))
theorem xContains_more (s t : List UInt8) (hs : s.length < 4294967281) (ht : 2 ≤ t.length) (H : Heap) : xContains [.str s, .str t] H = some (.bool (Go.Lib.contains s t), H) := by
 match t, ht with
 | a :: b :: l, _ => simp [xContains, hs]
theorem Key_eq (s : List UInt8) (hs : s.length ≤ 1000000) (H : Heap) : eval tbl noExt n_lex_Key [.str s] H = some (.bool (isKey s), H) := by
 have hc1 : ∀ K, eval tbl noExt n_strings_Contains [.str s, .str [32]] K = some (.bool (s.contains 32), K) := by
  intro K
  rw [eval_X rfl rfl]
  simp only [xContains, has_blank]
 have hc2 : ∀ K, eval tbl noExt n_strings_Contains [.str keyText, .str (32 :: (s ++ [32]))] K = some (.bool (Go.Lib.contains keyText (32 :: (s ++ [32]))), K) := by
  intro K
  rw [eval_X rfl rfl]
  exact xContains_more _ _ (by decide +kernel) (by simp) _
 rw [eval_M rfl rfl t_lex_Key rfl]
 by_cases h0 : s = []
 ·subst h0
  have : isKey [] = false := by decide +kernel
  simp [c_lex_Key, this]
 by_cases hb : 32 ∈ s
 ·simp [c_lex_Key, h0, hc1, hb, key_blank hb]
 ·rw [key_words h0 hb] at hc2
  simp only [keyText] at hc2
  have hl1 : 1 + s.length < 4611686018427387904 := by omega
  have hl2 : 1 + s.length + 1 < 4611686018427387904 := by omega
  have hl3 : s.length + 1 + 1 < 4611686018427387904 := by omega
  simp [hl1, hl2, hl3, c_lex_Key, h0, hc1, hc2, hb]
theorem le_u8 (a c : UInt8) : decide ((a.toNat : Int) ≤ (c.toNat : Int)) = decide (a ≤ c) := by
 simp [UInt8.le_iff_toNat_le]
theorem letter_eq (c : UInt8) (H : Heap) : eval tbl noExt n_lex_letter [.int .i32 c.toNat] H = some (.bool (isLetter c), H) := by
 have h1 := le_u8 97 c
 have h2 := le_u8 c 122
 simp only [UInt8.reduceToNat] at h1 h2
 rw [eval_M rfl rfl t_lex_letter rfl]
 unfold isLetter
 rw [← h1, ← h2]
 by_cases h : (97 : Int) ≤ c.toNat
 ·simp [c_lex_letter, h]
 ·simp [c_lex_letter, h]
theorem w32 (c : UInt8) : IntKind.i32.wrap (c.toNat : Int) = c.toNat := by
 have := c.toNat_lt
 rw [IntKind.wrap_i32]; omega
theorem begins_eq (s : List UInt8) (H : Heap) : eval tbl noExt n_lex_begins [.str s, .fn (.func n_lex_letter) [] []] H = some (.bool (match s with | c :: _ => isLetter c | [] => false), H) := by
 rw [eval_M rfl rfl t_lex_begins rfl]
 cases s with
 | nil => simp [c_lex_begins]
 | cons c l => simp [c_lex_begins, w32, letter_eq]
theorem takeWhile_all (p : UInt8 → Bool) (s : List UInt8) : decide (s.takeWhile p = s) = s.all p := by
 induction s with
 | nil => rfl
 | cons c l ih =>
  cases hp : p c with
  | true => simp [hp, ← ih]
  | false => simp [hp]
theorem run_inner (s : List UInt8) (H : Heap) : eval tbl noExt n_lex_run [.str s, .fn (.func n_lex_inner) [] []] H = some (.str (s.takeWhile isInner), H) := by
 rw [eval_X rfl rfl]
 simp [xRun]
theorem Name_eq (s : List UInt8) (hs : s.length ≤ 1000000) (H : Heap) : eval tbl noExt n_lex_Name [.str s] H = some (.bool (isName s), H) := by
 have hb := begins_eq s
 have hr := run_inner s
 have ht := takeWhile_all isInner s
 rw [eval_M rfl rfl t_lex_Name rfl]
 unfold isName
 rw [← ht]
 generalize (match s with | c :: _ => isLetter c | [] => false) = b at hb ⊢
 cases b with
 | false => simp [c_lex_Name, hb]
 | true =>
  by_cases h8 : s.length ≤ 8
  ·have h8' : (s.length : Int) ≤ 8 := by omega
   by_cases hw : s.takeWhile isInner = s
   ·simp only [hw] at hr
    simp [c_lex_Name, hb, h8, h8', hr, hw, Key_eq s hs]
   ·simp [c_lex_Name, hb, h8, h8', hr, hw]
  ·have h8' : ¬ (s.length : Int) ≤ 8 := by omega
   simp [c_lex_Name, hb, h8, h8']
end Go.AM.Spec
