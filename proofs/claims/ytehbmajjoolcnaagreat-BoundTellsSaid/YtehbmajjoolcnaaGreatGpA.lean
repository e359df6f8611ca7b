/-
  The parts of this proof that speak of the functions one by one.
-/
import Derived.Test.YtehbmajjoolcnaaGreatSpc
import Derived.Lib.IndexLaws
namespace Go.AM.Spec
set_option linter.unusedVariables false
set_option linter.unusedSimpArgs false
set_option maxHeartbeats 1000000
inductive Ex where
  | mk (op n : Int) (s : List UInt8) (x : List Ex)
inductive Sm where
  | mk (op : Int) (s : List UInt8) (n : Int) (e : List Ex) (body els : List Sm) (commit : Bool)
mutual
def Ex.cells : Ex → List V
  | .mk op n s x => [.int .i64 op, .int .i64 n, .str s, .sl 4 (Ex.rows x)]
def Ex.rows : List Ex → List (List V)
  | [] => []
  | e :: l => e.cells :: Ex.rows l
end
mutual
def Sm.cells : Sm → List V
  | .mk op s n e b c k => [.int .i64 op, .str s, .int .i64 n, .sl 4 (Ex.rows e), .sl 7 (Sm.rows b), .sl 7 (Sm.rows c), .bool k]
def Sm.rows : List Sm → List (List V)
  | [] => []
  | e :: l => e.cells :: Sm.rows l
end
theorem Ex.rows_eq (l : List Ex) : Ex.rows l = l.map Ex.cells := by induction l with
  | nil => rfl
  | cons e l ih => simp [Ex.rows, ih]
theorem Sm.rows_eq (l : List Sm) : Sm.rows l = l.map Sm.cells := by induction l with
  | nil => rfl
  | cons e l ih => simp [Sm.rows, ih]
mutual
def Ex.size : Ex → Nat
  | .mk _ _ _ x => 1 + Ex.sizes x
def Ex.sizes : List Ex → Nat
  | [] => 0
  | e :: l => e.size + Ex.sizes l
end
mutual
def Sm.size : Sm → Nat
  | .mk _ _ _ e b c _ => 1 + Ex.sizes e + Sm.sizes b + Sm.sizes c
def Sm.sizes : List Sm → Nat
  | [] => 0
  | e :: l => e.size + Sm.sizes l
end
theorem Ex.sizes_ge : ∀ l : List Ex, l.length ≤ Ex.sizes l
  | [] => Nat.le_refl _
  | e :: l => by
    have := Ex.sizes_ge l
    cases e
    simp only [Ex.sizes, Ex.size, List.length_cons]; omega
theorem Sm.sizes_ge : ∀ l : List Sm, l.length ≤ Sm.sizes l
  | [] => Nat.le_refl _
  | e :: l => by
    have := Sm.sizes_ge l
    cases e
    simp only [Sm.sizes, Sm.size, List.length_cons]; omega
theorem Ex.sizes_mem : ∀ {l : List Ex} {e : Ex}, e ∈ l → e.size ≤ Ex.sizes l
  | [], _, h => by simp at h
  | x :: l, e, h => by
    simp only [Ex.sizes]
    rcases List.mem_cons.1 h with rfl | h
    · omega
    · have := Ex.sizes_mem h; omega
theorem Sm.sizes_mem : ∀ {l : List Sm} {e : Sm}, e ∈ l → e.size ≤ Sm.sizes l
  | [], _, h => by simp at h
  | x :: l, e, h => by
    simp only [Sm.sizes]
    rcases List.mem_cons.1 h with rfl | h
    · omega
    · have := Sm.sizes_mem h; omega
end Go.AM.Spec
namespace Go.AM.Spec
set_option linter.unusedVariables false
set_option linter.unusedSimpArgs false
set_option maxHeartbeats 1000000
mutual
def Sm.flat : Sm → List Sm
  | .mk op s n e b c k => .mk op s n e b c k :: (Sm.flats b ++ Sm.flats c)
def Sm.flats : List Sm → List Sm
  | [] => []
  | e :: l => e.flat ++ Sm.flats l
end
theorem Sm.flats_append (a b : List Sm) : Sm.flats (a ++ b) = Sm.flats a ++ Sm.flats b := by
  induction a with
  | nil => rfl
  | cons e l ih => simp [Sm.flats, ih]
mutual
theorem Sm.flat_size : ∀ e : Sm, e.flat.length ≤ e.size
  | .mk op s n e b c k => by
    have := Sm.flats_sizes b
    have := Sm.flats_sizes c
    simp only [Sm.flat, Sm.size, List.length_cons, List.length_append]; omega
theorem Sm.flats_sizes : ∀ l : List Sm, (Sm.flats l).length ≤ Sm.sizes l
  | [] => Nat.le_refl _
  | e :: l => by
    have := Sm.flat_size e
    have := Sm.flats_sizes l
    simp only [Sm.flats, Sm.sizes, List.length_append]; omega
end
theorem at_hp {hp : Heap} {m : Nat} (h : hp.length = m) (L : Heap) (k : Nat) : (hp ++ L)[m + k]? = L[k]? := by
  rw [List.getElem?_append_right (by omega)]; congr 1; omega
theorem set_hp {hp : Heap} {m : Nat} (h : hp.length = m) (L : Heap) (k : Nat) (v : Option (List V)) : (hp ++ L).set (m + k) v = hp ++ L.set k v := by
  rw [List.set_append_right _ _ (by omega)]; congr 2; omega
theorem take_hp {hp : Heap} {m : Nat} (h : hp.length = m) (L : Heap) (k : Nat) : (hp ++ L).take (m + k) = hp ++ L.take k := by
  rw [List.take_append, List.take_of_length_le (by omega)]; congr 2; omega
def Sm.blocks : Sm → List (List Sm)
  | .mk _ _ _ _ b c _ => [b, c]
structure Pg where
  procs : List (List UInt8 × List Sm)
  main : List Sm
  recover : List Sm
  oracles : List (List UInt8 × Ex)
def Pg.pcells (p : Pg) : List (List V) := p.procs.map fun x => [.str x.1, .sl 7 (Sm.rows x.2)]
def Pg.ocells (p : Pg) : List (List V) := p.oracles.map fun x => .str x.1 :: x.2.cells
def Pg.cells (p : Pg) : List V := [.sl 2 p.pcells, .sl 7 (Sm.rows p.main), .sl 7 (Sm.rows p.recover), .sl 5 p.ocells]
def Pg.psize (p : Pg) : Nat := (p.procs.map fun x => 1 + Sm.sizes x.2).sum
def Pg.osize (p : Pg) : Nat := (p.oracles.map fun x => 1 + x.2.size).sum
def Pg.size (p : Pg) : Nat := p.psize + Sm.sizes p.main + Sm.sizes p.recover + p.osize
def Pg.parts (p : Pg) : List (List Sm) := p.procs.map (·.2) ++ [p.main, p.recover]
def brow (b : List Sm) : List V := [.sl 7 (Sm.rows b)]
def Pg.flats (p : Pg) : List Sm := Sm.flats p.parts.flatten
theorem sizes_append (a b : List Sm) : Sm.sizes (a ++ b) = Sm.sizes a + Sm.sizes b := by
  induction a with
  | nil => simp [Sm.sizes]
  | cons e l ih => simp only [List.cons_append, Sm.sizes, ih]; omega
theorem Pg.parts_size (p : Pg) : Sm.sizes p.parts.flatten + p.procs.length ≤ p.size := by
  have h : ∀ l : List (List UInt8 × List Sm), Sm.sizes (l.map (·.2)).flatten + l.length = (l.map fun x => 1 + Sm.sizes x.2).sum := by
    intro l
    induction l with
    | nil => rfl
    | cons x l ih => simp only [List.map_cons, List.flatten_cons, sizes_append, List.length_cons, List.sum_cons]; omega
  have := h p.procs
  simp only [Pg.parts, List.flatten_append, sizes_append, Pg.size, Pg.psize, List.flatten_cons, List.flatten_nil, List.append_nil]
  omega
theorem sizes_flatten {bs : List (List Sm)} {b : List Sm} (h : b ∈ bs) : Sm.sizes b ≤ Sm.sizes bs.flatten := by
  induction bs with
  | nil => simp at h
  | cons x l ih =>
    simp only [List.flatten_cons, sizes_append]
    rcases List.mem_cons.1 h with rfl | h
    · omega
    · have := ih h; omega
theorem Pg.prow {p : Pg} {i : Nat} {e : List UInt8 × List Sm} (he : p.procs[i]? = some e) : p.pcells[i]? = some [.str e.1, .sl 7 (Sm.rows e.2)] := by rw [Pg.pcells, List.getElem?_map, he]; rfl
theorem Pg.pcells_len (p : Pg) : p.pcells.length = p.procs.length := by simp [Pg.pcells]
theorem Pg.ocells_len (p : Pg) : p.ocells.length = p.oracles.length := by simp [Pg.ocells]
def Sm.op : Sm → Int
  | .mk op _ _ _ _ _ _ => op
mutual
def Ex.same : Ex → Ex → Bool
  | .mk op n s x, .mk op' n' s' x' => op == op' && n == n' && s == s' && Ex.sames x x'
def Ex.sames : List Ex → List Ex → Bool
  | [], [] => true
  | a :: l, b :: m => a.same b && Ex.sames l m
  | _, _ => false
end
mutual
def Sm.same : Sm → Sm → Bool
  | .mk op s n e b c k, .mk op' s' n' e' b' c' k' => op == op' && s == s' && n == n' && k == k' && Ex.sames e e' && Sm.sames b b' && Sm.sames c c'
def Sm.sames : List Sm → List Sm → Bool
  | [], [] => true
  | a :: l, b :: m => a.same b && Sm.sames l m
  | _, _ => false
end
theorem Ex.rows_len (l : List Ex) : (Ex.rows l).length = l.length := by simp [Ex.rows_eq]
theorem Sm.rows_len (l : List Sm) : (Sm.rows l).length = l.length := by simp [Sm.rows_eq]
theorem Ex.rows_at {l : List Ex} {i : Nat} {e : Ex} (h : l[i]? = some e) : (Ex.rows l)[i]? = some e.cells := by rw [Ex.rows_eq, List.getElem?_map, h]; rfl
theorem Sm.rows_at {l : List Sm} {i : Nat} {e : Sm} (h : l[i]? = some e) : (Sm.rows l)[i]? = some e.cells := by rw [Sm.rows_eq, List.getElem?_map, h]; rfl
theorem Ex.cells_shape (e : Ex) : ∃ a b c d, e.cells = [.int .i64 a, .int .i64 b, .str c, .sl 4 d] := by cases e; exact ⟨_, _, _, _, rfl⟩
theorem Sm.cells_shape (e : Sm) : ∃ a b c d f g h, e.cells = [.int .i64 a, .str b, .int .i64 c, .sl 4 d, .sl 7 f, .sl 7 g, .bool h] := by cases e; exact ⟨_, _, _, _, _, _, _, rfl⟩
theorem at_some {α : Type} {l : List α} {i : Nat} (h : i < l.length) : ∃ e, l[i]? = some e ∧ e ∈ l ∧ l.drop i = e :: l.drop (i + 1) := by
  refine ⟨l[i], List.getElem?_eq_getElem h, List.getElem_mem h, ?_⟩
  rw [List.drop_eq_getElem_cons h]
end Go.AM.Spec
namespace Go.AM.Spec
set_option linter.unusedVariables false
set_option linter.unusedSimpArgs false
set_option maxHeartbeats 1000000
set_option maxRecDepth 10000
theorem each_expr_loop (call : CallF) (R : Option (V × Heap)) (n : Nat) (H : Heap) (l : List Ex) (hl : l.length ≤ 20000) (hf : ∀ e ∈ l, ∀ K, call n_tree_clonedExpr [.agg e.cells] K = some (.agg e.cells, K)) (k : List Item)
    (hexit : ∀ φ' K, K.take n = H → n ≤ K.length → Fr.get φ' 5 = .own 4 (Ex.rows l) → M call k φ' K = R) :
    ∀ (j i : Nat) (φ : Fr) (K : Heap), i + j = l.length → K.take n = H → n ≤ K.length → Fr.get φ 1 = .fn (.func n_tree_clonedExpr) [] [] → Fr.get φ 5 = .own 4 (Ex.rows (l.take i)) → Fr.get φ 8 = .sl 4 (Ex.rows l) → Fr.get φ 9 = .int .i64 l.length → Fr.get φ 10 = .int .i64 i →
      M call (.code l_tree_each_api_Expr_0 :: .blk 0 :: k) φ K = R := by
  intro j
  induction j with
  | zero =>
    intro i φ K hj hK hn h1 h5 h8 h9 h10
    have hi : ¬ ((i : Int) < l.length) := by omega
    have h5' : Fr.get φ 5 = .own 4 (Ex.rows l) := by rw [h5, List.take_of_length_le (by omega)]
    rw [l_tree_each_api_Expr_0, M_loop, ← l_tree_each_api_Expr_0]
    simp [b_tree_each_api_Expr_0, h1, h5', h8, h9, h10, hi]
    exact hexit _ _ hK hn (by simp)
  | succ j ih =>
    intro i φ K hj hK hn h1 h5 h8 h9 h10
    have hi : (i : Int) < l.length := by omega
    have hil : i < l.length := by omega
    obtain ⟨e, he⟩ : ∃ e, l[i]? = some e := ⟨l[i], List.getElem?_eq_getElem hil⟩
    have hmem : e ∈ l := List.mem_of_getElem? he
    have hrow : (Ex.rows l)[i]? = some e.cells := by rw [Ex.rows_eq, List.getElem?_map, he]; rfl
    have hcl : (Ex.rows l).length = l.length := by rw [Ex.rows_eq]; simp
    have hck : (Ex.rows (l.take i)).length = i := by rw [Ex.rows_eq]; simp; omega
    have hnext : Ex.rows (l.take i) ++ [e.cells] = Ex.rows (l.take (i + 1)) := by
      rw [Ex.rows_eq, Ex.rows_eq, List.take_add_one, he]; simp
    have hw : IntKind.i64.wrap ((i : Int) + 1) = ((i + 1 : Nat) : Int) := by rw [w64 (by omega) (by omega)]; rfl
    have hb : 2 * (i + 1) * 56 ≤ 281474976710656 := by omega
    obtain ⟨op, m, s, x⟩ := e
    simp only [Ex.cells] at hrow hnext
    have hcall := hf _ hmem
    simp only [Ex.cells] at hcall
    rw [l_tree_each_api_Expr_0, M_loop, ← l_tree_each_api_Expr_0]
    simp [b_tree_each_api_Expr_0, h1, h5, h8, h9, h10, hi, hcl, hrow, hcall, hck, get0, set0, hnext, hw, hb]
    refine ih (i + 1) _ _ (by omega) (take_more hK hn _) (by simp; omega) ?_ ?_ ?_ ?_ ?_ <;> simp
theorem each_expr_eq (l : List Ex) (hl : l.length ≤ 20000) (hf : ∀ e ∈ l, ∀ K, eval tbl noExt n_tree_clonedExpr [.agg e.cells] K = some (.agg e.cells, K)) (H : Heap) :
    eval tbl noExt n_tree_each_api_Expr [.sl 4 (Ex.rows l), .fn (.func n_tree_clonedExpr) [] []] H = some (.own 4 (Ex.rows l), H) := by
  have hcl : (Ex.rows l).length = l.length := by rw [Ex.rows_eq]; simp
  rw [eval_M rfl rfl t_tree_each_api_Expr rfl]
  simp [c_tree_each_api_Expr, hcl]
  refine each_expr_loop _ _ H.length H l hl hf _ (fun φ' K hK hn h5 => by simp [r_tree_each_api_Expr_0, h5, hK]) l.length 0 _ H (by omega) (by simp) (Nat.le_refl _) ?_ ?_ ?_ ?_ ?_ <;> simp [Ex.rows]
theorem clonedExpr_eq : ∀ (n : Nat) (e : Ex), e.size ≤ n → n ≤ 20000 → ∀ H, eval tbl noExt n_tree_clonedExpr [.agg e.cells] H = some (.agg e.cells, H) := by
  intro n
  induction n with
  | zero =>
    intro e h
    cases e
    simp only [Ex.size] at h; omega
  | succ n ih =>
    intro e h hn H
    obtain ⟨op, m, s, x⟩ := e
    simp only [Ex.size] at h
    have hx := Ex.sizes_ge x
    have he := each_expr_eq x (by omega) (fun e he K => ih e (by have := Ex.sizes_mem he; omega) (by omega) K) []
    rw [eval_M rfl rfl t_tree_clonedExpr rfl]
    simp [c_tree_clonedExpr, Ex.cells, he, get0, get1, set0, set1]
theorem each_stmt_loop (call : CallF) (R : Option (V × Heap)) (n : Nat) (H : Heap) (l : List Sm) (hl : l.length ≤ 20000) (hf : ∀ e ∈ l, ∀ K, call n_tree_cloned [.agg e.cells] K = some (.agg e.cells, K)) (k : List Item)
    (hexit : ∀ φ' K, K.take n = H → n ≤ K.length → Fr.get φ' 5 = .own 7 (Sm.rows l) → M call k φ' K = R) :
    ∀ (j i : Nat) (φ : Fr) (K : Heap), i + j = l.length → K.take n = H → n ≤ K.length → Fr.get φ 1 = .fn (.func n_tree_cloned) [] [] → Fr.get φ 5 = .own 7 (Sm.rows (l.take i)) → Fr.get φ 8 = .sl 7 (Sm.rows l) → Fr.get φ 9 = .int .i64 l.length → Fr.get φ 10 = .int .i64 i →
      M call (.code l_tree_each_api_Stmt_0 :: .blk 0 :: k) φ K = R := by
  intro j
  induction j with
  | zero =>
    intro i φ K hj hK hn h1 h5 h8 h9 h10
    have hi : ¬ ((i : Int) < l.length) := by omega
    have h5' : Fr.get φ 5 = .own 7 (Sm.rows l) := by rw [h5, List.take_of_length_le (by omega)]
    rw [l_tree_each_api_Stmt_0, M_loop, ← l_tree_each_api_Stmt_0]
    simp [b_tree_each_api_Stmt_0, h1, h5', h8, h9, h10, hi]
    exact hexit _ _ hK hn (by simp)
  | succ j ih =>
    intro i φ K hj hK hn h1 h5 h8 h9 h10
    have hi : (i : Int) < l.length := by omega
    have hil : i < l.length := by omega
    obtain ⟨e, he⟩ : ∃ e, l[i]? = some e := ⟨l[i], List.getElem?_eq_getElem hil⟩
    have hmem : e ∈ l := List.mem_of_getElem? he
    have hrow : (Sm.rows l)[i]? = some e.cells := by rw [Sm.rows_eq, List.getElem?_map, he]; rfl
    have hcl : (Sm.rows l).length = l.length := by rw [Sm.rows_eq]; simp
    have hck : (Sm.rows (l.take i)).length = i := by rw [Sm.rows_eq]; simp; omega
    have hnext : Sm.rows (l.take i) ++ [e.cells] = Sm.rows (l.take (i + 1)) := by
      rw [Sm.rows_eq, Sm.rows_eq, List.take_add_one, he]; simp
    have hw : IntKind.i64.wrap ((i : Int) + 1) = ((i + 1 : Nat) : Int) := by rw [w64 (by omega) (by omega)]; rfl
    have hb : 2 * (i + 1) * 112 ≤ 281474976710656 := by omega
    obtain ⟨op, s, m, x, b, c, g⟩ := e
    simp only [Sm.cells] at hrow hnext
    have hcall := hf _ hmem
    simp only [Sm.cells] at hcall
    rw [l_tree_each_api_Stmt_0, M_loop, ← l_tree_each_api_Stmt_0]
    simp [b_tree_each_api_Stmt_0, h1, h5, h8, h9, h10, hi, hcl, hrow, hcall, hck, get0, set0, hnext, hw, hb]
    refine ih (i + 1) _ _ (by omega) (take_more hK hn _) (by simp; omega) ?_ ?_ ?_ ?_ ?_ <;> simp
theorem each_stmt_eq (l : List Sm) (hl : l.length ≤ 20000) (hf : ∀ e ∈ l, ∀ K, eval tbl noExt n_tree_cloned [.agg e.cells] K = some (.agg e.cells, K)) (H : Heap) :
    eval tbl noExt n_tree_each_api_Stmt [.sl 7 (Sm.rows l), .fn (.func n_tree_cloned) [] []] H = some (.own 7 (Sm.rows l), H) := by
  have hcl : (Sm.rows l).length = l.length := by rw [Sm.rows_eq]; simp
  rw [eval_M rfl rfl t_tree_each_api_Stmt rfl]
  simp [c_tree_each_api_Stmt, hcl]
  refine each_stmt_loop _ _ H.length H l hl hf _ (fun φ' K hK hn h5 => by simp [r_tree_each_api_Stmt_0, h5, hK]) l.length 0 _ H (by omega) (by simp) (Nat.le_refl _) ?_ ?_ ?_ ?_ ?_ <;> simp [Sm.rows]
theorem cloned_eq : ∀ (n : Nat) (e : Sm), e.size ≤ n → n ≤ 20000 → ∀ H, eval tbl noExt n_tree_cloned [.agg e.cells] H = some (.agg e.cells, H) := by
  intro n
  induction n with
  | zero =>
    intro e h
    cases e
    simp only [Sm.size] at h; omega
  | succ n ih =>
    intro e h hn H
    obtain ⟨op, s, m, x, b, c, g⟩ := e
    simp only [Sm.size] at h
    have hx := Ex.sizes_ge x
    have hb := Sm.sizes_ge b
    have hc := Sm.sizes_ge c
    have he := each_expr_eq x (by omega) (fun e he K => clonedExpr_eq 20000 e (by have := Ex.sizes_mem he; omega) (by omega) K) []
    have he2 := each_stmt_eq b (by omega) (fun e he K => ih e (by have := Sm.sizes_mem he; omega) (by omega) K) []
    have he3 := each_stmt_eq c (by omega) (fun e he K => ih e (by have := Sm.sizes_mem he; omega) (by omega) K) []
    rw [eval_M rfl rfl t_tree_cloned rfl]
    simp [c_tree_cloned, Sm.cells, he, he2, he3, get0, get1, set0, set1]
end Go.AM.Spec
namespace Go.AM.Spec
set_option linter.unusedVariables false
set_option linter.unusedSimpArgs false
set_option maxHeartbeats 1000000
set_option maxRecDepth 10000
def YS (i : Nat) (hp : List Sm → Heap) (N : Nat) : Prop :=
  ∀ (x : List Sm) (s : Sm) (L : Heap), s.size ≤ 20000 → x.length < N → eval tbl noExt (yNo i) [.agg s.cells] (hp x ++ L) = some (.bool true, hp (x ++ [s]) ++ L)
theorem walk_eq (l : List (List V)) (H : Heap) : eval tbl noExt n_tree_walk [.sl 7 l] H = some (.fn (.func n_tree_walk_1) [] [.ptr H.length 0], H ++ [some [V.sl 7 l]]) := by
  rw [eval_M rfl rfl t_tree_walk rfl]
  simp [c_tree_walk]
theorem inner_round {i m N j p : Nat} {hp : List Sm → Heap} (hlen : ∀ x, (hp x).length = m) (hy : YS i hp N) (A : Heap) (hj : j = m + A.length)
    (hp2 : ∀ x L, ((hp x ++ A) ++ L)[p]? = some (some [.yld i])) :
    YS j (fun x => hp x ++ (A ++ [some [V.lrec 0 0 q_tree_walk_1_0 [30] [2] [V.ptr p 0]]])) N := by
  intro x s L hs hx
  have hrec : ∀ (x : List Sm) (r : List V) (L : Heap), (hp x ++ (A ++ some r :: L))[j]? = some (some r) := by
    intro x r L
    rw [hj, at_hp (hlen x)]; simp
  have hset : ∀ (x : List Sm) (r r' : List V) (L : Heap), (hp x ++ (A ++ some r :: L)).set j (some r') = hp x ++ (A ++ some r' :: L) := by
    intro x r r' L
    rw [hj, set_hp (hlen x)]; simp
  have hp3 : ∀ x L, (hp x ++ (A ++ L))[p]? = some (some [.yld i]) := fun x L => by rw [← List.append_assoc]; exact hp2 x L
  have h1 : recAt (hp x ++ (A ++ some [V.lrec 0 0 q_tree_walk_1_0 [30] [2] [V.ptr p 0]] :: L)) j = some (0, 0, q_tree_walk_1_0, [30], [2], [.ptr p 0]) := by
    unfold recAt; rw [hrec]
  obtain ⟨op, w, n, e, b, c, g⟩ := s
  have e1 : hp x ++ (A ++ [some [V.lrec 0 0 q_tree_walk_1_0 [30] [2] [V.ptr p 0]]]) ++ L = hp x ++ (A ++ some [V.lrec 0 0 q_tree_walk_1_0 [30] [2] [V.ptr p 0]] :: L) := by simp
  show eval tbl noExt (yNo j) _ (hp x ++ (A ++ [some [V.lrec 0 0 q_tree_walk_1_0 [30] [2] [V.ptr p 0]]]) ++ L) = some (_, hp (x ++ [_]) ++ (A ++ [some [V.lrec 0 0 q_tree_walk_1_0 [30] [2] [V.ptr p 0]]]) ++ L)
  rw [e1, eval_Y h1 u_tree_walk_1_0 rfl]
  have hlenx : ∀ x, (hp x).length = m := hlen
  have hy' := hy x (.mk op w n e b c g)
  simp only [Sm.cells] at hy' ⊢
  have hlast : ∀ (x : List Sm) (r z : List V) (L : Heap), (hp x ++ (A ++ some r :: (L ++ [some z])))[m + (A.length + (L.length + 1))]? = some (some z) := by
    intro x r z L
    rw [at_hp (hlen x)]
    rw [List.getElem?_append_right (by omega)]
    simp [Nat.add_sub_cancel_left]
  have hsetl : ∀ (x : List Sm) (r z z' : List V) (L : Heap), (hp x ++ (A ++ some r :: (L ++ [some z]))).set (m + (A.length + (L.length + 1))) (some z') = hp x ++ (A ++ some r :: (L ++ [some z'])) := by
    intro x r z z' L
    rw [set_hp (hlen x), List.set_append_right _ _ (by omega)]
    simp [Nat.add_sub_cancel_left]
  have htake : ∀ (x : List Sm) (r z : List V) (L : Heap), (hp x ++ (A ++ some r :: (L ++ [some z]))).take (m + (A.length + (L.length + 1))) = hp x ++ (A ++ some r :: L) := by
    intro x r z L
    rw [take_hp (hlen x), List.take_append, List.take_of_length_le (by omega)]
    simp [Nat.add_sub_cancel_left]
  simp [a_tree_walk_1_0, y_tree_walk_1_0, hlenx, hlast, hsetl, recAt, hrec, hset, hp3, hy' _ hs hx, endRound, pendOf, htake]
def WalkOK (l : List Sm) : Prop := ∀ (i m N p : Nat) (hp : List Sm → Heap) (L : Heap) (x : List Sm), (∀ x, (hp x).length = m) → YS i hp N → (∀ x, (hp x ++ L)[p]? = some (some [V.sl 7 (Sm.rows l)])) → x.length + (Sm.flats l).length ≤ N →
  eval tbl noExt n_tree_walk_1 [.yld i, .ptr p 0] (hp x ++ L) = some (.tup [], hp (x ++ Sm.flats l) ++ L)
theorem inner_loop {i m N q : Nat} {hp : List Sm → Heap} (hlen : ∀ x, (hp x).length = m) (hy : YS i hp N) (L0 : Heap) (hq : L0[q]? = some (some [.yld i])) (v8 v9 v10 : V) (bs : List (List Sm)) (hbs : ∀ b ∈ bs, WalkOK b) (hb2 : bs.length ≤ 2)
    (R : Option (V × Heap)) (k : List Item) :
    ∀ (j t : Nat) (x : List Sm) (φ : Fr) (T : Heap), t + j = bs.length → x.length + (Sm.flats (bs.drop t).flatten).length ≤ N → Fr.get φ 2 = .ptr (m + q) 0 → Fr.get φ 8 = v8 → Fr.get φ 9 = v9 → Fr.get φ 10 = v10 → Fr.get φ 22 = .own 1 (bs.map fun b => [.sl 7 (Sm.rows b)]) → Fr.get φ 23 = .int .i64 bs.length → Fr.get φ 24 = .int .i64 t →
      (∀ φ' T', Fr.get φ' 2 = .ptr (m + q) 0 → Fr.get φ' 8 = v8 → Fr.get φ' 9 = v9 → Fr.get φ' 10 = v10 → M (eval tbl noExt) k φ' (hp (x ++ Sm.flats (bs.drop t).flatten) ++ (L0 ++ T')) = R) →
      M (eval tbl noExt) (.code l_tree_walk_1_0 :: .blk 2 :: k) φ (hp x ++ (L0 ++ T)) = R := by
  intro j
  induction j with
  | zero =>
    intro t x φ T hj hN h2 h8 h9 h10 h22 h23 h24 hexit
    have hi : ¬ ((t : Int) < bs.length) := by omega
    rw [List.drop_of_length_le (by omega)] at hexit
    simp only [List.flatten_nil, Sm.flats, List.append_nil] at hexit
    rw [l_tree_walk_1_0, M_loop, ← l_tree_walk_1_0]
    simp [b_tree_walk_1_0, h2, h8, h9, h10, h22, h23, h24, hi]
    exact hexit _ T (by simp [h2]) (by simp [h8]) (by simp [h9]) (by simp [h10])
  | succ j ih =>
    intro t x φ T hj hN h2 h8 h9 h10 h22 h23 h24 hexit
    have hi : (t : Int) < bs.length := by omega
    have hil : t < bs.length := by omega
    obtain ⟨b, hb⟩ : ∃ b, bs[t]? = some b := ⟨bs[t], List.getElem?_eq_getElem hil⟩
    have hmem : b ∈ bs := List.mem_of_getElem? hb
    have hdrop : bs.drop t = b :: bs.drop (t + 1) := by
      rw [List.drop_eq_getElem_cons hil]
      rw [List.getElem?_eq_getElem hil] at hb
      rw [Option.some.inj hb]
    rw [hdrop] at hN hexit
    simp only [List.flatten_cons, Sm.flats_append, List.length_append, ← List.append_assoc] at hN hexit
    have hrow : (bs.map fun b => [V.sl 7 (Sm.rows b)])[t]? = some [V.sl 7 (Sm.rows b)] := by rw [List.getElem?_map, hb]; rfl
    have hw : IntKind.i64.wrap ((t : Int) + 1) = ((t + 1 : Nat) : Int) := by rw [w64 (by omega) (by omega)]; rfl
    have hbox : ∀ x L, (((hp x) ++ (L0 ++ T ++ [some [V.sl 7 (Sm.rows b)]])) ++ L)[m + q]? = some (some [.yld i]) := by
      intro x L
      have hq' : q < L0.length := by
        rw [List.getElem?_eq_some_iff] at hq; exact hq.1
      rw [List.append_assoc, at_hp (hlen x), List.append_assoc, List.append_assoc, List.getElem?_append_left hq', hq]
    have hys := inner_round (j := m + (L0.length + (T.length + 1))) hlen hy (L0 ++ T ++ [some [V.sl 7 (Sm.rows b)]]) (by simp only [List.length_append, List.length_cons, List.length_nil]; omega) hbox
    have hwk := hbs b hmem (m + (L0.length + (T.length + 1))) (m + (L0.length + (T.length + 1)) + 1) N (m + (L0.length + T.length)) (fun x => hp x ++ (L0 ++ T ++ [some [V.sl 7 (Sm.rows b)]] ++ [some [V.lrec 0 0 q_tree_walk_1_0 [30] [2] [V.ptr (m + q) 0]]])) [] x (by intro x; simp only [List.length_append, hlen, List.length_cons, List.length_nil]; omega) hys (by
      intro x
      rw [List.append_nil, at_hp (hlen x), List.append_assoc, ← List.length_append, List.getElem?_append_right (Nat.le_refl _), Nat.sub_self]
      rfl) (by omega)
    simp only [List.append_nil] at hwk
    have hread : recAt (hp (x ++ Sm.flats b) ++ (L0 ++ T ++ [some [V.sl 7 (Sm.rows b)]] ++ [some [V.lrec 0 0 q_tree_walk_1_0 [30] [2] [V.ptr (m + q) 0]]])) (m + (L0.length + (T.length + 1))) = some (0, 0, q_tree_walk_1_0, [30], [2], [.ptr (m + q) 0]) := by
      unfold recAt
      rw [at_hp (hlen _), List.getElem?_append_right (by simp)]
      simp
    have htake : (hp (x ++ Sm.flats b) ++ (L0 ++ T ++ [some [V.sl 7 (Sm.rows b)]] ++ [some [V.lrec 0 0 q_tree_walk_1_0 [30] [2] [V.ptr (m + q) 0]]])).take (m + (L0.length + (T.length + 1))) = hp (x ++ Sm.flats b) ++ (L0 ++ (T ++ [some [V.sl 7 (Sm.rows b)]])) := by
      rw [take_hp (hlen _), List.take_append_of_le_length (by simp only [List.length_append, List.length_cons, List.length_nil]; omega), List.take_of_length_le (by simp only [List.length_append, List.length_cons, List.length_nil]; omega)]
      simp
    have e1 : (L0 ++ T ++ [some [V.sl 7 (Sm.rows b)]] ++ [some [V.lrec 0 0 q_tree_walk_1_0 [30] [2] [V.ptr (m + q) 0]]] : Heap) = L0 ++ (T ++ [some [V.sl 7 (Sm.rows b)], some [V.lrec 0 0 q_tree_walk_1_0 [30] [2] [V.ptr (m + q) 0]]]) := by simp
    rw [e1] at hwk hread htake
    rw [l_tree_walk_1_0, M_loop, ← l_tree_walk_1_0]
    simp [b_tree_walk_1_0, h2, h8, h9, h10, h22, h23, h24, hi, hrow, walk_eq, hlen, hwk, hread, htake, r_tree_walk_1_0, hw]
    refine ih (t + 1) (x ++ Sm.flats b) _ (T ++ [some [V.sl 7 (Sm.rows b)]]) (by omega) (by simp; omega) ?_ ?_ ?_ ?_ ?_ ?_ ?_ ?_
    · simp [h2]
    · simp [h8]
    · simp [h9]
    · simp [h10]
    · simp [h22]
    · simp [h23]
    · simp
    · intro φ' T' g2 g8 g9 g10
      have := hexit φ' T' g2 g8 g9 g10
      simpa using this
theorem outer_loop {i m N q : Nat} {hp : List Sm → Heap} (hlen : ∀ x, (hp x).length = m) (hy : YS i hp N) (L0 : Heap) (hq : L0[q]? = some (some [V.yld i])) (l : List Sm) (hl : l.length ≤ 20000) (hbs : ∀ e ∈ l, e.size ≤ 20000 ∧ ∀ b ∈ e.blocks, WalkOK b)
    (R : Option (V × Heap)) (k : List Item) :
    ∀ (j t : Nat) (x : List Sm) (φ : Fr) (T : Heap), t + j = l.length → x.length + (Sm.flats (l.drop t)).length ≤ N → Fr.get φ 2 = .ptr (m + q) 0 → Fr.get φ 8 = .sl 7 (Sm.rows l) → Fr.get φ 9 = .int .i64 l.length → Fr.get φ 10 = .int .i64 t →
      (∀ φ' T', M (eval tbl noExt) k φ' (hp (x ++ Sm.flats (l.drop t)) ++ (L0 ++ T')) = R) →
      M (eval tbl noExt) (.code l_tree_walk_1_1 :: .blk 0 :: k) φ (hp x ++ (L0 ++ T)) = R := by
  intro j
  induction j with
  | zero =>
    intro t x φ T hj hN h2 h8 h9 h10 hexit
    have hi : ¬ ((t : Int) < l.length) := by omega
    rw [List.drop_of_length_le (by omega)] at hexit
    simp only [Sm.flats, List.append_nil] at hexit
    rw [l_tree_walk_1_1, M_loop, ← l_tree_walk_1_1]
    simp [b_tree_walk_1_1, h2, h8, h9, h10, hi]
    exact hexit _ T
  | succ j ih =>
    intro t x φ T hj hN h2 h8 h9 h10 hexit
    have hi : (t : Int) < l.length := by omega
    have hil : t < l.length := by omega
    obtain ⟨e, he⟩ : ∃ e, l[t]? = some e := ⟨l[t], List.getElem?_eq_getElem hil⟩
    have hmem : e ∈ l := List.mem_of_getElem? he
    obtain ⟨hsz, hwalk⟩ := hbs e hmem
    have hdrop : l.drop t = e :: l.drop (t + 1) := by
      rw [List.drop_eq_getElem_cons hil]
      rw [List.getElem?_eq_getElem hil] at he
      rw [Option.some.inj he]
    obtain ⟨op, w, n, ee, b, c, g⟩ := e
    rw [hdrop] at hN hexit
    simp only [Sm.flats, Sm.flat, List.length_append, List.length_cons] at hN hexit
    have hrow : (Sm.rows l)[t]? = some (Sm.cells (.mk op w n ee b c g)) := by rw [Sm.rows_eq, List.getElem?_map, he]; rfl
    have hcl : (Sm.rows l).length = l.length := by rw [Sm.rows_eq]; simp
    have hw : IntKind.i64.wrap ((t : Int) + 1) = ((t + 1 : Nat) : Int) := by rw [w64 (by omega) (by omega)]; rfl
    have hq' : q < L0.length := by
      rw [List.getElem?_eq_some_iff] at hq; exact hq.1
    have hyl : ∀ x L, (hp x ++ (L0 ++ L))[m + q]? = some (some [V.yld i]) := by
      intro x L
      rw [at_hp (hlen x), List.getElem?_append_left hq', hq]
    have hlast : ∀ (x : List Sm) (z : List V), (hp x ++ (L0 ++ (T ++ [some z])))[m + (L0.length + T.length)]? = some (some z) := by
      intro x z
      rw [at_hp (hlen x), ← List.append_assoc, ← List.length_append, List.getElem?_append_right (Nat.le_refl _), Nat.sub_self]
      rfl
    have hsetl : ∀ (x : List Sm) (z z' : List V), (hp x ++ (L0 ++ (T ++ [some z]))).set (m + (L0.length + T.length)) (some z') = hp x ++ (L0 ++ (T ++ [some z'])) := by
      intro x z z'
      rw [set_hp (hlen x), ← List.append_assoc, ← List.length_append, List.set_append_right _ _ (Nat.le_refl _), Nat.sub_self]
      simp
    have hy' := hy x (.mk op w n ee b c g)
    simp only [Sm.cells] at hy' hrow
    rw [l_tree_walk_1_1, M_loop, ← l_tree_walk_1_1]
    simp [b_tree_walk_1_1, h2, h8, h9, h10, hi, hrow, hcl, hlen, hlast, hsetl, hyl, hy' _ hsz (by omega)]
    refine inner_loop hlen hy L0 hq (.sl 7 (Sm.rows l)) (.int .i64 l.length) (.int .i64 t) [b, c] (fun z hz => hwalk z (by simpa [Sm.blocks] using hz)) (by simp) _ _ 2 0 _ _ _ (by simp) (by simp [Sm.flats_append]; omega) (by simp [h2]) (by simp [h8]) (by simp [h9]) (by simp [h10]) ?_ (by simp) (by simp) ?_
    · simp
    intro φ' T' g2 g8 g9 g10
    simp [r_tree_walk_1_1, g10, hw]
    refine ih (t + 1) _ _ T' (by omega) (by simp [Sm.flats_append]; omega) (by simp [g2]) (by simp [g8]) (by simp [g9]) (by simp) ?_
    intro φ'' T''
    have := hexit φ'' T''
    simpa [Sm.flats_append] using this
theorem walk_step (l : List Sm) (hl : l.length ≤ 20000) (hbs : ∀ e ∈ l, e.size ≤ 20000 ∧ ∀ b ∈ e.blocks, WalkOK b) : WalkOK l := by
  intro i m N p hp L x hlen hy hb hN
  have hb' : ∀ x K, (hp x ++ (L ++ K))[p]? = some (some [V.sl 7 (Sm.rows l)]) := by
    intro x K
    have h := hb x
    rw [← List.append_assoc, List.getElem?_append_left (List.getElem?_eq_some_iff.1 h).1, h]
  have hcl : (Sm.rows l).length = l.length := by rw [Sm.rows_eq]; simp
  rw [eval_M rfl rfl t_tree_walk_1 rfl]
  simp [c_tree_walk_1, hb', hlen, hcl]
  have e : hp x ++ (L ++ [some [V.yld i]]) = hp x ++ ((L ++ [some [V.yld i]]) ++ []) := by simp
  rw [e]
  refine outer_loop hlen hy (L ++ [some [V.yld i]]) (q := L.length) (by simp) l hl hbs _ _ l.length 0 x _ [] (by omega) (by simpa using hN) (by simp) (by simp) (by simp) (by simp) ?_
  intro φ' T'
  have ht : (hp (x ++ Sm.flats l) ++ (L ++ [some [V.yld i]] ++ T')).take (m + L.length) = hp (x ++ Sm.flats l) ++ L := by
    rw [take_hp (hlen _), List.append_assoc, List.take_left]
  simp at ht
  simp [ht]
theorem walk_ok : ∀ (n : Nat) (l : List Sm), Sm.sizes l ≤ n → n ≤ 20000 → WalkOK l := by
  intro n
  induction n with
  | zero =>
    intro l hl hn
    have h0 : l = [] := by
      have := Sm.sizes_ge l
      exact List.length_eq_zero_iff.1 (by omega)
    subst h0
    exact walk_step [] (by simp) (by simp)
  | succ n ih =>
    intro l hl hn
    refine walk_step l (by have := Sm.sizes_ge l; omega) fun e he => ⟨by have := Sm.sizes_mem he; omega, fun b hb => ih b ?_ (by omega)⟩
    have h1 := Sm.sizes_mem he
    obtain ⟨op, w, m, ee, b1, b2, g⟩ := e
    simp only [Sm.size] at h1
    simp only [Sm.blocks, List.mem_cons, List.not_mem_nil, or_false] at hb
    rcases hb with rfl | rfl <;> omega
end Go.AM.Spec
namespace Go.AM.Spec
set_option linter.unusedVariables false
set_option linter.unusedSimpArgs false
set_option maxHeartbeats 1000000
set_option maxRecDepth 10000
theorem count_round (H : Heap) (b : List (Option (List V))) (hb : b.length = 1) :
    YS (H.length + 2) (fun x => H ++ (some [V.int .i64 x.length] :: (b ++ [some [V.lrec 0 0 q_tree_Count_0 [6] [3] [V.ptr H.length 0]]]))) 100000 := by
  intro x s L hs hx
  obtain ⟨b, rfl⟩ := List.length_eq_one_iff.1 hb
  show eval tbl noExt _ _ (H ++ (some [V.int .i64 x.length] :: ([b] ++ [some [V.lrec 0 0 q_tree_Count_0 [6] [3] [V.ptr H.length 0]]])) ++ L) = some (_, H ++ (some [V.int .i64 (x ++ [s]).length] :: ([b] ++ [some [V.lrec 0 0 q_tree_Count_0 [6] [3] [V.ptr H.length 0]]])) ++ L)
  have h1 : recAt (H ++ (some [V.int .i64 x.length] :: ([b] ++ [some [V.lrec 0 0 q_tree_Count_0 [6] [3] [V.ptr H.length 0]]])) ++ L) (H.length + 2) = some (0, 0, q_tree_Count_0, [6], [3], [V.ptr H.length 0]) := by
    unfold recAt
    rw [List.append_assoc, at_hp rfl]; simp
  have hg : ∀ (A : Heap) (k : Nat), (H ++ A)[H.length + k]? = A[k]? := fun A k => at_hp rfl A k
  have hg0 : ∀ (A : Heap), (H ++ A)[H.length]? = A[0]? := fun A => at_hp rfl A 0
  have hs' : ∀ (A : Heap) (k : Nat) v, (H ++ A).set (H.length + k) v = H ++ A.set k v := fun A k v => set_hp rfl A k v
  have hs0 : ∀ (A : Heap) v, (H ++ A).set H.length v = H ++ A.set 0 v := fun A v => set_hp rfl A 0 v
  have hw : IntKind.i64.wrap ((x.length : Int) + 1) = ((x.length + 1 : Nat) : Int) := by rw [w64 (by omega) (by omega)]; rfl
  rw [eval_Y h1 u_tree_Count_0 rfl]
  simp [a_tree_Count_0, y_tree_Count_0, recAt, hg, hg0, hs', hs0, endRound, pendOf, hw]
  rw [List.take_of_length_le (by simp)]
theorem Count_eq (l : List Sm) (hl : Sm.sizes l ≤ 20000) (H : Heap) : eval tbl noExt n_tree_Count [.sl 7 (Sm.rows l)] H = some (.int .i64 (Sm.flats l).length, H) := by
  have hfl := Sm.flats_sizes l
  have hwk := walk_ok 20000 l hl (Nat.le_refl _) (H.length + 2) (H.length + 3) 100000 (H.length + 1) _ [] [] (by intro x; simp) (count_round H [some [V.sl 7 (Sm.rows l)]] rfl) (by
    intro x
    rw [List.append_nil, at_hp rfl]; rfl) (by simp; omega)
  simp only [List.append_nil, List.nil_append, List.length_nil] at hwk
  rw [eval_M rfl rfl t_tree_Count rfl]
  have hg : ∀ (A : Heap) (k : Nat), (H ++ A)[H.length + k]? = A[k]? := fun A k => at_hp rfl A k
  have hg0 : ∀ (A : Heap), (H ++ A)[H.length]? = A[0]? := fun A => at_hp rfl A 0
  have hs0 : ∀ (A : Heap) v, (H ++ A).set H.length v = H ++ A.set 0 v := fun A v => set_hp rfl A 0 v
  have ht : ∀ (A : Heap) (k : Nat), (H ++ A).take (H.length + k) = H ++ A.take k := fun A k => take_hp rfl A k
  have ht0 : ∀ (A : Heap), (H ++ A).take H.length = H := fun A => by simp
  simp only [List.cons_append, List.nil_append, Int.cast_ofNat_Int] at hwk
  simp [c_tree_Count, walk_eq, hg, hg0, hs0, hwk, ht, recAt, r_tree_Count_0]
end Go.AM.Spec
namespace Go.AM.Spec
set_option linter.unusedVariables false
set_option linter.unusedSimpArgs false
set_option maxHeartbeats 1000000
mutual
def Ex.txt : Ex → Prop
  | .mk _ _ s x => s.length ≤ 300 ∧ Ex.txts x
def Ex.txts : List Ex → Prop
  | [] => True
  | e :: l => e.txt ∧ Ex.txts l
end
mutual
def Sm.txt : Sm → Prop
  | .mk _ s _ e b c _ => s.length ≤ 300 ∧ Ex.txts e ∧ Sm.txts b ∧ Sm.txts c
def Sm.txts : List Sm → Prop
  | [] => True
  | e :: l => e.txt ∧ Sm.txts l
end
theorem Ex.sizes_append (a b : List Ex) : Ex.sizes (a ++ b) = Ex.sizes a + Ex.sizes b := by
  induction a with
  | nil => simp [Ex.sizes]
  | cons e l ih => simp only [List.cons_append, Ex.sizes, ih]; omega
theorem Ex.txts_append {a b : List Ex} : Ex.txts (a ++ b) ↔ Ex.txts a ∧ Ex.txts b := by
  induction a with
  | nil => simp [Ex.txts]
  | cons e l ih => simp only [List.cons_append, Ex.txts, ih, and_assoc]
theorem Sm.txts_append {a b : List Sm} : Sm.txts (a ++ b) ↔ Sm.txts a ∧ Sm.txts b := by
  induction a with
  | nil => simp [Sm.txts]
  | cons e l ih => simp only [List.cons_append, Sm.txts, ih, and_assoc]
theorem take_next {α : Type} {l : List α} {i : Nat} {e : α} (h : l[i]? = some e) : l.take (i + 1) = l.take i ++ [e] := by
  rw [List.take_add_one, h]; rfl
def Pg.bodies (p : Pg) : List (List Sm) := p.procs.map (·.2)
def Pg.exprs (p : Pg) : List Ex := p.oracles.map (·.2)
theorem Pg.size_eq (p : Pg) : p.size = p.procs.length + p.oracles.length + Sm.sizes p.bodies.flatten + Sm.sizes p.main + Sm.sizes p.recover + Ex.sizes p.exprs := by
  have h : ∀ l : List (List UInt8 × List Sm), Sm.sizes (l.map (·.2)).flatten + l.length = (l.map fun x => 1 + Sm.sizes x.2).sum := by
    intro l
    induction l with
    | nil => rfl
    | cons x l ih => simp only [List.map_cons, List.flatten_cons, Go.AM.Spec.sizes_append, List.length_cons, List.sum_cons]; omega
  have h2 : ∀ l : List (List UInt8 × Ex), Ex.sizes (l.map (·.2)) + l.length = (l.map fun x => 1 + x.2.size).sum := by
    intro l
    induction l with
    | nil => rfl
    | cons x l ih => simp only [List.map_cons, Ex.sizes, List.length_cons, List.sum_cons]; omega
  have := h p.procs
  have := h2 p.oracles
  simp only [Pg.size, Pg.psize, Pg.osize, Pg.bodies, Pg.exprs]
  omega
def Pg.txt (p : Pg) : Prop := (∀ x ∈ p.procs, x.1.length ≤ 300 ∧ Sm.txts x.2) ∧ Sm.txts p.main ∧ Sm.txts p.recover ∧ (∀ x ∈ p.oracles, x.1.length ≤ 300 ∧ x.2.txt)
theorem Pg.orow {p : Pg} {i : Nat} {e : List UInt8 × Ex} (he : p.oracles[i]? = some e) : p.ocells[i]? = some (.str e.1 :: e.2.cells) := by rw [Pg.ocells, List.getElem?_map, he]; rfl
end Go.AM.Spec
namespace Go.AM.Spec
set_option linter.unusedVariables false
set_option linter.unusedSimpArgs false
set_option maxHeartbeats 1000000
set_option maxRecDepth 10000
def keyText : List UInt8 := [32, 112, 114, 111, 99, 32, 109, 97, 105, 110, 32, 114, 101, 99, 111, 118, 101, 114, 32, 111, 114, 97, 99, 108, 101, 32, 99, 114, 101, 97, 116, 101, 32, 109, 107, 100, 105, 114, 32, 119, 114, 105, 116, 101, 32, 97, 112, 112, 101, 110, 100, 32, 116, 114, 117, 110, 99, 97, 116, 101, 32, 114, 101, 110, 97, 109, 101, 32, 117, 110, 108, 105, 110, 107, 32, 102, 115, 121, 110, 99, 32, 102, 100, 97, 116, 97, 115, 121, 110, 99, 32, 115, 121, 110, 99, 100, 105, 114, 32, 98, 97, 114, 114, 105, 101, 114, 32, 108, 101, 116, 32, 105, 102, 32, 101, 108, 115, 101, 32, 114, 101, 112, 101, 97, 116, 32, 99, 97, 108, 108, 32, 116, 120, 110, 32, 99, 111, 109, 109, 105, 116, 32, 114, 101, 112, 108, 97, 121, 32, 97, 115, 115, 101, 114, 116, 32, 101, 120, 105, 115, 116, 115, 32, 115, 105, 122, 101, 32, 114, 101, 97, 100, 32, 110, 111, 116, 32, 97, 110, 100, 32, 111, 114, 32, 116, 114, 117, 101, 32, 102, 97, 108, 115, 101, 32]
def splitWords : List UInt8 → List UInt8 → List (List UInt8)
  | [], w => [w]
  | c :: l, w => if c = 32 then w :: splitWords l [] else splitWords l (w ++ [c])
def keyWords : List (List UInt8) := (splitWords keyText []).filter (· ≠ [])
def isKey (s : List UInt8) : Bool := keyWords.contains s
def isName (s : List UInt8) : Bool := (match s with | c :: _ => isLetter c | [] => false) && decide (s.length ≤ 8) && s.all isInner && !isKey s
theorem takeWhile_blank {s r : List UInt8} (h : 32 ∉ s) : (s ++ 32 :: r).takeWhile (· ≠ 32) = s := by
  induction s with
  | nil => simp
  | cons c l ih =>
    have hc : c ≠ 32 := fun e => h (by simp [e])
    have hl : 32 ∉ l := fun e => h (by simp [e])
    have := ih hl
    simp only [ne_eq, decide_not] at this
    simp [hc, this]
theorem key_words {s : List UInt8} (h0 : s ≠ []) (h : 32 ∉ s) : Go.Lib.contains keyText (32 :: (s ++ [32])) = isKey s := by
  have hmem : ∀ i : Nat, i < 200 → (keyText.drop i).head? = some 32 → (keyText.drop (i + 1)).takeWhile (· ≠ 32) = [] ∨ isKey ((keyText.drop (i + 1)).takeWhile (· ≠ 32)) = true := by decide +kernel
  have hall : ∀ w ∈ keyWords, Go.Lib.contains keyText (32 :: (w ++ [32])) = true := by decide +kernel
  cases hk : isKey s with
  | true => exact hall s (by simpa [isKey] using hk)
  | false =>
    rcases Go.Lib.index_spec keyText (32 :: (s ++ [32])) with ⟨h1, _⟩ | ⟨i, h1, h2, h3, _⟩
    · simp [Go.Lib.contains, h1]
    · exfalso
      have hlen : keyText.length < 200 := by decide +kernel
      unfold Go.Lib.occAt at h3
      rw [List.isPrefixOf_iff_prefix] at h3
      obtain ⟨r, hr⟩ := h3
      have e1 : keyText.drop (i + 1) = s ++ 32 :: r := by
        have : keyText.drop (i + 1) = (keyText.drop i).drop 1 := by rw [List.drop_drop]
        rw [this, ← hr]; simp
      have e2 : (keyText.drop i).head? = some 32 := by rw [← hr]; rfl
      have := hmem i (by omega) e2
      rw [e1, takeWhile_blank h, hk] at this
      rcases this with h | h
      · exact h0 h
      · cases h
theorem has_blank (s : List UInt8) : decide (0 ≤ Go.Lib.indexByte s 32) = s.contains 32 := by
  rw [← Go.Lib.index_one]
  rcases Go.Lib.index_spec s [32] with ⟨h1, h2⟩ | ⟨i, h1, h2, h3, _⟩
  · rw [h1]
    have : ¬ 32 ∈ s := by
      intro hm
      obtain ⟨i, hi⟩ := List.getElem?_of_mem hm
      have hlt := (List.getElem?_eq_some_iff.1 hi).1
      have := h2 i (by omega)
      unfold Go.Lib.occAt at this
      rw [List.drop_eq_getElem_cons hlt] at this
      rw [List.getElem?_eq_getElem hlt] at hi
      simp [List.isPrefixOf, Option.some.inj hi] at this
    simp [this]
  · rw [h1]
    have : 32 ∈ s := by
      unfold Go.Lib.occAt at h3
      rw [List.isPrefixOf_iff_prefix] at h3
      obtain ⟨r, hr⟩ := h3
      have : 32 ∈ s.drop i := by rw [← hr]; simp
      exact List.mem_of_mem_drop this
    simp [this]
theorem key_blank {s : List UInt8} (h : 32 ∈ s) : isKey s = false := by
  have hall : ∀ w ∈ keyWords, ¬ (32 : UInt8) ∈ w := by decide +kernel
  cases hk : isKey s with
  | false => rfl
  | true => exact absurd h (hall s (by simpa [isKey] using hk))
theorem xContains_more (s t : List UInt8) (hs : s.length < 4294967281) (ht : 2 ≤ t.length) (H : Heap) : xContains [.str s, .str t] H = some (.bool (Go.Lib.contains s t), H) := by
  match t, ht with
  | a :: b :: l, _ => simp [xContains, hs]
theorem Key_eq (s : List UInt8) (hs : s.length ≤ 1000000) (H : Heap) : eval tbl noExt n_lex_Key [.str s] H = some (.bool (isKey s), H) := by
  have hc1 : ∀ K, eval tbl noExt n_strings_Contains [.str s, .str [32]] K = some (.bool (s.contains 32), K) := by
    intro K
    rw [eval_X rfl rfl]
    simp only [xContains, has_blank]
  have hc2 : ∀ K, eval tbl noExt n_strings_Contains [.str keyText, .str (32 :: (s ++ [32]))] K = some (.bool (Go.Lib.contains keyText (32 :: (s ++ [32]))), K) := by
    intro K
    rw [eval_X rfl rfl]
    exact xContains_more _ _ (by decide +kernel) (by simp) _
  rw [eval_M rfl rfl t_lex_Key rfl]
  by_cases h0 : s = []
  · subst h0
    have : isKey [] = false := by decide +kernel
    simp [c_lex_Key, this]
  by_cases hb : 32 ∈ s
  · simp [c_lex_Key, h0, hc1, hb, key_blank hb]
  · rw [key_words h0 hb] at hc2
    simp only [keyText] at hc2
    have hl1 : 1 + s.length < 4611686018427387904 := by omega
    have hl2 : 1 + s.length + 1 < 4611686018427387904 := by omega
    have hl3 : s.length + 1 + 1 < 4611686018427387904 := by omega
    simp [hl1, hl2, hl3, c_lex_Key, h0, hc1, hc2, hb]
theorem le_u8 (a c : UInt8) : decide ((a.toNat : Int) ≤ (c.toNat : Int)) = decide (a ≤ c) := by
  simp [UInt8.le_iff_toNat_le]
theorem letter_eq (c : UInt8) (H : Heap) : eval tbl noExt n_lex_letter [.int .i32 c.toNat] H = some (.bool (isLetter c), H) := by
  have h1 := le_u8 97 c
  have h2 := le_u8 c 122
  simp only [UInt8.reduceToNat] at h1 h2
  rw [eval_M rfl rfl t_lex_letter rfl]
  unfold isLetter
  rw [← h1, ← h2]
  by_cases h : (97 : Int) ≤ c.toNat
  · simp [c_lex_letter, h]
  · simp [c_lex_letter, h]
theorem eq_u8 (c a : UInt8) : decide ((c.toNat : Int) = (a.toNat : Int)) = (c == a) := by
  rw [Bool.eq_iff_iff]
  simp only [decide_eq_true_eq, beq_iff_eq, ← UInt8.toNat_inj]
  omega
theorem w32 (c : UInt8) : IntKind.i32.wrap (c.toNat : Int) = c.toNat := by
  have := c.toNat_lt
  rw [IntKind.wrap_i32]; omega
theorem begins_eq (s : List UInt8) (H : Heap) : eval tbl noExt n_lex_begins [.str s, .fn (.func n_lex_letter) [] []] H = some (.bool (match s with | c :: _ => isLetter c | [] => false), H) := by
  rw [eval_M rfl rfl t_lex_begins rfl]
  cases s with
  | nil => simp [c_lex_begins]
  | cons c l => simp [c_lex_begins, w32, letter_eq]
theorem takeWhile_all (p : UInt8 → Bool) (s : List UInt8) : decide (s.takeWhile p = s) = s.all p := by
  induction s with
  | nil => rfl
  | cons c l ih =>
    cases hp : p c with
    | true => simp [hp, ← ih]
    | false => simp [hp]
theorem run_inner (s : List UInt8) (H : Heap) : eval tbl noExt n_lex_run [.str s, .fn (.func n_lex_inner) [] []] H = some (.str (s.takeWhile isInner), H) := by
  rw [eval_X rfl rfl]
  simp [xRun]
theorem Name_eq (s : List UInt8) (hs : s.length ≤ 1000000) (H : Heap) : eval tbl noExt n_lex_Name [.str s] H = some (.bool (isName s), H) := by
  have hb := begins_eq s
  have hr := run_inner s
  have ht := takeWhile_all isInner s
  rw [eval_M rfl rfl t_lex_Name rfl]
  unfold isName
  rw [← ht]
  generalize (match s with | c :: _ => isLetter c | [] => false) = b at hb ⊢
  cases b with
  | false => simp [c_lex_Name, hb]
  | true =>
    by_cases h8 : s.length ≤ 8
    · have h8' : (s.length : Int) ≤ 8 := by omega
      by_cases hw : s.takeWhile isInner = s
      · simp only [hw] at hr
        simp [c_lex_Name, hb, h8, h8', hr, hw, Key_eq s hs]
      · simp [c_lex_Name, hb, h8, h8', hr, hw]
    · have h8' : ¬ (s.length : Int) ≤ 8 := by omega
      simp [c_lex_Name, hb, h8, h8']
def keyList : List (List UInt8) := [[112, 114, 111, 99], [109, 97, 105, 110], [114, 101, 99, 111, 118, 101, 114], [111, 114, 97, 99, 108, 101], [99, 114, 101, 97, 116, 101], [109, 107, 100, 105, 114], [119, 114, 105, 116, 101], [97, 112, 112, 101, 110, 100], [116, 114, 117, 110, 99, 97, 116, 101], [114, 101, 110, 97, 109, 101], [117, 110, 108, 105, 110, 107], [102, 115, 121, 110, 99], [102, 100, 97, 116, 97, 115, 121, 110, 99], [115, 121, 110, 99, 100, 105, 114], [98, 97, 114, 114, 105, 101, 114], [108, 101, 116], [105, 102], [101, 108, 115, 101], [114, 101, 112, 101, 97, 116], [99, 97, 108, 108], [116, 120, 110], [99, 111, 109, 109, 105, 116], [114, 101, 112, 108, 97, 121], [97, 115, 115, 101, 114, 116], [101, 120, 105, 115, 116, 115], [115, 105, 122, 101], [114, 101, 97, 100], [110, 111, 116], [97, 110, 100], [111, 114], [116, 114, 117, 101], [102, 97, 108, 115, 101]]
theorem keyList_eq : keyWords = keyList := by decide +kernel
end Go.AM.Spec
namespace Go.AM.Spec
set_option linter.unusedVariables false
set_option linter.unusedSimpArgs false
set_option maxHeartbeats 4000000
set_option maxRecDepth 10000
theorem IndexFunc_api_Expr_api_Expr_loop {α : Type} {f : Nat} {first cap : List V} (hp : f < yBase) (g : α → List V) (l : List α) (hl : l.length ≤ 1000000) (p : α → Bool) (H : Heap) (call : CallF)
    (hw : ∀ a ∈ l, (g a).length = 4 ∧ allStrip (g a) = g a)
    (hf : ∀ a ∈ l, call f (first ++ [.agg (g a)] ++ cap) H = some (.bool (p a), H)) (Q : Option (V × Heap) → Prop) (k : List Item)
    (hret : ∀ φ' (i : Nat), l.any p = true → Fr.get φ' 4 = .int .i64 i → Q (retK k φ' H)) (hexit : ∀ φ', l.any p = false → Q (M call k φ' H)) :
    ∀ (j i : Nat) (φ : Fr), i + j = l.length → l.any p = (l.drop i).any p → Fr.get φ 0 = .sl 4 (l.map g) → Fr.get φ 1 = .fn (.func f) first cap → Fr.get φ 7 = .int .i64 l.length → Fr.get φ 8 = .int .i64 i →
      Q (M call (.code l_sI_Expr_api_Expr_0 :: .blk 0 :: k) φ H) := by
  intro j
  induction j with
  | zero =>
    intro i φ hj hs h0 h1 h7 h8
    have hi : ¬ ((i : Int) < l.length) := by omega
    rw [List.drop_of_length_le (by omega)] at hs
    rw [l_sI_Expr_api_Expr_0, M_loop, ← l_sI_Expr_api_Expr_0]
    simp [b_sI_Expr_api_Expr_0, h0, h1, h7, h8, hi]
    exact hexit _ (by rw [hs]; rfl)
  | succ j ih =>
    intro i φ hj hs h0 h1 h7 h8
    have hi : (i : Int) < l.length := by omega
    have hil : i < l.length := by omega
    obtain ⟨a, ha, hmem, hd⟩ : ∃ a, l[i]? = some a ∧ a ∈ l ∧ l.drop i = a :: l.drop (i + 1) := ⟨l[i], List.getElem?_eq_getElem hil, List.getElem_mem hil, List.drop_eq_getElem_cons hil⟩
    have hr : (l.map g)[i]? = some (g a) := by rw [List.getElem?_map, ha]; rfl
    have hgl : (l.map g).length = l.length := List.length_map ..
    have hw1 : IntKind.i64.wrap ((i : Int) + 1) = ((i + 1 : Nat) : Int) := by rw [w64 (by omega) (by omega)]; rfl
    have hcall := hf a hmem
    have hshape := hw a hmem
    rw [hd, List.any_cons] at hs
    have hlen := hshape.1
    have hstrip := hshape.2
    simp only [allStrip] at hstrip
    rw [l_sI_Expr_api_Expr_0, M_loop, ← l_sI_Expr_api_Expr_0]
    cases hb : p a with
    | true =>
      rw [hb, Bool.true_or] at hs
      rw [hb] at hcall
      simp at hcall
      simp [b_sI_Expr_api_Expr_0, h0, h1, h7, h8, hi, hgl, hr, hp, hcall, hlen, hstrip, List.take_of_length_le]
      exact hret _ i hs (by simp)
    | false =>
      rw [hb, Bool.false_or] at hs
      rw [hb] at hcall
      simp at hcall
      simp [b_sI_Expr_api_Expr_0, h0, h1, h7, h8, hi, hgl, hr, hp, hcall, hw1, hlen, hstrip, List.take_of_length_le]
      exact ih (i + 1) _ (by omega) hs (by simp [h0]) (by simp [h1]) (by simp [h7]) (by simp)
theorem ContainsFunc_api_Expr_api_Expr {α : Type} {f : Nat} {first cap : List V} (hp : f < yBase) (g : α → List V) (l : List α) (hl : l.length ≤ 1000000) (p : α → Bool) (H : Heap)
    (hw : ∀ a ∈ l, (g a).length = 4 ∧ allStrip (g a) = g a)
    (hf : ∀ a ∈ l, eval tbl noExt f (first ++ [.agg (g a)] ++ cap) H = some (.bool (p a), H)) :
    eval tbl noExt n_sC_Expr_api_Expr [.sl 4 (l.map g), .fn (.func f) first cap] H = some (.bool (l.any p), H) := by
  obtain ⟨n, hn, hn2⟩ : ∃ n : Int, eval tbl noExt n_sI_Expr_api_Expr [.sl 4 (l.map g), .fn (.func f) first cap] H = some (.int .i64 n, H) ∧ decide (0 ≤ n) = l.any p := by
    rw [eval_M rfl rfl t_sI_Expr_api_Expr rfl]
    simp [c_sI_Expr_api_Expr]
    refine IndexFunc_api_Expr_api_Expr_loop hp g l hl p H _ hw hf (fun o => ∃ n : Int, o = some (.int .i64 n, H) ∧ decide (0 ≤ n) = l.any p) _ (fun φ' i h g => ?_) (fun φ' h => ?_) l.length 0 _ (by omega) (by simp) (by simp) (by simp) (by simp) (by simp)
    · exact ⟨i, by simp [g], by rw [h]; simp⟩
    · exact ⟨-1, by simp [r_sI_Expr_api_Expr_0], by rw [h]; simp⟩
  rw [eval_M rfl rfl t_sC_Expr_api_Expr rfl]
  simp [c_sC_Expr_api_Expr, hn, hn2]
theorem IndexFunc_api_Stmt_api_Stmt_x_loop {α : Type} {f : Nat} {first cap : List V} (hp : f < yBase) (g : α → List V) (l : List α) (hl : l.length ≤ 1000000) (p : α → Bool) (H : Heap) (call : CallF)
    (hw : ∀ a ∈ l, (g a).length = 7 ∧ allStrip (g a) = g a)
    (hf : ∀ a ∈ l, call f (first ++ [.agg (g a)] ++ cap) H = some (.bool (p a), H)) (Q : Option (V × Heap) → Prop) (k : List Item)
    (hret : ∀ φ' (i : Nat), l.any p = true → Fr.get φ' 4 = .int .i64 i → Q (retK k φ' H)) (hexit : ∀ φ', l.any p = false → Q (M call k φ' H)) :
    ∀ (j i : Nat) (φ : Fr), i + j = l.length → l.any p = (l.drop i).any p → Fr.get φ 0 = .sl 7 (l.map g) → Fr.get φ 1 = .fn (.func f) first cap → Fr.get φ 7 = .int .i64 l.length → Fr.get φ 8 = .int .i64 i →
      Q (M call (.code l_sI_Stmt_api_Stmt_x_0 :: .blk 0 :: k) φ H) := by
  intro j
  induction j with
  | zero =>
    intro i φ hj hs h0 h1 h7 h8
    have hi : ¬ ((i : Int) < l.length) := by omega
    rw [List.drop_of_length_le (by omega)] at hs
    rw [l_sI_Stmt_api_Stmt_x_0, M_loop, ← l_sI_Stmt_api_Stmt_x_0]
    simp [b_sI_Stmt_api_Stmt_x_0, h0, h1, h7, h8, hi]
    exact hexit _ (by rw [hs]; rfl)
  | succ j ih =>
    intro i φ hj hs h0 h1 h7 h8
    have hi : (i : Int) < l.length := by omega
    have hil : i < l.length := by omega
    obtain ⟨a, ha, hmem, hd⟩ : ∃ a, l[i]? = some a ∧ a ∈ l ∧ l.drop i = a :: l.drop (i + 1) := ⟨l[i], List.getElem?_eq_getElem hil, List.getElem_mem hil, List.drop_eq_getElem_cons hil⟩
    have hr : (l.map g)[i]? = some (g a) := by rw [List.getElem?_map, ha]; rfl
    have hgl : (l.map g).length = l.length := List.length_map ..
    have hw1 : IntKind.i64.wrap ((i : Int) + 1) = ((i + 1 : Nat) : Int) := by rw [w64 (by omega) (by omega)]; rfl
    have hcall := hf a hmem
    have hshape := hw a hmem
    rw [hd, List.any_cons] at hs
    have hlen := hshape.1
    have hstrip := hshape.2
    simp only [allStrip] at hstrip
    rw [l_sI_Stmt_api_Stmt_x_0, M_loop, ← l_sI_Stmt_api_Stmt_x_0]
    cases hb : p a with
    | true =>
      rw [hb, Bool.true_or] at hs
      rw [hb] at hcall
      simp at hcall
      simp [b_sI_Stmt_api_Stmt_x_0, h0, h1, h7, h8, hi, hgl, hr, hp, hcall, hlen, hstrip, List.take_of_length_le]
      exact hret _ i hs (by simp)
    | false =>
      rw [hb, Bool.false_or] at hs
      rw [hb] at hcall
      simp at hcall
      simp [b_sI_Stmt_api_Stmt_x_0, h0, h1, h7, h8, hi, hgl, hr, hp, hcall, hw1, hlen, hstrip, List.take_of_length_le]
      exact ih (i + 1) _ (by omega) hs (by simp [h0]) (by simp [h1]) (by simp [h7]) (by simp)
theorem ContainsFunc_api_Stmt_api_Stmt_x {α : Type} {f : Nat} {first cap : List V} (hp : f < yBase) (g : α → List V) (l : List α) (hl : l.length ≤ 1000000) (p : α → Bool) (H : Heap)
    (hw : ∀ a ∈ l, (g a).length = 7 ∧ allStrip (g a) = g a)
    (hf : ∀ a ∈ l, eval tbl noExt f (first ++ [.agg (g a)] ++ cap) H = some (.bool (p a), H)) :
    eval tbl noExt n_sC_Stmt_api_Stmt_x [.sl 7 (l.map g), .fn (.func f) first cap] H = some (.bool (l.any p), H) := by
  obtain ⟨n, hn, hn2⟩ : ∃ n : Int, eval tbl noExt n_sI_Stmt_api_Stmt_x [.sl 7 (l.map g), .fn (.func f) first cap] H = some (.int .i64 n, H) ∧ decide (0 ≤ n) = l.any p := by
    rw [eval_M rfl rfl t_sI_Stmt_api_Stmt_x rfl]
    simp [c_sI_Stmt_api_Stmt_x]
    refine IndexFunc_api_Stmt_api_Stmt_x_loop hp g l hl p H _ hw hf (fun o => ∃ n : Int, o = some (.int .i64 n, H) ∧ decide (0 ≤ n) = l.any p) _ (fun φ' i h g => ?_) (fun φ' h => ?_) l.length 0 _ (by omega) (by simp) (by simp) (by simp) (by simp) (by simp)
    · exact ⟨i, by simp [g], by rw [h]; simp⟩
    · exact ⟨-1, by simp [r_sI_Stmt_api_Stmt_x_0], by rw [h]; simp⟩
  rw [eval_M rfl rfl t_sC_Stmt_api_Stmt_x rfl]
  simp [c_sC_Stmt_api_Stmt_x, hn, hn2]
theorem IndexFunc_api_Proc_api_Proc_loop {α : Type} {f : Nat} {first cap : List V} (hp : f < yBase) (g : α → List V) (l : List α) (hl : l.length ≤ 1000000) (p : α → Bool) (H : Heap) (call : CallF)
    (hw : ∀ a ∈ l, (g a).length = 2 ∧ allStrip (g a) = g a)
    (hf : ∀ a ∈ l, call f (first ++ [.agg (g a)] ++ cap) H = some (.bool (p a), H)) (Q : Option (V × Heap) → Prop) (k : List Item)
    (hret : ∀ φ' (i : Nat), l.any p = true → Fr.get φ' 4 = .int .i64 i → Q (retK k φ' H)) (hexit : ∀ φ', l.any p = false → Q (M call k φ' H)) :
    ∀ (j i : Nat) (φ : Fr), i + j = l.length → l.any p = (l.drop i).any p → Fr.get φ 0 = .sl 2 (l.map g) → Fr.get φ 1 = .fn (.func f) first cap → Fr.get φ 7 = .int .i64 l.length → Fr.get φ 8 = .int .i64 i →
      Q (M call (.code l_sI_Proc_api_Proc_0 :: .blk 0 :: k) φ H) := by
  intro j
  induction j with
  | zero =>
    intro i φ hj hs h0 h1 h7 h8
    have hi : ¬ ((i : Int) < l.length) := by omega
    rw [List.drop_of_length_le (by omega)] at hs
    rw [l_sI_Proc_api_Proc_0, M_loop, ← l_sI_Proc_api_Proc_0]
    simp [b_sI_Proc_api_Proc_0, h0, h1, h7, h8, hi]
    exact hexit _ (by rw [hs]; rfl)
  | succ j ih =>
    intro i φ hj hs h0 h1 h7 h8
    have hi : (i : Int) < l.length := by omega
    have hil : i < l.length := by omega
    obtain ⟨a, ha, hmem, hd⟩ : ∃ a, l[i]? = some a ∧ a ∈ l ∧ l.drop i = a :: l.drop (i + 1) := ⟨l[i], List.getElem?_eq_getElem hil, List.getElem_mem hil, List.drop_eq_getElem_cons hil⟩
    have hr : (l.map g)[i]? = some (g a) := by rw [List.getElem?_map, ha]; rfl
    have hgl : (l.map g).length = l.length := List.length_map ..
    have hw1 : IntKind.i64.wrap ((i : Int) + 1) = ((i + 1 : Nat) : Int) := by rw [w64 (by omega) (by omega)]; rfl
    have hcall := hf a hmem
    have hshape := hw a hmem
    rw [hd, List.any_cons] at hs
    have hlen := hshape.1
    have hstrip := hshape.2
    simp only [allStrip] at hstrip
    rw [l_sI_Proc_api_Proc_0, M_loop, ← l_sI_Proc_api_Proc_0]
    cases hb : p a with
    | true =>
      rw [hb, Bool.true_or] at hs
      rw [hb] at hcall
      simp at hcall
      simp [b_sI_Proc_api_Proc_0, h0, h1, h7, h8, hi, hgl, hr, hp, hcall, hlen, hstrip, List.take_of_length_le]
      exact hret _ i hs (by simp)
    | false =>
      rw [hb, Bool.false_or] at hs
      rw [hb] at hcall
      simp at hcall
      simp [b_sI_Proc_api_Proc_0, h0, h1, h7, h8, hi, hgl, hr, hp, hcall, hw1, hlen, hstrip, List.take_of_length_le]
      exact ih (i + 1) _ (by omega) hs (by simp [h0]) (by simp [h1]) (by simp [h7]) (by simp)
theorem ContainsFunc_api_Proc_api_Proc {α : Type} {f : Nat} {first cap : List V} (hp : f < yBase) (g : α → List V) (l : List α) (hl : l.length ≤ 1000000) (p : α → Bool) (H : Heap)
    (hw : ∀ a ∈ l, (g a).length = 2 ∧ allStrip (g a) = g a)
    (hf : ∀ a ∈ l, eval tbl noExt f (first ++ [.agg (g a)] ++ cap) H = some (.bool (p a), H)) :
    eval tbl noExt n_sC_Proc_api_Proc [.sl 2 (l.map g), .fn (.func f) first cap] H = some (.bool (l.any p), H) := by
  obtain ⟨n, hn, hn2⟩ : ∃ n : Int, eval tbl noExt n_sI_Proc_api_Proc [.sl 2 (l.map g), .fn (.func f) first cap] H = some (.int .i64 n, H) ∧ decide (0 ≤ n) = l.any p := by
    rw [eval_M rfl rfl t_sI_Proc_api_Proc rfl]
    simp [c_sI_Proc_api_Proc]
    refine IndexFunc_api_Proc_api_Proc_loop hp g l hl p H _ hw hf (fun o => ∃ n : Int, o = some (.int .i64 n, H) ∧ decide (0 ≤ n) = l.any p) _ (fun φ' i h g => ?_) (fun φ' h => ?_) l.length 0 _ (by omega) (by simp) (by simp) (by simp) (by simp) (by simp)
    · exact ⟨i, by simp [g], by rw [h]; simp⟩
    · exact ⟨-1, by simp [r_sI_Proc_api_Proc_0], by rw [h]; simp⟩
  rw [eval_M rfl rfl t_sC_Proc_api_Proc rfl]
  simp [c_sC_Proc_api_Proc, hn, hn2]
theorem IndexFunc_api_Oracle_api_Oracle_loop {α : Type} {f : Nat} {first cap : List V} (hp : f < yBase) (g : α → List V) (l : List α) (hl : l.length ≤ 1000000) (p : α → Bool) (H : Heap) (call : CallF)
    (hw : ∀ a ∈ l, (g a).length = 5 ∧ allStrip (g a) = g a)
    (hf : ∀ a ∈ l, call f (first ++ [.agg (g a)] ++ cap) H = some (.bool (p a), H)) (Q : Option (V × Heap) → Prop) (k : List Item)
    (hret : ∀ φ' (i : Nat), l.any p = true → Fr.get φ' 4 = .int .i64 i → Q (retK k φ' H)) (hexit : ∀ φ', l.any p = false → Q (M call k φ' H)) :
    ∀ (j i : Nat) (φ : Fr), i + j = l.length → l.any p = (l.drop i).any p → Fr.get φ 0 = .sl 5 (l.map g) → Fr.get φ 1 = .fn (.func f) first cap → Fr.get φ 7 = .int .i64 l.length → Fr.get φ 8 = .int .i64 i →
      Q (M call (.code l_sI_Oracle_api_Oracle_0 :: .blk 0 :: k) φ H) := by
  intro j
  induction j with
  | zero =>
    intro i φ hj hs h0 h1 h7 h8
    have hi : ¬ ((i : Int) < l.length) := by omega
    rw [List.drop_of_length_le (by omega)] at hs
    rw [l_sI_Oracle_api_Oracle_0, M_loop, ← l_sI_Oracle_api_Oracle_0]
    simp [b_sI_Oracle_api_Oracle_0, h0, h1, h7, h8, hi]
    exact hexit _ (by rw [hs]; rfl)
  | succ j ih =>
    intro i φ hj hs h0 h1 h7 h8
    have hi : (i : Int) < l.length := by omega
    have hil : i < l.length := by omega
    obtain ⟨a, ha, hmem, hd⟩ : ∃ a, l[i]? = some a ∧ a ∈ l ∧ l.drop i = a :: l.drop (i + 1) := ⟨l[i], List.getElem?_eq_getElem hil, List.getElem_mem hil, List.drop_eq_getElem_cons hil⟩
    have hr : (l.map g)[i]? = some (g a) := by rw [List.getElem?_map, ha]; rfl
    have hgl : (l.map g).length = l.length := List.length_map ..
    have hw1 : IntKind.i64.wrap ((i : Int) + 1) = ((i + 1 : Nat) : Int) := by rw [w64 (by omega) (by omega)]; rfl
    have hcall := hf a hmem
    have hshape := hw a hmem
    rw [hd, List.any_cons] at hs
    have hlen := hshape.1
    have hstrip := hshape.2
    simp only [allStrip] at hstrip
    rw [l_sI_Oracle_api_Oracle_0, M_loop, ← l_sI_Oracle_api_Oracle_0]
    cases hb : p a with
    | true =>
      rw [hb, Bool.true_or] at hs
      rw [hb] at hcall
      simp at hcall
      simp [b_sI_Oracle_api_Oracle_0, h0, h1, h7, h8, hi, hgl, hr, hp, hcall, hlen, hstrip, List.take_of_length_le]
      exact hret _ i hs (by simp)
    | false =>
      rw [hb, Bool.false_or] at hs
      rw [hb] at hcall
      simp at hcall
      simp [b_sI_Oracle_api_Oracle_0, h0, h1, h7, h8, hi, hgl, hr, hp, hcall, hw1, hlen, hstrip, List.take_of_length_le]
      exact ih (i + 1) _ (by omega) hs (by simp [h0]) (by simp [h1]) (by simp [h7]) (by simp)
theorem ContainsFunc_api_Oracle_api_Oracle {α : Type} {f : Nat} {first cap : List V} (hp : f < yBase) (g : α → List V) (l : List α) (hl : l.length ≤ 1000000) (p : α → Bool) (H : Heap)
    (hw : ∀ a ∈ l, (g a).length = 5 ∧ allStrip (g a) = g a)
    (hf : ∀ a ∈ l, eval tbl noExt f (first ++ [.agg (g a)] ++ cap) H = some (.bool (p a), H)) :
    eval tbl noExt n_sC_Oracle_api_Oracle [.sl 5 (l.map g), .fn (.func f) first cap] H = some (.bool (l.any p), H) := by
  obtain ⟨n, hn, hn2⟩ : ∃ n : Int, eval tbl noExt n_sI_Oracle_api_Oracle [.sl 5 (l.map g), .fn (.func f) first cap] H = some (.int .i64 n, H) ∧ decide (0 ≤ n) = l.any p := by
    rw [eval_M rfl rfl t_sI_Oracle_api_Oracle rfl]
    simp [c_sI_Oracle_api_Oracle]
    refine IndexFunc_api_Oracle_api_Oracle_loop hp g l hl p H _ hw hf (fun o => ∃ n : Int, o = some (.int .i64 n, H) ∧ decide (0 ≤ n) = l.any p) _ (fun φ' i h g => ?_) (fun φ' h => ?_) l.length 0 _ (by omega) (by simp) (by simp) (by simp) (by simp) (by simp)
    · exact ⟨i, by simp [g], by rw [h]; simp⟩
    · exact ⟨-1, by simp [r_sI_Oracle_api_Oracle_0], by rw [h]; simp⟩
  rw [eval_M rfl rfl t_sC_Oracle_api_Oracle rfl]
  simp [c_sC_Oracle_api_Oracle, hn, hn2]
theorem IndexFunc_api_Stmt_api_Stmt_loop {α : Type} {f : Nat} {first cap : List V} (hp : f < yBase) (e : α → List (List V)) (l : List α) (hl : l.length ≤ 1000000) (p : α → Bool) (H : Heap) (call : CallF)
    (hf : ∀ a ∈ l, call f (first ++ [V.sl 7 (e a)] ++ cap) H = some (.bool (p a), H)) (Q : Option (V × Heap) → Prop) (k : List Item)
    (hret : ∀ φ' (i : Nat), l.any p = true → Fr.get φ' 4 = .int .i64 i → Q (retK k φ' H)) (hexit : ∀ φ', l.any p = false → Q (M call k φ' H)) :
    ∀ (j i : Nat) (φ : Fr), i + j = l.length → l.any p = (l.drop i).any p → Fr.get φ 0 = .sl 1 (l.map fun a => [V.sl 7 (e a)]) → Fr.get φ 1 = .fn (.func f) first cap → Fr.get φ 7 = .int .i64 l.length → Fr.get φ 8 = .int .i64 i →
      Q (M call (.code l_sI_Stmt_api_Stmt_0 :: .blk 0 :: k) φ H) := by
  intro j
  induction j with
  | zero =>
    intro i φ hj hs h0 h1 h7 h8
    have hi : ¬ ((i : Int) < l.length) := by omega
    rw [List.drop_of_length_le (by omega)] at hs
    rw [l_sI_Stmt_api_Stmt_0, M_loop, ← l_sI_Stmt_api_Stmt_0]
    simp [b_sI_Stmt_api_Stmt_0, h0, h1, h7, h8, hi]
    exact hexit _ (by rw [hs]; rfl)
  | succ j ih =>
    intro i φ hj hs h0 h1 h7 h8
    have hi : (i : Int) < l.length := by omega
    have hil : i < l.length := by omega
    obtain ⟨a, ha, hmem, hd⟩ : ∃ a, l[i]? = some a ∧ a ∈ l ∧ l.drop i = a :: l.drop (i + 1) := ⟨l[i], List.getElem?_eq_getElem hil, List.getElem_mem hil, List.drop_eq_getElem_cons hil⟩
    have hr : (l.map fun a => [V.sl 7 (e a)])[i]? = some [V.sl 7 (e a)] := by rw [List.getElem?_map, ha]; rfl
    have hgl : (l.map fun a => [V.sl 7 (e a)]).length = l.length := List.length_map ..
    have hw1 : IntKind.i64.wrap ((i : Int) + 1) = ((i + 1 : Nat) : Int) := by rw [w64 (by omega) (by omega)]; rfl
    have hcall := hf a hmem
    rw [hd, List.any_cons] at hs
    rw [l_sI_Stmt_api_Stmt_0, M_loop, ← l_sI_Stmt_api_Stmt_0]
    cases hb : p a with
    | true =>
      rw [hb, Bool.true_or] at hs
      rw [hb] at hcall
      simp at hcall
      simp [b_sI_Stmt_api_Stmt_0, h0, h1, h7, h8, hi, hgl, hr, hp, hcall]
      exact hret _ i hs (by simp)
    | false =>
      rw [hb, Bool.false_or] at hs
      rw [hb] at hcall
      simp at hcall
      simp [b_sI_Stmt_api_Stmt_0, h0, h1, h7, h8, hi, hgl, hr, hp, hcall, hw1]
      exact ih (i + 1) _ (by omega) hs (by simp [h0]) (by simp [h1]) (by simp [h7]) (by simp)
theorem ContainsFunc_api_Stmt_api_Stmt_own {α : Type} {f : Nat} {first cap : List V} (hp : f < yBase) (e : α → List (List V)) (l : List α) (hl : l.length ≤ 1000000) (p : α → Bool) (H : Heap)
    (hf : ∀ a ∈ l, eval tbl noExt f (first ++ [V.sl 7 (e a)] ++ cap) H = some (.bool (p a), H)) :
    eval tbl noExt n_sC_Stmt_api_Stmt [.own 1 (l.map fun a => [V.sl 7 (e a)]), .fn (.func f) first cap] H = some (.bool (l.any p), H) := by
  obtain ⟨n, hn, hn2⟩ : ∃ n : Int, eval tbl noExt n_sI_Stmt_api_Stmt [.sl 1 (l.map fun a => [V.sl 7 (e a)]), .fn (.func f) first cap] H = some (.int .i64 n, H) ∧ decide (0 ≤ n) = l.any p := by
    rw [eval_M rfl rfl t_sI_Stmt_api_Stmt rfl]
    simp [c_sI_Stmt_api_Stmt]
    refine IndexFunc_api_Stmt_api_Stmt_loop hp e l hl p H _ hf (fun o => ∃ n : Int, o = some (.int .i64 n, H) ∧ decide (0 ≤ n) = l.any p) _ (fun φ' i h g => ?_) (fun φ' h => ?_) l.length 0 _ (by omega) (by simp) (by simp) (by simp) (by simp) (by simp)
    · exact ⟨i, by simp [g], by rw [h]; simp⟩
    · exact ⟨-1, by simp [r_sI_Stmt_api_Stmt_0], by rw [h]; simp⟩
  rw [eval_M rfl rfl t_sC_Stmt_api_Stmt rfl]
  simp [c_sC_Stmt_api_Stmt, hn, hn2]
theorem parts_loop (call : CallF) (R : Option (V × Heap)) (n : Nat) (H : Heap) (p : Pg) (hl : p.procs.length ≤ 20000) (v1 : V) (k : List Item)
    (hexit : ∀ φ' K, K.take n = H → n ≤ K.length → Fr.get φ' 1 = v1 → Fr.get φ' 3 = .own 1 (p.procs.map fun x => brow x.2) → M call k φ' K = R) :
    ∀ (j i : Nat) (φ : Fr) (K : Heap), i + j = p.procs.length → K.take n = H → n ≤ K.length → Fr.get φ 1 = v1 → Fr.get φ 3 = .own 1 ((p.procs.take i).map fun x => brow x.2) → Fr.get φ 7 = .sl 2 p.pcells → Fr.get φ 8 = .int .i64 p.procs.length → Fr.get φ 9 = .int .i64 i →
      M call (.code l_tree_parts_0 :: .blk 0 :: k) φ K = R := by
  intro j
  induction j with
  | zero =>
    intro i φ K hj hK hn h1 h3 h7 h8 h9
    have hi : ¬ ((i : Int) < p.procs.length) := by omega
    rw [List.take_of_length_le (by omega)] at h3
    rw [l_tree_parts_0, M_loop, ← l_tree_parts_0]
    simp [b_tree_parts_0, h1, h3, h7, h8, h9, hi]
    exact hexit _ _ hK hn (by simp [h1]) (by simp [h3])
  | succ j ih =>
    intro i φ K hj hK hn h1 h3 h7 h8 h9
    have hi : (i : Int) < p.procs.length := by omega
    have hil : i < p.procs.length := by omega
    obtain ⟨e, he⟩ : ∃ e, p.procs[i]? = some e := ⟨p.procs[i], List.getElem?_eq_getElem hil⟩
    have hrow : p.pcells[i]? = some [.str e.1, .sl 7 (Sm.rows e.2)] := by rw [Pg.pcells, List.getElem?_map, he]; rfl
    have hcl : p.pcells.length = p.procs.length := by simp [Pg.pcells]
    have hck : (p.procs.take i).length = i := by simp; omega
    have hnext : ((p.procs.take i).map fun x => brow x.2) ++ [[.sl 7 (Sm.rows e.2)]] = (p.procs.take (i + 1)).map fun x => brow x.2 := by
      rw [List.take_add_one, he]; simp [brow]
    have hw : IntKind.i64.wrap ((i : Int) + 1) = ((i + 1 : Nat) : Int) := by rw [w64 (by omega) (by omega)]; rfl
    have hb : 2 * (i + 1) * 24 ≤ 281474976710656 := by omega
    have hmin : min i p.procs.length = i := by omega
    rw [l_tree_parts_0, M_loop, ← l_tree_parts_0]
    simp [b_tree_parts_0, h1, h3, h7, h8, h9, hi, hrow, hcl, hck, hmin, get0, set0, hnext, hw, hb]
    refine ih (i + 1) _ _ (by omega) (take_more hK hn _) (by simp; omega) (by simp [h1]) (by simpa using hnext) (by simp [h7]) (by simp [h8]) (by simp)
theorem parts_eq (p : Pg) (hl : p.procs.length ≤ 20000) (H : Heap) : eval tbl noExt n_tree_parts [.agg p.cells] H = some (.own 1 (p.parts.map brow), H) := by
  have hcl : p.pcells.length = p.procs.length := by simp [Pg.pcells]
  have hb : 2 * (p.procs.length + 2) * 24 ≤ 281474976710656 := by omega
  rw [eval_M rfl rfl t_tree_parts rfl]
  simp [c_tree_parts, Pg.cells, hcl]
  refine parts_loop _ _ (H.length + 1) (H ++ [some p.cells]) p hl (.ptr H.length 0) _ (fun φ' K hK hn h1 h3 => ?_) p.procs.length 0 _ _ (by omega) ?_ ?_ ?_ ?_ ?_ ?_ ?_
  · have hg : K[H.length]? = some (some p.cells) := by
      have h : (K.take (H.length + 1))[H.length]? = some (some p.cells) := by rw [hK, get0]
      rwa [List.getElem?_take_of_lt (by omega)] at h
    have ht : K.take H.length = H := by
      have h : (K.take (H.length + 1)).take H.length = H := by rw [hK]; simp
      rwa [List.take_take, Nat.min_eq_left (by omega)] at h
    simp [r_tree_parts_0, h1, h3, hg, Pg.cells, hb, ht, Pg.parts, brow]
  all_goals simp [Pg.cells, List.take_of_length_le]
theorem all_round (a c : List V) (hc : c = [V.ptr 1 0]) (T : Heap) (b : List (Option (List V))) (hb : b.length = 1) :
    YS (2 + (T.length + 1)) (fun x => some a :: some [V.own 7 (Sm.rows x)] :: (T ++ (b ++ [some [V.lrec 0 0 q_tree_All_0 [16] [3] c]]))) 20000 := by
  subst hc
  intro x s L hs hx
  obtain ⟨b, rfl⟩ := List.length_eq_one_iff.1 hb
  have hl : (T ++ [b]).length = T.length + 1 := by simp
  have hi : 2 + (T.length + 1) = T.length + 1 + 1 + 1 := by omega
  rw [hi]
  have e : ∀ (y : List Sm) (r : List V), (some a :: some [V.own 7 (Sm.rows y)] :: (T ++ ([b] ++ [some r])) ++ L : Heap) = some a :: some [V.own 7 (Sm.rows y)] :: ((T ++ [b]) ++ (some r :: L)) := by simp
  show eval tbl noExt _ _ (some a :: some [V.own 7 (Sm.rows x)] :: (T ++ ([b] ++ [some [V.lrec 0 0 q_tree_All_0 [16] [3] [V.ptr 1 0]]])) ++ L) = some (_, some a :: some [V.own 7 (Sm.rows (x ++ [s]))] :: (T ++ ([b] ++ [some [V.lrec 0 0 q_tree_All_0 [16] [3] [V.ptr 1 0]]])) ++ L)
  rw [e, e]
  generalize hA : T ++ [b] = A at *
  rw [← hl]
  have hg : ∀ (B : Heap), (A ++ B)[A.length]? = B[0]? := fun B => at_hp rfl B 0
  have hs0 : ∀ (B : Heap) v, (A ++ B).set A.length v = A ++ B.set 0 v := fun B v => set_hp rfl B 0 v
  have hg' : ∀ (B : Heap) k, (A ++ B)[A.length + k]? = B[k]? := fun B k => at_hp rfl B k
  have hs' : ∀ (B : Heap) k v, (A ++ B).set (A.length + k) v = A ++ B.set k v := fun B k v => set_hp rfl B k v
  have ht' : ∀ (B : Heap) k, (A ++ B).take (A.length + k) = A ++ B.take k := fun B k => take_hp rfl B k
  have h1 : recAt (some a :: some [V.own 7 (Sm.rows x)] :: (A ++ (some [V.lrec 0 0 q_tree_All_0 [16] [3] [V.ptr 1 0]] :: L))) (A.length + 1 + 1) = some (0, 0, q_tree_All_0, [16], [3], [V.ptr 1 0]) := by
    unfold recAt
    simp [hg]
  rw [eval_Y h1 u_tree_All_0 rfl]
  have hcl : (Sm.rows x).length = x.length := by rw [Sm.rows_eq]; simp
  have hnext : Sm.rows (x ++ [s]) = Sm.rows x ++ [s.cells] := by simp [Sm.rows_eq]
  have hcall := cloned_eq 20000 s (by omega) (Nat.le_refl _) []
  rw [hnext]
  obtain ⟨op, w, n, ee, b1, b2, g⟩ := s
  simp only [Sm.cells] at hcall ⊢
  have hb2 : 2 * (x.length + 1) * 112 ≤ 281474976710656 := by omega
  have hlt : (x.length : Int) < x.length + 1 := by omega
  have hno : (Sm.rows x)[x.length]? = none := by rw [List.getElem?_eq_none_iff, hcl]; exact Nat.le_refl _
  simp [hlt, hno, a_tree_All_0, y_tree_All_0, recAt, hg, hs0, hg', hs', hcl, hcall, hb2, frzMix, endRound, pendOf, ht']
theorem all_loop (a : List V) (bs : List (List Sm)) (hbs : ∀ b ∈ bs, WalkOK b) (hb2 : bs.length ≤ 20002) (R : Option (V × Heap)) (k : List Item) :
    ∀ (j t : Nat) (x : List Sm) (φ : Fr) (T : Heap), t + j = bs.length → x.length + (Sm.flats (bs.drop t).flatten).length ≤ 20000 → Fr.get φ 3 = .ptr 1 0 → Fr.get φ 8 = .own 1 (bs.map brow) → Fr.get φ 9 = .int .i64 bs.length → Fr.get φ 10 = .int .i64 t →
      (∀ φ' T', Fr.get φ' 3 = .ptr 1 0 → M (eval tbl noExt) k φ' (some a :: some [V.own 7 (Sm.rows (x ++ Sm.flats (bs.drop t).flatten))] :: T') = R) →
      M (eval tbl noExt) (.code l_tree_All_0 :: .blk 0 :: k) φ (some a :: some [V.own 7 (Sm.rows x)] :: T) = R := by
  intro j
  induction j with
  | zero =>
    intro t x φ T hj hN h3 h8 h9 h10 hexit
    have hi : ¬ ((t : Int) < bs.length) := by omega
    rw [List.drop_of_length_le (by omega)] at hexit
    simp only [List.flatten_nil, Sm.flats, List.append_nil] at hexit
    rw [l_tree_All_0, M_loop, ← l_tree_All_0]
    simp [b_tree_All_0, h3, h8, h9, h10, hi]
    exact hexit _ T (by simp [h3])
  | succ j ih =>
    intro t x φ T hj hN h3 h8 h9 h10 hexit
    have hi : (t : Int) < bs.length := by omega
    have hil : t < bs.length := by omega
    obtain ⟨b, hb⟩ : ∃ b, bs[t]? = some b := ⟨bs[t], List.getElem?_eq_getElem hil⟩
    have hmem : b ∈ bs := List.mem_of_getElem? hb
    have hdrop : bs.drop t = b :: bs.drop (t + 1) := by
      rw [List.drop_eq_getElem_cons hil]
      rw [List.getElem?_eq_getElem hil] at hb
      rw [Option.some.inj hb]
    rw [hdrop] at hN hexit
    simp only [List.flatten_cons, Sm.flats_append, List.length_append, ← List.append_assoc] at hN hexit
    have hrow : (bs.map brow)[t]? = some [.sl 7 (Sm.rows b)] := by rw [List.getElem?_map, hb]; rfl
    have hw : IntKind.i64.wrap ((t : Int) + 1) = ((t + 1 : Nat) : Int) := by rw [w64 (by omega) (by omega)]; rfl
    have hys := all_round a [V.ptr 1 0] rfl T [some [V.sl 7 (Sm.rows b)]] rfl
    have hwk := hbs b hmem (2 + (T.length + 1)) (2 + (T.length + 1) + 1) 20000 (T.length + 1 + 1) _ [] x (by intro x; simp only [List.length_append, List.length_cons, List.length_nil]; omega) hys (by
      intro x
      rw [List.append_nil, List.getElem?_cons_succ, List.getElem?_cons_succ, List.getElem?_append_right (Nat.le_refl _), Nat.sub_self]
      rfl) (by omega)
    simp only [List.append_nil] at hwk
    rw [show 2 + (T.length + 1) = T.length + 1 + 1 + 1 by omega] at hwk
    have hread : ∀ y : List Sm, recAt (some a :: some [V.own 7 (Sm.rows y)] :: (T ++ ([some [V.sl 7 (Sm.rows b)]] ++ [some [V.lrec 0 0 q_tree_All_0 [16] [3] [V.ptr 1 0]]]))) (T.length + 1 + 1 + 1) = some (0, 0, q_tree_All_0, [16], [3], [V.ptr 1 0]) := by
      intro y
      unfold recAt
      rw [List.getElem?_cons_succ, List.getElem?_cons_succ, List.getElem?_append_right (by omega)]
      simp [Nat.add_sub_cancel_left]
    have htake : ∀ y : List Sm, (some a :: some [V.own 7 (Sm.rows y)] :: (T ++ ([some [V.sl 7 (Sm.rows b)]] ++ [some [V.lrec 0 0 q_tree_All_0 [16] [3] [V.ptr 1 0]]])) : Heap).take (T.length + 1 + 1 + 1) = some a :: some [V.own 7 (Sm.rows y)] :: (T ++ [some [V.sl 7 (Sm.rows b)]]) := by
      intro y
      rw [List.take_succ_cons, List.take_succ_cons, ← List.append_assoc, List.take_append_of_le_length (by simp), List.take_of_length_le (by simp)]
    simp only [List.cons_append, List.nil_append] at hwk hread htake
    rw [l_tree_All_0, M_loop, ← l_tree_All_0]
    simp [b_tree_All_0, h3, h8, h9, h10, hi, hrow, walk_eq, hwk, hread, htake, r_tree_All_0, hw]
    refine ih (t + 1) (x ++ Sm.flats b) _ (T ++ [some [V.sl 7 (Sm.rows b)]]) (by omega) (by simp; omega) (by simp [h3]) (by simp [h8]) (by simp [h9]) (by simp) ?_
    intro φ' T' g3
    have := hexit φ' T' g3
    simpa using this
theorem All_eq (p : Pg) (hp : p.size ≤ 20000) : eval tbl noExt n_tree_All [.agg p.cells] [] = some (.sl 7 (Sm.rows p.flats), []) := by
  have hsz := p.parts_size
  have hfl := Sm.flats_sizes p.parts.flatten
  have hpl : p.parts.length = p.procs.length + 2 := by simp [Pg.parts]
  have hparts := parts_eq p (by omega) []
  rw [eval_M rfl rfl t_tree_All rfl]
  simp only [Pg.cells] at hparts ⊢
  simp [c_tree_All, hparts]
  refine all_loop p.cells p.parts (fun b hb => walk_ok 20000 b (by have := sizes_flatten hb; omega) (Nat.le_refl _)) (by omega) _ _ p.parts.length 0 [] _ [] (by omega) (by simpa using by omega) ?_ ?_ ?_ ?_ ?_
  · simp
  · simp
  · simp
  · simp
  · intro φ' T' g3
    simp [r_tree_All_1, g3, Pg.flats]
def parts (op : Int) : Option Nat := if op < 1 then none else if 14 < op then none else if op ≤ 4 then some 0 else if op ≤ 8 then some 1 else some 2
def exprs (op : Int) : Option Nat :=
  if op = 11 then some 0 else if op = 14 then some 0 else if op = 15 then some 0 else if op = 4 then some 2 else if op = 5 then some 2 else if op = 6 then some 2 else if op = 3 then some 3 else if op < 1 then none else if 18 < op then none else some 1
def tup (o : Option Nat) : V := .tup [.int .i64 (o.getD 0), .bool o.isSome]
theorem Parts_eq (op : Int) (H : Heap) : eval tbl noExt n_tree_Parts [.int .i64 op] H = some (tup (parts op), H) := by
  rw [eval_M rfl rfl t_tree_Parts rfl]
  by_cases h1 : op < 1
  · simp [c_tree_Parts, h1, parts, tup]
  by_cases h2 : 14 < op
  · simp [c_tree_Parts, h1, h2, parts, tup]
  by_cases h3 : op ≤ 4
  · simp [c_tree_Parts, h1, h2, h3, parts, tup]
  by_cases h4 : op ≤ 8
  · simp [c_tree_Parts, h1, h2, h3, h4, parts, tup]
  · simp [c_tree_Parts, h1, h2, h3, h4, parts, tup]
theorem Exprs_eq (op : Int) (H : Heap) : eval tbl noExt n_tree_Exprs [.int .i64 op] H = some (tup (exprs op), H) := by
  rw [eval_M rfl rfl t_tree_Exprs rfl]
  by_cases h1 : op = 11
  · simp [c_tree_Exprs, h1, exprs, tup]
  by_cases h2 : op = 14
  · simp [c_tree_Exprs, h1, h2, exprs, tup]
  by_cases h3 : op = 15
  · simp [c_tree_Exprs, h1, h2, h3, exprs, tup]
  by_cases h4 : op = 4
  · simp [c_tree_Exprs, h1, h2, h3, h4, exprs, tup]
  by_cases h5 : op = 5
  · simp [c_tree_Exprs, h1, h2, h3, h4, h5, exprs, tup]
  by_cases h6 : op = 6
  · simp [c_tree_Exprs, h1, h2, h3, h4, h5, h6, exprs, tup]
  by_cases h7 : op = 3
  · simp [c_tree_Exprs, h1, h2, h3, h4, h5, h6, h7, exprs, tup]
  by_cases h8 : op < 1
  · simp [c_tree_Exprs, h1, h2, h3, h4, h5, h6, h7, h8, exprs, tup]
  by_cases h9 : 18 < op
  · simp [c_tree_Exprs, h1, h2, h3, h4, h5, h6, h7, h8, h9, exprs, tup]
  · simp [c_tree_Exprs, h1, h2, h3, h4, h5, h6, h7, h8, h9, exprs, tup]
def leafOk (op n : Int) (s : List UInt8) : Bool :=
  if op = 1 then decide (0 ≤ n) && decide (n ≤ 1000000000000) && decide (s = [])
  else if op = 3 then decide (n = 0 ∨ n = 1) && decide (s = [])
  else if op = 2 then decide (s.length ≤ 64) && decide (n = 0)
  else if op = 4 then isName s && decide (n = 0)
  else decide (s = []) && decide (n = 0)
mutual
def Ex.ok : Ex → Nat → Bool
  | .mk op n s x, d => match parts op with
    | none => false
    | some k => decide (d ≠ 0) && decide (x.length = k) && leafOk op n s && Ex.oks x (d - 1)
def Ex.oks : List Ex → Nat → Bool
  | [], _ => true
  | e :: l, d => e.ok d && Ex.oks l d
end
theorem Ex.oks_all (l : List Ex) (d : Nat) : Ex.oks l d = l.all fun e => e.ok d := by
  induction l with
  | nil => simp [Ex.oks]
  | cons e l ih => simp [Ex.oks, ih]
theorem any_not {α : Type} (l : List α) (p : α → Bool) : (l.any fun e => !p e) = !(l.all p) := by
  induction l with
  | nil => rfl
  | cons e l ih => simp [ih, Bool.not_and]
theorem Ex.strips (e : Ex) : e.cells.length = 4 ∧ allStrip e.cells = e.cells := by cases e; simp [Ex.cells]
theorem Sm.strips (e : Sm) : e.cells.length = 7 ∧ allStrip e.cells = e.cells := by cases e; simp [Sm.cells]
theorem shr_zero (n : Int) : n.fdiv (2 ^ min 1 IntKind.i64.bits) = 0 ↔ n = 0 ∨ n = 1 := by
  have : (2 : Int) ^ min 1 IntKind.i64.bits = 2 := by decide
  rw [this, Int.fdiv_eq_ediv_of_nonneg _ (by omega)]; omega
def ExOK (d : Nat) (e : Ex) : Prop := ∀ H, eval tbl noExt n_tree_expr [.agg e.cells, .int .i64 d] H = some (.bool (e.ok d), H)
theorem expr_1_eq (d : Nat) (hd : d ≤ 20000) (e : Ex) (he : ExOK d e) (K : Heap) (j : Nat) (hK : K[j]? = some (some [.int .i64 ((d + 1 : Nat) : Int)])) (hj : j < K.length) :
    eval tbl noExt n_tree_expr_1 [.agg e.cells, .ptr j 0] K = some (.bool (!e.ok d), K) := by
  have hw : IntKind.i64.wrap (d : Int) = d := w64 (by omega) (by omega)
  have hK2 : ∀ r, (K ++ r)[j]? = some (some [.int .i64 ((d + 1 : Nat) : Int)]) := fun r => by rw [List.getElem?_append_left hj]; exact hK
  have he0 := he []
  obtain ⟨op, n, s, x⟩ := e
  simp only [Ex.cells] at he0 ⊢
  rw [eval_M rfl rfl t_tree_expr_1 rfl]
  simp [c_tree_expr_1, get0, hK2, hw, he0]
theorem expr_conts (d : Nat) (hd : d ≤ 20000) (x : List Ex) (hl : x.length ≤ 20000) (hx : ∀ e ∈ x, ExOK d e) (K : Heap) (j : Nat) (hK : K[j]? = some (some [.int .i64 ((d + 1 : Nat) : Int)])) (hj : j < K.length) :
    eval tbl noExt n_sC_Expr_api_Expr [.sl 4 (Ex.rows x), .fn (.func n_tree_expr_1) [] [.ptr j 0]] K = some (.bool (!Ex.oks x d), K) := by
  rw [Ex.rows_eq, Ex.oks_all, ← any_not]
  exact ContainsFunc_api_Expr_api_Expr (first := []) lt_tree_expr_1 Ex.cells x (by omega) (fun e => !e.ok d) K (fun e _ => Ex.strips e) (fun e he => expr_1_eq d hd e (hx e he) K j hK hj)
theorem expr_step (d : Nat) (hd : d ≤ 20000) (op n : Int) (s : List UInt8) (x : List Ex) (hs : s.length ≤ 300) (hl : x.length ≤ 20000) (hx : ∀ d', d = d' + 1 → ∀ e ∈ x, ExOK d' e) : ExOK d (.mk op n s x) := by
  intro H
  have hP := Parts_eq op
  have hN := Name_eq s (by omega)
  have hcl : (Ex.rows x).length = x.length := by rw [Ex.rows_eq]; simp
  simp only [Ex.ok, Ex.cells]
  rw [eval_M rfl rfl t_tree_expr rfl]
  cases hpo : parts op with
  | none =>
    rw [hpo] at hP
    simp [c_tree_expr, hP, tup, get0, get1]
  | some k =>
  rw [hpo] at hP
  cases d with
  | zero => simp [c_tree_expr, hP, tup, get0, get1]
  | succ d =>
  have hd0 : ¬ ((d : Int) + 1 = 0) := by omega
  by_cases hk : x.length = k
  · have hk' : (x.length : Int) = k := by omega
    have hc := fun K j => expr_conts d (by omega) x hl (hx d rfl) K j
    have hc' : ∀ A B, eval tbl noExt n_sC_Expr_api_Expr [.sl 4 (Ex.rows x), .fn (.func n_tree_expr_1) [] [.ptr (H.length + 1) 0]] (H ++ [A, some [.int .i64 ((d : Int) + 1)], B]) = some (.bool (!Ex.oks x d), H ++ [A, some [.int .i64 ((d : Int) + 1)], B]) :=
      fun A B => hc _ _ (by rw [get1]; simp) (by simp)
    subst hk
    by_cases h1 : op = 1
    · subst h1
      by_cases a1 : 0 ≤ n
      · by_cases a2 : n ≤ 1000000000000
        · by_cases a3 : s = []
          · simp [c_tree_expr, hP, tup, get0, get1, hd0, hcl, a1, a2, a3, leafOk, hc']
          · simp [c_tree_expr, hP, tup, get0, get1, hd0, hcl, a1, a2, a3, leafOk]
        · simp [c_tree_expr, hP, tup, get0, get1, hd0, hcl, a1, a2, leafOk]
      · simp [c_tree_expr, hP, tup, get0, get1, hd0, hcl, a1, leafOk]
    by_cases h3 : op = 3
    · subst h3
      by_cases a1 : n = 0 ∨ n = 1
      · by_cases a3 : s = []
        · simp [c_tree_expr, hP, tup, get0, get1, hd0, hcl, leafOk, shr_zero, a1, a3, hc']
        · simp [c_tree_expr, hP, tup, get0, get1, hd0, hcl, leafOk, shr_zero, a1, a3]
      · simp [c_tree_expr, hP, tup, get0, get1, hd0, hcl, leafOk, shr_zero, a1]
    by_cases h2 : op = 2
    · subst h2
      by_cases a1 : s.length ≤ 64
      · have a1' : (s.length : Int) ≤ 64 := by omega
        by_cases a3 : n = 0
        · simp [c_tree_expr, hP, tup, get0, get1, hd0, hcl, leafOk, shr_zero, a1, a1', a3, hc']
        · simp [c_tree_expr, hP, tup, get0, get1, hd0, hcl, leafOk, shr_zero, a1, a1', a3]
      · have a1' : ¬ (s.length : Int) ≤ 64 := by omega
        simp [c_tree_expr, hP, tup, get0, get1, hd0, hcl, leafOk, shr_zero, a1, a1']
    by_cases h4 : op = 4
    · subst h4
      cases a1 : isName s with
      | true =>
        rw [a1] at hN
        by_cases a3 : n = 0
        · simp [c_tree_expr, hP, tup, get0, get1, hd0, hcl, leafOk, shr_zero, hN, a1, a3, hc']
        · simp [c_tree_expr, hP, tup, get0, get1, hd0, hcl, leafOk, shr_zero, hN, a1, a3]
      | false =>
        rw [a1] at hN
        simp [c_tree_expr, hP, tup, get0, get1, hd0, hcl, leafOk, shr_zero, hN, a1]
    by_cases a1 : s = []
    · by_cases a3 : n = 0
      · simp [c_tree_expr, hP, tup, get0, get1, hd0, hcl, leafOk, shr_zero, h1, h2, h3, h4, a1, a3, hc']
      · simp [c_tree_expr, hP, tup, get0, get1, hd0, hcl, leafOk, shr_zero, h1, h2, h3, h4, a1, a3]
    · simp [c_tree_expr, hP, tup, get0, get1, hd0, hcl, leafOk, shr_zero, h1, h2, h3, h4, a1]
  · have hk' : ¬ (x.length : Int) = k := by omega
    simp [c_tree_expr, hP, tup, get0, get1, hd0, hcl, hk, hk']
theorem expr_ok1 : ∀ (n : Nat) (e : Ex), e.size ≤ n → n ≤ 20000 → e.txt → ∀ d, d ≤ 20000 → ExOK d e := by
  intro n
  induction n with
  | zero => intro e h; cases e; simp only [Ex.size] at h; omega
  | succ n ih =>
    intro e h hn ht d hd
    obtain ⟨op, m, s, x⟩ := e
    simp only [Ex.size] at h
    simp only [Ex.txt] at ht
    have hl := Ex.sizes_ge x
    have hx : ∀ e ∈ x, e.size ≤ n ∧ e.txt := fun e he => ⟨by have := Ex.sizes_mem he; omega, by
      have : ∀ l : List Ex, Ex.txts l → ∀ e ∈ l, e.txt := by
        intro l
        induction l with
        | nil => intro _ e he; simp at he
        | cons y l ih2 =>
          intro h e he
          rcases List.mem_cons.1 he with rfl | he
          · exact h.1
          · exact ih2 h.2 e he
      exact this x ht.2 e he⟩
    exact expr_step d hd op m s x ht.1 (by omega) (fun d' h' e he => (ih e (hx e he).1 (by omega) (hx e he).2 d' (by omega)))
def shapeOk (op : Int) (s : List UInt8) (n : Int) (e : List Ex) (b c : List Sm) (g : Bool) : Bool :=
  match exprs op with
  | none => false
  | some k => decide (e.length = k) && ((if op = 12 ∨ op = 15 then isName s else decide (s = [])) && (decide (0 ≤ n) && (decide (n ≤ 16) && ((decide (op = 14) || decide (n = 0)) && ((decide (op = 16) || !g) && ((decide (op = 13 ∨ op = 14 ∨ op = 16) || decide (b = [])) && ((decide (op = 13) || decide (c = [])) && Ex.oks e 8)))))))
theorem blocks_eq (op : Int) (H : Heap) : eval tbl noExt n_tree_blocks [.int .i64 op] H = some (.tup [.bool (decide (op = 13 ∨ op = 14 ∨ op = 16)), .bool (decide (op = 13))], H) := by
  rw [eval_M rfl rfl t_tree_blocks rfl]
  by_cases h1 : op = 13
  · simp [c_tree_blocks, h1]
  by_cases h2 : op = 14
  · simp [c_tree_blocks, h1, h2]
  · simp [c_tree_blocks, h1, h2]
theorem shape_1_eq (e : Ex) (he : ExOK 8 e) (K : Heap) : eval tbl noExt n_tree_shape_1 [.agg e.cells] K = some (.bool (!e.ok 8), K) := by
  have he0 := he []
  obtain ⟨op, n, s, x⟩ := e
  simp only [Ex.cells, Int.cast_ofNat_Int] at he0 ⊢
  rw [eval_M rfl rfl t_tree_shape_1 rfl]
  simp [c_tree_shape_1, get0, he0]
theorem shape_conts (x : List Ex) (hl : x.length ≤ 20000) (hx : ∀ e ∈ x, ExOK 8 e) (K : Heap) :
    eval tbl noExt n_sC_Expr_api_Expr [.sl 4 (Ex.rows x), .fn (.func n_tree_shape_1) [] []] K = some (.bool (!Ex.oks x 8), K) := by
  rw [Ex.rows_eq, Ex.oks_all, ← any_not]
  exact ContainsFunc_api_Expr_api_Expr (first := []) (cap := []) lt_tree_shape_1 Ex.cells x (by omega) (fun e => !e.ok 8) K (fun e _ => Ex.strips e) (fun e he => shape_1_eq e (hx e he) K)
theorem shape_eq (op n : Int) (s : List UInt8) (e : List Ex) (b c : List Sm) (g : Bool) (hs : s.length ≤ 300) (hl : e.length ≤ 20000) (hx : ∀ y ∈ e, ExOK 8 y) (H : Heap) :
    eval tbl noExt n_tree_shape [.agg (Sm.cells (.mk op s n e b c g))] H = some (.bool (shapeOk op s n e b c g), H) := by
  have hP := Exprs_eq op
  have hB := blocks_eq op
  have hN := Name_eq s (by omega)
  have hC := shape_conts e hl hx
  have hcl : (Ex.rows e).length = e.length := by rw [Ex.rows_eq]; simp
  have hbl : (Sm.rows b).length = b.length := by rw [Sm.rows_eq]; simp
  have hccl : (Sm.rows c).length = c.length := by rw [Sm.rows_eq]; simp
  simp only [Sm.cells, shapeOk]
  rw [eval_M rfl rfl t_tree_shape rfl]
  cases hpo : exprs op with
  | none =>
    rw [hpo] at hP
    by_cases h12 : op = 12
    · subst h12
      simp [c_tree_shape, hP, hB, tup, get0]
    · simp [c_tree_shape, hP, hB, tup, get0, h12]
  | some k =>
  rw [hpo] at hP
  by_cases hk : e.length = k
  case neg =>
    have hk' : ¬ (e.length : Int) = k := by omega
    by_cases h12 : op = 12
    · subst h12
      simp [c_tree_shape, hP, hB, tup, get0, hcl, hk, hk']
    · simp [c_tree_shape, hP, hB, tup, get0, hcl, hk, hk', h12]
  subst hk
  by_cases h12 : op = 12
  · subst h12
    cases hna : isName s with
    | false =>
      rw [hna] at hN
      by_cases hs0 : s = []
      · simp [c_tree_shape, hP, hB, tup, get0, hcl, hbl, hccl, hC, Sm.rows, hN, hna, hs0]
      · simp [c_tree_shape, hP, hB, tup, get0, hcl, hbl, hccl, hC, Sm.rows, hN, hna, hs0]
    | true =>
    rw [hna] at hN
    have hs0 : ¬ s = [] := by rintro rfl; simp [isName] at hna
    by_cases hn1 : n < 0
    · have hn1b : ¬ 0 ≤ n := by omega
      have hn0 : ¬ n = 0 := by omega
      simp [c_tree_shape, hP, hB, tup, get0, hcl, hbl, hccl, hC, Sm.rows, hN, hna, hs0, hn1, hn1b, hn0]
    have hn1b : 0 ≤ n := by omega
    by_cases hn2 : 16 < n
    · have hn2b : ¬ n ≤ 16 := by omega
      have hn0 : ¬ n = 0 := by omega
      simp [c_tree_shape, hP, hB, tup, get0, hcl, hbl, hccl, hC, Sm.rows, hN, hna, hs0, hn1, hn1b, hn2, hn2b, hn0]
    have hn2b : n ≤ 16 := by omega
    by_cases hn0 : n = 0
    case neg => simp [c_tree_shape, hP, hB, tup, get0, hcl, hbl, hccl, hC, Sm.rows, hN, hna, hs0, hn1, hn1b, hn2, hn2b, hn0]
    subst hn0
    cases g with
    | true => simp [c_tree_shape, hP, hB, tup, get0, hcl, hbl, hccl, hC, Sm.rows, hN, hna, hs0]
    | false =>
    by_cases hb0 : b = []
    case neg =>
      have hb1 : 0 < b.length := List.length_pos_iff.2 hb0
      simp [c_tree_shape, hP, hB, tup, get0, hcl, hbl, hccl, hC, Sm.rows, hN, hna, hs0, hb0, hb1]
    subst hb0
    by_cases hc0 : c = []
    case neg =>
      have hc1 : 0 < c.length := List.length_pos_iff.2 hc0
      simp [c_tree_shape, hP, hB, tup, get0, hcl, hbl, hccl, hC, Sm.rows, hN, hna, hs0, hc0, hc1]
    subst hc0
    simp [c_tree_shape, hP, hB, tup, get0, hcl, hbl, hccl, hC, Sm.rows, hN, hna, hs0]
  by_cases h13 : op = 13
  · subst h13
    by_cases hs0 : s = []
    case neg => simp [c_tree_shape, hP, hB, tup, get0, hcl, hbl, hccl, hC, Sm.rows, hs0]
    by_cases hn1 : n < 0
    · have hn1b : ¬ 0 ≤ n := by omega
      have hn0 : ¬ n = 0 := by omega
      simp [c_tree_shape, hP, hB, tup, get0, hcl, hbl, hccl, hC, Sm.rows, hs0, hn1, hn1b, hn0]
    have hn1b : 0 ≤ n := by omega
    by_cases hn2 : 16 < n
    · have hn2b : ¬ n ≤ 16 := by omega
      have hn0 : ¬ n = 0 := by omega
      simp [c_tree_shape, hP, hB, tup, get0, hcl, hbl, hccl, hC, Sm.rows, hs0, hn1, hn1b, hn2, hn2b, hn0]
    have hn2b : n ≤ 16 := by omega
    by_cases hn0 : n = 0
    case neg => simp [c_tree_shape, hP, hB, tup, get0, hcl, hbl, hccl, hC, Sm.rows, hs0, hn1, hn1b, hn2, hn2b, hn0]
    subst hn0
    cases g with
    | true => simp [c_tree_shape, hP, hB, tup, get0, hcl, hbl, hccl, hC, Sm.rows, hs0]
    | false =>
    simp [c_tree_shape, hP, hB, tup, get0, hcl, hbl, hccl, hC, Sm.rows, hs0]
  by_cases h14 : op = 14
  · subst h14
    by_cases hs0 : s = []
    case neg => simp [c_tree_shape, hP, hB, tup, get0, hcl, hbl, hccl, hC, Sm.rows, hs0]
    by_cases hn1 : n < 0
    · have hn1b : ¬ 0 ≤ n := by omega
      have hn0 : ¬ n = 0 := by omega
      simp [c_tree_shape, hP, hB, tup, get0, hcl, hbl, hccl, hC, Sm.rows, hs0, hn1, hn1b, hn0]
    have hn1b : 0 ≤ n := by omega
    by_cases hn2 : 16 < n
    · have hn2b : ¬ n ≤ 16 := by omega
      have hn0 : ¬ n = 0 := by omega
      simp [c_tree_shape, hP, hB, tup, get0, hcl, hbl, hccl, hC, Sm.rows, hs0, hn1, hn1b, hn2, hn2b, hn0]
    have hn2b : n ≤ 16 := by omega
    by_cases hn0 : n = 0
    · subst hn0
      cases g with
      | true => simp [c_tree_shape, hP, hB, tup, get0, hcl, hbl, hccl, hC, Sm.rows, hs0]
      | false =>
      by_cases hc0 : c = []
      case neg =>
        have hc1 : 0 < c.length := List.length_pos_iff.2 hc0
        simp [c_tree_shape, hP, hB, tup, get0, hcl, hbl, hccl, hC, Sm.rows, hs0, hc0, hc1]
      subst hc0
      simp [c_tree_shape, hP, hB, tup, get0, hcl, hbl, hccl, hC, Sm.rows, hs0]
    cases g with
    | true => simp [c_tree_shape, hP, hB, tup, get0, hcl, hbl, hccl, hC, Sm.rows, hs0, hn1, hn1b, hn2, hn2b, hn0]
    | false =>
    by_cases hc0 : c = []
    case neg =>
      have hc1 : 0 < c.length := List.length_pos_iff.2 hc0
      simp [c_tree_shape, hP, hB, tup, get0, hcl, hbl, hccl, hC, Sm.rows, hs0, hn1, hn1b, hn2, hn2b, hn0, hc0, hc1]
    subst hc0
    simp [c_tree_shape, hP, hB, tup, get0, hcl, hbl, hccl, hC, Sm.rows, hs0, hn1, hn1b, hn2, hn2b, hn0]
  by_cases h15 : op = 15
  · subst h15
    cases hna : isName s with
    | false =>
      rw [hna] at hN
      by_cases hs0 : s = []
      · simp [c_tree_shape, hP, hB, tup, get0, hcl, hbl, hccl, hC, Sm.rows, hN, hna, hs0]
      · simp [c_tree_shape, hP, hB, tup, get0, hcl, hbl, hccl, hC, Sm.rows, hN, hna, hs0]
    | true =>
    rw [hna] at hN
    have hs0 : ¬ s = [] := by rintro rfl; simp [isName] at hna
    by_cases hn1 : n < 0
    · have hn1b : ¬ 0 ≤ n := by omega
      have hn0 : ¬ n = 0 := by omega
      simp [c_tree_shape, hP, hB, tup, get0, hcl, hbl, hccl, hC, Sm.rows, hN, hna, hs0, hn1, hn1b, hn0]
    have hn1b : 0 ≤ n := by omega
    by_cases hn2 : 16 < n
    · have hn2b : ¬ n ≤ 16 := by omega
      have hn0 : ¬ n = 0 := by omega
      simp [c_tree_shape, hP, hB, tup, get0, hcl, hbl, hccl, hC, Sm.rows, hN, hna, hs0, hn1, hn1b, hn2, hn2b, hn0]
    have hn2b : n ≤ 16 := by omega
    by_cases hn0 : n = 0
    case neg => simp [c_tree_shape, hP, hB, tup, get0, hcl, hbl, hccl, hC, Sm.rows, hN, hna, hs0, hn1, hn1b, hn2, hn2b, hn0]
    subst hn0
    cases g with
    | true => simp [c_tree_shape, hP, hB, tup, get0, hcl, hbl, hccl, hC, Sm.rows, hN, hna, hs0]
    | false =>
    by_cases hb0 : b = []
    case neg =>
      have hb1 : 0 < b.length := List.length_pos_iff.2 hb0
      simp [c_tree_shape, hP, hB, tup, get0, hcl, hbl, hccl, hC, Sm.rows, hN, hna, hs0, hb0, hb1]
    subst hb0
    by_cases hc0 : c = []
    case neg =>
      have hc1 : 0 < c.length := List.length_pos_iff.2 hc0
      simp [c_tree_shape, hP, hB, tup, get0, hcl, hbl, hccl, hC, Sm.rows, hN, hna, hs0, hc0, hc1]
    subst hc0
    simp [c_tree_shape, hP, hB, tup, get0, hcl, hbl, hccl, hC, Sm.rows, hN, hna, hs0]
  by_cases h16 : op = 16
  · subst h16
    by_cases hs0 : s = []
    case neg => simp [c_tree_shape, hP, hB, tup, get0, hcl, hbl, hccl, hC, Sm.rows, hs0]
    by_cases hn1 : n < 0
    · have hn1b : ¬ 0 ≤ n := by omega
      have hn0 : ¬ n = 0 := by omega
      simp [c_tree_shape, hP, hB, tup, get0, hcl, hbl, hccl, hC, Sm.rows, hs0, hn1, hn1b, hn0]
    have hn1b : 0 ≤ n := by omega
    by_cases hn2 : 16 < n
    · have hn2b : ¬ n ≤ 16 := by omega
      have hn0 : ¬ n = 0 := by omega
      simp [c_tree_shape, hP, hB, tup, get0, hcl, hbl, hccl, hC, Sm.rows, hs0, hn1, hn1b, hn2, hn2b, hn0]
    have hn2b : n ≤ 16 := by omega
    by_cases hn0 : n = 0
    case neg => simp [c_tree_shape, hP, hB, tup, get0, hcl, hbl, hccl, hC, Sm.rows, hs0, hn1, hn1b, hn2, hn2b, hn0]
    subst hn0
    cases g with
    | true =>
      by_cases hc0 : c = []
      case neg =>
        have hc1 : 0 < c.length := List.length_pos_iff.2 hc0
        simp [c_tree_shape, hP, hB, tup, get0, hcl, hbl, hccl, hC, Sm.rows, hs0, hc0, hc1]
      subst hc0
      simp [c_tree_shape, hP, hB, tup, get0, hcl, hbl, hccl, hC, Sm.rows, hs0]
    | false =>
      by_cases hc0 : c = []
      case neg =>
        have hc1 : 0 < c.length := List.length_pos_iff.2 hc0
        simp [c_tree_shape, hP, hB, tup, get0, hcl, hbl, hccl, hC, Sm.rows, hs0, hc0, hc1]
      subst hc0
      simp [c_tree_shape, hP, hB, tup, get0, hcl, hbl, hccl, hC, Sm.rows, hs0]
  by_cases hs0 : s = []
  case neg => simp [c_tree_shape, hP, hB, tup, get0, hcl, hbl, hccl, hC, Sm.rows, h12, h13, h14, h15, h16, hs0]
  by_cases hn1 : n < 0
  · have hn1b : ¬ 0 ≤ n := by omega
    have hn0 : ¬ n = 0 := by omega
    simp [c_tree_shape, hP, hB, tup, get0, hcl, hbl, hccl, hC, Sm.rows, h12, h13, h14, h15, h16, hs0, hn1, hn1b, hn0]
  have hn1b : 0 ≤ n := by omega
  by_cases hn2 : 16 < n
  · have hn2b : ¬ n ≤ 16 := by omega
    have hn0 : ¬ n = 0 := by omega
    simp [c_tree_shape, hP, hB, tup, get0, hcl, hbl, hccl, hC, Sm.rows, h12, h13, h14, h15, h16, hs0, hn1, hn1b, hn2, hn2b, hn0]
  have hn2b : n ≤ 16 := by omega
  by_cases hn0 : n = 0
  case neg => simp [c_tree_shape, hP, hB, tup, get0, hcl, hbl, hccl, hC, Sm.rows, h12, h13, h14, h15, h16, hs0, hn1, hn1b, hn2, hn2b, hn0]
  subst hn0
  cases g with
  | true => simp [c_tree_shape, hP, hB, tup, get0, hcl, hbl, hccl, hC, Sm.rows, h12, h13, h14, h15, h16, hs0]
  | false =>
  by_cases hb0 : b = []
  case neg =>
    have hb1 : 0 < b.length := List.length_pos_iff.2 hb0
    simp [c_tree_shape, hP, hB, tup, get0, hcl, hbl, hccl, hC, Sm.rows, h12, h13, h14, h15, h16, hs0, hb0, hb1]
  subst hb0
  by_cases hc0 : c = []
  case neg =>
    have hc1 : 0 < c.length := List.length_pos_iff.2 hc0
    simp [c_tree_shape, hP, hB, tup, get0, hcl, hbl, hccl, hC, Sm.rows, h12, h13, h14, h15, h16, hs0, hc0, hc1]
  subst hc0
  simp [c_tree_shape, hP, hB, tup, get0, hcl, hbl, hccl, hC, Sm.rows, h12, h13, h14, h15, h16, hs0]
def txnOk (op : Int) (b : List Sm) : Bool := decide (op ≠ 16) || (decide (b.length ≤ 8) && b.all fun x => decide (x.op = 3))
mutual
def Sm.ok : Sm → Nat → Bool
  | .mk op s n e b c g, d => decide (d ≤ 8) && (shapeOk op s n e b c g && (txnOk op b && (Sm.oks b (d + 1) && Sm.oks c (d + 1))))
def Sm.oks : List Sm → Nat → Bool
  | [], _ => true
  | e :: l, d => e.ok d && Sm.oks l d
end
theorem Sm.oks_all (l : List Sm) (d : Nat) : Sm.oks l d = l.all fun e => e.ok d := by
  induction l with
  | nil => simp [Sm.oks]
  | cons e l ih => simp [Sm.oks, ih]
def StOK (d : Nat) (e : Sm) : Prop := ∀ H, eval tbl noExt n_tree_stmt [.agg e.cells, .int .i64 d] H = some (.bool (e.ok d), H)
def BlOK (d : Nat) (l : List Sm) : Prop := ∀ H, eval tbl noExt n_tree_block [.sl 7 (Sm.rows l), .int .i64 d] H = some (.bool (Sm.oks l d), H)
theorem block_1_eq (d : Nat) (hd : d ≤ 20000) (e : Sm) (he : StOK d e) (K : Heap) (j : Nat) (hK : K[j]? = some (some [.int .i64 (d : Int)])) (hj : j < K.length) :
    eval tbl noExt n_tree_block_1 [.agg e.cells, .ptr j 0] K = some (.bool (!e.ok d), K) := by
  have hK2 : ∀ r, (K ++ r)[j]? = some (some [.int .i64 (d : Int)]) := fun r => by rw [List.getElem?_append_left hj]; exact hK
  have he0 := he []
  obtain ⟨op, s, n, x, b, c, g⟩ := e
  simp only [Sm.cells] at he0 ⊢
  rw [eval_M rfl rfl t_tree_block_1 rfl]
  simp [c_tree_block_1, get0, hK2, he0]
theorem block_step_ok (d : Nat) (hd : d ≤ 20000) (l : List Sm) (hl : l.length ≤ 20000) (hx : ∀ e ∈ l, StOK d e) : BlOK d l := by
  intro H
  have hc : eval tbl noExt n_sC_Stmt_api_Stmt_x [.sl 7 (Sm.rows l), .fn (.func n_tree_block_1) [] [.ptr H.length 0]] (H ++ [some [.int .i64 (d : Int)]]) = some (.bool (!Sm.oks l d), H ++ [some [.int .i64 (d : Int)]]) := by
    rw [Sm.rows_eq, Sm.oks_all, ← any_not]
    exact ContainsFunc_api_Stmt_api_Stmt_x (first := []) lt_tree_block_1 Sm.cells l (by omega) (fun e => !e.ok d) _ (fun e _ => Sm.strips e) (fun e he => block_1_eq d hd e (hx e he) _ _ (by rw [get0]) (by simp))
  rw [eval_M rfl rfl t_tree_block rfl]
  simp [c_tree_block, hc]
theorem stmt_1_eq (e : Sm) (K : Heap) : eval tbl noExt n_tree_stmt_1 [.agg e.cells] K = some (.bool (!decide (e.op = 3)), K) := by
  obtain ⟨op, s, n, x, b, c, g⟩ := e
  rw [eval_M rfl rfl t_tree_stmt_1 rfl]
  simp [c_tree_stmt_1, get0, Sm.cells, Sm.op]
  rfl
theorem stmt_step_ok (d : Nat) (hd : d ≤ 19500) (op n : Int) (s : List UInt8) (x : List Ex) (b c : List Sm) (g : Bool) (hs : s.length ≤ 300) (hl : x.length ≤ 20000) (hbl : b.length ≤ 20000) (hx : ∀ e ∈ x, ExOK 8 e) (hb : BlOK (d + 1) b) (hc : BlOK (d + 1) c) : StOK d (.mk op s n x b c g) := by
  intro H
  have hS := shape_eq op n s x b c g hs hl hx []
  have hw : IntKind.i64.wrap ((d : Int) + 1) = (d : Int) + 1 := w64 (by omega) (by omega)
  have hT : ∀ K, eval tbl noExt n_sC_Stmt_api_Stmt_x [.sl 7 (Sm.rows b), .fn (.func n_tree_stmt_1) [] []] K = some (.bool (!(b.all fun x => decide (x.op = 3))), K) := by
    intro K
    rw [Sm.rows_eq, ← any_not]
    exact ContainsFunc_api_Stmt_api_Stmt_x (first := []) (cap := []) lt_tree_stmt_1 Sm.cells b (by omega) (fun e => !decide (e.op = 3)) K (fun e _ => Sm.strips e) (fun e he => stmt_1_eq e K)
  have hb0 := hb []
  have hc0 := hc []
  have hrl : (Sm.rows b).length = b.length := by rw [Sm.rows_eq]; simp
  simp only [Sm.cells, Int.natCast_add, Int.cast_ofNat_Int] at hS hb0 hc0 ⊢
  rw [eval_M rfl rfl t_tree_stmt rfl]
  simp only [Sm.ok, txnOk]
  generalize (b.all fun x => decide (x.op = 3)) = all at hT ⊢
  by_cases h8 : d ≤ 8
  · have h8' : ¬ (8 : Int) < d := by omega
    cases hso : shapeOk op s n x b c g with
    | false =>
      rw [hso] at hS
      simp [c_tree_stmt, get0, h8, h8', hS]
    | true =>
      rw [hso] at hS
      by_cases h16 : op = 16
      · subst h16
        by_cases hb8 : b.length ≤ 8
        · have hb8' : ¬ (8 : Int) < b.length := by omega
          cases all with
          | false => simp [c_tree_stmt, get0, h8, h8', hS, hb8, hb8', hrl, hT]
          | true =>
            cases hbo : Sm.oks b (d + 1) with
            | false =>
              rw [hbo] at hb0
              simp [c_tree_stmt, get0, h8, h8', hS, hb8, hb8', hrl, hT, hw, hb0]
            | true =>
              rw [hbo] at hb0
              simp [c_tree_stmt, get0, h8, h8', hS, hb8, hb8', hrl, hT, hw, hb0, hc0]
        · have hb8' : (8 : Int) < b.length := by omega
          simp [c_tree_stmt, get0, h8, h8', hS, hb8, hb8', hrl]
      · cases hbo : Sm.oks b (d + 1) with
        | false =>
          rw [hbo] at hb0
          simp [c_tree_stmt, get0, h8, h8', hS, h16, hw, hb0]
        | true =>
          rw [hbo] at hb0
          simp [c_tree_stmt, get0, h8, h8', hS, h16, hw, hb0, hc0]
  · have h8' : (8 : Int) < d := by omega
    simp [c_tree_stmt, get0, h8, h8']
theorem exs_ok1 {n : Nat} (hn : n ≤ 20000) {x : List Ex} (hx : Ex.sizes x ≤ n) (ht : Ex.txts x) : ∀ e ∈ x, ExOK 8 e := by
  intro e he
  have hm := Ex.sizes_mem he
  refine expr_ok1 n e (by omega) hn ?_ 8 (by omega)
  induction x with
  | nil => simp at he
  | cons y l ih =>
    rcases List.mem_cons.1 he with rfl | he
    · exact ht.1
    · exact ih (by simp only [Ex.sizes] at hx; omega) ht.2 he (Ex.sizes_mem he)
theorem stmt_ok1 : ∀ (n : Nat) (l : List Sm), Sm.sizes l ≤ n → n ≤ 19500 → Sm.txts l → ∀ d, d + n ≤ 19500 → BlOK d l := by
  intro n
  induction n with
  | zero =>
    intro l h hn ht d hd
    have : l = [] := by
      cases l with
      | nil => rfl
      | cons e l => cases e; simp only [Sm.sizes, Sm.size] at h; omega
    subst this
    exact block_step_ok d (by omega) [] (by simp) (by simp)
  | succ n ih =>
    intro l h hn ht d hd
    have hll := Sm.sizes_ge l
    have hall : ∀ e ∈ l, StOK d e := by
      intro e he
      have hm := Sm.sizes_mem he
      have het : e.txt := by
        clear h hll hm
        induction l with
        | nil => simp at he
        | cons y l ih2 =>
          rcases List.mem_cons.1 he with rfl | he
          · exact ht.1
          · exact ih2 ht.2 he
      obtain ⟨op, s, m, x, b, c, g⟩ := e
      simp only [Sm.size] at hm
      simp only [Sm.txt] at het
      have hbl := Sm.sizes_ge b
      have hxl := Ex.sizes_ge x
      have hx := exs_ok1 (n := 19500) (by omega) (x := x) (by omega) het.2.1
      have hb := ih b (by omega) (by omega) het.2.2.1 (d + 1) (by omega)
      have hc := ih c (by omega) (by omega) het.2.2.2 (d + 1) (by omega)
      exact stmt_step_ok d (by omega) op m s x b c g het.1 (by omega) (by omega) hx hb hc
    exact block_step_ok d (by omega) l (by omega) hall
def Pg.ok (p : Pg) : Bool :=
  decide (p.procs.length ≤ 16) && (decide (p.oracles.length ≤ 16) && (decide (p.flats.length ≤ 256) &&
    ((p.procs.all fun x => isName x.1 && Sm.oks x.2 1) && ((p.oracles.all fun x => isName x.1 && x.2.ok 8) && (Sm.oks p.main 1 && Sm.oks p.recover 1)))))
theorem Right_1_eq (x : List UInt8 × List Sm) (hx : x.1.length ≤ 300) (K : Heap) : eval tbl noExt n_tree_Right_1 [.agg [.str x.1, .sl 7 (Sm.rows x.2)]] K = some (.bool (!isName x.1), K) := by
  have hN := Name_eq x.1 (by omega)
  rw [eval_M rfl rfl t_tree_Right_1 rfl]
  simp [c_tree_Right_1, get0, hN]
theorem Right_2_eq (x : List UInt8 × Ex) (hx : x.1.length ≤ 300) (he : ExOK 8 x.2) (K : Heap) : eval tbl noExt n_tree_Right_2 [.agg (.str x.1 :: x.2.cells)] K = some (.bool (!(isName x.1 && x.2.ok 8)), K) := by
  have hN := Name_eq x.1 (by omega)
  have he0 := he []
  obtain ⟨s, e⟩ := x
  obtain ⟨op, n, t, y⟩ := e
  simp only [Ex.cells, Int.cast_ofNat_Int] at he0 hN ⊢
  rw [eval_M rfl rfl t_tree_Right_2 rfl]
  cases hb : isName s with
  | false =>
    rw [hb] at hN
    simp [c_tree_Right_2, get0, hN]
  | true =>
    rw [hb] at hN
    simp [c_tree_Right_2, get0, hN, he0]
theorem Right_3_eq (b : List Sm) (hb : BlOK 1 b) (K : Heap) : eval tbl noExt n_tree_Right_3 [.sl 7 (Sm.rows b)] K = some (.bool (!Sm.oks b 1), K) := by
  have h0 := hb []
  simp only [Int.cast_ofNat_Int] at h0
  rw [eval_M rfl rfl t_tree_Right_3 rfl]
  simp [c_tree_Right_3, h0]
structure Pg.Fine (p : Pg) : Prop where
  size : p.size ≤ 19000
  txt : p.txt
theorem Pg.lens (p : Pg) (h : p.size ≤ 19000) : p.procs.length ≤ 19000 ∧ p.oracles.length ≤ 19000 ∧ p.parts.length ≤ 20000 := by
  have hs := p.size_eq
  simp only [Pg.parts, List.length_append, List.length_map, List.length_cons, List.length_nil]
  omega
theorem Pg.Fine.proc {p : Pg} (h : p.Fine) {x : List UInt8 × List Sm} (hx : x ∈ p.procs) : BlOK 1 x.2 := by
  have hs := p.parts_size
  have hm : x.2 ∈ p.parts := by simp only [Pg.parts, List.mem_append, List.mem_map]; exact .inl ⟨x, hx, rfl⟩
  have := sizes_flatten hm
  have := h.size
  exact stmt_ok1 19000 x.2 (by omega) (by omega) (h.txt.1 x hx).2 1 (by omega)
theorem Pg.Fine.main {p : Pg} (h : p.Fine) : BlOK 1 p.main := by
  have := h.size
  exact stmt_ok1 19000 p.main (by simp only [Pg.size] at this; omega) (by omega) h.txt.2.1 1 (by omega)
theorem Pg.Fine.recover {p : Pg} (h : p.Fine) : BlOK 1 p.recover := by
  have := h.size
  exact stmt_ok1 19000 p.recover (by simp only [Pg.size] at this; omega) (by omega) h.txt.2.2.1 1 (by omega)
theorem Pg.Fine.oracle {p : Pg} (h : p.Fine) {x : List UInt8 × Ex} (hx : x ∈ p.oracles) : ExOK 8 x.2 := by
  have hs := p.size_eq
  have hm : x.2 ∈ p.exprs := by simp only [Pg.exprs, List.mem_map]; exact ⟨x, hx, rfl⟩
  have := Ex.sizes_mem hm
  have := h.size
  exact expr_ok1 19000 x.2 (by omega) (by omega) (h.txt.2.2.2 x hx).2 8 (by omega)
theorem Pg.Fine.part {p : Pg} (h : p.Fine) {b : List Sm} (hb : b ∈ p.parts) : BlOK 1 b := by
  simp only [Pg.parts, List.mem_append, List.mem_map, List.mem_cons, List.not_mem_nil, or_false] at hb
  rcases hb with ⟨x, hx, rfl⟩ | rfl | rfl
  · exact h.proc hx
  · exact h.main
  · exact h.recover
theorem Right_eq (p : Pg) (h : p.Fine) (H : Heap) : eval tbl noExt n_tree_Right [.agg p.cells] H = some (.bool p.ok, H) := by
  have hl := p.lens h.size
  have hsz := h.size
  have ha := All_eq p (by omega)
  have h1 : ∀ K, eval tbl noExt n_sC_Proc_api_Proc [.sl 2 p.pcells, .fn (.func n_tree_Right_1) [] []] K = some (.bool (!(p.procs.all fun x => isName x.1)), K) := by
    intro K
    rw [← any_not]
    exact ContainsFunc_api_Proc_api_Proc (first := []) (cap := []) lt_tree_Right_1 (fun x : List UInt8 × List Sm => [V.str x.1, .sl 7 (Sm.rows x.2)]) p.procs (by omega) (fun x => !isName x.1) K (fun x _ => by simp) (fun x hx => Right_1_eq x (h.txt.1 x hx).1 K)
  have h2 : ∀ K, eval tbl noExt n_sC_Oracle_api_Oracle [.sl 5 p.ocells, .fn (.func n_tree_Right_2) [] []] K = some (.bool (!(p.oracles.all fun x => isName x.1 && x.2.ok 8)), K) := by
    intro K
    rw [← any_not]
    exact ContainsFunc_api_Oracle_api_Oracle (first := []) (cap := []) lt_tree_Right_2 (fun x : List UInt8 × Ex => V.str x.1 :: x.2.cells) p.oracles (by omega) (fun x => !(isName x.1 && x.2.ok 8)) K (fun x _ => by have := Ex.strips x.2; simp only [allStrip] at this; simp [this]) (fun x hx => Right_2_eq x (h.txt.2.2.2 x hx).1 (h.oracle hx) K)
  have h3 : ∀ K, eval tbl noExt n_sC_Stmt_api_Stmt [.own 1 (p.parts.map brow), .fn (.func n_tree_Right_3) [] []] K = some (.bool (!(p.parts.all fun b => Sm.oks b 1)), K) := by
    intro K
    rw [← any_not]
    exact ContainsFunc_api_Stmt_api_Stmt_own (first := []) (cap := []) lt_tree_Right_3 (fun b : List Sm => Sm.rows b) p.parts (by omega) (fun b => !Sm.oks b 1) K (fun b hb => Right_3_eq b (h.part hb) K)
  have hp : ∀ K, eval tbl noExt n_tree_parts [.agg p.cells] K = some (.own 1 (p.parts.map brow), K) := fun K => parts_eq p (by omega) K
  have hparts : (p.parts.all fun b => Sm.oks b 1) = ((p.procs.all fun x => Sm.oks x.2 1) && (Sm.oks p.main 1 && Sm.oks p.recover 1)) := by
    simp [Pg.parts, Function.comp_def]
  have hprocs : (p.procs.all fun x => isName x.1 && Sm.oks x.2 1) = ((p.procs.all fun x => isName x.1) && (p.procs.all fun x => Sm.oks x.2 1)) := by
    generalize p.procs = l
    induction l with
    | nil => rfl
    | cons x l ih => simp only [List.all_cons, ih]; cases isName x.1 <;> cases Sm.oks x.2 1 <;> simp
  rw [hparts] at h3
  simp only [Pg.ok, hprocs]
  have hfl : (Sm.rows p.flats).length = p.flats.length := by rw [Sm.rows_eq]; simp
  have hpl := p.pcells_len
  have hol := p.ocells_len
  rw [eval_M rfl rfl t_tree_Right rfl]
  generalize (p.procs.all fun x => isName x.1) = b1 at h1 ⊢
  generalize (p.procs.all fun x => Sm.oks x.2 1) = b2 at h3 ⊢
  generalize (p.oracles.all fun x => isName x.1 && x.2.ok 8) = b3 at h2 ⊢
  generalize (Sm.oks p.main 1 && Sm.oks p.recover 1) = b4 at h3 ⊢
  simp only [Pg.cells] at ha hp ⊢
  by_cases c1 : p.procs.length ≤ 16
  case neg =>
    have c1' : (16 : Int) < p.procs.length := by omega
    simp [c_tree_Right, get0, hpl, hol, c1, c1']
  have c1' : ¬ (16 : Int) < p.procs.length := by omega
  by_cases c2 : p.oracles.length ≤ 16
  case neg =>
    have c2' : (16 : Int) < p.oracles.length := by omega
    simp [c_tree_Right, get0, hpl, hol, c1, c1', c2, c2']
  have c2' : ¬ (16 : Int) < p.oracles.length := by omega
  by_cases c3 : p.flats.length ≤ 256
  case neg =>
    have c3' : (256 : Int) < p.flats.length := by omega
    simp [c_tree_Right, get0, hpl, hol, c1, c1', c2, c2', ha, hfl, c3, c3']
  have c3' : ¬ (256 : Int) < p.flats.length := by omega
  cases b1 with
  | false => simp [c_tree_Right, get0, hpl, hol, c1, c1', c2, c2', ha, hfl, c3, c3', h1]
  | true =>
    cases b3 with
    | false => simp [c_tree_Right, get0, hpl, hol, c1, c1', c2, c2', ha, hfl, c3, c3', h1, h2]
    | true => simp [c_tree_Right, get0, hpl, hol, c1, c1', c2, c2', ha, hfl, c3, c3', h1, h2, hp, h3]
end Go.AM.Spec
