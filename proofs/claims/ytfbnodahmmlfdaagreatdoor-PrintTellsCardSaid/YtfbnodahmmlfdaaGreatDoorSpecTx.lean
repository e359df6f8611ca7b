/-
 The parts of this proof that speak of the functions one by one.
-/
import Derived.Test.YtfbnodahmmlfdaaGreatDoorSpc
import Derived.Test.YtfbnodahmmlfdaaGreatDoorSpecTr
import Derived.Test.YtfbnodahmmlfdaaGreatDoorTyl
namespace Go.AM.Spec
set_option linter.unusedVariables false
set_option linter.unusedSimpArgs false
set_option maxHeartbeats 4000000
set_option maxRecDepth 10000
theorem IndexFunc_api_Expr_api_Expr_loop {α : Type} {f : Nat} {first cap : List V} (hp : f < yBase) (g : α → List V) (l : List α) (hl : l.length ≤ 1000000) (p : α → Bool) (H : Heap) (call : CallF)
  (hw : ∀ a ∈ l, (g a).length = 4 ∧ allStrip (g a) = g a)
  (hf : ∀ a ∈ l, call f (first ++ [.agg (g a)] ++ cap) H = some (.bool (p a), H)) (Q : Option (V × Heap) → Prop) (k : List Item)
  (hret : ∀ φ' (i : Nat), l.any p = true → Fr.get φ' 4 = .int .i64 i → Q (retK k φ' H)) (hexit : ∀ φ', l.any p = false → Q (M call k φ' H)) :
  ∀ (j i : Nat) (φ : Fr), i + j = l.length → l.any p = (l.drop i).any p → Fr.get φ 0 = .sl 4 (l.map g) → Fr.get φ 1 = .fn (.func f) first cap → Fr.get φ 7 = .int .i64 l.length → Fr.get φ 8 = .int .i64 i →
   Q (M call (.code l_slices_IndexFunc_api_Expr_api_Expr_0 :: .blk 0 :: k) φ H) := by
 intro j
 induction j with
 | zero =>
  intro i φ hj hs h0 h1 h7 h8
  have hi : ¬ ((i : Int) < l.length) := by omega
  rw [List.drop_of_length_le (by omega)] at hs
  rw [l_slices_IndexFunc_api_Expr_api_Expr_0, M_loop, ← l_slices_IndexFunc_api_Expr_api_Expr_0]
  simp [b_slices_IndexFunc_api_Expr_api_Expr_0, h0, h1, h7, h8, hi]
  exact hexit _ (by rw [hs]; rfl)
 | succ j ih =>
  intro i φ hj hs h0 h1 h7 h8
  have hi : (i : Int) < l.length := by omega
  have hil : i < l.length := by omega
  obtain ⟨a, ha, hmem, hd⟩ : ∃ a, l[i]? = some a ∧ a ∈ l ∧ l.drop i = a :: l.drop (i + 1) := ⟨l[i], List.getElem?_eq_getElem hil, List.getElem_mem hil, List.drop_eq_getElem_cons hil⟩
  have hr : (l.map g)[i]? = some (g a) := by rw [List.getElem?_map, ha]; rfl
  have hgl : (l.map g).length = l.length := List.length_map ..
  have hw1 : IntKind.i64.wrap ((i : Int) + 1) = ((i + 1 : Nat) : Int) := by rw [w64 (by omega) (by omega)]; rfl
  have hcall := hf a hmem
  have hshape := hw a hmem
  rw [hd, List.any_cons] at hs
  have hlen := hshape.1
  have hstrip := hshape.2
  simp only [allStrip] at hstrip
  rw [l_slices_IndexFunc_api_Expr_api_Expr_0, M_loop, ← l_slices_IndexFunc_api_Expr_api_Expr_0]
  cases hb : p a with
  | true =>
   rw [hb, Bool.true_or] at hs
   rw [hb] at hcall
   simp at hcall
   simp [b_slices_IndexFunc_api_Expr_api_Expr_0, h0, h1, h7, h8, hi, hgl, hr, hp, hcall, hlen, hstrip, List.take_of_length_le]
   exact hret _ i hs (by simp)
  | false =>
   rw [hb, Bool.false_or] at hs
   rw [hb] at hcall
   simp at hcall
   simp [b_slices_IndexFunc_api_Expr_api_Expr_0, h0, h1, h7, h8, hi, hgl, hr, hp, hcall, hw1, hlen, hstrip, List.take_of_length_le]
   exact ih (i + 1) _ (by omega) hs (by simp [h0]) (by simp [h1]) (by simp [h7]) (by simp)
theorem ContainsFunc_api_Expr_api_Expr {α : Type} {f : Nat} {first cap : List V} (hp : f < yBase) (g : α → List V) (l : List α) (hl : l.length ≤ 1000000) (p : α → Bool) (H : Heap)
  (hw : ∀ a ∈ l, (g a).length = 4 ∧ allStrip (g a) = g a)
  (hf : ∀ a ∈ l, eval tbl noExt f (first ++ [.agg (g a)] ++ cap) H = some (.bool (p a), H)) :
  eval tbl noExt n_slices_ContainsFunc_api_Expr_api_Expr [.sl 4 (l.map g), .fn (.func f) first cap] H = some (.bool (l.any p), H) := by
 obtain ⟨n, hn, hn2⟩ : ∃ n : Int, eval tbl noExt n_slices_IndexFunc_api_Expr_api_Expr [.sl 4 (l.map g), .fn (.func f) first cap] H = some (.int .i64 n, H) ∧ decide (0 ≤ n) = l.any p := by
  rw [eval_M rfl rfl t_slices_IndexFunc_api_Expr_api_Expr rfl]
  simp [c_slices_IndexFunc_api_Expr_api_Expr]
  refine IndexFunc_api_Expr_api_Expr_loop hp g l hl p H _ hw hf (fun o => ∃ n : Int, o = some (.int .i64 n, H) ∧ decide (0 ≤ n) = l.any p) _ (fun φ' i h g => ?_) (fun φ' h => ?_) l.length 0 _ (by omega) (by simp) (by simp) (by simp) (by simp) (by simp)
  ·exact ⟨i, by simp [g], by rw [h]; simp⟩
  ·exact ⟨-1, by simp [r_slices_IndexFunc_api_Expr_api_Expr_0], by rw [h]; simp⟩
 rw [eval_M rfl rfl t_slices_ContainsFunc_api_Expr_api_Expr rfl]
 simp [c_slices_ContainsFunc_api_Expr_api_Expr, hn, hn2]
theorem IndexFunc_api_Stmt_api_Stmt_x_loop {α : Type} {f : Nat} {first cap : List V} (hp : f < yBase) (g : α → List V) (l : List α) (hl : l.length ≤ 1000000) (p : α → Bool) (H : Heap) (call : CallF)
  (hw : ∀ a ∈ l, (g a).length = 7 ∧ allStrip (g a) = g a)
  (hf : ∀ a ∈ l, call f (first ++ [.agg (g a)] ++ cap) H = some (.bool (p a), H)) (Q : Option (V × Heap) → Prop) (k : List Item)
  (hret : ∀ φ' (i : Nat), l.any p = true → Fr.get φ' 4 = .int .i64 i → Q (retK k φ' H)) (hexit : ∀ φ', l.any p = false → Q (M call k φ' H)) :
  ∀ (j i : Nat) (φ : Fr), i + j = l.length → l.any p = (l.drop i).any p → Fr.get φ 0 = .sl 7 (l.map g) → Fr.get φ 1 = .fn (.func f) first cap → Fr.get φ 7 = .int .i64 l.length → Fr.get φ 8 = .int .i64 i →
   Q (M call (.code l_slices_IndexFunc_api_Stmt_api_Stmt_x_0 :: .blk 0 :: k) φ H) := by
 intro j
 induction j with
 | zero =>
  intro i φ hj hs h0 h1 h7 h8
  have hi : ¬ ((i : Int) < l.length) := by omega
  rw [List.drop_of_length_le (by omega)] at hs
  rw [l_slices_IndexFunc_api_Stmt_api_Stmt_x_0, M_loop, ← l_slices_IndexFunc_api_Stmt_api_Stmt_x_0]
  simp [b_slices_IndexFunc_api_Stmt_api_Stmt_x_0, h0, h1, h7, h8, hi]
  exact hexit _ (by rw [hs]; rfl)
 | succ j ih =>
  intro i φ hj hs h0 h1 h7 h8
  have hi : (i : Int) < l.length := by omega
  have hil : i < l.length := by omega
  obtain ⟨a, ha, hmem, hd⟩ : ∃ a, l[i]? = some a ∧ a ∈ l ∧ l.drop i = a :: l.drop (i + 1) := ⟨l[i], List.getElem?_eq_getElem hil, List.getElem_mem hil, List.drop_eq_getElem_cons hil⟩
  have hr : (l.map g)[i]? = some (g a) := by rw [List.getElem?_map, ha]; rfl
  have hgl : (l.map g).length = l.length := List.length_map ..
  have hw1 : IntKind.i64.wrap ((i : Int) + 1) = ((i + 1 : Nat) : Int) := by rw [w64 (by omega) (by omega)]; rfl
  have hcall := hf a hmem
  have hshape := hw a hmem
  rw [hd, List.any_cons] at hs
  have hlen := hshape.1
  have hstrip := hshape.2
  simp only [allStrip] at hstrip
  rw [l_slices_IndexFunc_api_Stmt_api_Stmt_x_0, M_loop, ← l_slices_IndexFunc_api_Stmt_api_Stmt_x_0]
  cases hb : p a with
  | true =>
   rw [hb, Bool.true_or] at hs
   rw [hb] at hcall
   simp at hcall
   simp [b_slices_IndexFunc_api_Stmt_api_Stmt_x_0, h0, h1, h7, h8, hi, hgl, hr, hp, hcall, hlen, hstrip, List.take_of_length_le]
   exact hret _ i hs (by simp)
  | false =>
   rw [hb, Bool.false_or] at hs
   rw [hb] at hcall
   simp at hcall
   simp [b_slices_IndexFunc_api_Stmt_api_Stmt_x_0, h0, h1, h7, h8, hi, hgl, hr, hp, hcall, hw1, hlen, hstrip, List.take_of_length_le]
   exact ih (i + 1) _ (by omega) hs (by simp [h0]) (by simp [h1]) (by simp [h7]) (by simp)
theorem ContainsFunc_api_Stmt_api_Stmt_x {α : Type} {f : Nat} {first cap : List V} (hp : f < yBase) (g : α → List V) (l : List α) (hl : l.length ≤ 1000000) (p : α → Bool) (H : Heap)
  (hw : ∀ a ∈ l, (g a).length = 7 ∧ allStrip (g a) = g a)
  (hf : ∀ a ∈ l, eval tbl noExt f (first ++ [.agg (g a)] ++ cap) H = some (.bool (p a), H)) :
  eval tbl noExt n_slices_ContainsFunc_api_Stmt_api_Stmt_x [.sl 7 (l.map g), .fn (.func f) first cap] H = some (.bool (l.any p), H) := by
 obtain ⟨n, hn, hn2⟩ : ∃ n : Int, eval tbl noExt n_slices_IndexFunc_api_Stmt_api_Stmt_x [.sl 7 (l.map g), .fn (.func f) first cap] H = some (.int .i64 n, H) ∧ decide (0 ≤ n) = l.any p := by
  rw [eval_M rfl rfl t_slices_IndexFunc_api_Stmt_api_Stmt_x rfl]
  simp [c_slices_IndexFunc_api_Stmt_api_Stmt_x]
  refine IndexFunc_api_Stmt_api_Stmt_x_loop hp g l hl p H _ hw hf (fun o => ∃ n : Int, o = some (.int .i64 n, H) ∧ decide (0 ≤ n) = l.any p) _ (fun φ' i h g => ?_) (fun φ' h => ?_) l.length 0 _ (by omega) (by simp) (by simp) (by simp) (by simp) (by simp)
  ·exact ⟨i, by simp [g], by rw [h]; simp⟩
  ·exact ⟨-1, by simp [r_slices_IndexFunc_api_Stmt_api_Stmt_x_0], by rw [h]; simp⟩
 rw [eval_M rfl rfl t_slices_ContainsFunc_api_Stmt_api_Stmt_x rfl]
 simp [c_slices_ContainsFunc_api_Stmt_api_Stmt_x, hn, hn2]
theorem IndexFunc_api_Proc_api_Proc_loop {α : Type} {f : Nat} {first cap : List V} (hp : f < yBase) (g : α → List V) (l : List α) (hl : l.length ≤ 1000000) (p : α → Bool) (H : Heap) (call : CallF)
  (hw : ∀ a ∈ l, (g a).length = 2 ∧ allStrip (g a) = g a)
  (hf : ∀ a ∈ l, call f (first ++ [.agg (g a)] ++ cap) H = some (.bool (p a), H)) (Q : Option (V × Heap) → Prop) (k : List Item)
  (hret : ∀ φ' (i : Nat), l.any p = true → Fr.get φ' 4 = .int .i64 i → Q (retK k φ' H)) (hexit : ∀ φ', l.any p = false → Q (M call k φ' H)) :
  ∀ (j i : Nat) (φ : Fr), i + j = l.length → l.any p = (l.drop i).any p → Fr.get φ 0 = .sl 2 (l.map g) → Fr.get φ 1 = .fn (.func f) first cap → Fr.get φ 7 = .int .i64 l.length → Fr.get φ 8 = .int .i64 i →
   Q (M call (.code l_slices_IndexFunc_api_Proc_api_Proc_0 :: .blk 0 :: k) φ H) := by
 intro j
 induction j with
 | zero =>
  intro i φ hj hs h0 h1 h7 h8
  have hi : ¬ ((i : Int) < l.length) := by omega
  rw [List.drop_of_length_le (by omega)] at hs
  rw [l_slices_IndexFunc_api_Proc_api_Proc_0, M_loop, ← l_slices_IndexFunc_api_Proc_api_Proc_0]
  simp [b_slices_IndexFunc_api_Proc_api_Proc_0, h0, h1, h7, h8, hi]
  exact hexit _ (by rw [hs]; rfl)
 | succ j ih =>
  intro i φ hj hs h0 h1 h7 h8
  have hi : (i : Int) < l.length := by omega
  have hil : i < l.length := by omega
  obtain ⟨a, ha, hmem, hd⟩ : ∃ a, l[i]? = some a ∧ a ∈ l ∧ l.drop i = a :: l.drop (i + 1) := ⟨l[i], List.getElem?_eq_getElem hil, List.getElem_mem hil, List.drop_eq_getElem_cons hil⟩
  have hr : (l.map g)[i]? = some (g a) := by rw [List.getElem?_map, ha]; rfl
  have hgl : (l.map g).length = l.length := List.length_map ..
  have hw1 : IntKind.i64.wrap ((i : Int) + 1) = ((i + 1 : Nat) : Int) := by rw [w64 (by omega) (by omega)]; rfl
  have hcall := hf a hmem
  have hshape := hw a hmem
  rw [hd, List.any_cons] at hs
  have hlen := hshape.1
  have hstrip := hshape.2
  simp only [allStrip] at hstrip
  rw [l_slices_IndexFunc_api_Proc_api_Proc_0, M_loop, ← l_slices_IndexFunc_api_Proc_api_Proc_0]
  cases hb : p a with
  | true =>
   rw [hb, Bool.true_or] at hs
   rw [hb] at hcall
   simp at hcall
   simp [b_slices_IndexFunc_api_Proc_api_Proc_0, h0, h1, h7, h8, hi, hgl, hr, hp, hcall, hlen, hstrip, List.take_of_length_le]
   exact hret _ i hs (by simp)
  | false =>
   rw [hb, Bool.false_or] at hs
   rw [hb] at hcall
   simp at hcall
   simp [b_slices_IndexFunc_api_Proc_api_Proc_0, h0, h1, h7, h8, hi, hgl, hr, hp, hcall, hw1, hlen, hstrip, List.take_of_length_le]
   exact ih (i + 1) _ (by omega) hs (by simp [h0]) (by simp [h1]) (by simp [h7]) (by simp)
theorem ContainsFunc_api_Proc_api_Proc {α : Type} {f : Nat} {first cap : List V} (hp : f < yBase) (g : α → List V) (l : List α) (hl : l.length ≤ 1000000) (p : α → Bool) (H : Heap)
  (hw : ∀ a ∈ l, (g a).length = 2 ∧ allStrip (g a) = g a)
  (hf : ∀ a ∈ l, eval tbl noExt f (first ++ [.agg (g a)] ++ cap) H = some (.bool (p a), H)) :
  eval tbl noExt n_slices_ContainsFunc_api_Proc_api_Proc [.sl 2 (l.map g), .fn (.func f) first cap] H = some (.bool (l.any p), H) := by
 obtain ⟨n, hn, hn2⟩ : ∃ n : Int, eval tbl noExt n_slices_IndexFunc_api_Proc_api_Proc [.sl 2 (l.map g), .fn (.func f) first cap] H = some (.int .i64 n, H) ∧ decide (0 ≤ n) = l.any p := by
  rw [eval_M rfl rfl t_slices_IndexFunc_api_Proc_api_Proc rfl]
  simp [c_slices_IndexFunc_api_Proc_api_Proc]
  refine IndexFunc_api_Proc_api_Proc_loop hp g l hl p H _ hw hf (fun o => ∃ n : Int, o = some (.int .i64 n, H) ∧ decide (0 ≤ n) = l.any p) _ (fun φ' i h g => ?_) (fun φ' h => ?_) l.length 0 _ (by omega) (by simp) (by simp) (by simp) (by simp) (by simp)
  ·exact ⟨i, by simp [g], by rw [h]; simp⟩
  ·exact ⟨-1, by simp [r_slices_IndexFunc_api_Proc_api_Proc_0], by rw [h]; simp⟩
 rw [eval_M rfl rfl t_slices_ContainsFunc_api_Proc_api_Proc rfl]
 simp [c_slices_ContainsFunc_api_Proc_api_Proc, hn, hn2]
theorem IndexFunc_api_Oracle_api_Oracle_loop {α : Type} {f : Nat} {first cap : List V} (hp : f < yBase) (g : α → List V) (l : List α) (hl : l.length ≤ 1000000) (p : α → Bool) (H : Heap) (call : CallF)
  (hw : ∀ a ∈ l, (g a).length = 5 ∧ allStrip (g a) = g a)
  (hf : ∀ a ∈ l, call f (first ++ [.agg (g a)] ++ cap) H = some (.bool (p a), H)) (Q : Option (V × Heap) → Prop) (k : List Item)
  (hret : ∀ φ' (i : Nat), l.any p = true → Fr.get φ' 4 = .int .i64 i → Q (retK k φ' H)) (hexit : ∀ φ', l.any p = false → Q (M call k φ' H)) :
  ∀ (j i : Nat) (φ : Fr), i + j = l.length → l.any p = (l.drop i).any p → Fr.get φ 0 = .sl 5 (l.map g) → Fr.get φ 1 = .fn (.func f) first cap → Fr.get φ 7 = .int .i64 l.length → Fr.get φ 8 = .int .i64 i →
   Q (M call (.code l_slices_IndexFunc_api_Oracle_api_Oracle_0 :: .blk 0 :: k) φ H) := by
 intro j
 induction j with
 | zero =>
  intro i φ hj hs h0 h1 h7 h8
  have hi : ¬ ((i : Int) < l.length) := by omega
  rw [List.drop_of_length_le (by omega)] at hs
  rw [l_slices_IndexFunc_api_Oracle_api_Oracle_0, M_loop, ← l_slices_IndexFunc_api_Oracle_api_Oracle_0]
  simp [b_slices_IndexFunc_api_Oracle_api_Oracle_0, h0, h1, h7, h8, hi]
  exact hexit _ (by rw [hs]; rfl)
 | succ j ih =>
  intro i φ hj hs h0 h1 h7 h8
  have hi : (i : Int) < l.length := by omega
  have hil : i < l.length := by omega
  obtain ⟨a, ha, hmem, hd⟩ : ∃ a, l[i]? = some a ∧ a ∈ l ∧ l.drop i = a :: l.drop (i + 1) := ⟨l[i], List.getElem?_eq_getElem hil, List.getElem_mem hil, List.drop_eq_getElem_cons hil⟩
  have hr : (l.map g)[i]? = some (g a) := by rw [List.getElem?_map, ha]; rfl
  have hgl : (l.map g).length = l.length := List.length_map ..
  have hw1 : IntKind.i64.wrap ((i : Int) + 1) = ((i + 1 : Nat) : Int) := by rw [w64 (by omega) (by omega)]; rfl
  have hcall := hf a hmem
  have hshape := hw a hmem
  rw [hd, List.any_cons] at hs
  have hlen := hshape.1
  have hstrip := hshape.2
  simp only [allStrip] at hstrip
  rw [l_slices_IndexFunc_api_Oracle_api_Oracle_0, M_loop, ← l_slices_IndexFunc_api_Oracle_api_Oracle_0]
  cases hb : p a with
  | true =>
   rw [hb, Bool.true_or] at hs
   rw [hb] at hcall
   simp at hcall
   simp [b_slices_IndexFunc_api_Oracle_api_Oracle_0, h0, h1, h7, h8, hi, hgl, hr, hp, hcall, hlen, hstrip, List.take_of_length_le]
   exact hret _ i hs (by simp)
  | false =>
   rw [hb, Bool.false_or] at hs
   rw [hb] at hcall
   simp at hcall
   simp [b_slices_IndexFunc_api_Oracle_api_Oracle_0, h0, h1, h7, h8, hi, hgl, hr, hp, hcall, hw1, hlen, hstrip, List.take_of_length_le]
   exact ih (i + 1) _ (by omega) hs (by simp [h0]) (by simp [h1]) (by simp [h7]) (by simp)
theorem ContainsFunc_api_Oracle_api_Oracle {α : Type} {f : Nat} {first cap : List V} (hp : f < yBase) (g : α → List V) (l : List α) (hl : l.length ≤ 1000000) (p : α → Bool) (H : Heap)
  (hw : ∀ a ∈ l, (g a).length = 5 ∧ allStrip (g a) = g a)
  (hf : ∀ a ∈ l, eval tbl noExt f (first ++ [.agg (g a)] ++ cap) H = some (.bool (p a), H)) :
  eval tbl noExt n_slices_ContainsFunc_api_Oracle_api_Oracle [.sl 5 (l.map g), .fn (.func f) first cap] H = some (.bool (l.any p), H) := by
 obtain ⟨n, hn, hn2⟩ : ∃ n : Int, eval tbl noExt n_slices_IndexFunc_api_Oracle_api_Oracle [.sl 5 (l.map g), .fn (.func f) first cap] H = some (.int .i64 n, H) ∧ decide (0 ≤ n) = l.any p := by
  rw [eval_M rfl rfl t_slices_IndexFunc_api_Oracle_api_Oracle rfl]
  simp [c_slices_IndexFunc_api_Oracle_api_Oracle]
  refine IndexFunc_api_Oracle_api_Oracle_loop hp g l hl p H _ hw hf (fun o => ∃ n : Int, o = some (.int .i64 n, H) ∧ decide (0 ≤ n) = l.any p) _ (fun φ' i h g => ?_) (fun φ' h => ?_) l.length 0 _ (by omega) (by simp) (by simp) (by simp) (by simp) (by simp)
  ·exact ⟨i, by simp [g], by rw [h]; simp⟩
  ·exact ⟨-1, by simp [r_slices_IndexFunc_api_Oracle_api_Oracle_0], by rw [h]; simp⟩
 rw [eval_M rfl rfl t_slices_ContainsFunc_api_Oracle_api_Oracle rfl]
 simp [c_slices_ContainsFunc_api_Oracle_api_Oracle, hn, hn2]
theorem IndexFunc_api_Stmt_api_Stmt_loop {α : Type} {f : Nat} {first cap : List V} (hp : f < yBase) (e : α → List (List V)) (l : List α) (hl : l.length ≤ 1000000) (p : α → Bool) (H : Heap) (call : CallF)
  (hf : ∀ a ∈ l, call f (first ++ [V.sl 7 (e a)] ++ cap) H = some (.bool (p a), H)) (Q : Option (V × Heap) → Prop) (k : List Item)
  (hret : ∀ φ' (i : Nat), l.any p = true → Fr.get φ' 4 = .int .i64 i → Q (retK k φ' H)) (hexit : ∀ φ', l.any p = false → Q (M call k φ' H)) :
  ∀ (j i : Nat) (φ : Fr), i + j = l.length → l.any p = (l.drop i).any p → Fr.get φ 0 = .sl 1 (l.map fun a => [V.sl 7 (e a)]) → Fr.get φ 1 = .fn (.func f) first cap → Fr.get φ 7 = .int .i64 l.length → Fr.get φ 8 = .int .i64 i →
   Q (M call (.code l_slices_IndexFunc_api_Stmt_api_Stmt_0 :: .blk 0 :: k) φ H) := by
 intro j
 induction j with
 | zero =>
  intro i φ hj hs h0 h1 h7 h8
  have hi : ¬ ((i : Int) < l.length) := by omega
  rw [List.drop_of_length_le (by omega)] at hs
  rw [l_slices_IndexFunc_api_Stmt_api_Stmt_0, M_loop, ← l_slices_IndexFunc_api_Stmt_api_Stmt_0]
  simp [b_slices_IndexFunc_api_Stmt_api_Stmt_0, h0, h1, h7, h8, hi]
  exact hexit _ (by rw [hs]; rfl)
 | succ j ih =>
  intro i φ hj hs h0 h1 h7 h8
  have hi : (i : Int) < l.length := by omega
  have hil : i < l.length := by omega
  obtain ⟨a, ha, hmem, hd⟩ : ∃ a, l[i]? = some a ∧ a ∈ l ∧ l.drop i = a :: l.drop (i + 1) := ⟨l[i], List.getElem?_eq_getElem hil, List.getElem_mem hil, List.drop_eq_getElem_cons hil⟩
  have hr : (l.map fun a => [V.sl 7 (e a)])[i]? = some [V.sl 7 (e a)] := by rw [List.getElem?_map, ha]; rfl
  have hgl : (l.map fun a => [V.sl 7 (e a)]).length = l.length := List.length_map ..
  have hw1 : IntKind.i64.wrap ((i : Int) + 1) = ((i + 1 : Nat) : Int) := by rw [w64 (by omega) (by omega)]; rfl
  have hcall := hf a hmem
  rw [hd, List.any_cons] at hs
  rw [l_slices_IndexFunc_api_Stmt_api_Stmt_0, M_loop, ← l_slices_IndexFunc_api_Stmt_api_Stmt_0]
  cases hb : p a with
  | true =>
   rw [hb, Bool.true_or] at hs
   rw [hb] at hcall
   simp at hcall
   simp [b_slices_IndexFunc_api_Stmt_api_Stmt_0, h0, h1, h7, h8, hi, hgl, hr, hp, hcall]
   exact hret _ i hs (by simp)
  | false =>
   rw [hb, Bool.false_or] at hs
   rw [hb] at hcall
   simp at hcall
   simp [b_slices_IndexFunc_api_Stmt_api_Stmt_0, h0, h1, h7, h8, hi, hgl, hr, hp, hcall, hw1]
   exact ih (i + 1) _ (by omega) hs (by simp [h0]) (by simp [h1]) (by simp [h7]) (by simp)
theorem ContainsFunc_api_Stmt_api_Stmt_own {α : Type} {f : Nat} {first cap : List V} (hp : f < yBase) (e : α → List (List V)) (l : List α) (hl : l.length ≤ 1000000) (p : α → Bool) (H : Heap)
  (hf : ∀ a ∈ l, eval tbl noExt f (first ++ [V.sl 7 (e a)] ++ cap) H = some (.bool (p a), H)) :
  eval tbl noExt n_slices_ContainsFunc_api_Stmt_api_Stmt [.own 1 (l.map fun a => [V.sl 7 (e a)]), .fn (.func f) first cap] H = some (.bool (l.any p), H) := by
 obtain ⟨n, hn, hn2⟩ : ∃ n : Int, eval tbl noExt n_slices_IndexFunc_api_Stmt_api_Stmt [.sl 1 (l.map fun a => [V.sl 7 (e a)]), .fn (.func f) first cap] H = some (.int .i64 n, H) ∧ decide (0 ≤ n) = l.any p := by
  rw [eval_M rfl rfl t_slices_IndexFunc_api_Stmt_api_Stmt rfl]
  simp [c_slices_IndexFunc_api_Stmt_api_Stmt]
  refine IndexFunc_api_Stmt_api_Stmt_loop hp e l hl p H _ hf (fun o => ∃ n : Int, o = some (.int .i64 n, H) ∧ decide (0 ≤ n) = l.any p) _ (fun φ' i h g => ?_) (fun φ' h => ?_) l.length 0 _ (by omega) (by simp) (by simp) (by simp) (by simp) (by simp)
  ·exact ⟨i, by simp [g], by rw [h]; simp⟩
  ·exact ⟨-1, by simp [r_slices_IndexFunc_api_Stmt_api_Stmt_0], by rw [h]; simp⟩
 rw [eval_M rfl rfl t_slices_ContainsFunc_api_Stmt_api_Stmt rfl]
 simp [c_slices_ContainsFunc_api_Stmt_api_Stmt, hn, hn2]
/-- A yield that takes statements down: what it has of them lies in the memory's first part. -/
def YS (i : Nat) (hp : List Sm → Heap) (N : Nat) : Prop :=
 ∀ (x : List Sm) (s : Sm) (L : Heap), s.size ≤ 20000 → x.length < N → eval tbl noExt (yBase + i) [.agg s.cells] (hp x ++ L) = some (.bool true, hp (x ++ [s]) ++ L)
theorem walk_eq (l : List (List V)) (H : Heap) : eval tbl noExt n_tree_walk [.sl 7 l] H = some (.fn (.func n_tree_walk_1) [] [.ptr H.length 0], H ++ [some [V.sl 7 l]]) := by
 rw [eval_M rfl rfl t_tree_walk rfl]
 simp [c_tree_walk]
/-- The inner loop's round hands its statement on. -/
theorem inner_round {i m N j p : Nat} {hp : List Sm → Heap} (hlen : ∀ x, (hp x).length = m) (hy : YS i hp N) (A : Heap) (hj : j = m + A.length)
  (hp2 : ∀ x L, ((hp x ++ A) ++ L)[p]? = some (some [.yld i])) :
  YS j (fun x => hp x ++ (A ++ [some [V.lrec 0 0 q_tree_walk_1_0 [30] [2] [V.ptr p 0]]])) N := by
 intro x s L hs hx
 have hrec : ∀ (x : List Sm) (r : List V) (L : Heap), (hp x ++ (A ++ some r :: L))[j]? = some (some r) := by
  intro x r L
  rw [hj, at_hp (hlen x)]; simp
 have hset : ∀ (x : List Sm) (r r' : List V) (L : Heap), (hp x ++ (A ++ some r :: L)).set j (some r') = hp x ++ (A ++ some r' :: L) := by
  intro x r r' L
  rw [hj, set_hp (hlen x)]; simp
 have hp3 : ∀ x L, (hp x ++ (A ++ L))[p]? = some (some [.yld i]) := fun x L => by rw [← List.append_assoc]; exact hp2 x L
 have h1 : recAt (hp x ++ (A ++ some [V.lrec 0 0 q_tree_walk_1_0 [30] [2] [V.ptr p 0]] :: L)) j = some (0, 0, q_tree_walk_1_0, [30], [2], [.ptr p 0]) := by
  unfold recAt; rw [hrec]
 obtain ⟨op, w, n, e, b, c, g⟩ := s
 have e1 : hp x ++ (A ++ [some [V.lrec 0 0 q_tree_walk_1_0 [30] [2] [V.ptr p 0]]]) ++ L = hp x ++ (A ++ some [V.lrec 0 0 q_tree_walk_1_0 [30] [2] [V.ptr p 0]] :: L) := by simp
 show eval tbl noExt (yBase + j) _ (hp x ++ (A ++ [some [V.lrec 0 0 q_tree_walk_1_0 [30] [2] [V.ptr p 0]]]) ++ L) = some (_, hp (x ++ [_]) ++ (A ++ [some [V.lrec 0 0 q_tree_walk_1_0 [30] [2] [V.ptr p 0]]]) ++ L)
 rw [e1, eval_Y h1 u_tree_walk_1_0 rfl]
 have hlenx : ∀ x, (hp x).length = m := hlen
 have hy' := hy x (.mk op w n e b c g)
 simp only [Sm.cells] at hy' ⊢
 have hlast : ∀ (x : List Sm) (r z : List V) (L : Heap), (hp x ++ (A ++ some r :: (L ++ [some z])))[m + (A.length + (L.length + 1))]? = some (some z) := by
  intro x r z L
  rw [at_hp (hlen x)]
  rw [List.getElem?_append_right (by omega)]
  simp [Nat.add_sub_cancel_left]
 have hsetl : ∀ (x : List Sm) (r z z' : List V) (L : Heap), (hp x ++ (A ++ some r :: (L ++ [some z]))).set (m + (A.length + (L.length + 1))) (some z') = hp x ++ (A ++ some r :: (L ++ [some z'])) := by
  intro x r z z' L
  rw [set_hp (hlen x), List.set_append_right _ _ (by omega)]
  simp [Nat.add_sub_cancel_left]
 have htake : ∀ (x : List Sm) (r z : List V) (L : Heap), (hp x ++ (A ++ some r :: (L ++ [some z]))).take (m + (A.length + (L.length + 1))) = hp x ++ (A ++ some r :: L) := by
  intro x r z L
  rw [take_hp (hlen x), List.take_append, List.take_of_length_le (by omega)]
  simp [Nat.add_sub_cancel_left]
 simp [a_tree_walk_1_0, y_tree_walk_1_0, hlenx, hlast, hsetl, recAt, hrec, hset, hp3, hy' _ hs hx, endRound, pendOf, htake]
/-- The walk hands all statements of a block to its yield. -/
def WalkOK (l : List Sm) : Prop := ∀ (i m N p : Nat) (hp : List Sm → Heap) (L : Heap) (x : List Sm), (∀ x, (hp x).length = m) → YS i hp N → (∀ x, (hp x ++ L)[p]? = some (some [V.sl 7 (Sm.rows l)])) → x.length + (Sm.flats l).length ≤ N →
 eval tbl noExt n_tree_walk_1 [.yld i, .ptr p 0] (hp x ++ L) = some (.tup [], hp (x ++ Sm.flats l) ++ L)
theorem inner_loop {i m N q : Nat} {hp : List Sm → Heap} (hlen : ∀ x, (hp x).length = m) (hy : YS i hp N) (L0 : Heap) (hq : L0[q]? = some (some [.yld i])) (v8 v9 v10 : V) (bs : List (List Sm)) (hbs : ∀ b ∈ bs, WalkOK b) (hb2 : bs.length ≤ 2)
  (R : Option (V × Heap)) (k : List Item) :
  ∀ (j t : Nat) (x : List Sm) (φ : Fr) (T : Heap), t + j = bs.length → x.length + (Sm.flats (bs.drop t).flatten).length ≤ N → Fr.get φ 2 = .ptr (m + q) 0 → Fr.get φ 8 = v8 → Fr.get φ 9 = v9 → Fr.get φ 10 = v10 → Fr.get φ 22 = .own 1 (bs.map fun b => [.sl 7 (Sm.rows b)]) → Fr.get φ 23 = .int .i64 bs.length → Fr.get φ 24 = .int .i64 t →
   (∀ φ' T', Fr.get φ' 2 = .ptr (m + q) 0 → Fr.get φ' 8 = v8 → Fr.get φ' 9 = v9 → Fr.get φ' 10 = v10 → M (eval tbl noExt) k φ' (hp (x ++ Sm.flats (bs.drop t).flatten) ++ (L0 ++ T')) = R) →
   M (eval tbl noExt) (.code l_tree_walk_1_0 :: .blk 2 :: k) φ (hp x ++ (L0 ++ T)) = R := by
 intro j
 induction j with
 | zero =>
  intro t x φ T hj hN h2 h8 h9 h10 h22 h23 h24 hexit
  have hi : ¬ ((t : Int) < bs.length) := by omega
  rw [List.drop_of_length_le (by omega)] at hexit
  simp only [List.flatten_nil, Sm.flats, List.append_nil] at hexit
  rw [l_tree_walk_1_0, M_loop, ← l_tree_walk_1_0]
  simp [b_tree_walk_1_0, h2, h8, h9, h10, h22, h23, h24, hi]
  exact hexit _ T (by simp [h2]) (by simp [h8]) (by simp [h9]) (by simp [h10])
 | succ j ih =>
  intro t x φ T hj hN h2 h8 h9 h10 h22 h23 h24 hexit
  have hi : (t : Int) < bs.length := by omega
  have hil : t < bs.length := by omega
  obtain ⟨b, hb⟩ : ∃ b, bs[t]? = some b := ⟨bs[t], List.getElem?_eq_getElem hil⟩
  have hmem : b ∈ bs := List.mem_of_getElem? hb
  have hdrop : bs.drop t = b :: bs.drop (t + 1) := by
   rw [List.drop_eq_getElem_cons hil]
   rw [List.getElem?_eq_getElem hil] at hb
   rw [Option.some.inj hb]
  rw [hdrop] at hN hexit
  simp only [List.flatten_cons, Sm.flats_append, List.length_append, ← List.append_assoc] at hN hexit
  have hrow : (bs.map fun b => [V.sl 7 (Sm.rows b)])[t]? = some [V.sl 7 (Sm.rows b)] := by rw [List.getElem?_map, hb]; rfl
  have hw : IntKind.i64.wrap ((t : Int) + 1) = ((t + 1 : Nat) : Int) := by rw [w64 (by omega) (by omega)]; rfl
  have hbox : ∀ x L, (((hp x) ++ (L0 ++ T ++ [some [V.sl 7 (Sm.rows b)]])) ++ L)[m + q]? = some (some [.yld i]) := by
   intro x L
   have hq' : q < L0.length := by
    rw [List.getElem?_eq_some_iff] at hq; exact hq.1
   rw [List.append_assoc, at_hp (hlen x), List.append_assoc, List.append_assoc, List.getElem?_append_left hq', hq]
  have hys := inner_round (j := m + (L0.length + (T.length + 1))) hlen hy (L0 ++ T ++ [some [V.sl 7 (Sm.rows b)]]) (by simp only [List.length_append, List.length_cons, List.length_nil]; omega) hbox
  have hwk := hbs b hmem (m + (L0.length + (T.length + 1))) (m + (L0.length + (T.length + 1)) + 1) N (m + (L0.length + T.length)) (fun x => hp x ++ (L0 ++ T ++ [some [V.sl 7 (Sm.rows b)]] ++ [some [V.lrec 0 0 q_tree_walk_1_0 [30] [2] [V.ptr (m + q) 0]]])) [] x (by intro x; simp only [List.length_append, hlen, List.length_cons, List.length_nil]; omega) hys (by
   intro x
   rw [List.append_nil, at_hp (hlen x), List.append_assoc, ← List.length_append, List.getElem?_append_right (Nat.le_refl _), Nat.sub_self]
   rfl) (by omega)
  simp only [List.append_nil] at hwk
  have hread : recAt (hp (x ++ Sm.flats b) ++ (L0 ++ T ++ [some [V.sl 7 (Sm.rows b)]] ++ [some [V.lrec 0 0 q_tree_walk_1_0 [30] [2] [V.ptr (m + q) 0]]])) (m + (L0.length + (T.length + 1))) = some (0, 0, q_tree_walk_1_0, [30], [2], [.ptr (m + q) 0]) := by
   unfold recAt
   rw [at_hp (hlen _), List.getElem?_append_right (by simp)]
   simp
  have htake : (hp (x ++ Sm.flats b) ++ (L0 ++ T ++ [some [V.sl 7 (Sm.rows b)]] ++ [some [V.lrec 0 0 q_tree_walk_1_0 [30] [2] [V.ptr (m + q) 0]]])).take (m + (L0.length + (T.length + 1))) = hp (x ++ Sm.flats b) ++ (L0 ++ (T ++ [some [V.sl 7 (Sm.rows b)]])) := by
   rw [take_hp (hlen _), List.take_append_of_le_length (by simp only [List.length_append, List.length_cons, List.length_nil]; omega), List.take_of_length_le (by simp only [List.length_append, List.length_cons, List.length_nil]; omega)]
   simp
  have e1 : (L0 ++ T ++ [some [V.sl 7 (Sm.rows b)]] ++ [some [V.lrec 0 0 q_tree_walk_1_0 [30] [2] [V.ptr (m + q) 0]]] : Heap) = L0 ++ (T ++ [some [V.sl 7 (Sm.rows b)], some [V.lrec 0 0 q_tree_walk_1_0 [30] [2] [V.ptr (m + q) 0]]]) := by simp
  rw [e1] at hwk hread htake
  rw [l_tree_walk_1_0, M_loop, ← l_tree_walk_1_0]
  simp [b_tree_walk_1_0, h2, h8, h9, h10, h22, h23, h24, hi, hrow, walk_eq, hlen, hwk, hread, htake, r_tree_walk_1_0, hw]
  refine ih (t + 1) (x ++ Sm.flats b) _ (T ++ [some [V.sl 7 (Sm.rows b)]]) (by omega) (by simp; omega) ?_ ?_ ?_ ?_ ?_ ?_ ?_ ?_
  ·simp [h2]
  ·simp [h8]
  ·simp [h9]
  ·simp [h10]
  ·simp [h22]
  ·simp [h23]
  ·simp
  ·intro φ' T' g2 g8 g9 g10
   have := hexit φ' T' g2 g8 g9 g10
   simpa using this
theorem outer_loop {i m N q : Nat} {hp : List Sm → Heap} (hlen : ∀ x, (hp x).length = m) (hy : YS i hp N) (L0 : Heap) (hq : L0[q]? = some (some [V.yld i])) (l : List Sm) (hl : l.length ≤ 20000) (hbs : ∀ e ∈ l, e.size ≤ 20000 ∧ ∀ b ∈ e.blocks, WalkOK b)
  (R : Option (V × Heap)) (k : List Item) :
  ∀ (j t : Nat) (x : List Sm) (φ : Fr) (T : Heap), t + j = l.length → x.length + (Sm.flats (l.drop t)).length ≤ N → Fr.get φ 2 = .ptr (m + q) 0 → Fr.get φ 8 = .sl 7 (Sm.rows l) → Fr.get φ 9 = .int .i64 l.length → Fr.get φ 10 = .int .i64 t →
   (∀ φ' T', M (eval tbl noExt) k φ' (hp (x ++ Sm.flats (l.drop t)) ++ (L0 ++ T')) = R) →
   M (eval tbl noExt) (.code l_tree_walk_1_1 :: .blk 0 :: k) φ (hp x ++ (L0 ++ T)) = R := by
 intro j
 induction j with
 | zero =>
  intro t x φ T hj hN h2 h8 h9 h10 hexit
  have hi : ¬ ((t : Int) < l.length) := by omega
  rw [List.drop_of_length_le (by omega)] at hexit
  simp only [Sm.flats, List.append_nil] at hexit
  rw [l_tree_walk_1_1, M_loop, ← l_tree_walk_1_1]
  simp [b_tree_walk_1_1, h2, h8, h9, h10, hi]
  exact hexit _ T
 | succ j ih =>
  intro t x φ T hj hN h2 h8 h9 h10 hexit
  have hi : (t : Int) < l.length := by omega
  have hil : t < l.length := by omega
  obtain ⟨e, he⟩ : ∃ e, l[t]? = some e := ⟨l[t], List.getElem?_eq_getElem hil⟩
  have hmem : e ∈ l := List.mem_of_getElem? he
  obtain ⟨hsz, hwalk⟩ := hbs e hmem
  have hdrop : l.drop t = e :: l.drop (t + 1) := by
   rw [List.drop_eq_getElem_cons hil]
   rw [List.getElem?_eq_getElem hil] at he
   rw [Option.some.inj he]
  obtain ⟨op, w, n, ee, b, c, g⟩ := e
  rw [hdrop] at hN hexit
  simp only [Sm.flats, Sm.flat, List.length_append, List.length_cons] at hN hexit
  have hrow : (Sm.rows l)[t]? = some (Sm.cells (.mk op w n ee b c g)) := by rw [Sm.rows_eq, List.getElem?_map, he]; rfl
  have hcl : (Sm.rows l).length = l.length := by rw [Sm.rows_eq]; simp
  have hw : IntKind.i64.wrap ((t : Int) + 1) = ((t + 1 : Nat) : Int) := by rw [w64 (by omega) (by omega)]; rfl
  have hq' : q < L0.length := by
   rw [List.getElem?_eq_some_iff] at hq; exact hq.1
  have hyl : ∀ x L, (hp x ++ (L0 ++ L))[m + q]? = some (some [V.yld i]) := by
   intro x L
   rw [at_hp (hlen x), List.getElem?_append_left hq', hq]
  have hlast : ∀ (x : List Sm) (z : List V), (hp x ++ (L0 ++ (T ++ [some z])))[m + (L0.length + T.length)]? = some (some z) := by
   intro x z
   rw [at_hp (hlen x), ← List.append_assoc, ← List.length_append, List.getElem?_append_right (Nat.le_refl _), Nat.sub_self]
   rfl
  have hsetl : ∀ (x : List Sm) (z z' : List V), (hp x ++ (L0 ++ (T ++ [some z]))).set (m + (L0.length + T.length)) (some z') = hp x ++ (L0 ++ (T ++ [some z'])) := by
   intro x z z'
   rw [set_hp (hlen x), ← List.append_assoc, ← List.length_append, List.set_append_right _ _ (Nat.le_refl _), Nat.sub_self]
   simp
  have hy' := hy x (.mk op w n ee b c g)
  simp only [Sm.cells] at hy' hrow
  rw [l_tree_walk_1_1, M_loop, ← l_tree_walk_1_1]
  simp [b_tree_walk_1_1, h2, h8, h9, h10, hi, hrow, hcl, hlen, hlast, hsetl, hyl, hy' _ hsz (by omega)]
  refine inner_loop hlen hy L0 hq (.sl 7 (Sm.rows l)) (.int .i64 l.length) (.int .i64 t) [b, c] (fun z hz => hwalk z (by simpa [Sm.blocks] using hz)) (by simp) _ _ 2 0 _ _ _ (by simp) (by simp [Sm.flats_append]; omega) (by simp [h2]) (by simp [h8]) (by simp [h9]) (by simp [h10]) ?_ (by simp) (by simp) ?_
  ·simp
  intro φ' T' g2 g8 g9 g10
  simp [r_tree_walk_1_1, g10, hw]
  refine ih (t + 1) _ _ T' (by omega) (by simp [Sm.flats_append]; omega) (by simp [g2]) (by simp [g8]) (by simp [g9]) (by simp) ?_
  intro φ'' T''
  have := hexit φ'' T''
  simpa [Sm.flats_append] using this
theorem walk_step (l : List Sm) (hl : l.length ≤ 20000) (hbs : ∀ e ∈ l, e.size ≤ 20000 ∧ ∀ b ∈ e.blocks, WalkOK b) : WalkOK l := by
 intro i m N p hp L x hlen hy hb hN
 have hb' : ∀ x K, (hp x ++ (L ++ K))[p]? = some (some [V.sl 7 (Sm.rows l)]) := by
  intro x K
  have h := hb x
  rw [← List.append_assoc, List.getElem?_append_left (List.getElem?_eq_some_iff.1 h).1, h]
 have hcl : (Sm.rows l).length = l.length := by rw [Sm.rows_eq]; simp
 rw [eval_M rfl rfl t_tree_walk_1 rfl]
 simp [c_tree_walk_1, hb', hlen, hcl]
 have e : hp x ++ (L ++ [some [V.yld i]]) = hp x ++ ((L ++ [some [V.yld i]]) ++ []) := by simp
 rw [e]
 refine outer_loop hlen hy (L ++ [some [V.yld i]]) (q := L.length) (by simp) l hl hbs _ _ l.length 0 x _ [] (by omega) (by simpa using hN) (by simp) (by simp) (by simp) (by simp) ?_
 intro φ' T'
 have ht : (hp (x ++ Sm.flats l) ++ (L ++ [some [V.yld i]] ++ T')).take (m + L.length) = hp (x ++ Sm.flats l) ++ L := by
  rw [take_hp (hlen _), List.append_assoc, List.take_left]
 simp at ht
 simp [ht]
theorem walk_ok : ∀ (n : Nat) (l : List Sm), Sm.sizes l ≤ n → n ≤ 20000 → WalkOK l := by
 intro n
 induction n with
 | zero =>
  intro l hl hn
  have h0 : l = [] := by
   have := Sm.sizes_ge l
   exact List.length_eq_zero_iff.1 (by omega)
  subst h0
  exact walk_step [] (by simp) (by simp)
 | succ n ih =>
  intro l hl hn
  refine walk_step l (by have := Sm.sizes_ge l; omega) fun e he => ⟨by have := Sm.sizes_mem he; omega, fun b hb => ih b ?_ (by omega)⟩
  have h1 := Sm.sizes_mem he
  obtain ⟨op, w, m, ee, b1, b2, g⟩ := e
  simp only [Sm.size] at h1
  simp only [Sm.blocks, List.mem_cons, List.not_mem_nil, or_false] at hb
  rcases hb with rfl | rfl <;> omega
/-! What Count answers. -/
theorem parts_loop (call : CallF) (R : Option (V × Heap)) (n : Nat) (H : Heap) (p : Pg) (hl : p.procs.length ≤ 20000) (v1 : V) (k : List Item)
  (hexit : ∀ φ' K, K.take n = H → n ≤ K.length → Fr.get φ' 1 = v1 → Fr.get φ' 3 = .own 1 (p.procs.map fun x => brow x.2) → M call k φ' K = R) :
  ∀ (j i : Nat) (φ : Fr) (K : Heap), i + j = p.procs.length → K.take n = H → n ≤ K.length → Fr.get φ 1 = v1 → Fr.get φ 3 = .own 1 ((p.procs.take i).map fun x => brow x.2) → Fr.get φ 7 = .sl 2 p.pcells → Fr.get φ 8 = .int .i64 p.procs.length → Fr.get φ 9 = .int .i64 i →
   M call (.code l_tree_parts_0 :: .blk 0 :: k) φ K = R := by
 intro j
 induction j with
 | zero =>
  intro i φ K hj hK hn h1 h3 h7 h8 h9
  have hi : ¬ ((i : Int) < p.procs.length) := by omega
  rw [List.take_of_length_le (by omega)] at h3
  rw [l_tree_parts_0, M_loop, ← l_tree_parts_0]
  simp [b_tree_parts_0, h1, h3, h7, h8, h9, hi]
  exact hexit _ _ hK hn (by simp [h1]) (by simp [h3])
 | succ j ih =>
  intro i φ K hj hK hn h1 h3 h7 h8 h9
  have hi : (i : Int) < p.procs.length := by omega
  have hil : i < p.procs.length := by omega
  obtain ⟨e, he⟩ : ∃ e, p.procs[i]? = some e := ⟨p.procs[i], List.getElem?_eq_getElem hil⟩
  have hrow : p.pcells[i]? = some [.str e.1, .sl 7 (Sm.rows e.2)] := by rw [Pg.pcells, List.getElem?_map, he]; rfl
  have hcl : p.pcells.length = p.procs.length := by simp [Pg.pcells]
  have hck : (p.procs.take i).length = i := by simp; omega
  have hnext : ((p.procs.take i).map fun x => brow x.2) ++ [[.sl 7 (Sm.rows e.2)]] = (p.procs.take (i + 1)).map fun x => brow x.2 := by
   rw [List.take_add_one, he]; simp [brow]
  have hw : IntKind.i64.wrap ((i : Int) + 1) = ((i + 1 : Nat) : Int) := by rw [w64 (by omega) (by omega)]; rfl
  have hb : 2 * (i + 1) * 24 ≤ 281474976710656 := by omega
  have hmin : min i p.procs.length = i := by omega
  rw [l_tree_parts_0, M_loop, ← l_tree_parts_0]
  simp [b_tree_parts_0, h1, h3, h7, h8, h9, hi, hrow, hcl, hck, hmin, get0, set0, hnext, hw, hb]
  refine ih (i + 1) _ _ (by omega) (take_more hK hn _) (by simp; omega) (by simp [h1]) (by simpa using hnext) (by simp [h7]) (by simp [h8]) (by simp)
theorem parts_eq (p : Pg) (hl : p.procs.length ≤ 20000) (H : Heap) : eval tbl noExt n_tree_parts [.agg p.cells] H = some (.own 1 (p.parts.map brow), H) := by
 have hcl : p.pcells.length = p.procs.length := by simp [Pg.pcells]
 have hb : 2 * (p.procs.length + 2) * 24 ≤ 281474976710656 := by omega
 rw [eval_M rfl rfl t_tree_parts rfl]
 simp [c_tree_parts, Pg.cells, hcl]
 refine parts_loop _ _ (H.length + 1) (H ++ [some p.cells]) p hl (.ptr H.length 0) _ (fun φ' K hK hn h1 h3 => ?_) p.procs.length 0 _ _ (by omega) ?_ ?_ ?_ ?_ ?_ ?_ ?_
 ·have hg : K[H.length]? = some (some p.cells) := by
   have h : (K.take (H.length + 1))[H.length]? = some (some p.cells) := by rw [hK, get0]
   rwa [List.getElem?_take_of_lt (by omega)] at h
  have ht : K.take H.length = H := by
   have h : (K.take (H.length + 1)).take H.length = H := by rw [hK]; simp
   rwa [List.take_take, Nat.min_eq_left (by omega)] at h
  simp [r_tree_parts_0, h1, h3, hg, Pg.cells, hb, ht, Pg.parts, brow]
 all_goals simp [Pg.cells, List.take_of_length_le]
/-- The lists' cell, filled by the rounds of tree.All. -/
theorem all_round (a c : List V) (hc : c = [V.ptr 1 0]) (T : Heap) (b : List (Option (List V))) (hb : b.length = 1) :
  YS (2 + (T.length + 1)) (fun x => some a :: some [V.own 7 (Sm.rows x)] :: (T ++ (b ++ [some [V.lrec 0 0 q_tree_All_0 [16] [3] c]]))) 20000 := by
 subst hc
 intro x s L hs hx
 obtain ⟨b, rfl⟩ := List.length_eq_one_iff.1 hb
 have hl : (T ++ [b]).length = T.length + 1 := by simp
 have hi : 2 + (T.length + 1) = T.length + 1 + 1 + 1 := by omega
 rw [hi]
 have e : ∀ (y : List Sm) (r : List V), (some a :: some [V.own 7 (Sm.rows y)] :: (T ++ ([b] ++ [some r])) ++ L : Heap) = some a :: some [V.own 7 (Sm.rows y)] :: ((T ++ [b]) ++ (some r :: L)) := by simp
 show eval tbl noExt _ _ (some a :: some [V.own 7 (Sm.rows x)] :: (T ++ ([b] ++ [some [V.lrec 0 0 q_tree_All_0 [16] [3] [V.ptr 1 0]]])) ++ L) = some (_, some a :: some [V.own 7 (Sm.rows (x ++ [s]))] :: (T ++ ([b] ++ [some [V.lrec 0 0 q_tree_All_0 [16] [3] [V.ptr 1 0]]])) ++ L)
 rw [e, e]
 generalize hA : T ++ [b] = A at *
 rw [← hl]
 have hg : ∀ (B : Heap), (A ++ B)[A.length]? = B[0]? := fun B => at_hp rfl B 0
 have hs0 : ∀ (B : Heap) v, (A ++ B).set A.length v = A ++ B.set 0 v := fun B v => set_hp rfl B 0 v
 have hg' : ∀ (B : Heap) k, (A ++ B)[A.length + k]? = B[k]? := fun B k => at_hp rfl B k
 have hs' : ∀ (B : Heap) k v, (A ++ B).set (A.length + k) v = A ++ B.set k v := fun B k v => set_hp rfl B k v
 have ht' : ∀ (B : Heap) k, (A ++ B).take (A.length + k) = A ++ B.take k := fun B k => take_hp rfl B k
 have h1 : recAt (some a :: some [V.own 7 (Sm.rows x)] :: (A ++ (some [V.lrec 0 0 q_tree_All_0 [16] [3] [V.ptr 1 0]] :: L))) (A.length + 1 + 1) = some (0, 0, q_tree_All_0, [16], [3], [V.ptr 1 0]) := by
  unfold recAt
  simp [hg]
 rw [eval_Y h1 u_tree_All_0 rfl]
 have hcl : (Sm.rows x).length = x.length := by rw [Sm.rows_eq]; simp
 have hnext : Sm.rows (x ++ [s]) = Sm.rows x ++ [s.cells] := by simp [Sm.rows_eq]
 have hcall := cloned_eq 20000 s (by omega) (Nat.le_refl _) []
 rw [hnext]
 obtain ⟨op, w, n, ee, b1, b2, g⟩ := s
 simp only [Sm.cells] at hcall ⊢
 have hb2 : 2 * (x.length + 1) * 112 ≤ 281474976710656 := by omega
 have hlt : (x.length : Int) < x.length + 1 := by omega
 have hno : (Sm.rows x)[x.length]? = none := by rw [List.getElem?_eq_none_iff, hcl]; exact Nat.le_refl _
 simp [hlt, hno, a_tree_All_0, y_tree_All_0, recAt, hg, hs0, hg', hs', hcl, hcall, hb2, frzMix, endRound, pendOf, ht']
theorem all_loop (a : List V) (bs : List (List Sm)) (hbs : ∀ b ∈ bs, WalkOK b) (hb2 : bs.length ≤ 20002) (R : Option (V × Heap)) (k : List Item) :
  ∀ (j t : Nat) (x : List Sm) (φ : Fr) (T : Heap), t + j = bs.length → x.length + (Sm.flats (bs.drop t).flatten).length ≤ 20000 → Fr.get φ 3 = .ptr 1 0 → Fr.get φ 8 = .own 1 (bs.map brow) → Fr.get φ 9 = .int .i64 bs.length → Fr.get φ 10 = .int .i64 t →
   (∀ φ' T', Fr.get φ' 3 = .ptr 1 0 → M (eval tbl noExt) k φ' (some a :: some [V.own 7 (Sm.rows (x ++ Sm.flats (bs.drop t).flatten))] :: T') = R) →
   M (eval tbl noExt) (.code l_tree_All_0 :: .blk 0 :: k) φ (some a :: some [V.own 7 (Sm.rows x)] :: T) = R := by
 intro j
 induction j with
 | zero =>
  intro t x φ T hj hN h3 h8 h9 h10 hexit
  have hi : ¬ ((t : Int) < bs.length) := by omega
  rw [List.drop_of_length_le (by omega)] at hexit
  simp only [List.flatten_nil, Sm.flats, List.append_nil] at hexit
  rw [l_tree_All_0, M_loop, ← l_tree_All_0]
  simp [b_tree_All_0, h3, h8, h9, h10, hi]
  exact hexit _ T (by simp [h3])
 | succ j ih =>
  intro t x φ T hj hN h3 h8 h9 h10 hexit
  have hi : (t : Int) < bs.length := by omega
  have hil : t < bs.length := by omega
  obtain ⟨b, hb⟩ : ∃ b, bs[t]? = some b := ⟨bs[t], List.getElem?_eq_getElem hil⟩
  have hmem : b ∈ bs := List.mem_of_getElem? hb
  have hdrop : bs.drop t = b :: bs.drop (t + 1) := by
   rw [List.drop_eq_getElem_cons hil]
   rw [List.getElem?_eq_getElem hil] at hb
   rw [Option.some.inj hb]
  rw [hdrop] at hN hexit
  simp only [List.flatten_cons, Sm.flats_append, List.length_append, ← List.append_assoc] at hN hexit
  have hrow : (bs.map brow)[t]? = some [.sl 7 (Sm.rows b)] := by rw [List.getElem?_map, hb]; rfl
  have hw : IntKind.i64.wrap ((t : Int) + 1) = ((t + 1 : Nat) : Int) := by rw [w64 (by omega) (by omega)]; rfl
  have hys := all_round a [V.ptr 1 0] rfl T [some [V.sl 7 (Sm.rows b)]] rfl
  have hwk := hbs b hmem (2 + (T.length + 1)) (2 + (T.length + 1) + 1) 20000 (T.length + 1 + 1) _ [] x (by intro x; simp only [List.length_append, List.length_cons, List.length_nil]; omega) hys (by
   intro x
   rw [List.append_nil, List.getElem?_cons_succ, List.getElem?_cons_succ, List.getElem?_append_right (Nat.le_refl _), Nat.sub_self]
   rfl) (by omega)
  simp only [List.append_nil] at hwk
  rw [show 2 + (T.length + 1) = T.length + 1 + 1 + 1 by omega] at hwk
  have hread : ∀ y : List Sm, recAt (some a :: some [V.own 7 (Sm.rows y)] :: (T ++ ([some [V.sl 7 (Sm.rows b)]] ++ [some [V.lrec 0 0 q_tree_All_0 [16] [3] [V.ptr 1 0]]]))) (T.length + 1 + 1 + 1) = some (0, 0, q_tree_All_0, [16], [3], [V.ptr 1 0]) := by
   intro y
   unfold recAt
   rw [List.getElem?_cons_succ, List.getElem?_cons_succ, List.getElem?_append_right (by omega)]
   simp [Nat.add_sub_cancel_left]
  have htake : ∀ y : List Sm, (some a :: some [V.own 7 (Sm.rows y)] :: (T ++ ([some [V.sl 7 (Sm.rows b)]] ++ [some [V.lrec 0 0 q_tree_All_0 [16] [3] [V.ptr 1 0]]])) : Heap).take (T.length + 1 + 1 + 1) = some a :: some [V.own 7 (Sm.rows y)] :: (T ++ [some [V.sl 7 (Sm.rows b)]]) := by
   intro y
   rw [List.take_succ_cons, List.take_succ_cons, ← List.append_assoc, List.take_append_of_le_length (by simp), List.take_of_length_le (by simp)]
  simp only [List.cons_append, List.nil_append] at hwk hread htake
  rw [l_tree_All_0, M_loop, ← l_tree_All_0]
  simp [b_tree_All_0, h3, h8, h9, h10, hi, hrow, walk_eq, hwk, hread, htake, r_tree_All_0, hw]
  refine ih (t + 1) (x ++ Sm.flats b) _ (T ++ [some [V.sl 7 (Sm.rows b)]]) (by omega) (by simp; omega) (by simp [h3]) (by simp [h8]) (by simp [h9]) (by simp) ?_
  intro φ' T' g3
  have := hexit φ' T' g3
  simpa using this
theorem All_eq (p : Pg) (hp : p.size ≤ 20000) : eval tbl noExt n_tree_All [.agg p.cells] [] = some (.sl 7 (Sm.rows p.flats), []) := by
 have hsz := p.parts_size
 have hfl := Sm.flats_sizes p.parts.flatten
 have hpl : p.parts.length = p.procs.length + 2 := by simp [Pg.parts]
 have hparts := parts_eq p (by omega) []
 rw [eval_M rfl rfl t_tree_All rfl]
 simp only [Pg.cells] at hparts ⊢
 simp [c_tree_All, hparts]
 refine all_loop p.cells p.parts (fun b hb => walk_ok 20000 b (by have := sizes_flatten hb; omega) (Nat.le_refl _)) (by omega) _ _ p.parts.length 0 [] _ [] (by omega) (by simpa using by omega) ?_ ?_ ?_ ?_ ?_
 ·simp
 ·simp
 ·simp
 ·simp
 ·intro φ' T' g3
  simp [r_tree_All_1, g3, Pg.flats]
/-- How many parts an expression of a kind has. -/
def parts (op : Int) : Option Nat := if op < 1 then none else if 14 < op then none else if op ≤ 4 then some 0 else if op ≤ 8 then some 1 else some 2
/-- How many expressions a statement of a kind has. -/
def exprs (op : Int) : Option Nat :=
 if op = 11 then some 0 else if op = 14 then some 0 else if op = 15 then some 0 else if op = 4 then some 2 else if op = 5 then some 2 else if op = 6 then some 2 else if op = 3 then some 3 else if op < 1 then none else if 18 < op then none else some 1
def tup (o : Option Nat) : V := .tup [.int .i64 (o.getD 0), .bool o.isSome]
theorem Parts_eq (op : Int) (H : Heap) : eval tbl noExt n_tree_Parts [.int .i64 op] H = some (tup (parts op), H) := by
 rw [eval_M rfl rfl t_tree_Parts rfl]
 by_cases h1 : op < 1
 ·simp [c_tree_Parts, h1, parts, tup]
 by_cases h2 : 14 < op
 ·simp [c_tree_Parts, h1, h2, parts, tup]
 by_cases h3 : op ≤ 4
 ·simp [c_tree_Parts, h1, h2, h3, parts, tup]
 by_cases h4 : op ≤ 8
 ·simp [c_tree_Parts, h1, h2, h3, h4, parts, tup]
 ·simp [c_tree_Parts, h1, h2, h3, h4, parts, tup]
theorem Exprs_eq (op : Int) (H : Heap) : eval tbl noExt n_tree_Exprs [.int .i64 op] H = some (tup (exprs op), H) := by
 rw [eval_M rfl rfl t_tree_Exprs rfl]
 by_cases h1 : op = 11
 ·simp [c_tree_Exprs, h1, exprs, tup]
 by_cases h2 : op = 14
 ·simp [c_tree_Exprs, h1, h2, exprs, tup]
 by_cases h3 : op = 15
 ·simp [c_tree_Exprs, h1, h2, h3, exprs, tup]
 by_cases h4 : op = 4
 ·simp [c_tree_Exprs, h1, h2, h3, h4, exprs, tup]
 by_cases h5 : op = 5
 ·simp [c_tree_Exprs, h1, h2, h3, h4, h5, exprs, tup]
 by_cases h6 : op = 6
 ·simp [c_tree_Exprs, h1, h2, h3, h4, h5, h6, exprs, tup]
 by_cases h7 : op = 3
 ·simp [c_tree_Exprs, h1, h2, h3, h4, h5, h6, h7, exprs, tup]
 by_cases h8 : op < 1
 ·simp [c_tree_Exprs, h1, h2, h3, h4, h5, h6, h7, h8, exprs, tup]
 by_cases h9 : 18 < op
 ·simp [c_tree_Exprs, h1, h2, h3, h4, h5, h6, h7, h8, h9, exprs, tup]
 ·simp [c_tree_Exprs, h1, h2, h3, h4, h5, h6, h7, h8, h9, exprs, tup]
/-- May an expression of a kind have that number, and that text? -/
def leafOk (op n : Int) (s : List UInt8) : Bool :=
 if op = 1 then decide (0 ≤ n) && decide (n ≤ 1000000000000) && decide (s = [])
 else if op = 3 then decide (n = 0 ∨ n = 1) && decide (s = [])
 else if op = 2 then decide (s.length ≤ 64) && decide (n = 0)
 else if op = 4 then isName s && decide (n = 0)
 else decide (s = []) && decide (n = 0)
mutual
/-- Is an expression right, and at most so deep? -/
def Ex.ok : Ex → Nat → Bool
 | .mk op n s x, d => match parts op with
  | none => false
  | some k => decide (d ≠ 0) && decide (x.length = k) && leafOk op n s && Ex.oks x (d - 1)
def Ex.oks : List Ex → Nat → Bool
 | [], _ => true
 | e :: l, d => e.ok d && Ex.oks l d
end
theorem Ex.oks_all (l : List Ex) (d : Nat) : Ex.oks l d = l.all fun e => e.ok d := by
 induction l with
 | nil => simp [Ex.oks]
 | cons e l ih => simp [Ex.oks, ih]
theorem any_not {α : Type} (l : List α) (p : α → Bool) : (l.any fun e => !p e) = !(l.all p) := by
 induction l with
 | nil => rfl
 | cons e l ih => simp [ih, Bool.not_and]
theorem Ex.strips (e : Ex) : e.cells.length = 4 ∧ allStrip e.cells = e.cells := by cases e; simp [Ex.cells]
theorem Sm.strips (e : Sm) : e.cells.length = 7 ∧ allStrip e.cells = e.cells := by cases e; simp [Sm.cells]
theorem shr_zero (n : Int) : n.fdiv (2 ^ min 1 IntKind.i64.bits) = 0 ↔ n = 0 ∨ n = 1 := by
 have : (2 : Int) ^ min 1 IntKind.i64.bits = 2 := by decide
 rw [this, Int.fdiv_eq_ediv_of_nonneg _ (by omega)]; omega
/-- What an expression's parts are asked. -/
def ExOK (d : Nat) (e : Ex) : Prop := ∀ H, eval tbl noExt n_tree_expr [.agg e.cells, .int .i64 d] H = some (.bool (e.ok d), H)
theorem expr_1_eq (d : Nat) (hd : d ≤ 20000) (e : Ex) (he : ExOK d e) (K : Heap) (j : Nat) (hK : K[j]? = some (some [.int .i64 ((d + 1 : Nat) : Int)])) (hj : j < K.length) :
  eval tbl noExt n_tree_expr_1 [.agg e.cells, .ptr j 0] K = some (.bool (!e.ok d), K) := by
 have hw : IntKind.i64.wrap (d : Int) = d := w64 (by omega) (by omega)
 have hK2 : ∀ r, (K ++ r)[j]? = some (some [.int .i64 ((d + 1 : Nat) : Int)]) := fun r => by rw [List.getElem?_append_left hj]; exact hK
 have he0 := he []
 obtain ⟨op, n, s, x⟩ := e
 simp only [Ex.cells] at he0 ⊢
 rw [eval_M rfl rfl t_tree_expr_1 rfl]
 simp [c_tree_expr_1, get0, hK2, hw, he0]
theorem expr_conts (d : Nat) (hd : d ≤ 20000) (x : List Ex) (hl : x.length ≤ 20000) (hx : ∀ e ∈ x, ExOK d e) (K : Heap) (j : Nat) (hK : K[j]? = some (some [.int .i64 ((d + 1 : Nat) : Int)])) (hj : j < K.length) :
  eval tbl noExt n_slices_ContainsFunc_api_Expr_api_Expr [.sl 4 (Ex.rows x), .fn (.func n_tree_expr_1) [] [.ptr j 0]] K = some (.bool (!Ex.oks x d), K) := by
 rw [Ex.rows_eq, Ex.oks_all, ← any_not]
 exact ContainsFunc_api_Expr_api_Expr (first := []) lt_tree_expr_1 Ex.cells x (by omega) (fun e => !e.ok d) K (fun e _ => Ex.strips e) (fun e he => expr_1_eq d hd e (hx e he) K j hK hj)
theorem expr_step (d : Nat) (hd : d ≤ 20000) (op n : Int) (s : List UInt8) (x : List Ex) (hs : s.length ≤ 300) (hl : x.length ≤ 20000) (hx : ∀ d', d = d' + 1 → ∀ e ∈ x, ExOK d' e) : ExOK d (.mk op n s x) := by
 intro H
 have hP := Parts_eq op
 have hN := Name_eq s (by omega)
 have hcl : (Ex.rows x).length = x.length := by rw [Ex.rows_eq]; simp
 simp only [Ex.ok, Ex.cells]
 rw [eval_M rfl rfl t_tree_expr rfl]
 cases hpo : parts op with
 | none =>
  rw [hpo] at hP
  simp [c_tree_expr, hP, tup, get0, get1]
 | some k =>
 rw [hpo] at hP
 cases d with
 | zero => simp [c_tree_expr, hP, tup, get0, get1]
 | succ d =>
 have hd0 : ¬ ((d : Int) + 1 = 0) := by omega
 by_cases hk : x.length = k
 ·have hk' : (x.length : Int) = k := by omega
  have hc := fun K j => expr_conts d (by omega) x hl (hx d rfl) K j
  have hc' : ∀ A B, eval tbl noExt n_slices_ContainsFunc_api_Expr_api_Expr [.sl 4 (Ex.rows x), .fn (.func n_tree_expr_1) [] [.ptr (H.length + 1) 0]] (H ++ [A, some [.int .i64 ((d : Int) + 1)], B]) = some (.bool (!Ex.oks x d), H ++ [A, some [.int .i64 ((d : Int) + 1)], B]) :=
   fun A B => hc _ _ (by rw [get1]; simp) (by simp)
  subst hk
  by_cases h1 : op = 1
  ·subst h1
   by_cases a1 : 0 ≤ n
   ·by_cases a2 : n ≤ 1000000000000
    ·by_cases a3 : s = []
     ·simp [c_tree_expr, hP, tup, get0, get1, hd0, hcl, a1, a2, a3, leafOk, hc']
     ·simp [c_tree_expr, hP, tup, get0, get1, hd0, hcl, a1, a2, a3, leafOk]
    ·simp [c_tree_expr, hP, tup, get0, get1, hd0, hcl, a1, a2, leafOk]
   ·simp [c_tree_expr, hP, tup, get0, get1, hd0, hcl, a1, leafOk]
  by_cases h3 : op = 3
  ·subst h3
   by_cases a1 : n = 0 ∨ n = 1
   ·by_cases a3 : s = []
    ·simp [c_tree_expr, hP, tup, get0, get1, hd0, hcl, leafOk, shr_zero, a1, a3, hc']
    ·simp [c_tree_expr, hP, tup, get0, get1, hd0, hcl, leafOk, shr_zero, a1, a3]
   ·simp [c_tree_expr, hP, tup, get0, get1, hd0, hcl, leafOk, shr_zero, a1]
  by_cases h2 : op = 2
  ·subst h2
   by_cases a1 : s.length ≤ 64
   ·have a1' : (s.length : Int) ≤ 64 := by omega
    by_cases a3 : n = 0
    ·simp [c_tree_expr, hP, tup, get0, get1, hd0, hcl, leafOk, shr_zero, a1, a1', a3, hc']
    ·simp [c_tree_expr, hP, tup, get0, get1, hd0, hcl, leafOk, shr_zero, a1, a1', a3]
   ·have a1' : ¬ (s.length : Int) ≤ 64 := by omega
    simp [c_tree_expr, hP, tup, get0, get1, hd0, hcl, leafOk, shr_zero, a1, a1']
  by_cases h4 : op = 4
  ·subst h4
   cases a1 : isName s with
   | true =>
    rw [a1] at hN
    by_cases a3 : n = 0
    ·simp [c_tree_expr, hP, tup, get0, get1, hd0, hcl, leafOk, shr_zero, hN, a1, a3, hc']
    ·simp [c_tree_expr, hP, tup, get0, get1, hd0, hcl, leafOk, shr_zero, hN, a1, a3]
   | false =>
    rw [a1] at hN
    simp [c_tree_expr, hP, tup, get0, get1, hd0, hcl, leafOk, shr_zero, hN, a1]
  by_cases a1 : s = []
  ·by_cases a3 : n = 0
   ·simp [c_tree_expr, hP, tup, get0, get1, hd0, hcl, leafOk, shr_zero, h1, h2, h3, h4, a1, a3, hc']
   ·simp [c_tree_expr, hP, tup, get0, get1, hd0, hcl, leafOk, shr_zero, h1, h2, h3, h4, a1, a3]
  ·simp [c_tree_expr, hP, tup, get0, get1, hd0, hcl, leafOk, shr_zero, h1, h2, h3, h4, a1]
 ·have hk' : ¬ (x.length : Int) = k := by omega
  simp [c_tree_expr, hP, tup, get0, get1, hd0, hcl, hk, hk']
theorem expr_ok1 : ∀ (n : Nat) (e : Ex), e.size ≤ n → n ≤ 20000 → e.txt → ∀ d, d ≤ 20000 → ExOK d e := by
 intro n
 induction n with
 | zero => intro e h; cases e; simp only [Ex.size] at h; omega
 | succ n ih =>
  intro e h hn ht d hd
  obtain ⟨op, m, s, x⟩ := e
  simp only [Ex.size] at h
  simp only [Ex.txt] at ht
  have hl := Ex.sizes_ge x
  have hx : ∀ e ∈ x, e.size ≤ n ∧ e.txt := fun e he => ⟨by have := Ex.sizes_mem he; omega, by
   have : ∀ l : List Ex, Ex.txts l → ∀ e ∈ l, e.txt := by
    intro l
    induction l with
    | nil => intro _ e he; simp at he
    | cons y l ih2 =>
     intro h e he
     rcases List.mem_cons.1 he with rfl | he
     ·exact h.1
     ·exact ih2 h.2 e he
   exact this x ht.2 e he⟩
  exact expr_step d hd op m s x ht.1 (by omega) (fun d' h' e he => (ih e (hx e he).1 (by omega) (hx e he).2 d' (by omega)))
/-- Is a statement right, but for what is in its blocks? -/
def shapeOk (op : Int) (s : List UInt8) (n : Int) (e : List Ex) (b c : List Sm) (g : Bool) : Bool :=
 match exprs op with
 | none => false
 | some k => decide (e.length = k) && ((if op = 12 ∨ op = 15 then isName s else decide (s = [])) && (decide (0 ≤ n) && (decide (n ≤ 16) && ((decide (op = 14) || decide (n = 0)) && ((decide (op = 16) || !g) && ((decide (op = 13 ∨ op = 14 ∨ op = 16) || decide (b = [])) && ((decide (op = 13) || decide (c = [])) && Ex.oks e 8)))))))
theorem blocks_eq (op : Int) (H : Heap) : eval tbl noExt n_tree_blocks [.int .i64 op] H = some (.tup [.bool (decide (op = 13 ∨ op = 14 ∨ op = 16)), .bool (decide (op = 13))], H) := by
 rw [eval_M rfl rfl t_tree_blocks rfl]
 by_cases h1 : op = 13
 ·simp [c_tree_blocks, h1]
 by_cases h2 : op = 14
 ·simp [c_tree_blocks, h1, h2]
 ·simp [c_tree_blocks, h1, h2]
theorem shape_1_eq (e : Ex) (he : ExOK 8 e) (K : Heap) : eval tbl noExt n_tree_shape_1 [.agg e.cells] K = some (.bool (!e.ok 8), K) := by
 have he0 := he []
 obtain ⟨op, n, s, x⟩ := e
 simp only [Ex.cells, Int.cast_ofNat_Int] at he0 ⊢
 rw [eval_M rfl rfl t_tree_shape_1 rfl]
 simp [c_tree_shape_1, get0, he0]
theorem shape_conts (x : List Ex) (hl : x.length ≤ 20000) (hx : ∀ e ∈ x, ExOK 8 e) (K : Heap) :
  eval tbl noExt n_slices_ContainsFunc_api_Expr_api_Expr [.sl 4 (Ex.rows x), .fn (.func n_tree_shape_1) [] []] K = some (.bool (!Ex.oks x 8), K) := by
 rw [Ex.rows_eq, Ex.oks_all, ← any_not]
 exact ContainsFunc_api_Expr_api_Expr (first := []) (cap := []) lt_tree_shape_1 Ex.cells x (by omega) (fun e => !e.ok 8) K (fun e _ => Ex.strips e) (fun e he => shape_1_eq e (hx e he) K)
theorem shape_eq (op n : Int) (s : List UInt8) (e : List Ex) (b c : List Sm) (g : Bool) (hs : s.length ≤ 300) (hl : e.length ≤ 20000) (hx : ∀ y ∈ e, ExOK 8 y) (H : Heap) :
  eval tbl noExt n_tree_shape [.agg (Sm.cells (.mk op s n e b c g))] H = some (.bool (shapeOk op s n e b c g), H) := by
 have hP := Exprs_eq op
 have hB := blocks_eq op
 have hN := Name_eq s (by omega)
 have hC := shape_conts e hl hx
 have hcl : (Ex.rows e).length = e.length := by rw [Ex.rows_eq]; simp
 have hbl : (Sm.rows b).length = b.length := by rw [Sm.rows_eq]; simp
 have hccl : (Sm.rows c).length = c.length := by rw [Sm.rows_eq]; simp
 simp only [Sm.cells, shapeOk]
 rw [eval_M rfl rfl t_tree_shape rfl]
 cases hpo : exprs op with
 | none =>
  rw [hpo] at hP
  by_cases h12 : op = 12
  ·subst h12
   simp [c_tree_shape, hP, hB, tup, get0]
  ·simp [c_tree_shape, hP, hB, tup, get0, h12]
 | some k =>
 rw [hpo] at hP
 by_cases hk : e.length = k
 case neg =>
  have hk' : ¬ (e.length : Int) = k := by omega
  by_cases h12 : op = 12
  ·subst h12
   simp [c_tree_shape, hP, hB, tup, get0, hcl, hk, hk']
  ·simp [c_tree_shape, hP, hB, tup, get0, hcl, hk, hk', h12]
 subst hk
 by_cases h12 : op = 12
 ·subst h12
  cases hna : isName s with
  | false =>
   rw [hna] at hN
   by_cases hs0 : s = []
   ·simp [c_tree_shape, hP, hB, tup, get0, hcl, hbl, hccl, hC, Sm.rows, hN, hna, hs0]
   ·simp [c_tree_shape, hP, hB, tup, get0, hcl, hbl, hccl, hC, Sm.rows, hN, hna, hs0]
  | true =>
  rw [hna] at hN
  have hs0 : ¬ s = [] := by rintro rfl; simp [isName] at hna
  by_cases hn1 : n < 0
  ·have hn1b : ¬ 0 ≤ n := by omega
   have hn0 : ¬ n = 0 := by omega
   simp [c_tree_shape, hP, hB, tup, get0, hcl, hbl, hccl, hC, Sm.rows, hN, hna, hs0, hn1, hn1b, hn0]
  have hn1b : 0 ≤ n := by omega
  by_cases hn2 : 16 < n
  ·have hn2b : ¬ n ≤ 16 := by omega
   have hn0 : ¬ n = 0 := by omega
   simp [c_tree_shape, hP, hB, tup, get0, hcl, hbl, hccl, hC, Sm.rows, hN, hna, hs0, hn1, hn1b, hn2, hn2b, hn0]
  have hn2b : n ≤ 16 := by omega
  by_cases hn0 : n = 0
  case neg => simp [c_tree_shape, hP, hB, tup, get0, hcl, hbl, hccl, hC, Sm.rows, hN, hna, hs0, hn1, hn1b, hn2, hn2b, hn0]
  subst hn0
  cases g with
  | true => simp [c_tree_shape, hP, hB, tup, get0, hcl, hbl, hccl, hC, Sm.rows, hN, hna, hs0]
  | false =>
  by_cases hb0 : b = []
  case neg =>
   have hb1 : 0 < b.length := List.length_pos_iff.2 hb0
   simp [c_tree_shape, hP, hB, tup, get0, hcl, hbl, hccl, hC, Sm.rows, hN, hna, hs0, hb0, hb1]
  subst hb0
  by_cases hc0 : c = []
  case neg =>
   have hc1 : 0 < c.length := List.length_pos_iff.2 hc0
   simp [c_tree_shape, hP, hB, tup, get0, hcl, hbl, hccl, hC, Sm.rows, hN, hna, hs0, hc0, hc1]
  subst hc0
  simp [c_tree_shape, hP, hB, tup, get0, hcl, hbl, hccl, hC, Sm.rows, hN, hna, hs0]
 by_cases h13 : op = 13
 ·subst h13
  by_cases hs0 : s = []
  case neg => simp [c_tree_shape, hP, hB, tup, get0, hcl, hbl, hccl, hC, Sm.rows, hs0]
  by_cases hn1 : n < 0
  ·have hn1b : ¬ 0 ≤ n := by omega
   have hn0 : ¬ n = 0 := by omega
   simp [c_tree_shape, hP, hB, tup, get0, hcl, hbl, hccl, hC, Sm.rows, hs0, hn1, hn1b, hn0]
  have hn1b : 0 ≤ n := by omega
  by_cases hn2 : 16 < n
  ·have hn2b : ¬ n ≤ 16 := by omega
   have hn0 : ¬ n = 0 := by omega
   simp [c_tree_shape, hP, hB, tup, get0, hcl, hbl, hccl, hC, Sm.rows, hs0, hn1, hn1b, hn2, hn2b, hn0]
  have hn2b : n ≤ 16 := by omega
  by_cases hn0 : n = 0
  case neg => simp [c_tree_shape, hP, hB, tup, get0, hcl, hbl, hccl, hC, Sm.rows, hs0, hn1, hn1b, hn2, hn2b, hn0]
  subst hn0
  cases g with
  | true => simp [c_tree_shape, hP, hB, tup, get0, hcl, hbl, hccl, hC, Sm.rows, hs0]
  | false =>
  simp [c_tree_shape, hP, hB, tup, get0, hcl, hbl, hccl, hC, Sm.rows, hs0]
 by_cases h14 : op = 14
 ·subst h14
  by_cases hs0 : s = []
  case neg => simp [c_tree_shape, hP, hB, tup, get0, hcl, hbl, hccl, hC, Sm.rows, hs0]
  by_cases hn1 : n < 0
  ·have hn1b : ¬ 0 ≤ n := by omega
   have hn0 : ¬ n = 0 := by omega
   simp [c_tree_shape, hP, hB, tup, get0, hcl, hbl, hccl, hC, Sm.rows, hs0, hn1, hn1b, hn0]
  have hn1b : 0 ≤ n := by omega
  by_cases hn2 : 16 < n
  ·have hn2b : ¬ n ≤ 16 := by omega
   have hn0 : ¬ n = 0 := by omega
   simp [c_tree_shape, hP, hB, tup, get0, hcl, hbl, hccl, hC, Sm.rows, hs0, hn1, hn1b, hn2, hn2b, hn0]
  have hn2b : n ≤ 16 := by omega
  by_cases hn0 : n = 0
  ·subst hn0
   cases g with
   | true => simp [c_tree_shape, hP, hB, tup, get0, hcl, hbl, hccl, hC, Sm.rows, hs0]
   | false =>
   by_cases hc0 : c = []
   case neg =>
    have hc1 : 0 < c.length := List.length_pos_iff.2 hc0
    simp [c_tree_shape, hP, hB, tup, get0, hcl, hbl, hccl, hC, Sm.rows, hs0, hc0, hc1]
   subst hc0
   simp [c_tree_shape, hP, hB, tup, get0, hcl, hbl, hccl, hC, Sm.rows, hs0]
  cases g with
  | true => simp [c_tree_shape, hP, hB, tup, get0, hcl, hbl, hccl, hC, Sm.rows, hs0, hn1, hn1b, hn2, hn2b, hn0]
  | false =>
  by_cases hc0 : c = []
  case neg =>
   have hc1 : 0 < c.length := List.length_pos_iff.2 hc0
   simp [c_tree_shape, hP, hB, tup, get0, hcl, hbl, hccl, hC, Sm.rows, hs0, hn1, hn1b, hn2, hn2b, hn0, hc0, hc1]
  subst hc0
  simp [c_tree_shape, hP, hB, tup, get0, hcl, hbl, hccl, hC, Sm.rows, hs0, hn1, hn1b, hn2, hn2b, hn0]
 by_cases h15 : op = 15
 ·subst h15
  cases hna : isName s with
  | false =>
   rw [hna] at hN
   by_cases hs0 : s = []
   ·simp [c_tree_shape, hP, hB, tup, get0, hcl, hbl, hccl, hC, Sm.rows, hN, hna, hs0]
   ·simp [c_tree_shape, hP, hB, tup, get0, hcl, hbl, hccl, hC, Sm.rows, hN, hna, hs0]
  | true =>
  rw [hna] at hN
  have hs0 : ¬ s = [] := by rintro rfl; simp [isName] at hna
  by_cases hn1 : n < 0
  ·have hn1b : ¬ 0 ≤ n := by omega
   have hn0 : ¬ n = 0 := by omega
   simp [c_tree_shape, hP, hB, tup, get0, hcl, hbl, hccl, hC, Sm.rows, hN, hna, hs0, hn1, hn1b, hn0]
  have hn1b : 0 ≤ n := by omega
  by_cases hn2 : 16 < n
  ·have hn2b : ¬ n ≤ 16 := by omega
   have hn0 : ¬ n = 0 := by omega
   simp [c_tree_shape, hP, hB, tup, get0, hcl, hbl, hccl, hC, Sm.rows, hN, hna, hs0, hn1, hn1b, hn2, hn2b, hn0]
  have hn2b : n ≤ 16 := by omega
  by_cases hn0 : n = 0
  case neg => simp [c_tree_shape, hP, hB, tup, get0, hcl, hbl, hccl, hC, Sm.rows, hN, hna, hs0, hn1, hn1b, hn2, hn2b, hn0]
  subst hn0
  cases g with
  | true => simp [c_tree_shape, hP, hB, tup, get0, hcl, hbl, hccl, hC, Sm.rows, hN, hna, hs0]
  | false =>
  by_cases hb0 : b = []
  case neg =>
   have hb1 : 0 < b.length := List.length_pos_iff.2 hb0
   simp [c_tree_shape, hP, hB, tup, get0, hcl, hbl, hccl, hC, Sm.rows, hN, hna, hs0, hb0, hb1]
  subst hb0
  by_cases hc0 : c = []
  case neg =>
   have hc1 : 0 < c.length := List.length_pos_iff.2 hc0
   simp [c_tree_shape, hP, hB, tup, get0, hcl, hbl, hccl, hC, Sm.rows, hN, hna, hs0, hc0, hc1]
  subst hc0
  simp [c_tree_shape, hP, hB, tup, get0, hcl, hbl, hccl, hC, Sm.rows, hN, hna, hs0]
 by_cases h16 : op = 16
 ·subst h16
  by_cases hs0 : s = []
  case neg => simp [c_tree_shape, hP, hB, tup, get0, hcl, hbl, hccl, hC, Sm.rows, hs0]
  by_cases hn1 : n < 0
  ·have hn1b : ¬ 0 ≤ n := by omega
   have hn0 : ¬ n = 0 := by omega
   simp [c_tree_shape, hP, hB, tup, get0, hcl, hbl, hccl, hC, Sm.rows, hs0, hn1, hn1b, hn0]
  have hn1b : 0 ≤ n := by omega
  by_cases hn2 : 16 < n
  ·have hn2b : ¬ n ≤ 16 := by omega
   have hn0 : ¬ n = 0 := by omega
   simp [c_tree_shape, hP, hB, tup, get0, hcl, hbl, hccl, hC, Sm.rows, hs0, hn1, hn1b, hn2, hn2b, hn0]
  have hn2b : n ≤ 16 := by omega
  by_cases hn0 : n = 0
  case neg => simp [c_tree_shape, hP, hB, tup, get0, hcl, hbl, hccl, hC, Sm.rows, hs0, hn1, hn1b, hn2, hn2b, hn0]
  subst hn0
  cases g with
  | true =>
   by_cases hc0 : c = []
   case neg =>
    have hc1 : 0 < c.length := List.length_pos_iff.2 hc0
    simp [c_tree_shape, hP, hB, tup, get0, hcl, hbl, hccl, hC, Sm.rows, hs0, hc0, hc1]
   subst hc0
   simp [c_tree_shape, hP, hB, tup, get0, hcl, hbl, hccl, hC, Sm.rows, hs0]
  | false =>
   by_cases hc0 : c = []
   case neg =>
    have hc1 : 0 < c.length := List.length_pos_iff.2 hc0
    simp [c_tree_shape, hP, hB, tup, get0, hcl, hbl, hccl, hC, Sm.rows, hs0, hc0, hc1]
   subst hc0
   simp [c_tree_shape, hP, hB, tup, get0, hcl, hbl, hccl, hC, Sm.rows, hs0]
 by_cases hs0 : s = []
 case neg => simp [c_tree_shape, hP, hB, tup, get0, hcl, hbl, hccl, hC, Sm.rows, h12, h13, h14, h15, h16, hs0]
 by_cases hn1 : n < 0
 ·have hn1b : ¬ 0 ≤ n := by omega
  have hn0 : ¬ n = 0 := by omega
  simp [c_tree_shape, hP, hB, tup, get0, hcl, hbl, hccl, hC, Sm.rows, h12, h13, h14, h15, h16, hs0, hn1, hn1b, hn0]
 have hn1b : 0 ≤ n := by omega
 by_cases hn2 : 16 < n
 ·have hn2b : ¬ n ≤ 16 := by omega
  have hn0 : ¬ n = 0 := by omega
  simp [c_tree_shape, hP, hB, tup, get0, hcl, hbl, hccl, hC, Sm.rows, h12, h13, h14, h15, h16, hs0, hn1, hn1b, hn2, hn2b, hn0]
 have hn2b : n ≤ 16 := by omega
 by_cases hn0 : n = 0
 case neg => simp [c_tree_shape, hP, hB, tup, get0, hcl, hbl, hccl, hC, Sm.rows, h12, h13, h14, h15, h16, hs0, hn1, hn1b, hn2, hn2b, hn0]
 subst hn0
 cases g with
 | true => simp [c_tree_shape, hP, hB, tup, get0, hcl, hbl, hccl, hC, Sm.rows, h12, h13, h14, h15, h16, hs0]
 | false =>
 by_cases hb0 : b = []
 case neg =>
  have hb1 : 0 < b.length := List.length_pos_iff.2 hb0
  simp [c_tree_shape, hP, hB, tup, get0, hcl, hbl, hccl, hC, Sm.rows, h12, h13, h14, h15, h16, hs0, hb0, hb1]
 subst hb0
 by_cases hc0 : c = []
 case neg =>
  have hc1 : 0 < c.length := List.length_pos_iff.2 hc0
  simp [c_tree_shape, hP, hB, tup, get0, hcl, hbl, hccl, hC, Sm.rows, h12, h13, h14, h15, h16, hs0, hc0, hc1]
 subst hc0
 simp [c_tree_shape, hP, hB, tup, get0, hcl, hbl, hccl, hC, Sm.rows, h12, h13, h14, h15, h16, hs0]
/-- A transaction's block. -/
def txnOk (op : Int) (b : List Sm) : Bool := decide (op ≠ 16) || (decide (b.length ≤ 8) && b.all fun x => decide (x.op = 3))
mutual
/-- Is a statement right in a block that is so deep? -/
def Sm.ok : Sm → Nat → Bool
 | .mk op s n e b c g, d => decide (d ≤ 8) && (shapeOk op s n e b c g && (txnOk op b && (Sm.oks b (d + 1) && Sm.oks c (d + 1))))
def Sm.oks : List Sm → Nat → Bool
 | [], _ => true
 | e :: l, d => e.ok d && Sm.oks l d
end
theorem Sm.oks_all (l : List Sm) (d : Nat) : Sm.oks l d = l.all fun e => e.ok d := by
 induction l with
 | nil => simp [Sm.oks]
 | cons e l ih => simp [Sm.oks, ih]
def StOK (d : Nat) (e : Sm) : Prop := ∀ H, eval tbl noExt n_tree_stmt [.agg e.cells, .int .i64 d] H = some (.bool (e.ok d), H)
def BlOK (d : Nat) (l : List Sm) : Prop := ∀ H, eval tbl noExt n_tree_block [.sl 7 (Sm.rows l), .int .i64 d] H = some (.bool (Sm.oks l d), H)
theorem block_1_eq (d : Nat) (hd : d ≤ 20000) (e : Sm) (he : StOK d e) (K : Heap) (j : Nat) (hK : K[j]? = some (some [.int .i64 (d : Int)])) (hj : j < K.length) :
  eval tbl noExt n_tree_block_1 [.agg e.cells, .ptr j 0] K = some (.bool (!e.ok d), K) := by
 have hK2 : ∀ r, (K ++ r)[j]? = some (some [.int .i64 (d : Int)]) := fun r => by rw [List.getElem?_append_left hj]; exact hK
 have he0 := he []
 obtain ⟨op, s, n, x, b, c, g⟩ := e
 simp only [Sm.cells] at he0 ⊢
 rw [eval_M rfl rfl t_tree_block_1 rfl]
 simp [c_tree_block_1, get0, hK2, he0]
theorem block_step_ok (d : Nat) (hd : d ≤ 20000) (l : List Sm) (hl : l.length ≤ 20000) (hx : ∀ e ∈ l, StOK d e) : BlOK d l := by
 intro H
 have hc : eval tbl noExt n_slices_ContainsFunc_api_Stmt_api_Stmt_x [.sl 7 (Sm.rows l), .fn (.func n_tree_block_1) [] [.ptr H.length 0]] (H ++ [some [.int .i64 (d : Int)]]) = some (.bool (!Sm.oks l d), H ++ [some [.int .i64 (d : Int)]]) := by
  rw [Sm.rows_eq, Sm.oks_all, ← any_not]
  exact ContainsFunc_api_Stmt_api_Stmt_x (first := []) lt_tree_block_1 Sm.cells l (by omega) (fun e => !e.ok d) _ (fun e _ => Sm.strips e) (fun e he => block_1_eq d hd e (hx e he) _ _ (by rw [get0]) (by simp))
 rw [eval_M rfl rfl t_tree_block rfl]
 simp [c_tree_block, hc]
theorem stmt_1_eq (e : Sm) (K : Heap) : eval tbl noExt n_tree_stmt_1 [.agg e.cells] K = some (.bool (!decide (e.op = 3)), K) := by
 obtain ⟨op, s, n, x, b, c, g⟩ := e
 rw [eval_M rfl rfl t_tree_stmt_1 rfl]
 simp [c_tree_stmt_1, get0, Sm.cells, Sm.op]
 rfl
theorem stmt_step_ok (d : Nat) (hd : d ≤ 19500) (op n : Int) (s : List UInt8) (x : List Ex) (b c : List Sm) (g : Bool) (hs : s.length ≤ 300) (hl : x.length ≤ 20000) (hbl : b.length ≤ 20000) (hx : ∀ e ∈ x, ExOK 8 e) (hb : BlOK (d + 1) b) (hc : BlOK (d + 1) c) : StOK d (.mk op s n x b c g) := by
 intro H
 have hS := shape_eq op n s x b c g hs hl hx []
 have hw : IntKind.i64.wrap ((d : Int) + 1) = (d : Int) + 1 := w64 (by omega) (by omega)
 have hT : ∀ K, eval tbl noExt n_slices_ContainsFunc_api_Stmt_api_Stmt_x [.sl 7 (Sm.rows b), .fn (.func n_tree_stmt_1) [] []] K = some (.bool (!(b.all fun x => decide (x.op = 3))), K) := by
  intro K
  rw [Sm.rows_eq, ← any_not]
  exact ContainsFunc_api_Stmt_api_Stmt_x (first := []) (cap := []) lt_tree_stmt_1 Sm.cells b (by omega) (fun e => !decide (e.op = 3)) K (fun e _ => Sm.strips e) (fun e he => stmt_1_eq e K)
 have hb0 := hb []
 have hc0 := hc []
 have hrl : (Sm.rows b).length = b.length := by rw [Sm.rows_eq]; simp
 simp only [Sm.cells, Int.natCast_add, Int.cast_ofNat_Int] at hS hb0 hc0 ⊢
 rw [eval_M rfl rfl t_tree_stmt rfl]
 simp only [Sm.ok, txnOk]
 generalize (b.all fun x => decide (x.op = 3)) = all at hT ⊢
 by_cases h8 : d ≤ 8
 ·have h8' : ¬ (8 : Int) < d := by omega
  cases hso : shapeOk op s n x b c g with
  | false =>
   rw [hso] at hS
   simp [c_tree_stmt, get0, h8, h8', hS]
  | true =>
   rw [hso] at hS
   by_cases h16 : op = 16
   ·subst h16
    by_cases hb8 : b.length ≤ 8
    ·have hb8' : ¬ (8 : Int) < b.length := by omega
     cases all with
     | false => simp [c_tree_stmt, get0, h8, h8', hS, hb8, hb8', hrl, hT]
     | true =>
      cases hbo : Sm.oks b (d + 1) with
      | false =>
       rw [hbo] at hb0
       simp [c_tree_stmt, get0, h8, h8', hS, hb8, hb8', hrl, hT, hw, hb0]
      | true =>
       rw [hbo] at hb0
       simp [c_tree_stmt, get0, h8, h8', hS, hb8, hb8', hrl, hT, hw, hb0, hc0]
    ·have hb8' : (8 : Int) < b.length := by omega
     simp [c_tree_stmt, get0, h8, h8', hS, hb8, hb8', hrl]
   ·cases hbo : Sm.oks b (d + 1) with
    | false =>
     rw [hbo] at hb0
     simp [c_tree_stmt, get0, h8, h8', hS, h16, hw, hb0]
    | true =>
     rw [hbo] at hb0
     simp [c_tree_stmt, get0, h8, h8', hS, h16, hw, hb0, hc0]
 ·have h8' : (8 : Int) < d := by omega
  simp [c_tree_stmt, get0, h8, h8']
theorem exs_ok1 {n : Nat} (hn : n ≤ 20000) {x : List Ex} (hx : Ex.sizes x ≤ n) (ht : Ex.txts x) : ∀ e ∈ x, ExOK 8 e := by
 intro e he
 have hm := Ex.sizes_mem he
 refine expr_ok1 n e (by omega) hn ?_ 8 (by omega)
 induction x with
 | nil => simp at he
 | cons y l ih =>
  rcases List.mem_cons.1 he with rfl | he
  ·exact ht.1
  ·exact ih (by simp only [Ex.sizes] at hx; omega) ht.2 he (Ex.sizes_mem he)
theorem stmt_ok1 : ∀ (n : Nat) (l : List Sm), Sm.sizes l ≤ n → n ≤ 19500 → Sm.txts l → ∀ d, d + n ≤ 19500 → BlOK d l := by
 intro n
 induction n with
 | zero =>
  intro l h hn ht d hd
  have : l = [] := by
   cases l with
   | nil => rfl
   | cons e l => cases e; simp only [Sm.sizes, Sm.size] at h; omega
  subst this
  exact block_step_ok d (by omega) [] (by simp) (by simp)
 | succ n ih =>
  intro l h hn ht d hd
  have hll := Sm.sizes_ge l
  have hall : ∀ e ∈ l, StOK d e := by
   intro e he
   have hm := Sm.sizes_mem he
   have het : e.txt := by
    clear h hll hm
    induction l with
    | nil => simp at he
    | cons y l ih2 =>
     rcases List.mem_cons.1 he with rfl | he
     ·exact ht.1
     ·exact ih2 ht.2 he
   obtain ⟨op, s, m, x, b, c, g⟩ := e
   simp only [Sm.size] at hm
   simp only [Sm.txt] at het
   have hbl := Sm.sizes_ge b
   have hxl := Ex.sizes_ge x
   have hx := exs_ok1 (n := 19500) (by omega) (x := x) (by omega) het.2.1
   have hb := ih b (by omega) (by omega) het.2.2.1 (d + 1) (by omega)
   have hc := ih c (by omega) (by omega) het.2.2.2 (d + 1) (by omega)
   exact stmt_step_ok d (by omega) op m s x b c g het.1 (by omega) (by omega) hx hb hc
  exact block_step_ok d (by omega) l (by omega) hall
def Pg.ok (p : Pg) : Bool :=
 decide (p.procs.length ≤ 16) && (decide (p.oracles.length ≤ 16) && (decide (p.flats.length ≤ 256) &&
  ((p.procs.all fun x => isName x.1 && Sm.oks x.2 1) && ((p.oracles.all fun x => isName x.1 && x.2.ok 8) && (Sm.oks p.main 1 && Sm.oks p.recover 1)))))
theorem Right_1_eq (x : List UInt8 × List Sm) (hx : x.1.length ≤ 300) (K : Heap) : eval tbl noExt n_tree_Right_1 [.agg [.str x.1, .sl 7 (Sm.rows x.2)]] K = some (.bool (!isName x.1), K) := by
 have hN := Name_eq x.1 (by omega)
 rw [eval_M rfl rfl t_tree_Right_1 rfl]
 simp [c_tree_Right_1, get0, hN]
theorem Right_2_eq (x : List UInt8 × Ex) (hx : x.1.length ≤ 300) (he : ExOK 8 x.2) (K : Heap) : eval tbl noExt n_tree_Right_2 [.agg (.str x.1 :: x.2.cells)] K = some (.bool (!(isName x.1 && x.2.ok 8)), K) := by
 have hN := Name_eq x.1 (by omega)
 have he0 := he []
 obtain ⟨s, e⟩ := x
 obtain ⟨op, n, t, y⟩ := e
 simp only [Ex.cells, Int.cast_ofNat_Int] at he0 hN ⊢
 rw [eval_M rfl rfl t_tree_Right_2 rfl]
 cases hb : isName s with
 | false =>
  rw [hb] at hN
  simp [c_tree_Right_2, get0, hN]
 | true =>
  rw [hb] at hN
  simp [c_tree_Right_2, get0, hN, he0]
theorem Right_3_eq (b : List Sm) (hb : BlOK 1 b) (K : Heap) : eval tbl noExt n_tree_Right_3 [.sl 7 (Sm.rows b)] K = some (.bool (!Sm.oks b 1), K) := by
 have h0 := hb []
 simp only [Int.cast_ofNat_Int] at h0
 rw [eval_M rfl rfl t_tree_Right_3 rfl]
 simp [c_tree_Right_3, h0]
/-- What is asked of a program's parts. -/
structure Pg.Fine (p : Pg) : Prop where
 size : p.size ≤ 19000
 txt : p.txt
theorem Pg.lens (p : Pg) (h : p.size ≤ 19000) : p.procs.length ≤ 19000 ∧ p.oracles.length ≤ 19000 ∧ p.parts.length ≤ 20000 := by
 have hs := p.size_eq
 simp only [Pg.parts, List.length_append, List.length_map, List.length_cons, List.length_nil]
 omega
theorem Pg.Fine.proc {p : Pg} (h : p.Fine) {x : List UInt8 × List Sm} (hx : x ∈ p.procs) : BlOK 1 x.2 := by
 have hs := p.parts_size
 have hm : x.2 ∈ p.parts := by simp only [Pg.parts, List.mem_append, List.mem_map]; exact .inl ⟨x, hx, rfl⟩
 have := sizes_flatten hm
 have := h.size
 exact stmt_ok1 19000 x.2 (by omega) (by omega) (h.txt.1 x hx).2 1 (by omega)
theorem Pg.Fine.main {p : Pg} (h : p.Fine) : BlOK 1 p.main := by
 have := h.size
 exact stmt_ok1 19000 p.main (by simp only [Pg.size] at this; omega) (by omega) h.txt.2.1 1 (by omega)
theorem Pg.Fine.recover {p : Pg} (h : p.Fine) : BlOK 1 p.recover := by
 have := h.size
 exact stmt_ok1 19000 p.recover (by simp only [Pg.size] at this; omega) (by omega) h.txt.2.2.1 1 (by omega)
theorem Pg.Fine.oracle {p : Pg} (h : p.Fine) {x : List UInt8 × Ex} (hx : x ∈ p.oracles) : ExOK 8 x.2 := by
 have hs := p.size_eq
 have hm : x.2 ∈ p.exprs := by simp only [Pg.exprs, List.mem_map]; exact ⟨x, hx, rfl⟩
 have := Ex.sizes_mem hm
 have := h.size
 exact expr_ok1 19000 x.2 (by omega) (by omega) (h.txt.2.2.2 x hx).2 8 (by omega)
theorem Pg.Fine.part {p : Pg} (h : p.Fine) {b : List Sm} (hb : b ∈ p.parts) : BlOK 1 b := by
 simp only [Pg.parts, List.mem_append, List.mem_map, List.mem_cons, List.not_mem_nil, or_false] at hb
 rcases hb with ⟨x, hx, rfl⟩ | rfl | rfl
 ·exact h.proc hx
 ·exact h.main
 ·exact h.recover
theorem Right_eq (p : Pg) (h : p.Fine) (H : Heap) : eval tbl noExt n_tree_Right [.agg p.cells] H = some (.bool p.ok, H) := by
 have hl := p.lens h.size
 have hsz := h.size
 have ha := All_eq p (by omega)
 have h1 : ∀ K, eval tbl noExt n_slices_ContainsFunc_api_Proc_api_Proc [.sl 2 p.pcells, .fn (.func n_tree_Right_1) [] []] K = some (.bool (!(p.procs.all fun x => isName x.1)), K) := by
  intro K
  rw [← any_not]
  exact ContainsFunc_api_Proc_api_Proc (first := []) (cap := []) lt_tree_Right_1 (fun x : List UInt8 × List Sm => [V.str x.1, .sl 7 (Sm.rows x.2)]) p.procs (by omega) (fun x => !isName x.1) K (fun x _ => by simp) (fun x hx => Right_1_eq x (h.txt.1 x hx).1 K)
 have h2 : ∀ K, eval tbl noExt n_slices_ContainsFunc_api_Oracle_api_Oracle [.sl 5 p.ocells, .fn (.func n_tree_Right_2) [] []] K = some (.bool (!(p.oracles.all fun x => isName x.1 && x.2.ok 8)), K) := by
  intro K
  rw [← any_not]
  exact ContainsFunc_api_Oracle_api_Oracle (first := []) (cap := []) lt_tree_Right_2 (fun x : List UInt8 × Ex => V.str x.1 :: x.2.cells) p.oracles (by omega) (fun x => !(isName x.1 && x.2.ok 8)) K (fun x _ => by have := Ex.strips x.2; simp only [allStrip] at this; simp [this]) (fun x hx => Right_2_eq x (h.txt.2.2.2 x hx).1 (h.oracle hx) K)
 have h3 : ∀ K, eval tbl noExt n_slices_ContainsFunc_api_Stmt_api_Stmt [.own 1 (p.parts.map brow), .fn (.func n_tree_Right_3) [] []] K = some (.bool (!(p.parts.all fun b => Sm.oks b 1)), K) := by
  intro K
  rw [← any_not]
  exact ContainsFunc_api_Stmt_api_Stmt_own (first := []) (cap := []) lt_tree_Right_3 (fun b : List Sm => Sm.rows b) p.parts (by omega) (fun b => !Sm.oks b 1) K (fun b hb => Right_3_eq b (h.part hb) K)
 have hp : ∀ K, eval tbl noExt n_tree_parts [.agg p.cells] K = some (.own 1 (p.parts.map brow), K) := fun K => parts_eq p (by omega) K
 have hparts : (p.parts.all fun b => Sm.oks b 1) = ((p.procs.all fun x => Sm.oks x.2 1) && (Sm.oks p.main 1 && Sm.oks p.recover 1)) := by
  simp [Pg.parts, Function.comp_def]
 have hprocs : (p.procs.all fun x => isName x.1 && Sm.oks x.2 1) = ((p.procs.all fun x => isName x.1) && (p.procs.all fun x => Sm.oks x.2 1)) := by
  generalize p.procs = l
  induction l with
  | nil => rfl
  | cons x l ih => simp only [List.all_cons, ih]; cases isName x.1 <;> cases Sm.oks x.2 1 <;> simp
 rw [hparts] at h3
 simp only [Pg.ok, hprocs]
 have hfl : (Sm.rows p.flats).length = p.flats.length := by rw [Sm.rows_eq]; simp
 have hpl := p.pcells_len
 have hol := p.ocells_len
 rw [eval_M rfl rfl t_tree_Right rfl]
 generalize (p.procs.all fun x => isName x.1) = b1 at h1 ⊢
 generalize (p.procs.all fun x => Sm.oks x.2 1) = b2 at h3 ⊢
 generalize (p.oracles.all fun x => isName x.1 && x.2.ok 8) = b3 at h2 ⊢
 generalize (Sm.oks p.main 1 && Sm.oks p.recover 1) = b4 at h3 ⊢
 simp only [Pg.cells] at ha hp ⊢
 by_cases c1 : p.procs.length ≤ 16
 case neg =>
  have c1' : (16 : Int) < p.procs.length := by omega
  simp [c_tree_Right, get0, hpl, hol, c1, c1']
 have c1' : ¬ (16 : Int) < p.procs.length := by omega
 by_cases c2 : p.oracles.length ≤ 16
 case neg =>
  have c2' : (16 : Int) < p.oracles.length := by omega
  simp [c_tree_Right, get0, hpl, hol, c1, c1', c2, c2']
 have c2' : ¬ (16 : Int) < p.oracles.length := by omega
 by_cases c3 : p.flats.length ≤ 256
 case neg =>
  have c3' : (256 : Int) < p.flats.length := by omega
  simp [c_tree_Right, get0, hpl, hol, c1, c1', c2, c2', ha, hfl, c3, c3']
 have c3' : ¬ (256 : Int) < p.flats.length := by omega
 cases b1 with
 | false => simp [c_tree_Right, get0, hpl, hol, c1, c1', c2, c2', ha, hfl, c3, c3', h1]
 | true =>
  cases b3 with
  | false => simp [c_tree_Right, get0, hpl, hol, c1, c1', c2, c2', ha, hfl, c3, c3', h1, h2]
  | true => simp [c_tree_Right, get0, hpl, hol, c1, c1', c2, c2', ha, hfl, c3, c3', h1, h2, hp, h3]
theorem list_loop (call : CallF) (l : List Sm) (hl : l.length ≤ 1000)
  (hf : ∀ e ∈ l, ∀ b ∈ e.blocks, ∀ (x : List Sm) (K : Heap), x.length + (Sm.flats b).length ≤ 100000 → call n_r16_list [.sl 7 (Sm.rows b), .own 7 (Sm.rows x)] K = some (.own 7 (Sm.rows (x ++ Sm.flats b)), K)) (K : Heap) (R : Option (V × Heap)) (k : List Item) :
  ∀ (j i : Nat) (x : List Sm) (φ : Fr), i + j = l.length → x.length + (Sm.flats (l.drop i)).length ≤ 100000 → Fr.get φ 0 = .sl 7 (Sm.rows l) → Fr.get φ 1 = .own 7 (Sm.rows x) → Fr.get φ 5 = .int .i64 i →
   (∀ φ', Fr.get φ' 1 = .own 7 (Sm.rows (x ++ Sm.flats (l.drop i))) → M call k φ' K = R) →
   M call (.code l_r16_list_0 :: .blk 0 :: k) φ K = R := by
 intro j
 induction j with
 | zero =>
  intro i x φ hj hN h0 h1 h5 hexit
  have hi : ¬ ((i : Int) < l.length) := by omega
  rw [List.drop_of_length_le (by omega)] at hexit
  simp only [Sm.flats, List.append_nil] at hexit
  rw [l_r16_list_0, M_loop, ← l_r16_list_0]
  simp [b_r16_list_0, h0, h1, h5, hi, Sm.rows_len]
  exact hexit _ (by simp [h1])
 | succ j ih =>
  intro i x φ hj hN h0 h1 h5 hexit
  have hi : (i : Int) < l.length := by omega
  obtain ⟨e, he, hmem, hd⟩ := at_some (l := l) (i := i) (by omega)
  have hre := Sm.rows_at he
  have hcl := hf e hmem
  have hw : IntKind.i64.wrap ((i : Int) + 1) = ((i + 1 : Nat) : Int) := by rw [w64 (by omega) (by omega)]; rfl
  obtain ⟨op, s, n, ee, b, c, g⟩ := e
  rw [hd] at hN hexit
  simp only [Sm.flats, Sm.flat, List.length_append, List.length_cons, List.cons_append] at hN hexit
  have hb : 2 * (x.length + 1) * 112 ≤ 281474976710656 := by omega
  have c1 := hcl b (by simp [Sm.blocks]) (x ++ [.mk op s n ee b c g]) K (by simp; omega)
  have c2 := hcl c (by simp [Sm.blocks]) (x ++ [.mk op s n ee b c g] ++ Sm.flats b) K (by simp; omega)
  simp only [Sm.cells] at hre
  have e0 : Sm.rows x ++ [[V.int .i64 op, .str s, .int .i64 n, .sl 4 (Ex.rows ee), .sl 7 (Sm.rows b), .sl 7 (Sm.rows c), .bool g]] = Sm.rows (x ++ [.mk op s n ee b c g]) := by simp [Sm.rows_eq, Sm.cells]
  rw [l_r16_list_0, M_loop, ← l_r16_list_0]
  simp only [List.append_assoc, List.cons_append, List.nil_append] at c1 c2 e0
  simp [b_r16_list_0, h0, h1, h5, hi, Sm.rows_len, hre, hb, c1, c2, e0, hw]
  refine ih (i + 1) (x ++ .mk op s n ee b c g :: (Sm.flats b ++ Sm.flats c)) _ (by omega) (by simp; omega) (by simp [h0]) (by simp) (by simp) ?_
  intro φ' g1
  refine hexit φ' ?_
  simpa using g1
theorem list_step (l : List Sm) (hl : l.length ≤ 1000)
  (hf : ∀ e ∈ l, ∀ b ∈ e.blocks, ∀ (x : List Sm) (K : Heap), x.length + (Sm.flats b).length ≤ 100000 → eval tbl noExt n_r16_list [.sl 7 (Sm.rows b), .own 7 (Sm.rows x)] K = some (.own 7 (Sm.rows (x ++ Sm.flats b)), K))
  (x : List Sm) (K : Heap) (hN : x.length + (Sm.flats l).length ≤ 100000) :
  eval tbl noExt n_r16_list [.sl 7 (Sm.rows l), .own 7 (Sm.rows x)] K = some (.own 7 (Sm.rows (x ++ Sm.flats l)), K) := by
 rw [eval_M rfl rfl t_r16_list rfl]
 simp [c_r16_list]
 refine list_loop _ l hl hf K _ _ l.length 0 x _ (by omega) (by simpa using hN) (by simp) (by simp) (by simp) ?_
 intro φ' g1
 simp [r_r16_list_0, g1]
theorem list_ok : ∀ (n : Nat) (l : List Sm), Sm.sizes l ≤ n → n ≤ 1000 → ∀ (x : List Sm) (K : Heap), x.length + (Sm.flats l).length ≤ 100000 →
  eval tbl noExt n_r16_list [.sl 7 (Sm.rows l), .own 7 (Sm.rows x)] K = some (.own 7 (Sm.rows (x ++ Sm.flats l)), K) := by
 intro n
 induction n with
 | zero =>
  intro l hl hn
  have h0 : l = [] := by
   have := Sm.sizes_ge l
   exact List.length_eq_zero_iff.1 (by omega)
  subst h0
  exact list_step [] (by simp) (by simp)
 | succ n ih =>
  intro l hl hn
  refine list_step l (by have := Sm.sizes_ge l; omega) fun e he b hb => ih b ?_ (by omega)
  have h1 := Sm.sizes_mem he
  obtain ⟨op, w, m, ee, b1, b2, g⟩ := e
  simp only [Sm.size] at h1
  simp only [Sm.blocks, List.mem_cons, List.not_mem_nil, or_false] at hb
  rcases hb with rfl | rfl <;> omega
theorem refAll_loop (p : Pg) (hp : p.size ≤ 1000) (R : Option (V × Heap)) (k : List Item)
  (hexit : ∀ φ', Fr.get φ' 1 = .ptr 0 0 → Fr.get φ' 3 = .own 7 (Sm.rows (Sm.flats (p.procs.map (·.2)).flatten)) → M (eval tbl noExt) k φ' [some p.cells] = R) :
  ∀ (j i : Nat) (φ : Fr), i + j = p.procs.length → Fr.get φ 1 = .ptr 0 0 → Fr.get φ 3 = .own 7 (Sm.rows (Sm.flats ((p.procs.map (·.2)).take i).flatten)) → Fr.get φ 4 = .int .i64 i →
   M (eval tbl noExt) (.code l_r16_All_0 :: .blk 0 :: k) φ [some p.cells] = R := by
 have hsz := p.parts_size
 intro j
 induction j with
 | zero =>
  intro i φ hj h1 h3 h4
  have hi : ¬ ((i : Int) < p.procs.length) := by omega
  rw [List.take_of_length_le (by simp; omega)] at h3
  rw [l_r16_All_0, M_loop, ← l_r16_All_0]
  simp only [Pg.cells] at hexit ⊢
  simp [b_r16_All_0, h1, h3, h4, hi, Pg.pcells_len]
  exact hexit _ (by simp [h1]) (by simp [h3])
 | succ j ih =>
  intro i φ hj h1 h3 h4
  have hi : (i : Int) < p.procs.length := by omega
  obtain ⟨e, he, hmem, hd⟩ := at_some (l := p.procs) (i := i) (by omega)
  have hrow := p.prow he
  have hw : IntKind.i64.wrap ((i : Int) + 1) = ((i + 1 : Nat) : Int) := by rw [w64 (by omega) (by omega)]; rfl
  have hs1 : Sm.sizes ((p.procs.map (·.2)).take i).flatten + Sm.sizes e.2 ≤ Sm.sizes p.parts.flatten := by
   have : p.parts = (p.procs.map (·.2)).take i ++ (e.2 :: ((p.procs.drop (i + 1)).map (·.2) ++ [p.main, p.recover])) := by
    rw [Pg.parts]
    conv => lhs; rw [← List.take_append_drop i p.procs, hd]
    simp
   rw [this]
   simp only [List.flatten_append, List.flatten_cons, sizes_append]
   omega
  have hc := list_ok 1000 e.2 (by omega) (Nat.le_refl _) (Sm.flats ((p.procs.map (·.2)).take i).flatten) [some p.cells] (by
   have := Sm.flats_sizes ((p.procs.map (·.2)).take i).flatten
   have := Sm.flats_sizes e.2
   omega)
  have hnext : Sm.flats ((p.procs.map (·.2)).take i).flatten ++ Sm.flats e.2 = Sm.flats ((p.procs.map (·.2)).take (i + 1)).flatten := by
   rw [List.take_add_one, List.getElem?_map, he]; simp [Sm.flats_append]
  rw [hnext] at hc
  rw [l_r16_All_0, M_loop, ← l_r16_All_0]
  simp only [Pg.cells] at hc ih ⊢
  simp [b_r16_All_0, h1, h3, h4, hi, Pg.pcells_len, hrow, hc, hw]
  exact ih (i + 1) _ (by omega) (by simp [h1]) (by simp) (by simp)
theorem refAll_eq (p : Pg) (hp : p.size ≤ 1000) : eval tbl noExt n_r16_All [.agg p.cells] [] = some (.own 7 (Sm.rows p.flats), []) := by
 have hsz := p.parts_size
 have hs : Sm.sizes (p.procs.map (·.2)).flatten + Sm.sizes p.main + Sm.sizes p.recover = Sm.sizes p.parts.flatten := by
  simp only [Pg.parts, List.flatten_append, sizes_append, List.flatten_cons, List.flatten_nil, List.append_nil]; omega
 have f0 := Sm.flats_sizes (p.procs.map (·.2)).flatten
 have f1 := Sm.flats_sizes p.main
 have f2 := Sm.flats_sizes p.recover
 have c1 := list_ok 1000 p.main (by omega) (Nat.le_refl _) (Sm.flats (p.procs.map (·.2)).flatten) [some p.cells] (by omega)
 have c2 := list_ok 1000 p.recover (by omega) (Nat.le_refl _) (Sm.flats (p.procs.map (·.2)).flatten ++ Sm.flats p.main) [some p.cells] (by simp; omega)
 have hall : Sm.flats (p.procs.map (·.2)).flatten ++ Sm.flats p.main ++ Sm.flats p.recover = p.flats := by
  simp [Pg.flats, Pg.parts, Sm.flats_append]
 rw [hall] at c2
 rw [eval_M rfl rfl t_r16_All rfl]
 simp [c_r16_All]
 refine refAll_loop p hp _ _ (fun φ' h1 h3 => ?_) p.procs.length 0 _ (by omega) (by simp) (by simp [Sm.flats, Sm.rows]) (by simp)
 simp only [Pg.cells] at c1 c2 ⊢
 simp [r_r16_All_0, h1, h3, c1, c2]
theorem refParts_eq (op : Int) (H : Heap) : eval tbl noExt n_r16_Parts [.int .i64 op] H = some (tup (parts op), H) := by
 rw [eval_M rfl rfl t_r16_Parts rfl]
 by_cases h1 : op < 1
 ·simp [c_r16_Parts, h1, parts, tup]
 by_cases h2 : 14 < op
 ·simp [c_r16_Parts, h1, h2, parts, tup]
 by_cases h3 : op ≤ 4
 ·simp [c_r16_Parts, h1, h2, h3, parts, tup]
 by_cases h4 : op ≤ 8
 ·simp [c_r16_Parts, h1, h2, h3, h4, parts, tup]
 ·simp [c_r16_Parts, h1, h2, h3, h4, parts, tup]
theorem refExprs_eq (op : Int) (H : Heap) : eval tbl noExt n_r16_Exprs [.int .i64 op] H = some (tup (exprs op), H) := by
 rw [eval_M rfl rfl t_r16_Exprs rfl]
 by_cases h1 : op < 1
 ·have : exprs op = none := by unfold exprs; rw [if_neg (by omega), if_neg (by omega), if_neg (by omega), if_neg (by omega), if_neg (by omega), if_neg (by omega), if_neg (by omega), if_pos h1]
  simp [c_r16_Exprs, h1, this, tup]
 by_cases h2 : 18 < op
 ·have : exprs op = none := by unfold exprs; rw [if_neg (by omega), if_neg (by omega), if_neg (by omega), if_neg (by omega), if_neg (by omega), if_neg (by omega), if_neg (by omega), if_neg (by omega), if_pos h2]
  simp [c_r16_Exprs, h1, h2, this, tup]
 ·have hop : op = 1 ∨ op = 2 ∨ op = 3 ∨ op = 4 ∨ op = 5 ∨ op = 6 ∨ op = 7 ∨ op = 8 ∨ op = 9 ∨ op = 10 ∨ op = 11 ∨ op = 12 ∨ op = 13 ∨ op = 14 ∨ op = 15 ∨ op = 16 ∨ op = 17 ∨ op = 18 := by omega
  rcases hop with rfl | rfl | rfl | rfl | rfl | rfl | rfl | rfl | rfl | rfl | rfl | rfl | rfl | rfl | rfl | rfl | rfl | rfl <;> simp [c_r16_Exprs, exprs, tup, w64]
/-- What an expression's parts are asked, of the document's function. -/
def RxOK (d : Nat) (e : Ex) : Prop := ∀ H, eval tbl noExt n_r16_Expr [.agg e.cells, .int .i64 d] H = some (.bool (e.ok d), H)
theorem refExpr_loop (d : Nat) (hd : d ≤ 20000) (H : Heap) (a0 a1 a2 : V) (x : List Ex) (hl : x.length ≤ 20000) (hx : ∀ e ∈ x, RxOK d e) (Q : Option (V × Heap) → Prop) (k : List Item)
  (hret : ∀ φ', Ex.oks x d = false → Fr.get φ' 4 = .bool false → Q (retK k φ' (H ++ [some [a0, a1, a2, .sl 4 (Ex.rows x)]])))
  (hexit : ∀ φ', Ex.oks x d = true → Q (M (eval tbl noExt) k φ' (H ++ [some [a0, a1, a2, .sl 4 (Ex.rows x)]]))) :
  ∀ (j i : Nat) (φ : Fr), i + j = x.length → Ex.oks x d = Ex.oks (x.drop i) d → Fr.get φ 1 = .int .i64 ((d : Int) + 1) → Fr.get φ 2 = .ptr H.length 0 → Fr.get φ 5 = .int .i64 x.length → Fr.get φ 7 = .int .i64 i →
   Q (M (eval tbl noExt) (.code l_r16_Expr_0 :: .blk 0 :: k) φ (H ++ [some [a0, a1, a2, .sl 4 (Ex.rows x)]])) := by
 have hcl : (Ex.rows x).length = x.length := by rw [Ex.rows_eq]; simp
 intro j
 induction j with
 | zero =>
  intro i φ hj hs h1 h2 h5 h7
  have hi : ¬ ((i : Int) < x.length) := by omega
  rw [List.drop_of_length_le (by omega)] at hs
  rw [l_r16_Expr_0, M_loop, ← l_r16_Expr_0]
  simp [b_r16_Expr_0, h1, h2, h5, h7, hi]
  exact hexit _ (by rw [hs]; simp [Ex.oks])
 | succ j ih =>
  intro i φ hj hs h1 h2 h5 h7
  have hi : (i : Int) < x.length := by omega
  have hil : i < x.length := by omega
  obtain ⟨e, he, hmem, hdr⟩ : ∃ e, x[i]? = some e ∧ e ∈ x ∧ x.drop i = e :: x.drop (i + 1) := ⟨x[i], List.getElem?_eq_getElem hil, List.getElem_mem hil, List.drop_eq_getElem_cons hil⟩
  have hrow : (Ex.rows x)[i]? = some e.cells := by rw [Ex.rows_eq, List.getElem?_map, he]; rfl
  have hw1 : IntKind.i64.wrap ((i : Int) + 1) = ((i + 1 : Nat) : Int) := by rw [w64 (by omega) (by omega)]; rfl
  have hw : IntKind.i64.wrap (d : Int) = d := w64 (by omega) (by omega)
  rw [hdr, Ex.oks] at hs
  have hcall := hx e hmem []
  rw [l_r16_Expr_0, M_loop, ← l_r16_Expr_0]
  cases hb : e.ok d with
  | false =>
   rw [hb, Bool.false_and] at hs
   rw [hb] at hcall
   obtain ⟨op, m, s, y⟩ := e
   simp only [Ex.cells] at hrow hcall
   simp [b_r16_Expr_0, h1, h2, h5, h7, hi, hcl, hrow, get0, hw, hcall]
   exact hret _ hs (by simp)
  | true =>
   rw [hb, Bool.true_and] at hs
   rw [hb] at hcall
   obtain ⟨op, m, s, y⟩ := e
   simp only [Ex.cells] at hrow hcall
   simp [b_r16_Expr_0, h1, h2, h5, h7, hi, hcl, hrow, get0, hw, hcall, hw1]
   exact ih (i + 1) _ (by omega) hs (by simp [h1]) (by simp [h2]) (by simp [h5]) (by simp)
theorem refExpr_step (d : Nat) (hd : d ≤ 20000) (op n : Int) (s : List UInt8) (x : List Ex) (hs : s.length ≤ 300) (hl : x.length ≤ 20000) (hx : ∀ d', d = d' + 1 → ∀ e ∈ x, RxOK d' e) : RxOK d (.mk op n s x) := by
 intro H
 have hP := refParts_eq op
 have hN := refName_eq s (by omega)
 have hcl : (Ex.rows x).length = x.length := by rw [Ex.rows_eq]; simp
 simp only [Ex.ok, Ex.cells]
 rw [eval_M rfl rfl t_r16_Expr rfl]
 cases hpo : parts op with
 | none =>
  rw [hpo] at hP
  simp [c_r16_Expr, hP, tup, get0]
 | some k =>
 rw [hpo] at hP
 cases d with
 | zero => simp [c_r16_Expr, hP, tup, get0]
 | succ d =>
 have hd0 : ¬ ((d : Int) + 1 < 1) := by omega
 by_cases hk : x.length = k
 ·have hk' : (x.length : Int) = k := by omega
  subst hk
  have hc' : ∀ φ a0 a1 a2, Fr.get φ 1 = .int .i64 ((d : Int) + 1) → Fr.get φ 2 = .ptr H.length 0 → Fr.get φ 5 = .int .i64 x.length → Fr.get φ 7 = .int .i64 0 →
    M (eval tbl noExt) [.code l_r16_Expr_0, .blk 0, .code r_r16_Expr_0, .fin [.t 4] H.length] φ (H ++ [some [a0, a1, a2, .sl 4 (Ex.rows x)]]) = some (.bool (Ex.oks x d), H) := by
   intro φ a0 a1 a2 h1 h2 h5 h7
   refine refExpr_loop d (by omega) H a0 a1 a2 x hl (hx d rfl) (fun o => o = some (.bool (Ex.oks x d), H)) _ (fun φ' h g => ?_) (fun φ' h => ?_) x.length 0 φ (by omega) rfl h1 h2 h5 h7
   ·rw [h]; simp [g]
   ·rw [h]; simp [r_r16_Expr_0]
  by_cases h1 : op = 1
  ·subst h1
   by_cases a1 : n < 0
   ·have a1' : ¬ 0 ≤ n := by omega
    simp [c_r16_Expr, hP, tup, get0, hd0, hcl, leafOk, a1, a1']
   ·have a1' : 0 ≤ n := by omega
    by_cases a2 : 1000000000000 < n
    ·have a2' : ¬ n ≤ 1000000000000 := by omega
     simp [c_r16_Expr, hP, tup, get0, hd0, hcl, leafOk, a1, a1', a2, a2']
    ·have a2' : n ≤ 1000000000000 := by omega
     by_cases a3 : s = []
     ·simp [c_r16_Expr, hP, tup, get0, hd0, hcl, leafOk, a1, a1', a2, a2', a3]
      exact hc' _ _ _ _ (by simp) (by simp) (by simp) (by simp)
     ·simp [c_r16_Expr, hP, tup, get0, hd0, hcl, leafOk, a1, a1', a2, a2', a3]
  by_cases h3 : op = 3
  ·subst h3
   by_cases a1 : n = 0
   ·by_cases a3 : s = []
    ·simp [c_r16_Expr, hP, tup, get0, hd0, hcl, leafOk, a1, a3]
     exact hc' _ _ _ _ (by simp) (by simp) (by simp) (by simp)
    ·simp [c_r16_Expr, hP, tup, get0, hd0, hcl, leafOk, a1, a3]
   by_cases a2 : n = 1
   ·by_cases a3 : s = []
    ·simp [c_r16_Expr, hP, tup, get0, hd0, hcl, leafOk, a1, a2, a3]
     exact hc' _ _ _ _ (by simp) (by simp) (by simp) (by simp)
    ·simp [c_r16_Expr, hP, tup, get0, hd0, hcl, leafOk, a1, a2, a3]
   ·simp [c_r16_Expr, hP, tup, get0, hd0, hcl, leafOk, a1, a2]
  by_cases a3 : n = 0
  ·by_cases h2 : op = 2
   ·subst h2
    by_cases a1 : s.length ≤ 64
    ·have a1' : ¬ (64 : Int) < s.length := by omega
     simp [c_r16_Expr, hP, tup, get0, hd0, hcl, leafOk, a1, a1', a3]
     exact hc' _ _ _ _ (by simp) (by simp) (by simp) (by simp)
    ·have a1' : (64 : Int) < s.length := by omega
     simp [c_r16_Expr, hP, tup, get0, hd0, hcl, leafOk, a1, a1', a3]
   by_cases h4 : op = 4
   ·subst h4
    cases a1 : isName s with
    | true =>
     rw [a1] at hN
     simp [c_r16_Expr, hP, tup, get0, hd0, hcl, leafOk, hN, a1, a3]
     exact hc' _ _ _ _ (by simp) (by simp) (by simp) (by simp)
    | false =>
     rw [a1] at hN
     simp [c_r16_Expr, hP, tup, get0, hd0, hcl, leafOk, hN, a1, a3]
   by_cases a1 : s = []
   ·simp [c_r16_Expr, hP, tup, get0, hd0, hcl, leafOk, h1, h2, h3, h4, a1, a3]
    exact hc' _ _ _ _ (by simp) (by simp) (by simp) (by simp)
   ·simp [c_r16_Expr, hP, tup, get0, hd0, hcl, leafOk, h1, h2, h3, h4, a1, a3]
  ·by_cases h2 : op = 2
   ·subst h2
    simp [c_r16_Expr, hP, tup, get0, hd0, hcl, leafOk, a3]
   by_cases h4 : op = 4
   ·subst h4
    simp [c_r16_Expr, hP, tup, get0, hd0, hcl, leafOk, a3]
   simp [c_r16_Expr, hP, tup, get0, hd0, hcl, leafOk, h1, h2, h3, h4, a3]
 ·have hk' : ¬ (x.length : Int) = k := by omega
  simp [c_r16_Expr, hP, tup, get0, hd0, hcl, hk, hk']
theorem expr_ref : ∀ (n : Nat) (e : Ex), e.size ≤ n → n ≤ 20000 → e.txt → ∀ d, d ≤ 20000 → RxOK d e := by
 intro n
 induction n with
 | zero => intro e h; cases e; simp only [Ex.size] at h; omega
 | succ n ih =>
  intro e h hn ht d hd
  obtain ⟨op, m, s, x⟩ := e
  simp only [Ex.size] at h
  simp only [Ex.txt] at ht
  have hl := Ex.sizes_ge x
  have hx : ∀ e ∈ x, e.size ≤ n ∧ e.txt := fun e he => ⟨by have := Ex.sizes_mem he; omega, by
   have : ∀ l : List Ex, Ex.txts l → ∀ e ∈ l, e.txt := by
    intro l
    induction l with
    | nil => intro _ e he; simp at he
    | cons y l ih2 =>
     intro h e he
     rcases List.mem_cons.1 he with rfl | he
     ·exact h.1
     ·exact ih2 h.2 e he
   exact this x ht.2 e he⟩
  exact refExpr_step d hd op m s x ht.1 (by omega) (fun d' h' e he => ih e (hx e he).1 (by omega) (hx e he).2 d' (by omega))
def RsOK (d : Nat) (e : Sm) : Prop := ∀ H, eval tbl noExt n_r16_Stmt [.agg e.cells, .int .i64 d] H = some (.bool (e.ok d), H)
def RbOK (d : Nat) (l : List Sm) : Prop := ∀ H, eval tbl noExt n_r16_Block [.sl 7 (Sm.rows l), .int .i64 d] H = some (.bool (Sm.oks l d), H)
theorem refBlock_loop (d : Nat) (hd : d ≤ 20000) (H : Heap) (l : List Sm) (hl : l.length ≤ 20000) (hx : ∀ e ∈ l, RsOK d e) (Q : Option (V × Heap) → Prop) (k : List Item)
  (hret : ∀ φ', Sm.oks l d = false → Fr.get φ' 4 = .bool false → Q (retK k φ' H))
  (hexit : ∀ φ', Sm.oks l d = true → Q (M (eval tbl noExt) k φ' H)) :
  ∀ (j i : Nat) (φ : Fr), i + j = l.length → Sm.oks l d = Sm.oks (l.drop i) d → Fr.get φ 0 = .sl 7 (Sm.rows l) → Fr.get φ 1 = .int .i64 d → Fr.get φ 5 = .int .i64 i →
   Q (M (eval tbl noExt) (.code l_r16_Block_0 :: .blk 0 :: k) φ H) := by
 have hcl : (Sm.rows l).length = l.length := by rw [Sm.rows_eq]; simp
 intro j
 induction j with
 | zero =>
  intro i φ hj hs h0 h1 h5
  have hi : ¬ ((i : Int) < l.length) := by omega
  rw [List.drop_of_length_le (by omega)] at hs
  rw [l_r16_Block_0, M_loop, ← l_r16_Block_0]
  simp [b_r16_Block_0, h0, h1, h5, hcl, hi]
  exact hexit _ (by rw [hs]; simp [Sm.oks])
 | succ j ih =>
  intro i φ hj hs h0 h1 h5
  have hi : (i : Int) < l.length := by omega
  have hil : i < l.length := by omega
  obtain ⟨e, he, hmem, hdr⟩ : ∃ e, l[i]? = some e ∧ e ∈ l ∧ l.drop i = e :: l.drop (i + 1) := ⟨l[i], List.getElem?_eq_getElem hil, List.getElem_mem hil, List.drop_eq_getElem_cons hil⟩
  have hrow : (Sm.rows l)[i]? = some e.cells := by rw [Sm.rows_eq, List.getElem?_map, he]; rfl
  have hw1 : IntKind.i64.wrap ((i : Int) + 1) = ((i + 1 : Nat) : Int) := by rw [w64 (by omega) (by omega)]; rfl
  rw [hdr, Sm.oks] at hs
  have hcall := hx e hmem []
  rw [l_r16_Block_0, M_loop, ← l_r16_Block_0]
  cases hb : e.ok d with
  | false =>
   rw [hb, Bool.false_and] at hs
   rw [hb] at hcall
   obtain ⟨op, s, n, x, b, c, g⟩ := e
   simp only [Sm.cells] at hrow hcall
   simp [b_r16_Block_0, h0, h1, h5, hi, hcl, hrow, hcall]
   exact hret _ hs (by simp)
  | true =>
   rw [hb, Bool.true_and] at hs
   rw [hb] at hcall
   obtain ⟨op, s, n, x, b, c, g⟩ := e
   simp only [Sm.cells] at hrow hcall
   simp [b_r16_Block_0, h0, h1, h5, hi, hcl, hrow, hcall, hw1]
   exact ih (i + 1) _ (by omega) hs (by simp [h0]) (by simp [h1]) (by simp)
theorem refBlock_step (d : Nat) (hd : d ≤ 20000) (l : List Sm) (hl : l.length ≤ 20000) (hx : ∀ e ∈ l, RsOK d e) : RbOK d l := by
 intro H
 rw [eval_M rfl rfl t_r16_Block rfl]
 simp [c_r16_Block]
 refine refBlock_loop d hd H l hl hx (fun o => o = some (.bool (Sm.oks l d), H)) _ (fun φ' h g => ?_) (fun φ' h => ?_) l.length 0 _ (by omega) rfl (by simp) (by simp) (by simp)
 ·rw [h]; simp [g]
 ·rw [h]; simp [r_r16_Block_0]
theorem refStmt_exprs (d : Nat) (H : Heap) (a0 a1 a2 a4 a5 a6 : V) (x : List Ex) (hl : x.length ≤ 20000) (hx : ∀ e ∈ x, RxOK 8 e) (Q : Option (V × Heap) → Prop) (k : List Item)
  (hret : ∀ φ', Ex.oks x 8 = false → Fr.get φ' 4 = .bool false → Q (retK k φ' (H ++ [some [a0, a1, a2, .sl 4 (Ex.rows x), a4, a5, a6]])))
  (hexit : ∀ φ', Ex.oks x 8 = true → Fr.get φ' 1 = .int .i64 d → Fr.get φ' 2 = .ptr H.length 0 → Q (M (eval tbl noExt) k φ' (H ++ [some [a0, a1, a2, .sl 4 (Ex.rows x), a4, a5, a6]]))) :
  ∀ (j i : Nat) (φ : Fr), i + j = x.length → Ex.oks x 8 = Ex.oks (x.drop i) 8 → Fr.get φ 1 = .int .i64 d → Fr.get φ 2 = .ptr H.length 0 → Fr.get φ 5 = .int .i64 x.length → Fr.get φ 7 = .int .i64 i →
   Q (M (eval tbl noExt) (.code l_r16_Stmt_0 :: .blk 0 :: k) φ (H ++ [some [a0, a1, a2, .sl 4 (Ex.rows x), a4, a5, a6]])) := by
 have hcl : (Ex.rows x).length = x.length := by rw [Ex.rows_eq]; simp
 intro j
 induction j with
 | zero =>
  intro i φ hj hs h1 h2 h5 h7
  have hi : ¬ ((i : Int) < x.length) := by omega
  rw [List.drop_of_length_le (by omega)] at hs
  rw [l_r16_Stmt_0, M_loop, ← l_r16_Stmt_0]
  simp [b_r16_Stmt_0, h1, h2, h5, h7, hi]
  exact hexit _ (by rw [hs]; simp [Ex.oks]) (by simp [h1]) (by simp [h2])
 | succ j ih =>
  intro i φ hj hs h1 h2 h5 h7
  have hi : (i : Int) < x.length := by omega
  have hil : i < x.length := by omega
  obtain ⟨e, he, hmem, hdr⟩ : ∃ e, x[i]? = some e ∧ e ∈ x ∧ x.drop i = e :: x.drop (i + 1) := ⟨x[i], List.getElem?_eq_getElem hil, List.getElem_mem hil, List.drop_eq_getElem_cons hil⟩
  have hrow : (Ex.rows x)[i]? = some e.cells := by rw [Ex.rows_eq, List.getElem?_map, he]; rfl
  have hw1 : IntKind.i64.wrap ((i : Int) + 1) = ((i + 1 : Nat) : Int) := by rw [w64 (by omega) (by omega)]; rfl
  rw [hdr, Ex.oks] at hs
  have hcall := hx e hmem []
  rw [l_r16_Stmt_0, M_loop, ← l_r16_Stmt_0]
  cases hb : e.ok 8 with
  | false =>
   rw [hb, Bool.false_and] at hs
   rw [hb] at hcall
   obtain ⟨op, m, s, y⟩ := e
   simp only [Ex.cells, Int.cast_ofNat_Int] at hrow hcall
   simp [b_r16_Stmt_0, h1, h2, h5, h7, hi, hcl, hrow, get0, hcall]
   exact hret _ hs (by simp)
  | true =>
   rw [hb, Bool.true_and] at hs
   rw [hb] at hcall
   obtain ⟨op, m, s, y⟩ := e
   simp only [Ex.cells, Int.cast_ofNat_Int] at hrow hcall
   simp [b_r16_Stmt_0, h1, h2, h5, h7, hi, hcl, hrow, get0, hcall, hw1]
   exact ih (i + 1) _ (by omega) hs (by simp [h1]) (by simp [h2]) (by simp [h5]) (by simp)
theorem refStmt_txn (d : Nat) (op : Int) (H : Heap) (a1 a2 a3 a5 a6 : V) (b : List Sm) (hl : b.length ≤ 20000) (Q : Option (V × Heap) → Prop) (k : List Item)
  (hret : ∀ φ', op = 16 → (b.all fun x => decide (x.op = 3)) = false → Fr.get φ' 4 = .bool false → Q (retK k φ' (H ++ [some [.int .i64 op, a1, a2, a3, .sl 7 (Sm.rows b), a5, a6]])))
  (hexit : ∀ φ', (op = 16 → (b.all fun x => decide (x.op = 3)) = true) → Fr.get φ' 1 = .int .i64 d → Fr.get φ' 2 = .ptr H.length 0 → Q (M (eval tbl noExt) k φ' (H ++ [some [.int .i64 op, a1, a2, a3, .sl 7 (Sm.rows b), a5, a6]]))) :
  ∀ (j i : Nat) (φ : Fr), i + j = b.length → (op = 16 → (b.all fun x => decide (x.op = 3)) = ((b.drop i).all fun x => decide (x.op = 3))) → Fr.get φ 1 = .int .i64 d → Fr.get φ 2 = .ptr H.length 0 → Fr.get φ 10 = .int .i64 i →
   Q (M (eval tbl noExt) (.code l_r16_Stmt_1 :: .blk 2 :: k) φ (H ++ [some [.int .i64 op, a1, a2, a3, .sl 7 (Sm.rows b), a5, a6]])) := by
 have hcl : (Sm.rows b).length = b.length := by rw [Sm.rows_eq]; simp
 intro j
 induction j with
 | zero =>
  intro i φ hj hs h1 h2 h10
  have hi : ¬ ((i : Int) < b.length) := by omega
  rw [List.drop_of_length_le (by omega)] at hs
  rw [l_r16_Stmt_1, M_loop, ← l_r16_Stmt_1]
  simp [b_r16_Stmt_1, h1, h2, h10, hcl, hi, get0]
  exact hexit _ (fun h => by rw [hs h]; rfl) (by simp [h1]) (by simp [h2])
 | succ j ih =>
  intro i φ hj hs h1 h2 h10
  have hi : (i : Int) < b.length := by omega
  have hil : i < b.length := by omega
  obtain ⟨e, he, hmem, hdr⟩ : ∃ e, b[i]? = some e ∧ e ∈ b ∧ b.drop i = e :: b.drop (i + 1) := ⟨b[i], List.getElem?_eq_getElem hil, List.getElem_mem hil, List.drop_eq_getElem_cons hil⟩
  have hrow : (Sm.rows b)[i]? = some e.cells := by rw [Sm.rows_eq, List.getElem?_map, he]; rfl
  have hw1 : IntKind.i64.wrap ((i : Int) + 1) = ((i + 1 : Nat) : Int) := by rw [w64 (by omega) (by omega)]; rfl
  rw [hdr, List.all_cons] at hs
  rw [l_r16_Stmt_1, M_loop, ← l_r16_Stmt_1]
  obtain ⟨oq, s, n, x, b', c, g⟩ := e
  simp only [Sm.cells] at hrow
  have ho : (Sm.mk oq s n x b' c g).op = oq := rfl
  rw [ho] at hs
  by_cases h16 : op = 16
  ·subst h16
   have hs := hs rfl
   by_cases h3 : oq = 3
   ·rw [decide_eq_true h3, Bool.true_and] at hs
    simp [b_r16_Stmt_1, h1, h2, h10, hi, hcl, hrow, get0, h3, hw1]
    exact ih (i + 1) _ (by omega) (fun _ => hs) (by simp [h1]) (by simp [h2]) (by simp)
   ·rw [decide_eq_false h3, Bool.false_and] at hs
    simp [b_r16_Stmt_1, h1, h2, h10, hi, hcl, hrow, get0, h3, hw1]
    exact hret _ rfl hs (by simp)
  ·simp [b_r16_Stmt_1, h1, h2, h10, hi, hcl, hrow, get0, h16, hw1]
   exact ih (i + 1) _ (by omega) (fun h => absurd h h16) (by simp [h1]) (by simp [h2]) (by simp)
theorem refStmt_tail (d : Nat) (hd : d ≤ 19500) (op : Int) (H : Heap) (a1 a2 a3 a6 : V) (b c : List Sm) (hb : RbOK (d + 1) b) (hc : RbOK (d + 1) c) (φ : Fr) (h1 : Fr.get φ 1 = .int .i64 d) (h2 : Fr.get φ 2 = .ptr H.length 0) :
  M (eval tbl noExt) [.code r_r16_Stmt_0, .fin [.t 4] H.length] φ (H ++ [some [.int .i64 op, a1, a2, a3, .sl 7 (Sm.rows b), .sl 7 (Sm.rows c), a6]]) = some (.bool (Sm.oks b (d + 1) && Sm.oks c (d + 1)), H) := by
 have hw : IntKind.i64.wrap ((d : Int) + 1) = (d : Int) + 1 := w64 (by omega) (by omega)
 have hb0 := hb []
 have hc0 := hc []
 simp only [Int.natCast_add, Int.cast_ofNat_Int] at hb0 hc0
 cases hbo : Sm.oks b (d + 1) with
 | false =>
  rw [hbo] at hb0
  simp [r_r16_Stmt_0, h1, h2, get0, hw, hb0]
 | true =>
  rw [hbo] at hb0
  simp [r_r16_Stmt_0, h1, h2, get0, hw, hb0, hc0]
theorem refStmt_mid (d : Nat) (hd : d ≤ 19500) (op n : Int) (s : List UInt8) (e : List Ex) (b c : List Sm) (g : Bool) (hs : s.length ≤ 300) (hbn : b.length ≤ 20000) (hE : Ex.oks e 8 = true) (hpo : exprs op = some e.length) (H : Heap) (hb : RbOK (d + 1) b) (hc : RbOK (d + 1) c) (φ : Fr) (h1 : Fr.get φ 1 = .int .i64 d) (h2 : Fr.get φ 2 = .ptr H.length 0) :
  M (eval tbl noExt) [.code r_r16_Stmt_1, .fin [.t 4] H.length] φ (H ++ [some [.int .i64 op, .str s, .int .i64 n, .sl 4 (Ex.rows e), .sl 7 (Sm.rows b), .sl 7 (Sm.rows c), .bool g]]) = some (.bool (shapeOk op s n e b c g && (txnOk op b && (Sm.oks b (d + 1) && Sm.oks c (d + 1)))), H) := by
 have hN := refName_eq s (by omega)
 have hbl : (Sm.rows b).length = b.length := by rw [Sm.rows_eq]; simp
 have hccl : (Sm.rows c).length = c.length := by rw [Sm.rows_eq]; simp
 have hend : ∀ φ, Fr.get φ 1 = .int .i64 d → Fr.get φ 2 = .ptr H.length 0 → Fr.get φ 10 = .int .i64 0 → (op = 16 → b.length ≤ 8) →
   M (eval tbl noExt) [.code l_r16_Stmt_1, .blk 2, .code r_r16_Stmt_0, .fin [.t 4] H.length] φ (H ++ [some [.int .i64 op, .str s, .int .i64 n, .sl 4 (Ex.rows e), .sl 7 (Sm.rows b), .sl 7 (Sm.rows c), .bool g]]) = some (.bool (txnOk op b && (Sm.oks b (d + 1) && Sm.oks c (d + 1))), H) := by
  intro φ h1 h2 h10 h8
  refine refStmt_txn d op H _ _ _ _ _ b hbn (fun o => o = some (.bool (txnOk op b && (Sm.oks b (d + 1) && Sm.oks c (d + 1))), H)) _ (fun φ' h16 h g => ?_) (fun φ' h g1 g2 => ?_) b.length 0 φ (by omega) (fun _ => rfl) h1 h2 h10
  ·subst h16
   simp [txnOk, h, g]
  ·rw [refStmt_tail d hd op H _ _ _ _ b c hb hc φ' g1 g2]
   by_cases h16 : op = 16
   ·simp [txnOk, h16, h8 h16, h h16]
   ·simp [txnOk, h16]
 generalize hL : (Sm.oks b (d + 1) && Sm.oks c (d + 1)) = last at hend ⊢
 simp only [shapeOk, hpo, hE, decide_true, Bool.true_and]
 by_cases h12 : op = 12
 ·subst h12
  cases hna : isName s with
  | false =>
   rw [hna] at hN
   simp [r_r16_Stmt_1, h1, h2, get0, hbl, hccl, hN, hna]
  | true =>
  rw [hna] at hN
  have hs0 : ¬ s = [] := by rintro rfl; simp [isName] at hna
  by_cases hn1 : n < 0
  ·have hn1b : ¬ 0 ≤ n := by omega
   have hn0 : ¬ n = 0 := by omega
   simp [r_r16_Stmt_1, h1, h2, get0, hbl, hccl, hN, hna, hs0, hn1, hn1b, hn0]
  have hn1b : 0 ≤ n := by omega
  by_cases hn2 : 16 < n
  ·have hn2b : ¬ n ≤ 16 := by omega
   have hn0 : ¬ n = 0 := by omega
   simp [r_r16_Stmt_1, h1, h2, get0, hbl, hccl, hN, hna, hs0, hn1, hn1b, hn2, hn2b, hn0]
  have hn2b : n ≤ 16 := by omega
  by_cases hn0 : n = 0
  case neg => simp [r_r16_Stmt_1, h1, h2, get0, hbl, hccl, hN, hna, hs0, hn1, hn1b, hn2, hn2b, hn0]
  subst hn0
  cases g with
  | true => simp [r_r16_Stmt_1, h1, h2, get0, hbl, hccl, hN, hna, hs0]
  | false =>
  by_cases hb0 : b = []
  case neg =>
   have hb1 : 0 < b.length := List.length_pos_iff.2 hb0
   simp [r_r16_Stmt_1, h1, h2, get0, hbl, hccl, hN, hna, hs0, hb0, hb1]
  subst hb0
  by_cases hc0 : c = []
  case neg =>
   have hc1 : 0 < c.length := List.length_pos_iff.2 hc0
   simp [r_r16_Stmt_1, h1, h2, get0, hbl, hccl, hN, hna, hs0, hc0, hc1]
  subst hc0
  simp [r_r16_Stmt_1, h1, h2, get0, hbl, hccl, hN, hna, hs0]
  exact hend _ (by simp [h1]) (by simp [h2]) (by simp) (fun h => by omega)
 by_cases h13 : op = 13
 ·subst h13
  by_cases hs0 : s = []
  case neg => simp [r_r16_Stmt_1, h1, h2, get0, hbl, hccl, hs0]
  subst hs0
  by_cases hn1 : n < 0
  ·have hn1b : ¬ 0 ≤ n := by omega
   have hn0 : ¬ n = 0 := by omega
   simp [r_r16_Stmt_1, h1, h2, get0, hbl, hccl, hn1, hn1b, hn0]
  have hn1b : 0 ≤ n := by omega
  by_cases hn2 : 16 < n
  ·have hn2b : ¬ n ≤ 16 := by omega
   have hn0 : ¬ n = 0 := by omega
   simp [r_r16_Stmt_1, h1, h2, get0, hbl, hccl, hn1, hn1b, hn2, hn2b, hn0]
  have hn2b : n ≤ 16 := by omega
  by_cases hn0 : n = 0
  case neg => simp [r_r16_Stmt_1, h1, h2, get0, hbl, hccl, hn1, hn1b, hn2, hn2b, hn0]
  subst hn0
  cases g with
  | true => simp [r_r16_Stmt_1, h1, h2, get0, hbl, hccl, ]
  | false =>
  simp [r_r16_Stmt_1, h1, h2, get0, hbl, hccl, ]
  exact hend _ (by simp [h1]) (by simp [h2]) (by simp) (fun h => by omega)
 by_cases h14 : op = 14
 ·subst h14
  by_cases hs0 : s = []
  case neg => simp [r_r16_Stmt_1, h1, h2, get0, hbl, hccl, hs0]
  subst hs0
  by_cases hn1 : n < 0
  ·have hn1b : ¬ 0 ≤ n := by omega
   have hn0 : ¬ n = 0 := by omega
   simp [r_r16_Stmt_1, h1, h2, get0, hbl, hccl, hn1, hn1b, hn0]
  have hn1b : 0 ≤ n := by omega
  by_cases hn2 : 16 < n
  ·have hn2b : ¬ n ≤ 16 := by omega
   have hn0 : ¬ n = 0 := by omega
   simp [r_r16_Stmt_1, h1, h2, get0, hbl, hccl, hn1, hn1b, hn2, hn2b, hn0]
  have hn2b : n ≤ 16 := by omega
  by_cases hn0 : n = 0
  ·subst hn0
   cases g with
   | true => simp [r_r16_Stmt_1, h1, h2, get0, hbl, hccl, ]
   | false =>
   by_cases hc0 : c = []
   case neg =>
    have hc1 : 0 < c.length := List.length_pos_iff.2 hc0
    simp [r_r16_Stmt_1, h1, h2, get0, hbl, hccl, hc0, hc1]
   subst hc0
   simp [r_r16_Stmt_1, h1, h2, get0, hbl, hccl, ]
   exact hend _ (by simp [h1]) (by simp [h2]) (by simp) (fun h => by omega)
  cases g with
  | true => simp [r_r16_Stmt_1, h1, h2, get0, hbl, hccl, hn1, hn1b, hn2, hn2b, hn0]
  | false =>
  by_cases hc0 : c = []
  case neg =>
   have hc1 : 0 < c.length := List.length_pos_iff.2 hc0
   simp [r_r16_Stmt_1, h1, h2, get0, hbl, hccl, hn1, hn1b, hn2, hn2b, hn0, hc0, hc1]
  subst hc0
  simp [r_r16_Stmt_1, h1, h2, get0, hbl, hccl, hn1, hn1b, hn2, hn2b, hn0]
  exact hend _ (by simp [h1]) (by simp [h2]) (by simp) (fun h => by omega)
 by_cases h15 : op = 15
 ·subst h15
  cases hna : isName s with
  | false =>
   rw [hna] at hN
   simp [r_r16_Stmt_1, h1, h2, get0, hbl, hccl, hN, hna]
  | true =>
  rw [hna] at hN
  have hs0 : ¬ s = [] := by rintro rfl; simp [isName] at hna
  by_cases hn1 : n < 0
  ·have hn1b : ¬ 0 ≤ n := by omega
   have hn0 : ¬ n = 0 := by omega
   simp [r_r16_Stmt_1, h1, h2, get0, hbl, hccl, hN, hna, hs0, hn1, hn1b, hn0]
  have hn1b : 0 ≤ n := by omega
  by_cases hn2 : 16 < n
  ·have hn2b : ¬ n ≤ 16 := by omega
   have hn0 : ¬ n = 0 := by omega
   simp [r_r16_Stmt_1, h1, h2, get0, hbl, hccl, hN, hna, hs0, hn1, hn1b, hn2, hn2b, hn0]
  have hn2b : n ≤ 16 := by omega
  by_cases hn0 : n = 0
  case neg => simp [r_r16_Stmt_1, h1, h2, get0, hbl, hccl, hN, hna, hs0, hn1, hn1b, hn2, hn2b, hn0]
  subst hn0
  cases g with
  | true => simp [r_r16_Stmt_1, h1, h2, get0, hbl, hccl, hN, hna, hs0]
  | false =>
  by_cases hb0 : b = []
  case neg =>
   have hb1 : 0 < b.length := List.length_pos_iff.2 hb0
   simp [r_r16_Stmt_1, h1, h2, get0, hbl, hccl, hN, hna, hs0, hb0, hb1]
  subst hb0
  by_cases hc0 : c = []
  case neg =>
   have hc1 : 0 < c.length := List.length_pos_iff.2 hc0
   simp [r_r16_Stmt_1, h1, h2, get0, hbl, hccl, hN, hna, hs0, hc0, hc1]
  subst hc0
  simp [r_r16_Stmt_1, h1, h2, get0, hbl, hccl, hN, hna, hs0]
  exact hend _ (by simp [h1]) (by simp [h2]) (by simp) (fun h => by omega)
 by_cases h16 : op = 16
 ·subst h16
  by_cases hs0 : s = []
  case neg => simp [r_r16_Stmt_1, h1, h2, get0, hbl, hccl, hs0]
  subst hs0
  by_cases hn1 : n < 0
  ·have hn1b : ¬ 0 ≤ n := by omega
   have hn0 : ¬ n = 0 := by omega
   simp [r_r16_Stmt_1, h1, h2, get0, hbl, hccl, hn1, hn1b, hn0]
  have hn1b : 0 ≤ n := by omega
  by_cases hn2 : 16 < n
  ·have hn2b : ¬ n ≤ 16 := by omega
   have hn0 : ¬ n = 0 := by omega
   simp [r_r16_Stmt_1, h1, h2, get0, hbl, hccl, hn1, hn1b, hn2, hn2b, hn0]
  have hn2b : n ≤ 16 := by omega
  by_cases hn0 : n = 0
  case neg => simp [r_r16_Stmt_1, h1, h2, get0, hbl, hccl, hn1, hn1b, hn2, hn2b, hn0]
  subst hn0
  cases g with
  | true =>
   by_cases hc0 : c = []
   case neg =>
    have hc1 : 0 < c.length := List.length_pos_iff.2 hc0
    simp [r_r16_Stmt_1, h1, h2, get0, hbl, hccl, hc0, hc1]
   subst hc0
   by_cases hb8 : b.length ≤ 8
   case neg =>
    have hb8' : (8 : Int) < b.length := by omega
    simp [r_r16_Stmt_1, h1, h2, get0, hbl, hccl, hb8, hb8', txnOk]
   have hb8' : ¬ (8 : Int) < b.length := by omega
   simp [r_r16_Stmt_1, h1, h2, get0, hbl, hccl, hb8, hb8']
   exact hend _ (by simp [h1]) (by simp [h2]) (by simp) (fun _ => hb8)
  | false =>
   by_cases hc0 : c = []
   case neg =>
    have hc1 : 0 < c.length := List.length_pos_iff.2 hc0
    simp [r_r16_Stmt_1, h1, h2, get0, hbl, hccl, hc0, hc1]
   subst hc0
   by_cases hb8 : b.length ≤ 8
   case neg =>
    have hb8' : (8 : Int) < b.length := by omega
    simp [r_r16_Stmt_1, h1, h2, get0, hbl, hccl, hb8, hb8', txnOk]
   have hb8' : ¬ (8 : Int) < b.length := by omega
   simp [r_r16_Stmt_1, h1, h2, get0, hbl, hccl, hb8, hb8']
   exact hend _ (by simp [h1]) (by simp [h2]) (by simp) (fun _ => hb8)
 by_cases hs0 : s = []
 case neg => simp [r_r16_Stmt_1, h1, h2, get0, hbl, hccl, h12, h13, h14, h15, h16, hs0]
 subst hs0
 by_cases hn1 : n < 0
 ·have hn1b : ¬ 0 ≤ n := by omega
  have hn0 : ¬ n = 0 := by omega
  simp [r_r16_Stmt_1, h1, h2, get0, hbl, hccl, h12, h13, h14, h15, h16, hn1, hn1b, hn0]
 have hn1b : 0 ≤ n := by omega
 by_cases hn2 : 16 < n
 ·have hn2b : ¬ n ≤ 16 := by omega
  have hn0 : ¬ n = 0 := by omega
  simp [r_r16_Stmt_1, h1, h2, get0, hbl, hccl, h12, h13, h14, h15, h16, hn1, hn1b, hn2, hn2b, hn0]
 have hn2b : n ≤ 16 := by omega
 by_cases hn0 : n = 0
 case neg => simp [r_r16_Stmt_1, h1, h2, get0, hbl, hccl, h12, h13, h14, h15, h16, hn1, hn1b, hn2, hn2b, hn0]
 subst hn0
 cases g with
 | true => simp [r_r16_Stmt_1, h1, h2, get0, hbl, hccl, h12, h13, h14, h15, h16]
 | false =>
 by_cases hb0 : b = []
 case neg =>
  have hb1 : 0 < b.length := List.length_pos_iff.2 hb0
  simp [r_r16_Stmt_1, h1, h2, get0, hbl, hccl, h12, h13, h14, h15, h16, hb0, hb1]
 subst hb0
 by_cases hc0 : c = []
 case neg =>
  have hc1 : 0 < c.length := List.length_pos_iff.2 hc0
  simp [r_r16_Stmt_1, h1, h2, get0, hbl, hccl, h12, h13, h14, h15, h16, hc0, hc1]
 subst hc0
 simp [r_r16_Stmt_1, h1, h2, get0, hbl, hccl, h12, h13, h14, h15, h16]
 exact hend _ (by simp [h1]) (by simp [h2]) (by simp) (fun h => by omega)
theorem refStmt_step (d : Nat) (hd : d ≤ 19500) (op n : Int) (s : List UInt8) (x : List Ex) (b c : List Sm) (g : Bool) (hs : s.length ≤ 300) (hl : x.length ≤ 20000) (hbl : b.length ≤ 20000) (hx : ∀ e ∈ x, RxOK 8 e) (hb : RbOK (d + 1) b) (hc : RbOK (d + 1) c) : RsOK d (.mk op s n x b c g) := by
 intro H
 have hP := refExprs_eq op
 have hcl : (Ex.rows x).length = x.length := by rw [Ex.rows_eq]; simp
 simp only [Sm.cells, Sm.ok]
 rw [eval_M rfl rfl t_r16_Stmt rfl]
 cases hpo : exprs op with
 | none =>
  rw [hpo] at hP
  simp [c_r16_Stmt, hP, tup, get0, shapeOk, hpo]
 | some k =>
 rw [hpo] at hP
 by_cases h8 : d ≤ 8
 case neg =>
  have h8' : (8 : Int) < d := by omega
  simp [c_r16_Stmt, hP, tup, get0, h8, h8']
 have h8' : ¬ (8 : Int) < d := by omega
 by_cases hk : x.length = k
 case neg =>
  have hk' : ¬ (x.length : Int) = k := by omega
  simp [c_r16_Stmt, hP, tup, get0, h8, h8', hcl, hk, hk', shapeOk, hpo]
 subst hk
 generalize hR : (decide (d ≤ 8) && (shapeOk op s n x b c g && (txnOk op b && (Sm.oks b (d + 1) && Sm.oks c (d + 1))))) = R
 simp only [h8, decide_true, Bool.true_and] at hR
 simp [c_r16_Stmt, hP, tup, get0, h8', hcl]
 refine refStmt_exprs d H _ _ _ _ _ _ x hl hx (fun o => o = some (.bool R, H)) _ (fun φ' h g => ?_) (fun φ' h g1 g2 => ?_) x.length 0 _ (by omega) rfl (by simp) (by simp) (by simp) (by simp)
 ·have : R = false := by rw [← hR]; simp [shapeOk, hpo, h]
  rw [this]; simp [g]
 ·rw [← hR]
  exact refStmt_mid d hd op n s x b c g hs hbl h hpo H hb hc φ' g1 g2
theorem exs_ref {n : Nat} (hn : n ≤ 20000) {x : List Ex} (hx : Ex.sizes x ≤ n) (ht : Ex.txts x) : ∀ e ∈ x, RxOK 8 e := by
 intro e he
 have hm := Ex.sizes_mem he
 refine expr_ref n e (by omega) hn ?_ 8 (by omega)
 induction x with
 | nil => simp at he
 | cons y l ih =>
  rcases List.mem_cons.1 he with rfl | he
  ·exact ht.1
  ·exact ih (by simp only [Ex.sizes] at hx; omega) ht.2 he (Ex.sizes_mem he)
theorem stmt_ref : ∀ (n : Nat) (l : List Sm), Sm.sizes l ≤ n → n ≤ 19500 → Sm.txts l → ∀ d, d + n ≤ 19500 → RbOK d l := by
 intro n
 induction n with
 | zero =>
  intro l h hn ht d hd
  have : l = [] := by
   cases l with
   | nil => rfl
   | cons e l => cases e; simp only [Sm.sizes, Sm.size] at h; omega
  subst this
  exact refBlock_step d (by omega) [] (by simp) (by simp)
 | succ n ih =>
  intro l h hn ht d hd
  have hll := Sm.sizes_ge l
  have hall : ∀ e ∈ l, RsOK d e := by
   intro e he
   have hm := Sm.sizes_mem he
   have het : e.txt := by
    clear h hll hm
    induction l with
    | nil => simp at he
    | cons y l ih2 =>
     rcases List.mem_cons.1 he with rfl | he
     ·exact ht.1
     ·exact ih2 ht.2 he
   obtain ⟨op, s, m, x, b, c, g⟩ := e
   simp only [Sm.size] at hm
   simp only [Sm.txt] at het
   have hbl := Sm.sizes_ge b
   have hxl := Ex.sizes_ge x
   have hx := exs_ref (n := 19500) (by omega) (x := x) (by omega) het.2.1
   have hb := ih b (by omega) (by omega) het.2.2.1 (d + 1) (by omega)
   have hc := ih c (by omega) (by omega) het.2.2.2 (d + 1) (by omega)
   exact refStmt_step d (by omega) op m s x b c g het.1 (by omega) (by omega) (fun e he => hx e he) hb hc
  exact refBlock_step d (by omega) l (by omega) (fun e he => hall e he)
theorem Pg.Fine.rproc {p : Pg} (h : p.Fine) {x : List UInt8 × List Sm} (hx : x ∈ p.procs) : RbOK 1 x.2 := by
 have hs := p.parts_size
 have hm : x.2 ∈ p.parts := by simp only [Pg.parts, List.mem_append, List.mem_map]; exact .inl ⟨x, hx, rfl⟩
 have := sizes_flatten hm
 have := h.size
 exact stmt_ref 19000 x.2 (by omega) (by omega) (h.txt.1 x hx).2 1 (by omega)
theorem Pg.Fine.rmain {p : Pg} (h : p.Fine) : RbOK 1 p.main := by
 have := h.size
 exact stmt_ref 19000 p.main (by simp only [Pg.size] at this; omega) (by omega) h.txt.2.1 1 (by omega)
theorem Pg.Fine.rrecover {p : Pg} (h : p.Fine) : RbOK 1 p.recover := by
 have := h.size
 exact stmt_ref 19000 p.recover (by simp only [Pg.size] at this; omega) (by omega) h.txt.2.2.1 1 (by omega)
theorem Pg.Fine.roracle {p : Pg} (h : p.Fine) {x : List UInt8 × Ex} (hx : x ∈ p.oracles) : RxOK 8 x.2 := by
 have hs := p.size_eq
 have hm : x.2 ∈ p.exprs := by simp only [Pg.exprs, List.mem_map]; exact ⟨x, hx, rfl⟩
 have := Ex.sizes_mem hm
 have := h.size
 exact expr_ref 19000 x.2 (by omega) (by omega) (h.txt.2.2.2 x hx).2 8 (by omega)
theorem refRight_procs (p : Pg) (h : p.Fine) (H : Heap) (Q : Option (V × Heap) → Prop) (k : List Item)
  (hret : ∀ φ', (p.procs.all fun x => isName x.1 && Sm.oks x.2 1) = false → Fr.get φ' 2 = .bool false → Q (retK k φ' (H ++ [some p.cells])))
  (hexit : ∀ φ', (p.procs.all fun x => isName x.1 && Sm.oks x.2 1) = true → Fr.get φ' 1 = .ptr H.length 0 → Q (M (eval tbl noExt) k φ' (H ++ [some p.cells]))) :
  ∀ (j i : Nat) (φ : Fr), i + j = p.procs.length → (p.procs.all fun x => isName x.1 && Sm.oks x.2 1) = ((p.procs.drop i).all fun x => isName x.1 && Sm.oks x.2 1) → Fr.get φ 1 = .ptr H.length 0 → Fr.get φ 3 = .int .i64 i →
   Q (M (eval tbl noExt) (.code l_r16_Right_0 :: .blk 0 :: k) φ (H ++ [some p.cells])) := by
 have hcl := p.pcells_len
 have hl := p.lens h.size
 simp only [Pg.cells] at hret hexit ⊢
 intro j
 induction j with
 | zero =>
  intro i φ hj hs h1 h3
  have hi : ¬ ((i : Int) < p.procs.length) := by omega
  rw [List.drop_of_length_le (by omega)] at hs
  rw [l_r16_Right_0, M_loop, ← l_r16_Right_0]
  simp [b_r16_Right_0, h1, h3, hcl, hi, get0]
  exact hexit _ (by rw [hs]; rfl) (by simp [h1])
 | succ j ih =>
  intro i φ hj hs h1 h3
  have hi : (i : Int) < p.procs.length := by omega
  have hil : i < p.procs.length := by omega
  obtain ⟨x, hx, hmem, hdr⟩ := at_some hil
  have hrow := p.prow hx
  have hw1 : IntKind.i64.wrap ((i : Int) + 1) = ((i + 1 : Nat) : Int) := by rw [w64 (by omega) (by omega)]; rfl
  rw [hdr, List.all_cons] at hs
  have hN := refName_eq x.1 (by have := (h.txt.1 x hmem).1; omega)
  have hB := (h.rproc hmem) []
  simp only [Int.cast_ofNat_Int] at hB
  rw [l_r16_Right_0, M_loop, ← l_r16_Right_0]
  cases hn : isName x.1 with
  | false =>
   rw [hn, Bool.false_and, Bool.false_and] at hs
   rw [hn] at hN
   simp [b_r16_Right_0, h1, h3, hi, hcl, hrow, get0, hN]
   exact hret _ hs (by simp)
  | true =>
   rw [hn, Bool.true_and] at hs
   rw [hn] at hN
   cases hb : Sm.oks x.2 1 with
   | false =>
    rw [hb, Bool.false_and] at hs
    rw [hb] at hB
    simp [b_r16_Right_0, h1, h3, hi, hcl, hrow, get0, hN, hB]
    exact hret _ hs (by simp)
   | true =>
    rw [hb, Bool.true_and] at hs
    rw [hb] at hB
    simp [b_r16_Right_0, h1, h3, hi, hcl, hrow, get0, hN, hB, hw1]
    exact ih (i + 1) _ (by omega) hs (by simp [h1]) (by simp)
theorem refRight_oracles (p : Pg) (h : p.Fine) (H : Heap) (Q : Option (V × Heap) → Prop) (k : List Item)
  (hret : ∀ φ', (p.oracles.all fun x => isName x.1 && x.2.ok 8) = false → Fr.get φ' 2 = .bool false → Q (retK k φ' (H ++ [some p.cells])))
  (hexit : ∀ φ', (p.oracles.all fun x => isName x.1 && x.2.ok 8) = true → Fr.get φ' 1 = .ptr H.length 0 → Q (M (eval tbl noExt) k φ' (H ++ [some p.cells]))) :
  ∀ (j i : Nat) (φ : Fr), i + j = p.oracles.length → (p.oracles.all fun x => isName x.1 && x.2.ok 8) = ((p.oracles.drop i).all fun x => isName x.1 && x.2.ok 8) → Fr.get φ 1 = .ptr H.length 0 → Fr.get φ 4 = .int .i64 i →
   Q (M (eval tbl noExt) (.code l_r16_Right_1 :: .blk 2 :: k) φ (H ++ [some p.cells])) := by
 have hcl := p.ocells_len
 have hl := p.lens h.size
 simp only [Pg.cells] at hret hexit ⊢
 intro j
 induction j with
 | zero =>
  intro i φ hj hs h1 h4
  have hi : ¬ ((i : Int) < p.oracles.length) := by omega
  rw [List.drop_of_length_le (by omega)] at hs
  rw [l_r16_Right_1, M_loop, ← l_r16_Right_1]
  simp [b_r16_Right_1, h1, h4, hcl, hi, get0]
  exact hexit _ (by rw [hs]; rfl) (by simp [h1])
 | succ j ih =>
  intro i φ hj hs h1 h4
  have hi : (i : Int) < p.oracles.length := by omega
  have hil : i < p.oracles.length := by omega
  obtain ⟨x, hx, hmem, hdr⟩ := at_some hil
  have hrow := Pg.orow hx
  have hw1 : IntKind.i64.wrap ((i : Int) + 1) = ((i + 1 : Nat) : Int) := by rw [w64 (by omega) (by omega)]; rfl
  rw [hdr, List.all_cons] at hs
  have hN := refName_eq x.1 (by have := (h.txt.2.2.2 x hmem).1; omega)
  have hB := (h.roracle hmem) []
  obtain ⟨s, e⟩ := x
  obtain ⟨op, n, t, y⟩ := e
  simp only [Ex.cells, Int.cast_ofNat_Int] at hB hrow hN hs
  rw [l_r16_Right_1, M_loop, ← l_r16_Right_1]
  cases hn : isName s with
  | false =>
   rw [hn, Bool.false_and, Bool.false_and] at hs
   rw [hn] at hN
   simp [b_r16_Right_1, h1, h4, hi, hcl, hrow, get0, hN]
   exact hret _ hs (by simp)
  | true =>
   rw [hn, Bool.true_and] at hs
   rw [hn] at hN
   cases hb : (Ex.mk op n t y).ok 8 with
   | false =>
    rw [hb, Bool.false_and] at hs
    rw [hb] at hB
    simp [b_r16_Right_1, h1, h4, hi, hcl, hrow, get0, hN, hB]
    exact hret _ hs (by simp)
   | true =>
    rw [hb, Bool.true_and] at hs
    rw [hb] at hB
    simp [b_r16_Right_1, h1, h4, hi, hcl, hrow, get0, hN, hB, hw1]
    exact ih (i + 1) _ (by omega) hs (by simp [h1]) (by simp)
theorem refRight_eq (p : Pg) (h : p.Fine) (hs1 : p.size ≤ 1000) (H : Heap) : eval tbl noExt n_r16_Right [.agg p.cells] H = some (.bool p.ok, H) := by
 have hl := p.lens h.size
 have hsz := h.size
 have ha := refAll_eq p (by omega)
 have hfl : (Sm.rows p.flats).length = p.flats.length := by rw [Sm.rows_eq]; simp
 have hpl := p.pcells_len
 have hol := p.ocells_len
 have hM := h.rmain []
 have hR := h.rrecover []
 have loop1 := refRight_procs p h H
 have loop2 := refRight_oracles p h H
 simp only [Pg.ok]
 rw [eval_M rfl rfl t_r16_Right rfl]
 by_cases c1 : p.procs.length ≤ 16
 case neg =>
  have c1' : (16 : Int) < p.procs.length := by omega
  simp [c_r16_Right, Pg.cells, get0, hpl, hol, c1, c1']
 have c1' : ¬ (16 : Int) < p.procs.length := by omega
 by_cases c2 : p.oracles.length ≤ 16
 case neg =>
  have c2' : (16 : Int) < p.oracles.length := by omega
  simp [c_r16_Right, Pg.cells, get0, hpl, hol, c1, c1', c2, c2']
 have c2' : ¬ (16 : Int) < p.oracles.length := by omega
 simp only [Pg.cells] at ha
 by_cases c3 : p.flats.length ≤ 256
 case neg =>
  have c3' : (256 : Int) < p.flats.length := by omega
  simp [c_r16_Right, Pg.cells, get0, hpl, hol, c1, c1', c2, c2', ha, hfl, c3, c3']
 have c3' : ¬ (256 : Int) < p.flats.length := by omega
 simp only [c1, c2, c3, decide_true, Bool.true_and]
 generalize hres : ((p.procs.all fun x => isName x.1 && Sm.oks x.2 1) && ((p.oracles.all fun x => isName x.1 && x.2.ok 8) && (Sm.oks p.main 1 && Sm.oks p.recover 1))) = R
 simp [c_r16_Right, Pg.cells, get0, hpl, hol, c1', c2', ha, hfl, c3']
 simp only [Pg.cells] at loop1 loop2
 refine loop1 (fun o => o = some (.bool R, H)) _ (fun φ' e g => ?_) (fun φ' e g1 => ?_) p.procs.length 0 _ (by omega) rfl (by simp) (by simp)
 ·rw [e, Bool.false_and] at hres; subst hres; simp [g]
 ·rw [e, Bool.true_and] at hres
  simp [r_r16_Right_1]
  refine loop2 (fun o => o = some (.bool R, H)) _ (fun φ'' e2 g => ?_) (fun φ'' e2 g2 => ?_) p.oracles.length 0 _ (by omega) rfl (by simp [g1]) (by simp)
  ·rw [e2, Bool.false_and] at hres; subst hres; simp [g]
  ·rw [e2, Bool.true_and] at hres
   simp only [Int.cast_ofNat_Int] at hM hR
   cases hm : Sm.oks p.main 1 with
   | false =>
    rw [hm] at hM hres
    rw [Bool.false_and] at hres; subst hres
    simp [r_r16_Right_0, g2, get0, hM]
   | true =>
    rw [hm] at hM hres
    rw [Bool.true_and] at hres
    rw [hres] at hR
    simp [r_r16_Right_0, g2, get0, hM, hR]
mutual
def Ex.fit : Ex → Prop
 | .mk op n s x => Fit op ∧ Fit n ∧ Len s.length ∧ Len x.length ∧ Ex.fits x
def Ex.fits : List Ex → Prop
 | [] => True
 | e :: l => e.fit ∧ Ex.fits l
end
mutual
def Sm.fit : Sm → Prop
 | .mk op s n e b c _ => Fit op ∧ Len s.length ∧ Fit n ∧ (Len e.length ∧ Ex.fits e) ∧ (Len b.length ∧ Sm.fits b) ∧ (Len c.length ∧ Sm.fits c)
def Sm.fits : List Sm → Prop
 | [] => True
 | e :: l => e.fit ∧ Sm.fits l
end
structure Pg.fit (p : Pg) : Prop where
 pl : Len p.procs.length
 ps : ∀ x ∈ p.procs, Len x.1.length ∧ Len x.2.length ∧ Sm.fits x.2
 ml : Len p.main.length
 ms : Sm.fits p.main
 rl : Len p.recover.length
 rs : Sm.fits p.recover
 ol : Len p.oracles.length
 os : ∀ x ∈ p.oracles, Len x.1.length ∧ x.2.fit
section
variable {P : Program}
theorem ex_list {rows : List (List V)} (h : ∀ r ∈ rows, ∃ e : Ex, r = e.cells ∧ e.fit) : ∃ l : List Ex, rows = Ex.rows l ∧ Ex.fits l ∧ l.length = rows.length := by
 induction rows with
 | nil => exact ⟨[], rfl, trivial, rfl⟩
 | cons r rows ih =>
  obtain ⟨e, rfl, he⟩ := h r (by simp)
  obtain ⟨l, rfl, hl, hn⟩ := ih (fun r hr => h r (by simp [hr]))
  exact ⟨e :: l, rfl, ⟨he, hl⟩, by simp [hn]⟩
theorem sm_list {rows : List (List V)} (h : ∀ r ∈ rows, ∃ e : Sm, r = e.cells ∧ e.fit) : ∃ l : List Sm, rows = Sm.rows l ∧ Sm.fits l ∧ l.length = rows.length := by
 induction rows with
 | nil => exact ⟨[], rfl, trivial, rfl⟩
 | cons r rows ih =>
  obtain ⟨e, rfl, he⟩ := h r (by simp)
  obtain ⟨l, rfl, hl, hn⟩ := ih (fun r hr => h r (by simp [hr]))
  exact ⟨e :: l, rfl, ⟨he, hl⟩, by simp [hn]⟩
/-- The types of programs, by number. -/
structure TreeTys (P : Program) (tG tPs tSs tOs tP tO tS tEs tE tI tN tB tT : TypeId) : Prop where
 g : ∃ fs, P.underlying tG = some (.struct fs) ∧ fs.toList.map (·.type) = [tPs, tSs, tSs, tOs]
 ps : P.underlying tPs = some (.slice tP)
 ss : P.underlying tSs = some (.slice tS)
 os : P.underlying tOs = some (.slice tO)
 es : P.underlying tEs = some (.slice tE)
 p : ∃ fs, P.underlying tP = some (.struct fs) ∧ fs.toList.map (·.type) = [tT, tSs]
 o : ∃ fs, P.underlying tO = some (.struct fs) ∧ fs.toList.map (·.type) = [tT, tE]
 s : ∃ fs, P.underlying tS = some (.struct fs) ∧ fs.toList.map (·.type) = [tI, tT, tN, tEs, tSs, tSs, tB]
 e : ∃ fs, P.underlying tE = some (.struct fs) ∧ fs.toList.map (·.type) = [tI, tN, tT, tEs]
 i : P.underlying tI = some (.int .i64)
 n : P.underlying tN = some (.int .i64)
 b : P.underlying tB = some .bool
 t : P.underlying tT = some .string
 cp : P.cellsOf tP = 2
 cs : P.cellsOf tS = 7
 co : P.cellsOf tO = 5
 ce : P.cellsOf tE = 4
variable {tG tPs tSs tOs tP tO tS tEs tE tI tN tB tT : TypeId} (T : TreeTys P tG tPs tSs tOs tP tO tS tEs tE tI tN tB tT)
include T
/-- An expression's cells; a list of expressions. -/
theorem ex_of {t : TypeId} {vs : List V} (h : Ty P t vs) : (t = tE → ∃ e : Ex, vs = e.cells ∧ e.fit) ∧ (t = tEs → ∃ l : List Ex, vs = [.sl 4 (Ex.rows l)] ∧ Len l.length ∧ Ex.fits l) := by
 induction h with
 | bool h b =>
  obtain ⟨fs, hu, _⟩ := T.e
  exact ⟨fun ht => (by subst ht; rw [hu] at h; cases h), fun ht => (by subst ht; rw [T.es] at h; cases h)⟩
 | int h n hw =>
  obtain ⟨fs, hu, _⟩ := T.e
  exact ⟨fun ht => (by subst ht; rw [hu] at h; cases h), fun ht => (by subst ht; rw [T.es] at h; cases h)⟩
 | str h s hs =>
  obtain ⟨fs, hu, _⟩ := T.e
  exact ⟨fun ht => (by subst ht; rw [hu] at h; cases h), fun ht => (by subst ht; rw [T.es] at h; cases h)⟩
 | sl h rows hl hr ih =>
  obtain ⟨fs, hu, _⟩ := T.e
  refine ⟨fun ht => (by subst ht; rw [hu] at h; cases h), fun ht => ?_⟩
  subst ht
  rw [T.es] at h
  cases h
  obtain ⟨l, rfl, hf, hn⟩ := ex_list (fun r hr => (ih r hr).1 rfl)
  exact ⟨l, by rw [T.ce], by rw [hn]; exact hl, hf⟩
 | @struct t' gs h parts hl hp ih =>
  obtain ⟨fs, hu, hfs⟩ := T.e
  refine ⟨fun ht => ?_, fun ht => (by subst ht; rw [T.es] at h; cases h)⟩
  subst ht
  obtain rfl : fs = gs := by
   have := hu.symm.trans h
   simpa using this
  have hL := TyL_of (by rw [hl, Array.length_toList]) (fun j f p h1 h2 => hp j f p (by rw [← Array.getElem?_toList]; exact h1) h2)
  rw [hfs] at hL
  obtain ⟨p0, p1, p2, p3, rfl, h0, h1, h2, h3⟩ := TyL_4 hL
  obtain ⟨op, rfl, w0⟩ := Ty_int_of h0 T.i
  obtain ⟨n, rfl, w1⟩ := Ty_int_of h1 T.n
  obtain ⟨s, rfl, w2⟩ := Ty_str_of h2 T.t
  have hf3 : ∃ f : Field, fs[3]? = some f ∧ f.type = tEs := by
   have : (fs.toList.map (·.type))[3]? = some tEs := by rw [hfs]; rfl
   rw [List.getElem?_map, Option.map_eq_some_iff] at this
   obtain ⟨f, hf, hf'⟩ := this
   exact ⟨f, by rw [← Array.getElem?_toList]; exact hf, hf'⟩
  obtain ⟨f, hf, hft⟩ := hf3
  obtain ⟨l, rfl, hll, hlf⟩ := (ih 3 f p3 hf rfl).2 hft
  exact ⟨.mk op n s l, rfl, w0, w1, w2, hll, hlf⟩
 | arr h parts hl hp ih =>
  obtain ⟨fs, hu, _⟩ := T.e
  exact ⟨fun ht => (by subst ht; rw [hu] at h; cases h), fun ht => (by subst ht; rw [T.es] at h; cases h)⟩
/-- A statement's cells; a list of statements. -/
theorem sm_of {t : TypeId} {vs : List V} (h : Ty P t vs) : (t = tS → ∃ e : Sm, vs = e.cells ∧ e.fit) ∧ (t = tSs → ∃ l : List Sm, vs = [.sl 7 (Sm.rows l)] ∧ Len l.length ∧ Sm.fits l) := by
 induction h with
 | bool h b =>
  obtain ⟨fs, hu, _⟩ := T.s
  exact ⟨fun ht => (by subst ht; rw [hu] at h; cases h), fun ht => (by subst ht; rw [T.ss] at h; cases h)⟩
 | int h n hw =>
  obtain ⟨fs, hu, _⟩ := T.s
  exact ⟨fun ht => (by subst ht; rw [hu] at h; cases h), fun ht => (by subst ht; rw [T.ss] at h; cases h)⟩
 | str h s hs =>
  obtain ⟨fs, hu, _⟩ := T.s
  exact ⟨fun ht => (by subst ht; rw [hu] at h; cases h), fun ht => (by subst ht; rw [T.ss] at h; cases h)⟩
 | sl h rows hl hr ih =>
  obtain ⟨fs, hu, _⟩ := T.s
  refine ⟨fun ht => (by subst ht; rw [hu] at h; cases h), fun ht => ?_⟩
  subst ht
  rw [T.ss] at h
  cases h
  obtain ⟨l, rfl, hf, hn⟩ := sm_list (fun r hr => (ih r hr).1 rfl)
  exact ⟨l, by rw [T.cs], by rw [hn]; exact hl, hf⟩
 | @struct t' gs h parts hl hp ih =>
  obtain ⟨fs, hu, hfs⟩ := T.s
  refine ⟨fun ht => ?_, fun ht => (by subst ht; rw [T.ss] at h; cases h)⟩
  subst ht
  obtain rfl : fs = gs := by
   have := hu.symm.trans h
   simpa using this
  have hL := TyL_of (by rw [hl, Array.length_toList]) (fun j f p h1 h2 => hp j f p (by rw [← Array.getElem?_toList]; exact h1) h2)
  rw [hfs] at hL
  obtain ⟨p0, p1, p2, p3, p4, p5, p6, rfl, h0, h1, h2, h3, h4, h5, h6⟩ := TyL_7 hL
  obtain ⟨op, rfl, w0⟩ := Ty_int_of h0 T.i
  obtain ⟨s, rfl, w1⟩ := Ty_str_of h1 T.t
  obtain ⟨n, rfl, w2⟩ := Ty_int_of h2 T.n
  obtain ⟨e, rfl, w3⟩ := (ex_of T h3).2 rfl
  obtain ⟨k, rfl⟩ := Ty_bool_of h6 T.b
  have hf : ∀ i, fs.toList.map (·.type) = [tI, tT, tN, tEs, tSs, tSs, tB] → i = 4 ∨ i = 5 → ∃ f : Field, fs[i]? = some f ∧ f.type = tSs := by
   intro i hfs hi
   have : (fs.toList.map (·.type))[i]? = some tSs := by rw [hfs]; rcases hi with rfl | rfl <;> rfl
   rw [List.getElem?_map, Option.map_eq_some_iff] at this
   obtain ⟨f, hf, hf'⟩ := this
   exact ⟨f, by rw [← Array.getElem?_toList]; exact hf, hf'⟩
  obtain ⟨f4, hf4, ht4⟩ := hf 4 hfs (.inl rfl)
  obtain ⟨f5, hf5, ht5⟩ := hf 5 hfs (.inr rfl)
  obtain ⟨b, rfl, w4⟩ := (ih 4 f4 p4 hf4 rfl).2 ht4
  obtain ⟨c, rfl, w5⟩ := (ih 5 f5 p5 hf5 rfl).2 ht5
  exact ⟨.mk op s n e b c k, rfl, w0, w1, w2, w3, w4, w5⟩
 | arr h parts hl hp ih =>
  obtain ⟨fs, hu, _⟩ := T.s
  exact ⟨fun ht => (by subst ht; rw [hu] at h; cases h), fun ht => (by subst ht; rw [T.ss] at h; cases h)⟩
theorem pr_list {prows : List (List V)} (hpr : ∀ r ∈ prows, Ty P tP r) : ∃ ps : List (List UInt8 × List Sm), prows = ps.map (fun x => [.str x.1, .sl 7 (Sm.rows x.2)]) ∧ ∀ x ∈ ps, Len x.1.length ∧ Len x.2.length ∧ Sm.fits x.2 := by
  induction prows with
  | nil => exact ⟨[], rfl, by simp⟩
  | cons x l ih =>
   obtain ⟨ps, rfl, hps⟩ := ih (fun r hr => hpr r (by simp [hr]))
   obtain ⟨gs, gu, ggs⟩ := T.p
   have gi := Ty_inv (hpr x (by simp))
   rw [gu] at gi
   obtain ⟨parts, rfl, hL⟩ := gi
   rw [ggs] at hL
   obtain ⟨q0, q1, rfl, k0, k1⟩ := TyL_2 hL
   obtain ⟨s, rfl, w0⟩ := Ty_str_of k0 T.t
   obtain ⟨b, rfl, w1, w2⟩ := (sm_of T k1).2 rfl
   refine ⟨(s, b) :: ps, rfl, ?_⟩
   intro x hx
   rcases List.mem_cons.1 hx with rfl | hx
   ·exact ⟨w0, w1, w2⟩
   ·exact hps x hx
theorem or_list {orows : List (List V)} (hor : ∀ r ∈ orows, Ty P tO r) : ∃ os : List (List UInt8 × Ex), orows = os.map (fun x => .str x.1 :: x.2.cells) ∧ ∀ x ∈ os, Len x.1.length ∧ x.2.fit := by
  induction orows with
  | nil => exact ⟨[], rfl, by simp⟩
  | cons x l ih =>
   obtain ⟨os, rfl, hos⟩ := ih (fun r hr => hor r (by simp [hr]))
   obtain ⟨gs, gu, ggs⟩ := T.o
   have gi := Ty_inv (hor x (by simp))
   rw [gu] at gi
   obtain ⟨parts, rfl, hL⟩ := gi
   rw [ggs] at hL
   obtain ⟨q0, q1, rfl, k0, k1⟩ := TyL_2 hL
   obtain ⟨s, rfl, w0⟩ := Ty_str_of k0 T.t
   obtain ⟨e, rfl, w1⟩ := (ex_of T k1).1 rfl
   refine ⟨(s, e) :: os, by simp, ?_⟩
   intro x hx
   rcases List.mem_cons.1 hx with rfl | hx
   ·exact ⟨w0, w1⟩
   ·exact hos x hx
theorem pg_of {vs : List V} (h : Ty P tG vs) : ∃ p : Pg, vs = p.cells ∧ p.fit := by
 obtain ⟨fs, hu, hfs⟩ := T.g
 have hi := Ty_inv h
 rw [hu] at hi
 obtain ⟨parts, rfl, hL⟩ := hi
 rw [hfs] at hL
 obtain ⟨p0, p1, p2, p3, rfl, h0, h1, h2, h3⟩ := TyL_4 hL
 obtain ⟨m, rfl, m1, m2⟩ := (sm_of T h1).2 rfl
 obtain ⟨r, rfl, r1, r2⟩ := (sm_of T h2).2 rfl
 obtain ⟨prows, rfl, pl, hpr⟩ := Ty_sl_of h0 T.ps
 obtain ⟨orows, rfl, ol, hor⟩ := Ty_sl_of h3 T.os
 have hps := pr_list T hpr
 have hos := or_list T hor
 obtain ⟨ps, rfl, hps⟩ := hps
 obtain ⟨os, rfl, hos⟩ := hos
 refine ⟨⟨ps, m, r, os⟩, ?_, ⟨by simpa using pl, hps, m1, m2, r1, r2, by simpa using ol, hos⟩⟩
 rw [T.cp, T.co]
 simp [Pg.cells, Pg.pcells, Pg.ocells]
end
end Go.AM.Spec
