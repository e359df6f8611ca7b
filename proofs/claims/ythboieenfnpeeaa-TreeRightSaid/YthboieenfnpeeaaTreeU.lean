/-
  Which statements and blocks are right: what the program's and the document's functions answer; printed by a program (mkright.py).
-/
import Derived.Test.YthboieenfnpeeaaTreeT
namespace Go.AM.Spec
set_option linter.unusedVariables false
set_option linter.unusedSimpArgs false
set_option maxHeartbeats 4000000
set_option maxRecDepth 10000

def Sm.op : Sm → Int
  | .mk op _ _ _ _ _ _ => op

/-- A transaction's block. -/
def txnOk (op : Int) (b : List Sm) : Bool := decide (op ≠ 16) || (decide (b.length ≤ 8) && b.all fun x => decide (x.op = 3))

mutual
/-- Is a statement right in a block that is so deep? -/
def Sm.ok : Sm → Nat → Bool
  | .mk op s n e b c g, d => decide (d ≤ 8) && (shapeOk op s n e b c g && (txnOk op b && (Sm.oks b (d + 1) && Sm.oks c (d + 1))))
def Sm.oks : List Sm → Nat → Bool
  | [], _ => true
  | e :: l, d => e.ok d && Sm.oks l d
end

theorem Sm.oks_all (l : List Sm) (d : Nat) : Sm.oks l d = l.all fun e => e.ok d := by
  induction l with
  | nil => simp [Sm.oks]
  | cons e l ih => simp [Sm.oks, ih]

def StOK (d : Nat) (e : Sm) : Prop := ∀ H, eval tbl noExt n_tree_stmt [.agg e.cells, .int .i64 d] H = some (.bool (e.ok d), H)
def BlOK (d : Nat) (l : List Sm) : Prop := ∀ H, eval tbl noExt n_tree_block [.sl 7 (Sm.rows l), .int .i64 d] H = some (.bool (Sm.oks l d), H)
def RsOK (d : Nat) (e : Sm) : Prop := ∀ H, eval tbl noExt n_flotsamref16_Stmt [.agg e.cells, .int .i64 d] H = some (.bool (e.ok d), H)
def RbOK (d : Nat) (l : List Sm) : Prop := ∀ H, eval tbl noExt n_flotsamref16_Block [.sl 7 (Sm.rows l), .int .i64 d] H = some (.bool (Sm.oks l d), H)

theorem block_1_eq (d : Nat) (hd : d ≤ 1000) (e : Sm) (he : StOK d e) (K : Heap) (j : Nat) (hK : K[j]? = some (some [.int .i64 (d : Int)])) (hj : j < K.length) :
    eval tbl noExt n_tree_block_1 [.agg e.cells, .ptr j 0] K = some (.bool (!e.ok d), K) := by
  have hK2 : ∀ r, (K ++ r)[j]? = some (some [.int .i64 (d : Int)]) := fun r => by rw [List.getElem?_append_left hj]; exact hK
  have he0 := he []
  obtain ⟨op, s, n, x, b, c, g⟩ := e
  simp only [Sm.cells] at he0 ⊢
  rw [eval_M rfl rfl t_tree_block_1 rfl]
  simp [c_tree_block_1, get0, hK2, he0, lt_tree_stmt]

theorem block_step_ok (d : Nat) (hd : d ≤ 1000) (l : List Sm) (hl : l.length ≤ 1000) (hx : ∀ e ∈ l, StOK d e) : BlOK d l := by
  intro H
  have hc : eval tbl noExt n_slices_ContainsFunc_api_Stmt_api_Stmt_x [.sl 7 (Sm.rows l), .fn (.func n_tree_block_1) [] [.ptr H.length 0]] (H ++ [some [.int .i64 (d : Int)]]) = some (.bool (!Sm.oks l d), H ++ [some [.int .i64 (d : Int)]]) := by
    rw [Sm.rows_eq, Sm.oks_all, ← any_not]
    exact ContainsFunc_api_Stmt_api_Stmt_x (first := []) lt_tree_block_1 Sm.cells l (by omega) (fun e => !e.ok d) _ (fun e _ => Sm.strips e) (fun e he => block_1_eq d hd e (hx e he) _ _ (by rw [get0]) (by simp))
  rw [eval_M rfl rfl t_tree_block rfl]
  simp [c_tree_block, hc, lt_slices_ContainsFunc_api_Stmt_api_Stmt_x]

theorem stmt_1_eq (e : Sm) (K : Heap) : eval tbl noExt n_tree_stmt_1 [.agg e.cells] K = some (.bool (!decide (e.op = 3)), K) := by
  obtain ⟨op, s, n, x, b, c, g⟩ := e
  rw [eval_M rfl rfl t_tree_stmt_1 rfl]
  simp [c_tree_stmt_1, get0, Sm.cells, Sm.op]
  rfl

theorem stmt_step_ok (d : Nat) (hd : d ≤ 900) (op n : Int) (s : List UInt8) (x : List Ex) (b c : List Sm) (g : Bool) (hs : s.length ≤ 300) (hl : x.length ≤ 1000) (hbl : b.length ≤ 1000) (hx : ∀ e ∈ x, ExOK 8 e) (hb : BlOK (d + 1) b) (hc : BlOK (d + 1) c) : StOK d (.mk op s n x b c g) := by
  intro H
  have hS := shape_eq op n s x b c g hs hl hx []
  have hw : IntKind.i64.wrap ((d : Int) + 1) = (d : Int) + 1 := w64 (by omega) (by omega)
  have hT : ∀ K, eval tbl noExt n_slices_ContainsFunc_api_Stmt_api_Stmt_x [.sl 7 (Sm.rows b), .fn (.func n_tree_stmt_1) [] []] K = some (.bool (!(b.all fun x => decide (x.op = 3))), K) := by
    intro K
    rw [Sm.rows_eq, ← any_not]
    exact ContainsFunc_api_Stmt_api_Stmt_x (first := []) (cap := []) lt_tree_stmt_1 Sm.cells b (by omega) (fun e => !decide (e.op = 3)) K (fun e _ => Sm.strips e) (fun e he => stmt_1_eq e K)
  have hb0 := hb []
  have hc0 := hc []
  have hrl : (Sm.rows b).length = b.length := by rw [Sm.rows_eq]; simp
  simp only [Sm.cells, Int.natCast_add, Int.cast_ofNat_Int] at hS hb0 hc0 ⊢
  rw [eval_M rfl rfl t_tree_stmt rfl]
  simp only [Sm.ok, txnOk]
  generalize (b.all fun x => decide (x.op = 3)) = all at hT ⊢
  by_cases h8 : d ≤ 8
  · have h8' : ¬ (8 : Int) < d := by omega
    cases hso : shapeOk op s n x b c g with
    | false =>
      rw [hso] at hS
      simp [c_tree_stmt, get0, h8, h8', hS, lt_tree_shape]
    | true =>
      rw [hso] at hS
      by_cases h16 : op = 16
      · subst h16
        by_cases hb8 : b.length ≤ 8
        · have hb8' : ¬ (8 : Int) < b.length := by omega
          cases all with
          | false => simp [c_tree_stmt, get0, h8, h8', hS, lt_tree_shape, hb8, hb8', hrl, hT, lt_slices_ContainsFunc_api_Stmt_api_Stmt_x]
          | true =>
            cases hbo : Sm.oks b (d + 1) with
            | false =>
              rw [hbo] at hb0
              simp [c_tree_stmt, get0, h8, h8', hS, lt_tree_shape, hb8, hb8', hrl, hT, lt_slices_ContainsFunc_api_Stmt_api_Stmt_x, hw, hb0, lt_tree_block]
            | true =>
              rw [hbo] at hb0
              simp [c_tree_stmt, get0, h8, h8', hS, lt_tree_shape, hb8, hb8', hrl, hT, lt_slices_ContainsFunc_api_Stmt_api_Stmt_x, hw, hb0, hc0, lt_tree_block]
        · have hb8' : (8 : Int) < b.length := by omega
          simp [c_tree_stmt, get0, h8, h8', hS, lt_tree_shape, hb8, hb8', hrl]
      · cases hbo : Sm.oks b (d + 1) with
        | false =>
          rw [hbo] at hb0
          simp [c_tree_stmt, get0, h8, h8', hS, lt_tree_shape, h16, hw, hb0, lt_tree_block]
        | true =>
          rw [hbo] at hb0
          simp [c_tree_stmt, get0, h8, h8', hS, lt_tree_shape, h16, hw, hb0, hc0, lt_tree_block]
  · have h8' : (8 : Int) < d := by omega
    simp [c_tree_stmt, get0, h8, h8']

theorem refBlock_loop (d : Nat) (hd : d ≤ 1000) (H : Heap) (l : List Sm) (hl : l.length ≤ 1000) (hx : ∀ e ∈ l, RsOK d e) (Q : Option (V × Heap) → Prop) (k : List Item)
    (hret : ∀ φ', Sm.oks l d = false → Fr.get φ' 4 = .bool false → Q (retK k φ' H))
    (hexit : ∀ φ', Sm.oks l d = true → Q (M (eval tbl noExt) k φ' H)) :
    ∀ (j i : Nat) (φ : Fr), i + j = l.length → Sm.oks l d = Sm.oks (l.drop i) d → Fr.get φ 0 = .sl 7 (Sm.rows l) → Fr.get φ 1 = .int .i64 d → Fr.get φ 5 = .int .i64 i →
      Q (M (eval tbl noExt) (.code l_flotsamref16_Block_0 :: .blk 0 :: k) φ H) := by
  have hcl : (Sm.rows l).length = l.length := by rw [Sm.rows_eq]; simp
  intro j
  induction j with
  | zero =>
    intro i φ hj hs h0 h1 h5
    have hi : ¬ ((i : Int) < l.length) := by omega
    rw [List.drop_of_length_le (by omega)] at hs
    rw [l_flotsamref16_Block_0, M_loop, ← l_flotsamref16_Block_0]
    simp [b_flotsamref16_Block_0, h0, h1, h5, hcl, hi]
    exact hexit _ (by rw [hs]; simp [Sm.oks])
  | succ j ih =>
    intro i φ hj hs h0 h1 h5
    have hi : (i : Int) < l.length := by omega
    have hil : i < l.length := by omega
    obtain ⟨e, he, hmem, hdr⟩ : ∃ e, l[i]? = some e ∧ e ∈ l ∧ l.drop i = e :: l.drop (i + 1) := ⟨l[i], List.getElem?_eq_getElem hil, List.getElem_mem hil, List.drop_eq_getElem_cons hil⟩
    have hrow : (Sm.rows l)[i]? = some e.cells := by rw [Sm.rows_eq, List.getElem?_map, he]; rfl
    have hw1 : IntKind.i64.wrap ((i : Int) + 1) = ((i + 1 : Nat) : Int) := by rw [w64 (by omega) (by omega)]; rfl
    rw [hdr, Sm.oks] at hs
    have hcall := hx e hmem []
    rw [l_flotsamref16_Block_0, M_loop, ← l_flotsamref16_Block_0]
    cases hb : e.ok d with
    | false =>
      rw [hb, Bool.false_and] at hs
      rw [hb] at hcall
      obtain ⟨op, s, n, x, b, c, g⟩ := e
      simp only [Sm.cells] at hrow hcall
      simp [b_flotsamref16_Block_0, h0, h1, h5, hi, hcl, hrow, hcall, lt_flotsamref16_Stmt]
      exact hret _ hs (by simp)
    | true =>
      rw [hb, Bool.true_and] at hs
      rw [hb] at hcall
      obtain ⟨op, s, n, x, b, c, g⟩ := e
      simp only [Sm.cells] at hrow hcall
      simp [b_flotsamref16_Block_0, h0, h1, h5, hi, hcl, hrow, hcall, lt_flotsamref16_Stmt, hw1]
      exact ih (i + 1) _ (by omega) hs (by simp [h0]) (by simp [h1]) (by simp)

theorem refBlock_step (d : Nat) (hd : d ≤ 1000) (l : List Sm) (hl : l.length ≤ 1000) (hx : ∀ e ∈ l, RsOK d e) : RbOK d l := by
  intro H
  rw [eval_M rfl rfl t_flotsamref16_Block rfl]
  simp [c_flotsamref16_Block]
  refine refBlock_loop d hd H l hl hx (fun o => o = some (.bool (Sm.oks l d), H)) _ (fun φ' h g => ?_) (fun φ' h => ?_) l.length 0 _ (by omega) rfl (by simp) (by simp) (by simp)
  · rw [h]; simp [g]
  · rw [h]; simp [r_flotsamref16_Block_0]

theorem refStmt_exprs (d : Nat) (H : Heap) (a0 a1 a2 a4 a5 a6 : V) (x : List Ex) (hl : x.length ≤ 1000) (hx : ∀ e ∈ x, RxOK 8 e) (Q : Option (V × Heap) → Prop) (k : List Item)
    (hret : ∀ φ', Ex.oks x 8 = false → Fr.get φ' 4 = .bool false → Q (retK k φ' (H ++ [some [a0, a1, a2, .sl 4 (Ex.rows x), a4, a5, a6]])))
    (hexit : ∀ φ', Ex.oks x 8 = true → Fr.get φ' 1 = .int .i64 d → Fr.get φ' 2 = .ptr H.length 0 → Q (M (eval tbl noExt) k φ' (H ++ [some [a0, a1, a2, .sl 4 (Ex.rows x), a4, a5, a6]]))) :
    ∀ (j i : Nat) (φ : Fr), i + j = x.length → Ex.oks x 8 = Ex.oks (x.drop i) 8 → Fr.get φ 1 = .int .i64 d → Fr.get φ 2 = .ptr H.length 0 → Fr.get φ 5 = .int .i64 x.length → Fr.get φ 7 = .int .i64 i →
      Q (M (eval tbl noExt) (.code l_flotsamref16_Stmt_0 :: .blk 0 :: k) φ (H ++ [some [a0, a1, a2, .sl 4 (Ex.rows x), a4, a5, a6]])) := by
  have hcl : (Ex.rows x).length = x.length := by rw [Ex.rows_eq]; simp
  intro j
  induction j with
  | zero =>
    intro i φ hj hs h1 h2 h5 h7
    have hi : ¬ ((i : Int) < x.length) := by omega
    rw [List.drop_of_length_le (by omega)] at hs
    rw [l_flotsamref16_Stmt_0, M_loop, ← l_flotsamref16_Stmt_0]
    simp [b_flotsamref16_Stmt_0, h1, h2, h5, h7, hi]
    exact hexit _ (by rw [hs]; simp [Ex.oks]) (by simp [h1]) (by simp [h2])
  | succ j ih =>
    intro i φ hj hs h1 h2 h5 h7
    have hi : (i : Int) < x.length := by omega
    have hil : i < x.length := by omega
    obtain ⟨e, he, hmem, hdr⟩ : ∃ e, x[i]? = some e ∧ e ∈ x ∧ x.drop i = e :: x.drop (i + 1) := ⟨x[i], List.getElem?_eq_getElem hil, List.getElem_mem hil, List.drop_eq_getElem_cons hil⟩
    have hrow : (Ex.rows x)[i]? = some e.cells := by rw [Ex.rows_eq, List.getElem?_map, he]; rfl
    have hw1 : IntKind.i64.wrap ((i : Int) + 1) = ((i + 1 : Nat) : Int) := by rw [w64 (by omega) (by omega)]; rfl
    rw [hdr, Ex.oks] at hs
    have hcall := hx e hmem []
    rw [l_flotsamref16_Stmt_0, M_loop, ← l_flotsamref16_Stmt_0]
    cases hb : e.ok 8 with
    | false =>
      rw [hb, Bool.false_and] at hs
      rw [hb] at hcall
      obtain ⟨op, m, s, y⟩ := e
      simp only [Ex.cells, Int.cast_ofNat_Int] at hrow hcall
      simp [b_flotsamref16_Stmt_0, h1, h2, h5, h7, hi, hcl, hrow, get0, hcall, lt_flotsamref16_Expr]
      exact hret _ hs (by simp)
    | true =>
      rw [hb, Bool.true_and] at hs
      rw [hb] at hcall
      obtain ⟨op, m, s, y⟩ := e
      simp only [Ex.cells, Int.cast_ofNat_Int] at hrow hcall
      simp [b_flotsamref16_Stmt_0, h1, h2, h5, h7, hi, hcl, hrow, get0, hcall, lt_flotsamref16_Expr, hw1]
      exact ih (i + 1) _ (by omega) hs (by simp [h1]) (by simp [h2]) (by simp [h5]) (by simp)

theorem refStmt_txn (d : Nat) (op : Int) (H : Heap) (a1 a2 a3 a5 a6 : V) (b : List Sm) (hl : b.length ≤ 1000) (Q : Option (V × Heap) → Prop) (k : List Item)
    (hret : ∀ φ', op = 16 → (b.all fun x => decide (x.op = 3)) = false → Fr.get φ' 4 = .bool false → Q (retK k φ' (H ++ [some [.int .i64 op, a1, a2, a3, .sl 7 (Sm.rows b), a5, a6]])))
    (hexit : ∀ φ', (op = 16 → (b.all fun x => decide (x.op = 3)) = true) → Fr.get φ' 1 = .int .i64 d → Fr.get φ' 2 = .ptr H.length 0 → Q (M (eval tbl noExt) k φ' (H ++ [some [.int .i64 op, a1, a2, a3, .sl 7 (Sm.rows b), a5, a6]]))) :
    ∀ (j i : Nat) (φ : Fr), i + j = b.length → (op = 16 → (b.all fun x => decide (x.op = 3)) = ((b.drop i).all fun x => decide (x.op = 3))) → Fr.get φ 1 = .int .i64 d → Fr.get φ 2 = .ptr H.length 0 → Fr.get φ 10 = .int .i64 i →
      Q (M (eval tbl noExt) (.code l_flotsamref16_Stmt_1 :: .blk 2 :: k) φ (H ++ [some [.int .i64 op, a1, a2, a3, .sl 7 (Sm.rows b), a5, a6]])) := by
  have hcl : (Sm.rows b).length = b.length := by rw [Sm.rows_eq]; simp
  intro j
  induction j with
  | zero =>
    intro i φ hj hs h1 h2 h10
    have hi : ¬ ((i : Int) < b.length) := by omega
    rw [List.drop_of_length_le (by omega)] at hs
    rw [l_flotsamref16_Stmt_1, M_loop, ← l_flotsamref16_Stmt_1]
    simp [b_flotsamref16_Stmt_1, h1, h2, h10, hcl, hi, get0]
    exact hexit _ (fun h => by rw [hs h]; rfl) (by simp [h1]) (by simp [h2])
  | succ j ih =>
    intro i φ hj hs h1 h2 h10
    have hi : (i : Int) < b.length := by omega
    have hil : i < b.length := by omega
    obtain ⟨e, he, hmem, hdr⟩ : ∃ e, b[i]? = some e ∧ e ∈ b ∧ b.drop i = e :: b.drop (i + 1) := ⟨b[i], List.getElem?_eq_getElem hil, List.getElem_mem hil, List.drop_eq_getElem_cons hil⟩
    have hrow : (Sm.rows b)[i]? = some e.cells := by rw [Sm.rows_eq, List.getElem?_map, he]; rfl
    have hw1 : IntKind.i64.wrap ((i : Int) + 1) = ((i + 1 : Nat) : Int) := by rw [w64 (by omega) (by omega)]; rfl
    rw [hdr, List.all_cons] at hs
    rw [l_flotsamref16_Stmt_1, M_loop, ← l_flotsamref16_Stmt_1]
    obtain ⟨oq, s, n, x, b', c, g⟩ := e
    simp only [Sm.cells] at hrow
    have ho : (Sm.mk oq s n x b' c g).op = oq := rfl
    rw [ho] at hs
    by_cases h16 : op = 16
    · subst h16
      have hs := hs rfl
      by_cases h3 : oq = 3
      · rw [decide_eq_true h3, Bool.true_and] at hs
        simp [b_flotsamref16_Stmt_1, h1, h2, h10, hi, hcl, hrow, get0, h3, hw1]
        exact ih (i + 1) _ (by omega) (fun _ => hs) (by simp [h1]) (by simp [h2]) (by simp)
      · rw [decide_eq_false h3, Bool.false_and] at hs
        simp [b_flotsamref16_Stmt_1, h1, h2, h10, hi, hcl, hrow, get0, h3, hw1]
        exact hret _ rfl hs (by simp)
    · simp [b_flotsamref16_Stmt_1, h1, h2, h10, hi, hcl, hrow, get0, h16, hw1]
      exact ih (i + 1) _ (by omega) (fun h => absurd h h16) (by simp [h1]) (by simp [h2]) (by simp)

theorem refStmt_tail (d : Nat) (hd : d ≤ 900) (op : Int) (H : Heap) (a1 a2 a3 a6 : V) (b c : List Sm) (hb : RbOK (d + 1) b) (hc : RbOK (d + 1) c) (φ : Fr) (h1 : Fr.get φ 1 = .int .i64 d) (h2 : Fr.get φ 2 = .ptr H.length 0) :
    M (eval tbl noExt) [.code r_flotsamref16_Stmt_0, .fin [.t 4] H.length] φ (H ++ [some [.int .i64 op, a1, a2, a3, .sl 7 (Sm.rows b), .sl 7 (Sm.rows c), a6]]) = some (.bool (Sm.oks b (d + 1) && Sm.oks c (d + 1)), H) := by
  have hw : IntKind.i64.wrap ((d : Int) + 1) = (d : Int) + 1 := w64 (by omega) (by omega)
  have hb0 := hb []
  have hc0 := hc []
  simp only [Int.natCast_add, Int.cast_ofNat_Int] at hb0 hc0
  cases hbo : Sm.oks b (d + 1) with
  | false =>
    rw [hbo] at hb0
    simp [r_flotsamref16_Stmt_0, h1, h2, get0, hw, hb0, lt_flotsamref16_Block]
  | true =>
    rw [hbo] at hb0
    simp [r_flotsamref16_Stmt_0, h1, h2, get0, hw, hb0, hc0, lt_flotsamref16_Block]

theorem refStmt_mid (d : Nat) (hd : d ≤ 900) (op n : Int) (s : List UInt8) (e : List Ex) (b c : List Sm) (g : Bool) (hs : s.length ≤ 300) (hbn : b.length ≤ 1000) (hE : Ex.oks e 8 = true) (hpo : exprs op = some e.length) (H : Heap) (hb : RbOK (d + 1) b) (hc : RbOK (d + 1) c) (φ : Fr) (h1 : Fr.get φ 1 = .int .i64 d) (h2 : Fr.get φ 2 = .ptr H.length 0) :
    M (eval tbl noExt) [.code r_flotsamref16_Stmt_1, .fin [.t 4] H.length] φ (H ++ [some [.int .i64 op, .str s, .int .i64 n, .sl 4 (Ex.rows e), .sl 7 (Sm.rows b), .sl 7 (Sm.rows c), .bool g]]) = some (.bool (shapeOk op s n e b c g && (txnOk op b && (Sm.oks b (d + 1) && Sm.oks c (d + 1)))), H) := by
  have hN := refName_eq s (by omega)
  have hbl : (Sm.rows b).length = b.length := by rw [Sm.rows_eq]; simp
  have hccl : (Sm.rows c).length = c.length := by rw [Sm.rows_eq]; simp
  have hend : ∀ φ, Fr.get φ 1 = .int .i64 d → Fr.get φ 2 = .ptr H.length 0 → Fr.get φ 10 = .int .i64 0 → (op = 16 → b.length ≤ 8) →
      M (eval tbl noExt) [.code l_flotsamref16_Stmt_1, .blk 2, .code r_flotsamref16_Stmt_0, .fin [.t 4] H.length] φ (H ++ [some [.int .i64 op, .str s, .int .i64 n, .sl 4 (Ex.rows e), .sl 7 (Sm.rows b), .sl 7 (Sm.rows c), .bool g]]) = some (.bool (txnOk op b && (Sm.oks b (d + 1) && Sm.oks c (d + 1))), H) := by
    intro φ h1 h2 h10 h8
    refine refStmt_txn d op H _ _ _ _ _ b hbn (fun o => o = some (.bool (txnOk op b && (Sm.oks b (d + 1) && Sm.oks c (d + 1))), H)) _ (fun φ' h16 h g => ?_) (fun φ' h g1 g2 => ?_) b.length 0 φ (by omega) (fun _ => rfl) h1 h2 h10
    · subst h16
      simp [txnOk, h, g]
    · rw [refStmt_tail d hd op H _ _ _ _ b c hb hc φ' g1 g2]
      by_cases h16 : op = 16
      · simp [txnOk, h16, h8 h16, h h16]
      · simp [txnOk, h16]
  generalize hL : (Sm.oks b (d + 1) && Sm.oks c (d + 1)) = last at hend ⊢
  simp only [shapeOk, hpo, hE, decide_true, Bool.true_and]
  by_cases h12 : op = 12
  · subst h12
    cases hna : isName s with
    | false =>
      rw [hna] at hN
      simp [r_flotsamref16_Stmt_1, h1, h2, lt_flotsamref15_Name, get0, hbl, hccl, hN, hna]
    | true =>
    rw [hna] at hN
    have hs0 : ¬ s = [] := by rintro rfl; simp [isName] at hna
    by_cases hn1 : n < 0
    · have hn1b : ¬ 0 ≤ n := by omega
      have hn0 : ¬ n = 0 := by omega
      simp [r_flotsamref16_Stmt_1, h1, h2, lt_flotsamref15_Name, get0, hbl, hccl, hN, hna, hs0, hn1, hn1b, hn0]
    have hn1b : 0 ≤ n := by omega
    by_cases hn2 : 16 < n
    · have hn2b : ¬ n ≤ 16 := by omega
      have hn0 : ¬ n = 0 := by omega
      simp [r_flotsamref16_Stmt_1, h1, h2, lt_flotsamref15_Name, get0, hbl, hccl, hN, hna, hs0, hn1, hn1b, hn2, hn2b, hn0]
    have hn2b : n ≤ 16 := by omega
    by_cases hn0 : n = 0
    case neg => simp [r_flotsamref16_Stmt_1, h1, h2, lt_flotsamref15_Name, get0, hbl, hccl, hN, hna, hs0, hn1, hn1b, hn2, hn2b, hn0]
    subst hn0
    cases g with
    | true => simp [r_flotsamref16_Stmt_1, h1, h2, lt_flotsamref15_Name, get0, hbl, hccl, hN, hna, hs0]
    | false =>
    by_cases hb0 : b = []
    case neg =>
      have hb1 : 0 < b.length := List.length_pos_iff.2 hb0
      simp [r_flotsamref16_Stmt_1, h1, h2, lt_flotsamref15_Name, get0, hbl, hccl, hN, hna, hs0, hb0, hb1]
    subst hb0
    by_cases hc0 : c = []
    case neg =>
      have hc1 : 0 < c.length := List.length_pos_iff.2 hc0
      simp [r_flotsamref16_Stmt_1, h1, h2, lt_flotsamref15_Name, get0, hbl, hccl, hN, hna, hs0, hc0, hc1]
    subst hc0
    simp [r_flotsamref16_Stmt_1, h1, h2, lt_flotsamref15_Name, get0, hbl, hccl, hN, hna, hs0]
    exact hend _ (by simp [h1]) (by simp [h2]) (by simp) (fun h => by omega)
  by_cases h13 : op = 13
  · subst h13
    by_cases hs0 : s = []
    case neg => simp [r_flotsamref16_Stmt_1, h1, h2, lt_flotsamref15_Name, get0, hbl, hccl, hs0]
    subst hs0
    by_cases hn1 : n < 0
    · have hn1b : ¬ 0 ≤ n := by omega
      have hn0 : ¬ n = 0 := by omega
      simp [r_flotsamref16_Stmt_1, h1, h2, lt_flotsamref15_Name, get0, hbl, hccl, hn1, hn1b, hn0]
    have hn1b : 0 ≤ n := by omega
    by_cases hn2 : 16 < n
    · have hn2b : ¬ n ≤ 16 := by omega
      have hn0 : ¬ n = 0 := by omega
      simp [r_flotsamref16_Stmt_1, h1, h2, lt_flotsamref15_Name, get0, hbl, hccl, hn1, hn1b, hn2, hn2b, hn0]
    have hn2b : n ≤ 16 := by omega
    by_cases hn0 : n = 0
    case neg => simp [r_flotsamref16_Stmt_1, h1, h2, lt_flotsamref15_Name, get0, hbl, hccl, hn1, hn1b, hn2, hn2b, hn0]
    subst hn0
    cases g with
    | true => simp [r_flotsamref16_Stmt_1, h1, h2, lt_flotsamref15_Name, get0, hbl, hccl, ]
    | false =>
    simp [r_flotsamref16_Stmt_1, h1, h2, lt_flotsamref15_Name, get0, hbl, hccl, ]
    exact hend _ (by simp [h1]) (by simp [h2]) (by simp) (fun h => by omega)
  by_cases h14 : op = 14
  · subst h14
    by_cases hs0 : s = []
    case neg => simp [r_flotsamref16_Stmt_1, h1, h2, lt_flotsamref15_Name, get0, hbl, hccl, hs0]
    subst hs0
    by_cases hn1 : n < 0
    · have hn1b : ¬ 0 ≤ n := by omega
      have hn0 : ¬ n = 0 := by omega
      simp [r_flotsamref16_Stmt_1, h1, h2, lt_flotsamref15_Name, get0, hbl, hccl, hn1, hn1b, hn0]
    have hn1b : 0 ≤ n := by omega
    by_cases hn2 : 16 < n
    · have hn2b : ¬ n ≤ 16 := by omega
      have hn0 : ¬ n = 0 := by omega
      simp [r_flotsamref16_Stmt_1, h1, h2, lt_flotsamref15_Name, get0, hbl, hccl, hn1, hn1b, hn2, hn2b, hn0]
    have hn2b : n ≤ 16 := by omega
    by_cases hn0 : n = 0
    · subst hn0
      cases g with
      | true => simp [r_flotsamref16_Stmt_1, h1, h2, lt_flotsamref15_Name, get0, hbl, hccl, ]
      | false =>
      by_cases hc0 : c = []
      case neg =>
        have hc1 : 0 < c.length := List.length_pos_iff.2 hc0
        simp [r_flotsamref16_Stmt_1, h1, h2, lt_flotsamref15_Name, get0, hbl, hccl, hc0, hc1]
      subst hc0
      simp [r_flotsamref16_Stmt_1, h1, h2, lt_flotsamref15_Name, get0, hbl, hccl, ]
      exact hend _ (by simp [h1]) (by simp [h2]) (by simp) (fun h => by omega)
    cases g with
    | true => simp [r_flotsamref16_Stmt_1, h1, h2, lt_flotsamref15_Name, get0, hbl, hccl, hn1, hn1b, hn2, hn2b, hn0]
    | false =>
    by_cases hc0 : c = []
    case neg =>
      have hc1 : 0 < c.length := List.length_pos_iff.2 hc0
      simp [r_flotsamref16_Stmt_1, h1, h2, lt_flotsamref15_Name, get0, hbl, hccl, hn1, hn1b, hn2, hn2b, hn0, hc0, hc1]
    subst hc0
    simp [r_flotsamref16_Stmt_1, h1, h2, lt_flotsamref15_Name, get0, hbl, hccl, hn1, hn1b, hn2, hn2b, hn0]
    exact hend _ (by simp [h1]) (by simp [h2]) (by simp) (fun h => by omega)
  by_cases h15 : op = 15
  · subst h15
    cases hna : isName s with
    | false =>
      rw [hna] at hN
      simp [r_flotsamref16_Stmt_1, h1, h2, lt_flotsamref15_Name, get0, hbl, hccl, hN, hna]
    | true =>
    rw [hna] at hN
    have hs0 : ¬ s = [] := by rintro rfl; simp [isName] at hna
    by_cases hn1 : n < 0
    · have hn1b : ¬ 0 ≤ n := by omega
      have hn0 : ¬ n = 0 := by omega
      simp [r_flotsamref16_Stmt_1, h1, h2, lt_flotsamref15_Name, get0, hbl, hccl, hN, hna, hs0, hn1, hn1b, hn0]
    have hn1b : 0 ≤ n := by omega
    by_cases hn2 : 16 < n
    · have hn2b : ¬ n ≤ 16 := by omega
      have hn0 : ¬ n = 0 := by omega
      simp [r_flotsamref16_Stmt_1, h1, h2, lt_flotsamref15_Name, get0, hbl, hccl, hN, hna, hs0, hn1, hn1b, hn2, hn2b, hn0]
    have hn2b : n ≤ 16 := by omega
    by_cases hn0 : n = 0
    case neg => simp [r_flotsamref16_Stmt_1, h1, h2, lt_flotsamref15_Name, get0, hbl, hccl, hN, hna, hs0, hn1, hn1b, hn2, hn2b, hn0]
    subst hn0
    cases g with
    | true => simp [r_flotsamref16_Stmt_1, h1, h2, lt_flotsamref15_Name, get0, hbl, hccl, hN, hna, hs0]
    | false =>
    by_cases hb0 : b = []
    case neg =>
      have hb1 : 0 < b.length := List.length_pos_iff.2 hb0
      simp [r_flotsamref16_Stmt_1, h1, h2, lt_flotsamref15_Name, get0, hbl, hccl, hN, hna, hs0, hb0, hb1]
    subst hb0
    by_cases hc0 : c = []
    case neg =>
      have hc1 : 0 < c.length := List.length_pos_iff.2 hc0
      simp [r_flotsamref16_Stmt_1, h1, h2, lt_flotsamref15_Name, get0, hbl, hccl, hN, hna, hs0, hc0, hc1]
    subst hc0
    simp [r_flotsamref16_Stmt_1, h1, h2, lt_flotsamref15_Name, get0, hbl, hccl, hN, hna, hs0]
    exact hend _ (by simp [h1]) (by simp [h2]) (by simp) (fun h => by omega)
  by_cases h16 : op = 16
  · subst h16
    by_cases hs0 : s = []
    case neg => simp [r_flotsamref16_Stmt_1, h1, h2, lt_flotsamref15_Name, get0, hbl, hccl, hs0]
    subst hs0
    by_cases hn1 : n < 0
    · have hn1b : ¬ 0 ≤ n := by omega
      have hn0 : ¬ n = 0 := by omega
      simp [r_flotsamref16_Stmt_1, h1, h2, lt_flotsamref15_Name, get0, hbl, hccl, hn1, hn1b, hn0]
    have hn1b : 0 ≤ n := by omega
    by_cases hn2 : 16 < n
    · have hn2b : ¬ n ≤ 16 := by omega
      have hn0 : ¬ n = 0 := by omega
      simp [r_flotsamref16_Stmt_1, h1, h2, lt_flotsamref15_Name, get0, hbl, hccl, hn1, hn1b, hn2, hn2b, hn0]
    have hn2b : n ≤ 16 := by omega
    by_cases hn0 : n = 0
    case neg => simp [r_flotsamref16_Stmt_1, h1, h2, lt_flotsamref15_Name, get0, hbl, hccl, hn1, hn1b, hn2, hn2b, hn0]
    subst hn0
    cases g with
    | true =>
      by_cases hc0 : c = []
      case neg =>
        have hc1 : 0 < c.length := List.length_pos_iff.2 hc0
        simp [r_flotsamref16_Stmt_1, h1, h2, lt_flotsamref15_Name, get0, hbl, hccl, hc0, hc1]
      subst hc0
      by_cases hb8 : b.length ≤ 8
      case neg =>
        have hb8' : (8 : Int) < b.length := by omega
        simp [r_flotsamref16_Stmt_1, h1, h2, lt_flotsamref15_Name, get0, hbl, hccl, hb8, hb8', txnOk]
      have hb8' : ¬ (8 : Int) < b.length := by omega
      simp [r_flotsamref16_Stmt_1, h1, h2, lt_flotsamref15_Name, get0, hbl, hccl, hb8, hb8']
      exact hend _ (by simp [h1]) (by simp [h2]) (by simp) (fun _ => hb8)
    | false =>
      by_cases hc0 : c = []
      case neg =>
        have hc1 : 0 < c.length := List.length_pos_iff.2 hc0
        simp [r_flotsamref16_Stmt_1, h1, h2, lt_flotsamref15_Name, get0, hbl, hccl, hc0, hc1]
      subst hc0
      by_cases hb8 : b.length ≤ 8
      case neg =>
        have hb8' : (8 : Int) < b.length := by omega
        simp [r_flotsamref16_Stmt_1, h1, h2, lt_flotsamref15_Name, get0, hbl, hccl, hb8, hb8', txnOk]
      have hb8' : ¬ (8 : Int) < b.length := by omega
      simp [r_flotsamref16_Stmt_1, h1, h2, lt_flotsamref15_Name, get0, hbl, hccl, hb8, hb8']
      exact hend _ (by simp [h1]) (by simp [h2]) (by simp) (fun _ => hb8)
  by_cases hs0 : s = []
  case neg => simp [r_flotsamref16_Stmt_1, h1, h2, lt_flotsamref15_Name, get0, hbl, hccl, h12, h13, h14, h15, h16, hs0]
  subst hs0
  by_cases hn1 : n < 0
  · have hn1b : ¬ 0 ≤ n := by omega
    have hn0 : ¬ n = 0 := by omega
    simp [r_flotsamref16_Stmt_1, h1, h2, lt_flotsamref15_Name, get0, hbl, hccl, h12, h13, h14, h15, h16, hn1, hn1b, hn0]
  have hn1b : 0 ≤ n := by omega
  by_cases hn2 : 16 < n
  · have hn2b : ¬ n ≤ 16 := by omega
    have hn0 : ¬ n = 0 := by omega
    simp [r_flotsamref16_Stmt_1, h1, h2, lt_flotsamref15_Name, get0, hbl, hccl, h12, h13, h14, h15, h16, hn1, hn1b, hn2, hn2b, hn0]
  have hn2b : n ≤ 16 := by omega
  by_cases hn0 : n = 0
  case neg => simp [r_flotsamref16_Stmt_1, h1, h2, lt_flotsamref15_Name, get0, hbl, hccl, h12, h13, h14, h15, h16, hn1, hn1b, hn2, hn2b, hn0]
  subst hn0
  cases g with
  | true => simp [r_flotsamref16_Stmt_1, h1, h2, lt_flotsamref15_Name, get0, hbl, hccl, h12, h13, h14, h15, h16]
  | false =>
  by_cases hb0 : b = []
  case neg =>
    have hb1 : 0 < b.length := List.length_pos_iff.2 hb0
    simp [r_flotsamref16_Stmt_1, h1, h2, lt_flotsamref15_Name, get0, hbl, hccl, h12, h13, h14, h15, h16, hb0, hb1]
  subst hb0
  by_cases hc0 : c = []
  case neg =>
    have hc1 : 0 < c.length := List.length_pos_iff.2 hc0
    simp [r_flotsamref16_Stmt_1, h1, h2, lt_flotsamref15_Name, get0, hbl, hccl, h12, h13, h14, h15, h16, hc0, hc1]
  subst hc0
  simp [r_flotsamref16_Stmt_1, h1, h2, lt_flotsamref15_Name, get0, hbl, hccl, h12, h13, h14, h15, h16]
  exact hend _ (by simp [h1]) (by simp [h2]) (by simp) (fun h => by omega)

theorem refStmt_step (d : Nat) (hd : d ≤ 900) (op n : Int) (s : List UInt8) (x : List Ex) (b c : List Sm) (g : Bool) (hs : s.length ≤ 300) (hl : x.length ≤ 1000) (hbl : b.length ≤ 1000) (hx : ∀ e ∈ x, RxOK 8 e) (hb : RbOK (d + 1) b) (hc : RbOK (d + 1) c) : RsOK d (.mk op s n x b c g) := by
  intro H
  have hP := refExprs_eq op
  have hcl : (Ex.rows x).length = x.length := by rw [Ex.rows_eq]; simp
  simp only [Sm.cells, Sm.ok]
  rw [eval_M rfl rfl t_flotsamref16_Stmt rfl]
  cases hpo : exprs op with
  | none =>
    rw [hpo] at hP
    simp [c_flotsamref16_Stmt, hP, tup, lt_flotsamref16_Exprs, get0, shapeOk, hpo]
  | some k =>
  rw [hpo] at hP
  by_cases h8 : d ≤ 8
  case neg =>
    have h8' : (8 : Int) < d := by omega
    simp [c_flotsamref16_Stmt, hP, tup, lt_flotsamref16_Exprs, get0, h8, h8']
  have h8' : ¬ (8 : Int) < d := by omega
  by_cases hk : x.length = k
  case neg =>
    have hk' : ¬ (x.length : Int) = k := by omega
    simp [c_flotsamref16_Stmt, hP, tup, lt_flotsamref16_Exprs, get0, h8, h8', hcl, hk, hk', shapeOk, hpo]
  subst hk
  generalize hR : (decide (d ≤ 8) && (shapeOk op s n x b c g && (txnOk op b && (Sm.oks b (d + 1) && Sm.oks c (d + 1))))) = R
  simp only [h8, decide_true, Bool.true_and] at hR
  simp [c_flotsamref16_Stmt, hP, tup, lt_flotsamref16_Exprs, get0, h8', hcl]
  refine refStmt_exprs d H _ _ _ _ _ _ x hl hx (fun o => o = some (.bool R, H)) _ (fun φ' h g => ?_) (fun φ' h g1 g2 => ?_) x.length 0 _ (by omega) rfl (by simp) (by simp) (by simp) (by simp)
  · have : R = false := by rw [← hR]; simp [shapeOk, hpo, h]
    rw [this]; simp [g]
  · rw [← hR]
    exact refStmt_mid d hd op n s x b c g hs hbl h hpo H hb hc φ' g1 g2

theorem exs_both {n : Nat} (hn : n ≤ 1000) {x : List Ex} (hx : Ex.sizes x ≤ n) (ht : Ex.txts x) : ∀ e ∈ x, ExOK 8 e ∧ RxOK 8 e := by
  intro e he
  have hm := Ex.sizes_mem he
  refine expr_both n e (by omega) hn ?_ 8 (by omega)
  induction x with
  | nil => simp at he
  | cons y l ih =>
    rcases List.mem_cons.1 he with rfl | he
    · exact ht.1
    · exact ih (by simp only [Ex.sizes] at hx; omega) ht.2 he (Ex.sizes_mem he)

theorem stmt_both : ∀ (n : Nat) (l : List Sm), Sm.sizes l ≤ n → n ≤ 900 → Sm.txts l → ∀ d, d + n ≤ 900 → BlOK d l ∧ RbOK d l := by
  intro n
  induction n with
  | zero =>
    intro l h hn ht d hd
    have : l = [] := by
      cases l with
      | nil => rfl
      | cons e l => cases e; simp only [Sm.sizes, Sm.size] at h; omega
    subst this
    exact ⟨block_step_ok d (by omega) [] (by simp) (by simp), refBlock_step d (by omega) [] (by simp) (by simp)⟩
  | succ n ih =>
    intro l h hn ht d hd
    have hll := Sm.sizes_ge l
    have hall : ∀ e ∈ l, StOK d e ∧ RsOK d e := by
      intro e he
      have hm := Sm.sizes_mem he
      have het : e.txt := by
        clear h hll hm
        induction l with
        | nil => simp at he
        | cons y l ih2 =>
          rcases List.mem_cons.1 he with rfl | he
          · exact ht.1
          · exact ih2 ht.2 he
      obtain ⟨op, s, m, x, b, c, g⟩ := e
      simp only [Sm.size] at hm
      simp only [Sm.txt] at het
      have hbl := Sm.sizes_ge b
      have hxl := Ex.sizes_ge x
      have hx := exs_both (n := 900) (by omega) (x := x) (by omega) het.2.1
      have hb := ih b (by omega) (by omega) het.2.2.1 (d + 1) (by omega)
      have hc := ih c (by omega) (by omega) het.2.2.2 (d + 1) (by omega)
      exact ⟨stmt_step_ok d (by omega) op m s x b c g het.1 (by omega) (by omega) (fun e he => (hx e he).1) hb.1 hc.1, refStmt_step d (by omega) op m s x b c g het.1 (by omega) (by omega) (fun e he => (hx e he).2) hb.2 hc.2⟩
    exact ⟨block_step_ok d (by omega) l (by omega) (fun e he => (hall e he).1), refBlock_step d (by omega) l (by omega) (fun e he => (hall e he).2)⟩

end Go.AM.Spec
