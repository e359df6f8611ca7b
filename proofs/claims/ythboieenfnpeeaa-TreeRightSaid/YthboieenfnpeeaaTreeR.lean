/-
  Which expressions, statements and programs are right: what the program's and the document's functions answer.
-/
import Derived.Test.YthboieenfnpeeaaTreeD
import Derived.Test.YthboieenfnpeeaaLexA
import Derived.Test.YthboieenfnpeeaaCont
namespace Go.AM.Spec
set_option linter.unusedVariables false
set_option linter.unusedSimpArgs false
set_option maxHeartbeats 4000000
set_option maxRecDepth 10000

/-- How many parts an expression of a kind has. -/
def parts (op : Int) : Option Nat := if op < 1 then none else if 14 < op then none else if op ≤ 4 then some 0 else if op ≤ 8 then some 1 else some 2
/-- How many expressions a statement of a kind has. -/
def exprs (op : Int) : Option Nat :=
  if op = 11 then some 0 else if op = 14 then some 0 else if op = 15 then some 0 else if op = 4 then some 2 else if op = 5 then some 2 else if op = 6 then some 2 else if op = 3 then some 3 else if op < 1 then none else if 18 < op then none else some 1

def tup (o : Option Nat) : V := .tup [.int .i64 (o.getD 0), .bool o.isSome]

theorem Parts_eq (op : Int) (H : Heap) : eval tbl noExt n_tree_Parts [.int .i64 op] H = some (tup (parts op), H) := by
  rw [eval_M rfl rfl t_tree_Parts rfl]
  by_cases h1 : op < 1
  · simp [c_tree_Parts, h1, parts, tup]
  by_cases h2 : 14 < op
  · simp [c_tree_Parts, h1, h2, parts, tup]
  by_cases h3 : op ≤ 4
  · simp [c_tree_Parts, h1, h2, h3, parts, tup]
  by_cases h4 : op ≤ 8
  · simp [c_tree_Parts, h1, h2, h3, h4, parts, tup]
  · simp [c_tree_Parts, h1, h2, h3, h4, parts, tup]

theorem refParts_eq (op : Int) (H : Heap) : eval tbl noExt n_flotsamref16_Parts [.int .i64 op] H = some (tup (parts op), H) := by
  rw [eval_M rfl rfl t_flotsamref16_Parts rfl]
  by_cases h1 : op < 1
  · simp [c_flotsamref16_Parts, h1, parts, tup]
  by_cases h2 : 14 < op
  · simp [c_flotsamref16_Parts, h1, h2, parts, tup]
  by_cases h3 : op ≤ 4
  · simp [c_flotsamref16_Parts, h1, h2, h3, parts, tup]
  by_cases h4 : op ≤ 8
  · simp [c_flotsamref16_Parts, h1, h2, h3, h4, parts, tup]
  · simp [c_flotsamref16_Parts, h1, h2, h3, h4, parts, tup]

theorem Exprs_eq (op : Int) (H : Heap) : eval tbl noExt n_tree_Exprs [.int .i64 op] H = some (tup (exprs op), H) := by
  rw [eval_M rfl rfl t_tree_Exprs rfl]
  by_cases h1 : op = 11
  · simp [c_tree_Exprs, h1, exprs, tup]
  by_cases h2 : op = 14
  · simp [c_tree_Exprs, h1, h2, exprs, tup]
  by_cases h3 : op = 15
  · simp [c_tree_Exprs, h1, h2, h3, exprs, tup]
  by_cases h4 : op = 4
  · simp [c_tree_Exprs, h1, h2, h3, h4, exprs, tup]
  by_cases h5 : op = 5
  · simp [c_tree_Exprs, h1, h2, h3, h4, h5, exprs, tup]
  by_cases h6 : op = 6
  · simp [c_tree_Exprs, h1, h2, h3, h4, h5, h6, exprs, tup]
  by_cases h7 : op = 3
  · simp [c_tree_Exprs, h1, h2, h3, h4, h5, h6, h7, exprs, tup]
  by_cases h8 : op < 1
  · simp [c_tree_Exprs, h1, h2, h3, h4, h5, h6, h7, h8, exprs, tup]
  by_cases h9 : 18 < op
  · simp [c_tree_Exprs, h1, h2, h3, h4, h5, h6, h7, h8, h9, exprs, tup]
  · simp [c_tree_Exprs, h1, h2, h3, h4, h5, h6, h7, h8, h9, exprs, tup]

theorem refExprs_eq (op : Int) (H : Heap) : eval tbl noExt n_flotsamref16_Exprs [.int .i64 op] H = some (tup (exprs op), H) := by
  rw [eval_M rfl rfl t_flotsamref16_Exprs rfl]
  by_cases h1 : op < 1
  · have : exprs op = none := by unfold exprs; rw [if_neg (by omega), if_neg (by omega), if_neg (by omega), if_neg (by omega), if_neg (by omega), if_neg (by omega), if_neg (by omega), if_pos h1]
    simp [c_flotsamref16_Exprs, h1, this, tup]
  by_cases h2 : 18 < op
  · have : exprs op = none := by unfold exprs; rw [if_neg (by omega), if_neg (by omega), if_neg (by omega), if_neg (by omega), if_neg (by omega), if_neg (by omega), if_neg (by omega), if_neg (by omega), if_pos h2]
    simp [c_flotsamref16_Exprs, h1, h2, this, tup]
  · have hop : op = 1 ∨ op = 2 ∨ op = 3 ∨ op = 4 ∨ op = 5 ∨ op = 6 ∨ op = 7 ∨ op = 8 ∨ op = 9 ∨ op = 10 ∨ op = 11 ∨ op = 12 ∨ op = 13 ∨ op = 14 ∨ op = 15 ∨ op = 16 ∨ op = 17 ∨ op = 18 := by omega
    rcases hop with rfl | rfl | rfl | rfl | rfl | rfl | rfl | rfl | rfl | rfl | rfl | rfl | rfl | rfl | rfl | rfl | rfl | rfl <;> simp [c_flotsamref16_Exprs, exprs, tup, w64]

/-- May an expression of a kind have that number, and that text? -/
def leafOk (op n : Int) (s : List UInt8) : Bool :=
  if op = 1 then decide (0 ≤ n) && decide (n ≤ 1000000000000) && decide (s = [])
  else if op = 3 then decide (n = 0 ∨ n = 1) && decide (s = [])
  else if op = 2 then decide (s.length ≤ 64) && decide (n = 0)
  else if op = 4 then isName s && decide (n = 0)
  else decide (s = []) && decide (n = 0)

mutual
/-- Is an expression right, and at most so deep? -/
def Ex.ok : Ex → Nat → Bool
  | .mk op n s x, d => match parts op with
    | none => false
    | some k => decide (d ≠ 0) && decide (x.length = k) && leafOk op n s && Ex.oks x (d - 1)
def Ex.oks : List Ex → Nat → Bool
  | [], _ => true
  | e :: l, d => e.ok d && Ex.oks l d
end

theorem Ex.oks_all (l : List Ex) (d : Nat) : Ex.oks l d = l.all fun e => e.ok d := by
  induction l with
  | nil => simp [Ex.oks]
  | cons e l ih => simp [Ex.oks, ih]
theorem any_not {α : Type} (l : List α) (p : α → Bool) : (l.any fun e => !p e) = !(l.all p) := by
  induction l with
  | nil => rfl
  | cons e l ih => simp [ih, Bool.not_and]

theorem Ex.strips (e : Ex) : e.cells.length = 4 ∧ allStrip e.cells = e.cells := by cases e; simp [Ex.cells]
theorem Sm.strips (e : Sm) : e.cells.length = 7 ∧ allStrip e.cells = e.cells := by cases e; simp [Sm.cells]

theorem shr_zero (n : Int) : n.fdiv (2 ^ min 1 IntKind.i64.bits) = 0 ↔ n = 0 ∨ n = 1 := by
  have : (2 : Int) ^ min 1 IntKind.i64.bits = 2 := by decide
  rw [this, Int.fdiv_eq_ediv_of_nonneg _ (by omega)]; omega

/-- What an expression's parts are asked. -/
def ExOK (d : Nat) (e : Ex) : Prop := ∀ H, eval tbl noExt n_tree_expr [.agg e.cells, .int .i64 d] H = some (.bool (e.ok d), H)

theorem expr_1_eq (d : Nat) (hd : d ≤ 1000) (e : Ex) (he : ExOK d e) (K : Heap) (j : Nat) (hK : K[j]? = some (some [.int .i64 ((d + 1 : Nat) : Int)])) (hj : j < K.length) :
    eval tbl noExt n_tree_expr_1 [.agg e.cells, .ptr j 0] K = some (.bool (!e.ok d), K) := by
  have hw : IntKind.i64.wrap (d : Int) = d := w64 (by omega) (by omega)
  have hK2 : ∀ r, (K ++ r)[j]? = some (some [.int .i64 ((d + 1 : Nat) : Int)]) := fun r => by rw [List.getElem?_append_left hj]; exact hK
  have he0 := he []
  obtain ⟨op, n, s, x⟩ := e
  simp only [Ex.cells] at he0 ⊢
  rw [eval_M rfl rfl t_tree_expr_1 rfl]
  simp [c_tree_expr_1, get0, hK2, hw, he0, lt_tree_expr]

theorem expr_conts (d : Nat) (hd : d ≤ 1000) (x : List Ex) (hl : x.length ≤ 1000) (hx : ∀ e ∈ x, ExOK d e) (K : Heap) (j : Nat) (hK : K[j]? = some (some [.int .i64 ((d + 1 : Nat) : Int)])) (hj : j < K.length) :
    eval tbl noExt n_slices_ContainsFunc_api_Expr_api_Expr [.sl 4 (Ex.rows x), .fn (.func n_tree_expr_1) [] [.ptr j 0]] K = some (.bool (!Ex.oks x d), K) := by
  rw [Ex.rows_eq, Ex.oks_all, ← any_not]
  exact ContainsFunc_api_Expr_api_Expr (first := []) lt_tree_expr_1 Ex.cells x (by omega) (fun e => !e.ok d) K (fun e _ => Ex.strips e) (fun e he => expr_1_eq d hd e (hx e he) K j hK hj)

set_option maxHeartbeats 8000000 in
theorem expr_step (d : Nat) (hd : d ≤ 1000) (op n : Int) (s : List UInt8) (x : List Ex) (hs : s.length ≤ 300) (hl : x.length ≤ 1000) (hx : ∀ d', d = d' + 1 → ∀ e ∈ x, ExOK d' e) : ExOK d (.mk op n s x) := by
  intro H
  have hP := Parts_eq op
  have hN := Name_eq s (by omega)
  have hcl : (Ex.rows x).length = x.length := by rw [Ex.rows_eq]; simp
  simp only [Ex.ok, Ex.cells]
  rw [eval_M rfl rfl t_tree_expr rfl]
  cases hpo : parts op with
  | none =>
    rw [hpo] at hP
    simp [c_tree_expr, hP, tup, lt_tree_Parts, get0, get1]
  | some k =>
  rw [hpo] at hP
  cases d with
  | zero => simp [c_tree_expr, hP, tup, lt_tree_Parts, get0, get1]
  | succ d =>
  have hd0 : ¬ ((d : Int) + 1 = 0) := by omega
  by_cases hk : x.length = k
  · have hk' : (x.length : Int) = k := by omega
    have hc := fun K j => expr_conts d (by omega) x hl (hx d rfl) K j
    have hc' : ∀ A B, eval tbl noExt n_slices_ContainsFunc_api_Expr_api_Expr [.sl 4 (Ex.rows x), .fn (.func n_tree_expr_1) [] [.ptr (H.length + 1) 0]] (H ++ [A, some [.int .i64 ((d : Int) + 1)], B]) = some (.bool (!Ex.oks x d), H ++ [A, some [.int .i64 ((d : Int) + 1)], B]) :=
      fun A B => hc _ _ (by rw [get1]; simp) (by simp)
    subst hk
    by_cases h1 : op = 1
    · subst h1
      by_cases a1 : 0 ≤ n
      · by_cases a2 : n ≤ 1000000000000
        · by_cases a3 : s = []
          · simp [c_tree_expr, hP, tup, lt_tree_Parts, get0, get1, hd0, hcl, a1, a2, a3, leafOk, hc', lt_slices_ContainsFunc_api_Expr_api_Expr]
          · simp [c_tree_expr, hP, tup, lt_tree_Parts, get0, get1, hd0, hcl, a1, a2, a3, leafOk]
        · simp [c_tree_expr, hP, tup, lt_tree_Parts, get0, get1, hd0, hcl, a1, a2, leafOk]
      · simp [c_tree_expr, hP, tup, lt_tree_Parts, get0, get1, hd0, hcl, a1, leafOk]
    by_cases h3 : op = 3
    · subst h3
      by_cases a1 : n = 0 ∨ n = 1
      · by_cases a3 : s = []
        · simp [c_tree_expr, hP, tup, lt_tree_Parts, get0, get1, hd0, hcl, leafOk, shr_zero, a1, a3, hc', lt_slices_ContainsFunc_api_Expr_api_Expr]
        · simp [c_tree_expr, hP, tup, lt_tree_Parts, get0, get1, hd0, hcl, leafOk, shr_zero, a1, a3]
      · simp [c_tree_expr, hP, tup, lt_tree_Parts, get0, get1, hd0, hcl, leafOk, shr_zero, a1]
    by_cases h2 : op = 2
    · subst h2
      by_cases a1 : s.length ≤ 64
      · have a1' : (s.length : Int) ≤ 64 := by omega
        by_cases a3 : n = 0
        · simp [c_tree_expr, hP, tup, lt_tree_Parts, get0, get1, hd0, hcl, leafOk, shr_zero, a1, a1', a3, hc', lt_slices_ContainsFunc_api_Expr_api_Expr]
        · simp [c_tree_expr, hP, tup, lt_tree_Parts, get0, get1, hd0, hcl, leafOk, shr_zero, a1, a1', a3]
      · have a1' : ¬ (s.length : Int) ≤ 64 := by omega
        simp [c_tree_expr, hP, tup, lt_tree_Parts, get0, get1, hd0, hcl, leafOk, shr_zero, a1, a1']
    by_cases h4 : op = 4
    · subst h4
      cases a1 : isName s with
      | true =>
        rw [a1] at hN
        by_cases a3 : n = 0
        · simp [c_tree_expr, hP, tup, lt_tree_Parts, get0, get1, hd0, hcl, leafOk, shr_zero, hN, lt_lex_Name, a1, a3, hc', lt_slices_ContainsFunc_api_Expr_api_Expr]
        · simp [c_tree_expr, hP, tup, lt_tree_Parts, get0, get1, hd0, hcl, leafOk, shr_zero, hN, lt_lex_Name, a1, a3]
      | false =>
        rw [a1] at hN
        simp [c_tree_expr, hP, tup, lt_tree_Parts, get0, get1, hd0, hcl, leafOk, shr_zero, hN, lt_lex_Name, a1]
    by_cases a1 : s = []
    · by_cases a3 : n = 0
      · simp [c_tree_expr, hP, tup, lt_tree_Parts, get0, get1, hd0, hcl, leafOk, shr_zero, h1, h2, h3, h4, a1, a3, hc', lt_slices_ContainsFunc_api_Expr_api_Expr]
      · simp [c_tree_expr, hP, tup, lt_tree_Parts, get0, get1, hd0, hcl, leafOk, shr_zero, h1, h2, h3, h4, a1, a3]
    · simp [c_tree_expr, hP, tup, lt_tree_Parts, get0, get1, hd0, hcl, leafOk, shr_zero, h1, h2, h3, h4, a1]
  · have hk' : ¬ (x.length : Int) = k := by omega
    simp [c_tree_expr, hP, tup, lt_tree_Parts, get0, get1, hd0, hcl, hk, hk']

end Go.AM.Spec
