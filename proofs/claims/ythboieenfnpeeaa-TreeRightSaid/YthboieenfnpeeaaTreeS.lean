/-
  Which expressions are right: what the document's function answers.
-/
import Derived.Test.YthboieenfnpeeaaTreeR
namespace Go.AM.Spec
set_option linter.unusedVariables false
set_option linter.unusedSimpArgs false
set_option maxHeartbeats 4000000
set_option maxRecDepth 10000

/-- What an expression's parts are asked, of the document's function. -/
def RxOK (d : Nat) (e : Ex) : Prop := ∀ H, eval tbl noExt n_flotsamref16_Expr [.agg e.cells, .int .i64 d] H = some (.bool (e.ok d), H)

theorem refExpr_loop (d : Nat) (hd : d ≤ 1000) (H : Heap) (a0 a1 a2 : V) (x : List Ex) (hl : x.length ≤ 1000) (hx : ∀ e ∈ x, RxOK d e) (Q : Option (V × Heap) → Prop) (k : List Item)
    (hret : ∀ φ', Ex.oks x d = false → Fr.get φ' 4 = .bool false → Q (retK k φ' (H ++ [some [a0, a1, a2, .sl 4 (Ex.rows x)]])))
    (hexit : ∀ φ', Ex.oks x d = true → Q (M (eval tbl noExt) k φ' (H ++ [some [a0, a1, a2, .sl 4 (Ex.rows x)]]))) :
    ∀ (j i : Nat) (φ : Fr), i + j = x.length → Ex.oks x d = Ex.oks (x.drop i) d → Fr.get φ 1 = .int .i64 ((d : Int) + 1) → Fr.get φ 2 = .ptr H.length 0 → Fr.get φ 5 = .int .i64 x.length → Fr.get φ 7 = .int .i64 i →
      Q (M (eval tbl noExt) (.code l_flotsamref16_Expr_0 :: .blk 0 :: k) φ (H ++ [some [a0, a1, a2, .sl 4 (Ex.rows x)]])) := by
  have hcl : (Ex.rows x).length = x.length := by rw [Ex.rows_eq]; simp
  intro j
  induction j with
  | zero =>
    intro i φ hj hs h1 h2 h5 h7
    have hi : ¬ ((i : Int) < x.length) := by omega
    rw [List.drop_of_length_le (by omega)] at hs
    rw [l_flotsamref16_Expr_0, M_loop, ← l_flotsamref16_Expr_0]
    simp [b_flotsamref16_Expr_0, h1, h2, h5, h7, hi]
    exact hexit _ (by rw [hs]; simp [Ex.oks])
  | succ j ih =>
    intro i φ hj hs h1 h2 h5 h7
    have hi : (i : Int) < x.length := by omega
    have hil : i < x.length := by omega
    obtain ⟨e, he, hmem, hdr⟩ : ∃ e, x[i]? = some e ∧ e ∈ x ∧ x.drop i = e :: x.drop (i + 1) := ⟨x[i], List.getElem?_eq_getElem hil, List.getElem_mem hil, List.drop_eq_getElem_cons hil⟩
    have hrow : (Ex.rows x)[i]? = some e.cells := by rw [Ex.rows_eq, List.getElem?_map, he]; rfl
    have hw1 : IntKind.i64.wrap ((i : Int) + 1) = ((i + 1 : Nat) : Int) := by rw [w64 (by omega) (by omega)]; rfl
    have hw : IntKind.i64.wrap (d : Int) = d := w64 (by omega) (by omega)
    rw [hdr, Ex.oks] at hs
    have hcall := hx e hmem []
    rw [l_flotsamref16_Expr_0, M_loop, ← l_flotsamref16_Expr_0]
    cases hb : e.ok d with
    | false =>
      rw [hb, Bool.false_and] at hs
      rw [hb] at hcall
      obtain ⟨op, m, s, y⟩ := e
      simp only [Ex.cells] at hrow hcall
      simp [b_flotsamref16_Expr_0, h1, h2, h5, h7, hi, hcl, hrow, get0, hw, hcall, lt_flotsamref16_Expr]
      exact hret _ hs (by simp)
    | true =>
      rw [hb, Bool.true_and] at hs
      rw [hb] at hcall
      obtain ⟨op, m, s, y⟩ := e
      simp only [Ex.cells] at hrow hcall
      simp [b_flotsamref16_Expr_0, h1, h2, h5, h7, hi, hcl, hrow, get0, hw, hcall, lt_flotsamref16_Expr, hw1]
      exact ih (i + 1) _ (by omega) hs (by simp [h1]) (by simp [h2]) (by simp [h5]) (by simp)

set_option maxHeartbeats 8000000 in
theorem refExpr_step (d : Nat) (hd : d ≤ 1000) (op n : Int) (s : List UInt8) (x : List Ex) (hs : s.length ≤ 300) (hl : x.length ≤ 1000) (hx : ∀ d', d = d' + 1 → ∀ e ∈ x, RxOK d' e) : RxOK d (.mk op n s x) := by
  intro H
  have hP := refParts_eq op
  have hN := refName_eq s (by omega)
  have hcl : (Ex.rows x).length = x.length := by rw [Ex.rows_eq]; simp
  simp only [Ex.ok, Ex.cells]
  rw [eval_M rfl rfl t_flotsamref16_Expr rfl]
  cases hpo : parts op with
  | none =>
    rw [hpo] at hP
    simp [c_flotsamref16_Expr, hP, tup, lt_flotsamref16_Parts, get0]
  | some k =>
  rw [hpo] at hP
  cases d with
  | zero => simp [c_flotsamref16_Expr, hP, tup, lt_flotsamref16_Parts, get0]
  | succ d =>
  have hd0 : ¬ ((d : Int) + 1 < 1) := by omega
  by_cases hk : x.length = k
  · have hk' : (x.length : Int) = k := by omega
    subst hk
    have hc' : ∀ φ a0 a1 a2, Fr.get φ 1 = .int .i64 ((d : Int) + 1) → Fr.get φ 2 = .ptr H.length 0 → Fr.get φ 5 = .int .i64 x.length → Fr.get φ 7 = .int .i64 0 →
        M (eval tbl noExt) [.code l_flotsamref16_Expr_0, .blk 0, .code r_flotsamref16_Expr_0, .fin [.t 4] H.length] φ (H ++ [some [a0, a1, a2, .sl 4 (Ex.rows x)]]) = some (.bool (Ex.oks x d), H) := by
      intro φ a0 a1 a2 h1 h2 h5 h7
      refine refExpr_loop d (by omega) H a0 a1 a2 x hl (hx d rfl) (fun o => o = some (.bool (Ex.oks x d), H)) _ (fun φ' h g => ?_) (fun φ' h => ?_) x.length 0 φ (by omega) rfl h1 h2 h5 h7
      · rw [h]; simp [g]
      · rw [h]; simp [r_flotsamref16_Expr_0]
    by_cases h1 : op = 1
    · subst h1
      by_cases a1 : n < 0
      · have a1' : ¬ 0 ≤ n := by omega
        simp [c_flotsamref16_Expr, hP, tup, lt_flotsamref16_Parts, get0, hd0, hcl, leafOk, a1, a1']
      · have a1' : 0 ≤ n := by omega
        by_cases a2 : 1000000000000 < n
        · have a2' : ¬ n ≤ 1000000000000 := by omega
          simp [c_flotsamref16_Expr, hP, tup, lt_flotsamref16_Parts, get0, hd0, hcl, leafOk, a1, a1', a2, a2']
        · have a2' : n ≤ 1000000000000 := by omega
          by_cases a3 : s = []
          · simp [c_flotsamref16_Expr, hP, tup, lt_flotsamref16_Parts, get0, hd0, hcl, leafOk, a1, a1', a2, a2', a3]
            exact hc' _ _ _ _ (by simp) (by simp) (by simp) (by simp)
          · simp [c_flotsamref16_Expr, hP, tup, lt_flotsamref16_Parts, get0, hd0, hcl, leafOk, a1, a1', a2, a2', a3]
    by_cases h3 : op = 3
    · subst h3
      by_cases a1 : n = 0
      · by_cases a3 : s = []
        · simp [c_flotsamref16_Expr, hP, tup, lt_flotsamref16_Parts, get0, hd0, hcl, leafOk, a1, a3]
          exact hc' _ _ _ _ (by simp) (by simp) (by simp) (by simp)
        · simp [c_flotsamref16_Expr, hP, tup, lt_flotsamref16_Parts, get0, hd0, hcl, leafOk, a1, a3]
      by_cases a2 : n = 1
      · by_cases a3 : s = []
        · simp [c_flotsamref16_Expr, hP, tup, lt_flotsamref16_Parts, get0, hd0, hcl, leafOk, a1, a2, a3]
          exact hc' _ _ _ _ (by simp) (by simp) (by simp) (by simp)
        · simp [c_flotsamref16_Expr, hP, tup, lt_flotsamref16_Parts, get0, hd0, hcl, leafOk, a1, a2, a3]
      · simp [c_flotsamref16_Expr, hP, tup, lt_flotsamref16_Parts, get0, hd0, hcl, leafOk, a1, a2]
    by_cases a3 : n = 0
    · by_cases h2 : op = 2
      · subst h2
        by_cases a1 : s.length ≤ 64
        · have a1' : ¬ (64 : Int) < s.length := by omega
          simp [c_flotsamref16_Expr, hP, tup, lt_flotsamref16_Parts, get0, hd0, hcl, leafOk, a1, a1', a3]
          exact hc' _ _ _ _ (by simp) (by simp) (by simp) (by simp)
        · have a1' : (64 : Int) < s.length := by omega
          simp [c_flotsamref16_Expr, hP, tup, lt_flotsamref16_Parts, get0, hd0, hcl, leafOk, a1, a1', a3]
      by_cases h4 : op = 4
      · subst h4
        cases a1 : isName s with
        | true =>
          rw [a1] at hN
          simp [c_flotsamref16_Expr, hP, tup, lt_flotsamref16_Parts, get0, hd0, hcl, leafOk, hN, lt_flotsamref15_Name, a1, a3]
          exact hc' _ _ _ _ (by simp) (by simp) (by simp) (by simp)
        | false =>
          rw [a1] at hN
          simp [c_flotsamref16_Expr, hP, tup, lt_flotsamref16_Parts, get0, hd0, hcl, leafOk, hN, lt_flotsamref15_Name, a1, a3]
      by_cases a1 : s = []
      · simp [c_flotsamref16_Expr, hP, tup, lt_flotsamref16_Parts, get0, hd0, hcl, leafOk, h1, h2, h3, h4, a1, a3]
        exact hc' _ _ _ _ (by simp) (by simp) (by simp) (by simp)
      · simp [c_flotsamref16_Expr, hP, tup, lt_flotsamref16_Parts, get0, hd0, hcl, leafOk, h1, h2, h3, h4, a1, a3]
    · by_cases h2 : op = 2
      · subst h2
        simp [c_flotsamref16_Expr, hP, tup, lt_flotsamref16_Parts, get0, hd0, hcl, leafOk, a3]
      by_cases h4 : op = 4
      · subst h4
        simp [c_flotsamref16_Expr, hP, tup, lt_flotsamref16_Parts, get0, hd0, hcl, leafOk, a3]
      simp [c_flotsamref16_Expr, hP, tup, lt_flotsamref16_Parts, get0, hd0, hcl, leafOk, h1, h2, h3, h4, a3]
  · have hk' : ¬ (x.length : Int) = k := by omega
    simp [c_flotsamref16_Expr, hP, tup, lt_flotsamref16_Parts, get0, hd0, hcl, hk, hk']

theorem expr_both : ∀ (n : Nat) (e : Ex), e.size ≤ n → n ≤ 1000 → e.txt → ∀ d, d ≤ 1000 → ExOK d e ∧ RxOK d e := by
  intro n
  induction n with
  | zero => intro e h; cases e; simp only [Ex.size] at h; omega
  | succ n ih =>
    intro e h hn ht d hd
    obtain ⟨op, m, s, x⟩ := e
    simp only [Ex.size] at h
    simp only [Ex.txt] at ht
    have hl := Ex.sizes_ge x
    have hx : ∀ e ∈ x, e.size ≤ n ∧ e.txt := fun e he => ⟨by have := Ex.sizes_mem he; omega, by
      have : ∀ l : List Ex, Ex.txts l → ∀ e ∈ l, e.txt := by
        intro l
        induction l with
        | nil => intro _ e he; simp at he
        | cons y l ih2 =>
          intro h e he
          rcases List.mem_cons.1 he with rfl | he
          · exact h.1
          · exact ih2 h.2 e he
      exact this x ht.2 e he⟩
    exact ⟨expr_step d hd op m s x ht.1 (by omega) (fun d' h' e he => (ih e (hx e he).1 (by omega) (hx e he).2 d' (by omega)).1), refExpr_step d hd op m s x ht.1 (by omega) (fun d' h' e he => (ih e (hx e he).1 (by omega) (hx e he).2 d' (by omega)).2)⟩

end Go.AM.Spec
