/-
  Which statements, blocks and programs are right: what the program's and the document's functions answer; printed by a program (mkright.py).
-/
import Derived.Test.YthboieenfnpeeaaTreeS
namespace Go.AM.Spec
set_option linter.unusedVariables false
set_option linter.unusedSimpArgs false
set_option maxHeartbeats 4000000
set_option maxRecDepth 10000

/-- Is a statement right, but for what is in its blocks? -/
def shapeOk (op : Int) (s : List UInt8) (n : Int) (e : List Ex) (b c : List Sm) (g : Bool) : Bool :=
  match exprs op with
  | none => false
  | some k => decide (e.length = k) && ((if op = 12 ∨ op = 15 then isName s else decide (s = [])) && (decide (0 ≤ n) && (decide (n ≤ 16) && ((decide (op = 14) || decide (n = 0)) && ((decide (op = 16) || !g) && ((decide (op = 13 ∨ op = 14 ∨ op = 16) || decide (b = [])) && ((decide (op = 13) || decide (c = [])) && Ex.oks e 8)))))))

theorem blocks_eq (op : Int) (H : Heap) : eval tbl noExt n_tree_blocks [.int .i64 op] H = some (.tup [.bool (decide (op = 13 ∨ op = 14 ∨ op = 16)), .bool (decide (op = 13))], H) := by
  rw [eval_M rfl rfl t_tree_blocks rfl]
  by_cases h1 : op = 13
  · simp [c_tree_blocks, h1]
  by_cases h2 : op = 14
  · simp [c_tree_blocks, h1, h2]
  · simp [c_tree_blocks, h1, h2]

theorem shape_1_eq (e : Ex) (he : ExOK 8 e) (K : Heap) : eval tbl noExt n_tree_shape_1 [.agg e.cells] K = some (.bool (!e.ok 8), K) := by
  have he0 := he []
  obtain ⟨op, n, s, x⟩ := e
  simp only [Ex.cells, Int.cast_ofNat_Int] at he0 ⊢
  rw [eval_M rfl rfl t_tree_shape_1 rfl]
  simp [c_tree_shape_1, get0, he0, lt_tree_expr]

theorem shape_conts (x : List Ex) (hl : x.length ≤ 1000) (hx : ∀ e ∈ x, ExOK 8 e) (K : Heap) :
    eval tbl noExt n_slices_ContainsFunc_api_Expr_api_Expr [.sl 4 (Ex.rows x), .fn (.func n_tree_shape_1) [] []] K = some (.bool (!Ex.oks x 8), K) := by
  rw [Ex.rows_eq, Ex.oks_all, ← any_not]
  exact ContainsFunc_api_Expr_api_Expr (first := []) (cap := []) lt_tree_shape_1 Ex.cells x (by omega) (fun e => !e.ok 8) K (fun e _ => Ex.strips e) (fun e he => shape_1_eq e (hx e he) K)

theorem shape_eq (op n : Int) (s : List UInt8) (e : List Ex) (b c : List Sm) (g : Bool) (hs : s.length ≤ 300) (hl : e.length ≤ 1000) (hx : ∀ y ∈ e, ExOK 8 y) (H : Heap) :
    eval tbl noExt n_tree_shape [.agg (Sm.cells (.mk op s n e b c g))] H = some (.bool (shapeOk op s n e b c g), H) := by
  have hP := Exprs_eq op
  have hB := blocks_eq op
  have hN := Name_eq s (by omega)
  have hC := shape_conts e hl hx
  have hcl : (Ex.rows e).length = e.length := by rw [Ex.rows_eq]; simp
  have hbl : (Sm.rows b).length = b.length := by rw [Sm.rows_eq]; simp
  have hccl : (Sm.rows c).length = c.length := by rw [Sm.rows_eq]; simp
  simp only [Sm.cells, shapeOk]
  rw [eval_M rfl rfl t_tree_shape rfl]
  cases hpo : exprs op with
  | none =>
    rw [hpo] at hP
    by_cases h12 : op = 12
    · subst h12
      simp [c_tree_shape, hP, hB, tup, lt_tree_Exprs, lt_tree_blocks, get0]
    · simp [c_tree_shape, hP, hB, tup, lt_tree_Exprs, lt_tree_blocks, get0, h12]
  | some k =>
  rw [hpo] at hP
  by_cases hk : e.length = k
  case neg =>
    have hk' : ¬ (e.length : Int) = k := by omega
    by_cases h12 : op = 12
    · subst h12
      simp [c_tree_shape, hP, hB, tup, lt_tree_Exprs, lt_tree_blocks, get0, hcl, hk, hk']
    · simp [c_tree_shape, hP, hB, tup, lt_tree_Exprs, lt_tree_blocks, get0, hcl, hk, hk', h12]
  subst hk
  by_cases h12 : op = 12
  · subst h12
    cases hna : isName s with
    | false =>
      rw [hna] at hN
      by_cases hs0 : s = []
      · simp [c_tree_shape, hP, hB, tup, lt_tree_Exprs, lt_tree_blocks, lt_lex_Name, get0, hcl, hbl, hccl, hC, lt_slices_ContainsFunc_api_Expr_api_Expr, Sm.rows, hN, hna, hs0]
      · simp [c_tree_shape, hP, hB, tup, lt_tree_Exprs, lt_tree_blocks, lt_lex_Name, get0, hcl, hbl, hccl, hC, lt_slices_ContainsFunc_api_Expr_api_Expr, Sm.rows, hN, hna, hs0]
    | true =>
    rw [hna] at hN
    have hs0 : ¬ s = [] := by rintro rfl; simp [isName] at hna
    by_cases hn1 : n < 0
    · have hn1b : ¬ 0 ≤ n := by omega
      have hn0 : ¬ n = 0 := by omega
      simp [c_tree_shape, hP, hB, tup, lt_tree_Exprs, lt_tree_blocks, lt_lex_Name, get0, hcl, hbl, hccl, hC, lt_slices_ContainsFunc_api_Expr_api_Expr, Sm.rows, hN, hna, hs0, hn1, hn1b, hn0]
    have hn1b : 0 ≤ n := by omega
    by_cases hn2 : 16 < n
    · have hn2b : ¬ n ≤ 16 := by omega
      have hn0 : ¬ n = 0 := by omega
      simp [c_tree_shape, hP, hB, tup, lt_tree_Exprs, lt_tree_blocks, lt_lex_Name, get0, hcl, hbl, hccl, hC, lt_slices_ContainsFunc_api_Expr_api_Expr, Sm.rows, hN, hna, hs0, hn1, hn1b, hn2, hn2b, hn0]
    have hn2b : n ≤ 16 := by omega
    by_cases hn0 : n = 0
    case neg => simp [c_tree_shape, hP, hB, tup, lt_tree_Exprs, lt_tree_blocks, lt_lex_Name, get0, hcl, hbl, hccl, hC, lt_slices_ContainsFunc_api_Expr_api_Expr, Sm.rows, hN, hna, hs0, hn1, hn1b, hn2, hn2b, hn0]
    subst hn0
    cases g with
    | true => simp [c_tree_shape, hP, hB, tup, lt_tree_Exprs, lt_tree_blocks, lt_lex_Name, get0, hcl, hbl, hccl, hC, lt_slices_ContainsFunc_api_Expr_api_Expr, Sm.rows, hN, hna, hs0]
    | false =>
    by_cases hb0 : b = []
    case neg =>
      have hb1 : 0 < b.length := List.length_pos_iff.2 hb0
      simp [c_tree_shape, hP, hB, tup, lt_tree_Exprs, lt_tree_blocks, lt_lex_Name, get0, hcl, hbl, hccl, hC, lt_slices_ContainsFunc_api_Expr_api_Expr, Sm.rows, hN, hna, hs0, hb0, hb1]
    subst hb0
    by_cases hc0 : c = []
    case neg =>
      have hc1 : 0 < c.length := List.length_pos_iff.2 hc0
      simp [c_tree_shape, hP, hB, tup, lt_tree_Exprs, lt_tree_blocks, lt_lex_Name, get0, hcl, hbl, hccl, hC, lt_slices_ContainsFunc_api_Expr_api_Expr, Sm.rows, hN, hna, hs0, hc0, hc1]
    subst hc0
    simp [c_tree_shape, hP, hB, tup, lt_tree_Exprs, lt_tree_blocks, lt_lex_Name, get0, hcl, hbl, hccl, hC, lt_slices_ContainsFunc_api_Expr_api_Expr, Sm.rows, hN, hna, hs0]
  by_cases h13 : op = 13
  · subst h13
    by_cases hs0 : s = []
    case neg => simp [c_tree_shape, hP, hB, tup, lt_tree_Exprs, lt_tree_blocks, lt_lex_Name, get0, hcl, hbl, hccl, hC, lt_slices_ContainsFunc_api_Expr_api_Expr, Sm.rows, hs0]
    by_cases hn1 : n < 0
    · have hn1b : ¬ 0 ≤ n := by omega
      have hn0 : ¬ n = 0 := by omega
      simp [c_tree_shape, hP, hB, tup, lt_tree_Exprs, lt_tree_blocks, lt_lex_Name, get0, hcl, hbl, hccl, hC, lt_slices_ContainsFunc_api_Expr_api_Expr, Sm.rows, hs0, hn1, hn1b, hn0]
    have hn1b : 0 ≤ n := by omega
    by_cases hn2 : 16 < n
    · have hn2b : ¬ n ≤ 16 := by omega
      have hn0 : ¬ n = 0 := by omega
      simp [c_tree_shape, hP, hB, tup, lt_tree_Exprs, lt_tree_blocks, lt_lex_Name, get0, hcl, hbl, hccl, hC, lt_slices_ContainsFunc_api_Expr_api_Expr, Sm.rows, hs0, hn1, hn1b, hn2, hn2b, hn0]
    have hn2b : n ≤ 16 := by omega
    by_cases hn0 : n = 0
    case neg => simp [c_tree_shape, hP, hB, tup, lt_tree_Exprs, lt_tree_blocks, lt_lex_Name, get0, hcl, hbl, hccl, hC, lt_slices_ContainsFunc_api_Expr_api_Expr, Sm.rows, hs0, hn1, hn1b, hn2, hn2b, hn0]
    subst hn0
    cases g with
    | true => simp [c_tree_shape, hP, hB, tup, lt_tree_Exprs, lt_tree_blocks, lt_lex_Name, get0, hcl, hbl, hccl, hC, lt_slices_ContainsFunc_api_Expr_api_Expr, Sm.rows, hs0]
    | false =>
    simp [c_tree_shape, hP, hB, tup, lt_tree_Exprs, lt_tree_blocks, lt_lex_Name, get0, hcl, hbl, hccl, hC, lt_slices_ContainsFunc_api_Expr_api_Expr, Sm.rows, hs0]
  by_cases h14 : op = 14
  · subst h14
    by_cases hs0 : s = []
    case neg => simp [c_tree_shape, hP, hB, tup, lt_tree_Exprs, lt_tree_blocks, lt_lex_Name, get0, hcl, hbl, hccl, hC, lt_slices_ContainsFunc_api_Expr_api_Expr, Sm.rows, hs0]
    by_cases hn1 : n < 0
    · have hn1b : ¬ 0 ≤ n := by omega
      have hn0 : ¬ n = 0 := by omega
      simp [c_tree_shape, hP, hB, tup, lt_tree_Exprs, lt_tree_blocks, lt_lex_Name, get0, hcl, hbl, hccl, hC, lt_slices_ContainsFunc_api_Expr_api_Expr, Sm.rows, hs0, hn1, hn1b, hn0]
    have hn1b : 0 ≤ n := by omega
    by_cases hn2 : 16 < n
    · have hn2b : ¬ n ≤ 16 := by omega
      have hn0 : ¬ n = 0 := by omega
      simp [c_tree_shape, hP, hB, tup, lt_tree_Exprs, lt_tree_blocks, lt_lex_Name, get0, hcl, hbl, hccl, hC, lt_slices_ContainsFunc_api_Expr_api_Expr, Sm.rows, hs0, hn1, hn1b, hn2, hn2b, hn0]
    have hn2b : n ≤ 16 := by omega
    by_cases hn0 : n = 0
    · subst hn0
      cases g with
      | true => simp [c_tree_shape, hP, hB, tup, lt_tree_Exprs, lt_tree_blocks, lt_lex_Name, get0, hcl, hbl, hccl, hC, lt_slices_ContainsFunc_api_Expr_api_Expr, Sm.rows, hs0]
      | false =>
      by_cases hc0 : c = []
      case neg =>
        have hc1 : 0 < c.length := List.length_pos_iff.2 hc0
        simp [c_tree_shape, hP, hB, tup, lt_tree_Exprs, lt_tree_blocks, lt_lex_Name, get0, hcl, hbl, hccl, hC, lt_slices_ContainsFunc_api_Expr_api_Expr, Sm.rows, hs0, hc0, hc1]
      subst hc0
      simp [c_tree_shape, hP, hB, tup, lt_tree_Exprs, lt_tree_blocks, lt_lex_Name, get0, hcl, hbl, hccl, hC, lt_slices_ContainsFunc_api_Expr_api_Expr, Sm.rows, hs0]
    cases g with
    | true => simp [c_tree_shape, hP, hB, tup, lt_tree_Exprs, lt_tree_blocks, lt_lex_Name, get0, hcl, hbl, hccl, hC, lt_slices_ContainsFunc_api_Expr_api_Expr, Sm.rows, hs0, hn1, hn1b, hn2, hn2b, hn0]
    | false =>
    by_cases hc0 : c = []
    case neg =>
      have hc1 : 0 < c.length := List.length_pos_iff.2 hc0
      simp [c_tree_shape, hP, hB, tup, lt_tree_Exprs, lt_tree_blocks, lt_lex_Name, get0, hcl, hbl, hccl, hC, lt_slices_ContainsFunc_api_Expr_api_Expr, Sm.rows, hs0, hn1, hn1b, hn2, hn2b, hn0, hc0, hc1]
    subst hc0
    simp [c_tree_shape, hP, hB, tup, lt_tree_Exprs, lt_tree_blocks, lt_lex_Name, get0, hcl, hbl, hccl, hC, lt_slices_ContainsFunc_api_Expr_api_Expr, Sm.rows, hs0, hn1, hn1b, hn2, hn2b, hn0]
  by_cases h15 : op = 15
  · subst h15
    cases hna : isName s with
    | false =>
      rw [hna] at hN
      by_cases hs0 : s = []
      · simp [c_tree_shape, hP, hB, tup, lt_tree_Exprs, lt_tree_blocks, lt_lex_Name, get0, hcl, hbl, hccl, hC, lt_slices_ContainsFunc_api_Expr_api_Expr, Sm.rows, hN, hna, hs0]
      · simp [c_tree_shape, hP, hB, tup, lt_tree_Exprs, lt_tree_blocks, lt_lex_Name, get0, hcl, hbl, hccl, hC, lt_slices_ContainsFunc_api_Expr_api_Expr, Sm.rows, hN, hna, hs0]
    | true =>
    rw [hna] at hN
    have hs0 : ¬ s = [] := by rintro rfl; simp [isName] at hna
    by_cases hn1 : n < 0
    · have hn1b : ¬ 0 ≤ n := by omega
      have hn0 : ¬ n = 0 := by omega
      simp [c_tree_shape, hP, hB, tup, lt_tree_Exprs, lt_tree_blocks, lt_lex_Name, get0, hcl, hbl, hccl, hC, lt_slices_ContainsFunc_api_Expr_api_Expr, Sm.rows, hN, hna, hs0, hn1, hn1b, hn0]
    have hn1b : 0 ≤ n := by omega
    by_cases hn2 : 16 < n
    · have hn2b : ¬ n ≤ 16 := by omega
      have hn0 : ¬ n = 0 := by omega
      simp [c_tree_shape, hP, hB, tup, lt_tree_Exprs, lt_tree_blocks, lt_lex_Name, get0, hcl, hbl, hccl, hC, lt_slices_ContainsFunc_api_Expr_api_Expr, Sm.rows, hN, hna, hs0, hn1, hn1b, hn2, hn2b, hn0]
    have hn2b : n ≤ 16 := by omega
    by_cases hn0 : n = 0
    case neg => simp [c_tree_shape, hP, hB, tup, lt_tree_Exprs, lt_tree_blocks, lt_lex_Name, get0, hcl, hbl, hccl, hC, lt_slices_ContainsFunc_api_Expr_api_Expr, Sm.rows, hN, hna, hs0, hn1, hn1b, hn2, hn2b, hn0]
    subst hn0
    cases g with
    | true => simp [c_tree_shape, hP, hB, tup, lt_tree_Exprs, lt_tree_blocks, lt_lex_Name, get0, hcl, hbl, hccl, hC, lt_slices_ContainsFunc_api_Expr_api_Expr, Sm.rows, hN, hna, hs0]
    | false =>
    by_cases hb0 : b = []
    case neg =>
      have hb1 : 0 < b.length := List.length_pos_iff.2 hb0
      simp [c_tree_shape, hP, hB, tup, lt_tree_Exprs, lt_tree_blocks, lt_lex_Name, get0, hcl, hbl, hccl, hC, lt_slices_ContainsFunc_api_Expr_api_Expr, Sm.rows, hN, hna, hs0, hb0, hb1]
    subst hb0
    by_cases hc0 : c = []
    case neg =>
      have hc1 : 0 < c.length := List.length_pos_iff.2 hc0
      simp [c_tree_shape, hP, hB, tup, lt_tree_Exprs, lt_tree_blocks, lt_lex_Name, get0, hcl, hbl, hccl, hC, lt_slices_ContainsFunc_api_Expr_api_Expr, Sm.rows, hN, hna, hs0, hc0, hc1]
    subst hc0
    simp [c_tree_shape, hP, hB, tup, lt_tree_Exprs, lt_tree_blocks, lt_lex_Name, get0, hcl, hbl, hccl, hC, lt_slices_ContainsFunc_api_Expr_api_Expr, Sm.rows, hN, hna, hs0]
  by_cases h16 : op = 16
  · subst h16
    by_cases hs0 : s = []
    case neg => simp [c_tree_shape, hP, hB, tup, lt_tree_Exprs, lt_tree_blocks, lt_lex_Name, get0, hcl, hbl, hccl, hC, lt_slices_ContainsFunc_api_Expr_api_Expr, Sm.rows, hs0]
    by_cases hn1 : n < 0
    · have hn1b : ¬ 0 ≤ n := by omega
      have hn0 : ¬ n = 0 := by omega
      simp [c_tree_shape, hP, hB, tup, lt_tree_Exprs, lt_tree_blocks, lt_lex_Name, get0, hcl, hbl, hccl, hC, lt_slices_ContainsFunc_api_Expr_api_Expr, Sm.rows, hs0, hn1, hn1b, hn0]
    have hn1b : 0 ≤ n := by omega
    by_cases hn2 : 16 < n
    · have hn2b : ¬ n ≤ 16 := by omega
      have hn0 : ¬ n = 0 := by omega
      simp [c_tree_shape, hP, hB, tup, lt_tree_Exprs, lt_tree_blocks, lt_lex_Name, get0, hcl, hbl, hccl, hC, lt_slices_ContainsFunc_api_Expr_api_Expr, Sm.rows, hs0, hn1, hn1b, hn2, hn2b, hn0]
    have hn2b : n ≤ 16 := by omega
    by_cases hn0 : n = 0
    case neg => simp [c_tree_shape, hP, hB, tup, lt_tree_Exprs, lt_tree_blocks, lt_lex_Name, get0, hcl, hbl, hccl, hC, lt_slices_ContainsFunc_api_Expr_api_Expr, Sm.rows, hs0, hn1, hn1b, hn2, hn2b, hn0]
    subst hn0
    cases g with
    | true =>
      by_cases hc0 : c = []
      case neg =>
        have hc1 : 0 < c.length := List.length_pos_iff.2 hc0
        simp [c_tree_shape, hP, hB, tup, lt_tree_Exprs, lt_tree_blocks, lt_lex_Name, get0, hcl, hbl, hccl, hC, lt_slices_ContainsFunc_api_Expr_api_Expr, Sm.rows, hs0, hc0, hc1]
      subst hc0
      simp [c_tree_shape, hP, hB, tup, lt_tree_Exprs, lt_tree_blocks, lt_lex_Name, get0, hcl, hbl, hccl, hC, lt_slices_ContainsFunc_api_Expr_api_Expr, Sm.rows, hs0]
    | false =>
      by_cases hc0 : c = []
      case neg =>
        have hc1 : 0 < c.length := List.length_pos_iff.2 hc0
        simp [c_tree_shape, hP, hB, tup, lt_tree_Exprs, lt_tree_blocks, lt_lex_Name, get0, hcl, hbl, hccl, hC, lt_slices_ContainsFunc_api_Expr_api_Expr, Sm.rows, hs0, hc0, hc1]
      subst hc0
      simp [c_tree_shape, hP, hB, tup, lt_tree_Exprs, lt_tree_blocks, lt_lex_Name, get0, hcl, hbl, hccl, hC, lt_slices_ContainsFunc_api_Expr_api_Expr, Sm.rows, hs0]
  by_cases hs0 : s = []
  case neg => simp [c_tree_shape, hP, hB, tup, lt_tree_Exprs, lt_tree_blocks, lt_lex_Name, get0, hcl, hbl, hccl, hC, lt_slices_ContainsFunc_api_Expr_api_Expr, Sm.rows, h12, h13, h14, h15, h16, hs0]
  by_cases hn1 : n < 0
  · have hn1b : ¬ 0 ≤ n := by omega
    have hn0 : ¬ n = 0 := by omega
    simp [c_tree_shape, hP, hB, tup, lt_tree_Exprs, lt_tree_blocks, lt_lex_Name, get0, hcl, hbl, hccl, hC, lt_slices_ContainsFunc_api_Expr_api_Expr, Sm.rows, h12, h13, h14, h15, h16, hs0, hn1, hn1b, hn0]
  have hn1b : 0 ≤ n := by omega
  by_cases hn2 : 16 < n
  · have hn2b : ¬ n ≤ 16 := by omega
    have hn0 : ¬ n = 0 := by omega
    simp [c_tree_shape, hP, hB, tup, lt_tree_Exprs, lt_tree_blocks, lt_lex_Name, get0, hcl, hbl, hccl, hC, lt_slices_ContainsFunc_api_Expr_api_Expr, Sm.rows, h12, h13, h14, h15, h16, hs0, hn1, hn1b, hn2, hn2b, hn0]
  have hn2b : n ≤ 16 := by omega
  by_cases hn0 : n = 0
  case neg => simp [c_tree_shape, hP, hB, tup, lt_tree_Exprs, lt_tree_blocks, lt_lex_Name, get0, hcl, hbl, hccl, hC, lt_slices_ContainsFunc_api_Expr_api_Expr, Sm.rows, h12, h13, h14, h15, h16, hs0, hn1, hn1b, hn2, hn2b, hn0]
  subst hn0
  cases g with
  | true => simp [c_tree_shape, hP, hB, tup, lt_tree_Exprs, lt_tree_blocks, lt_lex_Name, get0, hcl, hbl, hccl, hC, lt_slices_ContainsFunc_api_Expr_api_Expr, Sm.rows, h12, h13, h14, h15, h16, hs0]
  | false =>
  by_cases hb0 : b = []
  case neg =>
    have hb1 : 0 < b.length := List.length_pos_iff.2 hb0
    simp [c_tree_shape, hP, hB, tup, lt_tree_Exprs, lt_tree_blocks, lt_lex_Name, get0, hcl, hbl, hccl, hC, lt_slices_ContainsFunc_api_Expr_api_Expr, Sm.rows, h12, h13, h14, h15, h16, hs0, hb0, hb1]
  subst hb0
  by_cases hc0 : c = []
  case neg =>
    have hc1 : 0 < c.length := List.length_pos_iff.2 hc0
    simp [c_tree_shape, hP, hB, tup, lt_tree_Exprs, lt_tree_blocks, lt_lex_Name, get0, hcl, hbl, hccl, hC, lt_slices_ContainsFunc_api_Expr_api_Expr, Sm.rows, h12, h13, h14, h15, h16, hs0, hc0, hc1]
  subst hc0
  simp [c_tree_shape, hP, hB, tup, lt_tree_Exprs, lt_tree_blocks, lt_lex_Name, get0, hcl, hbl, hccl, hC, lt_slices_ContainsFunc_api_Expr_api_Expr, Sm.rows, h12, h13, h14, h15, h16, hs0]

end Go.AM.Spec
