/-
  The abstract code of each function fits the loaded function; printed by a program (gen.py).
-/
import Derived.Test.YtfbmemcafekbkaaCode
import Derived.Test.YtfbmemcafekbkaaRun
import Derived.Test.YtfbmemcafekbkaaChecked
namespace Go.Proofs.Ytfbmemcafekbkaa
open Go.AM

theorem k_flotsamlaw16_Small : chkF Try.prog Try.f5 c_flotsamlaw16_Small = true := by kernel_rfl
theorem k_flotsamlaw16_knows : chkF Try.prog Try.f6 c_flotsamlaw16_knows = true := by kernel_rfl
theorem k_tree_Clone : chkF Try.prog Try.f7 c_tree_Clone = true := by kernel_rfl
theorem k_flotsamref16_Copy : chkF Try.prog Try.f8 c_flotsamref16_Copy = true := by kernel_rfl
theorem k_tree_Same : chkF Try.prog Try.f9 c_tree_Same = true := by kernel_rfl
theorem k_flotsamref16_Same : chkF Try.prog Try.f10 c_flotsamref16_Same = true := by kernel_rfl
theorem k_tree_All : chkF Try.prog Try.f13 c_tree_All = true := by kernel_rfl
theorem k_tree_Count : chkF Try.prog Try.f14 c_tree_Count = true := by kernel_rfl
theorem k_flotsamref16_SameStmts : chkF Try.prog Try.f16 c_flotsamref16_SameStmts = true := by kernel_rfl
theorem k_flotsamref16_Size : chkF Try.prog Try.f17 c_flotsamref16_Size = true := by kernel_rfl
theorem k_tree_Exprs : chkF Try.prog Try.f18 c_tree_Exprs = true := by kernel_rfl
theorem k_tree_Parts : chkF Try.prog Try.f19 c_tree_Parts = true := by kernel_rfl
theorem k_tree_Right : chkF Try.prog Try.f20 c_tree_Right = true := by kernel_rfl
theorem k_tree_each_api_Proc : chkF Try.prog Try.f21 c_tree_each_api_Proc = true := by kernel_rfl
theorem k_tree_Clone_1 : chkF Try.prog Try.f22 c_tree_Clone_1 = true := by kernel_rfl
theorem k_tree_each_api_Stmt : chkF Try.prog Try.f23 c_tree_each_api_Stmt = true := by kernel_rfl
theorem k_tree_cloned : chkF Try.prog Try.f24 c_tree_cloned = true := by kernel_rfl
theorem k_tree_each_api_Oracle : chkF Try.prog Try.f25 c_tree_each_api_Oracle = true := by kernel_rfl
theorem k_tree_Clone_2 : chkF Try.prog Try.f26 c_tree_Clone_2 = true := by kernel_rfl
theorem k_tree_clonedExpr : chkF Try.prog Try.f27 c_tree_clonedExpr = true := by kernel_rfl
theorem k_flotsamref16_CopyStmts : chkF Try.prog Try.f28 c_flotsamref16_CopyStmts = true := by kernel_rfl
theorem k_flotsamref16_CopyExpr : chkF Try.prog Try.f29 c_flotsamref16_CopyExpr = true := by kernel_rfl
theorem k_tree_Same_1 : chkF Try.prog Try.f30 c_tree_Same_1 = true := by kernel_rfl
theorem k_tree_lists_api_Stmt : chkF Try.prog Try.f31 c_tree_lists_api_Stmt = true := by kernel_rfl
theorem k_tree_statements : chkF Try.prog Try.f32 c_tree_statements = true := by kernel_rfl
theorem k_tree_Same_2 : chkF Try.prog Try.f33 c_tree_Same_2 = true := by kernel_rfl
theorem k_tree_expressions : chkF Try.prog Try.f34 c_tree_expressions = true := by kernel_rfl
theorem k_tree_lists_api_Proc : chkF Try.prog Try.f35 c_tree_lists_api_Proc = true := by kernel_rfl
theorem k_tree_lists_api_Oracle : chkF Try.prog Try.f36 c_tree_lists_api_Oracle = true := by kernel_rfl
theorem k_flotsamref16_SameExpr : chkF Try.prog Try.f37 c_flotsamref16_SameExpr = true := by kernel_rfl
theorem k_tree_parts : chkF Try.prog Try.f38 c_tree_parts = true := by kernel_rfl
theorem k_tree_walk : chkF Try.prog Try.f39 c_tree_walk = true := by kernel_rfl
theorem k_flotsamref16_SameStmt : chkF Try.prog Try.f40 c_flotsamref16_SameStmt = true := by kernel_rfl
theorem k_flotsamref16_block : chkF Try.prog Try.f41 c_flotsamref16_block = true := by kernel_rfl
theorem k_flotsamref16_expr : chkF Try.prog Try.f42 c_flotsamref16_expr = true := by kernel_rfl
theorem k_tree_Right_1 : chkF Try.prog Try.f43 c_tree_Right_1 = true := by kernel_rfl
theorem k_lex_Name : chkF Try.prog Try.f44 c_lex_Name = true := by kernel_rfl
theorem k_tree_Right_2 : chkF Try.prog Try.f45 c_tree_Right_2 = true := by kernel_rfl
theorem k_tree_expr : chkF Try.prog Try.f46 c_tree_expr = true := by kernel_rfl
theorem k_tree_Right_3 : chkF Try.prog Try.f47 c_tree_Right_3 = true := by kernel_rfl
theorem k_tree_block : chkF Try.prog Try.f48 c_tree_block = true := by kernel_rfl
theorem k_slices_ContainsFunc_api_Proc_api_Proc : chkF Try.prog Try.f49 c_slices_ContainsFunc_api_Proc_api_Proc = true := by kernel_rfl
theorem k_slices_ContainsFunc_api_Oracle_api_Oracle : chkF Try.prog Try.f50 c_slices_ContainsFunc_api_Oracle_api_Oracle = true := by kernel_rfl
theorem k_slices_ContainsFunc_api_Stmt_api_Stmt : chkF Try.prog Try.f51 c_slices_ContainsFunc_api_Stmt_api_Stmt = true := by kernel_rfl
theorem k_tree_each_api_Expr : chkF Try.prog Try.f52 c_tree_each_api_Expr = true := by kernel_rfl
theorem k_slices_EqualFunc_api_Stmt_api_Stmt_api_Stmt_api_Stmt : chkF Try.prog Try.f53 c_slices_EqualFunc_api_Stmt_api_Stmt_api_Stmt_api_Stmt = true := by kernel_rfl
theorem k_slices_EqualFunc_api_Expr_api_Expr_api_Expr_api_Expr : chkF Try.prog Try.f54 c_slices_EqualFunc_api_Expr_api_Expr_api_Expr_api_Expr = true := by kernel_rfl
theorem k_slices_EqualFunc_api_Proc_api_Proc_api_Proc_api_Proc : chkF Try.prog Try.f55 c_slices_EqualFunc_api_Proc_api_Proc_api_Proc_api_Proc = true := by kernel_rfl
theorem k_slices_EqualFunc_api_Oracle_api_Oracle_api_Oracle_api_Oracle : chkF Try.prog Try.f56 c_slices_EqualFunc_api_Oracle_api_Oracle_api_Oracle_api_Oracle = true := by kernel_rfl
theorem k_tree_walk_1 : chkF Try.prog Try.f57 c_tree_walk_1 = true := by kernel_rfl
theorem k_lex_begins : chkF Try.prog Try.f58 c_lex_begins = true := by kernel_rfl
theorem k_lex_letter : chkF Try.prog Try.f59 c_lex_letter = true := by kernel_rfl
theorem k_lex_inner : chkF Try.prog Try.f61 c_lex_inner = true := by kernel_rfl
theorem k_lex_Key : chkF Try.prog Try.f62 c_lex_Key = true := by kernel_rfl
theorem k_slices_ContainsFunc_api_Expr_api_Expr : chkF Try.prog Try.f63 c_slices_ContainsFunc_api_Expr_api_Expr = true := by kernel_rfl
theorem k_tree_expr_1 : chkF Try.prog Try.f64 c_tree_expr_1 = true := by kernel_rfl
theorem k_slices_ContainsFunc_api_Stmt_api_Stmt_x : chkF Try.prog Try.f65 c_slices_ContainsFunc_api_Stmt_api_Stmt_x = true := by kernel_rfl
theorem k_tree_block_1 : chkF Try.prog Try.f66 c_tree_block_1 = true := by kernel_rfl
theorem k_tree_stmt : chkF Try.prog Try.f67 c_tree_stmt = true := by kernel_rfl
theorem k_slices_IndexFunc_api_Proc_api_Proc : chkF Try.prog Try.f68 c_slices_IndexFunc_api_Proc_api_Proc = true := by kernel_rfl
theorem k_slices_IndexFunc_api_Oracle_api_Oracle : chkF Try.prog Try.f69 c_slices_IndexFunc_api_Oracle_api_Oracle = true := by kernel_rfl
theorem k_slices_IndexFunc_api_Stmt_api_Stmt : chkF Try.prog Try.f70 c_slices_IndexFunc_api_Stmt_api_Stmt = true := by kernel_rfl
theorem k_lex_digit : chkF Try.prog Try.f73 c_lex_digit = true := by kernel_rfl
theorem k_slices_IndexFunc_api_Expr_api_Expr : chkF Try.prog Try.f75 c_slices_IndexFunc_api_Expr_api_Expr = true := by kernel_rfl
theorem k_slices_IndexFunc_api_Stmt_api_Stmt_x : chkF Try.prog Try.f76 c_slices_IndexFunc_api_Stmt_api_Stmt_x = true := by kernel_rfl
theorem k_tree_shape : chkF Try.prog Try.f77 c_tree_shape = true := by kernel_rfl
theorem k_tree_stmt_1 : chkF Try.prog Try.f78 c_tree_stmt_1 = true := by kernel_rfl
theorem k_tree_blocks : chkF Try.prog Try.f81 c_tree_blocks = true := by kernel_rfl
theorem k_tree_shape_1 : chkF Try.prog Try.f82 c_tree_shape_1 = true := by kernel_rfl
theorem lab_tree_All : LabC tbl c_tree_All.body := LabC.list (l := [(q_tree_All_0, a_tree_All_0, y_tree_All_0)]) (by kernel_rfl) ⟨u_tree_All_0, trivial⟩
theorem lab_tree_Count : LabC tbl c_tree_Count.body := LabC.list (l := [(q_tree_Count_0, a_tree_Count_0, y_tree_Count_0)]) (by kernel_rfl) ⟨u_tree_Count_0, trivial⟩
theorem lab_tree_walk_1 : LabC tbl c_tree_walk_1.body := LabC.list (l := [(q_tree_walk_1_0, a_tree_walk_1_0, y_tree_walk_1_0)]) (by kernel_rfl) ⟨u_tree_walk_1_0, trivial⟩
theorem kw_tree_Clone : chkW Try.prog Try.f7 c_tree_Clone_w = true := by kernel_rfl
theorem kw_flotsamlaw16_wipe : chkW Try.prog Try.f11 c_flotsamlaw16_wipe_w = true := by kernel_rfl
theorem kw_flotsamlaw16_wipeExprs : chkW Try.prog Try.f12 c_flotsamlaw16_wipeExprs_w = true := by kernel_rfl
theorem kw_tree_each_api_Proc : chkW Try.prog Try.f21 c_tree_each_api_Proc_w = true := by kernel_rfl
theorem kw_tree_Clone_1 : chkW Try.prog Try.f22 c_tree_Clone_1_w = true := by kernel_rfl
theorem kw_tree_each_api_Stmt : chkW Try.prog Try.f23 c_tree_each_api_Stmt_w = true := by kernel_rfl
theorem kw_tree_cloned : chkW Try.prog Try.f24 c_tree_cloned_w = true := by kernel_rfl
theorem kw_tree_each_api_Oracle : chkW Try.prog Try.f25 c_tree_each_api_Oracle_w = true := by kernel_rfl
theorem kw_tree_Clone_2 : chkW Try.prog Try.f26 c_tree_Clone_2_w = true := by kernel_rfl
theorem kw_tree_clonedExpr : chkW Try.prog Try.f27 c_tree_clonedExpr_w = true := by kernel_rfl
theorem kw_tree_each_api_Expr : chkW Try.prog Try.f52 c_tree_each_api_Expr_w = true := by kernel_rfl

set_option maxRecDepth 100000 in
theorem fitsAll : ∀ k af, tbl k = some af → Fit Try.prog tbl k af :=
  Tab.cons (p := Fit Try.prog tbl) (.plain ⟨_, Try.func5, k_flotsamlaw16_Small⟩ (LabC.none rfl)) <|
  Tab.cons (p := Fit Try.prog tbl) (.plain ⟨_, Try.func6, k_flotsamlaw16_knows⟩ (LabC.none rfl)) <|
  Tab.cons (p := Fit Try.prog tbl) (.plain ⟨_, Try.func7, k_tree_Clone⟩ (LabC.none rfl)) <|
  Tab.cons (p := Fit Try.prog tbl) (.plain ⟨_, Try.func8, k_flotsamref16_Copy⟩ (LabC.none rfl)) <|
  Tab.cons (p := Fit Try.prog tbl) (.plain ⟨_, Try.func9, k_tree_Same⟩ (LabC.none rfl)) <|
  Tab.cons (p := Fit Try.prog tbl) (.plain ⟨_, Try.func10, k_flotsamref16_Same⟩ (LabC.none rfl)) <|
  Tab.cons (p := Fit Try.prog tbl) (.plain ⟨_, Try.func13, k_tree_All⟩ lab_tree_All) <|
  Tab.cons (p := Fit Try.prog tbl) (.plain ⟨_, Try.func14, k_tree_Count⟩ lab_tree_Count) <|
  Tab.cons (p := Fit Try.prog tbl) (.plain ⟨_, Try.func16, k_flotsamref16_SameStmts⟩ (LabC.none rfl)) <|
  Tab.cons (p := Fit Try.prog tbl) (.plain ⟨_, Try.func17, k_flotsamref16_Size⟩ (LabC.none rfl)) <|
  Tab.cons (p := Fit Try.prog tbl) (.plain ⟨_, Try.func18, k_tree_Exprs⟩ (LabC.none rfl)) <|
  Tab.cons (p := Fit Try.prog tbl) (.plain ⟨_, Try.func19, k_tree_Parts⟩ (LabC.none rfl)) <|
  Tab.cons (p := Fit Try.prog tbl) (.plain ⟨_, Try.func20, k_tree_Right⟩ (LabC.none rfl)) <|
  Tab.cons (p := Fit Try.prog tbl) (.plain ⟨_, Try.func21, k_tree_each_api_Proc⟩ (LabC.none rfl)) <|
  Tab.cons (p := Fit Try.prog tbl) (.plain ⟨_, Try.func22, k_tree_Clone_1⟩ (LabC.none rfl)) <|
  Tab.cons (p := Fit Try.prog tbl) (.plain ⟨_, Try.func23, k_tree_each_api_Stmt⟩ (LabC.none rfl)) <|
  Tab.cons (p := Fit Try.prog tbl) (.plain ⟨_, Try.func24, k_tree_cloned⟩ (LabC.none rfl)) <|
  Tab.cons (p := Fit Try.prog tbl) (.plain ⟨_, Try.func25, k_tree_each_api_Oracle⟩ (LabC.none rfl)) <|
  Tab.cons (p := Fit Try.prog tbl) (.plain ⟨_, Try.func26, k_tree_Clone_2⟩ (LabC.none rfl)) <|
  Tab.cons (p := Fit Try.prog tbl) (.plain ⟨_, Try.func27, k_tree_clonedExpr⟩ (LabC.none rfl)) <|
  Tab.cons (p := Fit Try.prog tbl) (.plain ⟨_, Try.func28, k_flotsamref16_CopyStmts⟩ (LabC.none rfl)) <|
  Tab.cons (p := Fit Try.prog tbl) (.plain ⟨_, Try.func29, k_flotsamref16_CopyExpr⟩ (LabC.none rfl)) <|
  Tab.cons (p := Fit Try.prog tbl) (.plain ⟨_, Try.func30, k_tree_Same_1⟩ (LabC.none rfl)) <|
  Tab.cons (p := Fit Try.prog tbl) (.plain ⟨_, Try.func31, k_tree_lists_api_Stmt⟩ (LabC.none rfl)) <|
  Tab.cons (p := Fit Try.prog tbl) (.plain ⟨_, Try.func32, k_tree_statements⟩ (LabC.none rfl)) <|
  Tab.cons (p := Fit Try.prog tbl) (.plain ⟨_, Try.func33, k_tree_Same_2⟩ (LabC.none rfl)) <|
  Tab.cons (p := Fit Try.prog tbl) (.plain ⟨_, Try.func34, k_tree_expressions⟩ (LabC.none rfl)) <|
  Tab.cons (p := Fit Try.prog tbl) (.plain ⟨_, Try.func35, k_tree_lists_api_Proc⟩ (LabC.none rfl)) <|
  Tab.cons (p := Fit Try.prog tbl) (.plain ⟨_, Try.func36, k_tree_lists_api_Oracle⟩ (LabC.none rfl)) <|
  Tab.cons (p := Fit Try.prog tbl) (.plain ⟨_, Try.func37, k_flotsamref16_SameExpr⟩ (LabC.none rfl)) <|
  Tab.cons (p := Fit Try.prog tbl) (.plain ⟨_, Try.func38, k_tree_parts⟩ (LabC.none rfl)) <|
  Tab.cons (p := Fit Try.prog tbl) (.plain ⟨_, Try.func39, k_tree_walk⟩ (LabC.none rfl)) <|
  Tab.cons (p := Fit Try.prog tbl) (.plain ⟨_, Try.func40, k_flotsamref16_SameStmt⟩ (LabC.none rfl)) <|
  Tab.cons (p := Fit Try.prog tbl) (.plain ⟨_, Try.func41, k_flotsamref16_block⟩ (LabC.none rfl)) <|
  Tab.cons (p := Fit Try.prog tbl) (.plain ⟨_, Try.func42, k_flotsamref16_expr⟩ (LabC.none rfl)) <|
  Tab.cons (p := Fit Try.prog tbl) (.plain ⟨_, Try.func43, k_tree_Right_1⟩ (LabC.none rfl)) <|
  Tab.cons (p := Fit Try.prog tbl) (.plain ⟨_, Try.func44, k_lex_Name⟩ (LabC.none rfl)) <|
  Tab.cons (p := Fit Try.prog tbl) (.plain ⟨_, Try.func45, k_tree_Right_2⟩ (LabC.none rfl)) <|
  Tab.cons (p := Fit Try.prog tbl) (.plain ⟨_, Try.func46, k_tree_expr⟩ (LabC.none rfl)) <|
  Tab.cons (p := Fit Try.prog tbl) (.plain ⟨_, Try.func47, k_tree_Right_3⟩ (LabC.none rfl)) <|
  Tab.cons (p := Fit Try.prog tbl) (.plain ⟨_, Try.func48, k_tree_block⟩ (LabC.none rfl)) <|
  Tab.cons (p := Fit Try.prog tbl) (.plain ⟨_, Try.func49, k_slices_ContainsFunc_api_Proc_api_Proc⟩ (LabC.none rfl)) <|
  Tab.cons (p := Fit Try.prog tbl) (.plain ⟨_, Try.func50, k_slices_ContainsFunc_api_Oracle_api_Oracle⟩ (LabC.none rfl)) <|
  Tab.cons (p := Fit Try.prog tbl) (.plain ⟨_, Try.func51, k_slices_ContainsFunc_api_Stmt_api_Stmt⟩ (LabC.none rfl)) <|
  Tab.cons (p := Fit Try.prog tbl) (.plain ⟨_, Try.func52, k_tree_each_api_Expr⟩ (LabC.none rfl)) <|
  Tab.cons (p := Fit Try.prog tbl) (.plain ⟨_, Try.func53, k_slices_EqualFunc_api_Stmt_api_Stmt_api_Stmt_api_Stmt⟩ (LabC.none rfl)) <|
  Tab.cons (p := Fit Try.prog tbl) (.plain ⟨_, Try.func54, k_slices_EqualFunc_api_Expr_api_Expr_api_Expr_api_Expr⟩ (LabC.none rfl)) <|
  Tab.cons (p := Fit Try.prog tbl) (.plain ⟨_, Try.func55, k_slices_EqualFunc_api_Proc_api_Proc_api_Proc_api_Proc⟩ (LabC.none rfl)) <|
  Tab.cons (p := Fit Try.prog tbl) (.plain ⟨_, Try.func56, k_slices_EqualFunc_api_Oracle_api_Oracle_api_Oracle_api_Oracle⟩ (LabC.none rfl)) <|
  Tab.cons (p := Fit Try.prog tbl) (.plain ⟨_, Try.func57, k_tree_walk_1⟩ lab_tree_walk_1) <|
  Tab.cons (p := Fit Try.prog tbl) (.plain ⟨_, Try.func58, k_lex_begins⟩ (LabC.none rfl)) <|
  Tab.cons (p := Fit Try.prog tbl) (.plain ⟨_, Try.func59, k_lex_letter⟩ (LabC.none rfl)) <|
  Tab.cons (p := Fit Try.prog tbl) (.plain ⟨_, Try.func61, k_lex_inner⟩ (LabC.none rfl)) <|
  Tab.cons (p := Fit Try.prog tbl) (.plain ⟨_, Try.func62, k_lex_Key⟩ (LabC.none rfl)) <|
  Tab.cons (p := Fit Try.prog tbl) (.plain ⟨_, Try.func63, k_slices_ContainsFunc_api_Expr_api_Expr⟩ (LabC.none rfl)) <|
  Tab.cons (p := Fit Try.prog tbl) (.plain ⟨_, Try.func64, k_tree_expr_1⟩ (LabC.none rfl)) <|
  Tab.cons (p := Fit Try.prog tbl) (.plain ⟨_, Try.func65, k_slices_ContainsFunc_api_Stmt_api_Stmt_x⟩ (LabC.none rfl)) <|
  Tab.cons (p := Fit Try.prog tbl) (.plain ⟨_, Try.func66, k_tree_block_1⟩ (LabC.none rfl)) <|
  Tab.cons (p := Fit Try.prog tbl) (.plain ⟨_, Try.func67, k_tree_stmt⟩ (LabC.none rfl)) <|
  Tab.cons (p := Fit Try.prog tbl) (.plain ⟨_, Try.func68, k_slices_IndexFunc_api_Proc_api_Proc⟩ (LabC.none rfl)) <|
  Tab.cons (p := Fit Try.prog tbl) (.plain ⟨_, Try.func69, k_slices_IndexFunc_api_Oracle_api_Oracle⟩ (LabC.none rfl)) <|
  Tab.cons (p := Fit Try.prog tbl) (.plain ⟨_, Try.func70, k_slices_IndexFunc_api_Stmt_api_Stmt⟩ (LabC.none rfl)) <|
  Tab.cons (p := Fit Try.prog tbl) (.plain ⟨_, Try.func73, k_lex_digit⟩ (LabC.none rfl)) <|
  Tab.cons (p := Fit Try.prog tbl) (.plain ⟨_, Try.func75, k_slices_IndexFunc_api_Expr_api_Expr⟩ (LabC.none rfl)) <|
  Tab.cons (p := Fit Try.prog tbl) (.plain ⟨_, Try.func76, k_slices_IndexFunc_api_Stmt_api_Stmt_x⟩ (LabC.none rfl)) <|
  Tab.cons (p := Fit Try.prog tbl) (.plain ⟨_, Try.func77, k_tree_shape⟩ (LabC.none rfl)) <|
  Tab.cons (p := Fit Try.prog tbl) (.plain ⟨_, Try.func78, k_tree_stmt_1⟩ (LabC.none rfl)) <|
  Tab.cons (p := Fit Try.prog tbl) (.plain ⟨_, Try.func81, k_tree_blocks⟩ (LabC.none rfl)) <|
  Tab.cons (p := Fit Try.prog tbl) (.plain ⟨_, Try.func82, k_tree_shape_1⟩ (LabC.none rfl)) <|
  Tab.cons (p := Fit Try.prog tbl) (.wide (k := 7) ⟨_, Try.func7, kw_tree_Clone⟩ (LabC.none rfl)) <|
  Tab.cons (p := Fit Try.prog tbl) (.wide (k := 11) ⟨_, Try.func11, kw_flotsamlaw16_wipe⟩ (LabC.none rfl)) <|
  Tab.cons (p := Fit Try.prog tbl) (.wide (k := 12) ⟨_, Try.func12, kw_flotsamlaw16_wipeExprs⟩ (LabC.none rfl)) <|
  Tab.cons (p := Fit Try.prog tbl) (.wide (k := 21) ⟨_, Try.func21, kw_tree_each_api_Proc⟩ (LabC.none rfl)) <|
  Tab.cons (p := Fit Try.prog tbl) (.wide (k := 22) ⟨_, Try.func22, kw_tree_Clone_1⟩ (LabC.none rfl)) <|
  Tab.cons (p := Fit Try.prog tbl) (.wide (k := 23) ⟨_, Try.func23, kw_tree_each_api_Stmt⟩ (LabC.none rfl)) <|
  Tab.cons (p := Fit Try.prog tbl) (.wide (k := 24) ⟨_, Try.func24, kw_tree_cloned⟩ (LabC.none rfl)) <|
  Tab.cons (p := Fit Try.prog tbl) (.wide (k := 25) ⟨_, Try.func25, kw_tree_each_api_Oracle⟩ (LabC.none rfl)) <|
  Tab.cons (p := Fit Try.prog tbl) (.wide (k := 26) ⟨_, Try.func26, kw_tree_Clone_2⟩ (LabC.none rfl)) <|
  Tab.cons (p := Fit Try.prog tbl) (.wide (k := 27) ⟨_, Try.func27, kw_tree_clonedExpr⟩ (LabC.none rfl)) <|
  Tab.cons (p := Fit Try.prog tbl) (.wide (k := 52) ⟨_, Try.func52, kw_tree_each_api_Expr⟩ (LabC.none rfl)) <|
  Tab.cons (p := Fit Try.prog tbl) (.label (Nat.le_of_ble_eq_true rfl) (Nat.le_of_ble_eq_true rfl)) <|
  Tab.cons (p := Fit Try.prog tbl) (.label (Nat.le_of_ble_eq_true rfl) (Nat.le_of_ble_eq_true rfl)) <|
  Tab.cons (p := Fit Try.prog tbl) (.label (Nat.le_of_ble_eq_true rfl) (Nat.le_of_ble_eq_true rfl)) <|
  Tab.nil

theorem fits : ∀ k af, tbl k = some af → k < yBase → (∃ fn, Try.prog.funcs[k]? = some fn ∧ chkF Try.prog fn af = true) ∧ LabC tbl af.body := fun k af h => (fitsAll k af h).1
theorem fitsW : ∀ k af, tbl (wTab k) = some af → (∃ fn, Try.prog.funcs[k]? = some fn ∧ chkW Try.prog fn af = true) ∧ LabC tbl af.body := fun k af h => (fitsAll _ af h).2 k rfl

end Go.Proofs.Ytfbmemcafekbkaa
