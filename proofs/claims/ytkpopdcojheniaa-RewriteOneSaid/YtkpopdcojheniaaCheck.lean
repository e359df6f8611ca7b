/-
 The abstract code of each function fits the loaded function; printed by a program (gen.py).
-/
import Derived.Test.YtkpopdcojheniaaCode
import Derived.Test.YtkpopdcojheniaaRun
import Derived.Test.YtkpopdcojheniaaChecked
namespace Go.Proofs.Ytkpopdcojheniaa
open Go.AM
theorem k_l16_Small : chkF Try.prog Try.f6 c_l16_Small = true := by kernel_rfl
theorem k_flotsamlaw26_knows : chkF Try.prog Try.f7 c_flotsamlaw26_knows = true := by kernel_rfl
theorem k_rewrite_Number : chkF Try.prog Try.f10 c_rewrite_Number = true := by kernel_rfl
theorem k_r16_Same : chkF Try.prog Try.f12 c_r16_Same = true := by kernel_rfl
theorem k_site_Fits : chkF Try.prog Try.f13 c_site_Fits = true := by kernel_rfl
theorem k_site_At : chkF Try.prog Try.f15 c_site_At = true := by kernel_rfl
theorem k_tree_Right : chkF Try.prog Try.f16 c_tree_Right = true := by kernel_rfl
theorem k_tree_All : chkF Try.prog Try.f17 c_tree_All = true := by kernel_rfl
theorem k_r16_SameStmts : chkF Try.prog Try.f18 c_r16_SameStmts = true := by kernel_rfl
theorem k_flotsamlaw26_drops : chkF Try.prog Try.f19 c_flotsamlaw26_drops = true := by kernel_rfl
theorem k_r16_SameStmt : chkF Try.prog Try.f20 c_r16_SameStmt = true := by kernel_rfl
theorem k_flotsamlaw26_bare : chkF Try.prog Try.f21 c_flotsamlaw26_bare = true := by kernel_rfl
theorem k_r16_Size : chkF Try.prog Try.f22 c_r16_Size = true := by kernel_rfl
theorem k_tree_Clone : chkF Try.prog Try.f23 c_tree_Clone = true := by kernel_rfl
theorem k_tree_Count : chkF Try.prog Try.f29 c_tree_Count = true := by kernel_rfl
theorem k_rewrite_ahead : chkF Try.prog Try.f30 c_rewrite_ahead = true := by kernel_rfl
theorem k_r16_SameExpr : chkF Try.prog Try.f33 c_r16_SameExpr = true := by kernel_rfl
theorem k_site_fits : chkF Try.prog Try.f34 c_site_fits = true := by kernel_rfl
theorem k_site_lead : chkF Try.prog Try.f35 c_site_lead = true := by kernel_rfl
theorem k_tree_Right_1 : chkF Try.prog Try.f37 c_tree_Right_1 = true := by kernel_rfl
theorem k_lex_Name : chkF Try.prog Try.f38 c_lex_Name = true := by kernel_rfl
theorem k_tree_Right_2 : chkF Try.prog Try.f39 c_tree_Right_2 = true := by kernel_rfl
theorem k_tree_expr : chkF Try.prog Try.f40 c_tree_expr = true := by kernel_rfl
theorem k_tree_Right_3 : chkF Try.prog Try.f41 c_tree_Right_3 = true := by kernel_rfl
theorem k_tree_block : chkF Try.prog Try.f42 c_tree_block = true := by kernel_rfl
theorem k_sC_Proc_api_Proc : chkF Try.prog Try.f43 c_sC_Proc_api_Proc = true := by kernel_rfl
theorem k_sC_Oracle_api_Oracle : chkF Try.prog Try.f44 c_sC_Oracle_api_Oracle = true := by kernel_rfl
theorem k_sC_Stmt_api_Stmt : chkF Try.prog Try.f45 c_sC_Stmt_api_Stmt = true := by kernel_rfl
theorem k_tree_parts : chkF Try.prog Try.f46 c_tree_parts = true := by kernel_rfl
theorem k_tree_walk : chkF Try.prog Try.f47 c_tree_walk = true := by kernel_rfl
theorem k_tree_cloned : chkF Try.prog Try.f48 c_tree_cloned = true := by kernel_rfl
theorem k_r16_block : chkF Try.prog Try.f49 c_r16_block = true := by kernel_rfl
theorem k_r16_expr : chkF Try.prog Try.f50 c_r16_expr = true := by kernel_rfl
theorem k_tree_each_api_Proc : chkF Try.prog Try.f51 c_tree_each_api_Proc = true := by kernel_rfl
theorem k_tree_Clone_1 : chkF Try.prog Try.f52 c_tree_Clone_1 = true := by kernel_rfl
theorem k_tree_each_api_Stmt : chkF Try.prog Try.f53 c_tree_each_api_Stmt = true := by kernel_rfl
theorem k_tree_each_api_Oracle : chkF Try.prog Try.f54 c_tree_each_api_Oracle = true := by kernel_rfl
theorem k_tree_Clone_2 : chkF Try.prog Try.f55 c_tree_Clone_2 = true := by kernel_rfl
theorem k_tree_clonedExpr : chkF Try.prog Try.f56 c_tree_clonedExpr = true := by kernel_rfl
theorem k_site_writes : chkF Try.prog Try.f68 c_site_writes = true := by kernel_rfl
theorem k_site_torn : chkF Try.prog Try.f69 c_site_torn = true := by kernel_rfl
theorem k_site_parts : chkF Try.prog Try.f70 c_site_parts = true := by kernel_rfl
theorem k_site_may : chkF Try.prog Try.f71 c_site_may = true := by kernel_rfl
theorem k_site_next : chkF Try.prog Try.f72 c_site_next = true := by kernel_rfl
theorem k_lex_begins : chkF Try.prog Try.f74 c_lex_begins = true := by kernel_rfl
theorem k_lex_letter : chkF Try.prog Try.f75 c_lex_letter = true := by kernel_rfl
theorem k_lex_inner : chkF Try.prog Try.f77 c_lex_inner = true := by kernel_rfl
theorem k_lex_Key : chkF Try.prog Try.f78 c_lex_Key = true := by kernel_rfl
theorem k_tree_Parts : chkF Try.prog Try.f79 c_tree_Parts = true := by kernel_rfl
theorem k_sC_Expr_api_Expr : chkF Try.prog Try.f80 c_sC_Expr_api_Expr = true := by kernel_rfl
theorem k_tree_expr_1 : chkF Try.prog Try.f81 c_tree_expr_1 = true := by kernel_rfl
theorem k_sC_Stmt_api_Stmt_x : chkF Try.prog Try.f82 c_sC_Stmt_api_Stmt_x = true := by kernel_rfl
theorem k_tree_block_1 : chkF Try.prog Try.f83 c_tree_block_1 = true := by kernel_rfl
theorem k_tree_stmt : chkF Try.prog Try.f84 c_tree_stmt = true := by kernel_rfl
theorem k_sI_Proc_api_Proc : chkF Try.prog Try.f85 c_sI_Proc_api_Proc = true := by kernel_rfl
theorem k_sI_Oracle_api_Oracle : chkF Try.prog Try.f86 c_sI_Oracle_api_Oracle = true := by kernel_rfl
theorem k_sI_Stmt_api_Stmt : chkF Try.prog Try.f87 c_sI_Stmt_api_Stmt = true := by kernel_rfl
theorem k_tree_walk_1 : chkF Try.prog Try.f88 c_tree_walk_1 = true := by kernel_rfl
theorem k_tree_each_api_Expr : chkF Try.prog Try.f89 c_tree_each_api_Expr = true := by kernel_rfl
theorem k_lex_digit : chkF Try.prog Try.f93 c_lex_digit = true := by kernel_rfl
theorem k_sI_Expr_api_Expr : chkF Try.prog Try.f95 c_sI_Expr_api_Expr = true := by kernel_rfl
theorem k_sI_Stmt_api_Stmt_x : chkF Try.prog Try.f96 c_sI_Stmt_api_Stmt_x = true := by kernel_rfl
theorem k_tree_shape : chkF Try.prog Try.f97 c_tree_shape = true := by kernel_rfl
theorem k_tree_stmt_1 : chkF Try.prog Try.f98 c_tree_stmt_1 = true := by kernel_rfl
theorem k_tree_Exprs : chkF Try.prog Try.f101 c_tree_Exprs = true := by kernel_rfl
theorem k_tree_blocks : chkF Try.prog Try.f102 c_tree_blocks = true := by kernel_rfl
theorem k_tree_shape_1 : chkF Try.prog Try.f103 c_tree_shape_1 = true := by kernel_rfl
theorem lab_tree_All : LabC tbl c_tree_All.body := LabC.list (l := [(q_tree_All_0, a_tree_All_0, y_tree_All_0)]) (by kernel_rfl) ⟨u_tree_All_0, trivial⟩
theorem lab_tree_Count : LabC tbl c_tree_Count.body := LabC.list (l := [(q_tree_Count_0, a_tree_Count_0, y_tree_Count_0)]) (by kernel_rfl) ⟨u_tree_Count_0, trivial⟩
theorem lab_tree_walk_1 : LabC tbl c_tree_walk_1.body := LabC.list (l := [(q_tree_walk_1_0, a_tree_walk_1_0, y_tree_walk_1_0)]) (by kernel_rfl) ⟨u_tree_walk_1_0, trivial⟩
theorem kw_flotsamlaw26_RewriteOne : chkW Try.prog Try.f5 c_flotsamlaw26_RewriteOne_w = true := by kernel_rfl
theorem kw_rewrite_Apply : chkW Try.prog Try.f8 c_rewrite_Apply_w = true := by kernel_rfl
theorem kw_tree_Clone : chkW Try.prog Try.f23 c_tree_Clone_w = true := by kernel_rfl
theorem kw_rewrite_along : chkW Try.prog Try.f24 c_rewrite_along_w = true := by kernel_rfl
theorem kw_rewrite_by : chkW Try.prog Try.f25 c_rewrite_by_w = true := by kernel_rfl
theorem kw_tree_cloned : chkW Try.prog Try.f48 c_tree_cloned_w = true := by kernel_rfl
theorem kw_tree_each_api_Proc : chkW Try.prog Try.f51 c_tree_each_api_Proc_w = true := by kernel_rfl
theorem kw_tree_Clone_1 : chkW Try.prog Try.f52 c_tree_Clone_1_w = true := by kernel_rfl
theorem kw_tree_each_api_Stmt : chkW Try.prog Try.f53 c_tree_each_api_Stmt_w = true := by kernel_rfl
theorem kw_tree_each_api_Oracle : chkW Try.prog Try.f54 c_tree_each_api_Oracle_w = true := by kernel_rfl
theorem kw_tree_Clone_2 : chkW Try.prog Try.f55 c_tree_Clone_2_w = true := by kernel_rfl
theorem kw_tree_clonedExpr : chkW Try.prog Try.f56 c_tree_clonedExpr_w = true := by kernel_rfl
theorem kw_rewrite_change : chkW Try.prog Try.f57 c_rewrite_change_w = true := by kernel_rfl
theorem kw_rewrite_by_1 : chkW Try.prog Try.f58 c_rewrite_by_1_w = true := by kernel_rfl
theorem kw_rewrite_by_2 : chkW Try.prog Try.f59 c_rewrite_by_2_w = true := by kernel_rfl
theorem kw_rewrite_half : chkW Try.prog Try.f60 c_rewrite_half_w = true := by kernel_rfl
theorem kw_rewrite_by_3 : chkW Try.prog Try.f61 c_rewrite_by_3_w = true := by kernel_rfl
theorem kw_rewrite_by_4 : chkW Try.prog Try.f62 c_rewrite_by_4_w = true := by kernel_rfl
theorem kw_slices_Delete_api_Stmt_api_Stmt : chkW Try.prog Try.f63 c_slices_Delete_api_Stmt_api_Stmt_w = true := by kernel_rfl
theorem kw_tree_each_api_Expr : chkW Try.prog Try.f89 c_tree_each_api_Expr_w = true := by kernel_rfl
theorem kw_rewrite_change_1 : chkW Try.prog Try.f90 c_rewrite_change_1_w = true := by kernel_rfl
set_option maxRecDepth 100000 in
theorem fitsAll : ∀ k af, tbl k = some af → Fit Try.prog tbl k af :=
 Tab.cons (p := Fit Try.prog tbl) (.plain ⟨_, Try.func6, k_l16_Small⟩ (LabC.none rfl)) <|
 Tab.cons (p := Fit Try.prog tbl) (.plain ⟨_, Try.func7, k_flotsamlaw26_knows⟩ (LabC.none rfl)) <|
 Tab.cons (p := Fit Try.prog tbl) (.plain ⟨_, Try.func10, k_rewrite_Number⟩ (LabC.none rfl)) <|
 Tab.cons (p := Fit Try.prog tbl) (.plain ⟨_, Try.func12, k_r16_Same⟩ (LabC.none rfl)) <|
 Tab.cons (p := Fit Try.prog tbl) (.plain ⟨_, Try.func13, k_site_Fits⟩ (LabC.none rfl)) <|
 Tab.cons (p := Fit Try.prog tbl) (.plain ⟨_, Try.func15, k_site_At⟩ (LabC.none rfl)) <|
 Tab.cons (p := Fit Try.prog tbl) (.plain ⟨_, Try.func16, k_tree_Right⟩ (LabC.none rfl)) <|
 Tab.cons (p := Fit Try.prog tbl) (.plain ⟨_, Try.func17, k_tree_All⟩ lab_tree_All) <|
 Tab.cons (p := Fit Try.prog tbl) (.plain ⟨_, Try.func18, k_r16_SameStmts⟩ (LabC.none rfl)) <|
 Tab.cons (p := Fit Try.prog tbl) (.plain ⟨_, Try.func19, k_flotsamlaw26_drops⟩ (LabC.none rfl)) <|
 Tab.cons (p := Fit Try.prog tbl) (.plain ⟨_, Try.func20, k_r16_SameStmt⟩ (LabC.none rfl)) <|
 Tab.cons (p := Fit Try.prog tbl) (.plain ⟨_, Try.func21, k_flotsamlaw26_bare⟩ (LabC.none rfl)) <|
 Tab.cons (p := Fit Try.prog tbl) (.plain ⟨_, Try.func22, k_r16_Size⟩ (LabC.none rfl)) <|
 Tab.cons (p := Fit Try.prog tbl) (.plain ⟨_, Try.func23, k_tree_Clone⟩ (LabC.none rfl)) <|
 Tab.cons (p := Fit Try.prog tbl) (.plain ⟨_, Try.func29, k_tree_Count⟩ lab_tree_Count) <|
 Tab.cons (p := Fit Try.prog tbl) (.plain ⟨_, Try.func30, k_rewrite_ahead⟩ (LabC.none rfl)) <|
 Tab.cons (p := Fit Try.prog tbl) (.plain ⟨_, Try.func33, k_r16_SameExpr⟩ (LabC.none rfl)) <|
 Tab.cons (p := Fit Try.prog tbl) (.plain ⟨_, Try.func34, k_site_fits⟩ (LabC.none rfl)) <|
 Tab.cons (p := Fit Try.prog tbl) (.plain ⟨_, Try.func35, k_site_lead⟩ (LabC.none rfl)) <|
 Tab.cons (p := Fit Try.prog tbl) (.plain ⟨_, Try.func37, k_tree_Right_1⟩ (LabC.none rfl)) <|
 Tab.cons (p := Fit Try.prog tbl) (.plain ⟨_, Try.func38, k_lex_Name⟩ (LabC.none rfl)) <|
 Tab.cons (p := Fit Try.prog tbl) (.plain ⟨_, Try.func39, k_tree_Right_2⟩ (LabC.none rfl)) <|
 Tab.cons (p := Fit Try.prog tbl) (.plain ⟨_, Try.func40, k_tree_expr⟩ (LabC.none rfl)) <|
 Tab.cons (p := Fit Try.prog tbl) (.plain ⟨_, Try.func41, k_tree_Right_3⟩ (LabC.none rfl)) <|
 Tab.cons (p := Fit Try.prog tbl) (.plain ⟨_, Try.func42, k_tree_block⟩ (LabC.none rfl)) <|
 Tab.cons (p := Fit Try.prog tbl) (.plain ⟨_, Try.func43, k_sC_Proc_api_Proc⟩ (LabC.none rfl)) <|
 Tab.cons (p := Fit Try.prog tbl) (.plain ⟨_, Try.func44, k_sC_Oracle_api_Oracle⟩ (LabC.none rfl)) <|
 Tab.cons (p := Fit Try.prog tbl) (.plain ⟨_, Try.func45, k_sC_Stmt_api_Stmt⟩ (LabC.none rfl)) <|
 Tab.cons (p := Fit Try.prog tbl) (.plain ⟨_, Try.func46, k_tree_parts⟩ (LabC.none rfl)) <|
 Tab.cons (p := Fit Try.prog tbl) (.plain ⟨_, Try.func47, k_tree_walk⟩ (LabC.none rfl)) <|
 Tab.cons (p := Fit Try.prog tbl) (.plain ⟨_, Try.func48, k_tree_cloned⟩ (LabC.none rfl)) <|
 Tab.cons (p := Fit Try.prog tbl) (.plain ⟨_, Try.func49, k_r16_block⟩ (LabC.none rfl)) <|
 Tab.cons (p := Fit Try.prog tbl) (.plain ⟨_, Try.func50, k_r16_expr⟩ (LabC.none rfl)) <|
 Tab.cons (p := Fit Try.prog tbl) (.plain ⟨_, Try.func51, k_tree_each_api_Proc⟩ (LabC.none rfl)) <|
 Tab.cons (p := Fit Try.prog tbl) (.plain ⟨_, Try.func52, k_tree_Clone_1⟩ (LabC.none rfl)) <|
 Tab.cons (p := Fit Try.prog tbl) (.plain ⟨_, Try.func53, k_tree_each_api_Stmt⟩ (LabC.none rfl)) <|
 Tab.cons (p := Fit Try.prog tbl) (.plain ⟨_, Try.func54, k_tree_each_api_Oracle⟩ (LabC.none rfl)) <|
 Tab.cons (p := Fit Try.prog tbl) (.plain ⟨_, Try.func55, k_tree_Clone_2⟩ (LabC.none rfl)) <|
 Tab.cons (p := Fit Try.prog tbl) (.plain ⟨_, Try.func56, k_tree_clonedExpr⟩ (LabC.none rfl)) <|
 Tab.cons (p := Fit Try.prog tbl) (.plain ⟨_, Try.func68, k_site_writes⟩ (LabC.none rfl)) <|
 Tab.cons (p := Fit Try.prog tbl) (.plain ⟨_, Try.func69, k_site_torn⟩ (LabC.none rfl)) <|
 Tab.cons (p := Fit Try.prog tbl) (.plain ⟨_, Try.func70, k_site_parts⟩ (LabC.none rfl)) <|
 Tab.cons (p := Fit Try.prog tbl) (.plain ⟨_, Try.func71, k_site_may⟩ (LabC.none rfl)) <|
 Tab.cons (p := Fit Try.prog tbl) (.plain ⟨_, Try.func72, k_site_next⟩ (LabC.none rfl)) <|
 Tab.cons (p := Fit Try.prog tbl) (.plain ⟨_, Try.func74, k_lex_begins⟩ (LabC.none rfl)) <|
 Tab.cons (p := Fit Try.prog tbl) (.plain ⟨_, Try.func75, k_lex_letter⟩ (LabC.none rfl)) <|
 Tab.cons (p := Fit Try.prog tbl) (.plain ⟨_, Try.func77, k_lex_inner⟩ (LabC.none rfl)) <|
 Tab.cons (p := Fit Try.prog tbl) (.plain ⟨_, Try.func78, k_lex_Key⟩ (LabC.none rfl)) <|
 Tab.cons (p := Fit Try.prog tbl) (.plain ⟨_, Try.func79, k_tree_Parts⟩ (LabC.none rfl)) <|
 Tab.cons (p := Fit Try.prog tbl) (.plain ⟨_, Try.func80, k_sC_Expr_api_Expr⟩ (LabC.none rfl)) <|
 Tab.cons (p := Fit Try.prog tbl) (.plain ⟨_, Try.func81, k_tree_expr_1⟩ (LabC.none rfl)) <|
 Tab.cons (p := Fit Try.prog tbl) (.plain ⟨_, Try.func82, k_sC_Stmt_api_Stmt_x⟩ (LabC.none rfl)) <|
 Tab.cons (p := Fit Try.prog tbl) (.plain ⟨_, Try.func83, k_tree_block_1⟩ (LabC.none rfl)) <|
 Tab.cons (p := Fit Try.prog tbl) (.plain ⟨_, Try.func84, k_tree_stmt⟩ (LabC.none rfl)) <|
 Tab.cons (p := Fit Try.prog tbl) (.plain ⟨_, Try.func85, k_sI_Proc_api_Proc⟩ (LabC.none rfl)) <|
 Tab.cons (p := Fit Try.prog tbl) (.plain ⟨_, Try.func86, k_sI_Oracle_api_Oracle⟩ (LabC.none rfl)) <|
 Tab.cons (p := Fit Try.prog tbl) (.plain ⟨_, Try.func87, k_sI_Stmt_api_Stmt⟩ (LabC.none rfl)) <|
 Tab.cons (p := Fit Try.prog tbl) (.plain ⟨_, Try.func88, k_tree_walk_1⟩ lab_tree_walk_1) <|
 Tab.cons (p := Fit Try.prog tbl) (.plain ⟨_, Try.func89, k_tree_each_api_Expr⟩ (LabC.none rfl)) <|
 Tab.cons (p := Fit Try.prog tbl) (.plain ⟨_, Try.func93, k_lex_digit⟩ (LabC.none rfl)) <|
 Tab.cons (p := Fit Try.prog tbl) (.plain ⟨_, Try.func95, k_sI_Expr_api_Expr⟩ (LabC.none rfl)) <|
 Tab.cons (p := Fit Try.prog tbl) (.plain ⟨_, Try.func96, k_sI_Stmt_api_Stmt_x⟩ (LabC.none rfl)) <|
 Tab.cons (p := Fit Try.prog tbl) (.plain ⟨_, Try.func97, k_tree_shape⟩ (LabC.none rfl)) <|
 Tab.cons (p := Fit Try.prog tbl) (.plain ⟨_, Try.func98, k_tree_stmt_1⟩ (LabC.none rfl)) <|
 Tab.cons (p := Fit Try.prog tbl) (.plain ⟨_, Try.func101, k_tree_Exprs⟩ (LabC.none rfl)) <|
 Tab.cons (p := Fit Try.prog tbl) (.plain ⟨_, Try.func102, k_tree_blocks⟩ (LabC.none rfl)) <|
 Tab.cons (p := Fit Try.prog tbl) (.plain ⟨_, Try.func103, k_tree_shape_1⟩ (LabC.none rfl)) <|
 Tab.cons (p := Fit Try.prog tbl) (.wide (k := 5) ⟨_, Try.func5, kw_flotsamlaw26_RewriteOne⟩ (LabC.none rfl)) <|
 Tab.cons (p := Fit Try.prog tbl) (.wide (k := 8) ⟨_, Try.func8, kw_rewrite_Apply⟩ (LabC.none rfl)) <|
 Tab.cons (p := Fit Try.prog tbl) (.wide (k := 23) ⟨_, Try.func23, kw_tree_Clone⟩ (LabC.none rfl)) <|
 Tab.cons (p := Fit Try.prog tbl) (.wide (k := 24) ⟨_, Try.func24, kw_rewrite_along⟩ (LabC.none rfl)) <|
 Tab.cons (p := Fit Try.prog tbl) (.wide (k := 25) ⟨_, Try.func25, kw_rewrite_by⟩ (LabC.none rfl)) <|
 Tab.cons (p := Fit Try.prog tbl) (.wide (k := 48) ⟨_, Try.func48, kw_tree_cloned⟩ (LabC.none rfl)) <|
 Tab.cons (p := Fit Try.prog tbl) (.wide (k := 51) ⟨_, Try.func51, kw_tree_each_api_Proc⟩ (LabC.none rfl)) <|
 Tab.cons (p := Fit Try.prog tbl) (.wide (k := 52) ⟨_, Try.func52, kw_tree_Clone_1⟩ (LabC.none rfl)) <|
 Tab.cons (p := Fit Try.prog tbl) (.wide (k := 53) ⟨_, Try.func53, kw_tree_each_api_Stmt⟩ (LabC.none rfl)) <|
 Tab.cons (p := Fit Try.prog tbl) (.wide (k := 54) ⟨_, Try.func54, kw_tree_each_api_Oracle⟩ (LabC.none rfl)) <|
 Tab.cons (p := Fit Try.prog tbl) (.wide (k := 55) ⟨_, Try.func55, kw_tree_Clone_2⟩ (LabC.none rfl)) <|
 Tab.cons (p := Fit Try.prog tbl) (.wide (k := 56) ⟨_, Try.func56, kw_tree_clonedExpr⟩ (LabC.none rfl)) <|
 Tab.cons (p := Fit Try.prog tbl) (.wide (k := 57) ⟨_, Try.func57, kw_rewrite_change⟩ (LabC.none rfl)) <|
 Tab.cons (p := Fit Try.prog tbl) (.wide (k := 58) ⟨_, Try.func58, kw_rewrite_by_1⟩ (LabC.none rfl)) <|
 Tab.cons (p := Fit Try.prog tbl) (.wide (k := 59) ⟨_, Try.func59, kw_rewrite_by_2⟩ (LabC.none rfl)) <|
 Tab.cons (p := Fit Try.prog tbl) (.wide (k := 60) ⟨_, Try.func60, kw_rewrite_half⟩ (LabC.none rfl)) <|
 Tab.cons (p := Fit Try.prog tbl) (.wide (k := 61) ⟨_, Try.func61, kw_rewrite_by_3⟩ (LabC.none rfl)) <|
 Tab.cons (p := Fit Try.prog tbl) (.wide (k := 62) ⟨_, Try.func62, kw_rewrite_by_4⟩ (LabC.none rfl)) <|
 Tab.cons (p := Fit Try.prog tbl) (.wide (k := 63) ⟨_, Try.func63, kw_slices_Delete_api_Stmt_api_Stmt⟩ (LabC.none rfl)) <|
 Tab.cons (p := Fit Try.prog tbl) (.wide (k := 89) ⟨_, Try.func89, kw_tree_each_api_Expr⟩ (LabC.none rfl)) <|
 Tab.cons (p := Fit Try.prog tbl) (.wide (k := 90) ⟨_, Try.func90, kw_rewrite_change_1⟩ (LabC.none rfl)) <|
 Tab.cons (p := Fit Try.prog tbl) (.label (Nat.le_of_ble_eq_true rfl) (Nat.le_of_ble_eq_true rfl)) <|
 Tab.cons (p := Fit Try.prog tbl) (.label (Nat.le_of_ble_eq_true rfl) (Nat.le_of_ble_eq_true rfl)) <|
 Tab.cons (p := Fit Try.prog tbl) (.label (Nat.le_of_ble_eq_true rfl) (Nat.le_of_ble_eq_true rfl)) <|
 Tab.nil
theorem fits : ∀ k af, tbl k = some af → k < yBase → (∃ fn, Try.prog.funcs[k]? = some fn ∧ chkF Try.prog fn af = true) ∧ LabC tbl af.body := fun k af h => (fitsAll k af h).1
theorem fitsW : ∀ k af, tbl (wTab k) = some af → (∃ fn, Try.prog.funcs[k]? = some fn ∧ chkW Try.prog fn af = true) ∧ LabC tbl af.body := fun k af h => (fitsAll _ af h).2 k rfl
end Go.Proofs.Ytkpopdcojheniaa
