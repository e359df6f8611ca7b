/-
 The abstract code of each function fits the loaded function; printed by a program (gen.py).
-/
import Derived.Test.YtehbmajjoolcnaaGreatCode
import Derived.Test.YtehbmajjoolcnaaGreatRun
import Derived.Test.YtehbmajjoolcnaaGreatChecked
namespace Go.Proofs.YtehbmajjoolcnaaGreat
open Go.AM
theorem k_flotsamlaw20_BoundTells : chkF Tryz.prog Tryz.f3 c_flotsamlaw20_BoundTells = true := by kernel_rfl
theorem k_l16_Small : chkF Tryz.prog Tryz.f4 c_l16_Small = true := by kernel_rfl
theorem k_flotsamlaw20_knows : chkF Tryz.prog Tryz.f5 c_flotsamlaw20_knows = true := by kernel_rfl
theorem k_bound_Steps : chkF Tryz.prog Tryz.f6 c_bound_Steps = true := by kernel_rfl
theorem k_r20_Steps : chkF Tryz.prog Tryz.f7 c_r20_Steps = true := by kernel_rfl
theorem k_bound_Calls : chkF Tryz.prog Tryz.f8 c_bound_Calls = true := by kernel_rfl
theorem k_r20_Calls : chkF Tryz.prog Tryz.f9 c_r20_Calls = true := by kernel_rfl
theorem k_flotsamlaw04_Ints : chkF Tryz.prog Tryz.f10 c_flotsamlaw04_Ints = true := by kernel_rfl
theorem k_l15_Fault : chkF Tryz.prog Tryz.f11 c_l15_Fault = true := by kernel_rfl
theorem k_bound_Check : chkF Tryz.prog Tryz.f12 c_bound_Check = true := by kernel_rfl
theorem k_r20_Check : chkF Tryz.prog Tryz.f13 c_r20_Check = true := by kernel_rfl
theorem k_r16_Size : chkF Tryz.prog Tryz.f14 c_r16_Size = true := by kernel_rfl
theorem k_bound_fine : chkF Tryz.prog Tryz.f15 c_bound_fine = true := by kernel_rfl
theorem k_bound_known_steps : chkF Tryz.prog Tryz.f16 c_bound_known_steps = true := by kernel_rfl
theorem k_r19_Check : chkF Tryz.prog Tryz.f17 c_r19_Check = true := by kernel_rfl
theorem k_r20_steps : chkF Tryz.prog Tryz.f18 c_r20_steps = true := by kernel_rfl
theorem k_bound_known_deep : chkF Tryz.prog Tryz.f19 c_bound_known_deep = true := by kernel_rfl
theorem k_r20_calls : chkF Tryz.prog Tryz.f20 c_r20_calls = true := by kernel_rfl
theorem k_tree_All : chkF Tryz.prog Tryz.f22 c_tree_All = true := by kernel_rfl
theorem k_tree_Count : chkF Tryz.prog Tryz.f23 c_tree_Count = true := by kernel_rfl
theorem k_r16_Count : chkF Tryz.prog Tryz.f24 c_r16_Count = true := by kernel_rfl
theorem k_r16_block : chkF Tryz.prog Tryz.f25 c_r16_block = true := by kernel_rfl
theorem k_r16_expr : chkF Tryz.prog Tryz.f26 c_r16_expr = true := by kernel_rfl
theorem k_r16_Right : chkF Tryz.prog Tryz.f27 c_r16_Right = true := by kernel_rfl
theorem k_r19_has : chkF Tryz.prog Tryz.f28 c_r19_has = true := by kernel_rfl
theorem k_r19_block : chkF Tryz.prog Tryz.f29 c_r19_block = true := by kernel_rfl
theorem k_r19_Type : chkF Tryz.prog Tryz.f30 c_r19_Type = true := by kernel_rfl
theorem k_tree_Right : chkF Tryz.prog Tryz.f31 c_tree_Right = true := by kernel_rfl
theorem k_ptypes_checker_fail : chkF Tryz.prog Tryz.f32 c_ptypes_checker_fail = true := by kernel_rfl
theorem k_tree_parts : chkF Tryz.prog Tryz.f34 c_tree_parts = true := by kernel_rfl
theorem k_tree_walk : chkF Tryz.prog Tryz.f35 c_tree_walk = true := by kernel_rfl
theorem k_tree_cloned : chkF Tryz.prog Tryz.f36 c_tree_cloned = true := by kernel_rfl
theorem k_r16_All : chkF Tryz.prog Tryz.f37 c_r16_All = true := by kernel_rfl
theorem k_r15_Name : chkF Tryz.prog Tryz.f38 c_r15_Name = true := by kernel_rfl
theorem k_r16_Block : chkF Tryz.prog Tryz.f39 c_r16_Block = true := by kernel_rfl
theorem k_r16_Expr : chkF Tryz.prog Tryz.f40 c_r16_Expr = true := by kernel_rfl
theorem k_r19_stmt : chkF Tryz.prog Tryz.f41 c_r19_stmt = true := by kernel_rfl
theorem k_r19_kind : chkF Tryz.prog Tryz.f42 c_r19_kind = true := by kernel_rfl
theorem k_r19_want : chkF Tryz.prog Tryz.f43 c_r19_want = true := by kernel_rfl
theorem k_tree_Right_1 : chkF Tryz.prog Tryz.f44 c_tree_Right_1 = true := by kernel_rfl
theorem k_lex_Name : chkF Tryz.prog Tryz.f45 c_lex_Name = true := by kernel_rfl
theorem k_tree_Right_2 : chkF Tryz.prog Tryz.f46 c_tree_Right_2 = true := by kernel_rfl
theorem k_tree_expr : chkF Tryz.prog Tryz.f47 c_tree_expr = true := by kernel_rfl
theorem k_tree_Right_3 : chkF Tryz.prog Tryz.f48 c_tree_Right_3 = true := by kernel_rfl
theorem k_tree_block : chkF Tryz.prog Tryz.f49 c_tree_block = true := by kernel_rfl
theorem k_sC_Proc_api_Proc : chkF Tryz.prog Tryz.f50 c_sC_Proc_api_Proc = true := by kernel_rfl
theorem k_sC_Oracle_api_Oracle : chkF Tryz.prog Tryz.f51 c_sC_Oracle_api_Oracle = true := by kernel_rfl
theorem k_sC_Stmt_api_Stmt : chkF Tryz.prog Tryz.f52 c_sC_Stmt_api_Stmt = true := by kernel_rfl
theorem k_ptypes_checker_exprs : chkF Tryz.prog Tryz.f53 c_ptypes_checker_exprs = true := by kernel_rfl
theorem k_ptypes_checker_let : chkF Tryz.prog Tryz.f54 c_ptypes_checker_let = true := by kernel_rfl
theorem k_tree_walk_1 : chkF Tryz.prog Tryz.f55 c_tree_walk_1 = true := by kernel_rfl
theorem k_tree_each_api_Expr : chkF Tryz.prog Tryz.f56 c_tree_each_api_Expr = true := by kernel_rfl
theorem k_tree_clonedExpr : chkF Tryz.prog Tryz.f57 c_tree_clonedExpr = true := by kernel_rfl
theorem k_tree_each_api_Stmt : chkF Tryz.prog Tryz.f58 c_tree_each_api_Stmt = true := by kernel_rfl
theorem k_r16_list : chkF Tryz.prog Tryz.f59 c_r16_list = true := by kernel_rfl
theorem k_r15_letter : chkF Tryz.prog Tryz.f60 c_r15_letter = true := by kernel_rfl
theorem k_r15_Key : chkF Tryz.prog Tryz.f61 c_r15_Key = true := by kernel_rfl
theorem k_r15_inner : chkF Tryz.prog Tryz.f62 c_r15_inner = true := by kernel_rfl
theorem k_r16_Stmt : chkF Tryz.prog Tryz.f63 c_r16_Stmt = true := by kernel_rfl
theorem k_r16_Parts : chkF Tryz.prog Tryz.f64 c_r16_Parts = true := by kernel_rfl
theorem k_r19_wants : chkF Tryz.prog Tryz.f65 c_r19_wants = true := by kernel_rfl
theorem k_lex_begins : chkF Tryz.prog Tryz.f66 c_lex_begins = true := by kernel_rfl
theorem k_lex_letter : chkF Tryz.prog Tryz.f67 c_lex_letter = true := by kernel_rfl
theorem k_lex_inner : chkF Tryz.prog Tryz.f69 c_lex_inner = true := by kernel_rfl
theorem k_lex_Key : chkF Tryz.prog Tryz.f70 c_lex_Key = true := by kernel_rfl
theorem k_tree_Parts : chkF Tryz.prog Tryz.f71 c_tree_Parts = true := by kernel_rfl
theorem k_sC_Expr_api_Expr : chkF Tryz.prog Tryz.f72 c_sC_Expr_api_Expr = true := by kernel_rfl
theorem k_tree_expr_1 : chkF Tryz.prog Tryz.f73 c_tree_expr_1 = true := by kernel_rfl
theorem k_sC_Stmt_api_Stmt_x : chkF Tryz.prog Tryz.f74 c_sC_Stmt_api_Stmt_x = true := by kernel_rfl
theorem k_tree_block_1 : chkF Tryz.prog Tryz.f75 c_tree_block_1 = true := by kernel_rfl
theorem k_tree_stmt : chkF Tryz.prog Tryz.f76 c_tree_stmt = true := by kernel_rfl
theorem k_sI_Proc_api_Proc : chkF Tryz.prog Tryz.f77 c_sI_Proc_api_Proc = true := by kernel_rfl
theorem k_sI_Oracle_api_Oracle : chkF Tryz.prog Tryz.f78 c_sI_Oracle_api_Oracle = true := by kernel_rfl
theorem k_sI_Stmt_api_Stmt : chkF Tryz.prog Tryz.f79 c_sI_Stmt_api_Stmt = true := by kernel_rfl
theorem k_types_of : chkF Tryz.prog Tryz.f80 c_types_of = true := by kernel_rfl
theorem k_types_scope_kind : chkF Tryz.prog Tryz.f81 c_types_scope_kind = true := by kernel_rfl
theorem k_types_wants : chkF Tryz.prog Tryz.f82 c_types_wants = true := by kernel_rfl
theorem k_r15_digit : chkF Tryz.prog Tryz.f83 c_r15_digit = true := by kernel_rfl
theorem k_r16_Exprs : chkF Tryz.prog Tryz.f84 c_r16_Exprs = true := by kernel_rfl
theorem k_lex_digit : chkF Tryz.prog Tryz.f87 c_lex_digit = true := by kernel_rfl
theorem k_sI_Expr_api_Expr : chkF Tryz.prog Tryz.f89 c_sI_Expr_api_Expr = true := by kernel_rfl
theorem k_sI_Stmt_api_Stmt_x : chkF Tryz.prog Tryz.f90 c_sI_Stmt_api_Stmt_x = true := by kernel_rfl
theorem k_tree_shape : chkF Tryz.prog Tryz.f91 c_tree_shape = true := by kernel_rfl
theorem k_tree_stmt_1 : chkF Tryz.prog Tryz.f92 c_tree_stmt_1 = true := by kernel_rfl
theorem k_types_is : chkF Tryz.prog Tryz.f93 c_types_is = true := by kernel_rfl
theorem k_tree_Exprs : chkF Tryz.prog Tryz.f96 c_tree_Exprs = true := by kernel_rfl
theorem k_tree_blocks : chkF Tryz.prog Tryz.f97 c_tree_blocks = true := by kernel_rfl
theorem k_tree_shape_1 : chkF Tryz.prog Tryz.f98 c_tree_shape_1 = true := by kernel_rfl
theorem lab_tree_All : LabC tbl c_tree_All.body := LabC.list (l := [(q_tree_All_0, a_tree_All_0, y_tree_All_0)]) (by kernel_rfl) ⟨u_tree_All_0, trivial⟩
theorem lab_tree_Count : LabC tbl c_tree_Count.body := LabC.list (l := [(q_tree_Count_0, a_tree_Count_0, y_tree_Count_0)]) (by kernel_rfl) ⟨u_tree_Count_0, trivial⟩
theorem lab_tree_walk_1 : LabC tbl c_tree_walk_1.body := LabC.list (l := [(q_tree_walk_1_0, a_tree_walk_1_0, y_tree_walk_1_0)]) (by kernel_rfl) ⟨u_tree_walk_1_0, trivial⟩
theorem kw_types_Check : chkW Tryz.prog Tryz.f21 c_types_Check_w = true := by kernel_rfl
theorem kw_ptypes_checker_block : chkW Tryz.prog Tryz.f33 c_ptypes_checker_block_w = true := by kernel_rfl
set_option maxRecDepth 100000 in
theorem fitsAll : ∀ k af, tbl k = some af → Fit Tryz.prog tbl k af :=
 Tab.cons (p := Fit Tryz.prog tbl) (.plain ⟨_, Tryz.func3, k_flotsamlaw20_BoundTells⟩ (LabC.none rfl)) <|
 Tab.cons (p := Fit Tryz.prog tbl) (.plain ⟨_, Tryz.func4, k_l16_Small⟩ (LabC.none rfl)) <|
 Tab.cons (p := Fit Tryz.prog tbl) (.plain ⟨_, Tryz.func5, k_flotsamlaw20_knows⟩ (LabC.none rfl)) <|
 Tab.cons (p := Fit Tryz.prog tbl) (.plain ⟨_, Tryz.func6, k_bound_Steps⟩ (LabC.none rfl)) <|
 Tab.cons (p := Fit Tryz.prog tbl) (.plain ⟨_, Tryz.func7, k_r20_Steps⟩ (LabC.none rfl)) <|
 Tab.cons (p := Fit Tryz.prog tbl) (.plain ⟨_, Tryz.func8, k_bound_Calls⟩ (LabC.none rfl)) <|
 Tab.cons (p := Fit Tryz.prog tbl) (.plain ⟨_, Tryz.func9, k_r20_Calls⟩ (LabC.none rfl)) <|
 Tab.cons (p := Fit Tryz.prog tbl) (.plain ⟨_, Tryz.func10, k_flotsamlaw04_Ints⟩ (LabC.none rfl)) <|
 Tab.cons (p := Fit Tryz.prog tbl) (.plain ⟨_, Tryz.func11, k_l15_Fault⟩ (LabC.none rfl)) <|
 Tab.cons (p := Fit Tryz.prog tbl) (.plain ⟨_, Tryz.func12, k_bound_Check⟩ (LabC.none rfl)) <|
 Tab.cons (p := Fit Tryz.prog tbl) (.plain ⟨_, Tryz.func13, k_r20_Check⟩ (LabC.none rfl)) <|
 Tab.cons (p := Fit Tryz.prog tbl) (.plain ⟨_, Tryz.func14, k_r16_Size⟩ (LabC.none rfl)) <|
 Tab.cons (p := Fit Tryz.prog tbl) (.plain ⟨_, Tryz.func15, k_bound_fine⟩ (LabC.none rfl)) <|
 Tab.cons (p := Fit Tryz.prog tbl) (.plain ⟨_, Tryz.func16, k_bound_known_steps⟩ (LabC.none rfl)) <|
 Tab.cons (p := Fit Tryz.prog tbl) (.plain ⟨_, Tryz.func17, k_r19_Check⟩ (LabC.none rfl)) <|
 Tab.cons (p := Fit Tryz.prog tbl) (.plain ⟨_, Tryz.func18, k_r20_steps⟩ (LabC.none rfl)) <|
 Tab.cons (p := Fit Tryz.prog tbl) (.plain ⟨_, Tryz.func19, k_bound_known_deep⟩ (LabC.none rfl)) <|
 Tab.cons (p := Fit Tryz.prog tbl) (.plain ⟨_, Tryz.func20, k_r20_calls⟩ (LabC.none rfl)) <|
 Tab.cons (p := Fit Tryz.prog tbl) (.plain ⟨_, Tryz.func22, k_tree_All⟩ lab_tree_All) <|
 Tab.cons (p := Fit Tryz.prog tbl) (.plain ⟨_, Tryz.func23, k_tree_Count⟩ lab_tree_Count) <|
 Tab.cons (p := Fit Tryz.prog tbl) (.plain ⟨_, Tryz.func24, k_r16_Count⟩ (LabC.none rfl)) <|
 Tab.cons (p := Fit Tryz.prog tbl) (.plain ⟨_, Tryz.func25, k_r16_block⟩ (LabC.none rfl)) <|
 Tab.cons (p := Fit Tryz.prog tbl) (.plain ⟨_, Tryz.func26, k_r16_expr⟩ (LabC.none rfl)) <|
 Tab.cons (p := Fit Tryz.prog tbl) (.plain ⟨_, Tryz.func27, k_r16_Right⟩ (LabC.none rfl)) <|
 Tab.cons (p := Fit Tryz.prog tbl) (.plain ⟨_, Tryz.func28, k_r19_has⟩ (LabC.none rfl)) <|
 Tab.cons (p := Fit Tryz.prog tbl) (.plain ⟨_, Tryz.func29, k_r19_block⟩ (LabC.none rfl)) <|
 Tab.cons (p := Fit Tryz.prog tbl) (.plain ⟨_, Tryz.func30, k_r19_Type⟩ (LabC.none rfl)) <|
 Tab.cons (p := Fit Tryz.prog tbl) (.plain ⟨_, Tryz.func31, k_tree_Right⟩ (LabC.none rfl)) <|
 Tab.cons (p := Fit Tryz.prog tbl) (.plain ⟨_, Tryz.func32, k_ptypes_checker_fail⟩ (LabC.none rfl)) <|
 Tab.cons (p := Fit Tryz.prog tbl) (.plain ⟨_, Tryz.func34, k_tree_parts⟩ (LabC.none rfl)) <|
 Tab.cons (p := Fit Tryz.prog tbl) (.plain ⟨_, Tryz.func35, k_tree_walk⟩ (LabC.none rfl)) <|
 Tab.cons (p := Fit Tryz.prog tbl) (.plain ⟨_, Tryz.func36, k_tree_cloned⟩ (LabC.none rfl)) <|
 Tab.cons (p := Fit Tryz.prog tbl) (.plain ⟨_, Tryz.func37, k_r16_All⟩ (LabC.none rfl)) <|
 Tab.cons (p := Fit Tryz.prog tbl) (.plain ⟨_, Tryz.func38, k_r15_Name⟩ (LabC.none rfl)) <|
 Tab.cons (p := Fit Tryz.prog tbl) (.plain ⟨_, Tryz.func39, k_r16_Block⟩ (LabC.none rfl)) <|
 Tab.cons (p := Fit Tryz.prog tbl) (.plain ⟨_, Tryz.func40, k_r16_Expr⟩ (LabC.none rfl)) <|
 Tab.cons (p := Fit Tryz.prog tbl) (.plain ⟨_, Tryz.func41, k_r19_stmt⟩ (LabC.none rfl)) <|
 Tab.cons (p := Fit Tryz.prog tbl) (.plain ⟨_, Tryz.func42, k_r19_kind⟩ (LabC.none rfl)) <|
 Tab.cons (p := Fit Tryz.prog tbl) (.plain ⟨_, Tryz.func43, k_r19_want⟩ (LabC.none rfl)) <|
 Tab.cons (p := Fit Tryz.prog tbl) (.plain ⟨_, Tryz.func44, k_tree_Right_1⟩ (LabC.none rfl)) <|
 Tab.cons (p := Fit Tryz.prog tbl) (.plain ⟨_, Tryz.func45, k_lex_Name⟩ (LabC.none rfl)) <|
 Tab.cons (p := Fit Tryz.prog tbl) (.plain ⟨_, Tryz.func46, k_tree_Right_2⟩ (LabC.none rfl)) <|
 Tab.cons (p := Fit Tryz.prog tbl) (.plain ⟨_, Tryz.func47, k_tree_expr⟩ (LabC.none rfl)) <|
 Tab.cons (p := Fit Tryz.prog tbl) (.plain ⟨_, Tryz.func48, k_tree_Right_3⟩ (LabC.none rfl)) <|
 Tab.cons (p := Fit Tryz.prog tbl) (.plain ⟨_, Tryz.func49, k_tree_block⟩ (LabC.none rfl)) <|
 Tab.cons (p := Fit Tryz.prog tbl) (.plain ⟨_, Tryz.func50, k_sC_Proc_api_Proc⟩ (LabC.none rfl)) <|
 Tab.cons (p := Fit Tryz.prog tbl) (.plain ⟨_, Tryz.func51, k_sC_Oracle_api_Oracle⟩ (LabC.none rfl)) <|
 Tab.cons (p := Fit Tryz.prog tbl) (.plain ⟨_, Tryz.func52, k_sC_Stmt_api_Stmt⟩ (LabC.none rfl)) <|
 Tab.cons (p := Fit Tryz.prog tbl) (.plain ⟨_, Tryz.func53, k_ptypes_checker_exprs⟩ (LabC.none rfl)) <|
 Tab.cons (p := Fit Tryz.prog tbl) (.plain ⟨_, Tryz.func54, k_ptypes_checker_let⟩ (LabC.none rfl)) <|
 Tab.cons (p := Fit Tryz.prog tbl) (.plain ⟨_, Tryz.func55, k_tree_walk_1⟩ lab_tree_walk_1) <|
 Tab.cons (p := Fit Tryz.prog tbl) (.plain ⟨_, Tryz.func56, k_tree_each_api_Expr⟩ (LabC.none rfl)) <|
 Tab.cons (p := Fit Tryz.prog tbl) (.plain ⟨_, Tryz.func57, k_tree_clonedExpr⟩ (LabC.none rfl)) <|
 Tab.cons (p := Fit Tryz.prog tbl) (.plain ⟨_, Tryz.func58, k_tree_each_api_Stmt⟩ (LabC.none rfl)) <|
 Tab.cons (p := Fit Tryz.prog tbl) (.plain ⟨_, Tryz.func59, k_r16_list⟩ (LabC.none rfl)) <|
 Tab.cons (p := Fit Tryz.prog tbl) (.plain ⟨_, Tryz.func60, k_r15_letter⟩ (LabC.none rfl)) <|
 Tab.cons (p := Fit Tryz.prog tbl) (.plain ⟨_, Tryz.func61, k_r15_Key⟩ (LabC.none rfl)) <|
 Tab.cons (p := Fit Tryz.prog tbl) (.plain ⟨_, Tryz.func62, k_r15_inner⟩ (LabC.none rfl)) <|
 Tab.cons (p := Fit Tryz.prog tbl) (.plain ⟨_, Tryz.func63, k_r16_Stmt⟩ (LabC.none rfl)) <|
 Tab.cons (p := Fit Tryz.prog tbl) (.plain ⟨_, Tryz.func64, k_r16_Parts⟩ (LabC.none rfl)) <|
 Tab.cons (p := Fit Tryz.prog tbl) (.plain ⟨_, Tryz.func65, k_r19_wants⟩ (LabC.none rfl)) <|
 Tab.cons (p := Fit Tryz.prog tbl) (.plain ⟨_, Tryz.func66, k_lex_begins⟩ (LabC.none rfl)) <|
 Tab.cons (p := Fit Tryz.prog tbl) (.plain ⟨_, Tryz.func67, k_lex_letter⟩ (LabC.none rfl)) <|
 Tab.cons (p := Fit Tryz.prog tbl) (.plain ⟨_, Tryz.func69, k_lex_inner⟩ (LabC.none rfl)) <|
 Tab.cons (p := Fit Tryz.prog tbl) (.plain ⟨_, Tryz.func70, k_lex_Key⟩ (LabC.none rfl)) <|
 Tab.cons (p := Fit Tryz.prog tbl) (.plain ⟨_, Tryz.func71, k_tree_Parts⟩ (LabC.none rfl)) <|
 Tab.cons (p := Fit Tryz.prog tbl) (.plain ⟨_, Tryz.func72, k_sC_Expr_api_Expr⟩ (LabC.none rfl)) <|
 Tab.cons (p := Fit Tryz.prog tbl) (.plain ⟨_, Tryz.func73, k_tree_expr_1⟩ (LabC.none rfl)) <|
 Tab.cons (p := Fit Tryz.prog tbl) (.plain ⟨_, Tryz.func74, k_sC_Stmt_api_Stmt_x⟩ (LabC.none rfl)) <|
 Tab.cons (p := Fit Tryz.prog tbl) (.plain ⟨_, Tryz.func75, k_tree_block_1⟩ (LabC.none rfl)) <|
 Tab.cons (p := Fit Tryz.prog tbl) (.plain ⟨_, Tryz.func76, k_tree_stmt⟩ (LabC.none rfl)) <|
 Tab.cons (p := Fit Tryz.prog tbl) (.plain ⟨_, Tryz.func77, k_sI_Proc_api_Proc⟩ (LabC.none rfl)) <|
 Tab.cons (p := Fit Tryz.prog tbl) (.plain ⟨_, Tryz.func78, k_sI_Oracle_api_Oracle⟩ (LabC.none rfl)) <|
 Tab.cons (p := Fit Tryz.prog tbl) (.plain ⟨_, Tryz.func79, k_sI_Stmt_api_Stmt⟩ (LabC.none rfl)) <|
 Tab.cons (p := Fit Tryz.prog tbl) (.plain ⟨_, Tryz.func80, k_types_of⟩ (LabC.none rfl)) <|
 Tab.cons (p := Fit Tryz.prog tbl) (.plain ⟨_, Tryz.func81, k_types_scope_kind⟩ (LabC.none rfl)) <|
 Tab.cons (p := Fit Tryz.prog tbl) (.plain ⟨_, Tryz.func82, k_types_wants⟩ (LabC.none rfl)) <|
 Tab.cons (p := Fit Tryz.prog tbl) (.plain ⟨_, Tryz.func83, k_r15_digit⟩ (LabC.none rfl)) <|
 Tab.cons (p := Fit Tryz.prog tbl) (.plain ⟨_, Tryz.func84, k_r16_Exprs⟩ (LabC.none rfl)) <|
 Tab.cons (p := Fit Tryz.prog tbl) (.plain ⟨_, Tryz.func87, k_lex_digit⟩ (LabC.none rfl)) <|
 Tab.cons (p := Fit Tryz.prog tbl) (.plain ⟨_, Tryz.func89, k_sI_Expr_api_Expr⟩ (LabC.none rfl)) <|
 Tab.cons (p := Fit Tryz.prog tbl) (.plain ⟨_, Tryz.func90, k_sI_Stmt_api_Stmt_x⟩ (LabC.none rfl)) <|
 Tab.cons (p := Fit Tryz.prog tbl) (.plain ⟨_, Tryz.func91, k_tree_shape⟩ (LabC.none rfl)) <|
 Tab.cons (p := Fit Tryz.prog tbl) (.plain ⟨_, Tryz.func92, k_tree_stmt_1⟩ (LabC.none rfl)) <|
 Tab.cons (p := Fit Tryz.prog tbl) (.plain ⟨_, Tryz.func93, k_types_is⟩ (LabC.none rfl)) <|
 Tab.cons (p := Fit Tryz.prog tbl) (.plain ⟨_, Tryz.func96, k_tree_Exprs⟩ (LabC.none rfl)) <|
 Tab.cons (p := Fit Tryz.prog tbl) (.plain ⟨_, Tryz.func97, k_tree_blocks⟩ (LabC.none rfl)) <|
 Tab.cons (p := Fit Tryz.prog tbl) (.plain ⟨_, Tryz.func98, k_tree_shape_1⟩ (LabC.none rfl)) <|
 Tab.cons (p := Fit Tryz.prog tbl) (.wide (k := 21) ⟨_, Tryz.func21, kw_types_Check⟩ (LabC.none rfl)) <|
 Tab.cons (p := Fit Tryz.prog tbl) (.wide (k := 33) ⟨_, Tryz.func33, kw_ptypes_checker_block⟩ (LabC.none rfl)) <|
 Tab.cons (p := Fit Tryz.prog tbl) (.label (Nat.le_of_ble_eq_true rfl) (Nat.le_of_ble_eq_true rfl)) <|
 Tab.cons (p := Fit Tryz.prog tbl) (.label (Nat.le_of_ble_eq_true rfl) (Nat.le_of_ble_eq_true rfl)) <|
 Tab.cons (p := Fit Tryz.prog tbl) (.label (Nat.le_of_ble_eq_true rfl) (Nat.le_of_ble_eq_true rfl)) <|
 Tab.nil
theorem fits : ∀ k af, tbl k = some af → k < yBase → (∃ fn, Tryz.prog.funcs[k]? = some fn ∧ chkF Tryz.prog fn af = true) ∧ LabC tbl af.body := fun k af h => (fitsAll k af h).1
theorem fitsW : ∀ k af, tbl (wTab k) = some af → (∃ fn, Tryz.prog.funcs[k]? = some fn ∧ chkW Tryz.prog fn af = true) ∧ LabC tbl af.body := fun k af h => (fitsAll _ af h).2 k rfl
end Go.Proofs.YtehbmajjoolcnaaGreat
