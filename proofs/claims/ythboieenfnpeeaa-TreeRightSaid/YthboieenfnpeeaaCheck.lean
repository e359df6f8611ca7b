/-
  The abstract code of each function fits the loaded function; printed by a program (gen.py).
-/
import Derived.Test.YthboieenfnpeeaaCode
import Derived.Test.YthboieenfnpeeaaRun
import Derived.Test.YthboieenfnpeeaaChecked
namespace Go.Proofs.Ythboieenfnpeeaa
open Go.AM

theorem k_flotsamlaw16_TreeRight : chkF Try.prog Try.f5 c_flotsamlaw16_TreeRight = true := by kernel_rfl
theorem k_flotsamlaw16_TreeLists : chkF Try.prog Try.f6 c_flotsamlaw16_TreeLists = true := by kernel_rfl
theorem k_flotsamlaw16_Small : chkF Try.prog Try.f13 c_flotsamlaw16_Small = true := by kernel_rfl
theorem k_flotsamlaw16_knows : chkF Try.prog Try.f23 c_flotsamlaw16_knows = true := by kernel_rfl
theorem k_tree_Exprs : chkF Try.prog Try.f24 c_tree_Exprs = true := by kernel_rfl
theorem k_flotsamref16_Exprs : chkF Try.prog Try.f25 c_flotsamref16_Exprs = true := by kernel_rfl
theorem k_tree_Parts : chkF Try.prog Try.f26 c_tree_Parts = true := by kernel_rfl
theorem k_flotsamref16_Parts : chkF Try.prog Try.f27 c_flotsamref16_Parts = true := by kernel_rfl
theorem k_tree_Right : chkF Try.prog Try.f28 c_tree_Right = true := by kernel_rfl
theorem k_flotsamref16_Right : chkF Try.prog Try.f29 c_flotsamref16_Right = true := by kernel_rfl
theorem k_flotsamref16_SameStmts : chkF Try.prog Try.f30 c_flotsamref16_SameStmts = true := by kernel_rfl
theorem k_tree_All : chkF Try.prog Try.f31 c_tree_All = true := by kernel_rfl
theorem k_flotsamref16_All : chkF Try.prog Try.f32 c_flotsamref16_All = true := by kernel_rfl
theorem k_tree_Count : chkF Try.prog Try.f33 c_tree_Count = true := by kernel_rfl
theorem k_flotsamref16_Count : chkF Try.prog Try.f34 c_flotsamref16_Count = true := by kernel_rfl
theorem k_tree_Clone : chkF Try.prog Try.f35 c_tree_Clone = true := by kernel_rfl
theorem k_tree_Same : chkF Try.prog Try.f37 c_tree_Same = true := by kernel_rfl
theorem k_flotsamref16_SameStmt : chkF Try.prog Try.f50 c_flotsamref16_SameStmt = true := by kernel_rfl
theorem k_flotsamref16_Size : chkF Try.prog Try.f52 c_flotsamref16_Size = true := by kernel_rfl
theorem k_flotsamref16_SameExpr : chkF Try.prog Try.f59 c_flotsamref16_SameExpr = true := by kernel_rfl
theorem k_tree_Right_1 : chkF Try.prog Try.f63 c_tree_Right_1 = true := by kernel_rfl
theorem k_lex_Name : chkF Try.prog Try.f64 c_lex_Name = true := by kernel_rfl
theorem k_tree_Right_2 : chkF Try.prog Try.f65 c_tree_Right_2 = true := by kernel_rfl
theorem k_tree_expr : chkF Try.prog Try.f66 c_tree_expr = true := by kernel_rfl
theorem k_tree_Right_3 : chkF Try.prog Try.f67 c_tree_Right_3 = true := by kernel_rfl
theorem k_tree_block : chkF Try.prog Try.f68 c_tree_block = true := by kernel_rfl
theorem k_slices_ContainsFunc_api_Proc_api_Proc : chkF Try.prog Try.f69 c_slices_ContainsFunc_api_Proc_api_Proc = true := by kernel_rfl
theorem k_slices_ContainsFunc_api_Oracle_api_Oracle : chkF Try.prog Try.f70 c_slices_ContainsFunc_api_Oracle_api_Oracle = true := by kernel_rfl
theorem k_slices_ContainsFunc_api_Stmt_api_Stmt : chkF Try.prog Try.f71 c_slices_ContainsFunc_api_Stmt_api_Stmt = true := by kernel_rfl
theorem k_tree_parts : chkF Try.prog Try.f72 c_tree_parts = true := by kernel_rfl
theorem k_flotsamref15_Name : chkF Try.prog Try.f73 c_flotsamref15_Name = true := by kernel_rfl
theorem k_flotsamref16_Block : chkF Try.prog Try.f74 c_flotsamref16_Block = true := by kernel_rfl
theorem k_flotsamref16_Expr : chkF Try.prog Try.f75 c_flotsamref16_Expr = true := by kernel_rfl
theorem k_tree_walk : chkF Try.prog Try.f76 c_tree_walk = true := by kernel_rfl
theorem k_tree_cloned : chkF Try.prog Try.f77 c_tree_cloned = true := by kernel_rfl
theorem k_flotsamref16_list : chkF Try.prog Try.f78 c_flotsamref16_list = true := by kernel_rfl
theorem k_tree_each_api_Proc : chkF Try.prog Try.f79 c_tree_each_api_Proc = true := by kernel_rfl
theorem k_tree_Clone_1 : chkF Try.prog Try.f80 c_tree_Clone_1 = true := by kernel_rfl
theorem k_tree_each_api_Stmt : chkF Try.prog Try.f81 c_tree_each_api_Stmt = true := by kernel_rfl
theorem k_tree_each_api_Oracle : chkF Try.prog Try.f82 c_tree_each_api_Oracle = true := by kernel_rfl
theorem k_tree_Clone_2 : chkF Try.prog Try.f83 c_tree_Clone_2 = true := by kernel_rfl
theorem k_tree_clonedExpr : chkF Try.prog Try.f84 c_tree_clonedExpr = true := by kernel_rfl
theorem k_tree_Same_1 : chkF Try.prog Try.f87 c_tree_Same_1 = true := by kernel_rfl
theorem k_tree_lists_api_Stmt : chkF Try.prog Try.f88 c_tree_lists_api_Stmt = true := by kernel_rfl
theorem k_tree_statements : chkF Try.prog Try.f89 c_tree_statements = true := by kernel_rfl
theorem k_tree_Same_2 : chkF Try.prog Try.f90 c_tree_Same_2 = true := by kernel_rfl
theorem k_tree_expressions : chkF Try.prog Try.f91 c_tree_expressions = true := by kernel_rfl
theorem k_tree_lists_api_Proc : chkF Try.prog Try.f92 c_tree_lists_api_Proc = true := by kernel_rfl
theorem k_tree_lists_api_Oracle : chkF Try.prog Try.f93 c_tree_lists_api_Oracle = true := by kernel_rfl
theorem k_flotsamref16_block : chkF Try.prog Try.f101 c_flotsamref16_block = true := by kernel_rfl
theorem k_flotsamref16_expr : chkF Try.prog Try.f102 c_flotsamref16_expr = true := by kernel_rfl
theorem k_lex_begins : chkF Try.prog Try.f118 c_lex_begins = true := by kernel_rfl
theorem k_lex_letter : chkF Try.prog Try.f119 c_lex_letter = true := by kernel_rfl
theorem k_lex_inner : chkF Try.prog Try.f121 c_lex_inner = true := by kernel_rfl
theorem k_lex_Key : chkF Try.prog Try.f122 c_lex_Key = true := by kernel_rfl
theorem k_slices_ContainsFunc_api_Expr_api_Expr : chkF Try.prog Try.f123 c_slices_ContainsFunc_api_Expr_api_Expr = true := by kernel_rfl
theorem k_tree_expr_1 : chkF Try.prog Try.f124 c_tree_expr_1 = true := by kernel_rfl
theorem k_slices_ContainsFunc_api_Stmt_api_Stmt_x : chkF Try.prog Try.f125 c_slices_ContainsFunc_api_Stmt_api_Stmt_x = true := by kernel_rfl
theorem k_tree_block_1 : chkF Try.prog Try.f126 c_tree_block_1 = true := by kernel_rfl
theorem k_tree_stmt : chkF Try.prog Try.f127 c_tree_stmt = true := by kernel_rfl
theorem k_slices_IndexFunc_api_Proc_api_Proc : chkF Try.prog Try.f128 c_slices_IndexFunc_api_Proc_api_Proc = true := by kernel_rfl
theorem k_slices_IndexFunc_api_Oracle_api_Oracle : chkF Try.prog Try.f129 c_slices_IndexFunc_api_Oracle_api_Oracle = true := by kernel_rfl
theorem k_slices_IndexFunc_api_Stmt_api_Stmt : chkF Try.prog Try.f130 c_slices_IndexFunc_api_Stmt_api_Stmt = true := by kernel_rfl
theorem k_flotsamref15_letter : chkF Try.prog Try.f131 c_flotsamref15_letter = true := by kernel_rfl
theorem k_flotsamref15_Key : chkF Try.prog Try.f132 c_flotsamref15_Key = true := by kernel_rfl
theorem k_flotsamref15_inner : chkF Try.prog Try.f133 c_flotsamref15_inner = true := by kernel_rfl
theorem k_flotsamref16_Stmt : chkF Try.prog Try.f134 c_flotsamref16_Stmt = true := by kernel_rfl
theorem k_tree_walk_1 : chkF Try.prog Try.f135 c_tree_walk_1 = true := by kernel_rfl
theorem k_tree_each_api_Expr : chkF Try.prog Try.f136 c_tree_each_api_Expr = true := by kernel_rfl
theorem k_slices_EqualFunc_api_Stmt_api_Stmt_api_Stmt_api_Stmt : chkF Try.prog Try.f137 c_slices_EqualFunc_api_Stmt_api_Stmt_api_Stmt_api_Stmt = true := by kernel_rfl
theorem k_slices_EqualFunc_api_Expr_api_Expr_api_Expr_api_Expr : chkF Try.prog Try.f138 c_slices_EqualFunc_api_Expr_api_Expr_api_Expr_api_Expr = true := by kernel_rfl
theorem k_slices_EqualFunc_api_Proc_api_Proc_api_Proc_api_Proc : chkF Try.prog Try.f139 c_slices_EqualFunc_api_Proc_api_Proc_api_Proc_api_Proc = true := by kernel_rfl
theorem k_slices_EqualFunc_api_Oracle_api_Oracle_api_Oracle_api_Oracle : chkF Try.prog Try.f140 c_slices_EqualFunc_api_Oracle_api_Oracle_api_Oracle_api_Oracle = true := by kernel_rfl
theorem k_lex_digit : chkF Try.prog Try.f150 c_lex_digit = true := by kernel_rfl
theorem k_slices_IndexFunc_api_Expr_api_Expr : chkF Try.prog Try.f152 c_slices_IndexFunc_api_Expr_api_Expr = true := by kernel_rfl
theorem k_slices_IndexFunc_api_Stmt_api_Stmt_x : chkF Try.prog Try.f153 c_slices_IndexFunc_api_Stmt_api_Stmt_x = true := by kernel_rfl
theorem k_tree_shape : chkF Try.prog Try.f154 c_tree_shape = true := by kernel_rfl
theorem k_tree_stmt_1 : chkF Try.prog Try.f155 c_tree_stmt_1 = true := by kernel_rfl
theorem k_flotsamref15_digit : chkF Try.prog Try.f156 c_flotsamref15_digit = true := by kernel_rfl
theorem k_tree_blocks : chkF Try.prog Try.f162 c_tree_blocks = true := by kernel_rfl
theorem k_tree_shape_1 : chkF Try.prog Try.f163 c_tree_shape_1 = true := by kernel_rfl
theorem lab_tree_All : LabC tbl c_tree_All.body := LabC.list (l := [(q_tree_All_0, a_tree_All_0, y_tree_All_0)]) (by kernel_rfl) ⟨u_tree_All_0, trivial⟩
theorem lab_tree_Count : LabC tbl c_tree_Count.body := LabC.list (l := [(q_tree_Count_0, a_tree_Count_0, y_tree_Count_0)]) (by kernel_rfl) ⟨u_tree_Count_0, trivial⟩
theorem lab_tree_walk_1 : LabC tbl c_tree_walk_1.body := LabC.list (l := [(q_tree_walk_1_0, a_tree_walk_1_0, y_tree_walk_1_0)]) (by kernel_rfl) ⟨u_tree_walk_1_0, trivial⟩

set_option maxRecDepth 100000 in
theorem fits : ∀ k af, tbl k = some af → k < yBase → (∃ fn, Try.prog.funcs[k]? = some fn ∧ chkF Try.prog fn af = true) ∧ LabC tbl af.body :=
  Tab.cons (p := fun k af => k < yBase → (∃ fn, Try.prog.funcs[k]? = some fn ∧ chkF Try.prog fn af = true) ∧ LabC tbl af.body) (fun _ => ⟨⟨_, Try.func5, k_flotsamlaw16_TreeRight⟩, (LabC.none rfl)⟩) <|
  Tab.cons (p := fun k af => k < yBase → (∃ fn, Try.prog.funcs[k]? = some fn ∧ chkF Try.prog fn af = true) ∧ LabC tbl af.body) (fun _ => ⟨⟨_, Try.func6, k_flotsamlaw16_TreeLists⟩, (LabC.none rfl)⟩) <|
  Tab.cons (p := fun k af => k < yBase → (∃ fn, Try.prog.funcs[k]? = some fn ∧ chkF Try.prog fn af = true) ∧ LabC tbl af.body) (fun _ => ⟨⟨_, Try.func13, k_flotsamlaw16_Small⟩, (LabC.none rfl)⟩) <|
  Tab.cons (p := fun k af => k < yBase → (∃ fn, Try.prog.funcs[k]? = some fn ∧ chkF Try.prog fn af = true) ∧ LabC tbl af.body) (fun _ => ⟨⟨_, Try.func23, k_flotsamlaw16_knows⟩, (LabC.none rfl)⟩) <|
  Tab.cons (p := fun k af => k < yBase → (∃ fn, Try.prog.funcs[k]? = some fn ∧ chkF Try.prog fn af = true) ∧ LabC tbl af.body) (fun _ => ⟨⟨_, Try.func24, k_tree_Exprs⟩, (LabC.none rfl)⟩) <|
  Tab.cons (p := fun k af => k < yBase → (∃ fn, Try.prog.funcs[k]? = some fn ∧ chkF Try.prog fn af = true) ∧ LabC tbl af.body) (fun _ => ⟨⟨_, Try.func25, k_flotsamref16_Exprs⟩, (LabC.none rfl)⟩) <|
  Tab.cons (p := fun k af => k < yBase → (∃ fn, Try.prog.funcs[k]? = some fn ∧ chkF Try.prog fn af = true) ∧ LabC tbl af.body) (fun _ => ⟨⟨_, Try.func26, k_tree_Parts⟩, (LabC.none rfl)⟩) <|
  Tab.cons (p := fun k af => k < yBase → (∃ fn, Try.prog.funcs[k]? = some fn ∧ chkF Try.prog fn af = true) ∧ LabC tbl af.body) (fun _ => ⟨⟨_, Try.func27, k_flotsamref16_Parts⟩, (LabC.none rfl)⟩) <|
  Tab.cons (p := fun k af => k < yBase → (∃ fn, Try.prog.funcs[k]? = some fn ∧ chkF Try.prog fn af = true) ∧ LabC tbl af.body) (fun _ => ⟨⟨_, Try.func28, k_tree_Right⟩, (LabC.none rfl)⟩) <|
  Tab.cons (p := fun k af => k < yBase → (∃ fn, Try.prog.funcs[k]? = some fn ∧ chkF Try.prog fn af = true) ∧ LabC tbl af.body) (fun _ => ⟨⟨_, Try.func29, k_flotsamref16_Right⟩, (LabC.none rfl)⟩) <|
  Tab.cons (p := fun k af => k < yBase → (∃ fn, Try.prog.funcs[k]? = some fn ∧ chkF Try.prog fn af = true) ∧ LabC tbl af.body) (fun _ => ⟨⟨_, Try.func30, k_flotsamref16_SameStmts⟩, (LabC.none rfl)⟩) <|
  Tab.cons (p := fun k af => k < yBase → (∃ fn, Try.prog.funcs[k]? = some fn ∧ chkF Try.prog fn af = true) ∧ LabC tbl af.body) (fun _ => ⟨⟨_, Try.func31, k_tree_All⟩, lab_tree_All⟩) <|
  Tab.cons (p := fun k af => k < yBase → (∃ fn, Try.prog.funcs[k]? = some fn ∧ chkF Try.prog fn af = true) ∧ LabC tbl af.body) (fun _ => ⟨⟨_, Try.func32, k_flotsamref16_All⟩, (LabC.none rfl)⟩) <|
  Tab.cons (p := fun k af => k < yBase → (∃ fn, Try.prog.funcs[k]? = some fn ∧ chkF Try.prog fn af = true) ∧ LabC tbl af.body) (fun _ => ⟨⟨_, Try.func33, k_tree_Count⟩, lab_tree_Count⟩) <|
  Tab.cons (p := fun k af => k < yBase → (∃ fn, Try.prog.funcs[k]? = some fn ∧ chkF Try.prog fn af = true) ∧ LabC tbl af.body) (fun _ => ⟨⟨_, Try.func34, k_flotsamref16_Count⟩, (LabC.none rfl)⟩) <|
  Tab.cons (p := fun k af => k < yBase → (∃ fn, Try.prog.funcs[k]? = some fn ∧ chkF Try.prog fn af = true) ∧ LabC tbl af.body) (fun _ => ⟨⟨_, Try.func35, k_tree_Clone⟩, (LabC.none rfl)⟩) <|
  Tab.cons (p := fun k af => k < yBase → (∃ fn, Try.prog.funcs[k]? = some fn ∧ chkF Try.prog fn af = true) ∧ LabC tbl af.body) (fun _ => ⟨⟨_, Try.func37, k_tree_Same⟩, (LabC.none rfl)⟩) <|
  Tab.cons (p := fun k af => k < yBase → (∃ fn, Try.prog.funcs[k]? = some fn ∧ chkF Try.prog fn af = true) ∧ LabC tbl af.body) (fun _ => ⟨⟨_, Try.func50, k_flotsamref16_SameStmt⟩, (LabC.none rfl)⟩) <|
  Tab.cons (p := fun k af => k < yBase → (∃ fn, Try.prog.funcs[k]? = some fn ∧ chkF Try.prog fn af = true) ∧ LabC tbl af.body) (fun _ => ⟨⟨_, Try.func52, k_flotsamref16_Size⟩, (LabC.none rfl)⟩) <|
  Tab.cons (p := fun k af => k < yBase → (∃ fn, Try.prog.funcs[k]? = some fn ∧ chkF Try.prog fn af = true) ∧ LabC tbl af.body) (fun _ => ⟨⟨_, Try.func59, k_flotsamref16_SameExpr⟩, (LabC.none rfl)⟩) <|
  Tab.cons (p := fun k af => k < yBase → (∃ fn, Try.prog.funcs[k]? = some fn ∧ chkF Try.prog fn af = true) ∧ LabC tbl af.body) (fun _ => ⟨⟨_, Try.func63, k_tree_Right_1⟩, (LabC.none rfl)⟩) <|
  Tab.cons (p := fun k af => k < yBase → (∃ fn, Try.prog.funcs[k]? = some fn ∧ chkF Try.prog fn af = true) ∧ LabC tbl af.body) (fun _ => ⟨⟨_, Try.func64, k_lex_Name⟩, (LabC.none rfl)⟩) <|
  Tab.cons (p := fun k af => k < yBase → (∃ fn, Try.prog.funcs[k]? = some fn ∧ chkF Try.prog fn af = true) ∧ LabC tbl af.body) (fun _ => ⟨⟨_, Try.func65, k_tree_Right_2⟩, (LabC.none rfl)⟩) <|
  Tab.cons (p := fun k af => k < yBase → (∃ fn, Try.prog.funcs[k]? = some fn ∧ chkF Try.prog fn af = true) ∧ LabC tbl af.body) (fun _ => ⟨⟨_, Try.func66, k_tree_expr⟩, (LabC.none rfl)⟩) <|
  Tab.cons (p := fun k af => k < yBase → (∃ fn, Try.prog.funcs[k]? = some fn ∧ chkF Try.prog fn af = true) ∧ LabC tbl af.body) (fun _ => ⟨⟨_, Try.func67, k_tree_Right_3⟩, (LabC.none rfl)⟩) <|
  Tab.cons (p := fun k af => k < yBase → (∃ fn, Try.prog.funcs[k]? = some fn ∧ chkF Try.prog fn af = true) ∧ LabC tbl af.body) (fun _ => ⟨⟨_, Try.func68, k_tree_block⟩, (LabC.none rfl)⟩) <|
  Tab.cons (p := fun k af => k < yBase → (∃ fn, Try.prog.funcs[k]? = some fn ∧ chkF Try.prog fn af = true) ∧ LabC tbl af.body) (fun _ => ⟨⟨_, Try.func69, k_slices_ContainsFunc_api_Proc_api_Proc⟩, (LabC.none rfl)⟩) <|
  Tab.cons (p := fun k af => k < yBase → (∃ fn, Try.prog.funcs[k]? = some fn ∧ chkF Try.prog fn af = true) ∧ LabC tbl af.body) (fun _ => ⟨⟨_, Try.func70, k_slices_ContainsFunc_api_Oracle_api_Oracle⟩, (LabC.none rfl)⟩) <|
  Tab.cons (p := fun k af => k < yBase → (∃ fn, Try.prog.funcs[k]? = some fn ∧ chkF Try.prog fn af = true) ∧ LabC tbl af.body) (fun _ => ⟨⟨_, Try.func71, k_slices_ContainsFunc_api_Stmt_api_Stmt⟩, (LabC.none rfl)⟩) <|
  Tab.cons (p := fun k af => k < yBase → (∃ fn, Try.prog.funcs[k]? = some fn ∧ chkF Try.prog fn af = true) ∧ LabC tbl af.body) (fun _ => ⟨⟨_, Try.func72, k_tree_parts⟩, (LabC.none rfl)⟩) <|
  Tab.cons (p := fun k af => k < yBase → (∃ fn, Try.prog.funcs[k]? = some fn ∧ chkF Try.prog fn af = true) ∧ LabC tbl af.body) (fun _ => ⟨⟨_, Try.func73, k_flotsamref15_Name⟩, (LabC.none rfl)⟩) <|
  Tab.cons (p := fun k af => k < yBase → (∃ fn, Try.prog.funcs[k]? = some fn ∧ chkF Try.prog fn af = true) ∧ LabC tbl af.body) (fun _ => ⟨⟨_, Try.func74, k_flotsamref16_Block⟩, (LabC.none rfl)⟩) <|
  Tab.cons (p := fun k af => k < yBase → (∃ fn, Try.prog.funcs[k]? = some fn ∧ chkF Try.prog fn af = true) ∧ LabC tbl af.body) (fun _ => ⟨⟨_, Try.func75, k_flotsamref16_Expr⟩, (LabC.none rfl)⟩) <|
  Tab.cons (p := fun k af => k < yBase → (∃ fn, Try.prog.funcs[k]? = some fn ∧ chkF Try.prog fn af = true) ∧ LabC tbl af.body) (fun _ => ⟨⟨_, Try.func76, k_tree_walk⟩, (LabC.none rfl)⟩) <|
  Tab.cons (p := fun k af => k < yBase → (∃ fn, Try.prog.funcs[k]? = some fn ∧ chkF Try.prog fn af = true) ∧ LabC tbl af.body) (fun _ => ⟨⟨_, Try.func77, k_tree_cloned⟩, (LabC.none rfl)⟩) <|
  Tab.cons (p := fun k af => k < yBase → (∃ fn, Try.prog.funcs[k]? = some fn ∧ chkF Try.prog fn af = true) ∧ LabC tbl af.body) (fun _ => ⟨⟨_, Try.func78, k_flotsamref16_list⟩, (LabC.none rfl)⟩) <|
  Tab.cons (p := fun k af => k < yBase → (∃ fn, Try.prog.funcs[k]? = some fn ∧ chkF Try.prog fn af = true) ∧ LabC tbl af.body) (fun _ => ⟨⟨_, Try.func79, k_tree_each_api_Proc⟩, (LabC.none rfl)⟩) <|
  Tab.cons (p := fun k af => k < yBase → (∃ fn, Try.prog.funcs[k]? = some fn ∧ chkF Try.prog fn af = true) ∧ LabC tbl af.body) (fun _ => ⟨⟨_, Try.func80, k_tree_Clone_1⟩, (LabC.none rfl)⟩) <|
  Tab.cons (p := fun k af => k < yBase → (∃ fn, Try.prog.funcs[k]? = some fn ∧ chkF Try.prog fn af = true) ∧ LabC tbl af.body) (fun _ => ⟨⟨_, Try.func81, k_tree_each_api_Stmt⟩, (LabC.none rfl)⟩) <|
  Tab.cons (p := fun k af => k < yBase → (∃ fn, Try.prog.funcs[k]? = some fn ∧ chkF Try.prog fn af = true) ∧ LabC tbl af.body) (fun _ => ⟨⟨_, Try.func82, k_tree_each_api_Oracle⟩, (LabC.none rfl)⟩) <|
  Tab.cons (p := fun k af => k < yBase → (∃ fn, Try.prog.funcs[k]? = some fn ∧ chkF Try.prog fn af = true) ∧ LabC tbl af.body) (fun _ => ⟨⟨_, Try.func83, k_tree_Clone_2⟩, (LabC.none rfl)⟩) <|
  Tab.cons (p := fun k af => k < yBase → (∃ fn, Try.prog.funcs[k]? = some fn ∧ chkF Try.prog fn af = true) ∧ LabC tbl af.body) (fun _ => ⟨⟨_, Try.func84, k_tree_clonedExpr⟩, (LabC.none rfl)⟩) <|
  Tab.cons (p := fun k af => k < yBase → (∃ fn, Try.prog.funcs[k]? = some fn ∧ chkF Try.prog fn af = true) ∧ LabC tbl af.body) (fun _ => ⟨⟨_, Try.func87, k_tree_Same_1⟩, (LabC.none rfl)⟩) <|
  Tab.cons (p := fun k af => k < yBase → (∃ fn, Try.prog.funcs[k]? = some fn ∧ chkF Try.prog fn af = true) ∧ LabC tbl af.body) (fun _ => ⟨⟨_, Try.func88, k_tree_lists_api_Stmt⟩, (LabC.none rfl)⟩) <|
  Tab.cons (p := fun k af => k < yBase → (∃ fn, Try.prog.funcs[k]? = some fn ∧ chkF Try.prog fn af = true) ∧ LabC tbl af.body) (fun _ => ⟨⟨_, Try.func89, k_tree_statements⟩, (LabC.none rfl)⟩) <|
  Tab.cons (p := fun k af => k < yBase → (∃ fn, Try.prog.funcs[k]? = some fn ∧ chkF Try.prog fn af = true) ∧ LabC tbl af.body) (fun _ => ⟨⟨_, Try.func90, k_tree_Same_2⟩, (LabC.none rfl)⟩) <|
  Tab.cons (p := fun k af => k < yBase → (∃ fn, Try.prog.funcs[k]? = some fn ∧ chkF Try.prog fn af = true) ∧ LabC tbl af.body) (fun _ => ⟨⟨_, Try.func91, k_tree_expressions⟩, (LabC.none rfl)⟩) <|
  Tab.cons (p := fun k af => k < yBase → (∃ fn, Try.prog.funcs[k]? = some fn ∧ chkF Try.prog fn af = true) ∧ LabC tbl af.body) (fun _ => ⟨⟨_, Try.func92, k_tree_lists_api_Proc⟩, (LabC.none rfl)⟩) <|
  Tab.cons (p := fun k af => k < yBase → (∃ fn, Try.prog.funcs[k]? = some fn ∧ chkF Try.prog fn af = true) ∧ LabC tbl af.body) (fun _ => ⟨⟨_, Try.func93, k_tree_lists_api_Oracle⟩, (LabC.none rfl)⟩) <|
  Tab.cons (p := fun k af => k < yBase → (∃ fn, Try.prog.funcs[k]? = some fn ∧ chkF Try.prog fn af = true) ∧ LabC tbl af.body) (fun _ => ⟨⟨_, Try.func101, k_flotsamref16_block⟩, (LabC.none rfl)⟩) <|
  Tab.cons (p := fun k af => k < yBase → (∃ fn, Try.prog.funcs[k]? = some fn ∧ chkF Try.prog fn af = true) ∧ LabC tbl af.body) (fun _ => ⟨⟨_, Try.func102, k_flotsamref16_expr⟩, (LabC.none rfl)⟩) <|
  Tab.cons (p := fun k af => k < yBase → (∃ fn, Try.prog.funcs[k]? = some fn ∧ chkF Try.prog fn af = true) ∧ LabC tbl af.body) (fun _ => ⟨⟨_, Try.func118, k_lex_begins⟩, (LabC.none rfl)⟩) <|
  Tab.cons (p := fun k af => k < yBase → (∃ fn, Try.prog.funcs[k]? = some fn ∧ chkF Try.prog fn af = true) ∧ LabC tbl af.body) (fun _ => ⟨⟨_, Try.func119, k_lex_letter⟩, (LabC.none rfl)⟩) <|
  Tab.cons (p := fun k af => k < yBase → (∃ fn, Try.prog.funcs[k]? = some fn ∧ chkF Try.prog fn af = true) ∧ LabC tbl af.body) (fun _ => ⟨⟨_, Try.func121, k_lex_inner⟩, (LabC.none rfl)⟩) <|
  Tab.cons (p := fun k af => k < yBase → (∃ fn, Try.prog.funcs[k]? = some fn ∧ chkF Try.prog fn af = true) ∧ LabC tbl af.body) (fun _ => ⟨⟨_, Try.func122, k_lex_Key⟩, (LabC.none rfl)⟩) <|
  Tab.cons (p := fun k af => k < yBase → (∃ fn, Try.prog.funcs[k]? = some fn ∧ chkF Try.prog fn af = true) ∧ LabC tbl af.body) (fun _ => ⟨⟨_, Try.func123, k_slices_ContainsFunc_api_Expr_api_Expr⟩, (LabC.none rfl)⟩) <|
  Tab.cons (p := fun k af => k < yBase → (∃ fn, Try.prog.funcs[k]? = some fn ∧ chkF Try.prog fn af = true) ∧ LabC tbl af.body) (fun _ => ⟨⟨_, Try.func124, k_tree_expr_1⟩, (LabC.none rfl)⟩) <|
  Tab.cons (p := fun k af => k < yBase → (∃ fn, Try.prog.funcs[k]? = some fn ∧ chkF Try.prog fn af = true) ∧ LabC tbl af.body) (fun _ => ⟨⟨_, Try.func125, k_slices_ContainsFunc_api_Stmt_api_Stmt_x⟩, (LabC.none rfl)⟩) <|
  Tab.cons (p := fun k af => k < yBase → (∃ fn, Try.prog.funcs[k]? = some fn ∧ chkF Try.prog fn af = true) ∧ LabC tbl af.body) (fun _ => ⟨⟨_, Try.func126, k_tree_block_1⟩, (LabC.none rfl)⟩) <|
  Tab.cons (p := fun k af => k < yBase → (∃ fn, Try.prog.funcs[k]? = some fn ∧ chkF Try.prog fn af = true) ∧ LabC tbl af.body) (fun _ => ⟨⟨_, Try.func127, k_tree_stmt⟩, (LabC.none rfl)⟩) <|
  Tab.cons (p := fun k af => k < yBase → (∃ fn, Try.prog.funcs[k]? = some fn ∧ chkF Try.prog fn af = true) ∧ LabC tbl af.body) (fun _ => ⟨⟨_, Try.func128, k_slices_IndexFunc_api_Proc_api_Proc⟩, (LabC.none rfl)⟩) <|
  Tab.cons (p := fun k af => k < yBase → (∃ fn, Try.prog.funcs[k]? = some fn ∧ chkF Try.prog fn af = true) ∧ LabC tbl af.body) (fun _ => ⟨⟨_, Try.func129, k_slices_IndexFunc_api_Oracle_api_Oracle⟩, (LabC.none rfl)⟩) <|
  Tab.cons (p := fun k af => k < yBase → (∃ fn, Try.prog.funcs[k]? = some fn ∧ chkF Try.prog fn af = true) ∧ LabC tbl af.body) (fun _ => ⟨⟨_, Try.func130, k_slices_IndexFunc_api_Stmt_api_Stmt⟩, (LabC.none rfl)⟩) <|
  Tab.cons (p := fun k af => k < yBase → (∃ fn, Try.prog.funcs[k]? = some fn ∧ chkF Try.prog fn af = true) ∧ LabC tbl af.body) (fun _ => ⟨⟨_, Try.func131, k_flotsamref15_letter⟩, (LabC.none rfl)⟩) <|
  Tab.cons (p := fun k af => k < yBase → (∃ fn, Try.prog.funcs[k]? = some fn ∧ chkF Try.prog fn af = true) ∧ LabC tbl af.body) (fun _ => ⟨⟨_, Try.func132, k_flotsamref15_Key⟩, (LabC.none rfl)⟩) <|
  Tab.cons (p := fun k af => k < yBase → (∃ fn, Try.prog.funcs[k]? = some fn ∧ chkF Try.prog fn af = true) ∧ LabC tbl af.body) (fun _ => ⟨⟨_, Try.func133, k_flotsamref15_inner⟩, (LabC.none rfl)⟩) <|
  Tab.cons (p := fun k af => k < yBase → (∃ fn, Try.prog.funcs[k]? = some fn ∧ chkF Try.prog fn af = true) ∧ LabC tbl af.body) (fun _ => ⟨⟨_, Try.func134, k_flotsamref16_Stmt⟩, (LabC.none rfl)⟩) <|
  Tab.cons (p := fun k af => k < yBase → (∃ fn, Try.prog.funcs[k]? = some fn ∧ chkF Try.prog fn af = true) ∧ LabC tbl af.body) (fun _ => ⟨⟨_, Try.func135, k_tree_walk_1⟩, lab_tree_walk_1⟩) <|
  Tab.cons (p := fun k af => k < yBase → (∃ fn, Try.prog.funcs[k]? = some fn ∧ chkF Try.prog fn af = true) ∧ LabC tbl af.body) (fun _ => ⟨⟨_, Try.func136, k_tree_each_api_Expr⟩, (LabC.none rfl)⟩) <|
  Tab.cons (p := fun k af => k < yBase → (∃ fn, Try.prog.funcs[k]? = some fn ∧ chkF Try.prog fn af = true) ∧ LabC tbl af.body) (fun _ => ⟨⟨_, Try.func137, k_slices_EqualFunc_api_Stmt_api_Stmt_api_Stmt_api_Stmt⟩, (LabC.none rfl)⟩) <|
  Tab.cons (p := fun k af => k < yBase → (∃ fn, Try.prog.funcs[k]? = some fn ∧ chkF Try.prog fn af = true) ∧ LabC tbl af.body) (fun _ => ⟨⟨_, Try.func138, k_slices_EqualFunc_api_Expr_api_Expr_api_Expr_api_Expr⟩, (LabC.none rfl)⟩) <|
  Tab.cons (p := fun k af => k < yBase → (∃ fn, Try.prog.funcs[k]? = some fn ∧ chkF Try.prog fn af = true) ∧ LabC tbl af.body) (fun _ => ⟨⟨_, Try.func139, k_slices_EqualFunc_api_Proc_api_Proc_api_Proc_api_Proc⟩, (LabC.none rfl)⟩) <|
  Tab.cons (p := fun k af => k < yBase → (∃ fn, Try.prog.funcs[k]? = some fn ∧ chkF Try.prog fn af = true) ∧ LabC tbl af.body) (fun _ => ⟨⟨_, Try.func140, k_slices_EqualFunc_api_Oracle_api_Oracle_api_Oracle_api_Oracle⟩, (LabC.none rfl)⟩) <|
  Tab.cons (p := fun k af => k < yBase → (∃ fn, Try.prog.funcs[k]? = some fn ∧ chkF Try.prog fn af = true) ∧ LabC tbl af.body) (fun _ => ⟨⟨_, Try.func150, k_lex_digit⟩, (LabC.none rfl)⟩) <|
  Tab.cons (p := fun k af => k < yBase → (∃ fn, Try.prog.funcs[k]? = some fn ∧ chkF Try.prog fn af = true) ∧ LabC tbl af.body) (fun _ => ⟨⟨_, Try.func152, k_slices_IndexFunc_api_Expr_api_Expr⟩, (LabC.none rfl)⟩) <|
  Tab.cons (p := fun k af => k < yBase → (∃ fn, Try.prog.funcs[k]? = some fn ∧ chkF Try.prog fn af = true) ∧ LabC tbl af.body) (fun _ => ⟨⟨_, Try.func153, k_slices_IndexFunc_api_Stmt_api_Stmt_x⟩, (LabC.none rfl)⟩) <|
  Tab.cons (p := fun k af => k < yBase → (∃ fn, Try.prog.funcs[k]? = some fn ∧ chkF Try.prog fn af = true) ∧ LabC tbl af.body) (fun _ => ⟨⟨_, Try.func154, k_tree_shape⟩, (LabC.none rfl)⟩) <|
  Tab.cons (p := fun k af => k < yBase → (∃ fn, Try.prog.funcs[k]? = some fn ∧ chkF Try.prog fn af = true) ∧ LabC tbl af.body) (fun _ => ⟨⟨_, Try.func155, k_tree_stmt_1⟩, (LabC.none rfl)⟩) <|
  Tab.cons (p := fun k af => k < yBase → (∃ fn, Try.prog.funcs[k]? = some fn ∧ chkF Try.prog fn af = true) ∧ LabC tbl af.body) (fun _ => ⟨⟨_, Try.func156, k_flotsamref15_digit⟩, (LabC.none rfl)⟩) <|
  Tab.cons (p := fun k af => k < yBase → (∃ fn, Try.prog.funcs[k]? = some fn ∧ chkF Try.prog fn af = true) ∧ LabC tbl af.body) (fun _ => ⟨⟨_, Try.func162, k_tree_blocks⟩, (LabC.none rfl)⟩) <|
  Tab.cons (p := fun k af => k < yBase → (∃ fn, Try.prog.funcs[k]? = some fn ∧ chkF Try.prog fn af = true) ∧ LabC tbl af.body) (fun _ => ⟨⟨_, Try.func163, k_tree_shape_1⟩, (LabC.none rfl)⟩) <|
  Tab.cons (p := fun k af => k < yBase → (∃ fn, Try.prog.funcs[k]? = some fn ∧ chkF Try.prog fn af = true) ∧ LabC tbl af.body) (fun h => absurd h (Nat.not_lt.2 (Nat.le_of_ble_eq_true rfl))) <|
  Tab.cons (p := fun k af => k < yBase → (∃ fn, Try.prog.funcs[k]? = some fn ∧ chkF Try.prog fn af = true) ∧ LabC tbl af.body) (fun h => absurd h (Nat.not_lt.2 (Nat.le_of_ble_eq_true rfl))) <|
  Tab.cons (p := fun k af => k < yBase → (∃ fn, Try.prog.funcs[k]? = some fn ∧ chkF Try.prog fn af = true) ∧ LabC tbl af.body) (fun h => absurd h (Nat.not_lt.2 (Nat.le_of_ble_eq_true rfl))) <|
  Tab.nil

end Go.Proofs.Ythboieenfnpeeaa
