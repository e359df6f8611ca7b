/-
 The abstract code of each function fits the loaded function; printed by a program (gen.py).
-/
import Derived.Test.YtehbmajjoolcnaaCode
import Derived.Test.YtehbmajjoolcnaaRun
import Derived.Test.YtehbmajjoolcnaaChecked
namespace Go.Proofs.Ytehbmajjoolcnaa
open Go.AM
theorem k_flotsamlaw20_BoundAdds : chkF Try.prog Try.f6 c_flotsamlaw20_BoundAdds = true := by kernel_rfl
theorem k_l16_Small : chkF Try.prog Try.f7 c_l16_Small = true := by kernel_rfl
theorem k_flotsamlaw20_knows : chkF Try.prog Try.f16 c_flotsamlaw20_knows = true := by kernel_rfl
theorem k_bound_Steps : chkF Try.prog Try.f17 c_bound_Steps = true := by kernel_rfl
theorem k_r16_Size : chkF Try.prog Try.f18 c_r16_Size = true := by kernel_rfl
theorem k_tree_Right : chkF Try.prog Try.f19 c_tree_Right = true := by kernel_rfl
theorem k_types_of : chkF Try.prog Try.f20 c_types_of = true := by kernel_rfl
theorem k_ptypes_checker_fail : chkF Try.prog Try.f24 c_ptypes_checker_fail = true := by kernel_rfl
theorem k_bound_Calls : chkF Try.prog Try.f30 c_bound_Calls = true := by kernel_rfl
theorem k_flotsamlaw04_Ints : chkF Try.prog Try.f31 c_flotsamlaw04_Ints = true := by kernel_rfl
theorem k_bound_fine : chkF Try.prog Try.f32 c_bound_fine = true := by kernel_rfl
theorem k_bound_known_steps : chkF Try.prog Try.f33 c_bound_known_steps = true := by kernel_rfl
theorem k_r16_block : chkF Try.prog Try.f34 c_r16_block = true := by kernel_rfl
theorem k_r16_expr : chkF Try.prog Try.f35 c_r16_expr = true := by kernel_rfl
theorem k_tree_All : chkF Try.prog Try.f36 c_tree_All = true := by kernel_rfl
theorem k_tree_Right_1 : chkF Try.prog Try.f37 c_tree_Right_1 = true := by kernel_rfl
theorem k_lex_Name : chkF Try.prog Try.f38 c_lex_Name = true := by kernel_rfl
theorem k_tree_Right_2 : chkF Try.prog Try.f39 c_tree_Right_2 = true := by kernel_rfl
theorem k_tree_expr : chkF Try.prog Try.f40 c_tree_expr = true := by kernel_rfl
theorem k_tree_Right_3 : chkF Try.prog Try.f41 c_tree_Right_3 = true := by kernel_rfl
theorem k_tree_block : chkF Try.prog Try.f42 c_tree_block = true := by kernel_rfl
theorem k_sC_Proc_api_Proc : chkF Try.prog Try.f43 c_sC_Proc_api_Proc = true := by kernel_rfl
theorem k_sC_Oracle_api_Oracle : chkF Try.prog Try.f44 c_sC_Oracle_api_Oracle = true := by kernel_rfl
theorem k_sC_Stmt_api_Stmt : chkF Try.prog Try.f45 c_sC_Stmt_api_Stmt = true := by kernel_rfl
theorem k_tree_parts : chkF Try.prog Try.f46 c_tree_parts = true := by kernel_rfl
theorem k_types_is : chkF Try.prog Try.f47 c_types_is = true := by kernel_rfl
theorem k_ptypes_checker_exprs : chkF Try.prog Try.f52 c_ptypes_checker_exprs = true := by kernel_rfl
theorem k_ptypes_checker_let : chkF Try.prog Try.f53 c_ptypes_checker_let = true := by kernel_rfl
theorem k_bound_known_deep : chkF Try.prog Try.f57 c_bound_known_deep = true := by kernel_rfl
theorem k_tree_walk : chkF Try.prog Try.f58 c_tree_walk = true := by kernel_rfl
theorem k_tree_cloned : chkF Try.prog Try.f59 c_tree_cloned = true := by kernel_rfl
theorem k_lex_begins : chkF Try.prog Try.f60 c_lex_begins = true := by kernel_rfl
theorem k_lex_letter : chkF Try.prog Try.f61 c_lex_letter = true := by kernel_rfl
theorem k_lex_inner : chkF Try.prog Try.f63 c_lex_inner = true := by kernel_rfl
theorem k_lex_Key : chkF Try.prog Try.f64 c_lex_Key = true := by kernel_rfl
theorem k_tree_Parts : chkF Try.prog Try.f65 c_tree_Parts = true := by kernel_rfl
theorem k_sC_Expr_api_Expr : chkF Try.prog Try.f66 c_sC_Expr_api_Expr = true := by kernel_rfl
theorem k_tree_expr_1 : chkF Try.prog Try.f67 c_tree_expr_1 = true := by kernel_rfl
theorem k_sC_Stmt_api_Stmt_x : chkF Try.prog Try.f68 c_sC_Stmt_api_Stmt_x = true := by kernel_rfl
theorem k_tree_block_1 : chkF Try.prog Try.f69 c_tree_block_1 = true := by kernel_rfl
theorem k_tree_stmt : chkF Try.prog Try.f70 c_tree_stmt = true := by kernel_rfl
theorem k_sI_Proc_api_Proc : chkF Try.prog Try.f71 c_sI_Proc_api_Proc = true := by kernel_rfl
theorem k_sI_Oracle_api_Oracle : chkF Try.prog Try.f72 c_sI_Oracle_api_Oracle = true := by kernel_rfl
theorem k_sI_Stmt_api_Stmt : chkF Try.prog Try.f73 c_sI_Stmt_api_Stmt = true := by kernel_rfl
theorem k_types_scope_kind : chkF Try.prog Try.f77 c_types_scope_kind = true := by kernel_rfl
theorem k_types_wants : chkF Try.prog Try.f78 c_types_wants = true := by kernel_rfl
theorem k_tree_walk_1 : chkF Try.prog Try.f82 c_tree_walk_1 = true := by kernel_rfl
theorem k_tree_each_api_Expr : chkF Try.prog Try.f83 c_tree_each_api_Expr = true := by kernel_rfl
theorem k_tree_clonedExpr : chkF Try.prog Try.f84 c_tree_clonedExpr = true := by kernel_rfl
theorem k_tree_each_api_Stmt : chkF Try.prog Try.f85 c_tree_each_api_Stmt = true := by kernel_rfl
theorem k_lex_digit : chkF Try.prog Try.f88 c_lex_digit = true := by kernel_rfl
theorem k_sI_Expr_api_Expr : chkF Try.prog Try.f90 c_sI_Expr_api_Expr = true := by kernel_rfl
theorem k_sI_Stmt_api_Stmt_x : chkF Try.prog Try.f91 c_sI_Stmt_api_Stmt_x = true := by kernel_rfl
theorem k_tree_shape : chkF Try.prog Try.f92 c_tree_shape = true := by kernel_rfl
theorem k_tree_stmt_1 : chkF Try.prog Try.f93 c_tree_stmt_1 = true := by kernel_rfl
theorem k_tree_Exprs : chkF Try.prog Try.f98 c_tree_Exprs = true := by kernel_rfl
theorem k_tree_blocks : chkF Try.prog Try.f99 c_tree_blocks = true := by kernel_rfl
theorem k_tree_shape_1 : chkF Try.prog Try.f100 c_tree_shape_1 = true := by kernel_rfl
theorem lab_tree_All : LabC tbl c_tree_All.body := LabC.list (l := [(q_tree_All_0, a_tree_All_0, y_tree_All_0)]) (by kernel_rfl) ⟨u_tree_All_0, trivial⟩
theorem lab_tree_walk_1 : LabC tbl c_tree_walk_1.body := LabC.list (l := [(q_tree_walk_1_0, a_tree_walk_1_0, y_tree_walk_1_0)]) (by kernel_rfl) ⟨u_tree_walk_1_0, trivial⟩
theorem kw_types_Check : chkW Try.prog Try.f12 c_types_Check_w = true := by kernel_rfl
theorem kw_ptypes_checker_block : chkW Try.prog Try.f25 c_ptypes_checker_block_w = true := by kernel_rfl
set_option maxRecDepth 100000 in
theorem fitsAll : ∀ k af, tbl k = some af → Fit Try.prog tbl k af :=
 Tab.cons (p := Fit Try.prog tbl) (.plain ⟨_, Try.func6, k_flotsamlaw20_BoundAdds⟩ (LabC.none rfl)) <|
 Tab.cons (p := Fit Try.prog tbl) (.plain ⟨_, Try.func7, k_l16_Small⟩ (LabC.none rfl)) <|
 Tab.cons (p := Fit Try.prog tbl) (.plain ⟨_, Try.func16, k_flotsamlaw20_knows⟩ (LabC.none rfl)) <|
 Tab.cons (p := Fit Try.prog tbl) (.plain ⟨_, Try.func17, k_bound_Steps⟩ (LabC.none rfl)) <|
 Tab.cons (p := Fit Try.prog tbl) (.plain ⟨_, Try.func18, k_r16_Size⟩ (LabC.none rfl)) <|
 Tab.cons (p := Fit Try.prog tbl) (.plain ⟨_, Try.func19, k_tree_Right⟩ (LabC.none rfl)) <|
 Tab.cons (p := Fit Try.prog tbl) (.plain ⟨_, Try.func20, k_types_of⟩ (LabC.none rfl)) <|
 Tab.cons (p := Fit Try.prog tbl) (.plain ⟨_, Try.func24, k_ptypes_checker_fail⟩ (LabC.none rfl)) <|
 Tab.cons (p := Fit Try.prog tbl) (.plain ⟨_, Try.func30, k_bound_Calls⟩ (LabC.none rfl)) <|
 Tab.cons (p := Fit Try.prog tbl) (.plain ⟨_, Try.func31, k_flotsamlaw04_Ints⟩ (LabC.none rfl)) <|
 Tab.cons (p := Fit Try.prog tbl) (.plain ⟨_, Try.func32, k_bound_fine⟩ (LabC.none rfl)) <|
 Tab.cons (p := Fit Try.prog tbl) (.plain ⟨_, Try.func33, k_bound_known_steps⟩ (LabC.none rfl)) <|
 Tab.cons (p := Fit Try.prog tbl) (.plain ⟨_, Try.func34, k_r16_block⟩ (LabC.none rfl)) <|
 Tab.cons (p := Fit Try.prog tbl) (.plain ⟨_, Try.func35, k_r16_expr⟩ (LabC.none rfl)) <|
 Tab.cons (p := Fit Try.prog tbl) (.plain ⟨_, Try.func36, k_tree_All⟩ lab_tree_All) <|
 Tab.cons (p := Fit Try.prog tbl) (.plain ⟨_, Try.func37, k_tree_Right_1⟩ (LabC.none rfl)) <|
 Tab.cons (p := Fit Try.prog tbl) (.plain ⟨_, Try.func38, k_lex_Name⟩ (LabC.none rfl)) <|
 Tab.cons (p := Fit Try.prog tbl) (.plain ⟨_, Try.func39, k_tree_Right_2⟩ (LabC.none rfl)) <|
 Tab.cons (p := Fit Try.prog tbl) (.plain ⟨_, Try.func40, k_tree_expr⟩ (LabC.none rfl)) <|
 Tab.cons (p := Fit Try.prog tbl) (.plain ⟨_, Try.func41, k_tree_Right_3⟩ (LabC.none rfl)) <|
 Tab.cons (p := Fit Try.prog tbl) (.plain ⟨_, Try.func42, k_tree_block⟩ (LabC.none rfl)) <|
 Tab.cons (p := Fit Try.prog tbl) (.plain ⟨_, Try.func43, k_sC_Proc_api_Proc⟩ (LabC.none rfl)) <|
 Tab.cons (p := Fit Try.prog tbl) (.plain ⟨_, Try.func44, k_sC_Oracle_api_Oracle⟩ (LabC.none rfl)) <|
 Tab.cons (p := Fit Try.prog tbl) (.plain ⟨_, Try.func45, k_sC_Stmt_api_Stmt⟩ (LabC.none rfl)) <|
 Tab.cons (p := Fit Try.prog tbl) (.plain ⟨_, Try.func46, k_tree_parts⟩ (LabC.none rfl)) <|
 Tab.cons (p := Fit Try.prog tbl) (.plain ⟨_, Try.func47, k_types_is⟩ (LabC.none rfl)) <|
 Tab.cons (p := Fit Try.prog tbl) (.plain ⟨_, Try.func52, k_ptypes_checker_exprs⟩ (LabC.none rfl)) <|
 Tab.cons (p := Fit Try.prog tbl) (.plain ⟨_, Try.func53, k_ptypes_checker_let⟩ (LabC.none rfl)) <|
 Tab.cons (p := Fit Try.prog tbl) (.plain ⟨_, Try.func57, k_bound_known_deep⟩ (LabC.none rfl)) <|
 Tab.cons (p := Fit Try.prog tbl) (.plain ⟨_, Try.func58, k_tree_walk⟩ (LabC.none rfl)) <|
 Tab.cons (p := Fit Try.prog tbl) (.plain ⟨_, Try.func59, k_tree_cloned⟩ (LabC.none rfl)) <|
 Tab.cons (p := Fit Try.prog tbl) (.plain ⟨_, Try.func60, k_lex_begins⟩ (LabC.none rfl)) <|
 Tab.cons (p := Fit Try.prog tbl) (.plain ⟨_, Try.func61, k_lex_letter⟩ (LabC.none rfl)) <|
 Tab.cons (p := Fit Try.prog tbl) (.plain ⟨_, Try.func63, k_lex_inner⟩ (LabC.none rfl)) <|
 Tab.cons (p := Fit Try.prog tbl) (.plain ⟨_, Try.func64, k_lex_Key⟩ (LabC.none rfl)) <|
 Tab.cons (p := Fit Try.prog tbl) (.plain ⟨_, Try.func65, k_tree_Parts⟩ (LabC.none rfl)) <|
 Tab.cons (p := Fit Try.prog tbl) (.plain ⟨_, Try.func66, k_sC_Expr_api_Expr⟩ (LabC.none rfl)) <|
 Tab.cons (p := Fit Try.prog tbl) (.plain ⟨_, Try.func67, k_tree_expr_1⟩ (LabC.none rfl)) <|
 Tab.cons (p := Fit Try.prog tbl) (.plain ⟨_, Try.func68, k_sC_Stmt_api_Stmt_x⟩ (LabC.none rfl)) <|
 Tab.cons (p := Fit Try.prog tbl) (.plain ⟨_, Try.func69, k_tree_block_1⟩ (LabC.none rfl)) <|
 Tab.cons (p := Fit Try.prog tbl) (.plain ⟨_, Try.func70, k_tree_stmt⟩ (LabC.none rfl)) <|
 Tab.cons (p := Fit Try.prog tbl) (.plain ⟨_, Try.func71, k_sI_Proc_api_Proc⟩ (LabC.none rfl)) <|
 Tab.cons (p := Fit Try.prog tbl) (.plain ⟨_, Try.func72, k_sI_Oracle_api_Oracle⟩ (LabC.none rfl)) <|
 Tab.cons (p := Fit Try.prog tbl) (.plain ⟨_, Try.func73, k_sI_Stmt_api_Stmt⟩ (LabC.none rfl)) <|
 Tab.cons (p := Fit Try.prog tbl) (.plain ⟨_, Try.func77, k_types_scope_kind⟩ (LabC.none rfl)) <|
 Tab.cons (p := Fit Try.prog tbl) (.plain ⟨_, Try.func78, k_types_wants⟩ (LabC.none rfl)) <|
 Tab.cons (p := Fit Try.prog tbl) (.plain ⟨_, Try.func82, k_tree_walk_1⟩ lab_tree_walk_1) <|
 Tab.cons (p := Fit Try.prog tbl) (.plain ⟨_, Try.func83, k_tree_each_api_Expr⟩ (LabC.none rfl)) <|
 Tab.cons (p := Fit Try.prog tbl) (.plain ⟨_, Try.func84, k_tree_clonedExpr⟩ (LabC.none rfl)) <|
 Tab.cons (p := Fit Try.prog tbl) (.plain ⟨_, Try.func85, k_tree_each_api_Stmt⟩ (LabC.none rfl)) <|
 Tab.cons (p := Fit Try.prog tbl) (.plain ⟨_, Try.func88, k_lex_digit⟩ (LabC.none rfl)) <|
 Tab.cons (p := Fit Try.prog tbl) (.plain ⟨_, Try.func90, k_sI_Expr_api_Expr⟩ (LabC.none rfl)) <|
 Tab.cons (p := Fit Try.prog tbl) (.plain ⟨_, Try.func91, k_sI_Stmt_api_Stmt_x⟩ (LabC.none rfl)) <|
 Tab.cons (p := Fit Try.prog tbl) (.plain ⟨_, Try.func92, k_tree_shape⟩ (LabC.none rfl)) <|
 Tab.cons (p := Fit Try.prog tbl) (.plain ⟨_, Try.func93, k_tree_stmt_1⟩ (LabC.none rfl)) <|
 Tab.cons (p := Fit Try.prog tbl) (.plain ⟨_, Try.func98, k_tree_Exprs⟩ (LabC.none rfl)) <|
 Tab.cons (p := Fit Try.prog tbl) (.plain ⟨_, Try.func99, k_tree_blocks⟩ (LabC.none rfl)) <|
 Tab.cons (p := Fit Try.prog tbl) (.plain ⟨_, Try.func100, k_tree_shape_1⟩ (LabC.none rfl)) <|
 Tab.cons (p := Fit Try.prog tbl) (.wide (k := 12) ⟨_, Try.func12, kw_types_Check⟩ (LabC.none rfl)) <|
 Tab.cons (p := Fit Try.prog tbl) (.wide (k := 25) ⟨_, Try.func25, kw_ptypes_checker_block⟩ (LabC.none rfl)) <|
 Tab.cons (p := Fit Try.prog tbl) (.label (Nat.le_of_ble_eq_true rfl) (Nat.le_of_ble_eq_true rfl)) <|
 Tab.cons (p := Fit Try.prog tbl) (.label (Nat.le_of_ble_eq_true rfl) (Nat.le_of_ble_eq_true rfl)) <|
 Tab.nil
theorem fits : ∀ k af, tbl k = some af → k < yBase → (∃ fn, Try.prog.funcs[k]? = some fn ∧ chkF Try.prog fn af = true) ∧ LabC tbl af.body := fun k af h => (fitsAll k af h).1
theorem fitsW : ∀ k af, tbl (wTab k) = some af → (∃ fn, Try.prog.funcs[k]? = some fn ∧ chkW Try.prog fn af = true) ∧ LabC tbl af.body := fun k af h => (fitsAll _ af h).2 k rfl
end Go.Proofs.Ytehbmajjoolcnaa
