/-
 The abstract code of each function fits the loaded function; printed by a program (gen.py).
-/
import Derived.Test.YtfbnodahmmlfdaaGreatDoorCode
import Derived.Test.YtfbnodahmmlfdaaGreatDoorRun
import Derived.Test.YtfbnodahmmlfdaaGreatDoorChecked
namespace Go.Proofs.YtfbnodahmmlfdaaGreatDoor
open Go.AM

theorem k_flotsamlaw18_PrintTells : chkF Tryz.prog Tryz.f3 c_flotsamlaw18_PrintTells = true := by kernel_rfl
theorem k_flotsamlaw16_Small : chkF Tryz.prog Tryz.f6 c_flotsamlaw16_Small = true := by kernel_rfl
theorem k_flotsamlaw18_knows : chkF Tryz.prog Tryz.f7 c_flotsamlaw18_knows = true := by kernel_rfl
theorem k_print_Program : chkF Tryz.prog Tryz.f8 c_print_Program = true := by kernel_rfl
theorem k_flotsamref18_Program : chkF Tryz.prog Tryz.f9 c_flotsamref18_Program = true := by kernel_rfl
theorem k_print_Expr : chkF Tryz.prog Tryz.f10 c_print_Expr = true := by kernel_rfl
theorem k_flotsamref18_Expr : chkF Tryz.prog Tryz.f11 c_flotsamref18_Expr = true := by kernel_rfl
theorem k_tree_Right : chkF Tryz.prog Tryz.f14 c_tree_Right = true := by kernel_rfl
theorem k_r16_Size : chkF Tryz.prog Tryz.f18 c_r16_Size = true := by kernel_rfl
theorem k_pprint_printer_add : chkF Tryz.prog Tryz.f19 c_pprint_printer_add = true := by kernel_rfl
theorem k_pprint_printer_block : chkF Tryz.prog Tryz.f20 c_pprint_printer_block = true := by kernel_rfl
theorem k_pprint_printer_expr : chkF Tryz.prog Tryz.f21 c_pprint_printer_expr = true := by kernel_rfl
theorem k_r16_Right : chkF Tryz.prog Tryz.f23 c_r16_Right = true := by kernel_rfl
theorem k_flotsamref18_block : chkF Tryz.prog Tryz.f24 c_flotsamref18_block = true := by kernel_rfl
theorem k_flotsamref18_expr : chkF Tryz.prog Tryz.f25 c_flotsamref18_expr = true := by kernel_rfl
theorem k_r16_Expr : chkF Tryz.prog Tryz.f26 c_r16_Expr = true := by kernel_rfl
theorem k_tree_All : chkF Tryz.prog Tryz.f30 c_tree_All = true := by kernel_rfl
theorem k_tree_Right_1 : chkF Tryz.prog Tryz.f31 c_tree_Right_1 = true := by kernel_rfl
theorem k_lex_Name : chkF Tryz.prog Tryz.f32 c_lex_Name = true := by kernel_rfl
theorem k_tree_Right_2 : chkF Tryz.prog Tryz.f33 c_tree_Right_2 = true := by kernel_rfl
theorem k_tree_expr : chkF Tryz.prog Tryz.f34 c_tree_expr = true := by kernel_rfl
theorem k_tree_Right_3 : chkF Tryz.prog Tryz.f35 c_tree_Right_3 = true := by kernel_rfl
theorem k_tree_block : chkF Tryz.prog Tryz.f36 c_tree_block = true := by kernel_rfl
theorem k_slices_ContainsFunc_api_Proc_api_Proc : chkF Tryz.prog Tryz.f37 c_slices_ContainsFunc_api_Proc_api_Proc = true := by kernel_rfl
theorem k_slices_ContainsFunc_api_Oracle_api_Oracle : chkF Tryz.prog Tryz.f38 c_slices_ContainsFunc_api_Oracle_api_Oracle = true := by kernel_rfl
theorem k_slices_ContainsFunc_api_Stmt_api_Stmt : chkF Tryz.prog Tryz.f39 c_slices_ContainsFunc_api_Stmt_api_Stmt = true := by kernel_rfl
theorem k_tree_parts : chkF Tryz.prog Tryz.f40 c_tree_parts = true := by kernel_rfl
theorem k_r16_block : chkF Tryz.prog Tryz.f42 c_r16_block = true := by kernel_rfl
theorem k_r16_expr : chkF Tryz.prog Tryz.f43 c_r16_expr = true := by kernel_rfl
theorem k_pprint_printer_stmt : chkF Tryz.prog Tryz.f46 c_pprint_printer_stmt = true := by kernel_rfl
theorem k_print_strong : chkF Tryz.prog Tryz.f47 c_print_strong = true := by kernel_rfl
theorem k_num_Digits : chkF Tryz.prog Tryz.f48 c_num_Digits = true := by kernel_rfl
theorem k_view_Quote : chkF Tryz.prog Tryz.f49 c_view_Quote = true := by kernel_rfl
theorem k_print_call : chkF Tryz.prog Tryz.f50 c_print_call = true := by kernel_rfl
theorem k_print_sign : chkF Tryz.prog Tryz.f51 c_print_sign = true := by kernel_rfl
theorem k_r16_All : chkF Tryz.prog Tryz.f52 c_r16_All = true := by kernel_rfl
theorem k_r15_Name : chkF Tryz.prog Tryz.f53 c_r15_Name = true := by kernel_rfl
theorem k_r16_Block : chkF Tryz.prog Tryz.f54 c_r16_Block = true := by kernel_rfl
theorem k_flotsamref18_tabs : chkF Tryz.prog Tryz.f55 c_flotsamref18_tabs = true := by kernel_rfl
theorem k_flotsamref18_stmt : chkF Tryz.prog Tryz.f56 c_flotsamref18_stmt = true := by kernel_rfl
theorem k_r01_Digits : chkF Tryz.prog Tryz.f57 c_r01_Digits = true := by kernel_rfl
theorem k_r14_Quote : chkF Tryz.prog Tryz.f58 c_r14_Quote = true := by kernel_rfl
theorem k_flotsamref18_sub : chkF Tryz.prog Tryz.f59 c_flotsamref18_sub = true := by kernel_rfl
theorem k_r16_Parts : chkF Tryz.prog Tryz.f60 c_r16_Parts = true := by kernel_rfl
theorem k_tree_walk : chkF Tryz.prog Tryz.f69 c_tree_walk = true := by kernel_rfl
theorem k_tree_cloned : chkF Tryz.prog Tryz.f70 c_tree_cloned = true := by kernel_rfl
theorem k_lex_begins : chkF Tryz.prog Tryz.f71 c_lex_begins = true := by kernel_rfl
theorem k_lex_letter : chkF Tryz.prog Tryz.f72 c_lex_letter = true := by kernel_rfl
theorem k_lex_inner : chkF Tryz.prog Tryz.f74 c_lex_inner = true := by kernel_rfl
theorem k_lex_Key : chkF Tryz.prog Tryz.f75 c_lex_Key = true := by kernel_rfl
theorem k_tree_Parts : chkF Tryz.prog Tryz.f76 c_tree_Parts = true := by kernel_rfl
theorem k_slices_ContainsFunc_api_Expr_api_Expr : chkF Tryz.prog Tryz.f77 c_slices_ContainsFunc_api_Expr_api_Expr = true := by kernel_rfl
theorem k_tree_expr_1 : chkF Tryz.prog Tryz.f78 c_tree_expr_1 = true := by kernel_rfl
theorem k_slices_ContainsFunc_api_Stmt_api_Stmt_x : chkF Tryz.prog Tryz.f79 c_slices_ContainsFunc_api_Stmt_api_Stmt_x = true := by kernel_rfl
theorem k_tree_block_1 : chkF Tryz.prog Tryz.f80 c_tree_block_1 = true := by kernel_rfl
theorem k_tree_stmt : chkF Tryz.prog Tryz.f81 c_tree_stmt = true := by kernel_rfl
theorem k_slices_IndexFunc_api_Proc_api_Proc : chkF Tryz.prog Tryz.f82 c_slices_IndexFunc_api_Proc_api_Proc = true := by kernel_rfl
theorem k_slices_IndexFunc_api_Oracle_api_Oracle : chkF Tryz.prog Tryz.f83 c_slices_IndexFunc_api_Oracle_api_Oracle = true := by kernel_rfl
theorem k_slices_IndexFunc_api_Stmt_api_Stmt : chkF Tryz.prog Tryz.f84 c_slices_IndexFunc_api_Stmt_api_Stmt = true := by kernel_rfl
theorem k_print_key : chkF Tryz.prog Tryz.f95 c_print_key = true := by kernel_rfl
theorem k_pprint_printer_exprs : chkF Tryz.prog Tryz.f96 c_pprint_printer_exprs = true := by kernel_rfl
theorem k_view_plain : chkF Tryz.prog Tryz.f98 c_view_plain = true := by kernel_rfl
theorem k_r16_list : chkF Tryz.prog Tryz.f99 c_r16_list = true := by kernel_rfl
theorem k_r15_letter : chkF Tryz.prog Tryz.f100 c_r15_letter = true := by kernel_rfl
theorem k_r15_Key : chkF Tryz.prog Tryz.f101 c_r15_Key = true := by kernel_rfl
theorem k_r15_inner : chkF Tryz.prog Tryz.f102 c_r15_inner = true := by kernel_rfl
theorem k_r16_Stmt : chkF Tryz.prog Tryz.f103 c_r16_Stmt = true := by kernel_rfl
theorem k_r14_sign : chkF Tryz.prog Tryz.f104 c_r14_sign = true := by kernel_rfl
theorem k_flotsamref18_closed : chkF Tryz.prog Tryz.f105 c_flotsamref18_closed = true := by kernel_rfl
theorem k_lex_digit : chkF Tryz.prog Tryz.f109 c_lex_digit = true := by kernel_rfl
theorem k_tree_walk_1 : chkF Tryz.prog Tryz.f115 c_tree_walk_1 = true := by kernel_rfl
theorem k_tree_each_api_Expr : chkF Tryz.prog Tryz.f116 c_tree_each_api_Expr = true := by kernel_rfl
theorem k_tree_clonedExpr : chkF Tryz.prog Tryz.f117 c_tree_clonedExpr = true := by kernel_rfl
theorem k_tree_each_api_Stmt : chkF Tryz.prog Tryz.f118 c_tree_each_api_Stmt = true := by kernel_rfl
theorem k_slices_IndexFunc_api_Expr_api_Expr : chkF Tryz.prog Tryz.f122 c_slices_IndexFunc_api_Expr_api_Expr = true := by kernel_rfl
theorem k_slices_IndexFunc_api_Stmt_api_Stmt_x : chkF Tryz.prog Tryz.f123 c_slices_IndexFunc_api_Stmt_api_Stmt_x = true := by kernel_rfl
theorem k_tree_shape : chkF Tryz.prog Tryz.f124 c_tree_shape = true := by kernel_rfl
theorem k_tree_stmt_1 : chkF Tryz.prog Tryz.f125 c_tree_stmt_1 = true := by kernel_rfl
theorem k_r15_digit : chkF Tryz.prog Tryz.f134 c_r15_digit = true := by kernel_rfl
theorem k_r16_Exprs : chkF Tryz.prog Tryz.f135 c_r16_Exprs = true := by kernel_rfl
theorem k_tree_Exprs : chkF Tryz.prog Tryz.f150 c_tree_Exprs = true := by kernel_rfl
theorem k_tree_blocks : chkF Tryz.prog Tryz.f151 c_tree_blocks = true := by kernel_rfl
theorem k_tree_shape_1 : chkF Tryz.prog Tryz.f152 c_tree_shape_1 = true := by kernel_rfl
theorem lab_tree_All : LabC tbl c_tree_All.body := LabC.list (l := [(q_tree_All_0, a_tree_All_0, y_tree_All_0)]) (by kernel_rfl) ⟨u_tree_All_0, trivial⟩
theorem lab_tree_walk_1 : LabC tbl c_tree_walk_1.body := LabC.list (l := [(q_tree_walk_1_0, a_tree_walk_1_0, y_tree_walk_1_0)]) (by kernel_rfl) ⟨u_tree_walk_1_0, trivial⟩

set_option maxRecDepth 100000 in
theorem fits : ∀ k af, tbl k = some af → k < yBase → (∃ fn, Tryz.prog.funcs[k]? = some fn ∧ chkF Tryz.prog fn af = true) ∧ LabC tbl af.body :=
 Tab.cons (p := fun k af => k < yBase → (∃ fn, Tryz.prog.funcs[k]? = some fn ∧ chkF Tryz.prog fn af = true) ∧ LabC tbl af.body) (fun _ => ⟨⟨_, Tryz.func3, k_flotsamlaw18_PrintTells⟩, (LabC.none rfl)⟩) <|
 Tab.cons (p := fun k af => k < yBase → (∃ fn, Tryz.prog.funcs[k]? = some fn ∧ chkF Tryz.prog fn af = true) ∧ LabC tbl af.body) (fun _ => ⟨⟨_, Tryz.func6, k_flotsamlaw16_Small⟩, (LabC.none rfl)⟩) <|
 Tab.cons (p := fun k af => k < yBase → (∃ fn, Tryz.prog.funcs[k]? = some fn ∧ chkF Tryz.prog fn af = true) ∧ LabC tbl af.body) (fun _ => ⟨⟨_, Tryz.func7, k_flotsamlaw18_knows⟩, (LabC.none rfl)⟩) <|
 Tab.cons (p := fun k af => k < yBase → (∃ fn, Tryz.prog.funcs[k]? = some fn ∧ chkF Tryz.prog fn af = true) ∧ LabC tbl af.body) (fun _ => ⟨⟨_, Tryz.func8, k_print_Program⟩, (LabC.none rfl)⟩) <|
 Tab.cons (p := fun k af => k < yBase → (∃ fn, Tryz.prog.funcs[k]? = some fn ∧ chkF Tryz.prog fn af = true) ∧ LabC tbl af.body) (fun _ => ⟨⟨_, Tryz.func9, k_flotsamref18_Program⟩, (LabC.none rfl)⟩) <|
 Tab.cons (p := fun k af => k < yBase → (∃ fn, Tryz.prog.funcs[k]? = some fn ∧ chkF Tryz.prog fn af = true) ∧ LabC tbl af.body) (fun _ => ⟨⟨_, Tryz.func10, k_print_Expr⟩, (LabC.none rfl)⟩) <|
 Tab.cons (p := fun k af => k < yBase → (∃ fn, Tryz.prog.funcs[k]? = some fn ∧ chkF Tryz.prog fn af = true) ∧ LabC tbl af.body) (fun _ => ⟨⟨_, Tryz.func11, k_flotsamref18_Expr⟩, (LabC.none rfl)⟩) <|
 Tab.cons (p := fun k af => k < yBase → (∃ fn, Tryz.prog.funcs[k]? = some fn ∧ chkF Tryz.prog fn af = true) ∧ LabC tbl af.body) (fun _ => ⟨⟨_, Tryz.func14, k_tree_Right⟩, (LabC.none rfl)⟩) <|
 Tab.cons (p := fun k af => k < yBase → (∃ fn, Tryz.prog.funcs[k]? = some fn ∧ chkF Tryz.prog fn af = true) ∧ LabC tbl af.body) (fun _ => ⟨⟨_, Tryz.func18, k_r16_Size⟩, (LabC.none rfl)⟩) <|
 Tab.cons (p := fun k af => k < yBase → (∃ fn, Tryz.prog.funcs[k]? = some fn ∧ chkF Tryz.prog fn af = true) ∧ LabC tbl af.body) (fun _ => ⟨⟨_, Tryz.func19, k_pprint_printer_add⟩, (LabC.none rfl)⟩) <|
 Tab.cons (p := fun k af => k < yBase → (∃ fn, Tryz.prog.funcs[k]? = some fn ∧ chkF Tryz.prog fn af = true) ∧ LabC tbl af.body) (fun _ => ⟨⟨_, Tryz.func20, k_pprint_printer_block⟩, (LabC.none rfl)⟩) <|
 Tab.cons (p := fun k af => k < yBase → (∃ fn, Tryz.prog.funcs[k]? = some fn ∧ chkF Tryz.prog fn af = true) ∧ LabC tbl af.body) (fun _ => ⟨⟨_, Tryz.func21, k_pprint_printer_expr⟩, (LabC.none rfl)⟩) <|
 Tab.cons (p := fun k af => k < yBase → (∃ fn, Tryz.prog.funcs[k]? = some fn ∧ chkF Tryz.prog fn af = true) ∧ LabC tbl af.body) (fun _ => ⟨⟨_, Tryz.func23, k_r16_Right⟩, (LabC.none rfl)⟩) <|
 Tab.cons (p := fun k af => k < yBase → (∃ fn, Tryz.prog.funcs[k]? = some fn ∧ chkF Tryz.prog fn af = true) ∧ LabC tbl af.body) (fun _ => ⟨⟨_, Tryz.func24, k_flotsamref18_block⟩, (LabC.none rfl)⟩) <|
 Tab.cons (p := fun k af => k < yBase → (∃ fn, Tryz.prog.funcs[k]? = some fn ∧ chkF Tryz.prog fn af = true) ∧ LabC tbl af.body) (fun _ => ⟨⟨_, Tryz.func25, k_flotsamref18_expr⟩, (LabC.none rfl)⟩) <|
 Tab.cons (p := fun k af => k < yBase → (∃ fn, Tryz.prog.funcs[k]? = some fn ∧ chkF Tryz.prog fn af = true) ∧ LabC tbl af.body) (fun _ => ⟨⟨_, Tryz.func26, k_r16_Expr⟩, (LabC.none rfl)⟩) <|
 Tab.cons (p := fun k af => k < yBase → (∃ fn, Tryz.prog.funcs[k]? = some fn ∧ chkF Tryz.prog fn af = true) ∧ LabC tbl af.body) (fun _ => ⟨⟨_, Tryz.func30, k_tree_All⟩, lab_tree_All⟩) <|
 Tab.cons (p := fun k af => k < yBase → (∃ fn, Tryz.prog.funcs[k]? = some fn ∧ chkF Tryz.prog fn af = true) ∧ LabC tbl af.body) (fun _ => ⟨⟨_, Tryz.func31, k_tree_Right_1⟩, (LabC.none rfl)⟩) <|
 Tab.cons (p := fun k af => k < yBase → (∃ fn, Tryz.prog.funcs[k]? = some fn ∧ chkF Tryz.prog fn af = true) ∧ LabC tbl af.body) (fun _ => ⟨⟨_, Tryz.func32, k_lex_Name⟩, (LabC.none rfl)⟩) <|
 Tab.cons (p := fun k af => k < yBase → (∃ fn, Tryz.prog.funcs[k]? = some fn ∧ chkF Tryz.prog fn af = true) ∧ LabC tbl af.body) (fun _ => ⟨⟨_, Tryz.func33, k_tree_Right_2⟩, (LabC.none rfl)⟩) <|
 Tab.cons (p := fun k af => k < yBase → (∃ fn, Tryz.prog.funcs[k]? = some fn ∧ chkF Tryz.prog fn af = true) ∧ LabC tbl af.body) (fun _ => ⟨⟨_, Tryz.func34, k_tree_expr⟩, (LabC.none rfl)⟩) <|
 Tab.cons (p := fun k af => k < yBase → (∃ fn, Tryz.prog.funcs[k]? = some fn ∧ chkF Tryz.prog fn af = true) ∧ LabC tbl af.body) (fun _ => ⟨⟨_, Tryz.func35, k_tree_Right_3⟩, (LabC.none rfl)⟩) <|
 Tab.cons (p := fun k af => k < yBase → (∃ fn, Tryz.prog.funcs[k]? = some fn ∧ chkF Tryz.prog fn af = true) ∧ LabC tbl af.body) (fun _ => ⟨⟨_, Tryz.func36, k_tree_block⟩, (LabC.none rfl)⟩) <|
 Tab.cons (p := fun k af => k < yBase → (∃ fn, Tryz.prog.funcs[k]? = some fn ∧ chkF Tryz.prog fn af = true) ∧ LabC tbl af.body) (fun _ => ⟨⟨_, Tryz.func37, k_slices_ContainsFunc_api_Proc_api_Proc⟩, (LabC.none rfl)⟩) <|
 Tab.cons (p := fun k af => k < yBase → (∃ fn, Tryz.prog.funcs[k]? = some fn ∧ chkF Tryz.prog fn af = true) ∧ LabC tbl af.body) (fun _ => ⟨⟨_, Tryz.func38, k_slices_ContainsFunc_api_Oracle_api_Oracle⟩, (LabC.none rfl)⟩) <|
 Tab.cons (p := fun k af => k < yBase → (∃ fn, Tryz.prog.funcs[k]? = some fn ∧ chkF Tryz.prog fn af = true) ∧ LabC tbl af.body) (fun _ => ⟨⟨_, Tryz.func39, k_slices_ContainsFunc_api_Stmt_api_Stmt⟩, (LabC.none rfl)⟩) <|
 Tab.cons (p := fun k af => k < yBase → (∃ fn, Tryz.prog.funcs[k]? = some fn ∧ chkF Tryz.prog fn af = true) ∧ LabC tbl af.body) (fun _ => ⟨⟨_, Tryz.func40, k_tree_parts⟩, (LabC.none rfl)⟩) <|
 Tab.cons (p := fun k af => k < yBase → (∃ fn, Tryz.prog.funcs[k]? = some fn ∧ chkF Tryz.prog fn af = true) ∧ LabC tbl af.body) (fun _ => ⟨⟨_, Tryz.func42, k_r16_block⟩, (LabC.none rfl)⟩) <|
 Tab.cons (p := fun k af => k < yBase → (∃ fn, Tryz.prog.funcs[k]? = some fn ∧ chkF Tryz.prog fn af = true) ∧ LabC tbl af.body) (fun _ => ⟨⟨_, Tryz.func43, k_r16_expr⟩, (LabC.none rfl)⟩) <|
 Tab.cons (p := fun k af => k < yBase → (∃ fn, Tryz.prog.funcs[k]? = some fn ∧ chkF Tryz.prog fn af = true) ∧ LabC tbl af.body) (fun _ => ⟨⟨_, Tryz.func46, k_pprint_printer_stmt⟩, (LabC.none rfl)⟩) <|
 Tab.cons (p := fun k af => k < yBase → (∃ fn, Tryz.prog.funcs[k]? = some fn ∧ chkF Tryz.prog fn af = true) ∧ LabC tbl af.body) (fun _ => ⟨⟨_, Tryz.func47, k_print_strong⟩, (LabC.none rfl)⟩) <|
 Tab.cons (p := fun k af => k < yBase → (∃ fn, Tryz.prog.funcs[k]? = some fn ∧ chkF Tryz.prog fn af = true) ∧ LabC tbl af.body) (fun _ => ⟨⟨_, Tryz.func48, k_num_Digits⟩, (LabC.none rfl)⟩) <|
 Tab.cons (p := fun k af => k < yBase → (∃ fn, Tryz.prog.funcs[k]? = some fn ∧ chkF Tryz.prog fn af = true) ∧ LabC tbl af.body) (fun _ => ⟨⟨_, Tryz.func49, k_view_Quote⟩, (LabC.none rfl)⟩) <|
 Tab.cons (p := fun k af => k < yBase → (∃ fn, Tryz.prog.funcs[k]? = some fn ∧ chkF Tryz.prog fn af = true) ∧ LabC tbl af.body) (fun _ => ⟨⟨_, Tryz.func50, k_print_call⟩, (LabC.none rfl)⟩) <|
 Tab.cons (p := fun k af => k < yBase → (∃ fn, Tryz.prog.funcs[k]? = some fn ∧ chkF Tryz.prog fn af = true) ∧ LabC tbl af.body) (fun _ => ⟨⟨_, Tryz.func51, k_print_sign⟩, (LabC.none rfl)⟩) <|
 Tab.cons (p := fun k af => k < yBase → (∃ fn, Tryz.prog.funcs[k]? = some fn ∧ chkF Tryz.prog fn af = true) ∧ LabC tbl af.body) (fun _ => ⟨⟨_, Tryz.func52, k_r16_All⟩, (LabC.none rfl)⟩) <|
 Tab.cons (p := fun k af => k < yBase → (∃ fn, Tryz.prog.funcs[k]? = some fn ∧ chkF Tryz.prog fn af = true) ∧ LabC tbl af.body) (fun _ => ⟨⟨_, Tryz.func53, k_r15_Name⟩, (LabC.none rfl)⟩) <|
 Tab.cons (p := fun k af => k < yBase → (∃ fn, Tryz.prog.funcs[k]? = some fn ∧ chkF Tryz.prog fn af = true) ∧ LabC tbl af.body) (fun _ => ⟨⟨_, Tryz.func54, k_r16_Block⟩, (LabC.none rfl)⟩) <|
 Tab.cons (p := fun k af => k < yBase → (∃ fn, Tryz.prog.funcs[k]? = some fn ∧ chkF Tryz.prog fn af = true) ∧ LabC tbl af.body) (fun _ => ⟨⟨_, Tryz.func55, k_flotsamref18_tabs⟩, (LabC.none rfl)⟩) <|
 Tab.cons (p := fun k af => k < yBase → (∃ fn, Tryz.prog.funcs[k]? = some fn ∧ chkF Tryz.prog fn af = true) ∧ LabC tbl af.body) (fun _ => ⟨⟨_, Tryz.func56, k_flotsamref18_stmt⟩, (LabC.none rfl)⟩) <|
 Tab.cons (p := fun k af => k < yBase → (∃ fn, Tryz.prog.funcs[k]? = some fn ∧ chkF Tryz.prog fn af = true) ∧ LabC tbl af.body) (fun _ => ⟨⟨_, Tryz.func57, k_r01_Digits⟩, (LabC.none rfl)⟩) <|
 Tab.cons (p := fun k af => k < yBase → (∃ fn, Tryz.prog.funcs[k]? = some fn ∧ chkF Tryz.prog fn af = true) ∧ LabC tbl af.body) (fun _ => ⟨⟨_, Tryz.func58, k_r14_Quote⟩, (LabC.none rfl)⟩) <|
 Tab.cons (p := fun k af => k < yBase → (∃ fn, Tryz.prog.funcs[k]? = some fn ∧ chkF Tryz.prog fn af = true) ∧ LabC tbl af.body) (fun _ => ⟨⟨_, Tryz.func59, k_flotsamref18_sub⟩, (LabC.none rfl)⟩) <|
 Tab.cons (p := fun k af => k < yBase → (∃ fn, Tryz.prog.funcs[k]? = some fn ∧ chkF Tryz.prog fn af = true) ∧ LabC tbl af.body) (fun _ => ⟨⟨_, Tryz.func60, k_r16_Parts⟩, (LabC.none rfl)⟩) <|
 Tab.cons (p := fun k af => k < yBase → (∃ fn, Tryz.prog.funcs[k]? = some fn ∧ chkF Tryz.prog fn af = true) ∧ LabC tbl af.body) (fun _ => ⟨⟨_, Tryz.func69, k_tree_walk⟩, (LabC.none rfl)⟩) <|
 Tab.cons (p := fun k af => k < yBase → (∃ fn, Tryz.prog.funcs[k]? = some fn ∧ chkF Tryz.prog fn af = true) ∧ LabC tbl af.body) (fun _ => ⟨⟨_, Tryz.func70, k_tree_cloned⟩, (LabC.none rfl)⟩) <|
 Tab.cons (p := fun k af => k < yBase → (∃ fn, Tryz.prog.funcs[k]? = some fn ∧ chkF Tryz.prog fn af = true) ∧ LabC tbl af.body) (fun _ => ⟨⟨_, Tryz.func71, k_lex_begins⟩, (LabC.none rfl)⟩) <|
 Tab.cons (p := fun k af => k < yBase → (∃ fn, Tryz.prog.funcs[k]? = some fn ∧ chkF Tryz.prog fn af = true) ∧ LabC tbl af.body) (fun _ => ⟨⟨_, Tryz.func72, k_lex_letter⟩, (LabC.none rfl)⟩) <|
 Tab.cons (p := fun k af => k < yBase → (∃ fn, Tryz.prog.funcs[k]? = some fn ∧ chkF Tryz.prog fn af = true) ∧ LabC tbl af.body) (fun _ => ⟨⟨_, Tryz.func74, k_lex_inner⟩, (LabC.none rfl)⟩) <|
 Tab.cons (p := fun k af => k < yBase → (∃ fn, Tryz.prog.funcs[k]? = some fn ∧ chkF Tryz.prog fn af = true) ∧ LabC tbl af.body) (fun _ => ⟨⟨_, Tryz.func75, k_lex_Key⟩, (LabC.none rfl)⟩) <|
 Tab.cons (p := fun k af => k < yBase → (∃ fn, Tryz.prog.funcs[k]? = some fn ∧ chkF Tryz.prog fn af = true) ∧ LabC tbl af.body) (fun _ => ⟨⟨_, Tryz.func76, k_tree_Parts⟩, (LabC.none rfl)⟩) <|
 Tab.cons (p := fun k af => k < yBase → (∃ fn, Tryz.prog.funcs[k]? = some fn ∧ chkF Tryz.prog fn af = true) ∧ LabC tbl af.body) (fun _ => ⟨⟨_, Tryz.func77, k_slices_ContainsFunc_api_Expr_api_Expr⟩, (LabC.none rfl)⟩) <|
 Tab.cons (p := fun k af => k < yBase → (∃ fn, Tryz.prog.funcs[k]? = some fn ∧ chkF Tryz.prog fn af = true) ∧ LabC tbl af.body) (fun _ => ⟨⟨_, Tryz.func78, k_tree_expr_1⟩, (LabC.none rfl)⟩) <|
 Tab.cons (p := fun k af => k < yBase → (∃ fn, Tryz.prog.funcs[k]? = some fn ∧ chkF Tryz.prog fn af = true) ∧ LabC tbl af.body) (fun _ => ⟨⟨_, Tryz.func79, k_slices_ContainsFunc_api_Stmt_api_Stmt_x⟩, (LabC.none rfl)⟩) <|
 Tab.cons (p := fun k af => k < yBase → (∃ fn, Tryz.prog.funcs[k]? = some fn ∧ chkF Tryz.prog fn af = true) ∧ LabC tbl af.body) (fun _ => ⟨⟨_, Tryz.func80, k_tree_block_1⟩, (LabC.none rfl)⟩) <|
 Tab.cons (p := fun k af => k < yBase → (∃ fn, Tryz.prog.funcs[k]? = some fn ∧ chkF Tryz.prog fn af = true) ∧ LabC tbl af.body) (fun _ => ⟨⟨_, Tryz.func81, k_tree_stmt⟩, (LabC.none rfl)⟩) <|
 Tab.cons (p := fun k af => k < yBase → (∃ fn, Tryz.prog.funcs[k]? = some fn ∧ chkF Tryz.prog fn af = true) ∧ LabC tbl af.body) (fun _ => ⟨⟨_, Tryz.func82, k_slices_IndexFunc_api_Proc_api_Proc⟩, (LabC.none rfl)⟩) <|
 Tab.cons (p := fun k af => k < yBase → (∃ fn, Tryz.prog.funcs[k]? = some fn ∧ chkF Tryz.prog fn af = true) ∧ LabC tbl af.body) (fun _ => ⟨⟨_, Tryz.func83, k_slices_IndexFunc_api_Oracle_api_Oracle⟩, (LabC.none rfl)⟩) <|
 Tab.cons (p := fun k af => k < yBase → (∃ fn, Tryz.prog.funcs[k]? = some fn ∧ chkF Tryz.prog fn af = true) ∧ LabC tbl af.body) (fun _ => ⟨⟨_, Tryz.func84, k_slices_IndexFunc_api_Stmt_api_Stmt⟩, (LabC.none rfl)⟩) <|
 Tab.cons (p := fun k af => k < yBase → (∃ fn, Tryz.prog.funcs[k]? = some fn ∧ chkF Tryz.prog fn af = true) ∧ LabC tbl af.body) (fun _ => ⟨⟨_, Tryz.func95, k_print_key⟩, (LabC.none rfl)⟩) <|
 Tab.cons (p := fun k af => k < yBase → (∃ fn, Tryz.prog.funcs[k]? = some fn ∧ chkF Tryz.prog fn af = true) ∧ LabC tbl af.body) (fun _ => ⟨⟨_, Tryz.func96, k_pprint_printer_exprs⟩, (LabC.none rfl)⟩) <|
 Tab.cons (p := fun k af => k < yBase → (∃ fn, Tryz.prog.funcs[k]? = some fn ∧ chkF Tryz.prog fn af = true) ∧ LabC tbl af.body) (fun _ => ⟨⟨_, Tryz.func98, k_view_plain⟩, (LabC.none rfl)⟩) <|
 Tab.cons (p := fun k af => k < yBase → (∃ fn, Tryz.prog.funcs[k]? = some fn ∧ chkF Tryz.prog fn af = true) ∧ LabC tbl af.body) (fun _ => ⟨⟨_, Tryz.func99, k_r16_list⟩, (LabC.none rfl)⟩) <|
 Tab.cons (p := fun k af => k < yBase → (∃ fn, Tryz.prog.funcs[k]? = some fn ∧ chkF Tryz.prog fn af = true) ∧ LabC tbl af.body) (fun _ => ⟨⟨_, Tryz.func100, k_r15_letter⟩, (LabC.none rfl)⟩) <|
 Tab.cons (p := fun k af => k < yBase → (∃ fn, Tryz.prog.funcs[k]? = some fn ∧ chkF Tryz.prog fn af = true) ∧ LabC tbl af.body) (fun _ => ⟨⟨_, Tryz.func101, k_r15_Key⟩, (LabC.none rfl)⟩) <|
 Tab.cons (p := fun k af => k < yBase → (∃ fn, Tryz.prog.funcs[k]? = some fn ∧ chkF Tryz.prog fn af = true) ∧ LabC tbl af.body) (fun _ => ⟨⟨_, Tryz.func102, k_r15_inner⟩, (LabC.none rfl)⟩) <|
 Tab.cons (p := fun k af => k < yBase → (∃ fn, Tryz.prog.funcs[k]? = some fn ∧ chkF Tryz.prog fn af = true) ∧ LabC tbl af.body) (fun _ => ⟨⟨_, Tryz.func103, k_r16_Stmt⟩, (LabC.none rfl)⟩) <|
 Tab.cons (p := fun k af => k < yBase → (∃ fn, Tryz.prog.funcs[k]? = some fn ∧ chkF Tryz.prog fn af = true) ∧ LabC tbl af.body) (fun _ => ⟨⟨_, Tryz.func104, k_r14_sign⟩, (LabC.none rfl)⟩) <|
 Tab.cons (p := fun k af => k < yBase → (∃ fn, Tryz.prog.funcs[k]? = some fn ∧ chkF Tryz.prog fn af = true) ∧ LabC tbl af.body) (fun _ => ⟨⟨_, Tryz.func105, k_flotsamref18_closed⟩, (LabC.none rfl)⟩) <|
 Tab.cons (p := fun k af => k < yBase → (∃ fn, Tryz.prog.funcs[k]? = some fn ∧ chkF Tryz.prog fn af = true) ∧ LabC tbl af.body) (fun _ => ⟨⟨_, Tryz.func109, k_lex_digit⟩, (LabC.none rfl)⟩) <|
 Tab.cons (p := fun k af => k < yBase → (∃ fn, Tryz.prog.funcs[k]? = some fn ∧ chkF Tryz.prog fn af = true) ∧ LabC tbl af.body) (fun _ => ⟨⟨_, Tryz.func115, k_tree_walk_1⟩, lab_tree_walk_1⟩) <|
 Tab.cons (p := fun k af => k < yBase → (∃ fn, Tryz.prog.funcs[k]? = some fn ∧ chkF Tryz.prog fn af = true) ∧ LabC tbl af.body) (fun _ => ⟨⟨_, Tryz.func116, k_tree_each_api_Expr⟩, (LabC.none rfl)⟩) <|
 Tab.cons (p := fun k af => k < yBase → (∃ fn, Tryz.prog.funcs[k]? = some fn ∧ chkF Tryz.prog fn af = true) ∧ LabC tbl af.body) (fun _ => ⟨⟨_, Tryz.func117, k_tree_clonedExpr⟩, (LabC.none rfl)⟩) <|
 Tab.cons (p := fun k af => k < yBase → (∃ fn, Tryz.prog.funcs[k]? = some fn ∧ chkF Tryz.prog fn af = true) ∧ LabC tbl af.body) (fun _ => ⟨⟨_, Tryz.func118, k_tree_each_api_Stmt⟩, (LabC.none rfl)⟩) <|
 Tab.cons (p := fun k af => k < yBase → (∃ fn, Tryz.prog.funcs[k]? = some fn ∧ chkF Tryz.prog fn af = true) ∧ LabC tbl af.body) (fun _ => ⟨⟨_, Tryz.func122, k_slices_IndexFunc_api_Expr_api_Expr⟩, (LabC.none rfl)⟩) <|
 Tab.cons (p := fun k af => k < yBase → (∃ fn, Tryz.prog.funcs[k]? = some fn ∧ chkF Tryz.prog fn af = true) ∧ LabC tbl af.body) (fun _ => ⟨⟨_, Tryz.func123, k_slices_IndexFunc_api_Stmt_api_Stmt_x⟩, (LabC.none rfl)⟩) <|
 Tab.cons (p := fun k af => k < yBase → (∃ fn, Tryz.prog.funcs[k]? = some fn ∧ chkF Tryz.prog fn af = true) ∧ LabC tbl af.body) (fun _ => ⟨⟨_, Tryz.func124, k_tree_shape⟩, (LabC.none rfl)⟩) <|
 Tab.cons (p := fun k af => k < yBase → (∃ fn, Tryz.prog.funcs[k]? = some fn ∧ chkF Tryz.prog fn af = true) ∧ LabC tbl af.body) (fun _ => ⟨⟨_, Tryz.func125, k_tree_stmt_1⟩, (LabC.none rfl)⟩) <|
 Tab.cons (p := fun k af => k < yBase → (∃ fn, Tryz.prog.funcs[k]? = some fn ∧ chkF Tryz.prog fn af = true) ∧ LabC tbl af.body) (fun _ => ⟨⟨_, Tryz.func134, k_r15_digit⟩, (LabC.none rfl)⟩) <|
 Tab.cons (p := fun k af => k < yBase → (∃ fn, Tryz.prog.funcs[k]? = some fn ∧ chkF Tryz.prog fn af = true) ∧ LabC tbl af.body) (fun _ => ⟨⟨_, Tryz.func135, k_r16_Exprs⟩, (LabC.none rfl)⟩) <|
 Tab.cons (p := fun k af => k < yBase → (∃ fn, Tryz.prog.funcs[k]? = some fn ∧ chkF Tryz.prog fn af = true) ∧ LabC tbl af.body) (fun _ => ⟨⟨_, Tryz.func150, k_tree_Exprs⟩, (LabC.none rfl)⟩) <|
 Tab.cons (p := fun k af => k < yBase → (∃ fn, Tryz.prog.funcs[k]? = some fn ∧ chkF Tryz.prog fn af = true) ∧ LabC tbl af.body) (fun _ => ⟨⟨_, Tryz.func151, k_tree_blocks⟩, (LabC.none rfl)⟩) <|
 Tab.cons (p := fun k af => k < yBase → (∃ fn, Tryz.prog.funcs[k]? = some fn ∧ chkF Tryz.prog fn af = true) ∧ LabC tbl af.body) (fun _ => ⟨⟨_, Tryz.func152, k_tree_shape_1⟩, (LabC.none rfl)⟩) <|
 Tab.cons (p := fun k af => k < yBase → (∃ fn, Tryz.prog.funcs[k]? = some fn ∧ chkF Tryz.prog fn af = true) ∧ LabC tbl af.body) (fun h => absurd h (Nat.not_lt.2 (Nat.le_of_ble_eq_true rfl))) <|
 Tab.cons (p := fun k af => k < yBase → (∃ fn, Tryz.prog.funcs[k]? = some fn ∧ chkF Tryz.prog fn af = true) ∧ LabC tbl af.body) (fun h => absurd h (Nat.not_lt.2 (Nat.le_of_ble_eq_true rfl))) <|
 Tab.nil

end Go.Proofs.YtfbnodahmmlfdaaGreatDoor
