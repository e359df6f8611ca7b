/-
  The abstract code of each function fits the loaded function; printed by a program (gen.py).
-/
import Derived.Test.YtlpokbhooaffmaaGreatDoorCode
import Derived.Test.YtlpokbhooaffmaaGreatDoorRun
import Derived.Test.YtlpokbhooaffmaaGreatDoorChecked
namespace Go.Proofs.YtlpokbhooaffmaaGreatDoor
open Go.AM

theorem k_flotsamlaw17_ParseRight : chkF Tryz.prog Tryz.f4 c_flotsamlaw17_ParseRight = true := by kernel_rfl
theorem k_flotsamlaw17_knows : chkF Tryz.prog Tryz.f5 c_flotsamlaw17_knows = true := by kernel_rfl
theorem k_parse_Program : chkF Tryz.prog Tryz.f6 c_parse_Program = true := by kernel_rfl
theorem k_parse_Expr : chkF Tryz.prog Tryz.f8 c_parse_Expr = true := by kernel_rfl
theorem k_flotsamref16_Same : chkF Tryz.prog Tryz.f10 c_flotsamref16_Same = true := by kernel_rfl
theorem k_flotsamlaw15_Fault : chkF Tryz.prog Tryz.f11 c_flotsamlaw15_Fault = true := by kernel_rfl
theorem k_flotsamref16_SameExpr : chkF Tryz.prog Tryz.f12 c_flotsamref16_SameExpr = true := by kernel_rfl
theorem k_tree_Right : chkF Tryz.prog Tryz.f13 c_tree_Right = true := by kernel_rfl
theorem k_lex_Words : chkF Tryz.prog Tryz.f14 c_lex_Words = true := by kernel_rfl
theorem k_pparse_parser_program : chkF Tryz.prog Tryz.f15 c_pparse_parser_program = true := by kernel_rfl
theorem k_pparse_parser_whole : chkF Tryz.prog Tryz.f26 c_pparse_parser_whole = true := by kernel_rfl
theorem k_flotsamref16_SameStmts : chkF Tryz.prog Tryz.f27 c_flotsamref16_SameStmts = true := by kernel_rfl
theorem k_tree_All : chkF Tryz.prog Tryz.f28 c_tree_All = true := by kernel_rfl
theorem k_tree_Right_1 : chkF Tryz.prog Tryz.f29 c_tree_Right_1 = true := by kernel_rfl
theorem k_lex_Name : chkF Tryz.prog Tryz.f30 c_lex_Name = true := by kernel_rfl
theorem k_tree_Right_2 : chkF Tryz.prog Tryz.f31 c_tree_Right_2 = true := by kernel_rfl
theorem k_tree_expr : chkF Tryz.prog Tryz.f32 c_tree_expr = true := by kernel_rfl
theorem k_tree_Right_3 : chkF Tryz.prog Tryz.f33 c_tree_Right_3 = true := by kernel_rfl
theorem k_tree_block : chkF Tryz.prog Tryz.f34 c_tree_block = true := by kernel_rfl
theorem k_slices_ContainsFunc_api_Proc_api_Proc : chkF Tryz.prog Tryz.f35 c_slices_ContainsFunc_api_Proc_api_Proc = true := by kernel_rfl
theorem k_slices_ContainsFunc_api_Oracle_api_Oracle : chkF Tryz.prog Tryz.f36 c_slices_ContainsFunc_api_Oracle_api_Oracle = true := by kernel_rfl
theorem k_slices_ContainsFunc_api_Stmt_api_Stmt : chkF Tryz.prog Tryz.f37 c_slices_ContainsFunc_api_Stmt_api_Stmt = true := by kernel_rfl
theorem k_tree_parts : chkF Tryz.prog Tryz.f38 c_tree_parts = true := by kernel_rfl
theorem k_lex_skip : chkF Tryz.prog Tryz.f39 c_lex_skip = true := by kernel_rfl
theorem k_lex_next : chkF Tryz.prog Tryz.f40 c_lex_next = true := by kernel_rfl
theorem k_pparse_parser_named : chkF Tryz.prog Tryz.f41 c_pparse_parser_named = true := by kernel_rfl
theorem k_pparse_parser_block : chkF Tryz.prog Tryz.f42 c_pparse_parser_block = true := by kernel_rfl
theorem k_pparse_words_wants : chkF Tryz.prog Tryz.f43 c_pparse_words_wants = true := by kernel_rfl
theorem k_pparse_words_takes : chkF Tryz.prog Tryz.f44 c_pparse_words_takes = true := by kernel_rfl
theorem k_pparse_words_of : chkF Tryz.prog Tryz.f45 c_pparse_words_of = true := by kernel_rfl
theorem k_pparse_words_head : chkF Tryz.prog Tryz.f51 c_pparse_words_head = true := by kernel_rfl
theorem k_pparse_parser_expr : chkF Tryz.prog Tryz.f52 c_pparse_parser_expr = true := by kernel_rfl
theorem k_pparse_words_sees : chkF Tryz.prog Tryz.f53 c_pparse_words_sees = true := by kernel_rfl
theorem k_pparse_words_fail : chkF Tryz.prog Tryz.f54 c_pparse_words_fail = true := by kernel_rfl
theorem k_parse_deep : chkF Tryz.prog Tryz.f55 c_parse_deep = true := by kernel_rfl
theorem k_flotsamref16_SameStmt : chkF Tryz.prog Tryz.f56 c_flotsamref16_SameStmt = true := by kernel_rfl
theorem k_tree_walk : chkF Tryz.prog Tryz.f57 c_tree_walk = true := by kernel_rfl
theorem k_tree_cloned : chkF Tryz.prog Tryz.f58 c_tree_cloned = true := by kernel_rfl
theorem k_lex_begins : chkF Tryz.prog Tryz.f59 c_lex_begins = true := by kernel_rfl
theorem k_lex_letter : chkF Tryz.prog Tryz.f60 c_lex_letter = true := by kernel_rfl
theorem k_lex_inner : chkF Tryz.prog Tryz.f62 c_lex_inner = true := by kernel_rfl
theorem k_lex_Key : chkF Tryz.prog Tryz.f63 c_lex_Key = true := by kernel_rfl
theorem k_tree_Parts : chkF Tryz.prog Tryz.f64 c_tree_Parts = true := by kernel_rfl
theorem k_slices_ContainsFunc_api_Expr_api_Expr : chkF Tryz.prog Tryz.f65 c_slices_ContainsFunc_api_Expr_api_Expr = true := by kernel_rfl
theorem k_tree_expr_1 : chkF Tryz.prog Tryz.f66 c_tree_expr_1 = true := by kernel_rfl
theorem k_slices_ContainsFunc_api_Stmt_api_Stmt_x : chkF Tryz.prog Tryz.f67 c_slices_ContainsFunc_api_Stmt_api_Stmt_x = true := by kernel_rfl
theorem k_tree_block_1 : chkF Tryz.prog Tryz.f68 c_tree_block_1 = true := by kernel_rfl
theorem k_tree_stmt : chkF Tryz.prog Tryz.f69 c_tree_stmt = true := by kernel_rfl
theorem k_slices_IndexFunc_api_Proc_api_Proc : chkF Tryz.prog Tryz.f70 c_slices_IndexFunc_api_Proc_api_Proc = true := by kernel_rfl
theorem k_slices_IndexFunc_api_Oracle_api_Oracle : chkF Tryz.prog Tryz.f71 c_slices_IndexFunc_api_Oracle_api_Oracle = true := by kernel_rfl
theorem k_slices_IndexFunc_api_Stmt_api_Stmt : chkF Tryz.prog Tryz.f72 c_slices_IndexFunc_api_Stmt_api_Stmt = true := by kernel_rfl
theorem k_strings_HasPrefix : chkF Tryz.prog Tryz.f74 c_strings_HasPrefix = true := by kernel_rfl
theorem k_lex_word : chkF Tryz.prog Tryz.f76 c_lex_word = true := by kernel_rfl
theorem k_lex_digit : chkF Tryz.prog Tryz.f77 c_lex_digit = true := by kernel_rfl
theorem k_lex_number : chkF Tryz.prog Tryz.f78 c_lex_number = true := by kernel_rfl
theorem k_lex_text : chkF Tryz.prog Tryz.f79 c_lex_text = true := by kernel_rfl
theorem k_lex_sign : chkF Tryz.prog Tryz.f80 c_lex_sign = true := by kernel_rfl
theorem k_pparse_parser_stmt : chkF Tryz.prog Tryz.f81 c_pparse_parser_stmt = true := by kernel_rfl
theorem k_pparse_words_skip : chkF Tryz.prog Tryz.f82 c_pparse_words_skip = true := by kernel_rfl
theorem k_flotsamref15_letter : chkF Tryz.prog Tryz.f83 c_flotsamref15_letter = true := by kernel_rfl
theorem k_flotsamref15_inner : chkF Tryz.prog Tryz.f84 c_flotsamref15_inner = true := by kernel_rfl
theorem k_flotsamref15_Key : chkF Tryz.prog Tryz.f85 c_flotsamref15_Key = true := by kernel_rfl
theorem k_flotsamref15_Name : chkF Tryz.prog Tryz.f86 c_flotsamref15_Name = true := by kernel_rfl
theorem k_flotsamref15_digit : chkF Tryz.prog Tryz.f87 c_flotsamref15_digit = true := by kernel_rfl
theorem k_pparse_parser_chain : chkF Tryz.prog Tryz.f98 c_pparse_parser_chain = true := by kernel_rfl
theorem k_pparse_parser_both : chkF Tryz.prog Tryz.f99 c_pparse_parser_both = true := by kernel_rfl
theorem k_tree_walk_1 : chkF Tryz.prog Tryz.f100 c_tree_walk_1 = true := by kernel_rfl
theorem k_tree_each_api_Expr : chkF Tryz.prog Tryz.f101 c_tree_each_api_Expr = true := by kernel_rfl
theorem k_tree_clonedExpr : chkF Tryz.prog Tryz.f102 c_tree_clonedExpr = true := by kernel_rfl
theorem k_tree_each_api_Stmt : chkF Tryz.prog Tryz.f103 c_tree_each_api_Stmt = true := by kernel_rfl
theorem k_slices_IndexFunc_api_Expr_api_Expr : chkF Tryz.prog Tryz.f107 c_slices_IndexFunc_api_Expr_api_Expr = true := by kernel_rfl
theorem k_slices_IndexFunc_api_Stmt_api_Stmt_x : chkF Tryz.prog Tryz.f108 c_slices_IndexFunc_api_Stmt_api_Stmt_x = true := by kernel_rfl
theorem k_tree_shape : chkF Tryz.prog Tryz.f109 c_tree_shape = true := by kernel_rfl
theorem k_tree_stmt_1 : chkF Tryz.prog Tryz.f110 c_tree_stmt_1 = true := by kernel_rfl
theorem k_internal_stringslite_HasPrefix : chkF Tryz.prog Tryz.f115 c_internal_stringslite_HasPrefix = true := by kernel_rfl
theorem k_num_Read : chkF Tryz.prog Tryz.f117 c_num_Read = true := by kernel_rfl
theorem k_view_Unquote : chkF Tryz.prog Tryz.f118 c_view_Unquote = true := by kernel_rfl
theorem k_parse_simple : chkF Tryz.prog Tryz.f119 c_parse_simple = true := by kernel_rfl
theorem k_pparse_parser_exprs : chkF Tryz.prog Tryz.f120 c_pparse_parser_exprs = true := by kernel_rfl
theorem k_pparse_parser_choice : chkF Tryz.prog Tryz.f121 c_pparse_parser_choice = true := by kernel_rfl
theorem k_pparse_parser_loop : chkF Tryz.prog Tryz.f122 c_pparse_parser_loop = true := by kernel_rfl
theorem k_pparse_parser_txn : chkF Tryz.prog Tryz.f123 c_pparse_parser_txn = true := by kernel_rfl
theorem k_parse_kind : chkF Tryz.prog Tryz.f127 c_parse_kind = true := by kernel_rfl
theorem k_pparse_parser_not : chkF Tryz.prog Tryz.f128 c_pparse_parser_not = true := by kernel_rfl
theorem k_tree_Exprs : chkF Tryz.prog Tryz.f131 c_tree_Exprs = true := by kernel_rfl
theorem k_tree_blocks : chkF Tryz.prog Tryz.f132 c_tree_blocks = true := by kernel_rfl
theorem k_tree_shape_1 : chkF Tryz.prog Tryz.f133 c_tree_shape_1 = true := by kernel_rfl
theorem k_strings_CutPrefix : chkF Tryz.prog Tryz.f138 c_strings_CutPrefix = true := by kernel_rfl
theorem k_strings_CutSuffix : chkF Tryz.prog Tryz.f139 c_strings_CutSuffix = true := by kernel_rfl
theorem k_view_pair : chkF Tryz.prog Tryz.f140 c_view_pair = true := by kernel_rfl
theorem k_view_plain : chkF Tryz.prog Tryz.f141 c_view_plain = true := by kernel_rfl
theorem k_pparse_parser_compare : chkF Tryz.prog Tryz.f145 c_pparse_parser_compare = true := by kernel_rfl
theorem k_internal_stringslite_CutPrefix : chkF Tryz.prog Tryz.f149 c_internal_stringslite_CutPrefix = true := by kernel_rfl
theorem k_internal_stringslite_CutSuffix : chkF Tryz.prog Tryz.f150 c_internal_stringslite_CutSuffix = true := by kernel_rfl
theorem k_pparse_parser_sum : chkF Tryz.prog Tryz.f153 c_pparse_parser_sum = true := by kernel_rfl
theorem k_internal_stringslite_HasSuffix : chkF Tryz.prog Tryz.f158 c_internal_stringslite_HasSuffix = true := by kernel_rfl
theorem k_pparse_parser_part : chkF Tryz.prog Tryz.f161 c_pparse_parser_part = true := by kernel_rfl
theorem k_pparse_parser_inner : chkF Tryz.prog Tryz.f163 c_pparse_parser_inner = true := by kernel_rfl
theorem lab_tree_All : LabC tbl c_tree_All.body := LabC.list (l := [(q_tree_All_0, a_tree_All_0, y_tree_All_0)]) (by kernel_rfl) ⟨u_tree_All_0, trivial⟩
theorem lab_tree_walk_1 : LabC tbl c_tree_walk_1.body := LabC.list (l := [(q_tree_walk_1_0, a_tree_walk_1_0, y_tree_walk_1_0)]) (by kernel_rfl) ⟨u_tree_walk_1_0, trivial⟩

set_option maxRecDepth 100000 in
theorem fits : ∀ k af, tbl k = some af → k < yBase → (∃ fn, Tryz.prog.funcs[k]? = some fn ∧ chkF Tryz.prog fn af = true) ∧ LabC tbl af.body :=
  Tab.cons (p := fun k af => k < yBase → (∃ fn, Tryz.prog.funcs[k]? = some fn ∧ chkF Tryz.prog fn af = true) ∧ LabC tbl af.body) (fun _ => ⟨⟨_, Tryz.func4, k_flotsamlaw17_ParseRight⟩, (LabC.none rfl)⟩) <|
  Tab.cons (p := fun k af => k < yBase → (∃ fn, Tryz.prog.funcs[k]? = some fn ∧ chkF Tryz.prog fn af = true) ∧ LabC tbl af.body) (fun _ => ⟨⟨_, Tryz.func5, k_flotsamlaw17_knows⟩, (LabC.none rfl)⟩) <|
  Tab.cons (p := fun k af => k < yBase → (∃ fn, Tryz.prog.funcs[k]? = some fn ∧ chkF Tryz.prog fn af = true) ∧ LabC tbl af.body) (fun _ => ⟨⟨_, Tryz.func6, k_parse_Program⟩, (LabC.none rfl)⟩) <|
  Tab.cons (p := fun k af => k < yBase → (∃ fn, Tryz.prog.funcs[k]? = some fn ∧ chkF Tryz.prog fn af = true) ∧ LabC tbl af.body) (fun _ => ⟨⟨_, Tryz.func8, k_parse_Expr⟩, (LabC.none rfl)⟩) <|
  Tab.cons (p := fun k af => k < yBase → (∃ fn, Tryz.prog.funcs[k]? = some fn ∧ chkF Tryz.prog fn af = true) ∧ LabC tbl af.body) (fun _ => ⟨⟨_, Tryz.func10, k_flotsamref16_Same⟩, (LabC.none rfl)⟩) <|
  Tab.cons (p := fun k af => k < yBase → (∃ fn, Tryz.prog.funcs[k]? = some fn ∧ chkF Tryz.prog fn af = true) ∧ LabC tbl af.body) (fun _ => ⟨⟨_, Tryz.func11, k_flotsamlaw15_Fault⟩, (LabC.none rfl)⟩) <|
  Tab.cons (p := fun k af => k < yBase → (∃ fn, Tryz.prog.funcs[k]? = some fn ∧ chkF Tryz.prog fn af = true) ∧ LabC tbl af.body) (fun _ => ⟨⟨_, Tryz.func12, k_flotsamref16_SameExpr⟩, (LabC.none rfl)⟩) <|
  Tab.cons (p := fun k af => k < yBase → (∃ fn, Tryz.prog.funcs[k]? = some fn ∧ chkF Tryz.prog fn af = true) ∧ LabC tbl af.body) (fun _ => ⟨⟨_, Tryz.func13, k_tree_Right⟩, (LabC.none rfl)⟩) <|
  Tab.cons (p := fun k af => k < yBase → (∃ fn, Tryz.prog.funcs[k]? = some fn ∧ chkF Tryz.prog fn af = true) ∧ LabC tbl af.body) (fun _ => ⟨⟨_, Tryz.func14, k_lex_Words⟩, (LabC.none rfl)⟩) <|
  Tab.cons (p := fun k af => k < yBase → (∃ fn, Tryz.prog.funcs[k]? = some fn ∧ chkF Tryz.prog fn af = true) ∧ LabC tbl af.body) (fun _ => ⟨⟨_, Tryz.func15, k_pparse_parser_program⟩, (LabC.none rfl)⟩) <|
  Tab.cons (p := fun k af => k < yBase → (∃ fn, Tryz.prog.funcs[k]? = some fn ∧ chkF Tryz.prog fn af = true) ∧ LabC tbl af.body) (fun _ => ⟨⟨_, Tryz.func26, k_pparse_parser_whole⟩, (LabC.none rfl)⟩) <|
  Tab.cons (p := fun k af => k < yBase → (∃ fn, Tryz.prog.funcs[k]? = some fn ∧ chkF Tryz.prog fn af = true) ∧ LabC tbl af.body) (fun _ => ⟨⟨_, Tryz.func27, k_flotsamref16_SameStmts⟩, (LabC.none rfl)⟩) <|
  Tab.cons (p := fun k af => k < yBase → (∃ fn, Tryz.prog.funcs[k]? = some fn ∧ chkF Tryz.prog fn af = true) ∧ LabC tbl af.body) (fun _ => ⟨⟨_, Tryz.func28, k_tree_All⟩, lab_tree_All⟩) <|
  Tab.cons (p := fun k af => k < yBase → (∃ fn, Tryz.prog.funcs[k]? = some fn ∧ chkF Tryz.prog fn af = true) ∧ LabC tbl af.body) (fun _ => ⟨⟨_, Tryz.func29, k_tree_Right_1⟩, (LabC.none rfl)⟩) <|
  Tab.cons (p := fun k af => k < yBase → (∃ fn, Tryz.prog.funcs[k]? = some fn ∧ chkF Tryz.prog fn af = true) ∧ LabC tbl af.body) (fun _ => ⟨⟨_, Tryz.func30, k_lex_Name⟩, (LabC.none rfl)⟩) <|
  Tab.cons (p := fun k af => k < yBase → (∃ fn, Tryz.prog.funcs[k]? = some fn ∧ chkF Tryz.prog fn af = true) ∧ LabC tbl af.body) (fun _ => ⟨⟨_, Tryz.func31, k_tree_Right_2⟩, (LabC.none rfl)⟩) <|
  Tab.cons (p := fun k af => k < yBase → (∃ fn, Tryz.prog.funcs[k]? = some fn ∧ chkF Tryz.prog fn af = true) ∧ LabC tbl af.body) (fun _ => ⟨⟨_, Tryz.func32, k_tree_expr⟩, (LabC.none rfl)⟩) <|
  Tab.cons (p := fun k af => k < yBase → (∃ fn, Tryz.prog.funcs[k]? = some fn ∧ chkF Tryz.prog fn af = true) ∧ LabC tbl af.body) (fun _ => ⟨⟨_, Tryz.func33, k_tree_Right_3⟩, (LabC.none rfl)⟩) <|
  Tab.cons (p := fun k af => k < yBase → (∃ fn, Tryz.prog.funcs[k]? = some fn ∧ chkF Tryz.prog fn af = true) ∧ LabC tbl af.body) (fun _ => ⟨⟨_, Tryz.func34, k_tree_block⟩, (LabC.none rfl)⟩) <|
  Tab.cons (p := fun k af => k < yBase → (∃ fn, Tryz.prog.funcs[k]? = some fn ∧ chkF Tryz.prog fn af = true) ∧ LabC tbl af.body) (fun _ => ⟨⟨_, Tryz.func35, k_slices_ContainsFunc_api_Proc_api_Proc⟩, (LabC.none rfl)⟩) <|
  Tab.cons (p := fun k af => k < yBase → (∃ fn, Tryz.prog.funcs[k]? = some fn ∧ chkF Tryz.prog fn af = true) ∧ LabC tbl af.body) (fun _ => ⟨⟨_, Tryz.func36, k_slices_ContainsFunc_api_Oracle_api_Oracle⟩, (LabC.none rfl)⟩) <|
  Tab.cons (p := fun k af => k < yBase → (∃ fn, Tryz.prog.funcs[k]? = some fn ∧ chkF Tryz.prog fn af = true) ∧ LabC tbl af.body) (fun _ => ⟨⟨_, Tryz.func37, k_slices_ContainsFunc_api_Stmt_api_Stmt⟩, (LabC.none rfl)⟩) <|
  Tab.cons (p := fun k af => k < yBase → (∃ fn, Tryz.prog.funcs[k]? = some fn ∧ chkF Tryz.prog fn af = true) ∧ LabC tbl af.body) (fun _ => ⟨⟨_, Tryz.func38, k_tree_parts⟩, (LabC.none rfl)⟩) <|
  Tab.cons (p := fun k af => k < yBase → (∃ fn, Tryz.prog.funcs[k]? = some fn ∧ chkF Tryz.prog fn af = true) ∧ LabC tbl af.body) (fun _ => ⟨⟨_, Tryz.func39, k_lex_skip⟩, (LabC.none rfl)⟩) <|
  Tab.cons (p := fun k af => k < yBase → (∃ fn, Tryz.prog.funcs[k]? = some fn ∧ chkF Tryz.prog fn af = true) ∧ LabC tbl af.body) (fun _ => ⟨⟨_, Tryz.func40, k_lex_next⟩, (LabC.none rfl)⟩) <|
  Tab.cons (p := fun k af => k < yBase → (∃ fn, Tryz.prog.funcs[k]? = some fn ∧ chkF Tryz.prog fn af = true) ∧ LabC tbl af.body) (fun _ => ⟨⟨_, Tryz.func41, k_pparse_parser_named⟩, (LabC.none rfl)⟩) <|
  Tab.cons (p := fun k af => k < yBase → (∃ fn, Tryz.prog.funcs[k]? = some fn ∧ chkF Tryz.prog fn af = true) ∧ LabC tbl af.body) (fun _ => ⟨⟨_, Tryz.func42, k_pparse_parser_block⟩, (LabC.none rfl)⟩) <|
  Tab.cons (p := fun k af => k < yBase → (∃ fn, Tryz.prog.funcs[k]? = some fn ∧ chkF Tryz.prog fn af = true) ∧ LabC tbl af.body) (fun _ => ⟨⟨_, Tryz.func43, k_pparse_words_wants⟩, (LabC.none rfl)⟩) <|
  Tab.cons (p := fun k af => k < yBase → (∃ fn, Tryz.prog.funcs[k]? = some fn ∧ chkF Tryz.prog fn af = true) ∧ LabC tbl af.body) (fun _ => ⟨⟨_, Tryz.func44, k_pparse_words_takes⟩, (LabC.none rfl)⟩) <|
  Tab.cons (p := fun k af => k < yBase → (∃ fn, Tryz.prog.funcs[k]? = some fn ∧ chkF Tryz.prog fn af = true) ∧ LabC tbl af.body) (fun _ => ⟨⟨_, Tryz.func45, k_pparse_words_of⟩, (LabC.none rfl)⟩) <|
  Tab.cons (p := fun k af => k < yBase → (∃ fn, Tryz.prog.funcs[k]? = some fn ∧ chkF Tryz.prog fn af = true) ∧ LabC tbl af.body) (fun _ => ⟨⟨_, Tryz.func51, k_pparse_words_head⟩, (LabC.none rfl)⟩) <|
  Tab.cons (p := fun k af => k < yBase → (∃ fn, Tryz.prog.funcs[k]? = some fn ∧ chkF Tryz.prog fn af = true) ∧ LabC tbl af.body) (fun _ => ⟨⟨_, Tryz.func52, k_pparse_parser_expr⟩, (LabC.none rfl)⟩) <|
  Tab.cons (p := fun k af => k < yBase → (∃ fn, Tryz.prog.funcs[k]? = some fn ∧ chkF Tryz.prog fn af = true) ∧ LabC tbl af.body) (fun _ => ⟨⟨_, Tryz.func53, k_pparse_words_sees⟩, (LabC.none rfl)⟩) <|
  Tab.cons (p := fun k af => k < yBase → (∃ fn, Tryz.prog.funcs[k]? = some fn ∧ chkF Tryz.prog fn af = true) ∧ LabC tbl af.body) (fun _ => ⟨⟨_, Tryz.func54, k_pparse_words_fail⟩, (LabC.none rfl)⟩) <|
  Tab.cons (p := fun k af => k < yBase → (∃ fn, Tryz.prog.funcs[k]? = some fn ∧ chkF Tryz.prog fn af = true) ∧ LabC tbl af.body) (fun _ => ⟨⟨_, Tryz.func55, k_parse_deep⟩, (LabC.none rfl)⟩) <|
  Tab.cons (p := fun k af => k < yBase → (∃ fn, Tryz.prog.funcs[k]? = some fn ∧ chkF Tryz.prog fn af = true) ∧ LabC tbl af.body) (fun _ => ⟨⟨_, Tryz.func56, k_flotsamref16_SameStmt⟩, (LabC.none rfl)⟩) <|
  Tab.cons (p := fun k af => k < yBase → (∃ fn, Tryz.prog.funcs[k]? = some fn ∧ chkF Tryz.prog fn af = true) ∧ LabC tbl af.body) (fun _ => ⟨⟨_, Tryz.func57, k_tree_walk⟩, (LabC.none rfl)⟩) <|
  Tab.cons (p := fun k af => k < yBase → (∃ fn, Tryz.prog.funcs[k]? = some fn ∧ chkF Tryz.prog fn af = true) ∧ LabC tbl af.body) (fun _ => ⟨⟨_, Tryz.func58, k_tree_cloned⟩, (LabC.none rfl)⟩) <|
  Tab.cons (p := fun k af => k < yBase → (∃ fn, Tryz.prog.funcs[k]? = some fn ∧ chkF Tryz.prog fn af = true) ∧ LabC tbl af.body) (fun _ => ⟨⟨_, Tryz.func59, k_lex_begins⟩, (LabC.none rfl)⟩) <|
  Tab.cons (p := fun k af => k < yBase → (∃ fn, Tryz.prog.funcs[k]? = some fn ∧ chkF Tryz.prog fn af = true) ∧ LabC tbl af.body) (fun _ => ⟨⟨_, Tryz.func60, k_lex_letter⟩, (LabC.none rfl)⟩) <|
  Tab.cons (p := fun k af => k < yBase → (∃ fn, Tryz.prog.funcs[k]? = some fn ∧ chkF Tryz.prog fn af = true) ∧ LabC tbl af.body) (fun _ => ⟨⟨_, Tryz.func62, k_lex_inner⟩, (LabC.none rfl)⟩) <|
  Tab.cons (p := fun k af => k < yBase → (∃ fn, Tryz.prog.funcs[k]? = some fn ∧ chkF Tryz.prog fn af = true) ∧ LabC tbl af.body) (fun _ => ⟨⟨_, Tryz.func63, k_lex_Key⟩, (LabC.none rfl)⟩) <|
  Tab.cons (p := fun k af => k < yBase → (∃ fn, Tryz.prog.funcs[k]? = some fn ∧ chkF Tryz.prog fn af = true) ∧ LabC tbl af.body) (fun _ => ⟨⟨_, Tryz.func64, k_tree_Parts⟩, (LabC.none rfl)⟩) <|
  Tab.cons (p := fun k af => k < yBase → (∃ fn, Tryz.prog.funcs[k]? = some fn ∧ chkF Tryz.prog fn af = true) ∧ LabC tbl af.body) (fun _ => ⟨⟨_, Tryz.func65, k_slices_ContainsFunc_api_Expr_api_Expr⟩, (LabC.none rfl)⟩) <|
  Tab.cons (p := fun k af => k < yBase → (∃ fn, Tryz.prog.funcs[k]? = some fn ∧ chkF Tryz.prog fn af = true) ∧ LabC tbl af.body) (fun _ => ⟨⟨_, Tryz.func66, k_tree_expr_1⟩, (LabC.none rfl)⟩) <|
  Tab.cons (p := fun k af => k < yBase → (∃ fn, Tryz.prog.funcs[k]? = some fn ∧ chkF Tryz.prog fn af = true) ∧ LabC tbl af.body) (fun _ => ⟨⟨_, Tryz.func67, k_slices_ContainsFunc_api_Stmt_api_Stmt_x⟩, (LabC.none rfl)⟩) <|
  Tab.cons (p := fun k af => k < yBase → (∃ fn, Tryz.prog.funcs[k]? = some fn ∧ chkF Tryz.prog fn af = true) ∧ LabC tbl af.body) (fun _ => ⟨⟨_, Tryz.func68, k_tree_block_1⟩, (LabC.none rfl)⟩) <|
  Tab.cons (p := fun k af => k < yBase → (∃ fn, Tryz.prog.funcs[k]? = some fn ∧ chkF Tryz.prog fn af = true) ∧ LabC tbl af.body) (fun _ => ⟨⟨_, Tryz.func69, k_tree_stmt⟩, (LabC.none rfl)⟩) <|
  Tab.cons (p := fun k af => k < yBase → (∃ fn, Tryz.prog.funcs[k]? = some fn ∧ chkF Tryz.prog fn af = true) ∧ LabC tbl af.body) (fun _ => ⟨⟨_, Tryz.func70, k_slices_IndexFunc_api_Proc_api_Proc⟩, (LabC.none rfl)⟩) <|
  Tab.cons (p := fun k af => k < yBase → (∃ fn, Tryz.prog.funcs[k]? = some fn ∧ chkF Tryz.prog fn af = true) ∧ LabC tbl af.body) (fun _ => ⟨⟨_, Tryz.func71, k_slices_IndexFunc_api_Oracle_api_Oracle⟩, (LabC.none rfl)⟩) <|
  Tab.cons (p := fun k af => k < yBase → (∃ fn, Tryz.prog.funcs[k]? = some fn ∧ chkF Tryz.prog fn af = true) ∧ LabC tbl af.body) (fun _ => ⟨⟨_, Tryz.func72, k_slices_IndexFunc_api_Stmt_api_Stmt⟩, (LabC.none rfl)⟩) <|
  Tab.cons (p := fun k af => k < yBase → (∃ fn, Tryz.prog.funcs[k]? = some fn ∧ chkF Tryz.prog fn af = true) ∧ LabC tbl af.body) (fun _ => ⟨⟨_, Tryz.func74, k_strings_HasPrefix⟩, (LabC.none rfl)⟩) <|
  Tab.cons (p := fun k af => k < yBase → (∃ fn, Tryz.prog.funcs[k]? = some fn ∧ chkF Tryz.prog fn af = true) ∧ LabC tbl af.body) (fun _ => ⟨⟨_, Tryz.func76, k_lex_word⟩, (LabC.none rfl)⟩) <|
  Tab.cons (p := fun k af => k < yBase → (∃ fn, Tryz.prog.funcs[k]? = some fn ∧ chkF Tryz.prog fn af = true) ∧ LabC tbl af.body) (fun _ => ⟨⟨_, Tryz.func77, k_lex_digit⟩, (LabC.none rfl)⟩) <|
  Tab.cons (p := fun k af => k < yBase → (∃ fn, Tryz.prog.funcs[k]? = some fn ∧ chkF Tryz.prog fn af = true) ∧ LabC tbl af.body) (fun _ => ⟨⟨_, Tryz.func78, k_lex_number⟩, (LabC.none rfl)⟩) <|
  Tab.cons (p := fun k af => k < yBase → (∃ fn, Tryz.prog.funcs[k]? = some fn ∧ chkF Tryz.prog fn af = true) ∧ LabC tbl af.body) (fun _ => ⟨⟨_, Tryz.func79, k_lex_text⟩, (LabC.none rfl)⟩) <|
  Tab.cons (p := fun k af => k < yBase → (∃ fn, Tryz.prog.funcs[k]? = some fn ∧ chkF Tryz.prog fn af = true) ∧ LabC tbl af.body) (fun _ => ⟨⟨_, Tryz.func80, k_lex_sign⟩, (LabC.none rfl)⟩) <|
  Tab.cons (p := fun k af => k < yBase → (∃ fn, Tryz.prog.funcs[k]? = some fn ∧ chkF Tryz.prog fn af = true) ∧ LabC tbl af.body) (fun _ => ⟨⟨_, Tryz.func81, k_pparse_parser_stmt⟩, (LabC.none rfl)⟩) <|
  Tab.cons (p := fun k af => k < yBase → (∃ fn, Tryz.prog.funcs[k]? = some fn ∧ chkF Tryz.prog fn af = true) ∧ LabC tbl af.body) (fun _ => ⟨⟨_, Tryz.func82, k_pparse_words_skip⟩, (LabC.none rfl)⟩) <|
  Tab.cons (p := fun k af => k < yBase → (∃ fn, Tryz.prog.funcs[k]? = some fn ∧ chkF Tryz.prog fn af = true) ∧ LabC tbl af.body) (fun _ => ⟨⟨_, Tryz.func83, k_flotsamref15_letter⟩, (LabC.none rfl)⟩) <|
  Tab.cons (p := fun k af => k < yBase → (∃ fn, Tryz.prog.funcs[k]? = some fn ∧ chkF Tryz.prog fn af = true) ∧ LabC tbl af.body) (fun _ => ⟨⟨_, Tryz.func84, k_flotsamref15_inner⟩, (LabC.none rfl)⟩) <|
  Tab.cons (p := fun k af => k < yBase → (∃ fn, Tryz.prog.funcs[k]? = some fn ∧ chkF Tryz.prog fn af = true) ∧ LabC tbl af.body) (fun _ => ⟨⟨_, Tryz.func85, k_flotsamref15_Key⟩, (LabC.none rfl)⟩) <|
  Tab.cons (p := fun k af => k < yBase → (∃ fn, Tryz.prog.funcs[k]? = some fn ∧ chkF Tryz.prog fn af = true) ∧ LabC tbl af.body) (fun _ => ⟨⟨_, Tryz.func86, k_flotsamref15_Name⟩, (LabC.none rfl)⟩) <|
  Tab.cons (p := fun k af => k < yBase → (∃ fn, Tryz.prog.funcs[k]? = some fn ∧ chkF Tryz.prog fn af = true) ∧ LabC tbl af.body) (fun _ => ⟨⟨_, Tryz.func87, k_flotsamref15_digit⟩, (LabC.none rfl)⟩) <|
  Tab.cons (p := fun k af => k < yBase → (∃ fn, Tryz.prog.funcs[k]? = some fn ∧ chkF Tryz.prog fn af = true) ∧ LabC tbl af.body) (fun _ => ⟨⟨_, Tryz.func98, k_pparse_parser_chain⟩, (LabC.none rfl)⟩) <|
  Tab.cons (p := fun k af => k < yBase → (∃ fn, Tryz.prog.funcs[k]? = some fn ∧ chkF Tryz.prog fn af = true) ∧ LabC tbl af.body) (fun _ => ⟨⟨_, Tryz.func99, k_pparse_parser_both⟩, (LabC.none rfl)⟩) <|
  Tab.cons (p := fun k af => k < yBase → (∃ fn, Tryz.prog.funcs[k]? = some fn ∧ chkF Tryz.prog fn af = true) ∧ LabC tbl af.body) (fun _ => ⟨⟨_, Tryz.func100, k_tree_walk_1⟩, lab_tree_walk_1⟩) <|
  Tab.cons (p := fun k af => k < yBase → (∃ fn, Tryz.prog.funcs[k]? = some fn ∧ chkF Tryz.prog fn af = true) ∧ LabC tbl af.body) (fun _ => ⟨⟨_, Tryz.func101, k_tree_each_api_Expr⟩, (LabC.none rfl)⟩) <|
  Tab.cons (p := fun k af => k < yBase → (∃ fn, Tryz.prog.funcs[k]? = some fn ∧ chkF Tryz.prog fn af = true) ∧ LabC tbl af.body) (fun _ => ⟨⟨_, Tryz.func102, k_tree_clonedExpr⟩, (LabC.none rfl)⟩) <|
  Tab.cons (p := fun k af => k < yBase → (∃ fn, Tryz.prog.funcs[k]? = some fn ∧ chkF Tryz.prog fn af = true) ∧ LabC tbl af.body) (fun _ => ⟨⟨_, Tryz.func103, k_tree_each_api_Stmt⟩, (LabC.none rfl)⟩) <|
  Tab.cons (p := fun k af => k < yBase → (∃ fn, Tryz.prog.funcs[k]? = some fn ∧ chkF Tryz.prog fn af = true) ∧ LabC tbl af.body) (fun _ => ⟨⟨_, Tryz.func107, k_slices_IndexFunc_api_Expr_api_Expr⟩, (LabC.none rfl)⟩) <|
  Tab.cons (p := fun k af => k < yBase → (∃ fn, Tryz.prog.funcs[k]? = some fn ∧ chkF Tryz.prog fn af = true) ∧ LabC tbl af.body) (fun _ => ⟨⟨_, Tryz.func108, k_slices_IndexFunc_api_Stmt_api_Stmt_x⟩, (LabC.none rfl)⟩) <|
  Tab.cons (p := fun k af => k < yBase → (∃ fn, Tryz.prog.funcs[k]? = some fn ∧ chkF Tryz.prog fn af = true) ∧ LabC tbl af.body) (fun _ => ⟨⟨_, Tryz.func109, k_tree_shape⟩, (LabC.none rfl)⟩) <|
  Tab.cons (p := fun k af => k < yBase → (∃ fn, Tryz.prog.funcs[k]? = some fn ∧ chkF Tryz.prog fn af = true) ∧ LabC tbl af.body) (fun _ => ⟨⟨_, Tryz.func110, k_tree_stmt_1⟩, (LabC.none rfl)⟩) <|
  Tab.cons (p := fun k af => k < yBase → (∃ fn, Tryz.prog.funcs[k]? = some fn ∧ chkF Tryz.prog fn af = true) ∧ LabC tbl af.body) (fun _ => ⟨⟨_, Tryz.func115, k_internal_stringslite_HasPrefix⟩, (LabC.none rfl)⟩) <|
  Tab.cons (p := fun k af => k < yBase → (∃ fn, Tryz.prog.funcs[k]? = some fn ∧ chkF Tryz.prog fn af = true) ∧ LabC tbl af.body) (fun _ => ⟨⟨_, Tryz.func117, k_num_Read⟩, (LabC.none rfl)⟩) <|
  Tab.cons (p := fun k af => k < yBase → (∃ fn, Tryz.prog.funcs[k]? = some fn ∧ chkF Tryz.prog fn af = true) ∧ LabC tbl af.body) (fun _ => ⟨⟨_, Tryz.func118, k_view_Unquote⟩, (LabC.none rfl)⟩) <|
  Tab.cons (p := fun k af => k < yBase → (∃ fn, Tryz.prog.funcs[k]? = some fn ∧ chkF Tryz.prog fn af = true) ∧ LabC tbl af.body) (fun _ => ⟨⟨_, Tryz.func119, k_parse_simple⟩, (LabC.none rfl)⟩) <|
  Tab.cons (p := fun k af => k < yBase → (∃ fn, Tryz.prog.funcs[k]? = some fn ∧ chkF Tryz.prog fn af = true) ∧ LabC tbl af.body) (fun _ => ⟨⟨_, Tryz.func120, k_pparse_parser_exprs⟩, (LabC.none rfl)⟩) <|
  Tab.cons (p := fun k af => k < yBase → (∃ fn, Tryz.prog.funcs[k]? = some fn ∧ chkF Tryz.prog fn af = true) ∧ LabC tbl af.body) (fun _ => ⟨⟨_, Tryz.func121, k_pparse_parser_choice⟩, (LabC.none rfl)⟩) <|
  Tab.cons (p := fun k af => k < yBase → (∃ fn, Tryz.prog.funcs[k]? = some fn ∧ chkF Tryz.prog fn af = true) ∧ LabC tbl af.body) (fun _ => ⟨⟨_, Tryz.func122, k_pparse_parser_loop⟩, (LabC.none rfl)⟩) <|
  Tab.cons (p := fun k af => k < yBase → (∃ fn, Tryz.prog.funcs[k]? = some fn ∧ chkF Tryz.prog fn af = true) ∧ LabC tbl af.body) (fun _ => ⟨⟨_, Tryz.func123, k_pparse_parser_txn⟩, (LabC.none rfl)⟩) <|
  Tab.cons (p := fun k af => k < yBase → (∃ fn, Tryz.prog.funcs[k]? = some fn ∧ chkF Tryz.prog fn af = true) ∧ LabC tbl af.body) (fun _ => ⟨⟨_, Tryz.func127, k_parse_kind⟩, (LabC.none rfl)⟩) <|
  Tab.cons (p := fun k af => k < yBase → (∃ fn, Tryz.prog.funcs[k]? = some fn ∧ chkF Tryz.prog fn af = true) ∧ LabC tbl af.body) (fun _ => ⟨⟨_, Tryz.func128, k_pparse_parser_not⟩, (LabC.none rfl)⟩) <|
  Tab.cons (p := fun k af => k < yBase → (∃ fn, Tryz.prog.funcs[k]? = some fn ∧ chkF Tryz.prog fn af = true) ∧ LabC tbl af.body) (fun _ => ⟨⟨_, Tryz.func131, k_tree_Exprs⟩, (LabC.none rfl)⟩) <|
  Tab.cons (p := fun k af => k < yBase → (∃ fn, Tryz.prog.funcs[k]? = some fn ∧ chkF Tryz.prog fn af = true) ∧ LabC tbl af.body) (fun _ => ⟨⟨_, Tryz.func132, k_tree_blocks⟩, (LabC.none rfl)⟩) <|
  Tab.cons (p := fun k af => k < yBase → (∃ fn, Tryz.prog.funcs[k]? = some fn ∧ chkF Tryz.prog fn af = true) ∧ LabC tbl af.body) (fun _ => ⟨⟨_, Tryz.func133, k_tree_shape_1⟩, (LabC.none rfl)⟩) <|
  Tab.cons (p := fun k af => k < yBase → (∃ fn, Tryz.prog.funcs[k]? = some fn ∧ chkF Tryz.prog fn af = true) ∧ LabC tbl af.body) (fun _ => ⟨⟨_, Tryz.func138, k_strings_CutPrefix⟩, (LabC.none rfl)⟩) <|
  Tab.cons (p := fun k af => k < yBase → (∃ fn, Tryz.prog.funcs[k]? = some fn ∧ chkF Tryz.prog fn af = true) ∧ LabC tbl af.body) (fun _ => ⟨⟨_, Tryz.func139, k_strings_CutSuffix⟩, (LabC.none rfl)⟩) <|
  Tab.cons (p := fun k af => k < yBase → (∃ fn, Tryz.prog.funcs[k]? = some fn ∧ chkF Tryz.prog fn af = true) ∧ LabC tbl af.body) (fun _ => ⟨⟨_, Tryz.func140, k_view_pair⟩, (LabC.none rfl)⟩) <|
  Tab.cons (p := fun k af => k < yBase → (∃ fn, Tryz.prog.funcs[k]? = some fn ∧ chkF Tryz.prog fn af = true) ∧ LabC tbl af.body) (fun _ => ⟨⟨_, Tryz.func141, k_view_plain⟩, (LabC.none rfl)⟩) <|
  Tab.cons (p := fun k af => k < yBase → (∃ fn, Tryz.prog.funcs[k]? = some fn ∧ chkF Tryz.prog fn af = true) ∧ LabC tbl af.body) (fun _ => ⟨⟨_, Tryz.func145, k_pparse_parser_compare⟩, (LabC.none rfl)⟩) <|
  Tab.cons (p := fun k af => k < yBase → (∃ fn, Tryz.prog.funcs[k]? = some fn ∧ chkF Tryz.prog fn af = true) ∧ LabC tbl af.body) (fun _ => ⟨⟨_, Tryz.func149, k_internal_stringslite_CutPrefix⟩, (LabC.none rfl)⟩) <|
  Tab.cons (p := fun k af => k < yBase → (∃ fn, Tryz.prog.funcs[k]? = some fn ∧ chkF Tryz.prog fn af = true) ∧ LabC tbl af.body) (fun _ => ⟨⟨_, Tryz.func150, k_internal_stringslite_CutSuffix⟩, (LabC.none rfl)⟩) <|
  Tab.cons (p := fun k af => k < yBase → (∃ fn, Tryz.prog.funcs[k]? = some fn ∧ chkF Tryz.prog fn af = true) ∧ LabC tbl af.body) (fun _ => ⟨⟨_, Tryz.func153, k_pparse_parser_sum⟩, (LabC.none rfl)⟩) <|
  Tab.cons (p := fun k af => k < yBase → (∃ fn, Tryz.prog.funcs[k]? = some fn ∧ chkF Tryz.prog fn af = true) ∧ LabC tbl af.body) (fun _ => ⟨⟨_, Tryz.func158, k_internal_stringslite_HasSuffix⟩, (LabC.none rfl)⟩) <|
  Tab.cons (p := fun k af => k < yBase → (∃ fn, Tryz.prog.funcs[k]? = some fn ∧ chkF Tryz.prog fn af = true) ∧ LabC tbl af.body) (fun _ => ⟨⟨_, Tryz.func161, k_pparse_parser_part⟩, (LabC.none rfl)⟩) <|
  Tab.cons (p := fun k af => k < yBase → (∃ fn, Tryz.prog.funcs[k]? = some fn ∧ chkF Tryz.prog fn af = true) ∧ LabC tbl af.body) (fun _ => ⟨⟨_, Tryz.func163, k_pparse_parser_inner⟩, (LabC.none rfl)⟩) <|
  Tab.cons (p := fun k af => k < yBase → (∃ fn, Tryz.prog.funcs[k]? = some fn ∧ chkF Tryz.prog fn af = true) ∧ LabC tbl af.body) (fun h => absurd h (Nat.not_lt.2 (Nat.le_of_ble_eq_true rfl))) <|
  Tab.cons (p := fun k af => k < yBase → (∃ fn, Tryz.prog.funcs[k]? = some fn ∧ chkF Tryz.prog fn af = true) ∧ LabC tbl af.body) (fun h => absurd h (Nat.not_lt.2 (Nat.le_of_ble_eq_true rfl))) <|
  Tab.nil

end Go.Proofs.YtlpokbhooaffmaaGreatDoor
