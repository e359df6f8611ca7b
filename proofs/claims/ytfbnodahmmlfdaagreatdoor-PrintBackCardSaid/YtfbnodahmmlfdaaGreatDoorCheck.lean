/-
 The abstract code of each function fits the loaded function; printed by a program (gen.py).
-/
import Derived.Test.YtfbnodahmmlfdaaGreatDoorCode
import Derived.Test.YtfbnodahmmlfdaaGreatDoorRun
import Derived.Test.YtfbnodahmmlfdaaGreatDoorChecked
namespace Go.Proofs.YtfbnodahmmlfdaaGreatDoor
open Go.AM
theorem k_l18_PrintBack : chkF Tryz.prog Tryz.f5 c_l18_PrintBack = true := by kernel_rfl
theorem k_l16_Small : chkF Tryz.prog Tryz.f6 c_l16_Small = true := by kernel_rfl
theorem k_l18_knows : chkF Tryz.prog Tryz.f7 c_l18_knows = true := by kernel_rfl
theorem k_pP : chkF Tryz.prog Tryz.f8 c_pP = true := by kernel_rfl
theorem k_print_Expr : chkF Tryz.prog Tryz.f10 c_print_Expr = true := by kernel_rfl
theorem k_parse_Program : chkF Tryz.prog Tryz.f12 c_parse_Program = true := by kernel_rfl
theorem k_r16_Same : chkF Tryz.prog Tryz.f13 c_r16_Same = true := by kernel_rfl
theorem k_tree_Right : chkF Tryz.prog Tryz.f14 c_tree_Right = true := by kernel_rfl
theorem k_l15_Fault : chkF Tryz.prog Tryz.f15 c_l15_Fault = true := by kernel_rfl
theorem k_parse_Expr : chkF Tryz.prog Tryz.f16 c_parse_Expr = true := by kernel_rfl
theorem k_r16_SameExpr : chkF Tryz.prog Tryz.f17 c_r16_SameExpr = true := by kernel_rfl
theorem k_r16_Size : chkF Tryz.prog Tryz.f18 c_r16_Size = true := by kernel_rfl
theorem k_pq_add : chkF Tryz.prog Tryz.f19 c_pq_add = true := by kernel_rfl
theorem k_pq_block : chkF Tryz.prog Tryz.f20 c_pq_block = true := by kernel_rfl
theorem k_pq_expr : chkF Tryz.prog Tryz.f21 c_pq_expr = true := by kernel_rfl
theorem k_lex_Words : chkF Tryz.prog Tryz.f27 c_lex_Words = true := by kernel_rfl
theorem k_pp_program : chkF Tryz.prog Tryz.f28 c_pp_program = true := by kernel_rfl
theorem k_r16_SameStmts : chkF Tryz.prog Tryz.f29 c_r16_SameStmts = true := by kernel_rfl
theorem k_tree_All : chkF Tryz.prog Tryz.f30 c_tree_All = true := by kernel_rfl
theorem k_tree_Right_1 : chkF Tryz.prog Tryz.f31 c_tree_Right_1 = true := by kernel_rfl
theorem k_lex_Name : chkF Tryz.prog Tryz.f32 c_lex_Name = true := by kernel_rfl
theorem k_tree_Right_2 : chkF Tryz.prog Tryz.f33 c_tree_Right_2 = true := by kernel_rfl
theorem k_tree_expr : chkF Tryz.prog Tryz.f34 c_tree_expr = true := by kernel_rfl
theorem k_tree_Right_3 : chkF Tryz.prog Tryz.f35 c_tree_Right_3 = true := by kernel_rfl
theorem k_tree_block : chkF Tryz.prog Tryz.f36 c_tree_block = true := by kernel_rfl
theorem k_sC_Proc_api_Proc : chkF Tryz.prog Tryz.f37 c_sC_Proc_api_Proc = true := by kernel_rfl
theorem k_sC_Oracle_api_Oracle : chkF Tryz.prog Tryz.f38 c_sC_Oracle_api_Oracle = true := by kernel_rfl
theorem k_sC_Stmt_api_Stmt : chkF Tryz.prog Tryz.f39 c_sC_Stmt_api_Stmt = true := by kernel_rfl
theorem k_tree_parts : chkF Tryz.prog Tryz.f40 c_tree_parts = true := by kernel_rfl
theorem k_pp_whole : chkF Tryz.prog Tryz.f41 c_pp_whole = true := by kernel_rfl
theorem k_r16_block : chkF Tryz.prog Tryz.f42 c_r16_block = true := by kernel_rfl
theorem k_r16_expr : chkF Tryz.prog Tryz.f43 c_r16_expr = true := by kernel_rfl
theorem k_pq_stmt : chkF Tryz.prog Tryz.f46 c_pq_stmt = true := by kernel_rfl
theorem k_print_strong : chkF Tryz.prog Tryz.f47 c_print_strong = true := by kernel_rfl
theorem k_num_Digits : chkF Tryz.prog Tryz.f48 c_num_Digits = true := by kernel_rfl
theorem k_view_Quote : chkF Tryz.prog Tryz.f49 c_view_Quote = true := by kernel_rfl
theorem k_print_call : chkF Tryz.prog Tryz.f50 c_print_call = true := by kernel_rfl
theorem k_print_sign : chkF Tryz.prog Tryz.f51 c_print_sign = true := by kernel_rfl
theorem k_lex_skip : chkF Tryz.prog Tryz.f61 c_lex_skip = true := by kernel_rfl
theorem k_lex_next : chkF Tryz.prog Tryz.f62 c_lex_next = true := by kernel_rfl
theorem k_pp_named : chkF Tryz.prog Tryz.f63 c_pp_named = true := by kernel_rfl
theorem k_pp_block : chkF Tryz.prog Tryz.f64 c_pp_block = true := by kernel_rfl
theorem k_pw_wants : chkF Tryz.prog Tryz.f65 c_pw_wants = true := by kernel_rfl
theorem k_pw_takes : chkF Tryz.prog Tryz.f66 c_pw_takes = true := by kernel_rfl
theorem k_pw_of : chkF Tryz.prog Tryz.f67 c_pw_of = true := by kernel_rfl
theorem k_r16_SameStmt : chkF Tryz.prog Tryz.f68 c_r16_SameStmt = true := by kernel_rfl
theorem k_tree_walk : chkF Tryz.prog Tryz.f69 c_tree_walk = true := by kernel_rfl
theorem k_tree_cloned : chkF Tryz.prog Tryz.f70 c_tree_cloned = true := by kernel_rfl
theorem k_lex_begins : chkF Tryz.prog Tryz.f71 c_lex_begins = true := by kernel_rfl
theorem k_lex_letter : chkF Tryz.prog Tryz.f72 c_lex_letter = true := by kernel_rfl
theorem k_lex_inner : chkF Tryz.prog Tryz.f74 c_lex_inner = true := by kernel_rfl
theorem k_lex_Key : chkF Tryz.prog Tryz.f75 c_lex_Key = true := by kernel_rfl
theorem k_tree_Parts : chkF Tryz.prog Tryz.f76 c_tree_Parts = true := by kernel_rfl
theorem k_sC_Expr_api_Expr : chkF Tryz.prog Tryz.f77 c_sC_Expr_api_Expr = true := by kernel_rfl
theorem k_tree_expr_1 : chkF Tryz.prog Tryz.f78 c_tree_expr_1 = true := by kernel_rfl
theorem k_sC_Stmt_api_Stmt_x : chkF Tryz.prog Tryz.f79 c_sC_Stmt_api_Stmt_x = true := by kernel_rfl
theorem k_tree_block_1 : chkF Tryz.prog Tryz.f80 c_tree_block_1 = true := by kernel_rfl
theorem k_tree_stmt : chkF Tryz.prog Tryz.f81 c_tree_stmt = true := by kernel_rfl
theorem k_sI_Proc_api_Proc : chkF Tryz.prog Tryz.f82 c_sI_Proc_api_Proc = true := by kernel_rfl
theorem k_sI_Oracle_api_Oracle : chkF Tryz.prog Tryz.f83 c_sI_Oracle_api_Oracle = true := by kernel_rfl
theorem k_sI_Stmt_api_Stmt : chkF Tryz.prog Tryz.f84 c_sI_Stmt_api_Stmt = true := by kernel_rfl
theorem k_pw_head : chkF Tryz.prog Tryz.f85 c_pw_head = true := by kernel_rfl
theorem k_pp_expr : chkF Tryz.prog Tryz.f86 c_pp_expr = true := by kernel_rfl
theorem k_pw_sees : chkF Tryz.prog Tryz.f87 c_pw_sees = true := by kernel_rfl
theorem k_pw_fail : chkF Tryz.prog Tryz.f88 c_pw_fail = true := by kernel_rfl
theorem k_parse_deep : chkF Tryz.prog Tryz.f89 c_parse_deep = true := by kernel_rfl
theorem k_strings_HasPrefix : chkF Tryz.prog Tryz.f92 c_strings_HasPrefix = true := by kernel_rfl
theorem k_print_key : chkF Tryz.prog Tryz.f95 c_print_key = true := by kernel_rfl
theorem k_pq_exprs : chkF Tryz.prog Tryz.f96 c_pq_exprs = true := by kernel_rfl
theorem k_view_plain : chkF Tryz.prog Tryz.f98 c_view_plain = true := by kernel_rfl
theorem k_lex_word : chkF Tryz.prog Tryz.f108 c_lex_word = true := by kernel_rfl
theorem k_lex_digit : chkF Tryz.prog Tryz.f109 c_lex_digit = true := by kernel_rfl
theorem k_lex_number : chkF Tryz.prog Tryz.f110 c_lex_number = true := by kernel_rfl
theorem k_lex_text : chkF Tryz.prog Tryz.f111 c_lex_text = true := by kernel_rfl
theorem k_lex_sign : chkF Tryz.prog Tryz.f112 c_lex_sign = true := by kernel_rfl
theorem k_pp_stmt : chkF Tryz.prog Tryz.f113 c_pp_stmt = true := by kernel_rfl
theorem k_pw_skip : chkF Tryz.prog Tryz.f114 c_pw_skip = true := by kernel_rfl
theorem k_tree_walk_1 : chkF Tryz.prog Tryz.f115 c_tree_walk_1 = true := by kernel_rfl
theorem k_tree_each_api_Expr : chkF Tryz.prog Tryz.f116 c_tree_each_api_Expr = true := by kernel_rfl
theorem k_tree_clonedExpr : chkF Tryz.prog Tryz.f117 c_tree_clonedExpr = true := by kernel_rfl
theorem k_tree_each_api_Stmt : chkF Tryz.prog Tryz.f118 c_tree_each_api_Stmt = true := by kernel_rfl
theorem k_sI_Expr_api_Expr : chkF Tryz.prog Tryz.f122 c_sI_Expr_api_Expr = true := by kernel_rfl
theorem k_sI_Stmt_api_Stmt_x : chkF Tryz.prog Tryz.f123 c_sI_Stmt_api_Stmt_x = true := by kernel_rfl
theorem k_tree_shape : chkF Tryz.prog Tryz.f124 c_tree_shape = true := by kernel_rfl
theorem k_tree_stmt_1 : chkF Tryz.prog Tryz.f125 c_tree_stmt_1 = true := by kernel_rfl
theorem k_pp_chain : chkF Tryz.prog Tryz.f126 c_pp_chain = true := by kernel_rfl
theorem k_pp_both : chkF Tryz.prog Tryz.f127 c_pp_both = true := by kernel_rfl
theorem k_isl_HasPrefix : chkF Tryz.prog Tryz.f131 c_isl_HasPrefix = true := by kernel_rfl
theorem k_num_Read : chkF Tryz.prog Tryz.f141 c_num_Read = true := by kernel_rfl
theorem k_view_Unquote : chkF Tryz.prog Tryz.f142 c_view_Unquote = true := by kernel_rfl
theorem k_parse_simple : chkF Tryz.prog Tryz.f143 c_parse_simple = true := by kernel_rfl
theorem k_pp_exprs : chkF Tryz.prog Tryz.f144 c_pp_exprs = true := by kernel_rfl
theorem k_pp_choice : chkF Tryz.prog Tryz.f145 c_pp_choice = true := by kernel_rfl
theorem k_pp_loop : chkF Tryz.prog Tryz.f146 c_pp_loop = true := by kernel_rfl
theorem k_pp_txn : chkF Tryz.prog Tryz.f147 c_pp_txn = true := by kernel_rfl
theorem k_tree_Exprs : chkF Tryz.prog Tryz.f150 c_tree_Exprs = true := by kernel_rfl
theorem k_tree_blocks : chkF Tryz.prog Tryz.f151 c_tree_blocks = true := by kernel_rfl
theorem k_tree_shape_1 : chkF Tryz.prog Tryz.f152 c_tree_shape_1 = true := by kernel_rfl
theorem k_parse_kind : chkF Tryz.prog Tryz.f153 c_parse_kind = true := by kernel_rfl
theorem k_pp_not : chkF Tryz.prog Tryz.f154 c_pp_not = true := by kernel_rfl
theorem k_strings_CutPrefix : chkF Tryz.prog Tryz.f162 c_strings_CutPrefix = true := by kernel_rfl
theorem k_strings_CutSuffix : chkF Tryz.prog Tryz.f163 c_strings_CutSuffix = true := by kernel_rfl
theorem k_view_pair : chkF Tryz.prog Tryz.f164 c_view_pair = true := by kernel_rfl
theorem k_pp_compare : chkF Tryz.prog Tryz.f166 c_pp_compare = true := by kernel_rfl
theorem k_isl_CutPrefix : chkF Tryz.prog Tryz.f170 c_isl_CutPrefix = true := by kernel_rfl
theorem k_isl_CutSuffix : chkF Tryz.prog Tryz.f171 c_isl_CutSuffix = true := by kernel_rfl
theorem k_pp_sum : chkF Tryz.prog Tryz.f175 c_pp_sum = true := by kernel_rfl
theorem k_isl_HasSuffix : chkF Tryz.prog Tryz.f179 c_isl_HasSuffix = true := by kernel_rfl
theorem k_pp_part : chkF Tryz.prog Tryz.f181 c_pp_part = true := by kernel_rfl
theorem k_pp_inner : chkF Tryz.prog Tryz.f182 c_pp_inner = true := by kernel_rfl
theorem lab_tree_All : LabC tbl c_tree_All.body := LabC.list (l := [(q_tree_All_0, a_tree_All_0, y_tree_All_0)]) (by kernel_rfl) ⟨u_tree_All_0, trivial⟩
theorem lab_tree_walk_1 : LabC tbl c_tree_walk_1.body := LabC.list (l := [(q_tree_walk_1_0, a_tree_walk_1_0, y_tree_walk_1_0)]) (by kernel_rfl) ⟨u_tree_walk_1_0, trivial⟩
abbrev PF : Nat → AFunc → Prop := fun k af => k < yBase → (∃ fn, Tryz.prog.funcs[k]? = some fn ∧ chkF Tryz.prog fn af = true) ∧ LabC tbl af.body
theorem tC {n c l fn} (a : Tryz.prog.funcs[n]? = some fn) (b : chkF Tryz.prog fn c = true) (d : LabC tbl c.body) (h : ∀ k af, Tab.get l k = some af → PF k af) : ∀ k af, Tab.get ((n, c) :: l) k = some af → PF k af := Tab.cons (p := PF) (fun _ => ⟨⟨_, a, b⟩, d⟩) h
set_option maxRecDepth 100000 in
theorem fits : ∀ k af, tbl k = some af → k < yBase → (∃ fn, Tryz.prog.funcs[k]? = some fn ∧ chkF Tryz.prog fn af = true) ∧ LabC tbl af.body :=
 tC Tryz.func5 k_l18_PrintBack (.none rfl) <|
 tC Tryz.func6 k_l16_Small (.none rfl) <|
 tC Tryz.func7 k_l18_knows (.none rfl) <|
 tC Tryz.func8 k_pP (.none rfl) <|
 tC Tryz.func10 k_print_Expr (.none rfl) <|
 tC Tryz.func12 k_parse_Program (.none rfl) <|
 tC Tryz.func13 k_r16_Same (.none rfl) <|
 tC Tryz.func14 k_tree_Right (.none rfl) <|
 tC Tryz.func15 k_l15_Fault (.none rfl) <|
 tC Tryz.func16 k_parse_Expr (.none rfl) <|
 tC Tryz.func17 k_r16_SameExpr (.none rfl) <|
 tC Tryz.func18 k_r16_Size (.none rfl) <|
 tC Tryz.func19 k_pq_add (.none rfl) <|
 tC Tryz.func20 k_pq_block (.none rfl) <|
 tC Tryz.func21 k_pq_expr (.none rfl) <|
 tC Tryz.func27 k_lex_Words (.none rfl) <|
 tC Tryz.func28 k_pp_program (.none rfl) <|
 tC Tryz.func29 k_r16_SameStmts (.none rfl) <|
 tC Tryz.func30 k_tree_All lab_tree_All <|
 tC Tryz.func31 k_tree_Right_1 (.none rfl) <|
 tC Tryz.func32 k_lex_Name (.none rfl) <|
 tC Tryz.func33 k_tree_Right_2 (.none rfl) <|
 tC Tryz.func34 k_tree_expr (.none rfl) <|
 tC Tryz.func35 k_tree_Right_3 (.none rfl) <|
 tC Tryz.func36 k_tree_block (.none rfl) <|
 tC Tryz.func37 k_sC_Proc_api_Proc (.none rfl) <|
 tC Tryz.func38 k_sC_Oracle_api_Oracle (.none rfl) <|
 tC Tryz.func39 k_sC_Stmt_api_Stmt (.none rfl) <|
 tC Tryz.func40 k_tree_parts (.none rfl) <|
 tC Tryz.func41 k_pp_whole (.none rfl) <|
 tC Tryz.func42 k_r16_block (.none rfl) <|
 tC Tryz.func43 k_r16_expr (.none rfl) <|
 tC Tryz.func46 k_pq_stmt (.none rfl) <|
 tC Tryz.func47 k_print_strong (.none rfl) <|
 tC Tryz.func48 k_num_Digits (.none rfl) <|
 tC Tryz.func49 k_view_Quote (.none rfl) <|
 tC Tryz.func50 k_print_call (.none rfl) <|
 tC Tryz.func51 k_print_sign (.none rfl) <|
 tC Tryz.func61 k_lex_skip (.none rfl) <|
 tC Tryz.func62 k_lex_next (.none rfl) <|
 tC Tryz.func63 k_pp_named (.none rfl) <|
 tC Tryz.func64 k_pp_block (.none rfl) <|
 tC Tryz.func65 k_pw_wants (.none rfl) <|
 tC Tryz.func66 k_pw_takes (.none rfl) <|
 tC Tryz.func67 k_pw_of (.none rfl) <|
 tC Tryz.func68 k_r16_SameStmt (.none rfl) <|
 tC Tryz.func69 k_tree_walk (.none rfl) <|
 tC Tryz.func70 k_tree_cloned (.none rfl) <|
 tC Tryz.func71 k_lex_begins (.none rfl) <|
 tC Tryz.func72 k_lex_letter (.none rfl) <|
 tC Tryz.func74 k_lex_inner (.none rfl) <|
 tC Tryz.func75 k_lex_Key (.none rfl) <|
 tC Tryz.func76 k_tree_Parts (.none rfl) <|
 tC Tryz.func77 k_sC_Expr_api_Expr (.none rfl) <|
 tC Tryz.func78 k_tree_expr_1 (.none rfl) <|
 tC Tryz.func79 k_sC_Stmt_api_Stmt_x (.none rfl) <|
 tC Tryz.func80 k_tree_block_1 (.none rfl) <|
 tC Tryz.func81 k_tree_stmt (.none rfl) <|
 tC Tryz.func82 k_sI_Proc_api_Proc (.none rfl) <|
 tC Tryz.func83 k_sI_Oracle_api_Oracle (.none rfl) <|
 tC Tryz.func84 k_sI_Stmt_api_Stmt (.none rfl) <|
 tC Tryz.func85 k_pw_head (.none rfl) <|
 tC Tryz.func86 k_pp_expr (.none rfl) <|
 tC Tryz.func87 k_pw_sees (.none rfl) <|
 tC Tryz.func88 k_pw_fail (.none rfl) <|
 tC Tryz.func89 k_parse_deep (.none rfl) <|
 tC Tryz.func92 k_strings_HasPrefix (.none rfl) <|
 tC Tryz.func95 k_print_key (.none rfl) <|
 tC Tryz.func96 k_pq_exprs (.none rfl) <|
 tC Tryz.func98 k_view_plain (.none rfl) <|
 tC Tryz.func108 k_lex_word (.none rfl) <|
 tC Tryz.func109 k_lex_digit (.none rfl) <|
 tC Tryz.func110 k_lex_number (.none rfl) <|
 tC Tryz.func111 k_lex_text (.none rfl) <|
 tC Tryz.func112 k_lex_sign (.none rfl) <|
 tC Tryz.func113 k_pp_stmt (.none rfl) <|
 tC Tryz.func114 k_pw_skip (.none rfl) <|
 tC Tryz.func115 k_tree_walk_1 lab_tree_walk_1 <|
 tC Tryz.func116 k_tree_each_api_Expr (.none rfl) <|
 tC Tryz.func117 k_tree_clonedExpr (.none rfl) <|
 tC Tryz.func118 k_tree_each_api_Stmt (.none rfl) <|
 tC Tryz.func122 k_sI_Expr_api_Expr (.none rfl) <|
 tC Tryz.func123 k_sI_Stmt_api_Stmt_x (.none rfl) <|
 tC Tryz.func124 k_tree_shape (.none rfl) <|
 tC Tryz.func125 k_tree_stmt_1 (.none rfl) <|
 tC Tryz.func126 k_pp_chain (.none rfl) <|
 tC Tryz.func127 k_pp_both (.none rfl) <|
 tC Tryz.func131 k_isl_HasPrefix (.none rfl) <|
 tC Tryz.func141 k_num_Read (.none rfl) <|
 tC Tryz.func142 k_view_Unquote (.none rfl) <|
 tC Tryz.func143 k_parse_simple (.none rfl) <|
 tC Tryz.func144 k_pp_exprs (.none rfl) <|
 tC Tryz.func145 k_pp_choice (.none rfl) <|
 tC Tryz.func146 k_pp_loop (.none rfl) <|
 tC Tryz.func147 k_pp_txn (.none rfl) <|
 tC Tryz.func150 k_tree_Exprs (.none rfl) <|
 tC Tryz.func151 k_tree_blocks (.none rfl) <|
 tC Tryz.func152 k_tree_shape_1 (.none rfl) <|
 tC Tryz.func153 k_parse_kind (.none rfl) <|
 tC Tryz.func154 k_pp_not (.none rfl) <|
 tC Tryz.func162 k_strings_CutPrefix (.none rfl) <|
 tC Tryz.func163 k_strings_CutSuffix (.none rfl) <|
 tC Tryz.func164 k_view_pair (.none rfl) <|
 tC Tryz.func166 k_pp_compare (.none rfl) <|
 tC Tryz.func170 k_isl_CutPrefix (.none rfl) <|
 tC Tryz.func171 k_isl_CutSuffix (.none rfl) <|
 tC Tryz.func175 k_pp_sum (.none rfl) <|
 tC Tryz.func179 k_isl_HasSuffix (.none rfl) <|
 tC Tryz.func181 k_pp_part (.none rfl) <|
 tC Tryz.func182 k_pp_inner (.none rfl) <|
 Tab.cons (p := PF) (fun h => absurd h (Nat.not_lt.2 (Nat.le_of_ble_eq_true rfl))) <|
 Tab.cons (p := PF) (fun h => absurd h (Nat.not_lt.2 (Nat.le_of_ble_eq_true rfl))) <|
 Tab.nil
end Go.Proofs.YtfbnodahmmlfdaaGreatDoor
