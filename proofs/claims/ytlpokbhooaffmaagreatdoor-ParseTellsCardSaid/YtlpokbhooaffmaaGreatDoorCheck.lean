/-
 The abstract code of each function fits the loaded function; printed by a program (gen.py).
-/
import Derived.Test.YtlpokbhooaffmaaGreatDoorCode
import Derived.Test.YtlpokbhooaffmaaGreatDoorRun
import Derived.Test.YtlpokbhooaffmaaGreatDoorChecked
namespace Go.Proofs.YtlpokbhooaffmaaGreatDoor
open Go.AM

theorem k_l17_ParseTells : chkF Tryz.prog Tryz.f3 c_l17_ParseTells = true := by kernel_rfl
theorem k_l17_knows : chkF Tryz.prog Tryz.f5 c_l17_knows = true := by kernel_rfl
theorem k_parse_Program : chkF Tryz.prog Tryz.f6 c_parse_Program = true := by kernel_rfl
theorem k_r17_Program : chkF Tryz.prog Tryz.f7 c_r17_Program = true := by kernel_rfl
theorem k_parse_Expr : chkF Tryz.prog Tryz.f8 c_parse_Expr = true := by kernel_rfl
theorem k_r17_Expr : chkF Tryz.prog Tryz.f9 c_r17_Expr = true := by kernel_rfl
theorem k_r16_Same : chkF Tryz.prog Tryz.f10 c_r16_Same = true := by kernel_rfl
theorem k_l15_Fault : chkF Tryz.prog Tryz.f11 c_l15_Fault = true := by kernel_rfl
theorem k_r16_SameExpr : chkF Tryz.prog Tryz.f12 c_r16_SameExpr = true := by kernel_rfl
theorem k_lex_Words : chkF Tryz.prog Tryz.f14 c_lex_Words = true := by kernel_rfl
theorem k_pp_program : chkF Tryz.prog Tryz.f15 c_pp_program = true := by kernel_rfl
theorem k_r15_Words : chkF Tryz.prog Tryz.f16 c_r15_Words = true := by kernel_rfl
theorem k_rt_is : chkF Tryz.prog Tryz.f17 c_rt_is = true := by kernel_rfl
theorem k_rt_fail : chkF Tryz.prog Tryz.f18 c_rt_fail = true := by kernel_rfl
theorem k_rt_now : chkF Tryz.prog Tryz.f19 c_rt_now = true := by kernel_rfl
theorem k_rt_kind : chkF Tryz.prog Tryz.f20 c_rt_kind = true := by kernel_rfl
theorem k_rt_block : chkF Tryz.prog Tryz.f21 c_rt_block = true := by kernel_rfl
theorem k_rt_need : chkF Tryz.prog Tryz.f22 c_rt_need = true := by kernel_rfl
theorem k_rt_take : chkF Tryz.prog Tryz.f23 c_rt_take = true := by kernel_rfl
theorem k_rt_whole : chkF Tryz.prog Tryz.f24 c_rt_whole = true := by kernel_rfl
theorem k_rt_bad : chkF Tryz.prog Tryz.f25 c_rt_bad = true := by kernel_rfl
theorem k_pp_whole : chkF Tryz.prog Tryz.f26 c_pp_whole = true := by kernel_rfl
theorem k_r16_SameStmts : chkF Tryz.prog Tryz.f27 c_r16_SameStmts = true := by kernel_rfl
theorem k_lex_Name : chkF Tryz.prog Tryz.f30 c_lex_Name = true := by kernel_rfl
theorem k_lex_skip : chkF Tryz.prog Tryz.f39 c_lex_skip = true := by kernel_rfl
theorem k_lex_next : chkF Tryz.prog Tryz.f40 c_lex_next = true := by kernel_rfl
theorem k_pp_named : chkF Tryz.prog Tryz.f41 c_pp_named = true := by kernel_rfl
theorem k_pp_block : chkF Tryz.prog Tryz.f42 c_pp_block = true := by kernel_rfl
theorem k_pw_wants : chkF Tryz.prog Tryz.f43 c_pw_wants = true := by kernel_rfl
theorem k_pw_takes : chkF Tryz.prog Tryz.f44 c_pw_takes = true := by kernel_rfl
theorem k_pw_of : chkF Tryz.prog Tryz.f45 c_pw_of = true := by kernel_rfl
theorem k_r15_skip : chkF Tryz.prog Tryz.f46 c_r15_skip = true := by kernel_rfl
theorem k_r15_one : chkF Tryz.prog Tryz.f47 c_r15_one = true := by kernel_rfl
theorem k_rt_stmt : chkF Tryz.prog Tryz.f48 c_rt_stmt = true := by kernel_rfl
theorem k_rt_expr : chkF Tryz.prog Tryz.f49 c_rt_expr = true := by kernel_rfl
theorem k_r17_Deep : chkF Tryz.prog Tryz.f50 c_r17_Deep = true := by kernel_rfl
theorem k_pw_head : chkF Tryz.prog Tryz.f51 c_pw_head = true := by kernel_rfl
theorem k_pp_expr : chkF Tryz.prog Tryz.f52 c_pp_expr = true := by kernel_rfl
theorem k_pw_sees : chkF Tryz.prog Tryz.f53 c_pw_sees = true := by kernel_rfl
theorem k_pw_fail : chkF Tryz.prog Tryz.f54 c_pw_fail = true := by kernel_rfl
theorem k_parse_deep : chkF Tryz.prog Tryz.f55 c_parse_deep = true := by kernel_rfl
theorem k_r16_SameStmt : chkF Tryz.prog Tryz.f56 c_r16_SameStmt = true := by kernel_rfl
theorem k_lex_begins : chkF Tryz.prog Tryz.f59 c_lex_begins = true := by kernel_rfl
theorem k_lex_letter : chkF Tryz.prog Tryz.f60 c_lex_letter = true := by kernel_rfl
theorem k_lex_inner : chkF Tryz.prog Tryz.f62 c_lex_inner = true := by kernel_rfl
theorem k_lex_Key : chkF Tryz.prog Tryz.f63 c_lex_Key = true := by kernel_rfl
theorem k_strings_HasPrefix : chkF Tryz.prog Tryz.f74 c_strings_HasPrefix = true := by kernel_rfl
theorem k_lex_word : chkF Tryz.prog Tryz.f76 c_lex_word = true := by kernel_rfl
theorem k_lex_digit : chkF Tryz.prog Tryz.f77 c_lex_digit = true := by kernel_rfl
theorem k_lex_number : chkF Tryz.prog Tryz.f78 c_lex_number = true := by kernel_rfl
theorem k_lex_text : chkF Tryz.prog Tryz.f79 c_lex_text = true := by kernel_rfl
theorem k_lex_sign : chkF Tryz.prog Tryz.f80 c_lex_sign = true := by kernel_rfl
theorem k_pp_stmt : chkF Tryz.prog Tryz.f81 c_pp_stmt = true := by kernel_rfl
theorem k_pw_skip : chkF Tryz.prog Tryz.f82 c_pw_skip = true := by kernel_rfl
theorem k_r15_letter : chkF Tryz.prog Tryz.f83 c_r15_letter = true := by kernel_rfl
theorem k_r15_inner : chkF Tryz.prog Tryz.f84 c_r15_inner = true := by kernel_rfl
theorem k_r15_Key : chkF Tryz.prog Tryz.f85 c_r15_Key = true := by kernel_rfl
theorem k_r15_Name : chkF Tryz.prog Tryz.f86 c_r15_Name = true := by kernel_rfl
theorem k_r15_digit : chkF Tryz.prog Tryz.f87 c_r15_digit = true := by kernel_rfl
theorem k_r01_Read : chkF Tryz.prog Tryz.f88 c_r01_Read = true := by kernel_rfl
theorem k_r14_Unquote : chkF Tryz.prog Tryz.f89 c_r14_Unquote = true := by kernel_rfl
theorem k_r15_Sign : chkF Tryz.prog Tryz.f90 c_r15_Sign = true := by kernel_rfl
theorem k_r17_simple : chkF Tryz.prog Tryz.f91 c_r17_simple = true := by kernel_rfl
theorem k_rt_begin : chkF Tryz.prog Tryz.f92 c_rt_begin = true := by kernel_rfl
theorem k_r16_Exprs : chkF Tryz.prog Tryz.f93 c_r16_Exprs = true := by kernel_rfl
theorem k_rt_exprs : chkF Tryz.prog Tryz.f94 c_rt_exprs = true := by kernel_rfl
theorem k_rt_txn : chkF Tryz.prog Tryz.f95 c_rt_txn = true := by kernel_rfl
theorem k_rt_both : chkF Tryz.prog Tryz.f96 c_rt_both = true := by kernel_rfl
theorem k_r17_two : chkF Tryz.prog Tryz.f97 c_r17_two = true := by kernel_rfl
theorem k_pp_chain : chkF Tryz.prog Tryz.f98 c_pp_chain = true := by kernel_rfl
theorem k_pp_both : chkF Tryz.prog Tryz.f99 c_pp_both = true := by kernel_rfl
theorem k_isl_HasPrefix : chkF Tryz.prog Tryz.f115 c_isl_HasPrefix = true := by kernel_rfl
theorem k_num_Read : chkF Tryz.prog Tryz.f117 c_num_Read = true := by kernel_rfl
theorem k_view_Unquote : chkF Tryz.prog Tryz.f118 c_view_Unquote = true := by kernel_rfl
theorem k_parse_simple : chkF Tryz.prog Tryz.f119 c_parse_simple = true := by kernel_rfl
theorem k_pp_exprs : chkF Tryz.prog Tryz.f120 c_pp_exprs = true := by kernel_rfl
theorem k_pp_choice : chkF Tryz.prog Tryz.f121 c_pp_choice = true := by kernel_rfl
theorem k_pp_loop : chkF Tryz.prog Tryz.f122 c_pp_loop = true := by kernel_rfl
theorem k_pp_txn : chkF Tryz.prog Tryz.f123 c_pp_txn = true := by kernel_rfl
theorem k_r14_value : chkF Tryz.prog Tryz.f124 c_r14_value = true := by kernel_rfl
theorem k_r14_sign : chkF Tryz.prog Tryz.f125 c_r14_sign = true := by kernel_rfl
theorem k_rt_not : chkF Tryz.prog Tryz.f126 c_rt_not = true := by kernel_rfl
theorem k_parse_kind : chkF Tryz.prog Tryz.f127 c_parse_kind = true := by kernel_rfl
theorem k_pp_not : chkF Tryz.prog Tryz.f128 c_pp_not = true := by kernel_rfl
theorem k_tree_Exprs : chkF Tryz.prog Tryz.f131 c_tree_Exprs = true := by kernel_rfl
theorem k_strings_CutPrefix : chkF Tryz.prog Tryz.f138 c_strings_CutPrefix = true := by kernel_rfl
theorem k_strings_CutSuffix : chkF Tryz.prog Tryz.f139 c_strings_CutSuffix = true := by kernel_rfl
theorem k_view_pair : chkF Tryz.prog Tryz.f140 c_view_pair = true := by kernel_rfl
theorem k_view_plain : chkF Tryz.prog Tryz.f141 c_view_plain = true := by kernel_rfl
theorem k_rt_compare : chkF Tryz.prog Tryz.f144 c_rt_compare = true := by kernel_rfl
theorem k_pp_compare : chkF Tryz.prog Tryz.f145 c_pp_compare = true := by kernel_rfl
theorem k_isl_CutPrefix : chkF Tryz.prog Tryz.f149 c_isl_CutPrefix = true := by kernel_rfl
theorem k_isl_CutSuffix : chkF Tryz.prog Tryz.f150 c_isl_CutSuffix = true := by kernel_rfl
theorem k_rt_sum : chkF Tryz.prog Tryz.f152 c_rt_sum = true := by kernel_rfl
theorem k_pp_sum : chkF Tryz.prog Tryz.f153 c_pp_sum = true := by kernel_rfl
theorem k_isl_HasSuffix : chkF Tryz.prog Tryz.f158 c_isl_HasSuffix = true := by kernel_rfl
theorem k_rt_part : chkF Tryz.prog Tryz.f160 c_rt_part = true := by kernel_rfl
theorem k_pp_part : chkF Tryz.prog Tryz.f161 c_pp_part = true := by kernel_rfl
theorem k_pp_inner : chkF Tryz.prog Tryz.f163 c_pp_inner = true := by kernel_rfl

set_option maxRecDepth 100000 in
theorem fits : ∀ k af, tbl k = some af → k < yBase → (∃ fn, Tryz.prog.funcs[k]? = some fn ∧ chkF Tryz.prog fn af = true) ∧ LabC tbl af.body :=
 Tab.cons (p := fun k af => k < yBase → (∃ fn, Tryz.prog.funcs[k]? = some fn ∧ chkF Tryz.prog fn af = true) ∧ LabC tbl af.body) (fun _ => ⟨⟨_, Tryz.func3, k_l17_ParseTells⟩, (LabC.none rfl)⟩) <|
 Tab.cons (p := fun k af => k < yBase → (∃ fn, Tryz.prog.funcs[k]? = some fn ∧ chkF Tryz.prog fn af = true) ∧ LabC tbl af.body) (fun _ => ⟨⟨_, Tryz.func5, k_l17_knows⟩, (LabC.none rfl)⟩) <|
 Tab.cons (p := fun k af => k < yBase → (∃ fn, Tryz.prog.funcs[k]? = some fn ∧ chkF Tryz.prog fn af = true) ∧ LabC tbl af.body) (fun _ => ⟨⟨_, Tryz.func6, k_parse_Program⟩, (LabC.none rfl)⟩) <|
 Tab.cons (p := fun k af => k < yBase → (∃ fn, Tryz.prog.funcs[k]? = some fn ∧ chkF Tryz.prog fn af = true) ∧ LabC tbl af.body) (fun _ => ⟨⟨_, Tryz.func7, k_r17_Program⟩, (LabC.none rfl)⟩) <|
 Tab.cons (p := fun k af => k < yBase → (∃ fn, Tryz.prog.funcs[k]? = some fn ∧ chkF Tryz.prog fn af = true) ∧ LabC tbl af.body) (fun _ => ⟨⟨_, Tryz.func8, k_parse_Expr⟩, (LabC.none rfl)⟩) <|
 Tab.cons (p := fun k af => k < yBase → (∃ fn, Tryz.prog.funcs[k]? = some fn ∧ chkF Tryz.prog fn af = true) ∧ LabC tbl af.body) (fun _ => ⟨⟨_, Tryz.func9, k_r17_Expr⟩, (LabC.none rfl)⟩) <|
 Tab.cons (p := fun k af => k < yBase → (∃ fn, Tryz.prog.funcs[k]? = some fn ∧ chkF Tryz.prog fn af = true) ∧ LabC tbl af.body) (fun _ => ⟨⟨_, Tryz.func10, k_r16_Same⟩, (LabC.none rfl)⟩) <|
 Tab.cons (p := fun k af => k < yBase → (∃ fn, Tryz.prog.funcs[k]? = some fn ∧ chkF Tryz.prog fn af = true) ∧ LabC tbl af.body) (fun _ => ⟨⟨_, Tryz.func11, k_l15_Fault⟩, (LabC.none rfl)⟩) <|
 Tab.cons (p := fun k af => k < yBase → (∃ fn, Tryz.prog.funcs[k]? = some fn ∧ chkF Tryz.prog fn af = true) ∧ LabC tbl af.body) (fun _ => ⟨⟨_, Tryz.func12, k_r16_SameExpr⟩, (LabC.none rfl)⟩) <|
 Tab.cons (p := fun k af => k < yBase → (∃ fn, Tryz.prog.funcs[k]? = some fn ∧ chkF Tryz.prog fn af = true) ∧ LabC tbl af.body) (fun _ => ⟨⟨_, Tryz.func14, k_lex_Words⟩, (LabC.none rfl)⟩) <|
 Tab.cons (p := fun k af => k < yBase → (∃ fn, Tryz.prog.funcs[k]? = some fn ∧ chkF Tryz.prog fn af = true) ∧ LabC tbl af.body) (fun _ => ⟨⟨_, Tryz.func15, k_pp_program⟩, (LabC.none rfl)⟩) <|
 Tab.cons (p := fun k af => k < yBase → (∃ fn, Tryz.prog.funcs[k]? = some fn ∧ chkF Tryz.prog fn af = true) ∧ LabC tbl af.body) (fun _ => ⟨⟨_, Tryz.func16, k_r15_Words⟩, (LabC.none rfl)⟩) <|
 Tab.cons (p := fun k af => k < yBase → (∃ fn, Tryz.prog.funcs[k]? = some fn ∧ chkF Tryz.prog fn af = true) ∧ LabC tbl af.body) (fun _ => ⟨⟨_, Tryz.func17, k_rt_is⟩, (LabC.none rfl)⟩) <|
 Tab.cons (p := fun k af => k < yBase → (∃ fn, Tryz.prog.funcs[k]? = some fn ∧ chkF Tryz.prog fn af = true) ∧ LabC tbl af.body) (fun _ => ⟨⟨_, Tryz.func18, k_rt_fail⟩, (LabC.none rfl)⟩) <|
 Tab.cons (p := fun k af => k < yBase → (∃ fn, Tryz.prog.funcs[k]? = some fn ∧ chkF Tryz.prog fn af = true) ∧ LabC tbl af.body) (fun _ => ⟨⟨_, Tryz.func19, k_rt_now⟩, (LabC.none rfl)⟩) <|
 Tab.cons (p := fun k af => k < yBase → (∃ fn, Tryz.prog.funcs[k]? = some fn ∧ chkF Tryz.prog fn af = true) ∧ LabC tbl af.body) (fun _ => ⟨⟨_, Tryz.func20, k_rt_kind⟩, (LabC.none rfl)⟩) <|
 Tab.cons (p := fun k af => k < yBase → (∃ fn, Tryz.prog.funcs[k]? = some fn ∧ chkF Tryz.prog fn af = true) ∧ LabC tbl af.body) (fun _ => ⟨⟨_, Tryz.func21, k_rt_block⟩, (LabC.none rfl)⟩) <|
 Tab.cons (p := fun k af => k < yBase → (∃ fn, Tryz.prog.funcs[k]? = some fn ∧ chkF Tryz.prog fn af = true) ∧ LabC tbl af.body) (fun _ => ⟨⟨_, Tryz.func22, k_rt_need⟩, (LabC.none rfl)⟩) <|
 Tab.cons (p := fun k af => k < yBase → (∃ fn, Tryz.prog.funcs[k]? = some fn ∧ chkF Tryz.prog fn af = true) ∧ LabC tbl af.body) (fun _ => ⟨⟨_, Tryz.func23, k_rt_take⟩, (LabC.none rfl)⟩) <|
 Tab.cons (p := fun k af => k < yBase → (∃ fn, Tryz.prog.funcs[k]? = some fn ∧ chkF Tryz.prog fn af = true) ∧ LabC tbl af.body) (fun _ => ⟨⟨_, Tryz.func24, k_rt_whole⟩, (LabC.none rfl)⟩) <|
 Tab.cons (p := fun k af => k < yBase → (∃ fn, Tryz.prog.funcs[k]? = some fn ∧ chkF Tryz.prog fn af = true) ∧ LabC tbl af.body) (fun _ => ⟨⟨_, Tryz.func25, k_rt_bad⟩, (LabC.none rfl)⟩) <|
 Tab.cons (p := fun k af => k < yBase → (∃ fn, Tryz.prog.funcs[k]? = some fn ∧ chkF Tryz.prog fn af = true) ∧ LabC tbl af.body) (fun _ => ⟨⟨_, Tryz.func26, k_pp_whole⟩, (LabC.none rfl)⟩) <|
 Tab.cons (p := fun k af => k < yBase → (∃ fn, Tryz.prog.funcs[k]? = some fn ∧ chkF Tryz.prog fn af = true) ∧ LabC tbl af.body) (fun _ => ⟨⟨_, Tryz.func27, k_r16_SameStmts⟩, (LabC.none rfl)⟩) <|
 Tab.cons (p := fun k af => k < yBase → (∃ fn, Tryz.prog.funcs[k]? = some fn ∧ chkF Tryz.prog fn af = true) ∧ LabC tbl af.body) (fun _ => ⟨⟨_, Tryz.func30, k_lex_Name⟩, (LabC.none rfl)⟩) <|
 Tab.cons (p := fun k af => k < yBase → (∃ fn, Tryz.prog.funcs[k]? = some fn ∧ chkF Tryz.prog fn af = true) ∧ LabC tbl af.body) (fun _ => ⟨⟨_, Tryz.func39, k_lex_skip⟩, (LabC.none rfl)⟩) <|
 Tab.cons (p := fun k af => k < yBase → (∃ fn, Tryz.prog.funcs[k]? = some fn ∧ chkF Tryz.prog fn af = true) ∧ LabC tbl af.body) (fun _ => ⟨⟨_, Tryz.func40, k_lex_next⟩, (LabC.none rfl)⟩) <|
 Tab.cons (p := fun k af => k < yBase → (∃ fn, Tryz.prog.funcs[k]? = some fn ∧ chkF Tryz.prog fn af = true) ∧ LabC tbl af.body) (fun _ => ⟨⟨_, Tryz.func41, k_pp_named⟩, (LabC.none rfl)⟩) <|
 Tab.cons (p := fun k af => k < yBase → (∃ fn, Tryz.prog.funcs[k]? = some fn ∧ chkF Tryz.prog fn af = true) ∧ LabC tbl af.body) (fun _ => ⟨⟨_, Tryz.func42, k_pp_block⟩, (LabC.none rfl)⟩) <|
 Tab.cons (p := fun k af => k < yBase → (∃ fn, Tryz.prog.funcs[k]? = some fn ∧ chkF Tryz.prog fn af = true) ∧ LabC tbl af.body) (fun _ => ⟨⟨_, Tryz.func43, k_pw_wants⟩, (LabC.none rfl)⟩) <|
 Tab.cons (p := fun k af => k < yBase → (∃ fn, Tryz.prog.funcs[k]? = some fn ∧ chkF Tryz.prog fn af = true) ∧ LabC tbl af.body) (fun _ => ⟨⟨_, Tryz.func44, k_pw_takes⟩, (LabC.none rfl)⟩) <|
 Tab.cons (p := fun k af => k < yBase → (∃ fn, Tryz.prog.funcs[k]? = some fn ∧ chkF Tryz.prog fn af = true) ∧ LabC tbl af.body) (fun _ => ⟨⟨_, Tryz.func45, k_pw_of⟩, (LabC.none rfl)⟩) <|
 Tab.cons (p := fun k af => k < yBase → (∃ fn, Tryz.prog.funcs[k]? = some fn ∧ chkF Tryz.prog fn af = true) ∧ LabC tbl af.body) (fun _ => ⟨⟨_, Tryz.func46, k_r15_skip⟩, (LabC.none rfl)⟩) <|
 Tab.cons (p := fun k af => k < yBase → (∃ fn, Tryz.prog.funcs[k]? = some fn ∧ chkF Tryz.prog fn af = true) ∧ LabC tbl af.body) (fun _ => ⟨⟨_, Tryz.func47, k_r15_one⟩, (LabC.none rfl)⟩) <|
 Tab.cons (p := fun k af => k < yBase → (∃ fn, Tryz.prog.funcs[k]? = some fn ∧ chkF Tryz.prog fn af = true) ∧ LabC tbl af.body) (fun _ => ⟨⟨_, Tryz.func48, k_rt_stmt⟩, (LabC.none rfl)⟩) <|
 Tab.cons (p := fun k af => k < yBase → (∃ fn, Tryz.prog.funcs[k]? = some fn ∧ chkF Tryz.prog fn af = true) ∧ LabC tbl af.body) (fun _ => ⟨⟨_, Tryz.func49, k_rt_expr⟩, (LabC.none rfl)⟩) <|
 Tab.cons (p := fun k af => k < yBase → (∃ fn, Tryz.prog.funcs[k]? = some fn ∧ chkF Tryz.prog fn af = true) ∧ LabC tbl af.body) (fun _ => ⟨⟨_, Tryz.func50, k_r17_Deep⟩, (LabC.none rfl)⟩) <|
 Tab.cons (p := fun k af => k < yBase → (∃ fn, Tryz.prog.funcs[k]? = some fn ∧ chkF Tryz.prog fn af = true) ∧ LabC tbl af.body) (fun _ => ⟨⟨_, Tryz.func51, k_pw_head⟩, (LabC.none rfl)⟩) <|
 Tab.cons (p := fun k af => k < yBase → (∃ fn, Tryz.prog.funcs[k]? = some fn ∧ chkF Tryz.prog fn af = true) ∧ LabC tbl af.body) (fun _ => ⟨⟨_, Tryz.func52, k_pp_expr⟩, (LabC.none rfl)⟩) <|
 Tab.cons (p := fun k af => k < yBase → (∃ fn, Tryz.prog.funcs[k]? = some fn ∧ chkF Tryz.prog fn af = true) ∧ LabC tbl af.body) (fun _ => ⟨⟨_, Tryz.func53, k_pw_sees⟩, (LabC.none rfl)⟩) <|
 Tab.cons (p := fun k af => k < yBase → (∃ fn, Tryz.prog.funcs[k]? = some fn ∧ chkF Tryz.prog fn af = true) ∧ LabC tbl af.body) (fun _ => ⟨⟨_, Tryz.func54, k_pw_fail⟩, (LabC.none rfl)⟩) <|
 Tab.cons (p := fun k af => k < yBase → (∃ fn, Tryz.prog.funcs[k]? = some fn ∧ chkF Tryz.prog fn af = true) ∧ LabC tbl af.body) (fun _ => ⟨⟨_, Tryz.func55, k_parse_deep⟩, (LabC.none rfl)⟩) <|
 Tab.cons (p := fun k af => k < yBase → (∃ fn, Tryz.prog.funcs[k]? = some fn ∧ chkF Tryz.prog fn af = true) ∧ LabC tbl af.body) (fun _ => ⟨⟨_, Tryz.func56, k_r16_SameStmt⟩, (LabC.none rfl)⟩) <|
 Tab.cons (p := fun k af => k < yBase → (∃ fn, Tryz.prog.funcs[k]? = some fn ∧ chkF Tryz.prog fn af = true) ∧ LabC tbl af.body) (fun _ => ⟨⟨_, Tryz.func59, k_lex_begins⟩, (LabC.none rfl)⟩) <|
 Tab.cons (p := fun k af => k < yBase → (∃ fn, Tryz.prog.funcs[k]? = some fn ∧ chkF Tryz.prog fn af = true) ∧ LabC tbl af.body) (fun _ => ⟨⟨_, Tryz.func60, k_lex_letter⟩, (LabC.none rfl)⟩) <|
 Tab.cons (p := fun k af => k < yBase → (∃ fn, Tryz.prog.funcs[k]? = some fn ∧ chkF Tryz.prog fn af = true) ∧ LabC tbl af.body) (fun _ => ⟨⟨_, Tryz.func62, k_lex_inner⟩, (LabC.none rfl)⟩) <|
 Tab.cons (p := fun k af => k < yBase → (∃ fn, Tryz.prog.funcs[k]? = some fn ∧ chkF Tryz.prog fn af = true) ∧ LabC tbl af.body) (fun _ => ⟨⟨_, Tryz.func63, k_lex_Key⟩, (LabC.none rfl)⟩) <|
 Tab.cons (p := fun k af => k < yBase → (∃ fn, Tryz.prog.funcs[k]? = some fn ∧ chkF Tryz.prog fn af = true) ∧ LabC tbl af.body) (fun _ => ⟨⟨_, Tryz.func74, k_strings_HasPrefix⟩, (LabC.none rfl)⟩) <|
 Tab.cons (p := fun k af => k < yBase → (∃ fn, Tryz.prog.funcs[k]? = some fn ∧ chkF Tryz.prog fn af = true) ∧ LabC tbl af.body) (fun _ => ⟨⟨_, Tryz.func76, k_lex_word⟩, (LabC.none rfl)⟩) <|
 Tab.cons (p := fun k af => k < yBase → (∃ fn, Tryz.prog.funcs[k]? = some fn ∧ chkF Tryz.prog fn af = true) ∧ LabC tbl af.body) (fun _ => ⟨⟨_, Tryz.func77, k_lex_digit⟩, (LabC.none rfl)⟩) <|
 Tab.cons (p := fun k af => k < yBase → (∃ fn, Tryz.prog.funcs[k]? = some fn ∧ chkF Tryz.prog fn af = true) ∧ LabC tbl af.body) (fun _ => ⟨⟨_, Tryz.func78, k_lex_number⟩, (LabC.none rfl)⟩) <|
 Tab.cons (p := fun k af => k < yBase → (∃ fn, Tryz.prog.funcs[k]? = some fn ∧ chkF Tryz.prog fn af = true) ∧ LabC tbl af.body) (fun _ => ⟨⟨_, Tryz.func79, k_lex_text⟩, (LabC.none rfl)⟩) <|
 Tab.cons (p := fun k af => k < yBase → (∃ fn, Tryz.prog.funcs[k]? = some fn ∧ chkF Tryz.prog fn af = true) ∧ LabC tbl af.body) (fun _ => ⟨⟨_, Tryz.func80, k_lex_sign⟩, (LabC.none rfl)⟩) <|
 Tab.cons (p := fun k af => k < yBase → (∃ fn, Tryz.prog.funcs[k]? = some fn ∧ chkF Tryz.prog fn af = true) ∧ LabC tbl af.body) (fun _ => ⟨⟨_, Tryz.func81, k_pp_stmt⟩, (LabC.none rfl)⟩) <|
 Tab.cons (p := fun k af => k < yBase → (∃ fn, Tryz.prog.funcs[k]? = some fn ∧ chkF Tryz.prog fn af = true) ∧ LabC tbl af.body) (fun _ => ⟨⟨_, Tryz.func82, k_pw_skip⟩, (LabC.none rfl)⟩) <|
 Tab.cons (p := fun k af => k < yBase → (∃ fn, Tryz.prog.funcs[k]? = some fn ∧ chkF Tryz.prog fn af = true) ∧ LabC tbl af.body) (fun _ => ⟨⟨_, Tryz.func83, k_r15_letter⟩, (LabC.none rfl)⟩) <|
 Tab.cons (p := fun k af => k < yBase → (∃ fn, Tryz.prog.funcs[k]? = some fn ∧ chkF Tryz.prog fn af = true) ∧ LabC tbl af.body) (fun _ => ⟨⟨_, Tryz.func84, k_r15_inner⟩, (LabC.none rfl)⟩) <|
 Tab.cons (p := fun k af => k < yBase → (∃ fn, Tryz.prog.funcs[k]? = some fn ∧ chkF Tryz.prog fn af = true) ∧ LabC tbl af.body) (fun _ => ⟨⟨_, Tryz.func85, k_r15_Key⟩, (LabC.none rfl)⟩) <|
 Tab.cons (p := fun k af => k < yBase → (∃ fn, Tryz.prog.funcs[k]? = some fn ∧ chkF Tryz.prog fn af = true) ∧ LabC tbl af.body) (fun _ => ⟨⟨_, Tryz.func86, k_r15_Name⟩, (LabC.none rfl)⟩) <|
 Tab.cons (p := fun k af => k < yBase → (∃ fn, Tryz.prog.funcs[k]? = some fn ∧ chkF Tryz.prog fn af = true) ∧ LabC tbl af.body) (fun _ => ⟨⟨_, Tryz.func87, k_r15_digit⟩, (LabC.none rfl)⟩) <|
 Tab.cons (p := fun k af => k < yBase → (∃ fn, Tryz.prog.funcs[k]? = some fn ∧ chkF Tryz.prog fn af = true) ∧ LabC tbl af.body) (fun _ => ⟨⟨_, Tryz.func88, k_r01_Read⟩, (LabC.none rfl)⟩) <|
 Tab.cons (p := fun k af => k < yBase → (∃ fn, Tryz.prog.funcs[k]? = some fn ∧ chkF Tryz.prog fn af = true) ∧ LabC tbl af.body) (fun _ => ⟨⟨_, Tryz.func89, k_r14_Unquote⟩, (LabC.none rfl)⟩) <|
 Tab.cons (p := fun k af => k < yBase → (∃ fn, Tryz.prog.funcs[k]? = some fn ∧ chkF Tryz.prog fn af = true) ∧ LabC tbl af.body) (fun _ => ⟨⟨_, Tryz.func90, k_r15_Sign⟩, (LabC.none rfl)⟩) <|
 Tab.cons (p := fun k af => k < yBase → (∃ fn, Tryz.prog.funcs[k]? = some fn ∧ chkF Tryz.prog fn af = true) ∧ LabC tbl af.body) (fun _ => ⟨⟨_, Tryz.func91, k_r17_simple⟩, (LabC.none rfl)⟩) <|
 Tab.cons (p := fun k af => k < yBase → (∃ fn, Tryz.prog.funcs[k]? = some fn ∧ chkF Tryz.prog fn af = true) ∧ LabC tbl af.body) (fun _ => ⟨⟨_, Tryz.func92, k_rt_begin⟩, (LabC.none rfl)⟩) <|
 Tab.cons (p := fun k af => k < yBase → (∃ fn, Tryz.prog.funcs[k]? = some fn ∧ chkF Tryz.prog fn af = true) ∧ LabC tbl af.body) (fun _ => ⟨⟨_, Tryz.func93, k_r16_Exprs⟩, (LabC.none rfl)⟩) <|
 Tab.cons (p := fun k af => k < yBase → (∃ fn, Tryz.prog.funcs[k]? = some fn ∧ chkF Tryz.prog fn af = true) ∧ LabC tbl af.body) (fun _ => ⟨⟨_, Tryz.func94, k_rt_exprs⟩, (LabC.none rfl)⟩) <|
 Tab.cons (p := fun k af => k < yBase → (∃ fn, Tryz.prog.funcs[k]? = some fn ∧ chkF Tryz.prog fn af = true) ∧ LabC tbl af.body) (fun _ => ⟨⟨_, Tryz.func95, k_rt_txn⟩, (LabC.none rfl)⟩) <|
 Tab.cons (p := fun k af => k < yBase → (∃ fn, Tryz.prog.funcs[k]? = some fn ∧ chkF Tryz.prog fn af = true) ∧ LabC tbl af.body) (fun _ => ⟨⟨_, Tryz.func96, k_rt_both⟩, (LabC.none rfl)⟩) <|
 Tab.cons (p := fun k af => k < yBase → (∃ fn, Tryz.prog.funcs[k]? = some fn ∧ chkF Tryz.prog fn af = true) ∧ LabC tbl af.body) (fun _ => ⟨⟨_, Tryz.func97, k_r17_two⟩, (LabC.none rfl)⟩) <|
 Tab.cons (p := fun k af => k < yBase → (∃ fn, Tryz.prog.funcs[k]? = some fn ∧ chkF Tryz.prog fn af = true) ∧ LabC tbl af.body) (fun _ => ⟨⟨_, Tryz.func98, k_pp_chain⟩, (LabC.none rfl)⟩) <|
 Tab.cons (p := fun k af => k < yBase → (∃ fn, Tryz.prog.funcs[k]? = some fn ∧ chkF Tryz.prog fn af = true) ∧ LabC tbl af.body) (fun _ => ⟨⟨_, Tryz.func99, k_pp_both⟩, (LabC.none rfl)⟩) <|
 Tab.cons (p := fun k af => k < yBase → (∃ fn, Tryz.prog.funcs[k]? = some fn ∧ chkF Tryz.prog fn af = true) ∧ LabC tbl af.body) (fun _ => ⟨⟨_, Tryz.func115, k_isl_HasPrefix⟩, (LabC.none rfl)⟩) <|
 Tab.cons (p := fun k af => k < yBase → (∃ fn, Tryz.prog.funcs[k]? = some fn ∧ chkF Tryz.prog fn af = true) ∧ LabC tbl af.body) (fun _ => ⟨⟨_, Tryz.func117, k_num_Read⟩, (LabC.none rfl)⟩) <|
 Tab.cons (p := fun k af => k < yBase → (∃ fn, Tryz.prog.funcs[k]? = some fn ∧ chkF Tryz.prog fn af = true) ∧ LabC tbl af.body) (fun _ => ⟨⟨_, Tryz.func118, k_view_Unquote⟩, (LabC.none rfl)⟩) <|
 Tab.cons (p := fun k af => k < yBase → (∃ fn, Tryz.prog.funcs[k]? = some fn ∧ chkF Tryz.prog fn af = true) ∧ LabC tbl af.body) (fun _ => ⟨⟨_, Tryz.func119, k_parse_simple⟩, (LabC.none rfl)⟩) <|
 Tab.cons (p := fun k af => k < yBase → (∃ fn, Tryz.prog.funcs[k]? = some fn ∧ chkF Tryz.prog fn af = true) ∧ LabC tbl af.body) (fun _ => ⟨⟨_, Tryz.func120, k_pp_exprs⟩, (LabC.none rfl)⟩) <|
 Tab.cons (p := fun k af => k < yBase → (∃ fn, Tryz.prog.funcs[k]? = some fn ∧ chkF Tryz.prog fn af = true) ∧ LabC tbl af.body) (fun _ => ⟨⟨_, Tryz.func121, k_pp_choice⟩, (LabC.none rfl)⟩) <|
 Tab.cons (p := fun k af => k < yBase → (∃ fn, Tryz.prog.funcs[k]? = some fn ∧ chkF Tryz.prog fn af = true) ∧ LabC tbl af.body) (fun _ => ⟨⟨_, Tryz.func122, k_pp_loop⟩, (LabC.none rfl)⟩) <|
 Tab.cons (p := fun k af => k < yBase → (∃ fn, Tryz.prog.funcs[k]? = some fn ∧ chkF Tryz.prog fn af = true) ∧ LabC tbl af.body) (fun _ => ⟨⟨_, Tryz.func123, k_pp_txn⟩, (LabC.none rfl)⟩) <|
 Tab.cons (p := fun k af => k < yBase → (∃ fn, Tryz.prog.funcs[k]? = some fn ∧ chkF Tryz.prog fn af = true) ∧ LabC tbl af.body) (fun _ => ⟨⟨_, Tryz.func124, k_r14_value⟩, (LabC.none rfl)⟩) <|
 Tab.cons (p := fun k af => k < yBase → (∃ fn, Tryz.prog.funcs[k]? = some fn ∧ chkF Tryz.prog fn af = true) ∧ LabC tbl af.body) (fun _ => ⟨⟨_, Tryz.func125, k_r14_sign⟩, (LabC.none rfl)⟩) <|
 Tab.cons (p := fun k af => k < yBase → (∃ fn, Tryz.prog.funcs[k]? = some fn ∧ chkF Tryz.prog fn af = true) ∧ LabC tbl af.body) (fun _ => ⟨⟨_, Tryz.func126, k_rt_not⟩, (LabC.none rfl)⟩) <|
 Tab.cons (p := fun k af => k < yBase → (∃ fn, Tryz.prog.funcs[k]? = some fn ∧ chkF Tryz.prog fn af = true) ∧ LabC tbl af.body) (fun _ => ⟨⟨_, Tryz.func127, k_parse_kind⟩, (LabC.none rfl)⟩) <|
 Tab.cons (p := fun k af => k < yBase → (∃ fn, Tryz.prog.funcs[k]? = some fn ∧ chkF Tryz.prog fn af = true) ∧ LabC tbl af.body) (fun _ => ⟨⟨_, Tryz.func128, k_pp_not⟩, (LabC.none rfl)⟩) <|
 Tab.cons (p := fun k af => k < yBase → (∃ fn, Tryz.prog.funcs[k]? = some fn ∧ chkF Tryz.prog fn af = true) ∧ LabC tbl af.body) (fun _ => ⟨⟨_, Tryz.func131, k_tree_Exprs⟩, (LabC.none rfl)⟩) <|
 Tab.cons (p := fun k af => k < yBase → (∃ fn, Tryz.prog.funcs[k]? = some fn ∧ chkF Tryz.prog fn af = true) ∧ LabC tbl af.body) (fun _ => ⟨⟨_, Tryz.func138, k_strings_CutPrefix⟩, (LabC.none rfl)⟩) <|
 Tab.cons (p := fun k af => k < yBase → (∃ fn, Tryz.prog.funcs[k]? = some fn ∧ chkF Tryz.prog fn af = true) ∧ LabC tbl af.body) (fun _ => ⟨⟨_, Tryz.func139, k_strings_CutSuffix⟩, (LabC.none rfl)⟩) <|
 Tab.cons (p := fun k af => k < yBase → (∃ fn, Tryz.prog.funcs[k]? = some fn ∧ chkF Tryz.prog fn af = true) ∧ LabC tbl af.body) (fun _ => ⟨⟨_, Tryz.func140, k_view_pair⟩, (LabC.none rfl)⟩) <|
 Tab.cons (p := fun k af => k < yBase → (∃ fn, Tryz.prog.funcs[k]? = some fn ∧ chkF Tryz.prog fn af = true) ∧ LabC tbl af.body) (fun _ => ⟨⟨_, Tryz.func141, k_view_plain⟩, (LabC.none rfl)⟩) <|
 Tab.cons (p := fun k af => k < yBase → (∃ fn, Tryz.prog.funcs[k]? = some fn ∧ chkF Tryz.prog fn af = true) ∧ LabC tbl af.body) (fun _ => ⟨⟨_, Tryz.func144, k_rt_compare⟩, (LabC.none rfl)⟩) <|
 Tab.cons (p := fun k af => k < yBase → (∃ fn, Tryz.prog.funcs[k]? = some fn ∧ chkF Tryz.prog fn af = true) ∧ LabC tbl af.body) (fun _ => ⟨⟨_, Tryz.func145, k_pp_compare⟩, (LabC.none rfl)⟩) <|
 Tab.cons (p := fun k af => k < yBase → (∃ fn, Tryz.prog.funcs[k]? = some fn ∧ chkF Tryz.prog fn af = true) ∧ LabC tbl af.body) (fun _ => ⟨⟨_, Tryz.func149, k_isl_CutPrefix⟩, (LabC.none rfl)⟩) <|
 Tab.cons (p := fun k af => k < yBase → (∃ fn, Tryz.prog.funcs[k]? = some fn ∧ chkF Tryz.prog fn af = true) ∧ LabC tbl af.body) (fun _ => ⟨⟨_, Tryz.func150, k_isl_CutSuffix⟩, (LabC.none rfl)⟩) <|
 Tab.cons (p := fun k af => k < yBase → (∃ fn, Tryz.prog.funcs[k]? = some fn ∧ chkF Tryz.prog fn af = true) ∧ LabC tbl af.body) (fun _ => ⟨⟨_, Tryz.func152, k_rt_sum⟩, (LabC.none rfl)⟩) <|
 Tab.cons (p := fun k af => k < yBase → (∃ fn, Tryz.prog.funcs[k]? = some fn ∧ chkF Tryz.prog fn af = true) ∧ LabC tbl af.body) (fun _ => ⟨⟨_, Tryz.func153, k_pp_sum⟩, (LabC.none rfl)⟩) <|
 Tab.cons (p := fun k af => k < yBase → (∃ fn, Tryz.prog.funcs[k]? = some fn ∧ chkF Tryz.prog fn af = true) ∧ LabC tbl af.body) (fun _ => ⟨⟨_, Tryz.func158, k_isl_HasSuffix⟩, (LabC.none rfl)⟩) <|
 Tab.cons (p := fun k af => k < yBase → (∃ fn, Tryz.prog.funcs[k]? = some fn ∧ chkF Tryz.prog fn af = true) ∧ LabC tbl af.body) (fun _ => ⟨⟨_, Tryz.func160, k_rt_part⟩, (LabC.none rfl)⟩) <|
 Tab.cons (p := fun k af => k < yBase → (∃ fn, Tryz.prog.funcs[k]? = some fn ∧ chkF Tryz.prog fn af = true) ∧ LabC tbl af.body) (fun _ => ⟨⟨_, Tryz.func161, k_pp_part⟩, (LabC.none rfl)⟩) <|
 Tab.cons (p := fun k af => k < yBase → (∃ fn, Tryz.prog.funcs[k]? = some fn ∧ chkF Tryz.prog fn af = true) ∧ LabC tbl af.body) (fun _ => ⟨⟨_, Tryz.func163, k_pp_inner⟩, (LabC.none rfl)⟩) <|
 Tab.nil

end Go.Proofs.YtlpokbhooaffmaaGreatDoor
