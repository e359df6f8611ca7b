/-
  The abstract code of each function fits the loaded function; printed by a program (gen.py).
-/
import Derived.Test.YtlpokbhooaffmaaDoorCode
import Derived.Test.YtlpokbhooaffmaaDoorRun
import Derived.Test.YtlpokbhooaffmaaDoorChecked
namespace Go.Proofs.YtlpokbhooaffmaaDoor
open Go.AM

theorem k_flotsamlaw17_ParseBlanks : chkF Tryd.prog Tryd.f3 c_flotsamlaw17_ParseBlanks = true := by kernel_rfl
theorem k_flotsamlaw17_knows : chkF Tryd.prog Tryd.f4 c_flotsamlaw17_knows = true := by kernel_rfl
theorem k_flotsamlaw17_spaced : chkF Tryd.prog Tryd.f5 c_flotsamlaw17_spaced = true := by kernel_rfl
theorem k_parse_Program : chkF Tryd.prog Tryd.f6 c_parse_Program = true := by kernel_rfl
theorem k_flotsamref16_Same : chkF Tryd.prog Tryd.f7 c_flotsamref16_Same = true := by kernel_rfl
theorem k_parse_Expr : chkF Tryd.prog Tryd.f8 c_parse_Expr = true := by kernel_rfl
theorem k_flotsamlaw15_Fault : chkF Tryd.prog Tryd.f9 c_flotsamlaw15_Fault = true := by kernel_rfl
theorem k_lex_Show : chkF Tryd.prog Tryd.f10 c_lex_Show = true := by kernel_rfl
theorem k_lex_Words : chkF Tryd.prog Tryd.f11 c_lex_Words = true := by kernel_rfl
theorem k_pparse_parser_program : chkF Tryd.prog Tryd.f12 c_pparse_parser_program = true := by kernel_rfl
theorem k_flotsamref16_SameStmts : chkF Tryd.prog Tryd.f13 c_flotsamref16_SameStmts = true := by kernel_rfl
theorem k_flotsamref16_SameExpr : chkF Tryd.prog Tryd.f14 c_flotsamref16_SameExpr = true := by kernel_rfl
theorem k_pparse_parser_whole : chkF Tryd.prog Tryd.f15 c_pparse_parser_whole = true := by kernel_rfl
theorem k_num_Digits : chkF Tryd.prog Tryd.f16 c_num_Digits = true := by kernel_rfl
theorem k_view_Quote : chkF Tryd.prog Tryd.f17 c_view_Quote = true := by kernel_rfl
theorem k_slices_Equal_api_Word_api_Word : chkF Tryd.prog Tryd.f18 c_slices_Equal_api_Word_api_Word = true := by kernel_rfl
theorem k_lex_skip : chkF Tryd.prog Tryd.f19 c_lex_skip = true := by kernel_rfl
theorem k_lex_next : chkF Tryd.prog Tryd.f20 c_lex_next = true := by kernel_rfl
theorem k_pparse_parser_named : chkF Tryd.prog Tryd.f21 c_pparse_parser_named = true := by kernel_rfl
theorem k_pparse_parser_block : chkF Tryd.prog Tryd.f22 c_pparse_parser_block = true := by kernel_rfl
theorem k_pparse_words_wants : chkF Tryd.prog Tryd.f23 c_pparse_words_wants = true := by kernel_rfl
theorem k_pparse_words_takes : chkF Tryd.prog Tryd.f24 c_pparse_words_takes = true := by kernel_rfl
theorem k_pparse_words_of : chkF Tryd.prog Tryd.f25 c_pparse_words_of = true := by kernel_rfl
theorem k_flotsamref16_SameStmt : chkF Tryd.prog Tryd.f26 c_flotsamref16_SameStmt = true := by kernel_rfl
theorem k_pparse_words_head : chkF Tryd.prog Tryd.f27 c_pparse_words_head = true := by kernel_rfl
theorem k_pparse_parser_expr : chkF Tryd.prog Tryd.f28 c_pparse_parser_expr = true := by kernel_rfl
theorem k_pparse_words_sees : chkF Tryd.prog Tryd.f29 c_pparse_words_sees = true := by kernel_rfl
theorem k_pparse_words_fail : chkF Tryd.prog Tryd.f30 c_pparse_words_fail = true := by kernel_rfl
theorem k_parse_deep : chkF Tryd.prog Tryd.f31 c_parse_deep = true := by kernel_rfl
theorem k_view_plain : chkF Tryd.prog Tryd.f33 c_view_plain = true := by kernel_rfl
theorem k_strings_HasPrefix : chkF Tryd.prog Tryd.f36 c_strings_HasPrefix = true := by kernel_rfl
theorem k_lex_begins : chkF Tryd.prog Tryd.f38 c_lex_begins = true := by kernel_rfl
theorem k_lex_letter : chkF Tryd.prog Tryd.f39 c_lex_letter = true := by kernel_rfl
theorem k_lex_word : chkF Tryd.prog Tryd.f40 c_lex_word = true := by kernel_rfl
theorem k_lex_digit : chkF Tryd.prog Tryd.f41 c_lex_digit = true := by kernel_rfl
theorem k_lex_number : chkF Tryd.prog Tryd.f42 c_lex_number = true := by kernel_rfl
theorem k_lex_text : chkF Tryd.prog Tryd.f43 c_lex_text = true := by kernel_rfl
theorem k_lex_sign : chkF Tryd.prog Tryd.f44 c_lex_sign = true := by kernel_rfl
theorem k_pparse_parser_stmt : chkF Tryd.prog Tryd.f45 c_pparse_parser_stmt = true := by kernel_rfl
theorem k_pparse_words_skip : chkF Tryd.prog Tryd.f46 c_pparse_words_skip = true := by kernel_rfl
theorem k_pparse_parser_chain : chkF Tryd.prog Tryd.f47 c_pparse_parser_chain = true := by kernel_rfl
theorem k_pparse_parser_both : chkF Tryd.prog Tryd.f48 c_pparse_parser_both = true := by kernel_rfl
theorem k_internal_stringslite_HasPrefix : chkF Tryd.prog Tryd.f54 c_internal_stringslite_HasPrefix = true := by kernel_rfl
theorem k_lex_inner : chkF Tryd.prog Tryd.f57 c_lex_inner = true := by kernel_rfl
theorem k_lex_Key : chkF Tryd.prog Tryd.f58 c_lex_Key = true := by kernel_rfl
theorem k_lex_Name : chkF Tryd.prog Tryd.f59 c_lex_Name = true := by kernel_rfl
theorem k_num_Read : chkF Tryd.prog Tryd.f60 c_num_Read = true := by kernel_rfl
theorem k_view_Unquote : chkF Tryd.prog Tryd.f61 c_view_Unquote = true := by kernel_rfl
theorem k_parse_simple : chkF Tryd.prog Tryd.f62 c_parse_simple = true := by kernel_rfl
theorem k_pparse_parser_exprs : chkF Tryd.prog Tryd.f63 c_pparse_parser_exprs = true := by kernel_rfl
theorem k_pparse_parser_choice : chkF Tryd.prog Tryd.f64 c_pparse_parser_choice = true := by kernel_rfl
theorem k_pparse_parser_loop : chkF Tryd.prog Tryd.f65 c_pparse_parser_loop = true := by kernel_rfl
theorem k_pparse_parser_txn : chkF Tryd.prog Tryd.f66 c_pparse_parser_txn = true := by kernel_rfl
theorem k_parse_kind : chkF Tryd.prog Tryd.f67 c_parse_kind = true := by kernel_rfl
theorem k_pparse_parser_not : chkF Tryd.prog Tryd.f68 c_pparse_parser_not = true := by kernel_rfl
theorem k_strings_CutPrefix : chkF Tryd.prog Tryd.f77 c_strings_CutPrefix = true := by kernel_rfl
theorem k_strings_CutSuffix : chkF Tryd.prog Tryd.f78 c_strings_CutSuffix = true := by kernel_rfl
theorem k_view_pair : chkF Tryd.prog Tryd.f79 c_view_pair = true := by kernel_rfl
theorem k_tree_Exprs : chkF Tryd.prog Tryd.f80 c_tree_Exprs = true := by kernel_rfl
theorem k_pparse_parser_compare : chkF Tryd.prog Tryd.f81 c_pparse_parser_compare = true := by kernel_rfl
theorem k_internal_stringslite_CutPrefix : chkF Tryd.prog Tryd.f86 c_internal_stringslite_CutPrefix = true := by kernel_rfl
theorem k_internal_stringslite_CutSuffix : chkF Tryd.prog Tryd.f87 c_internal_stringslite_CutSuffix = true := by kernel_rfl
theorem k_pparse_parser_sum : chkF Tryd.prog Tryd.f88 c_pparse_parser_sum = true := by kernel_rfl
theorem k_internal_stringslite_HasSuffix : chkF Tryd.prog Tryd.f93 c_internal_stringslite_HasSuffix = true := by kernel_rfl
theorem k_pparse_parser_part : chkF Tryd.prog Tryd.f94 c_pparse_parser_part = true := by kernel_rfl
theorem k_pparse_parser_inner : chkF Tryd.prog Tryd.f96 c_pparse_parser_inner = true := by kernel_rfl

set_option maxRecDepth 100000 in
theorem fits : ∀ k af, tbl k = some af → k < yBase → (∃ fn, Tryd.prog.funcs[k]? = some fn ∧ chkF Tryd.prog fn af = true) ∧ LabC tbl af.body :=
  Tab.cons (p := fun k af => k < yBase → (∃ fn, Tryd.prog.funcs[k]? = some fn ∧ chkF Tryd.prog fn af = true) ∧ LabC tbl af.body) (fun _ => ⟨⟨_, Tryd.func3, k_flotsamlaw17_ParseBlanks⟩, (LabC.none rfl)⟩) <|
  Tab.cons (p := fun k af => k < yBase → (∃ fn, Tryd.prog.funcs[k]? = some fn ∧ chkF Tryd.prog fn af = true) ∧ LabC tbl af.body) (fun _ => ⟨⟨_, Tryd.func4, k_flotsamlaw17_knows⟩, (LabC.none rfl)⟩) <|
  Tab.cons (p := fun k af => k < yBase → (∃ fn, Tryd.prog.funcs[k]? = some fn ∧ chkF Tryd.prog fn af = true) ∧ LabC tbl af.body) (fun _ => ⟨⟨_, Tryd.func5, k_flotsamlaw17_spaced⟩, (LabC.none rfl)⟩) <|
  Tab.cons (p := fun k af => k < yBase → (∃ fn, Tryd.prog.funcs[k]? = some fn ∧ chkF Tryd.prog fn af = true) ∧ LabC tbl af.body) (fun _ => ⟨⟨_, Tryd.func6, k_parse_Program⟩, (LabC.none rfl)⟩) <|
  Tab.cons (p := fun k af => k < yBase → (∃ fn, Tryd.prog.funcs[k]? = some fn ∧ chkF Tryd.prog fn af = true) ∧ LabC tbl af.body) (fun _ => ⟨⟨_, Tryd.func7, k_flotsamref16_Same⟩, (LabC.none rfl)⟩) <|
  Tab.cons (p := fun k af => k < yBase → (∃ fn, Tryd.prog.funcs[k]? = some fn ∧ chkF Tryd.prog fn af = true) ∧ LabC tbl af.body) (fun _ => ⟨⟨_, Tryd.func8, k_parse_Expr⟩, (LabC.none rfl)⟩) <|
  Tab.cons (p := fun k af => k < yBase → (∃ fn, Tryd.prog.funcs[k]? = some fn ∧ chkF Tryd.prog fn af = true) ∧ LabC tbl af.body) (fun _ => ⟨⟨_, Tryd.func9, k_flotsamlaw15_Fault⟩, (LabC.none rfl)⟩) <|
  Tab.cons (p := fun k af => k < yBase → (∃ fn, Tryd.prog.funcs[k]? = some fn ∧ chkF Tryd.prog fn af = true) ∧ LabC tbl af.body) (fun _ => ⟨⟨_, Tryd.func10, k_lex_Show⟩, (LabC.none rfl)⟩) <|
  Tab.cons (p := fun k af => k < yBase → (∃ fn, Tryd.prog.funcs[k]? = some fn ∧ chkF Tryd.prog fn af = true) ∧ LabC tbl af.body) (fun _ => ⟨⟨_, Tryd.func11, k_lex_Words⟩, (LabC.none rfl)⟩) <|
  Tab.cons (p := fun k af => k < yBase → (∃ fn, Tryd.prog.funcs[k]? = some fn ∧ chkF Tryd.prog fn af = true) ∧ LabC tbl af.body) (fun _ => ⟨⟨_, Tryd.func12, k_pparse_parser_program⟩, (LabC.none rfl)⟩) <|
  Tab.cons (p := fun k af => k < yBase → (∃ fn, Tryd.prog.funcs[k]? = some fn ∧ chkF Tryd.prog fn af = true) ∧ LabC tbl af.body) (fun _ => ⟨⟨_, Tryd.func13, k_flotsamref16_SameStmts⟩, (LabC.none rfl)⟩) <|
  Tab.cons (p := fun k af => k < yBase → (∃ fn, Tryd.prog.funcs[k]? = some fn ∧ chkF Tryd.prog fn af = true) ∧ LabC tbl af.body) (fun _ => ⟨⟨_, Tryd.func14, k_flotsamref16_SameExpr⟩, (LabC.none rfl)⟩) <|
  Tab.cons (p := fun k af => k < yBase → (∃ fn, Tryd.prog.funcs[k]? = some fn ∧ chkF Tryd.prog fn af = true) ∧ LabC tbl af.body) (fun _ => ⟨⟨_, Tryd.func15, k_pparse_parser_whole⟩, (LabC.none rfl)⟩) <|
  Tab.cons (p := fun k af => k < yBase → (∃ fn, Tryd.prog.funcs[k]? = some fn ∧ chkF Tryd.prog fn af = true) ∧ LabC tbl af.body) (fun _ => ⟨⟨_, Tryd.func16, k_num_Digits⟩, (LabC.none rfl)⟩) <|
  Tab.cons (p := fun k af => k < yBase → (∃ fn, Tryd.prog.funcs[k]? = some fn ∧ chkF Tryd.prog fn af = true) ∧ LabC tbl af.body) (fun _ => ⟨⟨_, Tryd.func17, k_view_Quote⟩, (LabC.none rfl)⟩) <|
  Tab.cons (p := fun k af => k < yBase → (∃ fn, Tryd.prog.funcs[k]? = some fn ∧ chkF Tryd.prog fn af = true) ∧ LabC tbl af.body) (fun _ => ⟨⟨_, Tryd.func18, k_slices_Equal_api_Word_api_Word⟩, (LabC.none rfl)⟩) <|
  Tab.cons (p := fun k af => k < yBase → (∃ fn, Tryd.prog.funcs[k]? = some fn ∧ chkF Tryd.prog fn af = true) ∧ LabC tbl af.body) (fun _ => ⟨⟨_, Tryd.func19, k_lex_skip⟩, (LabC.none rfl)⟩) <|
  Tab.cons (p := fun k af => k < yBase → (∃ fn, Tryd.prog.funcs[k]? = some fn ∧ chkF Tryd.prog fn af = true) ∧ LabC tbl af.body) (fun _ => ⟨⟨_, Tryd.func20, k_lex_next⟩, (LabC.none rfl)⟩) <|
  Tab.cons (p := fun k af => k < yBase → (∃ fn, Tryd.prog.funcs[k]? = some fn ∧ chkF Tryd.prog fn af = true) ∧ LabC tbl af.body) (fun _ => ⟨⟨_, Tryd.func21, k_pparse_parser_named⟩, (LabC.none rfl)⟩) <|
  Tab.cons (p := fun k af => k < yBase → (∃ fn, Tryd.prog.funcs[k]? = some fn ∧ chkF Tryd.prog fn af = true) ∧ LabC tbl af.body) (fun _ => ⟨⟨_, Tryd.func22, k_pparse_parser_block⟩, (LabC.none rfl)⟩) <|
  Tab.cons (p := fun k af => k < yBase → (∃ fn, Tryd.prog.funcs[k]? = some fn ∧ chkF Tryd.prog fn af = true) ∧ LabC tbl af.body) (fun _ => ⟨⟨_, Tryd.func23, k_pparse_words_wants⟩, (LabC.none rfl)⟩) <|
  Tab.cons (p := fun k af => k < yBase → (∃ fn, Tryd.prog.funcs[k]? = some fn ∧ chkF Tryd.prog fn af = true) ∧ LabC tbl af.body) (fun _ => ⟨⟨_, Tryd.func24, k_pparse_words_takes⟩, (LabC.none rfl)⟩) <|
  Tab.cons (p := fun k af => k < yBase → (∃ fn, Tryd.prog.funcs[k]? = some fn ∧ chkF Tryd.prog fn af = true) ∧ LabC tbl af.body) (fun _ => ⟨⟨_, Tryd.func25, k_pparse_words_of⟩, (LabC.none rfl)⟩) <|
  Tab.cons (p := fun k af => k < yBase → (∃ fn, Tryd.prog.funcs[k]? = some fn ∧ chkF Tryd.prog fn af = true) ∧ LabC tbl af.body) (fun _ => ⟨⟨_, Tryd.func26, k_flotsamref16_SameStmt⟩, (LabC.none rfl)⟩) <|
  Tab.cons (p := fun k af => k < yBase → (∃ fn, Tryd.prog.funcs[k]? = some fn ∧ chkF Tryd.prog fn af = true) ∧ LabC tbl af.body) (fun _ => ⟨⟨_, Tryd.func27, k_pparse_words_head⟩, (LabC.none rfl)⟩) <|
  Tab.cons (p := fun k af => k < yBase → (∃ fn, Tryd.prog.funcs[k]? = some fn ∧ chkF Tryd.prog fn af = true) ∧ LabC tbl af.body) (fun _ => ⟨⟨_, Tryd.func28, k_pparse_parser_expr⟩, (LabC.none rfl)⟩) <|
  Tab.cons (p := fun k af => k < yBase → (∃ fn, Tryd.prog.funcs[k]? = some fn ∧ chkF Tryd.prog fn af = true) ∧ LabC tbl af.body) (fun _ => ⟨⟨_, Tryd.func29, k_pparse_words_sees⟩, (LabC.none rfl)⟩) <|
  Tab.cons (p := fun k af => k < yBase → (∃ fn, Tryd.prog.funcs[k]? = some fn ∧ chkF Tryd.prog fn af = true) ∧ LabC tbl af.body) (fun _ => ⟨⟨_, Tryd.func30, k_pparse_words_fail⟩, (LabC.none rfl)⟩) <|
  Tab.cons (p := fun k af => k < yBase → (∃ fn, Tryd.prog.funcs[k]? = some fn ∧ chkF Tryd.prog fn af = true) ∧ LabC tbl af.body) (fun _ => ⟨⟨_, Tryd.func31, k_parse_deep⟩, (LabC.none rfl)⟩) <|
  Tab.cons (p := fun k af => k < yBase → (∃ fn, Tryd.prog.funcs[k]? = some fn ∧ chkF Tryd.prog fn af = true) ∧ LabC tbl af.body) (fun _ => ⟨⟨_, Tryd.func33, k_view_plain⟩, (LabC.none rfl)⟩) <|
  Tab.cons (p := fun k af => k < yBase → (∃ fn, Tryd.prog.funcs[k]? = some fn ∧ chkF Tryd.prog fn af = true) ∧ LabC tbl af.body) (fun _ => ⟨⟨_, Tryd.func36, k_strings_HasPrefix⟩, (LabC.none rfl)⟩) <|
  Tab.cons (p := fun k af => k < yBase → (∃ fn, Tryd.prog.funcs[k]? = some fn ∧ chkF Tryd.prog fn af = true) ∧ LabC tbl af.body) (fun _ => ⟨⟨_, Tryd.func38, k_lex_begins⟩, (LabC.none rfl)⟩) <|
  Tab.cons (p := fun k af => k < yBase → (∃ fn, Tryd.prog.funcs[k]? = some fn ∧ chkF Tryd.prog fn af = true) ∧ LabC tbl af.body) (fun _ => ⟨⟨_, Tryd.func39, k_lex_letter⟩, (LabC.none rfl)⟩) <|
  Tab.cons (p := fun k af => k < yBase → (∃ fn, Tryd.prog.funcs[k]? = some fn ∧ chkF Tryd.prog fn af = true) ∧ LabC tbl af.body) (fun _ => ⟨⟨_, Tryd.func40, k_lex_word⟩, (LabC.none rfl)⟩) <|
  Tab.cons (p := fun k af => k < yBase → (∃ fn, Tryd.prog.funcs[k]? = some fn ∧ chkF Tryd.prog fn af = true) ∧ LabC tbl af.body) (fun _ => ⟨⟨_, Tryd.func41, k_lex_digit⟩, (LabC.none rfl)⟩) <|
  Tab.cons (p := fun k af => k < yBase → (∃ fn, Tryd.prog.funcs[k]? = some fn ∧ chkF Tryd.prog fn af = true) ∧ LabC tbl af.body) (fun _ => ⟨⟨_, Tryd.func42, k_lex_number⟩, (LabC.none rfl)⟩) <|
  Tab.cons (p := fun k af => k < yBase → (∃ fn, Tryd.prog.funcs[k]? = some fn ∧ chkF Tryd.prog fn af = true) ∧ LabC tbl af.body) (fun _ => ⟨⟨_, Tryd.func43, k_lex_text⟩, (LabC.none rfl)⟩) <|
  Tab.cons (p := fun k af => k < yBase → (∃ fn, Tryd.prog.funcs[k]? = some fn ∧ chkF Tryd.prog fn af = true) ∧ LabC tbl af.body) (fun _ => ⟨⟨_, Tryd.func44, k_lex_sign⟩, (LabC.none rfl)⟩) <|
  Tab.cons (p := fun k af => k < yBase → (∃ fn, Tryd.prog.funcs[k]? = some fn ∧ chkF Tryd.prog fn af = true) ∧ LabC tbl af.body) (fun _ => ⟨⟨_, Tryd.func45, k_pparse_parser_stmt⟩, (LabC.none rfl)⟩) <|
  Tab.cons (p := fun k af => k < yBase → (∃ fn, Tryd.prog.funcs[k]? = some fn ∧ chkF Tryd.prog fn af = true) ∧ LabC tbl af.body) (fun _ => ⟨⟨_, Tryd.func46, k_pparse_words_skip⟩, (LabC.none rfl)⟩) <|
  Tab.cons (p := fun k af => k < yBase → (∃ fn, Tryd.prog.funcs[k]? = some fn ∧ chkF Tryd.prog fn af = true) ∧ LabC tbl af.body) (fun _ => ⟨⟨_, Tryd.func47, k_pparse_parser_chain⟩, (LabC.none rfl)⟩) <|
  Tab.cons (p := fun k af => k < yBase → (∃ fn, Tryd.prog.funcs[k]? = some fn ∧ chkF Tryd.prog fn af = true) ∧ LabC tbl af.body) (fun _ => ⟨⟨_, Tryd.func48, k_pparse_parser_both⟩, (LabC.none rfl)⟩) <|
  Tab.cons (p := fun k af => k < yBase → (∃ fn, Tryd.prog.funcs[k]? = some fn ∧ chkF Tryd.prog fn af = true) ∧ LabC tbl af.body) (fun _ => ⟨⟨_, Tryd.func54, k_internal_stringslite_HasPrefix⟩, (LabC.none rfl)⟩) <|
  Tab.cons (p := fun k af => k < yBase → (∃ fn, Tryd.prog.funcs[k]? = some fn ∧ chkF Tryd.prog fn af = true) ∧ LabC tbl af.body) (fun _ => ⟨⟨_, Tryd.func57, k_lex_inner⟩, (LabC.none rfl)⟩) <|
  Tab.cons (p := fun k af => k < yBase → (∃ fn, Tryd.prog.funcs[k]? = some fn ∧ chkF Tryd.prog fn af = true) ∧ LabC tbl af.body) (fun _ => ⟨⟨_, Tryd.func58, k_lex_Key⟩, (LabC.none rfl)⟩) <|
  Tab.cons (p := fun k af => k < yBase → (∃ fn, Tryd.prog.funcs[k]? = some fn ∧ chkF Tryd.prog fn af = true) ∧ LabC tbl af.body) (fun _ => ⟨⟨_, Tryd.func59, k_lex_Name⟩, (LabC.none rfl)⟩) <|
  Tab.cons (p := fun k af => k < yBase → (∃ fn, Tryd.prog.funcs[k]? = some fn ∧ chkF Tryd.prog fn af = true) ∧ LabC tbl af.body) (fun _ => ⟨⟨_, Tryd.func60, k_num_Read⟩, (LabC.none rfl)⟩) <|
  Tab.cons (p := fun k af => k < yBase → (∃ fn, Tryd.prog.funcs[k]? = some fn ∧ chkF Tryd.prog fn af = true) ∧ LabC tbl af.body) (fun _ => ⟨⟨_, Tryd.func61, k_view_Unquote⟩, (LabC.none rfl)⟩) <|
  Tab.cons (p := fun k af => k < yBase → (∃ fn, Tryd.prog.funcs[k]? = some fn ∧ chkF Tryd.prog fn af = true) ∧ LabC tbl af.body) (fun _ => ⟨⟨_, Tryd.func62, k_parse_simple⟩, (LabC.none rfl)⟩) <|
  Tab.cons (p := fun k af => k < yBase → (∃ fn, Tryd.prog.funcs[k]? = some fn ∧ chkF Tryd.prog fn af = true) ∧ LabC tbl af.body) (fun _ => ⟨⟨_, Tryd.func63, k_pparse_parser_exprs⟩, (LabC.none rfl)⟩) <|
  Tab.cons (p := fun k af => k < yBase → (∃ fn, Tryd.prog.funcs[k]? = some fn ∧ chkF Tryd.prog fn af = true) ∧ LabC tbl af.body) (fun _ => ⟨⟨_, Tryd.func64, k_pparse_parser_choice⟩, (LabC.none rfl)⟩) <|
  Tab.cons (p := fun k af => k < yBase → (∃ fn, Tryd.prog.funcs[k]? = some fn ∧ chkF Tryd.prog fn af = true) ∧ LabC tbl af.body) (fun _ => ⟨⟨_, Tryd.func65, k_pparse_parser_loop⟩, (LabC.none rfl)⟩) <|
  Tab.cons (p := fun k af => k < yBase → (∃ fn, Tryd.prog.funcs[k]? = some fn ∧ chkF Tryd.prog fn af = true) ∧ LabC tbl af.body) (fun _ => ⟨⟨_, Tryd.func66, k_pparse_parser_txn⟩, (LabC.none rfl)⟩) <|
  Tab.cons (p := fun k af => k < yBase → (∃ fn, Tryd.prog.funcs[k]? = some fn ∧ chkF Tryd.prog fn af = true) ∧ LabC tbl af.body) (fun _ => ⟨⟨_, Tryd.func67, k_parse_kind⟩, (LabC.none rfl)⟩) <|
  Tab.cons (p := fun k af => k < yBase → (∃ fn, Tryd.prog.funcs[k]? = some fn ∧ chkF Tryd.prog fn af = true) ∧ LabC tbl af.body) (fun _ => ⟨⟨_, Tryd.func68, k_pparse_parser_not⟩, (LabC.none rfl)⟩) <|
  Tab.cons (p := fun k af => k < yBase → (∃ fn, Tryd.prog.funcs[k]? = some fn ∧ chkF Tryd.prog fn af = true) ∧ LabC tbl af.body) (fun _ => ⟨⟨_, Tryd.func77, k_strings_CutPrefix⟩, (LabC.none rfl)⟩) <|
  Tab.cons (p := fun k af => k < yBase → (∃ fn, Tryd.prog.funcs[k]? = some fn ∧ chkF Tryd.prog fn af = true) ∧ LabC tbl af.body) (fun _ => ⟨⟨_, Tryd.func78, k_strings_CutSuffix⟩, (LabC.none rfl)⟩) <|
  Tab.cons (p := fun k af => k < yBase → (∃ fn, Tryd.prog.funcs[k]? = some fn ∧ chkF Tryd.prog fn af = true) ∧ LabC tbl af.body) (fun _ => ⟨⟨_, Tryd.func79, k_view_pair⟩, (LabC.none rfl)⟩) <|
  Tab.cons (p := fun k af => k < yBase → (∃ fn, Tryd.prog.funcs[k]? = some fn ∧ chkF Tryd.prog fn af = true) ∧ LabC tbl af.body) (fun _ => ⟨⟨_, Tryd.func80, k_tree_Exprs⟩, (LabC.none rfl)⟩) <|
  Tab.cons (p := fun k af => k < yBase → (∃ fn, Tryd.prog.funcs[k]? = some fn ∧ chkF Tryd.prog fn af = true) ∧ LabC tbl af.body) (fun _ => ⟨⟨_, Tryd.func81, k_pparse_parser_compare⟩, (LabC.none rfl)⟩) <|
  Tab.cons (p := fun k af => k < yBase → (∃ fn, Tryd.prog.funcs[k]? = some fn ∧ chkF Tryd.prog fn af = true) ∧ LabC tbl af.body) (fun _ => ⟨⟨_, Tryd.func86, k_internal_stringslite_CutPrefix⟩, (LabC.none rfl)⟩) <|
  Tab.cons (p := fun k af => k < yBase → (∃ fn, Tryd.prog.funcs[k]? = some fn ∧ chkF Tryd.prog fn af = true) ∧ LabC tbl af.body) (fun _ => ⟨⟨_, Tryd.func87, k_internal_stringslite_CutSuffix⟩, (LabC.none rfl)⟩) <|
  Tab.cons (p := fun k af => k < yBase → (∃ fn, Tryd.prog.funcs[k]? = some fn ∧ chkF Tryd.prog fn af = true) ∧ LabC tbl af.body) (fun _ => ⟨⟨_, Tryd.func88, k_pparse_parser_sum⟩, (LabC.none rfl)⟩) <|
  Tab.cons (p := fun k af => k < yBase → (∃ fn, Tryd.prog.funcs[k]? = some fn ∧ chkF Tryd.prog fn af = true) ∧ LabC tbl af.body) (fun _ => ⟨⟨_, Tryd.func93, k_internal_stringslite_HasSuffix⟩, (LabC.none rfl)⟩) <|
  Tab.cons (p := fun k af => k < yBase → (∃ fn, Tryd.prog.funcs[k]? = some fn ∧ chkF Tryd.prog fn af = true) ∧ LabC tbl af.body) (fun _ => ⟨⟨_, Tryd.func94, k_pparse_parser_part⟩, (LabC.none rfl)⟩) <|
  Tab.cons (p := fun k af => k < yBase → (∃ fn, Tryd.prog.funcs[k]? = some fn ∧ chkF Tryd.prog fn af = true) ∧ LabC tbl af.body) (fun _ => ⟨⟨_, Tryd.func96, k_pparse_parser_inner⟩, (LabC.none rfl)⟩) <|
  Tab.nil

end Go.Proofs.YtlpokbhooaffmaaDoor
