/-
 The abstract code of the functions, printed by a program (gen.py) out of the loaded program, and each function's place in the table.
-/
import Derived.Test.YtfbnodahmmlfdaaGreatDoorXlib
namespace Go.AM
theorem ltB {n : Nat} (h : Nat.ble (n + 1) yBase = true) : n < yBase := Nat.le_of_ble_eq_true h
abbrev kI (n : Int) : AX := .c (.int .i64 n)
@[simp] theorem kI_eq (n : Int) : kI n = .c (.int .i64 n) := rfl
abbrev kS (n : List UInt8) : AX := .c (.str n)
@[simp] theorem kS_eq (n : List UInt8) : kS n = .c (.str n) := rfl
abbrev iZ : V := .int .i64 0
@[simp] theorem iZ_eq : iZ = .int .i64 0 := rfl
abbrev kT : AX := .c (.bool true)
@[simp] theorem kT_eq : kT = .c (.bool true) := rfl
abbrev kF : AX := .c (.bool false)
@[simp] theorem kF_eq : kF = .c (.bool false) := rfl
abbrev dO (d : Nat) (p : AOp) : AOper := ⟨some d, none, p⟩
@[simp] theorem dO_eq (d : Nat) (p : AOp) : dO d p = ⟨some d, none, p⟩ := rfl
abbrev bT : Nat := 54
abbrev bP : Nat := 56
abbrev bE : Nat := 5
def n_l18_PrintBack : Nat := 5
def n_l16_Small : Nat := 6
def n_l18_knows : Nat := 7
def n_pP : Nat := 8
def n_print_Expr : Nat := 10
def n_parse_Program : Nat := 12
def n_r16_Same : Nat := 13
def n_tree_Right : Nat := 14
def n_l15_Fault : Nat := 15
def n_parse_Expr : Nat := 16
def n_r16_SameExpr : Nat := 17
def n_r16_Size : Nat := 18
def n_pq_add : Nat := 19
def n_pq_block : Nat := 20
def n_pq_expr : Nat := 21
def n_pstrings_Builder_String : Nat := 22
def n_lex_Words : Nat := 27
def n_pp_program : Nat := 28
def n_r16_SameStmts : Nat := 29
def n_tree_All : Nat := 30
def n_tree_Right_1 : Nat := 31
def n_lex_Name : Nat := 32
def n_tree_Right_2 : Nat := 33
def n_tree_expr : Nat := 34
def n_tree_Right_3 : Nat := 35
def n_tree_block : Nat := 36
def n_sC_Proc_api_Proc : Nat := 37
def n_sC_Oracle_api_Oracle : Nat := 38
def n_sC_Stmt_api_Stmt : Nat := 39
def n_tree_parts : Nat := 40
def n_pp_whole : Nat := 41
def n_r16_block : Nat := 42
def n_r16_expr : Nat := 43
def n_pstrings_Builder_WriteString : Nat := 44
def n_strings_Repeat : Nat := 45
def n_pq_stmt : Nat := 46
def n_print_strong : Nat := 47
def n_num_Digits : Nat := 48
def n_view_Quote : Nat := 49
def n_print_call : Nat := 50
def n_print_sign : Nat := 51
def n_lex_skip : Nat := 61
def n_lex_next : Nat := 62
def n_pp_named : Nat := 63
def n_pp_block : Nat := 64
def n_pw_wants : Nat := 65
def n_pw_takes : Nat := 66
def n_pw_of : Nat := 67
def n_r16_SameStmt : Nat := 68
def n_tree_walk : Nat := 69
def n_tree_cloned : Nat := 70
def n_lex_begins : Nat := 71
def n_lex_letter : Nat := 72
def n_lex_run : Nat := 73
def n_lex_inner : Nat := 74
def n_lex_Key : Nat := 75
def n_tree_Parts : Nat := 76
def n_sC_Expr_api_Expr : Nat := 77
def n_tree_expr_1 : Nat := 78
def n_sC_Stmt_api_Stmt_x : Nat := 79
def n_tree_block_1 : Nat := 80
def n_tree_stmt : Nat := 81
def n_sI_Proc_api_Proc : Nat := 82
def n_sI_Oracle_api_Oracle : Nat := 83
def n_sI_Stmt_api_Stmt : Nat := 84
def n_pw_head : Nat := 85
def n_pp_expr : Nat := 86
def n_pw_sees : Nat := 87
def n_pw_fail : Nat := 88
def n_parse_deep : Nat := 89
def n_strings_HasPrefix : Nat := 92
def n_print_key : Nat := 95
def n_pq_exprs : Nat := 96
def n_pstrings_Builder_WriteByte : Nat := 97
def n_view_plain : Nat := 98
def n_strings_TrimLeft : Nat := 106
def n_strings_IndexByte : Nat := 107
def n_lex_word : Nat := 108
def n_lex_digit : Nat := 109
def n_lex_number : Nat := 110
def n_lex_text : Nat := 111
def n_lex_sign : Nat := 112
def n_pp_stmt : Nat := 113
def n_pw_skip : Nat := 114
def n_tree_walk_1 : Nat := 115
def n_tree_each_api_Expr : Nat := 116
def n_tree_clonedExpr : Nat := 117
def n_tree_each_api_Stmt : Nat := 118
def n_strings_Contains : Nat := 121
def n_sI_Expr_api_Expr : Nat := 122
def n_sI_Stmt_api_Stmt_x : Nat := 123
def n_tree_shape : Nat := 124
def n_tree_stmt_1 : Nat := 125
def n_pp_chain : Nat := 126
def n_pp_both : Nat := 127
def n_isl_HasPrefix : Nat := 131
def n_strings_Fields : Nat := 133
def n_num_Read : Nat := 141
def n_view_Unquote : Nat := 142
def n_parse_simple : Nat := 143
def n_pp_exprs : Nat := 144
def n_pp_choice : Nat := 145
def n_pp_loop : Nat := 146
def n_pp_txn : Nat := 147
def n_tree_Exprs : Nat := 150
def n_tree_blocks : Nat := 151
def n_tree_shape_1 : Nat := 152
def n_parse_kind : Nat := 153
def n_pp_not : Nat := 154
def n_strings_CutPrefix : Nat := 162
def n_strings_CutSuffix : Nat := 163
def n_view_pair : Nat := 164
def n_pp_compare : Nat := 166
def n_isl_CutPrefix : Nat := 170
def n_isl_CutSuffix : Nat := 171
def n_pp_sum : Nat := 175
def n_isl_HasSuffix : Nat := 179
def n_pp_part : Nat := 181
def n_pp_inner : Nat := 182
def q_tree_All_0 : Nat := 2003000
def q_tree_walk_1_0 : Nat := 2011500
def b_l18_PrintBack_0 : AC :=
 .seq (.seq (.reg [dO 52 (.mv (.t 7)), dO 53 (.fa 3 (.t 1)), dO 54 (.ld none (.t 53)), dO 55 (.len false (.t 54)), dO 56 (.ic .lss (.t 52) (.t 55))])
 (.cond (.t 56)
 (.skip)
 (.exit 0)))
 (.seq (.block 1 (.seq (.reg [dO 60 (.fa 3 (.t 1)), dO 61 (.ld none (.t 60)), dO 62 (.mv (.t 7)), dO 63 (.ixa 5 none (.t 61) (.t 62)), dO 64 (.fa 1 (.t 63)), dO 65 (.ld (some 4) (.t 64)), dO 66 (.callc n_print_Expr [.t 65]), dO 59 (.mv (.t 66)), dO 67 (.ext (.t 59) 0), dO 68 (.ext (.t 59) 1), dO 8 (.tk (.t 67)), dO 9 (.tk (.t 68))])
 (.seq (.reg [dO 70 (.mv (.t 8)), dO 71 (.callc n_parse_Expr [.t 70]), dO 69 (.mv (.t 71)), dO 72 (.ext (.t 69) 0), dO 73 (.ext (.t 69) 1), dO 10 (.alloc [iZ, iZ, .str [], .own 4 []]), dO 11 (.alloc [iZ, iZ]), ⟨none, none, .st 4 (.t 10) (.t 72)⟩, ⟨none, none, .st 2 (.t 11) (.t 73)⟩])
 (.seq (.drw [[], [], [], [], [], [], [], [], [], [], [], [], [], [], [], [], [], [], [], [], [], [], []] [dO 74 (.mv (.t 9)), dO 75 (.mv (.t 74)), ⟨some 76, (some (75, true)), .mv (.t 8)⟩, ⟨some 77, (some (75, true)), .len true (.t 76)⟩, ⟨some 78, (some (75, true)), .ic .leq (.t 77) (kI 4096)⟩, dO 79 (.pick (.t 75) (.t 78) kF), dO 80 (.mv (.t 79)), ⟨some 81, (some (80, true)), .ld (some 2) (.t 11)⟩, ⟨some 82, (some (80, true)), .bld [iZ, iZ] []⟩, ⟨some 83, (some (80, true)), .callc n_l15_Fault [.t 81, .t 82]⟩, ⟨some 84, (some (80, true)), .notb (.t 83)⟩, ⟨some 85, (some (80, true)), .mv (.t 84)⟩, ⟨some 86, (some (85, false)), .ld (some 4) (.t 10)⟩, ⟨some 87, (some (85, false)), .fa 3 (.t 1)⟩, ⟨some 88, (some (85, false)), .ld none (.t 87)⟩, ⟨some 89, (some (85, false)), .mv (.t 7)⟩, ⟨some 90, (some (85, false)), .ixa 5 none (.t 88) (.t 89)⟩, ⟨some 91, (some (85, false)), .fa 1 (.t 90)⟩, ⟨some 92, (some (85, false)), .ld (some 4) (.t 91)⟩, ⟨some 93, (some (85, false)), .callc n_r16_SameExpr [.t 86, .t 92]⟩, ⟨some 94, (some (85, false)), .notb (.t 93)⟩, ⟨some 95, (some (80, true)), .pick (.t 85) kT (.t 94)⟩, dO 96 (.pick (.t 80) (.t 95) kF)])
 (.cond (.t 96)
 (.seq (.reg [dO 2 (.tk kF)])
 (.ret))
 (.skip))))))
 (.reg [dO 57 (.mv (.t 7)), dO 58 (.ia .add .i64 (.t 57) (kI 1)), dO 7 (.tk (.t 58))]))
def l_l18_PrintBack_0 : AC :=
 .loop [1, 7] b_l18_PrintBack_0
def r_l18_PrintBack_0 : AC :=
 .seq (.reg [dO 2 (.tk kT)])
 (.ret)
def c_l18_PrintBack : AFunc :=
 { np := 1, res := [.t 2], body := (
 .seq (.reg [dO 1 (.box (.t 0)), dO 2 (.tk kF)])
 (.seq (.seq (.reg [dO 12 (.ld (some 4) (.t 1)), dO 13 (.callc n_l16_Small [.t 12]), dO 14 (.notb (.t 13)), dO 15 (.mv (.t 14)), ⟨some 16, (some (15, false)), .callc n_l18_knows []⟩, ⟨some 17, (some (15, false)), .notb (.t 16)⟩, dO 18 (.pick (.t 15) kT (.t 17))])
 (.cond (.t 18)
 (.seq (.reg [dO 19 (.callc n_l18_knows []), dO 2 (.tk (.t 19))])
 (.ret))
 (.skip)))
 (.seq (.reg [dO 21 (.ld (some 4) (.t 1)), dO 22 (.callc n_pP [.t 21]), dO 20 (.mv (.t 22)), dO 23 (.ext (.t 20) 0), dO 24 (.ext (.t 20) 1), dO 3 (.tk (.t 23)), dO 4 (.tk (.t 24))])
 (.seq (.seq (.reg [dO 25 (.mv (.t 4)), dO 26 (.ld (some 4) (.t 1)), dO 27 (.callc n_tree_Right [.t 26]), dO 28 (.eqb true (.t 25) (.t 27))])
 (.cond (.t 28)
 (.seq (.reg [dO 2 (.tk kF)])
 (.ret))
 (.skip)))
 (.seq (.reg [dO 30 (.mv (.t 3)), dO 31 (.callc n_parse_Program [.t 30]), dO 29 (.mv (.t 31)), dO 32 (.ext (.t 29) 0), dO 33 (.ext (.t 29) 1), dO 5 (.alloc [.own 2 [], .own 7 [], .own 7 [], .own 5 []]), dO 6 (.alloc [iZ, iZ]), ⟨none, none, .st 4 (.t 5) (.t 32)⟩, ⟨none, none, .st 2 (.t 6) (.t 33)⟩])
 (.seq (.seq (.reg [dO 34 (.mv (.t 4)), dO 35 (.mv (.t 34)), ⟨some 36, (some (35, true)), .mv (.t 3)⟩, ⟨some 37, (some (35, true)), .len true (.t 36)⟩, ⟨some 38, (some (35, true)), .ic .leq (.t 37) (kI 4096)⟩, dO 39 (.pick (.t 35) (.t 38) kF), dO 40 (.mv (.t 39)), ⟨some 41, (some (40, true)), .ld (some 2) (.t 6)⟩, ⟨some 42, (some (40, true)), .bld [iZ, iZ] []⟩, ⟨some 43, (some (40, true)), .callc n_l15_Fault [.t 41, .t 42]⟩, ⟨some 44, (some (40, true)), .notb (.t 43)⟩, ⟨some 45, (some (40, true)), .mv (.t 44)⟩, ⟨some 46, (some (45, false)), .ld (some 4) (.t 1)⟩, ⟨some 47, (some (45, false)), .ld (some 4) (.t 5)⟩, ⟨some 48, (some (45, false)), .callc n_r16_Same [.t 46, .t 47]⟩, ⟨some 49, (some (45, false)), .notb (.t 48)⟩, ⟨some 50, (some (40, true)), .pick (.t 45) kT (.t 49)⟩, dO 51 (.pick (.t 40) (.t 50) kF)])
 (.cond (.t 51)
 (.seq (.reg [dO 2 (.tk kF)])
 (.ret))
 (.skip)))
 (.seq (.seq (.reg [dO 7 (.tk (kI 0))])
 (.block 0 (l_l18_PrintBack_0))) r_l18_PrintBack_0))))))) }
def c_l16_Small : AFunc :=
 { np := 1, res := [.t 2], body := (
 .seq (.reg [dO 1 (.box (.t 0)), dO 2 (.tk kF)])
 (.seq (.reg [dO 3 (.ld (some 4) (.t 1)), dO 4 (.callc n_r16_Size [.t 3, kI 600]), dO 5 (.ic .leq (.t 4) (kI 600)), dO 2 (.tk (.t 5))])
 (.ret))) }
def c_l18_knows : AFunc :=
 { np := 0, res := [.t 0], body := (
 .seq (.reg [dO 0 (.tk kF)])
 (.seq (.reg [dO 6 (.bld [iZ, .str [], iZ, .sl 4 [], .sl 7 [], .sl 7 [], .bool false] [(0, 1, kI 11)]), dO 7 (.bsl 7 [iZ, .str [], iZ, .sl 4 [], .sl 7 [], .sl 7 [], .bool false] 1 [(0, 7, .t 6)] false), dO 8 (.bld [.sl 2 [], .sl 7 [], .sl 7 [], .sl 5 []] [(1, 1, .t 7)]), dO 9 (.callc n_pP [.t 8]), dO 5 (.mv (.t 9)), dO 10 (.ext (.t 5) 0), dO 11 (.ext (.t 5) 1), dO 1 (.tk (.t 10)), dO 2 (.tk (.t 11))])
 (.seq (.reg [dO 13 (.bld [iZ, iZ, .str [], .sl 4 []] [(0, 1, kI 4), (2, 1, kS [97])]), dO 14 (.bsl 4 [iZ, iZ, .str [], .sl 4 []] 1 [(0, 4, .t 13)] false), dO 15 (.bld [iZ, iZ, .str [], .sl 4 []] [(0, 1, kI 8), (3, 1, .t 14)]), dO 16 (.callc n_print_Expr [.t 15]), dO 12 (.mv (.t 16)), dO 17 (.ext (.t 12) 0), dO 18 (.ext (.t 12) 1), dO 3 (.tk (.t 17)), dO 4 (.tk (.t 18))])
 (.seq (.reg [dO 19 (.mv (.t 2)), dO 20 (.mv (.t 19)), ⟨some 21, (some (20, true)), .mv (.t 1)⟩, ⟨some 22, (some (20, true)), .sop .eql (.t 21) (kS [109, 97, 105, 110, 32, 123, 10, 9, 98, 97, 114, 114, 105, 101, 114, 59, 10, 125, 10])⟩, dO 23 (.pick (.t 20) (.t 22) kF), dO 24 (.mv (.t 23)), ⟨some 25, (some (24, true)), .mv (.t 4)⟩, dO 26 (.pick (.t 24) (.t 25) kF), dO 27 (.mv (.t 26)), ⟨some 28, (some (27, true)), .mv (.t 3)⟩, ⟨some 29, (some (27, true)), .sop .eql (.t 28) (kS [110, 111, 116, 32, 97])⟩, dO 30 (.pick (.t 27) (.t 29) kF), dO 0 (.tk (.t 30))])
 (.ret))))) }
def b_pP_0 : AC :=
 .seq (.reg [dO 16 (.ic .lss (.t 15) (.t 14))])
 (.seq (.cond (.t 16)
 (.skip)
 (.exit 0))
 (.seq (.block 1 (.seq (.reg [dO 17 (.ixa 2 none (.t 13) (.t 15)), dO 18 (.ld (some 2) (.t 17)), dO 6 (.alloc [.str [], .own 7 []]), ⟨none, none, .st 2 (.t 6) (.t 18)⟩])
 (.seq (.reg [dO 19 (.fa 0 (.t 6)), dO 20 (.ld none (.t 19)), dO 21 (.bsl 1 [.str []] 2 [(0, 1, kS [112, 114, 111, 99, 32]), (1, 1, .t 20)] false), dO 22 (.call n_pq_add [.t 4, .t 21])])
 (.seq (.reg [dO 23 (.fa 1 (.t 6)), dO 24 (.ld none (.t 23)), dO 25 (.call n_pq_block [.t 4, .t 24, kI 0])])
 (.reg [dO 26 (.bsl 1 [.str []] 1 [(0, 1, kS [10])] false), dO 27 (.call n_pq_add [.t 4, .t 26])])))))
 (.reg [dO 28 (.ia .add .i64 (.t 15) (kI 1)), dO 15 (.mv (.t 28))])))
def l_pP_0 : AC :=
 .loop [1, 4, 13, 14, 15] b_pP_0
def b_pP_1 : AC :=
 .seq (.reg [dO 51 (.ic .lss (.t 50) (.t 49))])
 (.seq (.cond (.t 51)
 (.skip)
 (.exit 2))
 (.seq (.block 3 (.seq (.reg [dO 52 (.ixa 5 none (.t 48) (.t 50)), dO 53 (.ld (some 5) (.t 52)), dO 8 (.alloc [.str [], iZ, iZ, .str [], .own 4 []]), ⟨none, none, .st 5 (.t 8) (.t 53)⟩])
 (.seq (.reg [dO 54 (.fa 0 (.t 8)), dO 55 (.ld none (.t 54)), dO 56 (.bsl 1 [.str []] 3 [(0, 1, kS [111, 114, 97, 99, 108, 101, 32]), (1, 1, .t 55), (2, 1, kS [58, 32])] false), dO 57 (.call n_pq_add [.t 4, .t 56])])
 (.seq (.reg [dO 58 (.fa 1 (.t 8)), dO 59 (.ld (some 4) (.t 58)), dO 60 (.call n_pq_expr [.t 4, .t 59, kI 0])])
 (.reg [dO 61 (.bsl 1 [.str []] 1 [(0, 1, kS [59, 10])] false), dO 62 (.call n_pq_add [.t 4, .t 61])])))))
 (.reg [dO 63 (.ia .add .i64 (.t 50) (kI 1)), dO 50 (.mv (.t 63))])))
def l_pP_1 : AC :=
 .loop [4, 48, 49, 50] b_pP_1
def r_pP_0 : AC :=
 .seq (.reg [dO 64 (.fa 0 (.t 4)), dO 65 (.call n_pstrings_Builder_String [.t 64]), dO 2 (.tk (.t 65)), dO 3 (.tk kT)])
 (.ret)
def r_pP_1 : AC :=
 .seq (.reg [dO 29 (.bsl 1 [.str []] 1 [(0, 1, kS [109, 97, 105, 110])] false), dO 30 (.call n_pq_add [.t 4, .t 29])])
 (.seq (.reg [dO 31 (.fa 1 (.t 1)), dO 32 (.ld none (.t 31)), dO 33 (.call n_pq_block [.t 4, .t 32, kI 0])])
 (.seq (.reg [dO 34 (.bsl 1 [.str []] 1 [(0, 1, kS [10])] false), dO 35 (.call n_pq_add [.t 4, .t 34])])
 (.seq (.seq (.reg [dO 36 (.fa 2 (.t 1)), dO 37 (.ld none (.t 36)), dO 38 (.len false (.t 37)), dO 39 (.ic .gtr (.t 38) (kI 0))])
 (.cond (.t 39)
 (.seq (.reg [dO 40 (.bsl 1 [.str []] 1 [(0, 1, kS [114, 101, 99, 111, 118, 101, 114])] false), dO 41 (.call n_pq_add [.t 4, .t 40])])
 (.seq (.reg [dO 42 (.fa 2 (.t 1)), dO 43 (.ld none (.t 42)), dO 44 (.call n_pq_block [.t 4, .t 43, kI 0])])
 (.reg [dO 45 (.bsl 1 [.str []] 1 [(0, 1, kS [10])] false), dO 46 (.call n_pq_add [.t 4, .t 45])])))
 (.skip)))
 (.seq (.seq (.reg [dO 47 (.fa 3 (.t 1)), dO 48 (.ld none (.t 47)), dO 49 (.len false (.t 48)), dO 50 (.mv (kI 0))])
 (.block 2 (l_pP_1))) r_pP_0))))
def c_pP : AFunc :=
 { np := 1, res := [.t 2, .t 3], body := (
 .seq (.reg [dO 1 (.box (.t 0)), dO 2 (.tk (kS [])), dO 3 (.tk kF)])
 (.seq (.seq (.reg [dO 9 (.ld (some 4) (.t 1)), dO 10 (.callc n_tree_Right [.t 9]), dO 11 (.notb (.t 10))])
 (.cond (.t 11)
 (.seq (.reg [dO 2 (.tk (kS [])), dO 3 (.tk kF)])
 (.ret))
 (.skip)))
 (.seq (.reg [dO 4 (.allocb bP bE)])
 (.seq (.seq (.reg [dO 12 (.fa 0 (.t 1)), dO 13 (.ld none (.t 12)), dO 14 (.len false (.t 13)), dO 15 (.mv (kI 0))])
 (.block 0 (l_pP_0))) r_pP_1)))) }
def c_print_Expr : AFunc :=
 { np := 1, res := [.t 2, .t 3], body := (
 .seq (.reg [dO 1 (.box (.t 0)), dO 2 (.tk (kS [])), dO 3 (.tk kF)])
 (.seq (.seq (.reg [dO 5 (.ld (some 4) (.t 1)), dO 6 (.bld [.str [], iZ, iZ, .str [], .sl 4 []] [(0, 1, kS [97]), (1, 4, .t 5)]), dO 7 (.bsl 5 [.str [], iZ, iZ, .str [], .sl 4 []] 1 [(0, 5, .t 6)] false), dO 8 (.bld [.sl 2 [], .sl 7 [], .sl 7 [], .sl 5 []] [(3, 1, .t 7)]), dO 9 (.callc n_tree_Right [.t 8]), dO 10 (.notb (.t 9))])
 (.cond (.t 10)
 (.seq (.reg [dO 2 (.tk (kS [])), dO 3 (.tk kF)])
 (.ret))
 (.skip)))
 (.seq (.reg [dO 4 (.allocb bP bE)])
 (.seq (.reg [dO 11 (.ld (some 4) (.t 1)), dO 12 (.call n_pq_expr [.t 4, .t 11, kI 0])])
 (.seq (.reg [dO 13 (.fa 0 (.t 4)), dO 14 (.call n_pstrings_Builder_String [.t 13]), dO 2 (.tk (.t 14)), dO 3 (.tk kT)])
 (.ret)))))) }
def c_parse_Program : AFunc :=
 { np := 1, res := [.cell 2 (some 4), .cell 3 (some 2)], body := (
 .seq (.reg [dO 2 (.alloc [.own 2 [], .own 7 [], .own 7 [], .own 5 []]), dO 3 (.alloc [iZ, iZ])])
 (.seq (.reg [dO 9 (.mv (.t 0)), dO 10 (.callc n_lex_Words [.t 9]), dO 8 (.mv (.t 10)), dO 11 (.ext (.t 8) 0), dO 12 (.ext (.t 8) 1), dO 5 (.alloc [iZ, iZ]), dO 4 (.tk (.t 11)), ⟨none, none, .st 2 (.t 5) (.t 12)⟩])
 (.seq (.seq (.reg [dO 13 (.ld (some 2) (.t 5)), dO 14 (.bld [iZ, iZ] []), dO 15 (.eqa true [.int .i64, .int .i64] (.t 13) (.t 14))])
 (.cond (.t 15)
 (.seq (.drw [[], [], [], []] [dO 16 (.bld [.sl 2 [], .sl 7 [], .sl 7 [], .sl 5 []] []), dO 17 (.ldq (some 2) (.t 5) (.t 5)), ⟨none, none, .stq 4 (.t 2) (.t 16) [.t 5]⟩, ⟨none, none, .st 2 (.t 3) (.t 17)⟩])
 (.ret))
 (.skip)))
 (.seq (.reg [dO 18 (.mv (.t 4)), dO 19 (.bld [.sl 4 [], iZ, iZ] [(0, 1, .t 18)]), dO 20 (.bld [.sl 4 [], iZ, iZ, iZ] [(0, 3, .t 19)]), dO 21 (.box (.t 20)), dO 6 (.tk (.t 21))])
 (.seq (.reg [dO 22 (.mv (.t 6)), dO 23 (.call n_pp_program [.t 22]), dO 7 (.alloc [.own 2 [], .own 7 [], .own 7 [], .own 5 []]), ⟨none, none, .st 4 (.t 7) (.t 23)⟩])
 (.seq (.seq (.reg [dO 24 (.mv (.t 6)), dO 25 (.nck (.t 24)), dO 26 (.fa 0 (.t 25)), dO 27 (.fa 1 (.t 26)), dO 28 (.ld (some 2) (.t 27)), dO 29 (.bld [iZ, iZ] []), dO 30 (.eqa true [.int .i64, .int .i64] (.t 28) (.t 29))])
 (.cond (.t 30)
 (.seq (.drw [[], [], [], [], [], [], [], []] [dO 31 (.bld [.sl 2 [], .sl 7 [], .sl 7 [], .sl 5 []] []), dO 32 (.mv (.t 6)), dO 33 (.nck (.t 32)), dO 34 (.fa 0 (.t 33)), dO 35 (.fa 1 (.t 34)), dO 36 (.ldq (some 2) (.t 35) (.t 6)), ⟨none, none, .stq 4 (.t 2) (.t 31) [.t 6]⟩, ⟨none, none, .st 2 (.t 3) (.t 36)⟩])
 (.ret))
 (.skip)))
 (.seq (.reg [dO 37 (.ld (some 4) (.t 7)), dO 38 (.bld [iZ, iZ] []), ⟨none, none, .st 4 (.t 2) (.t 37)⟩, ⟨none, none, .st 2 (.t 3) (.t 38)⟩])
 (.ret)))))))) }
def b_r16_Same_0 : AC :=
 .seq (.seq (.reg [dO 39 (.mv (.t 5)), dO 40 (.fa 0 (.t 2)), dO 41 (.ld none (.t 40)), dO 42 (.len false (.t 41)), dO 43 (.ic .lss (.t 39) (.t 42))])
 (.cond (.t 43)
 (.skip)
 (.exit 0)))
 (.seq (.block 1 (.seq (.drw [[], [], [], [], [], [], [], [], [], [], [], [], [], [], [], [], [], [], [], [], [], [], [], [], [], [], [], [], []] [dO 46 (.fa 0 (.t 2)), dO 47 (.ld none (.t 46)), dO 48 (.mv (.t 5)), dO 49 (.ixa 2 none (.t 47) (.t 48)), dO 50 (.fa 0 (.t 49)), dO 51 (.ld none (.t 50)), dO 52 (.fa 0 (.t 3)), dO 53 (.ld none (.t 52)), dO 54 (.mv (.t 5)), dO 55 (.ixa 2 none (.t 53) (.t 54)), dO 56 (.fa 0 (.t 55)), dO 57 (.ld none (.t 56)), dO 58 (.sop .neq (.t 51) (.t 57)), dO 59 (.mv (.t 58)), ⟨some 60, (some (59, false)), .fa 0 (.t 2)⟩, ⟨some 61, (some (59, false)), .ld none (.t 60)⟩, ⟨some 62, (some (59, false)), .mv (.t 5)⟩, ⟨some 63, (some (59, false)), .ixa 2 none (.t 61) (.t 62)⟩, ⟨some 64, (some (59, false)), .fa 1 (.t 63)⟩, ⟨some 65, (some (59, false)), .ld none (.t 64)⟩, ⟨some 66, (some (59, false)), .fa 0 (.t 3)⟩, ⟨some 67, (some (59, false)), .ld none (.t 66)⟩, ⟨some 68, (some (59, false)), .mv (.t 5)⟩, ⟨some 69, (some (59, false)), .ixa 2 none (.t 67) (.t 68)⟩, ⟨some 70, (some (59, false)), .fa 1 (.t 69)⟩, ⟨some 71, (some (59, false)), .ld none (.t 70)⟩, ⟨some 72, (some (59, false)), .callc n_r16_SameStmts [.t 65, .t 71]⟩, ⟨some 73, (some (59, false)), .notb (.t 72)⟩, dO 74 (.pick (.t 59) kT (.t 73))])
 (.cond (.t 74)
 (.seq (.reg [dO 4 (.tk kF)])
 (.ret))
 (.skip))))
 (.reg [dO 44 (.mv (.t 5)), dO 45 (.ia .add .i64 (.t 44) (kI 1)), dO 5 (.tk (.t 45))]))
def l_r16_Same_0 : AC :=
 .loop [2, 3, 5] b_r16_Same_0
def b_r16_Same_1 : AC :=
 .seq (.seq (.reg [dO 75 (.mv (.t 6)), dO 76 (.fa 3 (.t 2)), dO 77 (.ld none (.t 76)), dO 78 (.len false (.t 77)), dO 79 (.ic .lss (.t 75) (.t 78))])
 (.cond (.t 79)
 (.skip)
 (.exit 2)))
 (.seq (.block 3 (.seq (.drw [[], [], [], [], [], [], [], [], [], [], [], [], [], [], [], [], [], [], [], [], [], [], [], [], [], [], [], [], []] [dO 82 (.fa 3 (.t 2)), dO 83 (.ld none (.t 82)), dO 84 (.mv (.t 6)), dO 85 (.ixa 5 none (.t 83) (.t 84)), dO 86 (.fa 0 (.t 85)), dO 87 (.ld none (.t 86)), dO 88 (.fa 3 (.t 3)), dO 89 (.ld none (.t 88)), dO 90 (.mv (.t 6)), dO 91 (.ixa 5 none (.t 89) (.t 90)), dO 92 (.fa 0 (.t 91)), dO 93 (.ld none (.t 92)), dO 94 (.sop .neq (.t 87) (.t 93)), dO 95 (.mv (.t 94)), ⟨some 96, (some (95, false)), .fa 3 (.t 2)⟩, ⟨some 97, (some (95, false)), .ld none (.t 96)⟩, ⟨some 98, (some (95, false)), .mv (.t 6)⟩, ⟨some 99, (some (95, false)), .ixa 5 none (.t 97) (.t 98)⟩, ⟨some 100, (some (95, false)), .fa 1 (.t 99)⟩, ⟨some 101, (some (95, false)), .ld (some 4) (.t 100)⟩, ⟨some 102, (some (95, false)), .fa 3 (.t 3)⟩, ⟨some 103, (some (95, false)), .ld none (.t 102)⟩, ⟨some 104, (some (95, false)), .mv (.t 6)⟩, ⟨some 105, (some (95, false)), .ixa 5 none (.t 103) (.t 104)⟩, ⟨some 106, (some (95, false)), .fa 1 (.t 105)⟩, ⟨some 107, (some (95, false)), .ld (some 4) (.t 106)⟩, ⟨some 108, (some (95, false)), .callc n_r16_SameExpr [.t 101, .t 107]⟩, ⟨some 109, (some (95, false)), .notb (.t 108)⟩, dO 110 (.pick (.t 95) kT (.t 109))])
 (.cond (.t 110)
 (.seq (.reg [dO 4 (.tk kF)])
 (.ret))
 (.skip))))
 (.reg [dO 80 (.mv (.t 6)), dO 81 (.ia .add .i64 (.t 80) (kI 1)), dO 6 (.tk (.t 81))]))
def l_r16_Same_1 : AC :=
 .loop [2, 3, 6] b_r16_Same_1
def r_r16_Same_0 : AC :=
 .seq (.reg [dO 4 (.tk kT)])
 (.ret)
def r_r16_Same_1 : AC :=
 .seq (.seq (.reg [dO 6 (.tk (kI 0))])
 (.block 2 (l_r16_Same_1))) r_r16_Same_0
def c_r16_Same : AFunc :=
 { np := 2, res := [.t 4], body := (
 .seq (.reg [dO 2 (.box (.t 0)), dO 3 (.box (.t 1)), dO 4 (.tk kF)])
 (.seq (.seq (.reg [dO 7 (.fa 0 (.t 2)), dO 8 (.ld none (.t 7)), dO 9 (.len false (.t 8)), dO 10 (.fa 0 (.t 3)), dO 11 (.ld none (.t 10)), dO 12 (.len false (.t 11)), dO 13 (.ic .neq (.t 9) (.t 12)), dO 14 (.mv (.t 13)), ⟨some 15, (some (14, false)), .fa 3 (.t 2)⟩, ⟨some 16, (some (14, false)), .ld none (.t 15)⟩, ⟨some 17, (some (14, false)), .len false (.t 16)⟩, ⟨some 18, (some (14, false)), .fa 3 (.t 3)⟩, ⟨some 19, (some (14, false)), .ld none (.t 18)⟩, ⟨some 20, (some (14, false)), .len false (.t 19)⟩, ⟨some 21, (some (14, false)), .ic .neq (.t 17) (.t 20)⟩, dO 22 (.pick (.t 14) kT (.t 21)), dO 23 (.mv (.t 22)), ⟨some 24, (some (23, false)), .fa 1 (.t 2)⟩, ⟨some 25, (some (23, false)), .ld none (.t 24)⟩, ⟨some 26, (some (23, false)), .fa 1 (.t 3)⟩, ⟨some 27, (some (23, false)), .ld none (.t 26)⟩, ⟨some 28, (some (23, false)), .callc n_r16_SameStmts [.t 25, .t 27]⟩, ⟨some 29, (some (23, false)), .notb (.t 28)⟩, dO 30 (.pick (.t 23) kT (.t 29)), dO 31 (.mv (.t 30)), ⟨some 32, (some (31, false)), .fa 2 (.t 2)⟩, ⟨some 33, (some (31, false)), .ld none (.t 32)⟩, ⟨some 34, (some (31, false)), .fa 2 (.t 3)⟩, ⟨some 35, (some (31, false)), .ld none (.t 34)⟩, ⟨some 36, (some (31, false)), .callc n_r16_SameStmts [.t 33, .t 35]⟩, ⟨some 37, (some (31, false)), .notb (.t 36)⟩, dO 38 (.pick (.t 31) kT (.t 37))])
 (.cond (.t 38)
 (.seq (.reg [dO 4 (.tk kF)])
 (.ret))
 (.skip)))
 (.seq (.seq (.reg [dO 5 (.tk (kI 0))])
 (.block 0 (l_r16_Same_0))) r_r16_Same_1))) }
def c_tree_Right : AFunc :=
 { np := 1, res := [.t 2], body := (
 .seq (.reg [dO 1 (.box (.t 0)), dO 2 (.tk kF)])
 (.seq (.seq (.reg [dO 6 (.fa 0 (.t 1)), dO 7 (.ld none (.t 6)), dO 8 (.len false (.t 7)), dO 9 (.ic .gtr (.t 8) (kI 16)), dO 10 (.mv (.t 9)), ⟨some 11, (some (10, false)), .fa 3 (.t 1)⟩, ⟨some 12, (some (10, false)), .ld none (.t 11)⟩, ⟨some 13, (some (10, false)), .len false (.t 12)⟩, ⟨some 14, (some (10, false)), .ic .gtr (.t 13) (kI 16)⟩, dO 15 (.pick (.t 10) kT (.t 14)), dO 16 (.mv (.t 15)), ⟨some 17, (some (16, false)), .ld (some 4) (.t 1)⟩, ⟨some 18, (some (16, false)), .callc n_tree_All [.t 17]⟩, ⟨some 19, (some (16, false)), .len false (.t 18)⟩, ⟨some 20, (some (16, false)), .ic .gtr (.t 19) (kI 256)⟩, dO 21 (.pick (.t 16) kT (.t 20))])
 (.cond (.t 21)
 (.seq (.reg [dO 2 (.tk kF)])
 (.ret))
 (.skip)))
 (.seq (.reg [dO 3 (.tk (.c (.fn (.func n_tree_Right_1) [] [])))])
 (.seq (.reg [dO 4 (.tk (.c (.fn (.func n_tree_Right_2) [] [])))])
 (.seq (.reg [dO 5 (.tk (.c (.fn (.func n_tree_Right_3) [] [])))])
 (.seq (.reg [dO 22 (.fa 0 (.t 1)), dO 23 (.ld none (.t 22)), dO 24 (.mv (.t 3)), dO 25 (.call n_sC_Proc_api_Proc [.t 23, .t 24]), dO 26 (.notb (.t 25)), dO 27 (.mv (.t 26)), ⟨some 28, (some (27, true)), .fa 3 (.t 1)⟩, ⟨some 29, (some (27, true)), .ld none (.t 28)⟩, ⟨some 30, (some (27, true)), .mv (.t 4)⟩, ⟨some 31, (some (27, true)), .call n_sC_Oracle_api_Oracle [.t 29, .t 30]⟩, ⟨some 32, (some (27, true)), .notb (.t 31)⟩, dO 33 (.pick (.t 27) (.t 32) kF), dO 34 (.mv (.t 33)), ⟨some 35, (some (34, true)), .ld (some 4) (.t 1)⟩, ⟨some 36, (some (34, true)), .callc n_tree_parts [.t 35]⟩, ⟨some 37, (some (34, true)), .mv (.t 5)⟩, ⟨some 38, (some (34, true)), .call n_sC_Stmt_api_Stmt [.t 36, .t 37]⟩, ⟨some 39, (some (34, true)), .notb (.t 38)⟩, dO 40 (.pick (.t 34) (.t 39) kF), dO 2 (.tk (.t 40))])
 (.ret))))))) }
def c_l15_Fault : AFunc :=
 { np := 2, res := [.t 4], body := (
 .seq (.reg [dO 2 (.box (.t 0)), dO 3 (.box (.t 1)), dO 4 (.tk kF)])
 (.seq (.reg [dO 5 (.fa 0 (.t 2)), dO 6 (.ld none (.t 5)), dO 7 (.fa 0 (.t 3)), dO 8 (.ld none (.t 7)), dO 9 (.ic .eql (.t 6) (.t 8)), dO 10 (.mv (.t 9)), ⟨some 11, (some (10, true)), .fa 1 (.t 2)⟩, ⟨some 12, (some (10, true)), .ld none (.t 11)⟩, ⟨some 13, (some (10, true)), .fa 1 (.t 3)⟩, ⟨some 14, (some (10, true)), .ld none (.t 13)⟩, ⟨some 15, (some (10, true)), .ic .eql (.t 12) (.t 14)⟩, dO 16 (.pick (.t 10) (.t 15) kF), dO 4 (.tk (.t 16))])
 (.ret))) }
def c_parse_Expr : AFunc :=
 { np := 1, res := [.cell 2 (some 4), .cell 3 (some 2)], body := (
 .seq (.reg [dO 2 (.alloc [iZ, iZ, .str [], .own 4 []]), dO 3 (.alloc [iZ, iZ])])
 (.seq (.reg [dO 9 (.mv (.t 0)), dO 10 (.callc n_lex_Words [.t 9]), dO 8 (.mv (.t 10)), dO 11 (.ext (.t 8) 0), dO 12 (.ext (.t 8) 1), dO 5 (.alloc [iZ, iZ]), dO 4 (.tk (.t 11)), ⟨none, none, .st 2 (.t 5) (.t 12)⟩])
 (.seq (.seq (.reg [dO 13 (.ld (some 2) (.t 5)), dO 14 (.bld [iZ, iZ] []), dO 15 (.eqa true [.int .i64, .int .i64] (.t 13) (.t 14))])
 (.cond (.t 15)
 (.seq (.drw [[], [], [], []] [dO 16 (.bld [iZ, iZ, .str [], .sl 4 []] []), dO 17 (.ldq (some 2) (.t 5) (.t 5)), ⟨none, none, .stq 4 (.t 2) (.t 16) [.t 5]⟩, ⟨none, none, .st 2 (.t 3) (.t 17)⟩])
 (.ret))
 (.skip)))
 (.seq (.reg [dO 18 (.mv (.t 4)), dO 19 (.bld [.sl 4 [], iZ, iZ] [(0, 1, .t 18)]), dO 20 (.bld [.sl 4 [], iZ, iZ, iZ] [(0, 3, .t 19)]), dO 21 (.box (.t 20)), dO 6 (.tk (.t 21))])
 (.seq (.reg [dO 22 (.mv (.t 6)), dO 23 (.call n_pp_whole [.t 22, kS []]), dO 7 (.alloc [iZ, iZ, .str [], .own 4 []]), ⟨none, none, .st 4 (.t 7) (.t 23)⟩])
 (.seq (.seq (.reg [dO 24 (.mv (.t 6)), dO 25 (.nck (.t 24)), dO 26 (.fa 0 (.t 25)), dO 27 (.fa 1 (.t 26)), dO 28 (.ld (some 2) (.t 27)), dO 29 (.bld [iZ, iZ] []), dO 30 (.eqa true [.int .i64, .int .i64] (.t 28) (.t 29))])
 (.cond (.t 30)
 (.seq (.drw [[], [], [], [], [], [], [], []] [dO 31 (.bld [iZ, iZ, .str [], .sl 4 []] []), dO 32 (.mv (.t 6)), dO 33 (.nck (.t 32)), dO 34 (.fa 0 (.t 33)), dO 35 (.fa 1 (.t 34)), dO 36 (.ldq (some 2) (.t 35) (.t 6)), ⟨none, none, .stq 4 (.t 2) (.t 31) [.t 6]⟩, ⟨none, none, .st 2 (.t 3) (.t 36)⟩])
 (.ret))
 (.skip)))
 (.seq (.reg [dO 37 (.ld (some 4) (.t 7)), dO 38 (.bld [iZ, iZ] []), ⟨none, none, .st 4 (.t 2) (.t 37)⟩, ⟨none, none, .st 2 (.t 3) (.t 38)⟩])
 (.ret)))))))) }
def b_r16_SameExpr_0 : AC :=
 .seq (.seq (.reg [dO 34 (.mv (.t 5)), dO 35 (.fa 3 (.t 2)), dO 36 (.ld none (.t 35)), dO 37 (.len false (.t 36)), dO 38 (.ic .lss (.t 34) (.t 37))])
 (.cond (.t 38)
 (.skip)
 (.exit 0)))
 (.seq (.block 1 (.seq (.drw [[], [], [], [], [], [], [], [], [], [], [], []] [dO 41 (.fa 3 (.t 2)), dO 42 (.ld none (.t 41)), dO 43 (.mv (.t 5)), dO 44 (.ixa 4 none (.t 42) (.t 43)), dO 45 (.ld (some 4) (.t 44)), dO 46 (.fa 3 (.t 3)), dO 47 (.ld none (.t 46)), dO 48 (.mv (.t 5)), dO 49 (.ixa 4 none (.t 47) (.t 48)), dO 50 (.ld (some 4) (.t 49)), dO 51 (.callc n_r16_SameExpr [.t 45, .t 50]), dO 52 (.notb (.t 51))])
 (.cond (.t 52)
 (.seq (.reg [dO 4 (.tk kF)])
 (.ret))
 (.skip))))
 (.reg [dO 39 (.mv (.t 5)), dO 40 (.ia .add .i64 (.t 39) (kI 1)), dO 5 (.tk (.t 40))]))
def l_r16_SameExpr_0 : AC :=
 .loop [2, 3, 5] b_r16_SameExpr_0
def r_r16_SameExpr_0 : AC :=
 .seq (.reg [dO 4 (.tk kT)])
 (.ret)
def c_r16_SameExpr : AFunc :=
 { np := 2, res := [.t 4], body := (
 .seq (.reg [dO 2 (.box (.t 0)), dO 3 (.box (.t 1)), dO 4 (.tk kF)])
 (.seq (.seq (.reg [dO 6 (.fa 0 (.t 2)), dO 7 (.ld none (.t 6)), dO 8 (.fa 0 (.t 3)), dO 9 (.ld none (.t 8)), dO 10 (.ic .neq (.t 7) (.t 9)), dO 11 (.mv (.t 10)), ⟨some 12, (some (11, false)), .fa 1 (.t 2)⟩, ⟨some 13, (some (11, false)), .ld none (.t 12)⟩, ⟨some 14, (some (11, false)), .fa 1 (.t 3)⟩, ⟨some 15, (some (11, false)), .ld none (.t 14)⟩, ⟨some 16, (some (11, false)), .ic .neq (.t 13) (.t 15)⟩, dO 17 (.pick (.t 11) kT (.t 16)), dO 18 (.mv (.t 17)), ⟨some 19, (some (18, false)), .fa 2 (.t 2)⟩, ⟨some 20, (some (18, false)), .ld none (.t 19)⟩, ⟨some 21, (some (18, false)), .fa 2 (.t 3)⟩, ⟨some 22, (some (18, false)), .ld none (.t 21)⟩, ⟨some 23, (some (18, false)), .sop .neq (.t 20) (.t 22)⟩, dO 24 (.pick (.t 18) kT (.t 23)), dO 25 (.mv (.t 24)), ⟨some 26, (some (25, false)), .fa 3 (.t 2)⟩, ⟨some 27, (some (25, false)), .ld none (.t 26)⟩, ⟨some 28, (some (25, false)), .len false (.t 27)⟩, ⟨some 29, (some (25, false)), .fa 3 (.t 3)⟩, ⟨some 30, (some (25, false)), .ld none (.t 29)⟩, ⟨some 31, (some (25, false)), .len false (.t 30)⟩, ⟨some 32, (some (25, false)), .ic .neq (.t 28) (.t 31)⟩, dO 33 (.pick (.t 25) kT (.t 32))])
 (.cond (.t 33)
 (.seq (.reg [dO 4 (.tk kF)])
 (.ret))
 (.skip)))
 (.seq (.seq (.reg [dO 5 (.tk (kI 0))])
 (.block 0 (l_r16_SameExpr_0))) r_r16_SameExpr_0))) }
def b_r16_Size_0 : AC :=
 .seq (.seq (.reg [dO 31 (.mv (.t 6)), dO 32 (.fa 0 (.t 2)), dO 33 (.ld none (.t 32)), dO 34 (.len false (.t 33)), dO 35 (.ic .lss (.t 31) (.t 34))])
 (.cond (.t 35)
 (.skip)
 (.exit 0)))
 (.seq (.block 1 (.seq (.reg [dO 38 (.mv (.t 5)), dO 39 (.fa 0 (.t 2)), dO 40 (.ld none (.t 39)), dO 41 (.mv (.t 6)), dO 42 (.ixa 2 none (.t 40) (.t 41)), dO 43 (.fa 1 (.t 42)), dO 44 (.ld none (.t 43)), dO 45 (.mv (.t 1)), dO 46 (.mv (.t 5)), dO 47 (.ia .sub .i64 (.t 45) (.t 46)), dO 48 (.callc n_r16_block [.t 44, .t 47]), dO 49 (.ia .add .i64 (.t 38) (.t 48)), dO 5 (.tk (.t 49))])
 (.seq (.reg [dO 50 (.fa 0 (.t 2)), dO 51 (.ld none (.t 50)), dO 52 (.mv (.t 6)), dO 53 (.ixa 2 none (.t 51) (.t 52)), dO 54 (.fa 0 (.t 53)), dO 55 (.ld none (.t 54)), dO 56 (.len true (.t 55)), dO 57 (.ic .gtr (.t 56) (kI 300)), dO 58 (.mv (.t 57)), ⟨some 59, (some (58, false)), .mv (.t 5)⟩, ⟨some 60, (some (58, false)), .mv (.t 1)⟩, ⟨some 61, (some (58, false)), .ic .gtr (.t 59) (.t 60)⟩, dO 62 (.pick (.t 58) kT (.t 61))])
 (.cond (.t 62)
 (.seq (.reg [dO 63 (.mv (.t 1)), dO 64 (.ia .add .i64 (.t 63) (kI 1)), dO 4 (.tk (.t 64))])
 (.ret))
 (.skip)))))
 (.reg [dO 36 (.mv (.t 6)), dO 37 (.ia .add .i64 (.t 36) (kI 1)), dO 6 (.tk (.t 37))]))
def l_r16_Size_0 : AC :=
 .loop [1, 2, 5, 6] b_r16_Size_0
def b_r16_Size_1 : AC :=
 .seq (.seq (.reg [dO 84 (.mv (.t 7)), dO 85 (.fa 3 (.t 2)), dO 86 (.ld none (.t 85)), dO 87 (.len false (.t 86)), dO 88 (.ic .lss (.t 84) (.t 87)), dO 89 (.mv (.t 88)), ⟨some 90, (some (89, true)), .mv (.t 5)⟩, ⟨some 91, (some (89, true)), .mv (.t 1)⟩, ⟨some 92, (some (89, true)), .ic .leq (.t 90) (.t 91)⟩, dO 93 (.pick (.t 89) (.t 92) kF)])
 (.cond (.t 93)
 (.skip)
 (.exit 2)))
 (.seq (.block 3 (.seq (.reg [dO 96 (.mv (.t 5)), dO 97 (.fa 3 (.t 2)), dO 98 (.ld none (.t 97)), dO 99 (.mv (.t 7)), dO 100 (.ixa 5 none (.t 98) (.t 99)), dO 101 (.fa 1 (.t 100)), dO 102 (.ld (some 4) (.t 101)), dO 103 (.mv (.t 1)), dO 104 (.mv (.t 5)), dO 105 (.ia .sub .i64 (.t 103) (.t 104)), dO 106 (.callc n_r16_expr [.t 102, .t 105]), dO 107 (.ia .add .i64 (.t 96) (.t 106)), dO 5 (.tk (.t 107))])
 (.seq (.reg [dO 108 (.fa 3 (.t 2)), dO 109 (.ld none (.t 108)), dO 110 (.mv (.t 7)), dO 111 (.ixa 5 none (.t 109) (.t 110)), dO 112 (.fa 0 (.t 111)), dO 113 (.ld none (.t 112)), dO 114 (.len true (.t 113)), dO 115 (.ic .gtr (.t 114) (kI 300))])
 (.cond (.t 115)
 (.seq (.reg [dO 116 (.mv (.t 1)), dO 117 (.ia .add .i64 (.t 116) (kI 1)), dO 4 (.tk (.t 117))])
 (.ret))
 (.skip)))))
 (.reg [dO 94 (.mv (.t 7)), dO 95 (.ia .add .i64 (.t 94) (kI 1)), dO 7 (.tk (.t 95))]))
def l_r16_Size_1 : AC :=
 .loop [1, 2, 5, 7] b_r16_Size_1
def r_r16_Size_0 : AC :=
 .seq (.reg [dO 118 (.mv (.t 5)), dO 4 (.tk (.t 118))])
 (.ret)
def r_r16_Size_1 : AC :=
 .seq (.reg [dO 65 (.mv (.t 5)), dO 66 (.fa 1 (.t 2)), dO 67 (.ld none (.t 66)), dO 68 (.mv (.t 1)), dO 69 (.mv (.t 5)), dO 70 (.ia .sub .i64 (.t 68) (.t 69)), dO 71 (.callc n_r16_block [.t 67, .t 70]), dO 72 (.ia .add .i64 (.t 65) (.t 71)), dO 5 (.tk (.t 72))])
 (.seq (.seq (.reg [dO 73 (.mv (.t 5)), dO 74 (.mv (.t 1)), dO 75 (.ic .leq (.t 73) (.t 74))])
 (.cond (.t 75)
 (.reg [dO 76 (.mv (.t 5)), dO 77 (.fa 2 (.t 2)), dO 78 (.ld none (.t 77)), dO 79 (.mv (.t 1)), dO 80 (.mv (.t 5)), dO 81 (.ia .sub .i64 (.t 79) (.t 80)), dO 82 (.callc n_r16_block [.t 78, .t 81]), dO 83 (.ia .add .i64 (.t 76) (.t 82)), dO 5 (.tk (.t 83))])
 (.skip)))
 (.seq (.seq (.reg [dO 7 (.tk (kI 0))])
 (.block 2 (l_r16_Size_1))) r_r16_Size_0))
def c_r16_Size : AFunc :=
 { np := 2, res := [.t 4], body := (
 .seq (.reg [dO 2 (.box (.t 0)), dO 4 (.tk (kI 0))])
 (.seq (.reg [dO 8 (.mv (.t 1)), dO 9 (.mx false [.t 8, kI 1000]), dO 1 (.tk (.t 9))])
 (.seq (.seq (.reg [dO 10 (.fa 0 (.t 2)), dO 11 (.ld none (.t 10)), dO 12 (.len false (.t 11)), dO 13 (.mv (.t 1)), dO 14 (.ic .gtr (.t 12) (.t 13)), dO 15 (.mv (.t 14)), ⟨some 16, (some (15, false)), .fa 3 (.t 2)⟩, ⟨some 17, (some (15, false)), .ld none (.t 16)⟩, ⟨some 18, (some (15, false)), .len false (.t 17)⟩, ⟨some 19, (some (15, false)), .mv (.t 1)⟩, ⟨some 20, (some (15, false)), .ic .gtr (.t 18) (.t 19)⟩, dO 21 (.pick (.t 15) kT (.t 20))])
 (.cond (.t 21)
 (.seq (.reg [dO 22 (.mv (.t 1)), dO 23 (.ia .add .i64 (.t 22) (kI 1)), dO 4 (.tk (.t 23))])
 (.ret))
 (.skip)))
 (.seq (.reg [dO 24 (.fa 0 (.t 2)), dO 25 (.ld none (.t 24)), dO 26 (.len false (.t 25)), dO 27 (.fa 3 (.t 2)), dO 28 (.ld none (.t 27)), dO 29 (.len false (.t 28)), dO 30 (.ia .add .i64 (.t 26) (.t 29)), dO 5 (.tk (.t 30))])
 (.seq (.seq (.reg [dO 6 (.tk (kI 0))])
 (.block 0 (l_r16_Size_0))) r_r16_Size_1))))) }
def b_pq_add_0 : AC :=
 .seq (.reg [dO 9 (.ic .lss (.t 8) (.t 7))])
 (.seq (.cond (.t 9)
 (.skip)
 (.exit 0))
 (.seq (.block 1 (.seq (.reg [dO 10 (.ixa 1 none (.t 6) (.t 8)), dO 11 (.ld none (.t 10)), dO 5 (.tk (.t 11))])
 (.reg [dO 12 (.mv (.t 0)), dO 13 (.nck (.t 12)), dO 14 (.fa 0 (.t 13)), dO 15 (.mv (.t 5)), dO 16 (.call n_pstrings_Builder_WriteString [.t 14, .t 15])])))
 (.reg [dO 17 (.ia .add .i64 (.t 8) (kI 1)), dO 8 (.mv (.t 17))])))
def l_pq_add_0 : AC :=
 .loop [0, 6, 7, 8] b_pq_add_0
def c_pq_add : AFunc :=
 { np := 2, res := [], body := (
 .seq (.reg [dO 6 (.mv (.t 1)), dO 7 (.len false (.t 6)), dO 8 (.mv (kI 0))])
 (.block 0 (l_pq_add_0))) }
def b_pq_block_0 : AC :=
 .seq (.reg [dO 14 (.ic .lss (.t 13) (.t 12))])
 (.seq (.cond (.t 14)
 (.skip)
 (.exit 0))
 (.seq (.block 1 (.seq (.reg [dO 15 (.ixa 7 none (.t 11) (.t 13)), dO 16 (.ld (some 7) (.t 15)), dO 7 (.alloc [iZ, .str [], iZ, .own 4 [], .own 7 [], .own 7 [], .bool false]), ⟨none, none, .st 7 (.t 7) (.t 16)⟩])
 (.seq (.reg [dO 17 (.mv (.t 0)), dO 18 (.mv (.t 2)), dO 19 (.ia .add .i64 (.t 18) (kI 1)), dO 20 (.callc n_strings_Repeat [kS [9], .t 19]), dO 21 (.bsl 1 [.str []] 1 [(0, 1, .t 20)] false), dO 22 (.call n_pq_add [.t 17, .t 21])])
 (.seq (.reg [dO 23 (.mv (.t 0)), dO 24 (.ld (some 7) (.t 7)), dO 25 (.mv (.t 2)), dO 26 (.ia .add .i64 (.t 25) (kI 1)), dO 27 (.call n_pq_stmt [.t 23, .t 24, .t 26])])
 (.reg [dO 28 (.mv (.t 0)), dO 29 (.bsl 1 [.str []] 1 [(0, 1, kS [10])] false), dO 30 (.call n_pq_add [.t 28, .t 29])])))))
 (.reg [dO 31 (.ia .add .i64 (.t 13) (kI 1)), dO 13 (.mv (.t 31))])))
def l_pq_block_0 : AC :=
 .loop [0, 2, 11, 12, 13] b_pq_block_0
def r_pq_block_0 : AC :=
 .reg [dO 32 (.mv (.t 0)), dO 33 (.mv (.t 2)), dO 34 (.callc n_strings_Repeat [kS [9], .t 33]), dO 35 (.bsl 1 [.str []] 2 [(0, 1, .t 34), (1, 1, kS [125])] false), dO 36 (.call n_pq_add [.t 32, .t 35])]
def c_pq_block : AFunc :=
 { np := 3, res := [], body := (
 .seq (.reg [dO 8 (.mv (.t 0)), dO 9 (.bsl 1 [.str []] 1 [(0, 1, kS [32, 123, 10])] false), dO 10 (.call n_pq_add [.t 8, .t 9])])
 (.seq (.seq (.reg [dO 11 (.mv (.t 1)), dO 12 (.len false (.t 11)), dO 13 (.mv (kI 0))])
 (.block 0 (l_pq_block_0))) r_pq_block_0)) }
def c_pq_expr : AFunc :=
 { np := 3, res := [], body := (
 .dfr (.seq (.reg [dO 4 (.box (.t 1))])
 (.reg [dO 8 (.fa 0 (.t 4)), dO 9 (.ld none (.t 8)), dO 10 (.callc n_print_strong [.t 9]), dO 11 (.mv (.t 2)), dO 12 (.ic .lss (.t 10) (.t 11))]))
 (.t 12)
 (.seq (.reg [dO 13 (.mv (.t 0)), dO 14 (.bsl 1 [.str []] 1 [(0, 1, kS [40])] false), dO 15 (.call n_pq_add [.t 13, .t 14])])
 (.reg [dO 16 (.mv (.t 0)), dO 17 (.bsl 1 [.str []] 1 [(0, 1, kS [41])] false)]))
 n_pq_add [16, 17] (
 .seq (.reg [dO 18 (.fa 0 (.t 4)), dO 19 (.ld none (.t 18)), dO 20 (.callc n_print_strong [.t 19]), dO 6 (.tk (.t 20))])
 (.seq (.reg [dO 21 (.fa 0 (.t 4)), dO 22 (.ld none (.t 21))])
 (.block 0 (.seq (.reg [dO 50 (.ic .eql (.t 22) (kI 1)), dO 49 (.tk (.t 50))])
 (.cond (.t 49)
 (.reg [dO 51 (.mv (.t 0)), dO 52 (.fa 1 (.t 4)), dO 53 (.ld none (.t 52)), dO 54 (.callc n_num_Digits [.t 53]), dO 55 (.bsl 1 [.str []] 1 [(0, 1, .t 54)] false), dO 56 (.call n_pq_add [.t 51, .t 55])])
 (.seq (.reg [dO 58 (.ic .eql (.t 22) (kI 2)), dO 57 (.tk (.t 58))])
 (.cond (.t 57)
 (.reg [dO 59 (.mv (.t 0)), dO 60 (.fa 2 (.t 4)), dO 61 (.ld none (.t 60)), dO 62 (.callc n_view_Quote [.t 61]), dO 63 (.bsl 1 [.str []] 1 [(0, 1, .t 62)] false), dO 64 (.call n_pq_add [.t 59, .t 63])])
 (.seq (.reg [dO 66 (.ic .eql (.t 22) (kI 4)), dO 65 (.tk (.t 66))])
 (.cond (.t 65)
 (.reg [dO 67 (.mv (.t 0)), dO 68 (.fa 2 (.t 4)), dO 69 (.ld none (.t 68)), dO 70 (.bsl 1 [.str []] 1 [(0, 1, .t 69)] false), dO 71 (.call n_pq_add [.t 67, .t 70])])
 (.seq (.reg [dO 73 (.ic .eql (.t 22) (kI 3)), dO 72 (.tk (.t 73))])
 (.cond (.t 72)
 (.seq (.reg [dO 74 (.fa 1 (.t 4)), dO 75 (.ld none (.t 74)), dO 76 (.ic .eql (.t 75) (kI 1))])
 (.cond (.t 76)
 (.reg [dO 77 (.mv (.t 0)), dO 78 (.bsl 1 [.str []] 1 [(0, 1, kS [116, 114, 117, 101])] false), dO 79 (.call n_pq_add [.t 77, .t 78])])
 (.reg [dO 80 (.mv (.t 0)), dO 81 (.bsl 1 [.str []] 1 [(0, 1, kS [102, 97, 108, 115, 101])] false), dO 82 (.call n_pq_add [.t 80, .t 81])])))
 (.seq (.reg [dO 84 (.ic .eql (.t 22) (kI 8)), dO 83 (.tk (.t 84))])
 (.cond (.t 83)
 (.seq (.reg [dO 85 (.mv (.t 0)), dO 86 (.bsl 1 [.str []] 1 [(0, 1, kS [110, 111, 116, 32])] false), dO 87 (.call n_pq_add [.t 85, .t 86])])
 (.reg [dO 88 (.mv (.t 0)), dO 89 (.fa 3 (.t 4)), dO 90 (.ld none (.t 89)), dO 91 (.ixa 4 none (.t 90) (kI 0)), dO 92 (.ld (some 4) (.t 91)), dO 93 (.call n_pq_expr [.t 88, .t 92, kI 2])]))
 (.seq (.seq (.reg [dO 95 (.ic .eql (.t 22) (kI 5)), dO 94 (.tk (.t 95))])
 (.cond (.t 94)
 (.skip)
 (.seq (.reg [dO 96 (.ic .eql (.t 22) (kI 6)), dO 94 (.tk (.t 96))])
 (.cond (.t 94)
 (.skip)
 (.reg [dO 97 (.ic .eql (.t 22) (kI 7)), dO 94 (.tk (.t 97))])))))
 (.cond (.t 94)
 (.seq (.reg [dO 98 (.mv (.t 0)), dO 99 (.fa 0 (.t 4)), dO 100 (.ld none (.t 99)), dO 101 (.callc n_print_call [.t 100]), dO 102 (.bsl 1 [.str []] 2 [(0, 1, .t 101), (1, 1, kS [40])] false), dO 103 (.call n_pq_add [.t 98, .t 102])])
 (.seq (.reg [dO 104 (.mv (.t 0)), dO 105 (.fa 3 (.t 4)), dO 106 (.ld none (.t 105)), dO 107 (.ixa 4 none (.t 106) (kI 0)), dO 108 (.ld (some 4) (.t 107)), dO 109 (.call n_pq_expr [.t 104, .t 108, kI 0])])
 (.reg [dO 110 (.mv (.t 0)), dO 111 (.bsl 1 [.str []] 1 [(0, 1, kS [41])] false), dO 112 (.call n_pq_add [.t 110, .t 111])])))
 (.seq (.reg [dO 23 (.mv (.t 6)), dO 7 (.tk (.t 23))])
 (.seq (.seq (.reg [dO 24 (.mv (.t 6)), dO 25 (.ic .eql (.t 24) (kI 3))])
 (.cond (.t 25)
 (.reg [dO 26 (.mv (.t 7)), dO 27 (.ia .add .i64 (.t 26) (kI 1)), dO 7 (.tk (.t 27))])
 (.skip)))
 (.seq (.reg [dO 28 (.mv (.t 0)), dO 29 (.fa 3 (.t 4)), dO 30 (.ld none (.t 29)), dO 31 (.ixa 4 none (.t 30) (kI 0)), dO 32 (.ld (some 4) (.t 31)), dO 33 (.mv (.t 7)), dO 34 (.call n_pq_expr [.t 28, .t 32, .t 33])])
 (.seq (.reg [dO 35 (.mv (.t 0)), dO 36 (.fa 0 (.t 4)), dO 37 (.ld none (.t 36)), dO 38 (.callc n_print_sign [.t 37]), dO 39 (.bsl 1 [.str []] 1 [(0, 1, .t 38)] false), dO 40 (.call n_pq_add [.t 35, .t 39])])
 (.reg [dO 41 (.mv (.t 0)), dO 42 (.fa 3 (.t 4)), dO 43 (.ld none (.t 42)), dO 44 (.ixa 4 none (.t 43) (kI 1)), dO 45 (.ld (some 4) (.t 44)), dO 46 (.mv (.t 6)), dO 47 (.ia .add .i64 (.t 46) (kI 1)), dO 48 (.call n_pq_expr [.t 41, .t 45, .t 47])]))))))))))))))))))))) }
def b_lex_Words_0 : AC :=
 .seq (.seq (.reg [dO 15 (.mv (.t 5)), dO 16 (.sop .neq (.t 15) (kS []))])
 (.cond (.t 16)
 (.skip)
 (.exit 0)))
 (.block 1 (.seq (.reg [dO 18 (.mv (.t 5)), dO 19 (.callc n_lex_next [.t 18]), dO 17 (.mv (.t 19)), dO 20 (.ext (.t 17) 0), dO 21 (.ext (.t 17) 1), dO 22 (.ext (.t 17) 2), dO 6 (.alloc [iZ, .str [], iZ, iZ]), ⟨none, none, .st 4 (.t 6) (.t 20)⟩, dO 7 (.tk (.t 21)), dO 8 (.tk (.t 22))])
 (.seq (.reg [dO 23 (.mv (.t 0)), dO 24 (.len true (.t 23)), dO 25 (.mv (.t 5)), dO 26 (.len true (.t 25)), dO 27 (.ia .sub .i64 (.t 24) (.t 26)), dO 28 (.fa 3 (.t 6)), ⟨none, none, .st 1 (.t 28) (.t 27)⟩])
 (.seq (.seq (.reg [dO 29 (.mv (.t 8)), dO 30 (.ic .neq (.t 29) (kI 0))])
 (.cond (.t 30)
 (.seq (.drw [[], [], [], [], [], []] [dO 31 (.mv (.t 8)), dO 32 (.fa 3 (.t 6)), dO 33 (.ld none (.t 32)), dO 34 (.bld [iZ, iZ] [(0, 1, .t 31), (1, 1, .t 33)]), dO 2 (.tk (.c (.own 4 []))), ⟨none, none, .st 2 (.t 3) (.t 34)⟩])
 (.ret))
 (.skip)))
 (.seq (.reg [dO 35 (.tk (.t 4)), dO 36 (.ld (some 4) (.t 6)), dO 37 (.bsl 4 [iZ, .str [], iZ, iZ] 1 [(0, 4, .t 36)] false), dO 38 (.app 4 40 (.t 35) (.t 37) false), dO 4 (.tk (.t 38))])
 (.reg [dO 39 (.mv (.t 5)), dO 40 (.mv (.t 7)), dO 41 (.slc (.t 39) (some (.t 40)) none), dO 42 (.callc n_lex_skip [.t 41]), dO 5 (.tk (.t 42))]))))))
def l_lex_Words_0 : AC :=
 .loop [0, 3, 4, 5] b_lex_Words_0
def r_lex_Words_0 : AC :=
 .seq (.reg [dO 43 (.tk (.t 4)), dO 44 (.mv (.t 0)), dO 45 (.len true (.t 44)), dO 46 (.bld [iZ, .str [], iZ, iZ] [(0, 1, kI 0), (3, 1, .t 45)]), dO 47 (.bsl 4 [iZ, .str [], iZ, iZ] 1 [(0, 4, .t 46)] false), dO 48 (.app 4 40 (.t 43) (.t 47) false), dO 49 (.bld [iZ, iZ] []), dO 2 (.tk (.t 48)), ⟨none, none, .st 2 (.t 3) (.t 49)⟩])
 (.ret)
def c_lex_Words : AFunc :=
 { np := 1, res := [.t 2, .cell 3 (some 2)], body := (
 .seq (.reg [dO 2 (.tk (.c (.own 4 []))), dO 3 (.alloc [iZ, iZ])])
 (.seq (.seq (.reg [dO 9 (.mv (.t 0)), dO 10 (.len true (.t 9)), dO 11 (.ic .gtr (.t 10) (kI 4096))])
 (.cond (.t 11)
 (.seq (.reg [dO 12 (.bld [iZ, iZ] [(0, 1, kI 14)]), dO 2 (.tk (.c (.own 4 []))), ⟨none, none, .st 2 (.t 3) (.t 12)⟩])
 (.ret))
 (.skip)))
 (.seq (.reg [dO 4 (.tk (.c (.own 4 [])))])
 (.seq (.seq (.reg [dO 13 (.mv (.t 0)), dO 14 (.callc n_lex_skip [.t 13]), dO 5 (.tk (.t 14))])
 (.block 0 (l_lex_Words_0))) r_lex_Words_0)))) }
def b_pp_program_0 : AC :=
 .block 1 (.seq (.reg [dO 11 (.mv (.t 0)), dO 12 (.fa 0 (.t 3)), dO 13 (.ld none (.t 12)), dO 14 (.len false (.t 13)), dO 15 (.call n_pp_named [.t 11, kS [112, 114, 111, 99], .t 14]), dO 10 (.mv (.t 15)), dO 16 (.ext (.t 10) 0), dO 17 (.ext (.t 10) 1), dO 4 (.tk (.t 16)), dO 5 (.tk (.t 17))])
 (.seq (.seq (.reg [dO 18 (.mv (.t 5)), dO 19 (.notb (.t 18))])
 (.cond (.t 19)
 (.exit 0)
 (.skip)))
 (.drw [[], [], [], [], [], [], [], [], [], []] [dO 20 (.fa 0 (.t 3)), dO 21 (.ldoq (.t 20) (.t 3)), dO 22 (.mv (.t 4)), dO 23 (.mv (.t 0)), dO 24 (.callh n_pp_block [.t 23, kI 1] (.t 3)), dO 25 (.bld [.str [], .sl 7 []] [(0, 1, .t 22), (1, 1, .t 24)]), dO 26 (.bsl 2 [.str [], .sl 7 []] 1 [(0, 2, .t 25)] false), dO 27 (.app 2 40 (.t 21) (.t 26) false), dO 28 (.fa 0 (.t 3)), ⟨none, none, .st 1 (.t 28) (.t 27)⟩])))
def l_pp_program_0 : AC :=
 .loop [0, 2, 3] b_pp_program_0
def b_pp_program_1 : AC :=
 .block 3 (.seq (.reg [dO 49 (.mv (.t 0)), dO 50 (.fa 3 (.t 3)), dO 51 (.ld none (.t 50)), dO 52 (.len false (.t 51)), dO 53 (.call n_pp_named [.t 49, kS [111, 114, 97, 99, 108, 101], .t 52]), dO 48 (.mv (.t 53)), dO 54 (.ext (.t 48) 0), dO 55 (.ext (.t 48) 1), dO 8 (.tk (.t 54)), dO 9 (.tk (.t 55))])
 (.seq (.seq (.reg [dO 56 (.mv (.t 9)), dO 57 (.notb (.t 56))])
 (.cond (.t 57)
 (.exit 2)
 (.skip)))
 (.seq (.reg [dO 58 (.mv (.t 0)), dO 59 (.nck (.t 58)), dO 60 (.fa 0 (.t 59)), dO 61 (.call n_pw_wants [.t 60, kS [58]])])
 (.seq (.drw [[], [], [], [], [], [], [], [], [], []] [dO 62 (.fa 3 (.t 3)), dO 63 (.ldoq (.t 62) (.t 3)), dO 64 (.mv (.t 8)), dO 65 (.mv (.t 0)), dO 66 (.callh n_pp_whole [.t 65, kS [59]] (.t 3)), dO 67 (.bld [.str [], iZ, iZ, .str [], .sl 4 []] [(0, 1, .t 64), (1, 4, .t 66)]), dO 68 (.bsl 5 [.str [], iZ, iZ, .str [], .sl 4 []] 1 [(0, 5, .t 67)] false), dO 69 (.app 5 72 (.t 63) (.t 68) false), dO 70 (.fa 3 (.t 3)), ⟨none, none, .st 1 (.t 70) (.t 69)⟩])
 (.reg [dO 71 (.mv (.t 0)), dO 72 (.nck (.t 71)), dO 73 (.fa 0 (.t 72)), dO 74 (.call n_pw_wants [.t 73, kS [59]])])))))
def l_pp_program_1 : AC :=
 .loop [0, 2, 3] b_pp_program_1
def r_pp_program_0 : AC :=
 .seq (.reg [dO 75 (.mv (.t 0)), dO 76 (.nck (.t 75)), dO 77 (.fa 0 (.t 76)), dO 78 (.call n_pw_of [.t 77, kI 0])])
 (.seq (.reg [dO 79 (.ld (some 4) (.t 3)), ⟨none, none, .st 4 (.t 2) (.t 79)⟩])
 (.ret))
def r_pp_program_1 : AC :=
 .seq (.reg [dO 29 (.mv (.t 0)), dO 30 (.nck (.t 29)), dO 31 (.fa 0 (.t 30)), dO 32 (.call n_pw_wants [.t 31, kS [109, 97, 105, 110]])])
 (.seq (.reg [dO 33 (.mv (.t 0)), dO 34 (.call n_pp_block [.t 33, kI 1]), dO 35 (.fa 1 (.t 3)), ⟨none, none, .st 1 (.t 35) (.t 34)⟩])
 (.seq (.seq (.reg [dO 37 (.mv (.t 0)), dO 38 (.nck (.t 37)), dO 39 (.fa 0 (.t 38)), dO 40 (.bsl 1 [.str []] 1 [(0, 1, kS [114, 101, 99, 111, 118, 101, 114])] false), dO 41 (.call n_pw_takes [.t 39, .t 40]), dO 36 (.mv (.t 41)), dO 42 (.ext (.t 36) 0), dO 43 (.ext (.t 36) 1), dO 6 (.tk (.t 42)), dO 7 (.tk (.t 43))])
 (.seq (.reg [dO 44 (.mv (.t 7))])
 (.cond (.t 44)
 (.reg [dO 45 (.mv (.t 0)), dO 46 (.call n_pp_block [.t 45, kI 1]), dO 47 (.fa 2 (.t 3)), ⟨none, none, .st 1 (.t 47) (.t 46)⟩])
 (.skip))))
 (.seq (.block 2 (l_pp_program_1)) r_pp_program_0)))
def c_pp_program : AFunc :=
 { np := 1, res := [.cell 2 (some 4)], body := (
 .seq (.reg [dO 2 (.alloc [.own 2 [], .own 7 [], .own 7 [], .own 5 []])])
 (.seq (.reg [dO 3 (.alloc [.own 2 [], .own 7 [], .own 7 [], .own 5 []])])
 (.seq (.block 0 (l_pp_program_0)) r_pp_program_1))) }
def b_r16_SameStmts_0 : AC :=
 .seq (.seq (.reg [dO 11 (.mv (.t 5)), dO 12 (.mv (.t 0)), dO 13 (.len false (.t 12)), dO 14 (.ic .lss (.t 11) (.t 13))])
 (.cond (.t 14)
 (.skip)
 (.exit 0)))
 (.seq (.block 1 (.seq (.drw [[], [], [], [], [], [], [], [], [], []] [dO 17 (.mv (.t 0)), dO 18 (.mv (.t 5)), dO 19 (.ixa 7 none (.t 17) (.t 18)), dO 20 (.ld (some 7) (.t 19)), dO 21 (.mv (.t 1)), dO 22 (.mv (.t 5)), dO 23 (.ixa 7 none (.t 21) (.t 22)), dO 24 (.ld (some 7) (.t 23)), dO 25 (.callc n_r16_SameStmt [.t 20, .t 24]), dO 26 (.notb (.t 25))])
 (.cond (.t 26)
 (.seq (.reg [dO 4 (.tk kF)])
 (.ret))
 (.skip))))
 (.reg [dO 15 (.mv (.t 5)), dO 16 (.ia .add .i64 (.t 15) (kI 1)), dO 5 (.tk (.t 16))]))
def l_r16_SameStmts_0 : AC :=
 .loop [0, 1, 5] b_r16_SameStmts_0
def r_r16_SameStmts_0 : AC :=
 .seq (.reg [dO 4 (.tk kT)])
 (.ret)
def c_r16_SameStmts : AFunc :=
 { np := 2, res := [.t 4], body := (
 .seq (.reg [dO 4 (.tk kF)])
 (.seq (.seq (.reg [dO 6 (.mv (.t 0)), dO 7 (.len false (.t 6)), dO 8 (.mv (.t 1)), dO 9 (.len false (.t 8)), dO 10 (.ic .neq (.t 7) (.t 9))])
 (.cond (.t 10)
 (.seq (.reg [dO 4 (.tk kF)])
 (.ret))
 (.skip)))
 (.seq (.seq (.reg [dO 5 (.tk (kI 0))])
 (.block 0 (l_r16_SameStmts_0))) r_r16_SameStmts_0))) }
def a_tree_All_0 : AC :=
 .reg [dO 6 (.alloc [iZ, .str [], iZ, .own 4 [], .own 7 [], .own 7 [], .bool false]), ⟨none, none, .st 7 (.t 6) (.t 16)⟩]
def y_tree_All_0 : AC :=
 .block 3 (.drw [[], [], [], [], [], [], [], [], []] [dO 17 (.ldo (.t 3)), dO 18 (.ld (some 7) (.t 6)), dO 19 (.callc n_tree_cloned [.t 18]), dO 20 (.len false (.t 17)), dO 21 (.bsl 7 [iZ, .str [], iZ, .sl 4 [], .sl 7 [], .sl 7 [], .bool false] 1 [(0, 7, (.c (.agg [iZ, .str [], iZ, .sl 4 [], .sl 7 [], .sl 7 [], .bool false])))] false), dO 22 (.apz 7 112 (.t 17) (.t 21)), dO 23 (.ixa 7 none (.t 22) (.t 20)), ⟨none, none, .st 7 (.t 23) (.t 19)⟩, ⟨none, none, .stf (.t 3) (.t 22)⟩])
def r_tree_All_0 : AC :=
 .reg [dO 24 (.ia .add .i64 (.t 10) (kI 1)), dO 10 (.mv (.t 24))]
def b_tree_All_0 : AC :=
 .seq (.reg [dO 11 (.ic .lss (.t 10) (.t 9))])
 (.seq (.cond (.t 11)
 (.skip)
 (.exit 0))
 (.seq (.block 1 (.seq (.reg [dO 12 (.ixa 1 none (.t 8) (.t 10)), dO 13 (.ld none (.t 12)), dO 5 (.tk (.t 13))])
 (.seq (.reg [dO 14 (.mv (.t 5)), dO 15 (.call n_tree_walk [.t 14])])
 (.block 2 (.rfn (.t 15) [3] q_tree_All_0 [16] a_tree_All_0 y_tree_All_0))))) r_tree_All_0))
def l_tree_All_0 : AC :=
 .loop [3, 8, 9, 10] b_tree_All_0
def r_tree_All_1 : AC :=
 .seq (.reg [dO 25 (.ld none (.t 3)), dO 2 (.tk (.t 25))])
 (.ret)
def c_tree_All : AFunc :=
 { np := 1, res := [.t 2], body := (
 .seq (.reg [dO 1 (.box (.t 0)), dO 2 (.tk (.c (.own 7 [])))])
 (.seq (.reg [dO 3 (.alloc [.own 7 []])])
 (.seq (.seq (.reg [dO 7 (.ld (some 4) (.t 1)), dO 8 (.callc n_tree_parts [.t 7]), dO 9 (.len false (.t 8)), dO 10 (.mv (kI 0))])
 (.block 0 (l_tree_All_0))) r_tree_All_1))) }
def c_tree_Right_1 : AFunc :=
 { np := 1, res := [.t 2], body := (
 .seq (.reg [dO 1 (.box (.t 0)), dO 2 (.tk kF)])
 (.seq (.reg [dO 3 (.fa 0 (.t 1)), dO 4 (.ld none (.t 3)), dO 5 (.callc n_lex_Name [.t 4]), dO 6 (.notb (.t 5)), dO 2 (.tk (.t 6))])
 (.ret))) }
def c_lex_Name : AFunc :=
 { np := 1, res := [.t 2], body := (
 .seq (.reg [dO 2 (.tk kF)])
 (.seq (.reg [dO 3 (.mv (.t 0)), dO 4 (.callc n_lex_begins [.t 3, (.c (.fn (.func n_lex_letter) [] []))]), dO 5 (.mv (.t 4)), ⟨some 6, (some (5, true)), .mv (.t 0)⟩, ⟨some 7, (some (5, true)), .len true (.t 6)⟩, ⟨some 8, (some (5, true)), .ic .leq (.t 7) (kI 8)⟩, dO 9 (.pick (.t 5) (.t 8) kF), dO 10 (.mv (.t 9)), ⟨some 11, (some (10, true)), .mv (.t 0)⟩, ⟨some 12, (some (10, true)), .callc n_lex_run [.t 11, (.c (.fn (.func n_lex_inner) [] []))]⟩, ⟨some 13, (some (10, true)), .mv (.t 0)⟩, ⟨some 14, (some (10, true)), .sop .eql (.t 12) (.t 13)⟩, dO 15 (.pick (.t 10) (.t 14) kF), dO 16 (.mv (.t 15)), ⟨some 17, (some (16, true)), .mv (.t 0)⟩, ⟨some 18, (some (16, true)), .callc n_lex_Key [.t 17]⟩, ⟨some 19, (some (16, true)), .notb (.t 18)⟩, dO 20 (.pick (.t 16) (.t 19) kF), dO 2 (.tk (.t 20))])
 (.ret))) }
def c_tree_Right_2 : AFunc :=
 { np := 1, res := [.t 2], body := (
 .seq (.reg [dO 1 (.box (.t 0)), dO 2 (.tk kF)])
 (.seq (.reg [dO 3 (.fa 0 (.t 1)), dO 4 (.ld none (.t 3)), dO 5 (.callc n_lex_Name [.t 4]), dO 6 (.notb (.t 5)), dO 7 (.mv (.t 6)), ⟨some 8, (some (7, false)), .fa 1 (.t 1)⟩, ⟨some 9, (some (7, false)), .ld (some 4) (.t 8)⟩, ⟨some 10, (some (7, false)), .callc n_tree_expr [.t 9, kI 8]⟩, ⟨some 11, (some (7, false)), .notb (.t 10)⟩, dO 12 (.pick (.t 7) kT (.t 11)), dO 2 (.tk (.t 12))])
 (.ret))) }
def c_tree_expr : AFunc :=
 { np := 2, res := [.t 4], body := (
 .seq (.reg [dO 2 (.box (.t 0)), dO 3 (.box (.t 1)), dO 4 (.tk kF)])
 (.seq (.reg [dO 9 (.fa 0 (.t 2)), dO 10 (.ld none (.t 9)), dO 11 (.callc n_tree_Parts [.t 10]), dO 8 (.mv (.t 11)), dO 12 (.ext (.t 8) 0), dO 13 (.ext (.t 8) 1), dO 5 (.tk (.t 12)), dO 6 (.tk (.t 13))])
 (.seq (.seq (.reg [dO 14 (.mv (.t 6)), dO 15 (.notb (.t 14)), dO 16 (.mv (.t 15)), ⟨some 17, (some (16, false)), .ld none (.t 3)⟩, ⟨some 18, (some (16, false)), .ic .eql (.t 17) (kI 0)⟩, dO 19 (.pick (.t 16) kT (.t 18)), dO 20 (.mv (.t 19)), ⟨some 21, (some (20, false)), .fa 3 (.t 2)⟩, ⟨some 22, (some (20, false)), .ld none (.t 21)⟩, ⟨some 23, (some (20, false)), .len false (.t 22)⟩, ⟨some 24, (some (20, false)), .mv (.t 5)⟩, ⟨some 25, (some (20, false)), .ic .neq (.t 23) (.t 24)⟩, dO 26 (.pick (.t 20) kT (.t 25))])
 (.cond (.t 26)
 (.seq (.reg [dO 4 (.tk kF)])
 (.ret))
 (.skip)))
 (.seq (.seq (.reg [dO 27 (.fa 0 (.t 2)), dO 28 (.ld none (.t 27)), dO 29 (.fa 1 (.t 2)), dO 30 (.ld none (.t 29)), dO 31 (.fa 2 (.t 2)), dO 32 (.ld none (.t 31)), dO 33 (.bld [iZ, iZ, .str [], .sl 4 []] [(0, 1, .t 28), (1, 1, .t 30), (2, 1, .t 32)]), dO 7 (.alloc [iZ, iZ, .str [], .own 4 []]), ⟨none, none, .st 4 (.t 7) (.t 33)⟩])
 (.seq (.reg [dO 34 (.fa 0 (.t 7)), dO 35 (.ld none (.t 34))])
 (.block 0 (.seq (.reg [dO 45 (.ic .eql (.t 35) (kI 1)), dO 44 (.tk (.t 45))])
 (.cond (.t 44)
 (.reg [dO 46 (.fa 1 (.t 7)), dO 47 (.ld none (.t 46)), dO 48 (.ic .geq (.t 47) (kI 0)), dO 49 (.mv (.t 48)), ⟨some 50, (some (49, true)), .fa 1 (.t 7)⟩, ⟨some 51, (some (49, true)), .ld none (.t 50)⟩, ⟨some 52, (some (49, true)), .ic .leq (.t 51) (kI 1000000000000)⟩, dO 53 (.pick (.t 49) (.t 52) kF), dO 54 (.mv (.t 53)), ⟨some 55, (some (54, true)), .fa 2 (.t 7)⟩, ⟨some 56, (some (54, true)), .ld none (.t 55)⟩, ⟨some 57, (some (54, true)), .sop .eql (.t 56) (kS [])⟩, dO 58 (.pick (.t 54) (.t 57) kF), dO 6 (.tk (.t 58))])
 (.seq (.reg [dO 60 (.ic .eql (.t 35) (kI 3)), dO 59 (.tk (.t 60))])
 (.cond (.t 59)
 (.reg [dO 61 (.fa 1 (.t 7)), dO 62 (.ld none (.t 61)), dO 63 (.ia .shr .i64 (.t 62) (.c (.int .u64 1))), dO 64 (.ic .eql (.t 63) (kI 0)), dO 65 (.mv (.t 64)), ⟨some 66, (some (65, true)), .fa 2 (.t 7)⟩, ⟨some 67, (some (65, true)), .ld none (.t 66)⟩, ⟨some 68, (some (65, true)), .sop .eql (.t 67) (kS [])⟩, dO 69 (.pick (.t 65) (.t 68) kF), dO 6 (.tk (.t 69))])
 (.seq (.reg [dO 71 (.ic .eql (.t 35) (kI 2)), dO 70 (.tk (.t 71))])
 (.cond (.t 70)
 (.reg [dO 72 (.fa 2 (.t 7)), dO 73 (.ld none (.t 72)), dO 74 (.len true (.t 73)), dO 75 (.ic .leq (.t 74) (kI 64)), dO 76 (.mv (.t 75)), ⟨some 77, (some (76, true)), .fa 1 (.t 7)⟩, ⟨some 78, (some (76, true)), .ld none (.t 77)⟩, ⟨some 79, (some (76, true)), .ic .eql (.t 78) (kI 0)⟩, dO 80 (.pick (.t 76) (.t 79) kF), dO 6 (.tk (.t 80))])
 (.seq (.reg [dO 82 (.ic .eql (.t 35) (kI 4)), dO 81 (.tk (.t 82))])
 (.cond (.t 81)
 (.reg [dO 83 (.fa 2 (.t 7)), dO 84 (.ld none (.t 83)), dO 85 (.callc n_lex_Name [.t 84]), dO 86 (.mv (.t 85)), ⟨some 87, (some (86, true)), .fa 1 (.t 7)⟩, ⟨some 88, (some (86, true)), .ld none (.t 87)⟩, ⟨some 89, (some (86, true)), .ic .eql (.t 88) (kI 0)⟩, dO 90 (.pick (.t 86) (.t 89) kF), dO 6 (.tk (.t 90))])
 (.reg [dO 36 (.fa 2 (.t 7)), dO 37 (.ld none (.t 36)), dO 38 (.sop .eql (.t 37) (kS [])), dO 39 (.mv (.t 38)), ⟨some 40, (some (39, true)), .fa 1 (.t 7)⟩, ⟨some 41, (some (39, true)), .ld none (.t 40)⟩, ⟨some 42, (some (39, true)), .ic .eql (.t 41) (kI 0)⟩, dO 43 (.pick (.t 39) (.t 42) kF), dO 6 (.tk (.t 43))]))))))))))))
 (.seq (.reg [dO 91 (.mv (.t 6)), dO 92 (.mv (.t 91)), ⟨some 93, (some (92, true)), .fa 3 (.t 2)⟩, ⟨some 94, (some (92, true)), .ld none (.t 93)⟩, ⟨some 95, (some (92, true)), .mkf (.func n_tree_expr_1) [] [.t 3]⟩, ⟨some 96, (some (92, true)), .call n_sC_Expr_api_Expr [.t 94, .t 95]⟩, ⟨some 97, (some (92, true)), .notb (.t 96)⟩, dO 98 (.pick (.t 92) (.t 97) kF), dO 4 (.tk (.t 98))])
 (.ret)))))) }
def c_tree_Right_3 : AFunc :=
 { np := 1, res := [.t 2], body := (
 .seq (.reg [dO 2 (.tk kF)])
 (.seq (.reg [dO 3 (.mv (.t 0)), dO 4 (.callc n_tree_block [.t 3, kI 1]), dO 5 (.notb (.t 4)), dO 2 (.tk (.t 5))])
 (.ret))) }
def c_tree_block : AFunc :=
 { np := 2, res := [.t 4], body := (
 .seq (.reg [dO 3 (.box (.t 1)), dO 4 (.tk kF)])
 (.seq (.reg [dO 5 (.mv (.t 0)), dO 6 (.mkf (.func n_tree_block_1) [] [.t 3]), dO 7 (.call n_sC_Stmt_api_Stmt_x [.t 5, .t 6]), dO 8 (.notb (.t 7)), dO 4 (.tk (.t 8))])
 (.ret))) }
def c_sC_Proc_api_Proc : AFunc :=
 { np := 2, res := [.t 4], body := (
 .seq (.reg [dO 4 (.tk kF)])
 (.seq (.reg [dO 5 (.mv (.t 0)), dO 6 (.mv (.t 1)), dO 7 (.call n_sI_Proc_api_Proc [.t 5, .t 6]), dO 8 (.ic .geq (.t 7) (kI 0)), dO 4 (.tk (.t 8))])
 (.ret))) }
def c_sC_Oracle_api_Oracle : AFunc :=
 { np := 2, res := [.t 4], body := (
 .seq (.reg [dO 4 (.tk kF)])
 (.seq (.reg [dO 5 (.mv (.t 0)), dO 6 (.mv (.t 1)), dO 7 (.call n_sI_Oracle_api_Oracle [.t 5, .t 6]), dO 8 (.ic .geq (.t 7) (kI 0)), dO 4 (.tk (.t 8))])
 (.ret))) }
def c_sC_Stmt_api_Stmt : AFunc :=
 { np := 2, res := [.t 4], body := (
 .seq (.reg [dO 4 (.tk kF)])
 (.seq (.reg [dO 5 (.mv (.t 0)), dO 6 (.mv (.t 1)), dO 7 (.call n_sI_Stmt_api_Stmt [.t 5, .t 6]), dO 8 (.ic .geq (.t 7) (kI 0)), dO 4 (.tk (.t 8))])
 (.ret))) }
def b_tree_parts_0 : AC :=
 .seq (.reg [dO 10 (.ic .lss (.t 9) (.t 8))])
 (.seq (.cond (.t 10)
 (.skip)
 (.exit 0))
 (.seq (.block 1 (.seq (.reg [dO 11 (.ixa 2 none (.t 7) (.t 9)), dO 12 (.ld (some 2) (.t 11)), dO 5 (.alloc [.str [], .own 7 []]), ⟨none, none, .st 2 (.t 5) (.t 12)⟩])
 (.reg [dO 13 (.tk (.t 3)), dO 14 (.fa 1 (.t 5)), dO 15 (.ld none (.t 14)), dO 16 (.bsl 1 [.sl 7 []] 1 [(0, 1, .t 15)] false), dO 17 (.app 1 24 (.t 13) (.t 16) false), dO 3 (.tk (.t 17))])))
 (.reg [dO 18 (.ia .add .i64 (.t 9) (kI 1)), dO 9 (.mv (.t 18))])))
def l_tree_parts_0 : AC :=
 .loop [1, 3, 7, 8, 9] b_tree_parts_0
def r_tree_parts_0 : AC :=
 .seq (.reg [dO 19 (.tk (.t 3)), dO 20 (.fa 1 (.t 1)), dO 21 (.ld none (.t 20)), dO 22 (.fa 2 (.t 1)), dO 23 (.ld none (.t 22)), dO 24 (.bsl 1 [.sl 7 []] 2 [(0, 1, .t 21), (1, 1, .t 23)] false), dO 25 (.app 1 24 (.t 19) (.t 24) false), dO 2 (.tk (.t 25))])
 (.ret)
def c_tree_parts : AFunc :=
 { np := 1, res := [.t 2], body := (
 .seq (.reg [dO 1 (.box (.t 0)), dO 2 (.tk (.c (.own 1 [])))])
 (.seq (.reg [dO 3 (.tk (.c (.own 1 [])))])
 (.seq (.seq (.reg [dO 6 (.fa 0 (.t 1)), dO 7 (.ld none (.t 6)), dO 8 (.len false (.t 7)), dO 9 (.mv (kI 0))])
 (.block 0 (l_tree_parts_0))) r_tree_parts_0))) }
def c_pp_whole : AFunc :=
 { np := 2, res := [.cell 4 (some 4)], body := (
 .seq (.reg [dO 4 (.alloc [iZ, iZ, .str [], .own 4 []])])
 (.seq (.reg [dO 9 (.mv (.t 0)), dO 10 (.nck (.t 9)), dO 11 (.fa 0 (.t 10)), dO 12 (.call n_pw_head [.t 11]), dO 5 (.alloc [iZ, .str [], iZ, iZ]), ⟨none, none, .st 4 (.t 5) (.t 12)⟩])
 (.seq (.reg [dO 13 (.mv (.t 0)), dO 14 (.call n_pp_expr [.t 13]), dO 6 (.alloc [iZ, iZ, .str [], .own 4 []]), ⟨none, none, .st 4 (.t 6) (.t 14)⟩])
 (.seq (.seq (.reg [dO 15 (.mv (.t 0)), dO 16 (.nck (.t 15)), dO 17 (.fa 0 (.t 16)), dO 18 (.fa 1 (.t 17)), dO 19 (.ld (some 2) (.t 18)), dO 20 (.bld [iZ, iZ] []), dO 21 (.eqa true [.int .i64, .int .i64] (.t 19) (.t 20))])
 (.cond (.t 21)
 (.seq (.reg [dO 22 (.ld (some 4) (.t 6)), ⟨none, none, .st 4 (.t 4) (.t 22)⟩])
 (.ret))
 (.skip)))
 (.seq (.reg [dO 24 (.mv (.t 0)), dO 25 (.nck (.t 24)), dO 26 (.fa 0 (.t 25)), dO 27 (.mv (.t 1)), dO 28 (.bsl 1 [.str []] 1 [(0, 1, .t 27)] false), dO 29 (.call n_pw_sees [.t 26, .t 28]), dO 23 (.mv (.t 29)), dO 30 (.ext (.t 23) 0), dO 31 (.ext (.t 23) 1), dO 7 (.tk (.t 30)), dO 8 (.tk (.t 31))])
 (.seq (.block 0 (.seq (.reg [dO 33 (.mv (.t 8)), dO 34 (.notb (.t 33)), dO 35 (.mv (.t 34)), ⟨some 36, (some (35, true)), .mv (.t 1)⟩, ⟨some 37, (some (35, true)), .sop .eql (.t 36) (kS [])⟩, ⟨some 38, (some (35, true)), .mv (.t 37)⟩, ⟨some 39, (some (38, true)), .mv (.t 0)⟩, ⟨some 40, (some (38, true)), .nck (.t 39)⟩, ⟨some 41, (some (38, true)), .fa 0 (.t 40)⟩, ⟨some 42, (some (38, true)), .call n_pw_head [.t 41]⟩, ⟨some 43, (some (38, true)), .fld none 0 (.t 42)⟩, ⟨some 44, (some (38, true)), .ic .eql (.t 43) (kI 0)⟩, ⟨some 45, (some (35, true)), .pick (.t 38) (.t 44) kF⟩, ⟨some 46, (some (35, true)), .notb (.t 45)⟩, dO 47 (.pick (.t 35) (.t 46) kF), dO 32 (.tk (.t 47))])
 (.cond (.t 32)
 (.drw [[], [], [], [], [], [], [], []] [dO 48 (.mv (.t 0)), dO 49 (.nck (.t 48)), dO 50 (.fa 0 (.t 49)), dO 51 (.mv (.t 0)), dO 52 (.nck (.t 51)), dO 53 (.fa 0 (.t 52)), dO 54 (.call n_pw_head [.t 53]), dO 55 (.call n_pw_fail [.t 50, kI 12, .t 54])])
 (.seq (.reg [dO 57 (.ld (some 4) (.t 6)), dO 58 (.callc n_parse_deep [.t 57]), dO 59 (.ic .gtr (.t 58) (kI 8)), dO 56 (.tk (.t 59))])
 (.cond (.t 56)
 (.drw [[], [], [], [], []] [dO 60 (.mv (.t 0)), dO 61 (.nck (.t 60)), dO 62 (.fa 0 (.t 61)), dO 63 (.ld (some 4) (.t 5)), dO 64 (.call n_pw_fail [.t 62, kI 14, .t 63])])
 (.skip))))))
 (.seq (.reg [dO 65 (.ld (some 4) (.t 6)), ⟨none, none, .st 4 (.t 4) (.t 65)⟩])
 (.ret)))))))) }
def b_r16_block_0 : AC :=
 .seq (.seq (.reg [dO 30 (.mv (.t 7)), dO 31 (.mv (.t 0)), dO 32 (.mv (.t 6)), dO 33 (.ixa 7 none (.t 31) (.t 32)), dO 34 (.fa 3 (.t 33)), dO 35 (.ld none (.t 34)), dO 36 (.len false (.t 35)), dO 37 (.ic .lss (.t 30) (.t 36))])
 (.cond (.t 37)
 (.skip)
 (.exit 2)))
 (.seq (.block 3 (.seq (.reg [dO 40 (.mv (.t 5)), dO 41 (.mv (.t 0)), dO 42 (.mv (.t 6)), dO 43 (.ixa 7 none (.t 41) (.t 42)), dO 44 (.fa 3 (.t 43)), dO 45 (.ld none (.t 44)), dO 46 (.mv (.t 7)), dO 47 (.ixa 4 none (.t 45) (.t 46)), dO 48 (.ld (some 4) (.t 47)), dO 49 (.mv (.t 1)), dO 50 (.mv (.t 5)), dO 51 (.ia .sub .i64 (.t 49) (.t 50)), dO 52 (.callc n_r16_expr [.t 48, .t 51]), dO 53 (.ia .add .i64 (.t 40) (.t 52)), dO 5 (.tk (.t 53))])
 (.seq (.reg [dO 54 (.mv (.t 5)), dO 55 (.mv (.t 1)), dO 56 (.ic .gtr (.t 54) (.t 55))])
 (.cond (.t 56)
 (.seq (.reg [dO 57 (.mv (.t 1)), dO 58 (.ia .add .i64 (.t 57) (kI 1)), dO 4 (.tk (.t 58))])
 (.ret))
 (.skip)))))
 (.reg [dO 38 (.mv (.t 7)), dO 39 (.ia .add .i64 (.t 38) (kI 1)), dO 7 (.tk (.t 39))]))
def l_r16_block_0 : AC :=
 .loop [0, 1, 5, 6, 7] b_r16_block_0
def r_r16_block_0 : AC :=
 .seq (.reg [dO 59 (.mv (.t 5)), dO 60 (.mv (.t 0)), dO 61 (.mv (.t 6)), dO 62 (.ixa 7 none (.t 60) (.t 61)), dO 63 (.fa 4 (.t 62)), dO 64 (.ld none (.t 63)), dO 65 (.mv (.t 1)), dO 66 (.mv (.t 5)), dO 67 (.ia .sub .i64 (.t 65) (.t 66)), dO 68 (.callc n_r16_block [.t 64, .t 67]), dO 69 (.ia .add .i64 (.t 59) (.t 68)), dO 5 (.tk (.t 69))])
 (.seq (.seq (.reg [dO 70 (.mv (.t 5)), dO 71 (.mv (.t 1)), dO 72 (.ic .gtr (.t 70) (.t 71))])
 (.cond (.t 72)
 (.seq (.reg [dO 73 (.mv (.t 1)), dO 74 (.ia .add .i64 (.t 73) (kI 1)), dO 4 (.tk (.t 74))])
 (.ret))
 (.skip)))
 (.seq (.reg [dO 75 (.mv (.t 5)), dO 76 (.mv (.t 0)), dO 77 (.mv (.t 6)), dO 78 (.ixa 7 none (.t 76) (.t 77)), dO 79 (.fa 5 (.t 78)), dO 80 (.ld none (.t 79)), dO 81 (.mv (.t 1)), dO 82 (.mv (.t 5)), dO 83 (.ia .sub .i64 (.t 81) (.t 82)), dO 84 (.callc n_r16_block [.t 80, .t 83]), dO 85 (.ia .add .i64 (.t 75) (.t 84)), dO 5 (.tk (.t 85))])
 (.seq (.reg [dO 86 (.mv (.t 5)), dO 87 (.mv (.t 1)), dO 88 (.ic .gtr (.t 86) (.t 87))])
 (.cond (.t 88)
 (.seq (.reg [dO 89 (.mv (.t 1)), dO 90 (.ia .add .i64 (.t 89) (kI 1)), dO 4 (.tk (.t 90))])
 (.ret))
 (.skip)))))
def r_r16_block_1 : AC :=
 .reg [dO 12 (.mv (.t 6)), dO 13 (.ia .add .i64 (.t 12) (kI 1)), dO 6 (.tk (.t 13))]
def b_r16_block_1 : AC :=
 .seq (.seq (.reg [dO 8 (.mv (.t 6)), dO 9 (.mv (.t 0)), dO 10 (.len false (.t 9)), dO 11 (.ic .lss (.t 8) (.t 10))])
 (.cond (.t 11)
 (.skip)
 (.exit 0)))
 (.seq (.block 1 (.seq (.reg [dO 14 (.mv (.t 5)), dO 15 (.ia .add .i64 (.t 14) (kI 1)), dO 5 (.tk (.t 15))])
 (.seq (.seq (.reg [dO 16 (.mv (.t 5)), dO 17 (.mv (.t 1)), dO 18 (.ic .gtr (.t 16) (.t 17)), dO 19 (.mv (.t 18)), ⟨some 20, (some (19, false)), .mv (.t 0)⟩, ⟨some 21, (some (19, false)), .mv (.t 6)⟩, ⟨some 22, (some (19, false)), .ixa 7 none (.t 20) (.t 21)⟩, ⟨some 23, (some (19, false)), .fa 1 (.t 22)⟩, ⟨some 24, (some (19, false)), .ld none (.t 23)⟩, ⟨some 25, (some (19, false)), .len true (.t 24)⟩, ⟨some 26, (some (19, false)), .ic .gtr (.t 25) (kI 300)⟩, dO 27 (.pick (.t 19) kT (.t 26))])
 (.cond (.t 27)
 (.seq (.reg [dO 28 (.mv (.t 1)), dO 29 (.ia .add .i64 (.t 28) (kI 1)), dO 4 (.tk (.t 29))])
 (.ret))
 (.skip)))
 (.seq (.seq (.reg [dO 7 (.tk (kI 0))])
 (.block 2 (l_r16_block_0))) r_r16_block_0)))) r_r16_block_1)
def l_r16_block_1 : AC :=
 .loop [0, 1, 5, 6] b_r16_block_1
def r_r16_block_2 : AC :=
 .seq (.reg [dO 91 (.mv (.t 5)), dO 4 (.tk (.t 91))])
 (.ret)
def c_r16_block : AFunc :=
 { np := 2, res := [.t 4], body := (
 .seq (.reg [dO 4 (.tk (kI 0))])
 (.seq (.reg [dO 5 (.tk (kI 0))])
 (.seq (.seq (.reg [dO 6 (.tk (kI 0))])
 (.block 0 (l_r16_block_1))) r_r16_block_2))) }
def b_r16_expr_0 : AC :=
 .seq (.seq (.reg [dO 17 (.mv (.t 6)), dO 18 (.fa 3 (.t 2)), dO 19 (.ld none (.t 18)), dO 20 (.len false (.t 19)), dO 21 (.ic .lss (.t 17) (.t 20))])
 (.cond (.t 21)
 (.skip)
 (.exit 0)))
 (.seq (.block 1 (.seq (.reg [dO 24 (.mv (.t 5)), dO 25 (.fa 3 (.t 2)), dO 26 (.ld none (.t 25)), dO 27 (.mv (.t 6)), dO 28 (.ixa 4 none (.t 26) (.t 27)), dO 29 (.ld (some 4) (.t 28)), dO 30 (.mv (.t 1)), dO 31 (.mv (.t 5)), dO 32 (.ia .sub .i64 (.t 30) (.t 31)), dO 33 (.callc n_r16_expr [.t 29, .t 32]), dO 34 (.ia .add .i64 (.t 24) (.t 33)), dO 5 (.tk (.t 34))])
 (.seq (.reg [dO 35 (.mv (.t 5)), dO 36 (.mv (.t 1)), dO 37 (.ic .gtr (.t 35) (.t 36))])
 (.cond (.t 37)
 (.seq (.reg [dO 38 (.mv (.t 1)), dO 39 (.ia .add .i64 (.t 38) (kI 1)), dO 4 (.tk (.t 39))])
 (.ret))
 (.skip)))))
 (.reg [dO 22 (.mv (.t 6)), dO 23 (.ia .add .i64 (.t 22) (kI 1)), dO 6 (.tk (.t 23))]))
def l_r16_expr_0 : AC :=
 .loop [1, 2, 5, 6] b_r16_expr_0
def r_r16_expr_0 : AC :=
 .seq (.reg [dO 40 (.mv (.t 5)), dO 4 (.tk (.t 40))])
 (.ret)
def c_r16_expr : AFunc :=
 { np := 2, res := [.t 4], body := (
 .seq (.reg [dO 2 (.box (.t 0)), dO 4 (.tk (kI 0))])
 (.seq (.seq (.reg [dO 7 (.mv (.t 1)), dO 8 (.ic .lss (.t 7) (kI 1)), dO 9 (.mv (.t 8)), ⟨some 10, (some (9, false)), .fa 2 (.t 2)⟩, ⟨some 11, (some (9, false)), .ld none (.t 10)⟩, ⟨some 12, (some (9, false)), .len true (.t 11)⟩, ⟨some 13, (some (9, false)), .ic .gtr (.t 12) (kI 300)⟩, dO 14 (.pick (.t 9) kT (.t 13))])
 (.cond (.t 14)
 (.seq (.reg [dO 15 (.mv (.t 1)), dO 16 (.ia .add .i64 (.t 15) (kI 1)), dO 4 (.tk (.t 16))])
 (.ret))
 (.skip)))
 (.seq (.reg [dO 5 (.tk (kI 1))])
 (.seq (.seq (.reg [dO 6 (.tk (kI 0))])
 (.block 0 (l_r16_expr_0))) r_r16_expr_0)))) }
def c_pq_stmt : AFunc :=
 { np := 3, res := [], body := (
 .seq (.reg [dO 4 (.box (.t 1))])
 (.seq (.reg [dO 6 (.mv (.t 0)), dO 7 (.fa 0 (.t 4)), dO 8 (.ld none (.t 7)), dO 9 (.callc n_print_key [.t 8]), dO 10 (.bsl 1 [.str []] 1 [(0, 1, .t 9)] false), dO 11 (.call n_pq_add [.t 6, .t 10])])
 (.seq (.seq (.reg [dO 12 (.fa 0 (.t 4)), dO 13 (.ld none (.t 12))])
 (.block 0 (.seq (.reg [dO 15 (.ic .eql (.t 13) (kI 12)), dO 14 (.tk (.t 15))])
 (.cond (.t 14)
 (.reg [dO 16 (.mv (.t 0)), dO 17 (.fa 1 (.t 4)), dO 18 (.ld none (.t 17)), dO 19 (.bsl 1 [.str []] 3 [(0, 1, kS [32]), (1, 1, .t 18), (2, 1, kS [32, 61])] false), dO 20 (.call n_pq_add [.t 16, .t 19])])
 (.seq (.reg [dO 22 (.ic .eql (.t 13) (kI 15)), dO 21 (.tk (.t 22))])
 (.cond (.t 21)
 (.reg [dO 23 (.mv (.t 0)), dO 24 (.fa 1 (.t 4)), dO 25 (.ld none (.t 24)), dO 26 (.bsl 1 [.str []] 2 [(0, 1, kS [32]), (1, 1, .t 25)] false), dO 27 (.call n_pq_add [.t 23, .t 26])])
 (.seq (.reg [dO 29 (.ic .eql (.t 13) (kI 14)), dO 28 (.tk (.t 29))])
 (.cond (.t 28)
 (.reg [dO 30 (.mv (.t 0)), dO 31 (.fa 2 (.t 4)), dO 32 (.ld none (.t 31)), dO 33 (.callc n_num_Digits [.t 32]), dO 34 (.bsl 1 [.str []] 2 [(0, 1, kS [32]), (1, 1, .t 33)] false), dO 35 (.call n_pq_add [.t 30, .t 34])])
 (.skip)))))))))
 (.seq (.reg [dO 36 (.mv (.t 0)), dO 37 (.fa 3 (.t 4)), dO 38 (.ld none (.t 37)), dO 39 (.call n_pq_exprs [.t 36, .t 38])])
 (.seq (.seq (.reg [dO 40 (.fa 0 (.t 4)), dO 41 (.ld none (.t 40))])
 (.block 1 (.seq (.seq (.reg [dO 43 (.ic .eql (.t 41) (kI 13)), dO 42 (.tk (.t 43))])
 (.cond (.t 42)
 (.skip)
 (.reg [dO 44 (.ic .eql (.t 41) (kI 14)), dO 42 (.tk (.t 44))])))
 (.cond (.t 42)
 (.seq (.reg [dO 45 (.mv (.t 0)), dO 46 (.fa 4 (.t 4)), dO 47 (.ld none (.t 46)), dO 48 (.mv (.t 2)), dO 49 (.call n_pq_block [.t 45, .t 47, .t 48])])
 (.seq (.seq (.reg [dO 50 (.fa 5 (.t 4)), dO 51 (.ld none (.t 50)), dO 52 (.len false (.t 51)), dO 53 (.ic .gtr (.t 52) (kI 0))])
 (.cond (.t 53)
 (.seq (.reg [dO 54 (.mv (.t 0)), dO 55 (.bsl 1 [.str []] 1 [(0, 1, kS [32, 101, 108, 115, 101])] false), dO 56 (.call n_pq_add [.t 54, .t 55])])
 (.reg [dO 57 (.mv (.t 0)), dO 58 (.fa 5 (.t 4)), dO 59 (.ld none (.t 58)), dO 60 (.mv (.t 2)), dO 61 (.call n_pq_block [.t 57, .t 59, .t 60])]))
 (.skip)))
 (.ret)))
 (.seq (.reg [dO 63 (.ic .eql (.t 41) (kI 16)), dO 62 (.tk (.t 63))])
 (.cond (.t 62)
 (.seq (.reg [dO 64 (.mv (.t 0)), dO 65 (.fa 4 (.t 4)), dO 66 (.ld none (.t 65)), dO 67 (.mv (.t 2)), dO 68 (.call n_pq_block [.t 64, .t 66, .t 67])])
 (.seq (.reg [dO 69 (.fa 6 (.t 4)), dO 70 (.ld none (.t 69))])
 (.cond (.t 70)
 (.reg [dO 71 (.mv (.t 0)), dO 72 (.bsl 1 [.str []] 1 [(0, 1, kS [32, 99, 111, 109, 109, 105, 116])] false), dO 73 (.call n_pq_add [.t 71, .t 72])])
 (.skip))))
 (.skip)))))))
 (.reg [dO 74 (.mv (.t 0)), dO 75 (.bsl 1 [.str []] 1 [(0, 1, kS [59])] false), dO 76 (.call n_pq_add [.t 74, .t 75])])))))) }
def c_print_strong : AFunc :=
 { np := 1, res := [.t 2], body := (
 .seq (.reg [dO 2 (.tk (kI 0))])
 (.seq (.seq (.reg [dO 3 (.mv (.t 0))])
 (.block 0 (.seq (.reg [dO 5 (.ic .eql (.t 3) (kI 14)), dO 4 (.tk (.t 5))])
 (.cond (.t 4)
 (.seq (.reg [dO 2 (.tk (kI 0))])
 (.ret))
 (.seq (.reg [dO 7 (.ic .eql (.t 3) (kI 13)), dO 6 (.tk (.t 7))])
 (.cond (.t 6)
 (.seq (.reg [dO 2 (.tk (kI 1))])
 (.ret))
 (.seq (.reg [dO 9 (.ic .eql (.t 3) (kI 8)), dO 8 (.tk (.t 9))])
 (.cond (.t 8)
 (.seq (.reg [dO 2 (.tk (kI 2))])
 (.ret))
 (.seq (.seq (.reg [dO 11 (.ic .eql (.t 3) (kI 11)), dO 10 (.tk (.t 11))])
 (.cond (.t 10)
 (.skip)
 (.reg [dO 12 (.ic .eql (.t 3) (kI 12)), dO 10 (.tk (.t 12))])))
 (.cond (.t 10)
 (.seq (.reg [dO 2 (.tk (kI 3))])
 (.ret))
 (.seq (.seq (.reg [dO 14 (.ic .eql (.t 3) (kI 9)), dO 13 (.tk (.t 14))])
 (.cond (.t 13)
 (.skip)
 (.reg [dO 15 (.ic .eql (.t 3) (kI 10)), dO 13 (.tk (.t 15))])))
 (.cond (.t 13)
 (.seq (.reg [dO 2 (.tk (kI 4))])
 (.ret))
 (.skip)))))))))))))
 (.seq (.reg [dO 2 (.tk (kI 5))])
 (.ret)))) }
def b_num_Digits_0 : AC :=
 .block 1 (.seq (.reg [dO 12 (.mv (.t 4)), dO 13 (.ia .sub .i64 (.t 12) (kI 1)), dO 4 (.tk (.t 13))])
 (.seq (.reg [dO 14 (.mv (.t 4)), dO 15 (.mv (.t 5)), dO 16 (.ia .rem .u64 (.t 15) (.c (.int .u64 10))), dO 17 (.ia .add .u64 (.c (.int .u64 48)) (.t 16)), dO 18 (.conv .u8 (.t 17)), dO 19 (.ixa 1 (some 20) (.t 3) (.t 14)), ⟨none, none, .st 1 (.t 19) (.t 18)⟩])
 (.seq (.reg [dO 20 (.mv (.t 5)), dO 21 (.ia .quo .u64 (.t 20) (.c (.int .u64 10))), dO 5 (.tk (.t 21))])
 (.seq (.reg [dO 22 (.mv (.t 5)), dO 23 (.ic .eql (.t 22) (.c (.int .u64 0)))])
 (.cond (.t 23)
 (.exit 0)
 (.skip))))))
def l_num_Digits_0 : AC :=
 .loop [0, 3, 4, 5] b_num_Digits_0
def r_num_Digits_0 : AC :=
 .seq (.seq (.reg [dO 24 (.mv (.t 0)), dO 25 (.ic .lss (.t 24) (kI 0))])
 (.cond (.t 25)
 (.seq (.reg [dO 26 (.mv (.t 4)), dO 27 (.ia .sub .i64 (.t 26) (kI 1)), dO 4 (.tk (.t 27))])
 (.reg [dO 28 (.mv (.t 4)), dO 29 (.ixa 1 (some 20) (.t 3) (.t 28)), ⟨none, none, .st 1 (.t 29) (.c (.int .u8 45))⟩]))
 (.skip)))
 (.seq (.reg [dO 30 (.mv (.t 4)), dO 31 (.slp 1 20 (.t 3) (some (.t 30)) none none), dO 32 (.b2s (.t 31)), dO 2 (.tk (.t 32))])
 (.ret))
def c_num_Digits : AFunc :=
 { np := 1, res := [.t 2], body := (
 .seq (.reg [dO 2 (.tk (kS []))])
 (.seq (.reg [dO 3 (.alloc [.int .u8 0, .int .u8 0, .int .u8 0, .int .u8 0, .int .u8 0, .int .u8 0, .int .u8 0, .int .u8 0, .int .u8 0, .int .u8 0, .int .u8 0, .int .u8 0, .int .u8 0, .int .u8 0, .int .u8 0, .int .u8 0, .int .u8 0, .int .u8 0, .int .u8 0, .int .u8 0])])
 (.seq (.reg [dO 4 (.tk (kI 20))])
 (.seq (.reg [dO 6 (.mv (.t 0)), dO 7 (.conv .u64 (.t 6)), dO 5 (.tk (.t 7))])
 (.seq (.seq (.reg [dO 8 (.mv (.t 0)), dO 9 (.ic .lss (.t 8) (kI 0))])
 (.cond (.t 9)
 (.reg [dO 10 (.mv (.t 5)), dO 11 (.neg .u64 (.t 10)), dO 5 (.tk (.t 11))])
 (.skip)))
 (.seq (.block 0 (l_num_Digits_0)) r_num_Digits_0)))))) }
def b_view_Quote_0 : AC :=
 .seq (.reg [dO 11 (.ic .lss (.t 10) (.t 9))])
 (.seq (.cond (.t 11)
 (.skip)
 (.exit 0))
 (.seq (.block 1 (.seq (.reg [dO 12 (.ixa 1 none (.t 8) (.t 10)), dO 13 (.ld none (.t 12)), dO 5 (.tk (.t 13))])
 (.seq (.seq (.reg [dO 14 (.mv (.t 5)), dO 15 (.callc n_view_plain [.t 14])])
 (.cond (.t 15)
 (.seq (.reg [dO 16 (.mv (.t 5)), dO 17 (.call n_pstrings_Builder_WriteByte [.t 3, .t 16])])
 (.exit 1))
 (.skip)))
 (.seq (.reg [dO 18 (.call n_pstrings_Builder_WriteByte [.t 3, (.c (.int .u8 92))])])
 (.seq (.reg [dO 19 (.mv (.t 5)), dO 20 (.ia .shr .u8 (.t 19) (.c (.int .u64 4))), dO 21 (.ixs (kS [48, 49, 50, 51, 52, 53, 54, 55, 56, 57, 97, 98, 99, 100, 101, 102]) (.t 20)), dO 22 (.call n_pstrings_Builder_WriteByte [.t 3, .t 21])])
 (.reg [dO 23 (.mv (.t 5)), dO 24 (.ia .and .u8 (.t 23) (.c (.int .u8 15))), dO 25 (.ixs (kS [48, 49, 50, 51, 52, 53, 54, 55, 56, 57, 97, 98, 99, 100, 101, 102]) (.t 24)), dO 26 (.call n_pstrings_Builder_WriteByte [.t 3, .t 25])]))))))
 (.reg [dO 27 (.ia .add .i64 (.t 10) (kI 1)), dO 10 (.mv (.t 27))])))
def l_view_Quote_0 : AC :=
 .loop [3, 8, 9, 10] b_view_Quote_0
def r_view_Quote_0 : AC :=
 .seq (.reg [dO 28 (.call n_pstrings_Builder_WriteByte [.t 3, (.c (.int .u8 34))])])
 (.seq (.reg [dO 29 (.call n_pstrings_Builder_String [.t 3]), dO 2 (.tk (.t 29))])
 (.ret))
def c_view_Quote : AFunc :=
 { np := 1, res := [.t 2], body := (
 .seq (.reg [dO 2 (.tk (kS []))])
 (.seq (.reg [dO 3 (.allocb bT bE)])
 (.seq (.reg [dO 6 (.call n_pstrings_Builder_WriteByte [.t 3, (.c (.int .u8 34))])])
 (.seq (.seq (.reg [dO 7 (.mv (.t 0)), dO 8 (.s2b (.t 7)), dO 9 (.len false (.t 8)), dO 10 (.mv (kI 0))])
 (.block 0 (l_view_Quote_0))) r_view_Quote_0)))) }
def c_print_call : AFunc :=
 { np := 1, res := [.t 2], body := (
 .seq (.reg [dO 2 (.tk (kS []))])
 (.seq (.seq (.reg [dO 3 (.mv (.t 0))])
 (.block 0 (.seq (.reg [dO 5 (.ic .eql (.t 3) (kI 5)), dO 4 (.tk (.t 5))])
 (.cond (.t 4)
 (.seq (.reg [dO 2 (.tk (kS [101, 120, 105, 115, 116, 115]))])
 (.ret))
 (.seq (.reg [dO 7 (.ic .eql (.t 3) (kI 6)), dO 6 (.tk (.t 7))])
 (.cond (.t 6)
 (.seq (.reg [dO 2 (.tk (kS [115, 105, 122, 101]))])
 (.ret))
 (.skip)))))))
 (.seq (.reg [dO 2 (.tk (kS [114, 101, 97, 100]))])
 (.ret)))) }
def c_print_sign : AFunc :=
 { np := 1, res := [.t 2], body := (
 .seq (.reg [dO 2 (.tk (kS []))])
 (.seq (.seq (.reg [dO 3 (.mv (.t 0))])
 (.block 0 (.seq (.reg [dO 5 (.ic .eql (.t 3) (kI 9)), dO 4 (.tk (.t 5))])
 (.cond (.t 4)
 (.seq (.reg [dO 2 (.tk (kS [32, 43, 32]))])
 (.ret))
 (.seq (.reg [dO 7 (.ic .eql (.t 3) (kI 10)), dO 6 (.tk (.t 7))])
 (.cond (.t 6)
 (.seq (.reg [dO 2 (.tk (kS [32, 45, 32]))])
 (.ret))
 (.seq (.reg [dO 9 (.ic .eql (.t 3) (kI 11)), dO 8 (.tk (.t 9))])
 (.cond (.t 8)
 (.seq (.reg [dO 2 (.tk (kS [32, 61, 61, 32]))])
 (.ret))
 (.seq (.reg [dO 11 (.ic .eql (.t 3) (kI 12)), dO 10 (.tk (.t 11))])
 (.cond (.t 10)
 (.seq (.reg [dO 2 (.tk (kS [32, 60, 32]))])
 (.ret))
 (.seq (.reg [dO 13 (.ic .eql (.t 3) (kI 13)), dO 12 (.tk (.t 13))])
 (.cond (.t 12)
 (.seq (.reg [dO 2 (.tk (kS [32, 97, 110, 100, 32]))])
 (.ret))
 (.skip)))))))))))))
 (.seq (.reg [dO 2 (.tk (kS [32, 111, 114, 32]))])
 (.ret)))) }
def b_lex_skip_0 : AC :=
 .block 1 (.seq (.reg [dO 4 (.mv (.t 0)), dO 5 (.callc n_strings_TrimLeft [.t 4, kS [32, 9, 10]]), dO 0 (.tk (.t 5))])
 (.seq (.seq (.reg [dO 6 (.mv (.t 0)), dO 7 (.callc n_strings_HasPrefix [.t 6, kS [35]]), dO 8 (.notb (.t 7))])
 (.cond (.t 8)
 (.seq (.reg [dO 9 (.mv (.t 0)), dO 2 (.tk (.t 9))])
 (.ret))
 (.skip)))
 (.seq (.reg [dO 10 (.mv (.t 0)), dO 11 (.callc n_strings_IndexByte [.t 10, (.c (.int .u8 10))]), dO 3 (.tk (.t 11))])
 (.seq (.seq (.reg [dO 12 (.mv (.t 3)), dO 13 (.ic .lss (.t 12) (kI 0))])
 (.cond (.t 13)
 (.seq (.reg [dO 2 (.tk (kS []))])
 (.ret))
 (.skip)))
 (.reg [dO 14 (.mv (.t 0)), dO 15 (.mv (.t 3)), dO 16 (.slc (.t 14) (some (.t 15)) none), dO 0 (.tk (.t 16))])))))
def l_lex_skip_0 : AC :=
 .loop [0] b_lex_skip_0
def c_lex_skip : AFunc :=
 { np := 1, res := [.t 2], body := (
 .seq (.reg [dO 2 (.tk (kS []))])
 (.block 0 (l_lex_skip_0))) }
def c_lex_next : AFunc :=
 { np := 1, res := [.cell 2 (some 4), .t 3, .t 4], body := (
 .seq (.reg [dO 2 (.alloc [iZ, .str [], iZ, iZ]), dO 3 (.tk (kI 0)), dO 4 (.tk (kI 0))])
 (.seq (.block 0 (.seq (.reg [dO 6 (.mv (.t 0)), dO 7 (.callc n_lex_begins [.t 6, (.c (.fn (.func n_lex_letter) [] []))]), dO 5 (.tk (.t 7))])
 (.cond (.t 5)
 (.seq (.reg [dO 8 (.mv (.t 0)), dO 9 (.callc n_lex_word [.t 8]), dO 10 (.ext (.t 9) 0), dO 11 (.ext (.t 9) 1), dO 12 (.ext (.t 9) 2), ⟨none, none, .st 4 (.t 2) (.t 10)⟩, dO 3 (.tk (.t 11)), dO 4 (.tk (.t 12))])
 (.ret))
 (.seq (.reg [dO 14 (.mv (.t 0)), dO 15 (.callc n_lex_begins [.t 14, (.c (.fn (.func n_lex_digit) [] []))]), dO 13 (.tk (.t 15))])
 (.cond (.t 13)
 (.seq (.reg [dO 16 (.mv (.t 0)), dO 17 (.callc n_lex_number [.t 16]), dO 18 (.ext (.t 17) 0), dO 19 (.ext (.t 17) 1), dO 20 (.ext (.t 17) 2), ⟨none, none, .st 4 (.t 2) (.t 18)⟩, dO 3 (.tk (.t 19)), dO 4 (.tk (.t 20))])
 (.ret))
 (.seq (.reg [dO 22 (.mv (.t 0)), dO 23 (.ixs (.t 22) (kI 0)), dO 24 (.ic .eql (.t 23) (.c (.int .u8 34))), dO 21 (.tk (.t 24))])
 (.cond (.t 21)
 (.seq (.reg [dO 25 (.mv (.t 0)), dO 26 (.callc n_lex_text [.t 25]), dO 27 (.ext (.t 26) 0), dO 28 (.ext (.t 26) 1), dO 29 (.ext (.t 26) 2), ⟨none, none, .st 4 (.t 2) (.t 27)⟩, dO 3 (.tk (.t 28)), dO 4 (.tk (.t 29))])
 (.ret))
 (.skip))))))))
 (.seq (.reg [dO 30 (.mv (.t 0)), dO 31 (.callc n_lex_sign [.t 30]), dO 32 (.ext (.t 31) 0), dO 33 (.ext (.t 31) 1), dO 34 (.ext (.t 31) 2), ⟨none, none, .st 4 (.t 2) (.t 32)⟩, dO 3 (.tk (.t 33)), dO 4 (.tk (.t 34))])
 (.ret)))) }
def c_pp_named : AFunc :=
 { np := 3, res := [.t 6, .t 7], body := (
 .seq (.reg [dO 6 (.tk (kS [])), dO 7 (.tk kF)])
 (.seq (.reg [dO 11 (.mv (.t 0)), dO 12 (.nck (.t 11)), dO 13 (.fa 0 (.t 12)), dO 14 (.call n_pw_head [.t 13]), dO 8 (.alloc [iZ, .str [], iZ, iZ]), ⟨none, none, .st 4 (.t 8) (.t 14)⟩])
 (.seq (.seq (.reg [dO 16 (.mv (.t 0)), dO 17 (.nck (.t 16)), dO 18 (.fa 0 (.t 17)), dO 19 (.mv (.t 1)), dO 20 (.bsl 1 [.str []] 1 [(0, 1, .t 19)] false), dO 21 (.call n_pw_takes [.t 18, .t 20]), dO 15 (.mv (.t 21)), dO 22 (.ext (.t 15) 0), dO 23 (.ext (.t 15) 1), dO 9 (.tk (.t 22)), dO 10 (.tk (.t 23))])
 (.seq (.reg [dO 24 (.mv (.t 10)), dO 25 (.notb (.t 24))])
 (.cond (.t 25)
 (.seq (.reg [dO 6 (.tk (kS [])), dO 7 (.tk kF)])
 (.ret))
 (.skip))))
 (.seq (.seq (.reg [dO 26 (.mv (.t 2)), dO 27 (.ic .eql (.t 26) (kI 16))])
 (.cond (.t 27)
 (.drw [[], [], [], [], []] [dO 28 (.mv (.t 0)), dO 29 (.nck (.t 28)), dO 30 (.fa 0 (.t 29)), dO 31 (.ld (some 4) (.t 8)), dO 32 (.call n_pw_fail [.t 30, kI 14, .t 31])])
 (.skip)))
 (.seq (.reg [dO 33 (.mv (.t 0)), dO 34 (.nck (.t 33)), dO 35 (.fa 0 (.t 34)), dO 36 (.call n_pw_of [.t 35, kI 1]), dO 37 (.fld none 1 (.t 36)), dO 6 (.tk (.t 37)), dO 7 (.tk kT)])
 (.ret)))))) }
def b_pp_block_0 : AC :=
 .seq (.seq (.reg [dO 12 (.mv (.t 0)), dO 13 (.nck (.t 12)), dO 14 (.fa 0 (.t 13)), dO 15 (.fa 1 (.t 14)), dO 16 (.ld (some 2) (.t 15)), dO 17 (.bld [iZ, iZ] []), dO 18 (.eqa false [.int .i64, .int .i64] (.t 16) (.t 17))])
 (.cond (.t 18)
 (.skip)
 (.exit 0)))
 (.block 1 (.seq (.seq (.reg [dO 20 (.mv (.t 0)), dO 21 (.nck (.t 20)), dO 22 (.fa 0 (.t 21)), dO 23 (.bsl 1 [.str []] 1 [(0, 1, kS [125])] false), dO 24 (.call n_pw_takes [.t 22, .t 23]), dO 19 (.mv (.t 24)), dO 25 (.ext (.t 19) 0), dO 26 (.ext (.t 19) 1), dO 6 (.tk (.t 25)), dO 7 (.tk (.t 26))])
 (.seq (.reg [dO 27 (.mv (.t 7))])
 (.cond (.t 27)
 (.exit 0)
 (.skip))))
 (.reg [dO 28 (.tk (.t 5)), dO 29 (.mv (.t 0)), dO 30 (.mv (.t 1)), dO 31 (.call n_pp_stmt [.t 29, .t 30]), dO 32 (.bsl 7 [iZ, .str [], iZ, .sl 4 [], .sl 7 [], .sl 7 [], .bool false] 1 [(0, 7, .t 31)] false), dO 33 (.app 7 112 (.t 28) (.t 32) false), dO 5 (.tk (.t 33))])))
def l_pp_block_0 : AC :=
 .loop [0, 1, 5] b_pp_block_0
def r_pp_block_0 : AC :=
 .seq (.reg [dO 34 (.tk (.t 5)), dO 4 (.tk (.t 34))])
 (.ret)
def c_pp_block : AFunc :=
 { np := 2, res := [.t 4], body := (
 .seq (.reg [dO 4 (.tk (.c (.own 7 [])))])
 (.seq (.reg [dO 5 (.tk (.c (.own 7 [])))])
 (.seq (.reg [dO 8 (.mv (.t 0)), dO 9 (.nck (.t 8)), dO 10 (.fa 0 (.t 9)), dO 11 (.call n_pw_wants [.t 10, kS [123]])])
 (.seq (.block 0 (l_pp_block_0)) r_pp_block_0)))) }
def c_pw_wants : AFunc :=
 { np := 2, res := [], body := (
 .seq (.reg [dO 7 (.mv (.t 0)), dO 8 (.mv (.t 1)), dO 9 (.bsl 1 [.str []] 1 [(0, 1, .t 8)] false), dO 10 (.call n_pw_takes [.t 7, .t 9]), dO 6 (.mv (.t 10)), dO 11 (.ext (.t 6) 0), dO 12 (.ext (.t 6) 1), dO 4 (.tk (.t 11)), dO 5 (.tk (.t 12))])
 (.seq (.reg [dO 13 (.mv (.t 5)), dO 14 (.notb (.t 13))])
 (.cond (.t 14)
 (.reg [dO 15 (.mv (.t 0)), dO 16 (.mv (.t 0)), dO 17 (.call n_pw_head [.t 16]), dO 18 (.call n_pw_fail [.t 15, kI 12, .t 17])])
 (.skip)))) }
def c_pw_takes : AFunc :=
 { np := 2, res := [.t 4, .t 5], body := (
 .seq (.reg [dO 4 (.tk (kS [])), dO 5 (.tk kF)])
 (.seq (.reg [dO 9 (.mv (.t 0)), dO 10 (.mv (.t 1)), dO 11 (.call n_pw_sees [.t 9, .t 10]), dO 8 (.mv (.t 11)), dO 12 (.ext (.t 8) 0), dO 13 (.ext (.t 8) 1), dO 6 (.tk (.t 12)), dO 7 (.tk (.t 13))])
 (.seq (.seq (.reg [dO 14 (.mv (.t 7))])
 (.cond (.t 14)
 (.reg [dO 15 (.mv (.t 0)), dO 16 (.call n_pw_skip [.t 15])])
 (.skip)))
 (.seq (.reg [dO 17 (.mv (.t 6)), dO 18 (.mv (.t 7)), dO 4 (.tk (.t 17)), dO 5 (.tk (.t 18))])
 (.ret))))) }
def c_pw_of : AFunc :=
 { np := 2, res := [.cell 4 (some 4)], body := (
 .seq (.reg [dO 4 (.alloc [iZ, .str [], iZ, iZ])])
 (.seq (.seq (.reg [dO 6 (.mv (.t 0)), dO 7 (.call n_pw_head [.t 6]), dO 5 (.alloc [iZ, .str [], iZ, iZ]), ⟨none, none, .st 4 (.t 5) (.t 7)⟩])
 (.seq (.reg [dO 8 (.fa 0 (.t 5)), dO 9 (.ld none (.t 8)), dO 10 (.mv (.t 1)), dO 11 (.ic .neq (.t 9) (.t 10))])
 (.cond (.t 11)
 (.seq (.reg [dO 12 (.mv (.t 0)), dO 13 (.ld (some 4) (.t 5)), dO 14 (.call n_pw_fail [.t 12, kI 12, .t 13])])
 (.seq (.reg [dO 15 (.bld [iZ, .str [], iZ, iZ] []), ⟨none, none, .st 4 (.t 4) (.t 15)⟩])
 (.ret)))
 (.skip))))
 (.seq (.reg [dO 16 (.mv (.t 0)), dO 17 (.call n_pw_skip [.t 16]), ⟨none, none, .st 4 (.t 4) (.t 17)⟩])
 (.ret)))) }
def b_r16_SameStmt_0 : AC :=
 .seq (.seq (.reg [dO 41 (.mv (.t 5)), dO 42 (.fa 3 (.t 2)), dO 43 (.ld none (.t 42)), dO 44 (.len false (.t 43)), dO 45 (.ic .lss (.t 41) (.t 44))])
 (.cond (.t 45)
 (.skip)
 (.exit 0)))
 (.seq (.block 1 (.seq (.drw [[], [], [], [], [], [], [], [], [], [], [], []] [dO 48 (.fa 3 (.t 2)), dO 49 (.ld none (.t 48)), dO 50 (.mv (.t 5)), dO 51 (.ixa 4 none (.t 49) (.t 50)), dO 52 (.ld (some 4) (.t 51)), dO 53 (.fa 3 (.t 3)), dO 54 (.ld none (.t 53)), dO 55 (.mv (.t 5)), dO 56 (.ixa 4 none (.t 54) (.t 55)), dO 57 (.ld (some 4) (.t 56)), dO 58 (.callc n_r16_SameExpr [.t 52, .t 57]), dO 59 (.notb (.t 58))])
 (.cond (.t 59)
 (.seq (.reg [dO 4 (.tk kF)])
 (.ret))
 (.skip))))
 (.reg [dO 46 (.mv (.t 5)), dO 47 (.ia .add .i64 (.t 46) (kI 1)), dO 5 (.tk (.t 47))]))
def l_r16_SameStmt_0 : AC :=
 .loop [2, 3, 5] b_r16_SameStmt_0
def r_r16_SameStmt_0 : AC :=
 .seq (.reg [dO 60 (.fa 4 (.t 2)), dO 61 (.ld none (.t 60)), dO 62 (.fa 4 (.t 3)), dO 63 (.ld none (.t 62)), dO 64 (.callc n_r16_SameStmts [.t 61, .t 63]), dO 65 (.mv (.t 64)), ⟨some 66, (some (65, true)), .fa 5 (.t 2)⟩, ⟨some 67, (some (65, true)), .ld none (.t 66)⟩, ⟨some 68, (some (65, true)), .fa 5 (.t 3)⟩, ⟨some 69, (some (65, true)), .ld none (.t 68)⟩, ⟨some 70, (some (65, true)), .callc n_r16_SameStmts [.t 67, .t 69]⟩, dO 71 (.pick (.t 65) (.t 70) kF), dO 4 (.tk (.t 71))])
 (.ret)
def c_r16_SameStmt : AFunc :=
 { np := 2, res := [.t 4], body := (
 .seq (.reg [dO 2 (.box (.t 0)), dO 3 (.box (.t 1)), dO 4 (.tk kF)])
 (.seq (.seq (.reg [dO 6 (.fa 0 (.t 2)), dO 7 (.ld none (.t 6)), dO 8 (.fa 0 (.t 3)), dO 9 (.ld none (.t 8)), dO 10 (.ic .neq (.t 7) (.t 9)), dO 11 (.mv (.t 10)), ⟨some 12, (some (11, false)), .fa 1 (.t 2)⟩, ⟨some 13, (some (11, false)), .ld none (.t 12)⟩, ⟨some 14, (some (11, false)), .fa 1 (.t 3)⟩, ⟨some 15, (some (11, false)), .ld none (.t 14)⟩, ⟨some 16, (some (11, false)), .sop .neq (.t 13) (.t 15)⟩, dO 17 (.pick (.t 11) kT (.t 16)), dO 18 (.mv (.t 17)), ⟨some 19, (some (18, false)), .fa 2 (.t 2)⟩, ⟨some 20, (some (18, false)), .ld none (.t 19)⟩, ⟨some 21, (some (18, false)), .fa 2 (.t 3)⟩, ⟨some 22, (some (18, false)), .ld none (.t 21)⟩, ⟨some 23, (some (18, false)), .ic .neq (.t 20) (.t 22)⟩, dO 24 (.pick (.t 18) kT (.t 23)), dO 25 (.mv (.t 24)), ⟨some 26, (some (25, false)), .fa 6 (.t 2)⟩, ⟨some 27, (some (25, false)), .ld none (.t 26)⟩, ⟨some 28, (some (25, false)), .fa 6 (.t 3)⟩, ⟨some 29, (some (25, false)), .ld none (.t 28)⟩, ⟨some 30, (some (25, false)), .eqb true (.t 27) (.t 29)⟩, dO 31 (.pick (.t 25) kT (.t 30)), dO 32 (.mv (.t 31)), ⟨some 33, (some (32, false)), .fa 3 (.t 2)⟩, ⟨some 34, (some (32, false)), .ld none (.t 33)⟩, ⟨some 35, (some (32, false)), .len false (.t 34)⟩, ⟨some 36, (some (32, false)), .fa 3 (.t 3)⟩, ⟨some 37, (some (32, false)), .ld none (.t 36)⟩, ⟨some 38, (some (32, false)), .len false (.t 37)⟩, ⟨some 39, (some (32, false)), .ic .neq (.t 35) (.t 38)⟩, dO 40 (.pick (.t 32) kT (.t 39))])
 (.cond (.t 40)
 (.seq (.reg [dO 4 (.tk kF)])
 (.ret))
 (.skip)))
 (.seq (.seq (.reg [dO 5 (.tk (kI 0))])
 (.block 0 (l_r16_SameStmt_0))) r_r16_SameStmt_0))) }
def c_tree_walk : AFunc :=
 { np := 1, res := [.t 2], body := (
 .seq (.reg [dO 1 (.box (.t 0)), dO 2 (.tk (.c (.nilf)))])
 (.seq (.reg [dO 3 (.mkf (.func n_tree_walk_1) [] [.t 1]), dO 2 (.tk (.t 3))])
 (.ret))) }
def c_tree_cloned : AFunc :=
 { np := 1, res := [.cell 2 (some 7)], body := (
 .seq (.reg [dO 1 (.box (.t 0)), dO 2 (.alloc [iZ, .str [], iZ, .own 4 [], .own 7 [], .own 7 [], .bool false])])
 (.seq (.reg [dO 3 (.fa 3 (.t 1)), dO 4 (.ld none (.t 3)), dO 5 (.callc n_tree_each_api_Expr [.t 4, (.c (.fn (.func n_tree_clonedExpr) [] []))]), dO 6 (.fa 3 (.t 1)), ⟨none, none, .st 1 (.t 6) (.t 5)⟩])
 (.seq (.reg [dO 7 (.fa 4 (.t 1)), dO 8 (.ld none (.t 7)), dO 9 (.callc n_tree_each_api_Stmt [.t 8, (.c (.fn (.func n_tree_cloned) [] []))]), dO 10 (.fa 4 (.t 1)), ⟨none, none, .st 1 (.t 10) (.t 9)⟩])
 (.seq (.reg [dO 11 (.fa 5 (.t 1)), dO 12 (.ld none (.t 11)), dO 13 (.callc n_tree_each_api_Stmt [.t 12, (.c (.fn (.func n_tree_cloned) [] []))]), dO 14 (.fa 5 (.t 1)), ⟨none, none, .st 1 (.t 14) (.t 13)⟩])
 (.seq (.reg [dO 15 (.ld (some 7) (.t 1)), ⟨none, none, .st 7 (.t 2) (.t 15)⟩])
 (.ret)))))) }
def c_lex_begins : AFunc :=
 { np := 2, res := [.t 4], body := (
 .seq (.reg [dO 4 (.tk kF)])
 (.seq (.reg [dO 5 (.mv (.t 0)), dO 6 (.sop .neq (.t 5) (kS [])), dO 7 (.mv (.t 6)), ⟨some 8, (some (7, true)), .mv (.t 1)⟩, ⟨some 9, (some (7, true)), .mv (.t 0)⟩, ⟨some 10, (some (7, true)), .ixs (.t 9) (kI 0)⟩, ⟨some 11, (some (7, true)), .conv .i32 (.t 10)⟩, ⟨some 12, (some (7, true)), .callv (.t 8) [.t 11]⟩, dO 13 (.pick (.t 7) (.t 12) kF), dO 4 (.tk (.t 13))])
 (.ret))) }
def c_lex_letter : AFunc :=
 { np := 1, res := [.t 2], body := (
 .seq (.reg [dO 2 (.tk kF)])
 (.seq (.reg [dO 3 (.mv (.t 0)), dO 4 (.ic .geq (.t 3) (.c (.int .i32 97))), dO 5 (.mv (.t 4)), ⟨some 6, (some (5, true)), .mv (.t 0)⟩, ⟨some 7, (some (5, true)), .ic .leq (.t 6) (.c (.int .i32 122))⟩, dO 8 (.pick (.t 5) (.t 7) kF), dO 2 (.tk (.t 8))])
 (.ret))) }
def c_lex_inner : AFunc :=
 { np := 1, res := [.t 2], body := (
 .seq (.reg [dO 2 (.tk kF)])
 (.seq (.reg [dO 3 (.mv (.t 0)), dO 4 (.callc n_lex_letter [.t 3]), dO 5 (.mv (.t 4)), ⟨some 6, (some (5, false)), .mv (.t 0)⟩, ⟨some 7, (some (5, false)), .callc n_lex_digit [.t 6]⟩, dO 8 (.pick (.t 5) kT (.t 7)), dO 9 (.mv (.t 8)), ⟨some 10, (some (9, false)), .mv (.t 0)⟩, ⟨some 11, (some (9, false)), .ic .eql (.t 10) (.c (.int .i32 95))⟩, dO 12 (.pick (.t 9) kT (.t 11)), dO 2 (.tk (.t 12))])
 (.ret))) }
def c_lex_Key : AFunc :=
 { np := 1, res := [.t 2], body := (
 .seq (.reg [dO 2 (.tk kF)])
 (.seq (.reg [dO 3 (.mv (.t 0)), dO 4 (.sop .neq (.t 3) (kS [])), dO 5 (.mv (.t 4)), ⟨some 6, (some (5, true)), .mv (.t 0)⟩, ⟨some 7, (some (5, true)), .callc n_strings_Contains [.t 6, kS [32]]⟩, ⟨some 8, (some (5, true)), .notb (.t 7)⟩, dO 9 (.pick (.t 5) (.t 8) kF), dO 10 (.mv (.t 9)), ⟨some 11, (some (10, true)), .mv (.t 0)⟩, ⟨some 12, (some (10, true)), .sop .add (kS [32]) (.t 11)⟩, ⟨some 13, (some (10, true)), .sop .add (.t 12) (kS [32])⟩, ⟨some 14, (some (10, true)), .callc n_strings_Contains [kS [32, 112, 114, 111, 99, 32, 109, 97, 105, 110, 32, 114, 101, 99, 111, 118, 101, 114, 32, 111, 114, 97, 99, 108, 101, 32, 99, 114, 101, 97, 116, 101, 32, 109, 107, 100, 105, 114, 32, 119, 114, 105, 116, 101, 32, 97, 112, 112, 101, 110, 100, 32, 116, 114, 117, 110, 99, 97, 116, 101, 32, 114, 101, 110, 97, 109, 101, 32, 117, 110, 108, 105, 110, 107, 32, 102, 115, 121, 110, 99, 32, 102, 100, 97, 116, 97, 115, 121, 110, 99, 32, 115, 121, 110, 99, 100, 105, 114, 32, 98, 97, 114, 114, 105, 101, 114, 32, 108, 101, 116, 32, 105, 102, 32, 101, 108, 115, 101, 32, 114, 101, 112, 101, 97, 116, 32, 99, 97, 108, 108, 32, 116, 120, 110, 32, 99, 111, 109, 109, 105, 116, 32, 114, 101, 112, 108, 97, 121, 32, 97, 115, 115, 101, 114, 116, 32, 101, 120, 105, 115, 116, 115, 32, 115, 105, 122, 101, 32, 114, 101, 97, 100, 32, 110, 111, 116, 32, 97, 110, 100, 32, 111, 114, 32, 116, 114, 117, 101, 32, 102, 97, 108, 115, 101, 32], .t 13]⟩, dO 15 (.pick (.t 10) (.t 14) kF), dO 2 (.tk (.t 15))])
 (.ret))) }
def c_tree_Parts : AFunc :=
 { np := 1, res := [.t 2, .t 3], body := (
 .seq (.reg [dO 2 (.tk (kI 0)), dO 3 (.tk kF)])
 (.seq (.block 0 (.seq (.reg [dO 5 (.mv (.t 0)), dO 6 (.ic .lss (.t 5) (kI 1)), dO 7 (.mv (.t 6)), ⟨some 8, (some (7, false)), .mv (.t 0)⟩, ⟨some 9, (some (7, false)), .ic .gtr (.t 8) (kI 14)⟩, dO 10 (.pick (.t 7) kT (.t 9)), dO 4 (.tk (.t 10))])
 (.cond (.t 4)
 (.seq (.reg [dO 2 (.tk (kI 0)), dO 3 (.tk kF)])
 (.ret))
 (.seq (.reg [dO 12 (.mv (.t 0)), dO 13 (.ic .leq (.t 12) (kI 4)), dO 11 (.tk (.t 13))])
 (.cond (.t 11)
 (.seq (.reg [dO 2 (.tk (kI 0)), dO 3 (.tk kT)])
 (.ret))
 (.seq (.reg [dO 15 (.mv (.t 0)), dO 16 (.ic .leq (.t 15) (kI 8)), dO 14 (.tk (.t 16))])
 (.cond (.t 14)
 (.seq (.reg [dO 2 (.tk (kI 1)), dO 3 (.tk kT)])
 (.ret))
 (.skip))))))))
 (.seq (.reg [dO 2 (.tk (kI 2)), dO 3 (.tk kT)])
 (.ret)))) }
def c_sC_Expr_api_Expr : AFunc :=
 { np := 2, res := [.t 4], body := (
 .seq (.reg [dO 4 (.tk kF)])
 (.seq (.reg [dO 5 (.mv (.t 0)), dO 6 (.mv (.t 1)), dO 7 (.call n_sI_Expr_api_Expr [.t 5, .t 6]), dO 8 (.ic .geq (.t 7) (kI 0)), dO 4 (.tk (.t 8))])
 (.ret))) }
def c_tree_expr_1 : AFunc :=
 { np := 2, res := [.t 3], body := (
 .seq (.reg [dO 2 (.box (.t 0)), dO 3 (.tk kF)])
 (.seq (.reg [dO 4 (.ld (some 4) (.t 2)), dO 5 (.ld none (.t 1)), dO 6 (.ia .sub .i64 (.t 5) (kI 1)), dO 7 (.callc n_tree_expr [.t 4, .t 6]), dO 8 (.notb (.t 7)), dO 3 (.tk (.t 8))])
 (.ret))) }
def c_sC_Stmt_api_Stmt_x : AFunc :=
 { np := 2, res := [.t 4], body := (
 .seq (.reg [dO 4 (.tk kF)])
 (.seq (.reg [dO 5 (.mv (.t 0)), dO 6 (.mv (.t 1)), dO 7 (.call n_sI_Stmt_api_Stmt_x [.t 5, .t 6]), dO 8 (.ic .geq (.t 7) (kI 0)), dO 4 (.tk (.t 8))])
 (.ret))) }
def c_tree_block_1 : AFunc :=
 { np := 2, res := [.t 3], body := (
 .seq (.reg [dO 2 (.box (.t 0)), dO 3 (.tk kF)])
 (.seq (.reg [dO 4 (.ld (some 7) (.t 2)), dO 5 (.ld none (.t 1)), dO 6 (.callc n_tree_stmt [.t 4, .t 5]), dO 7 (.notb (.t 6)), dO 3 (.tk (.t 7))])
 (.ret))) }
def c_tree_stmt : AFunc :=
 { np := 2, res := [.t 4], body := (
 .seq (.reg [dO 2 (.box (.t 0)), dO 4 (.tk kF)])
 (.seq (.seq (.reg [dO 6 (.mv (.t 1)), dO 7 (.ic .gtr (.t 6) (kI 8)), dO 8 (.mv (.t 7)), ⟨some 9, (some (8, false)), .ld (some 7) (.t 2)⟩, ⟨some 10, (some (8, false)), .callc n_tree_shape [.t 9]⟩, ⟨some 11, (some (8, false)), .notb (.t 10)⟩, dO 12 (.pick (.t 8) kT (.t 11))])
 (.cond (.t 12)
 (.seq (.reg [dO 4 (.tk kF)])
 (.ret))
 (.skip)))
 (.seq (.seq (.reg [dO 13 (.fa 0 (.t 2)), dO 14 (.ld none (.t 13)), dO 15 (.ic .eql (.t 14) (kI 16))])
 (.cond (.t 15)
 (.seq (.reg [dO 5 (.tk (.c (.fn (.func n_tree_stmt_1) [] [])))])
 (.seq (.reg [dO 16 (.fa 4 (.t 2)), dO 17 (.ld none (.t 16)), dO 18 (.len false (.t 17)), dO 19 (.ic .gtr (.t 18) (kI 8)), dO 20 (.mv (.t 19)), ⟨some 21, (some (20, false)), .fa 4 (.t 2)⟩, ⟨some 22, (some (20, false)), .ld none (.t 21)⟩, ⟨some 23, (some (20, false)), .mv (.t 5)⟩, ⟨some 24, (some (20, false)), .call n_sC_Stmt_api_Stmt_x [.t 22, .t 23]⟩, dO 25 (.pick (.t 20) kT (.t 24))])
 (.cond (.t 25)
 (.seq (.reg [dO 4 (.tk kF)])
 (.ret))
 (.skip))))
 (.skip)))
 (.seq (.reg [dO 26 (.fa 4 (.t 2)), dO 27 (.ld none (.t 26)), dO 28 (.mv (.t 1)), dO 29 (.ia .add .i64 (.t 28) (kI 1)), dO 30 (.callc n_tree_block [.t 27, .t 29]), dO 31 (.mv (.t 30)), ⟨some 32, (some (31, true)), .fa 5 (.t 2)⟩, ⟨some 33, (some (31, true)), .ld none (.t 32)⟩, ⟨some 34, (some (31, true)), .mv (.t 1)⟩, ⟨some 35, (some (31, true)), .ia .add .i64 (.t 34) (kI 1)⟩, ⟨some 36, (some (31, true)), .callc n_tree_block [.t 33, .t 35]⟩, dO 37 (.pick (.t 31) (.t 36) kF), dO 4 (.tk (.t 37))])
 (.ret))))) }
def b_sI_Proc_api_Proc_0 : AC :=
 .seq (.reg [dO 9 (.ic .lss (.t 8) (.t 7))])
 (.seq (.cond (.t 9)
 (.skip)
 (.exit 0))
 (.seq (.block 1 (.seq (.reg [dO 10 (.mv (.t 8)), dO 5 (.tk (.t 10))])
 (.seq (.reg [dO 11 (.mv (.t 1)), dO 12 (.mv (.t 0)), dO 13 (.mv (.t 5)), dO 14 (.ixa 2 none (.t 12) (.t 13)), dO 15 (.ld (some 2) (.t 14)), dO 16 (.callv (.t 11) [.t 15])])
 (.cond (.t 16)
 (.seq (.reg [dO 17 (.mv (.t 5)), dO 4 (.tk (.t 17))])
 (.ret))
 (.skip)))))
 (.reg [dO 18 (.ia .add .i64 (.t 8) (kI 1)), dO 8 (.mv (.t 18))])))
def l_sI_Proc_api_Proc_0 : AC :=
 .loop [0, 1, 7, 8] b_sI_Proc_api_Proc_0
def r_sI_Proc_api_Proc_0 : AC :=
 .seq (.reg [dO 4 (.tk (kI (-1)))])
 (.ret)
def c_sI_Proc_api_Proc : AFunc :=
 { np := 2, res := [.t 4], body := (
 .seq (.reg [dO 4 (.tk (kI 0))])
 (.seq (.seq (.reg [dO 6 (.mv (.t 0)), dO 7 (.len false (.t 6)), dO 8 (.mv (kI 0))])
 (.block 0 (l_sI_Proc_api_Proc_0))) r_sI_Proc_api_Proc_0)) }
def b_sI_Oracle_api_Oracle_0 : AC :=
 .seq (.reg [dO 9 (.ic .lss (.t 8) (.t 7))])
 (.seq (.cond (.t 9)
 (.skip)
 (.exit 0))
 (.seq (.block 1 (.seq (.reg [dO 10 (.mv (.t 8)), dO 5 (.tk (.t 10))])
 (.seq (.reg [dO 11 (.mv (.t 1)), dO 12 (.mv (.t 0)), dO 13 (.mv (.t 5)), dO 14 (.ixa 5 none (.t 12) (.t 13)), dO 15 (.ld (some 5) (.t 14)), dO 16 (.callv (.t 11) [.t 15])])
 (.cond (.t 16)
 (.seq (.reg [dO 17 (.mv (.t 5)), dO 4 (.tk (.t 17))])
 (.ret))
 (.skip)))))
 (.reg [dO 18 (.ia .add .i64 (.t 8) (kI 1)), dO 8 (.mv (.t 18))])))
def l_sI_Oracle_api_Oracle_0 : AC :=
 .loop [0, 1, 7, 8] b_sI_Oracle_api_Oracle_0
def r_sI_Oracle_api_Oracle_0 : AC :=
 .seq (.reg [dO 4 (.tk (kI (-1)))])
 (.ret)
def c_sI_Oracle_api_Oracle : AFunc :=
 { np := 2, res := [.t 4], body := (
 .seq (.reg [dO 4 (.tk (kI 0))])
 (.seq (.seq (.reg [dO 6 (.mv (.t 0)), dO 7 (.len false (.t 6)), dO 8 (.mv (kI 0))])
 (.block 0 (l_sI_Oracle_api_Oracle_0))) r_sI_Oracle_api_Oracle_0)) }
def b_sI_Stmt_api_Stmt_0 : AC :=
 .seq (.reg [dO 9 (.ic .lss (.t 8) (.t 7))])
 (.seq (.cond (.t 9)
 (.skip)
 (.exit 0))
 (.seq (.block 1 (.seq (.reg [dO 10 (.mv (.t 8)), dO 5 (.tk (.t 10))])
 (.seq (.reg [dO 11 (.mv (.t 1)), dO 12 (.mv (.t 0)), dO 13 (.mv (.t 5)), dO 14 (.ixa 1 none (.t 12) (.t 13)), dO 15 (.ld none (.t 14)), dO 16 (.callv (.t 11) [.t 15])])
 (.cond (.t 16)
 (.seq (.reg [dO 17 (.mv (.t 5)), dO 4 (.tk (.t 17))])
 (.ret))
 (.skip)))))
 (.reg [dO 18 (.ia .add .i64 (.t 8) (kI 1)), dO 8 (.mv (.t 18))])))
def l_sI_Stmt_api_Stmt_0 : AC :=
 .loop [0, 1, 7, 8] b_sI_Stmt_api_Stmt_0
def r_sI_Stmt_api_Stmt_0 : AC :=
 .seq (.reg [dO 4 (.tk (kI (-1)))])
 (.ret)
def c_sI_Stmt_api_Stmt : AFunc :=
 { np := 2, res := [.t 4], body := (
 .seq (.reg [dO 4 (.tk (kI 0))])
 (.seq (.seq (.reg [dO 6 (.mv (.t 0)), dO 7 (.len false (.t 6)), dO 8 (.mv (kI 0))])
 (.block 0 (l_sI_Stmt_api_Stmt_0))) r_sI_Stmt_api_Stmt_0)) }
def c_pw_head : AFunc :=
 { np := 1, res := [.cell 2 (some 4)], body := (
 .seq (.reg [dO 2 (.alloc [iZ, .str [], iZ, iZ])])
 (.seq (.reg [dO 3 (.mv (.t 0)), dO 4 (.nck (.t 3)), dO 5 (.fa 0 (.t 4)), dO 6 (.ld none (.t 5)), dO 7 (.ixa 4 none (.t 6) (kI 0)), dO 8 (.ld (some 4) (.t 7)), ⟨none, none, .st 4 (.t 2) (.t 8)⟩])
 (.ret))) }
def c_pp_expr : AFunc :=
 { np := 1, res := [.cell 2 (some 4)], body := (
 .seq (.reg [dO 2 (.alloc [iZ, iZ, .str [], .own 4 []])])
 (.seq (.reg [dO 3 (.mv (.t 0)), dO 4 (.mv (.t 0)), dO 5 (.mkf (.func n_pp_both) [.t 4] []), dO 6 (.bsl 1 [.str []] 1 [(0, 1, kS [111, 114])] false), dO 7 (.call n_pp_chain [.t 3, .t 5, kI 4096, .t 6]), ⟨none, none, .st 4 (.t 2) (.t 7)⟩])
 (.ret))) }
def b_pw_sees_0 : AC :=
 .seq (.reg [dO 22 (.ic .lss (.t 21) (.t 20))])
 (.seq (.cond (.t 22)
 (.skip)
 (.exit 0))
 (.seq (.block 1 (.seq (.reg [dO 23 (.ixa 1 none (.t 19) (.t 21)), dO 24 (.ld none (.t 23)), dO 8 (.tk (.t 24))])
 (.seq (.reg [dO 25 (.fa 1 (.t 6)), dO 26 (.ld none (.t 25)), dO 27 (.mv (.t 8)), dO 28 (.sop .eql (.t 26) (.t 27))])
 (.cond (.t 28)
 (.seq (.reg [dO 29 (.mv (.t 8)), dO 4 (.tk (.t 29)), dO 5 (.tk kT)])
 (.ret))
 (.skip)))))
 (.reg [dO 30 (.ia .add .i64 (.t 21) (kI 1)), dO 21 (.mv (.t 30))])))
def l_pw_sees_0 : AC :=
 .loop [6, 19, 20, 21] b_pw_sees_0
def r_pw_sees_0 : AC :=
 .seq (.reg [dO 4 (.tk (kS [])), dO 5 (.tk kF)])
 (.ret)
def c_pw_sees : AFunc :=
 { np := 2, res := [.t 4, .t 5], body := (
 .seq (.reg [dO 4 (.tk (kS [])), dO 5 (.tk kF)])
 (.seq (.reg [dO 9 (.mv (.t 0)), dO 10 (.call n_pw_head [.t 9]), dO 6 (.alloc [iZ, .str [], iZ, iZ]), ⟨none, none, .st 4 (.t 6) (.t 10)⟩])
 (.seq (.seq (.reg [dO 11 (.fa 0 (.t 6)), dO 12 (.ld none (.t 11)), dO 13 (.ic .neq (.t 12) (kI 4)), dO 14 (.mv (.t 13)), ⟨some 15, (some (14, true)), .fa 0 (.t 6)⟩, ⟨some 16, (some (14, true)), .ld none (.t 15)⟩, ⟨some 17, (some (14, true)), .ic .neq (.t 16) (kI 5)⟩, dO 18 (.pick (.t 14) (.t 17) kF)])
 (.cond (.t 18)
 (.seq (.reg [dO 4 (.tk (kS [])), dO 5 (.tk kF)])
 (.ret))
 (.skip)))
 (.seq (.seq (.reg [dO 19 (.mv (.t 1)), dO 20 (.len false (.t 19)), dO 21 (.mv (kI 0))])
 (.block 0 (l_pw_sees_0))) r_pw_sees_0)))) }
def c_pw_fail : AFunc :=
 { np := 3, res := [], body := (
 .seq (.reg [dO 5 (.box (.t 2))])
 (.seq (.seq (.reg [dO 6 (.mv (.t 0)), dO 7 (.nck (.t 6)), dO 8 (.fa 1 (.t 7)), dO 9 (.ld (some 2) (.t 8)), dO 10 (.bld [iZ, iZ] []), dO 11 (.eqa false [.int .i64, .int .i64] (.t 9) (.t 10))])
 (.cond (.t 11)
 (.reg [dO 12 (.mv (.t 0)), dO 13 (.mv (.t 1)), dO 14 (.fa 3 (.t 5)), dO 15 (.ld none (.t 14)), dO 16 (.bld [iZ, iZ] [(0, 1, .t 13), (1, 1, .t 15)]), dO 17 (.nck (.t 12)), dO 18 (.fa 1 (.t 17)), ⟨none, none, .st 2 (.t 18) (.t 16)⟩])
 (.skip)))
 (.reg [dO 19 (.mv (.t 0)), dO 20 (.bld [iZ, .str [], iZ, iZ] []), dO 21 (.bsl 4 [iZ, .str [], iZ, iZ] 1 [(0, 4, .t 20)] false), dO 22 (.nck (.t 19)), dO 23 (.fa 0 (.t 22)), ⟨none, none, .st 1 (.t 23) (.t 21)⟩]))) }
def b_parse_deep_0 : AC :=
 .seq (.reg [dO 10 (.ic .lss (.t 9) (.t 8))])
 (.seq (.cond (.t 10)
 (.skip)
 (.exit 0))
 (.seq (.block 1 (.seq (.reg [dO 11 (.ixa 4 none (.t 7) (.t 9)), dO 12 (.ld (some 4) (.t 11)), dO 5 (.alloc [iZ, iZ, .str [], .own 4 []]), ⟨none, none, .st 4 (.t 5) (.t 12)⟩])
 (.reg [dO 13 (.mv (.t 3)), dO 14 (.ld (some 4) (.t 5)), dO 15 (.callc n_parse_deep [.t 14]), dO 16 (.mx true [.t 13, .t 15]), dO 3 (.tk (.t 16))])))
 (.reg [dO 17 (.ia .add .i64 (.t 9) (kI 1)), dO 9 (.mv (.t 17))])))
def l_parse_deep_0 : AC :=
 .loop [3, 7, 8, 9] b_parse_deep_0
def r_parse_deep_0 : AC :=
 .seq (.reg [dO 18 (.mv (.t 3)), dO 19 (.ia .add .i64 (.t 18) (kI 1)), dO 2 (.tk (.t 19))])
 (.ret)
def c_parse_deep : AFunc :=
 { np := 1, res := [.t 2], body := (
 .seq (.reg [dO 1 (.box (.t 0)), dO 2 (.tk (kI 0))])
 (.seq (.reg [dO 3 (.tk (kI 0))])
 (.seq (.seq (.reg [dO 6 (.fa 3 (.t 1)), dO 7 (.ld none (.t 6)), dO 8 (.len false (.t 7)), dO 9 (.mv (kI 0))])
 (.block 0 (l_parse_deep_0))) r_parse_deep_0))) }
def c_strings_HasPrefix : AFunc :=
 { np := 2, res := [.t 4], body := (
 .seq (.reg [dO 4 (.tk kF)])
 (.seq (.reg [dO 5 (.mv (.t 0)), dO 6 (.mv (.t 1)), dO 7 (.callc n_isl_HasPrefix [.t 5, .t 6]), dO 4 (.tk (.t 7))])
 (.ret))) }
def c_print_key : AFunc :=
 { np := 1, res := [.t 2], body := (
 .seq (.reg [dO 2 (.tk (kS []))])
 (.seq (.reg [dO 4 (.callc n_strings_Fields [kS [99, 114, 101, 97, 116, 101, 32, 109, 107, 100, 105, 114, 32, 119, 114, 105, 116, 101, 32, 97, 112, 112, 101, 110, 100, 32, 116, 114, 117, 110, 99, 97, 116, 101, 32, 114, 101, 110, 97, 109, 101, 32, 117, 110, 108, 105, 110, 107, 32, 102, 115, 121, 110, 99, 32, 102, 100, 97, 116, 97, 115, 121, 110, 99, 32, 115, 121, 110, 99, 100, 105, 114, 32, 98, 97, 114, 114, 105, 101, 114, 32, 108, 101, 116, 32, 105, 102, 32, 114, 101, 112, 101, 97, 116, 32, 99, 97, 108, 108, 32, 116, 120, 110, 32, 114, 101, 112, 108, 97, 121, 32, 97, 115, 115, 101, 114, 116]]), dO 3 (.tk (.t 4))])
 (.seq (.reg [dO 5 (.mv (.t 3)), dO 6 (.mv (.t 0)), dO 7 (.ia .sub .i64 (.t 6) (kI 1)), dO 8 (.ixa 1 none (.t 5) (.t 7)), dO 9 (.ld none (.t 8)), dO 2 (.tk (.t 9))])
 (.ret)))) }
def b_pq_exprs_0 : AC :=
 .seq (.reg [dO 9 (.ic .lss (.t 8) (.t 7))])
 (.seq (.cond (.t 9)
 (.skip)
 (.exit 0))
 (.seq (.block 1 (.seq (.reg [dO 10 (.mv (.t 8)), dO 11 (.ixa 4 none (.t 6) (.t 8)), dO 12 (.ld (some 4) (.t 11)), dO 5 (.alloc [iZ, iZ, .str [], .own 4 []]), dO 4 (.tk (.t 10)), ⟨none, none, .st 4 (.t 5) (.t 12)⟩])
 (.seq (.seq (.reg [dO 13 (.mv (.t 4)), dO 14 (.ic .gtr (.t 13) (kI 0))])
 (.cond (.t 14)
 (.reg [dO 15 (.mv (.t 0)), dO 16 (.bsl 1 [.str []] 1 [(0, 1, kS [44])] false), dO 17 (.call n_pq_add [.t 15, .t 16])])
 (.skip)))
 (.seq (.reg [dO 18 (.mv (.t 0)), dO 19 (.bsl 1 [.str []] 1 [(0, 1, kS [32])] false), dO 20 (.call n_pq_add [.t 18, .t 19])])
 (.reg [dO 21 (.mv (.t 0)), dO 22 (.ld (some 4) (.t 5)), dO 23 (.call n_pq_expr [.t 21, .t 22, kI 0])])))))
 (.reg [dO 24 (.ia .add .i64 (.t 8) (kI 1)), dO 8 (.mv (.t 24))])))
def l_pq_exprs_0 : AC :=
 .loop [0, 6, 7, 8] b_pq_exprs_0
def c_pq_exprs : AFunc :=
 { np := 2, res := [], body := (
 .seq (.reg [dO 6 (.mv (.t 1)), dO 7 (.len false (.t 6)), dO 8 (.mv (kI 0))])
 (.block 0 (l_pq_exprs_0))) }
def c_view_plain : AFunc :=
 { np := 1, res := [.t 2], body := (
 .seq (.reg [dO 2 (.tk kF)])
 (.seq (.reg [dO 3 (.mv (.t 0)), dO 4 (.ic .geq (.t 3) (.c (.int .u8 32))), dO 5 (.mv (.t 4)), ⟨some 6, (some (5, true)), .mv (.t 0)⟩, ⟨some 7, (some (5, true)), .ic .leq (.t 6) (.c (.int .u8 126))⟩, dO 8 (.pick (.t 5) (.t 7) kF), dO 9 (.mv (.t 8)), ⟨some 10, (some (9, true)), .mv (.t 0)⟩, ⟨some 11, (some (9, true)), .ic .neq (.t 10) (.c (.int .u8 34))⟩, dO 12 (.pick (.t 9) (.t 11) kF), dO 13 (.mv (.t 12)), ⟨some 14, (some (13, true)), .mv (.t 0)⟩, ⟨some 15, (some (13, true)), .ic .neq (.t 14) (.c (.int .u8 92))⟩, dO 16 (.pick (.t 13) (.t 15) kF), dO 2 (.tk (.t 16))])
 (.ret))) }
def c_lex_word : AFunc :=
 { np := 1, res := [.cell 2 (some 4), .t 3, .t 4], body := (
 .seq (.reg [dO 2 (.alloc [iZ, .str [], iZ, iZ]), dO 3 (.tk (kI 0)), dO 4 (.tk (kI 0))])
 (.seq (.reg [dO 6 (.mv (.t 0)), dO 7 (.callc n_lex_run [.t 6, (.c (.fn (.func n_lex_inner) [] []))]), dO 5 (.tk (.t 7))])
 (.seq (.block 0 (.seq (.reg [dO 9 (.mv (.t 5)), dO 10 (.callc n_lex_Key [.t 9]), dO 8 (.tk (.t 10))])
 (.cond (.t 8)
 (.seq (.reg [dO 11 (.mv (.t 5)), dO 12 (.bld [iZ, .str [], iZ, iZ] [(0, 1, kI 4), (1, 1, .t 11)]), dO 13 (.mv (.t 5)), dO 14 (.len true (.t 13)), ⟨none, none, .st 4 (.t 2) (.t 12)⟩, dO 3 (.tk (.t 14)), dO 4 (.tk (kI 0))])
 (.ret))
 (.seq (.reg [dO 16 (.mv (.t 5)), dO 17 (.callc n_lex_Name [.t 16]), dO 15 (.tk (.t 17))])
 (.cond (.t 15)
 (.seq (.reg [dO 18 (.mv (.t 5)), dO 19 (.bld [iZ, .str [], iZ, iZ] [(0, 1, kI 1), (1, 1, .t 18)]), dO 20 (.mv (.t 5)), dO 21 (.len true (.t 20)), ⟨none, none, .st 4 (.t 2) (.t 19)⟩, dO 3 (.tk (.t 21)), dO 4 (.tk (kI 0))])
 (.ret))
 (.skip))))))
 (.seq (.reg [dO 22 (.bld [iZ, .str [], iZ, iZ] []), ⟨none, none, .st 4 (.t 2) (.t 22)⟩, dO 3 (.tk (kI 0)), dO 4 (.tk (kI 14))])
 (.ret))))) }
def c_lex_digit : AFunc :=
 { np := 1, res := [.t 2], body := (
 .seq (.reg [dO 2 (.tk kF)])
 (.seq (.reg [dO 3 (.mv (.t 0)), dO 4 (.ic .geq (.t 3) (.c (.int .i32 48))), dO 5 (.mv (.t 4)), ⟨some 6, (some (5, true)), .mv (.t 0)⟩, ⟨some 7, (some (5, true)), .ic .leq (.t 6) (.c (.int .i32 57))⟩, dO 8 (.pick (.t 5) (.t 7) kF), dO 2 (.tk (.t 8))])
 (.ret))) }
def c_lex_number : AFunc :=
 { np := 1, res := [.cell 2 (some 4), .t 3, .t 4], body := (
 .seq (.reg [dO 2 (.alloc [iZ, .str [], iZ, iZ]), dO 3 (.tk (kI 0)), dO 4 (.tk (kI 0))])
 (.seq (.reg [dO 8 (.mv (.t 0)), dO 9 (.callc n_lex_run [.t 8, (.c (.fn (.func n_lex_digit) [] []))]), dO 5 (.tk (.t 9))])
 (.seq (.reg [dO 11 (.mv (.t 5)), dO 12 (.callc n_num_Read [.t 11]), dO 10 (.mv (.t 12)), dO 13 (.ext (.t 10) 0), dO 14 (.ext (.t 10) 1), dO 6 (.tk (.t 13)), dO 7 (.tk (.t 14))])
 (.seq (.seq (.reg [dO 15 (.mv (.t 7)), dO 16 (.notb (.t 15))])
 (.cond (.t 16)
 (.seq (.reg [dO 17 (.bld [iZ, .str [], iZ, iZ] []), ⟨none, none, .st 4 (.t 2) (.t 17)⟩, dO 3 (.tk (kI 0)), dO 4 (.tk (kI 12))])
 (.ret))
 (.skip)))
 (.seq (.reg [dO 18 (.mv (.t 6)), dO 19 (.bld [iZ, .str [], iZ, iZ] [(0, 1, kI 2), (2, 1, .t 18)]), dO 20 (.mv (.t 5)), dO 21 (.len true (.t 20)), ⟨none, none, .st 4 (.t 2) (.t 19)⟩, dO 3 (.tk (.t 21)), dO 4 (.tk (kI 0))])
 (.ret)))))) }
def c_lex_text : AFunc :=
 { np := 1, res := [.cell 2 (some 4), .t 3, .t 4], body := (
 .seq (.reg [dO 2 (.alloc [iZ, .str [], iZ, iZ]), dO 3 (.tk (kI 0)), dO 4 (.tk (kI 0))])
 (.seq (.drw [[], [], [], [], [], []] [dO 8 (.mv (.t 0)), dO 9 (.slc (.t 8) (some (kI 1)) none), dO 10 (.mv (.t 0)), dO 11 (.ixs (.t 10) (kI 0)), dO 12 (.callc n_strings_IndexByte [.t 9, .t 11]), dO 5 (.tk (.t 12))])
 (.seq (.seq (.reg [dO 13 (.mv (.t 5)), dO 14 (.ic .lss (.t 13) (kI 0))])
 (.cond (.t 14)
 (.seq (.reg [dO 15 (.bld [iZ, .str [], iZ, iZ] []), ⟨none, none, .st 4 (.t 2) (.t 15)⟩, dO 3 (.tk (kI 0)), dO 4 (.tk (kI 12))])
 (.ret))
 (.skip)))
 (.seq (.reg [dO 17 (.mv (.t 0)), dO 18 (.mv (.t 5)), dO 19 (.ia .add .i64 (.t 18) (kI 2)), dO 20 (.slc (.t 17) none (some (.t 19))), dO 21 (.callc n_view_Unquote [.t 20]), dO 16 (.mv (.t 21)), dO 22 (.ext (.t 16) 0), dO 23 (.ext (.t 16) 1), dO 6 (.tk (.t 22)), dO 7 (.tk (.t 23))])
 (.seq (.block 0 (.seq (.reg [dO 25 (.mv (.t 7)), dO 26 (.notb (.t 25)), dO 24 (.tk (.t 26))])
 (.cond (.t 24)
 (.seq (.reg [dO 27 (.bld [iZ, .str [], iZ, iZ] []), ⟨none, none, .st 4 (.t 2) (.t 27)⟩, dO 3 (.tk (kI 0)), dO 4 (.tk (kI 12))])
 (.ret))
 (.seq (.reg [dO 29 (.mv (.t 6)), dO 30 (.len true (.t 29)), dO 31 (.ic .gtr (.t 30) (kI 64)), dO 28 (.tk (.t 31))])
 (.cond (.t 28)
 (.seq (.reg [dO 32 (.bld [iZ, .str [], iZ, iZ] []), ⟨none, none, .st 4 (.t 2) (.t 32)⟩, dO 3 (.tk (kI 0)), dO 4 (.tk (kI 14))])
 (.ret))
 (.skip))))))
 (.seq (.reg [dO 33 (.mv (.t 6)), dO 34 (.bld [iZ, .str [], iZ, iZ] [(0, 1, kI 3), (1, 1, .t 33)]), dO 35 (.mv (.t 5)), dO 36 (.ia .add .i64 (.t 35) (kI 2)), ⟨none, none, .st 4 (.t 2) (.t 34)⟩, dO 3 (.tk (.t 36)), dO 4 (.tk (kI 0))])
 (.ret))))))) }
def c_lex_sign : AFunc :=
 { np := 1, res := [.cell 2 (some 4), .t 3, .t 4], body := (
 .seq (.reg [dO 2 (.alloc [iZ, .str [], iZ, iZ]), dO 3 (.tk (kI 0)), dO 4 (.tk (kI 0))])
 (.seq (.block 0 (.seq (.reg [dO 6 (.mv (.t 0)), dO 7 (.callc n_strings_HasPrefix [.t 6, kS [61, 61]]), dO 5 (.tk (.t 7))])
 (.cond (.t 5)
 (.seq (.reg [dO 8 (.bld [iZ, .str [], iZ, iZ] [(0, 1, kI 5), (1, 1, kS [61, 61])]), ⟨none, none, .st 4 (.t 2) (.t 8)⟩, dO 3 (.tk (kI 2)), dO 4 (.tk (kI 0))])
 (.ret))
 (.seq (.reg [dO 10 (.mv (.t 0)), dO 11 (.ixs (.t 10) (kI 0)), dO 12 (.callc n_strings_IndexByte [kS [123, 125, 40, 41, 59, 44, 58, 43, 45, 60, 61], .t 11]), dO 13 (.ic .geq (.t 12) (kI 0)), dO 9 (.tk (.t 13))])
 (.cond (.t 9)
 (.seq (.reg [dO 14 (.mv (.t 0)), dO 15 (.slc (.t 14) none (some (kI 1))), dO 16 (.bld [iZ, .str [], iZ, iZ] [(0, 1, kI 5), (1, 1, .t 15)]), ⟨none, none, .st 4 (.t 2) (.t 16)⟩, dO 3 (.tk (kI 1)), dO 4 (.tk (kI 0))])
 (.ret))
 (.skip))))))
 (.seq (.reg [dO 17 (.bld [iZ, .str [], iZ, iZ] []), ⟨none, none, .st 4 (.t 2) (.t 17)⟩, dO 3 (.tk (kI 0)), dO 4 (.tk (kI 12))])
 (.ret)))) }
def c_pp_stmt : AFunc :=
 { np := 2, res := [.cell 4 (some 7)], body := (
 .seq (.reg [dO 4 (.alloc [iZ, .str [], iZ, .own 4 [], .own 7 [], .own 7 [], .bool false])])
 (.seq (.reg [dO 11 (.mv (.t 0)), dO 12 (.nck (.t 11)), dO 13 (.fa 0 (.t 12)), dO 14 (.call n_pw_head [.t 13]), dO 5 (.alloc [iZ, .str [], iZ, iZ]), ⟨none, none, .st 4 (.t 5) (.t 14)⟩])
 (.seq (.reg [dO 16 (.ld (some 4) (.t 5)), dO 17 (.callc n_parse_simple [.t 16]), dO 15 (.mv (.t 17)), dO 18 (.ext (.t 15) 0), dO 19 (.ext (.t 15) 1), dO 6 (.tk (.t 18)), dO 7 (.tk (.t 19))])
 (.seq (.reg [dO 21 (.mv (.t 0)), dO 22 (.nck (.t 21)), dO 23 (.fa 0 (.t 22)), dO 24 (.bsl 1 [.str []] 5 [(0, 1, kS [108, 101, 116]), (1, 1, kS [99, 97, 108, 108]), (2, 1, kS [105, 102]), (3, 1, kS [114, 101, 112, 101, 97, 116]), (4, 1, kS [116, 120, 110])] false), dO 25 (.call n_pw_sees [.t 23, .t 24]), dO 20 (.mv (.t 25)), dO 26 (.ext (.t 20) 0), dO 27 (.ext (.t 20) 1), dO 8 (.tk (.t 26)), dO 9 (.tk (.t 27))])
 (.seq (.seq (.reg [dO 28 (.mv (.t 7)), dO 29 (.notb (.t 28)), dO 30 (.mv (.t 29)), ⟨some 31, (some (30, true)), .mv (.t 9)⟩, ⟨some 32, (some (30, true)), .notb (.t 31)⟩, dO 33 (.pick (.t 30) (.t 32) kF)])
 (.cond (.t 33)
 (.seq (.drw [[], [], [], [], []] [dO 34 (.mv (.t 0)), dO 35 (.nck (.t 34)), dO 36 (.fa 0 (.t 35)), dO 37 (.ld (some 4) (.t 5)), dO 38 (.call n_pw_fail [.t 36, kI 12, .t 37])])
 (.seq (.reg [dO 39 (.bld [iZ, .str [], iZ, .sl 4 [], .sl 7 [], .sl 7 [], .bool false] []), ⟨none, none, .st 7 (.t 4) (.t 39)⟩])
 (.ret)))
 (.skip)))
 (.seq (.seq (.reg [dO 40 (.mv (.t 0)), dO 41 (.nck (.t 40)), dO 42 (.fa 3 (.t 41)), dO 43 (.ld none (.t 42)), dO 44 (.ia .add .i64 (.t 43) (kI 1)), dO 45 (.nck (.t 40)), dO 46 (.fa 3 (.t 45)), ⟨none, none, .st 1 (.t 46) (.t 44)⟩])
 (.seq (.reg [dO 47 (.mv (.t 0)), dO 48 (.nck (.t 47)), dO 49 (.fa 3 (.t 48)), dO 50 (.ld none (.t 49)), dO 51 (.ic .gtr (.t 50) (kI 256)), dO 52 (.mv (.t 51)), ⟨some 53, (some (52, false)), .mv (.t 1)⟩, ⟨some 54, (some (52, false)), .ic .gtr (.t 53) (kI 8)⟩, dO 55 (.pick (.t 52) kT (.t 54))])
 (.cond (.t 55)
 (.seq (.drw [[], [], [], [], []] [dO 56 (.mv (.t 0)), dO 57 (.nck (.t 56)), dO 58 (.fa 0 (.t 57)), dO 59 (.ld (some 4) (.t 5)), dO 60 (.call n_pw_fail [.t 58, kI 14, .t 59])])
 (.seq (.reg [dO 61 (.bld [iZ, .str [], iZ, .sl 4 [], .sl 7 [], .sl 7 [], .bool false] []), ⟨none, none, .st 7 (.t 4) (.t 61)⟩])
 (.ret)))
 (.skip))))
 (.seq (.reg [dO 62 (.mv (.t 0)), dO 63 (.nck (.t 62)), dO 64 (.fa 0 (.t 63)), dO 65 (.call n_pw_skip [.t 64])])
 (.seq (.seq (.reg [dO 66 (.mv (.t 8))])
 (.block 0 (.seq (.reg [dO 68 (.sop .eql (.t 66) (kS [108, 101, 116])), dO 67 (.tk (.t 68))])
 (.cond (.t 67)
 (.seq (.reg [dO 69 (.mv (.t 0)), dO 70 (.nck (.t 69)), dO 71 (.fa 0 (.t 70)), dO 72 (.call n_pw_of [.t 71, kI 1]), dO 73 (.fld none 1 (.t 72)), dO 74 (.bld [iZ, .str [], iZ, .sl 4 [], .sl 7 [], .sl 7 [], .bool false] [(0, 1, kI 12), (1, 1, .t 73)]), dO 10 (.alloc [iZ, .str [], iZ, .own 4 [], .own 7 [], .own 7 [], .bool false]), ⟨none, none, .st 7 (.t 10) (.t 74)⟩])
 (.seq (.reg [dO 75 (.mv (.t 0)), dO 76 (.nck (.t 75)), dO 77 (.fa 0 (.t 76)), dO 78 (.call n_pw_wants [.t 77, kS [61]])])
 (.seq (.reg [dO 79 (.mv (.t 0)), dO 80 (.call n_pp_exprs [.t 79, kI 12]), dO 81 (.fa 3 (.t 10)), ⟨none, none, .st 1 (.t 81) (.t 80)⟩])
 (.seq (.reg [dO 82 (.ld (some 7) (.t 10)), ⟨none, none, .st 7 (.t 4) (.t 82)⟩])
 (.ret)))))
 (.seq (.reg [dO 84 (.sop .eql (.t 66) (kS [99, 97, 108, 108])), dO 83 (.tk (.t 84))])
 (.cond (.t 83)
 (.seq (.reg [dO 85 (.mv (.t 0)), dO 86 (.nck (.t 85)), dO 87 (.fa 0 (.t 86)), dO 88 (.call n_pw_of [.t 87, kI 1]), dO 89 (.fld none 1 (.t 88)), dO 90 (.mv (.t 0)), dO 91 (.call n_pp_exprs [.t 90, kI 15]), dO 92 (.bld [iZ, .str [], iZ, .sl 4 [], .sl 7 [], .sl 7 [], .bool false] [(0, 1, kI 15), (1, 1, .t 89), (3, 1, .t 91)]), ⟨none, none, .st 7 (.t 4) (.t 92)⟩])
 (.ret))
 (.seq (.reg [dO 94 (.sop .eql (.t 66) (kS [105, 102])), dO 93 (.tk (.t 94))])
 (.cond (.t 93)
 (.seq (.reg [dO 95 (.mv (.t 0)), dO 96 (.mv (.t 1)), dO 97 (.call n_pp_choice [.t 95, .t 96]), ⟨none, none, .st 7 (.t 4) (.t 97)⟩])
 (.ret))
 (.seq (.reg [dO 99 (.sop .eql (.t 66) (kS [114, 101, 112, 101, 97, 116])), dO 98 (.tk (.t 99))])
 (.cond (.t 98)
 (.seq (.reg [dO 100 (.mv (.t 0)), dO 101 (.mv (.t 1)), dO 102 (.call n_pp_loop [.t 100, .t 101]), ⟨none, none, .st 7 (.t 4) (.t 102)⟩])
 (.ret))
 (.seq (.reg [dO 104 (.sop .eql (.t 66) (kS [116, 120, 110])), dO 103 (.tk (.t 104))])
 (.cond (.t 103)
 (.seq (.reg [dO 105 (.mv (.t 0)), dO 106 (.mv (.t 1)), dO 107 (.call n_pp_txn [.t 105, .t 106]), ⟨none, none, .st 7 (.t 4) (.t 107)⟩])
 (.ret))
 (.skip)))))))))))))
 (.seq (.reg [dO 108 (.mv (.t 6)), dO 109 (.mv (.t 0)), dO 110 (.mv (.t 6)), dO 111 (.call n_pp_exprs [.t 109, .t 110]), dO 112 (.bld [iZ, .str [], iZ, .sl 4 [], .sl 7 [], .sl 7 [], .bool false] [(0, 1, .t 108), (3, 1, .t 111)]), ⟨none, none, .st 7 (.t 4) (.t 112)⟩])
 (.ret)))))))))) }
def c_pw_skip : AFunc :=
 { np := 1, res := [.cell 2 (some 4)], body := (
 .seq (.reg [dO 2 (.alloc [iZ, .str [], iZ, iZ])])
 (.seq (.reg [dO 4 (.mv (.t 0)), dO 5 (.nck (.t 4)), dO 6 (.fa 0 (.t 5)), dO 7 (.ld none (.t 6)), dO 8 (.ixa 4 none (.t 7) (kI 0)), dO 9 (.ld (some 4) (.t 8)), dO 3 (.alloc [iZ, .str [], iZ, iZ]), ⟨none, none, .st 4 (.t 3) (.t 9)⟩])
 (.seq (.seq (.reg [dO 10 (.mv (.t 0)), dO 11 (.nck (.t 10)), dO 12 (.fa 0 (.t 11)), dO 13 (.ld none (.t 12)), dO 14 (.len false (.t 13)), dO 15 (.ic .gtr (.t 14) (kI 1))])
 (.cond (.t 15)
 (.reg [dO 16 (.mv (.t 0)), dO 17 (.mv (.t 0)), dO 18 (.nck (.t 17)), dO 19 (.fa 0 (.t 18)), dO 20 (.ld none (.t 19)), dO 21 (.sls 4 (.t 20) (some (kI 1)) none none), dO 22 (.nck (.t 16)), dO 23 (.fa 0 (.t 22)), ⟨none, none, .st 1 (.t 23) (.t 21)⟩])
 (.skip)))
 (.seq (.reg [dO 24 (.ld (some 4) (.t 3)), ⟨none, none, .st 4 (.t 2) (.t 24)⟩])
 (.ret))))) }
def a_tree_walk_1_0 : AC :=
 .reg [dO 7 (.alloc [iZ, .str [], iZ, .own 4 [], .own 7 [], .own 7 [], .bool false]), ⟨none, none, .st 7 (.t 7) (.t 30)⟩]
def y_tree_walk_1_0 : AC :=
 .block 5 (.seq (.reg [dO 31 (.ld none (.t 2)), dO 32 (.ld (some 7) (.t 7)), dO 33 (.callv (.t 31) [.t 32]), dO 34 (.notb (.t 33))])
 (.cond (.t 34)
 (.ret)
 (.skip)))
def r_tree_walk_1_0 : AC :=
 .reg [dO 35 (.ia .add .i64 (.t 24) (kI 1)), dO 24 (.mv (.t 35))]
def b_tree_walk_1_0 : AC :=
 .seq (.reg [dO 25 (.ic .lss (.t 24) (.t 23))])
 (.seq (.cond (.t 25)
 (.skip)
 (.exit 2))
 (.seq (.block 3 (.seq (.reg [dO 26 (.ixa 1 none (.t 22) (.t 24)), dO 27 (.ld none (.t 26)), dO 6 (.tk (.t 27))])
 (.seq (.reg [dO 28 (.mv (.t 6)), dO 29 (.call n_tree_walk [.t 28])])
 (.block 4 (.rfn (.t 29) [2] q_tree_walk_1_0 [30] a_tree_walk_1_0 y_tree_walk_1_0))))) r_tree_walk_1_0))
def l_tree_walk_1_0 : AC :=
 .loop [2, 8, 9, 10, 22, 23, 24] b_tree_walk_1_0
def r_tree_walk_1_1 : AC :=
 .reg [dO 36 (.ia .add .i64 (.t 10) (kI 1)), dO 10 (.mv (.t 36))]
def b_tree_walk_1_1 : AC :=
 .seq (.reg [dO 11 (.ic .lss (.t 10) (.t 9))])
 (.seq (.cond (.t 11)
 (.skip)
 (.exit 0))
 (.seq (.block 1 (.seq (.reg [dO 12 (.ixa 7 none (.t 8) (.t 10)), dO 13 (.ld (some 7) (.t 12)), dO 4 (.alloc [iZ, .str [], iZ, .own 4 [], .own 7 [], .own 7 [], .bool false]), ⟨none, none, .st 7 (.t 4) (.t 13)⟩])
 (.seq (.seq (.reg [dO 14 (.ld none (.t 2)), dO 15 (.ld (some 7) (.t 4)), dO 16 (.callv (.t 14) [.t 15]), dO 17 (.notb (.t 16))])
 (.cond (.t 17)
 (.ret)
 (.skip)))
 (.seq (.reg [dO 18 (.fa 4 (.t 4)), dO 19 (.ld none (.t 18)), dO 20 (.fa 5 (.t 4)), dO 21 (.ld none (.t 20)), dO 22 (.bsl 1 [.sl 7 []] 2 [(0, 1, .t 19), (1, 1, .t 21)] false), dO 23 (.len false (.t 22)), dO 24 (.mv (kI 0))])
 (.block 2 (l_tree_walk_1_0)))))) r_tree_walk_1_1))
def l_tree_walk_1_1 : AC :=
 .loop [2, 8, 9, 10] b_tree_walk_1_1
def c_tree_walk_1 : AFunc :=
 { np := 2, res := [], body := (
 .seq (.reg [dO 2 (.box (.t 0))])
 (.seq (.reg [dO 8 (.ld none (.t 1)), dO 9 (.len false (.t 8)), dO 10 (.mv (kI 0))])
 (.block 0 (l_tree_walk_1_1)))) }
def b_tree_each_api_Expr_0 : AC :=
 .seq (.reg [dO 11 (.ic .lss (.t 10) (.t 9))])
 (.seq (.cond (.t 11)
 (.skip)
 (.exit 0))
 (.seq (.block 1 (.seq (.reg [dO 12 (.ixa 4 none (.t 8) (.t 10)), dO 13 (.ld (some 4) (.t 12)), dO 7 (.alloc [iZ, iZ, .str [], .own 4 []]), ⟨none, none, .st 4 (.t 7) (.t 13)⟩])
 (.reg [dO 14 (.tk (.t 5)), dO 15 (.mv (.t 1)), dO 16 (.ld (some 4) (.t 7)), dO 17 (.callv (.t 15) [.t 16]), dO 18 (.bsl 4 [iZ, iZ, .str [], .sl 4 []] 1 [(0, 4, .t 17)] false), dO 19 (.app 4 56 (.t 14) (.t 18) false), dO 5 (.tk (.t 19))])))
 (.reg [dO 20 (.ia .add .i64 (.t 10) (kI 1)), dO 10 (.mv (.t 20))])))
def l_tree_each_api_Expr_0 : AC :=
 .loop [1, 5, 8, 9, 10] b_tree_each_api_Expr_0
def r_tree_each_api_Expr_0 : AC :=
 .seq (.reg [dO 21 (.tk (.t 5)), dO 4 (.tk (.t 21))])
 (.ret)
def c_tree_each_api_Expr : AFunc :=
 { np := 2, res := [.t 4], body := (
 .seq (.reg [dO 4 (.tk (.c (.own 4 [])))])
 (.seq (.reg [dO 5 (.tk (.c (.own 4 [])))])
 (.seq (.seq (.reg [dO 8 (.mv (.t 0)), dO 9 (.len false (.t 8)), dO 10 (.mv (kI 0))])
 (.block 0 (l_tree_each_api_Expr_0))) r_tree_each_api_Expr_0))) }
def c_tree_clonedExpr : AFunc :=
 { np := 1, res := [.cell 2 (some 4)], body := (
 .seq (.reg [dO 1 (.box (.t 0)), dO 2 (.alloc [iZ, iZ, .str [], .own 4 []])])
 (.seq (.reg [dO 3 (.fa 3 (.t 1)), dO 4 (.ld none (.t 3)), dO 5 (.callc n_tree_each_api_Expr [.t 4, (.c (.fn (.func n_tree_clonedExpr) [] []))]), dO 6 (.fa 3 (.t 1)), ⟨none, none, .st 1 (.t 6) (.t 5)⟩])
 (.seq (.reg [dO 7 (.ld (some 4) (.t 1)), ⟨none, none, .st 4 (.t 2) (.t 7)⟩])
 (.ret)))) }
def b_tree_each_api_Stmt_0 : AC :=
 .seq (.reg [dO 11 (.ic .lss (.t 10) (.t 9))])
 (.seq (.cond (.t 11)
 (.skip)
 (.exit 0))
 (.seq (.block 1 (.seq (.reg [dO 12 (.ixa 7 none (.t 8) (.t 10)), dO 13 (.ld (some 7) (.t 12)), dO 7 (.alloc [iZ, .str [], iZ, .own 4 [], .own 7 [], .own 7 [], .bool false]), ⟨none, none, .st 7 (.t 7) (.t 13)⟩])
 (.reg [dO 14 (.tk (.t 5)), dO 15 (.mv (.t 1)), dO 16 (.ld (some 7) (.t 7)), dO 17 (.callv (.t 15) [.t 16]), dO 18 (.bsl 7 [iZ, .str [], iZ, .sl 4 [], .sl 7 [], .sl 7 [], .bool false] 1 [(0, 7, .t 17)] false), dO 19 (.app 7 112 (.t 14) (.t 18) false), dO 5 (.tk (.t 19))])))
 (.reg [dO 20 (.ia .add .i64 (.t 10) (kI 1)), dO 10 (.mv (.t 20))])))
def l_tree_each_api_Stmt_0 : AC :=
 .loop [1, 5, 8, 9, 10] b_tree_each_api_Stmt_0
def r_tree_each_api_Stmt_0 : AC :=
 .seq (.reg [dO 21 (.tk (.t 5)), dO 4 (.tk (.t 21))])
 (.ret)
def c_tree_each_api_Stmt : AFunc :=
 { np := 2, res := [.t 4], body := (
 .seq (.reg [dO 4 (.tk (.c (.own 7 [])))])
 (.seq (.reg [dO 5 (.tk (.c (.own 7 [])))])
 (.seq (.seq (.reg [dO 8 (.mv (.t 0)), dO 9 (.len false (.t 8)), dO 10 (.mv (kI 0))])
 (.block 0 (l_tree_each_api_Stmt_0))) r_tree_each_api_Stmt_0))) }
def b_sI_Expr_api_Expr_0 : AC :=
 .seq (.reg [dO 9 (.ic .lss (.t 8) (.t 7))])
 (.seq (.cond (.t 9)
 (.skip)
 (.exit 0))
 (.seq (.block 1 (.seq (.reg [dO 10 (.mv (.t 8)), dO 5 (.tk (.t 10))])
 (.seq (.reg [dO 11 (.mv (.t 1)), dO 12 (.mv (.t 0)), dO 13 (.mv (.t 5)), dO 14 (.ixa 4 none (.t 12) (.t 13)), dO 15 (.ld (some 4) (.t 14)), dO 16 (.callv (.t 11) [.t 15])])
 (.cond (.t 16)
 (.seq (.reg [dO 17 (.mv (.t 5)), dO 4 (.tk (.t 17))])
 (.ret))
 (.skip)))))
 (.reg [dO 18 (.ia .add .i64 (.t 8) (kI 1)), dO 8 (.mv (.t 18))])))
def l_sI_Expr_api_Expr_0 : AC :=
 .loop [0, 1, 7, 8] b_sI_Expr_api_Expr_0
def r_sI_Expr_api_Expr_0 : AC :=
 .seq (.reg [dO 4 (.tk (kI (-1)))])
 (.ret)
def c_sI_Expr_api_Expr : AFunc :=
 { np := 2, res := [.t 4], body := (
 .seq (.reg [dO 4 (.tk (kI 0))])
 (.seq (.seq (.reg [dO 6 (.mv (.t 0)), dO 7 (.len false (.t 6)), dO 8 (.mv (kI 0))])
 (.block 0 (l_sI_Expr_api_Expr_0))) r_sI_Expr_api_Expr_0)) }
def b_sI_Stmt_api_Stmt_x_0 : AC :=
 .seq (.reg [dO 9 (.ic .lss (.t 8) (.t 7))])
 (.seq (.cond (.t 9)
 (.skip)
 (.exit 0))
 (.seq (.block 1 (.seq (.reg [dO 10 (.mv (.t 8)), dO 5 (.tk (.t 10))])
 (.seq (.reg [dO 11 (.mv (.t 1)), dO 12 (.mv (.t 0)), dO 13 (.mv (.t 5)), dO 14 (.ixa 7 none (.t 12) (.t 13)), dO 15 (.ld (some 7) (.t 14)), dO 16 (.callv (.t 11) [.t 15])])
 (.cond (.t 16)
 (.seq (.reg [dO 17 (.mv (.t 5)), dO 4 (.tk (.t 17))])
 (.ret))
 (.skip)))))
 (.reg [dO 18 (.ia .add .i64 (.t 8) (kI 1)), dO 8 (.mv (.t 18))])))
def l_sI_Stmt_api_Stmt_x_0 : AC :=
 .loop [0, 1, 7, 8] b_sI_Stmt_api_Stmt_x_0
def r_sI_Stmt_api_Stmt_x_0 : AC :=
 .seq (.reg [dO 4 (.tk (kI (-1)))])
 (.ret)
def c_sI_Stmt_api_Stmt_x : AFunc :=
 { np := 2, res := [.t 4], body := (
 .seq (.reg [dO 4 (.tk (kI 0))])
 (.seq (.seq (.reg [dO 6 (.mv (.t 0)), dO 7 (.len false (.t 6)), dO 8 (.mv (kI 0))])
 (.block 0 (l_sI_Stmt_api_Stmt_x_0))) r_sI_Stmt_api_Stmt_x_0)) }
def c_tree_shape : AFunc :=
 { np := 1, res := [.t 2], body := (
 .seq (.reg [dO 1 (.box (.t 0)), dO 2 (.tk kF)])
 (.seq (.reg [dO 9 (.fa 0 (.t 1)), dO 10 (.ld none (.t 9)), dO 11 (.callc n_tree_Exprs [.t 10]), dO 8 (.mv (.t 11)), dO 12 (.ext (.t 8) 0), dO 13 (.ext (.t 8) 1), dO 3 (.tk (.t 12)), dO 4 (.tk (.t 13))])
 (.seq (.reg [dO 15 (.fa 0 (.t 1)), dO 16 (.ld none (.t 15)), dO 17 (.callc n_tree_blocks [.t 16]), dO 14 (.mv (.t 17)), dO 18 (.ext (.t 14) 0), dO 19 (.ext (.t 14) 1), dO 5 (.tk (.t 18)), dO 6 (.tk (.t 19))])
 (.seq (.reg [dO 20 (.fa 0 (.t 1)), dO 21 (.ld none (.t 20)), dO 22 (.ic .eql (.t 21) (kI 12)), dO 23 (.mv (.t 22)), ⟨some 24, (some (23, false)), .fa 0 (.t 1)⟩, ⟨some 25, (some (23, false)), .ld none (.t 24)⟩, ⟨some 26, (some (23, false)), .ic .eql (.t 25) (kI 15)⟩, dO 27 (.pick (.t 23) kT (.t 26)), dO 7 (.tk (.t 27))])
 (.seq (.block 0 (.seq (.reg [dO 29 (.mv (.t 4)), dO 30 (.notb (.t 29)), dO 31 (.mv (.t 30)), ⟨some 32, (some (31, false)), .fa 3 (.t 1)⟩, ⟨some 33, (some (31, false)), .ld none (.t 32)⟩, ⟨some 34, (some (31, false)), .len false (.t 33)⟩, ⟨some 35, (some (31, false)), .mv (.t 3)⟩, ⟨some 36, (some (31, false)), .ic .neq (.t 34) (.t 35)⟩, dO 37 (.pick (.t 31) kT (.t 36)), dO 38 (.mv (.t 37)), ⟨some 39, (some (38, false)), .mv (.t 7)⟩, ⟨some 40, (some (38, false)), .fa 1 (.t 1)⟩, ⟨some 41, (some (38, false)), .ld none (.t 40)⟩, ⟨some 42, (some (38, false)), .sop .neq (.t 41) (kS [])⟩, ⟨some 43, (some (38, false)), .eqb true (.t 39) (.t 42)⟩, dO 44 (.pick (.t 38) kT (.t 43)), dO 45 (.mv (.t 44)), ⟨some 46, (some (45, false)), .mv (.t 7)⟩, ⟨some 47, (some (45, false)), .mv (.t 46)⟩, ⟨some 48, (some (47, true)), .fa 1 (.t 1)⟩, ⟨some 49, (some (47, true)), .ld none (.t 48)⟩, ⟨some 50, (some (47, true)), .callc n_lex_Name [.t 49]⟩, ⟨some 51, (some (47, true)), .notb (.t 50)⟩, ⟨some 52, (some (45, false)), .pick (.t 47) (.t 51) kF⟩, dO 53 (.pick (.t 45) kT (.t 52)), dO 28 (.tk (.t 53))])
 (.cond (.t 28)
 (.seq (.reg [dO 2 (.tk kF)])
 (.ret))
 (.seq (.reg [dO 55 (.fa 2 (.t 1)), dO 56 (.ld none (.t 55)), dO 57 (.ic .neq (.t 56) (kI 0)), dO 58 (.mv (.t 57)), ⟨some 59, (some (58, true)), .fa 0 (.t 1)⟩, ⟨some 60, (some (58, true)), .ld none (.t 59)⟩, ⟨some 61, (some (58, true)), .ic .neq (.t 60) (kI 14)⟩, dO 62 (.pick (.t 58) (.t 61) kF), dO 63 (.mv (.t 62)), ⟨some 64, (some (63, false)), .fa 2 (.t 1)⟩, ⟨some 65, (some (63, false)), .ld none (.t 64)⟩, ⟨some 66, (some (63, false)), .ic .lss (.t 65) (kI 0)⟩, dO 67 (.pick (.t 63) kT (.t 66)), dO 68 (.mv (.t 67)), ⟨some 69, (some (68, false)), .fa 2 (.t 1)⟩, ⟨some 70, (some (68, false)), .ld none (.t 69)⟩, ⟨some 71, (some (68, false)), .ic .gtr (.t 70) (kI 16)⟩, dO 72 (.pick (.t 68) kT (.t 71)), dO 54 (.tk (.t 72))])
 (.cond (.t 54)
 (.seq (.reg [dO 2 (.tk kF)])
 (.ret))
 (.seq (.reg [dO 74 (.fa 6 (.t 1)), dO 75 (.ld none (.t 74)), dO 76 (.mv (.t 75)), ⟨some 77, (some (76, true)), .fa 0 (.t 1)⟩, ⟨some 78, (some (76, true)), .ld none (.t 77)⟩, ⟨some 79, (some (76, true)), .ic .neq (.t 78) (kI 16)⟩, dO 80 (.pick (.t 76) (.t 79) kF), dO 81 (.mv (.t 80)), ⟨some 82, (some (81, false)), .mv (.t 5)⟩, ⟨some 83, (some (81, false)), .notb (.t 82)⟩, ⟨some 84, (some (81, false)), .mv (.t 83)⟩, ⟨some 85, (some (84, true)), .fa 4 (.t 1)⟩, ⟨some 86, (some (84, true)), .ld none (.t 85)⟩, ⟨some 87, (some (84, true)), .len false (.t 86)⟩, ⟨some 88, (some (84, true)), .ic .gtr (.t 87) (kI 0)⟩, ⟨some 89, (some (81, false)), .pick (.t 84) (.t 88) kF⟩, dO 90 (.pick (.t 81) kT (.t 89)), dO 91 (.mv (.t 90)), ⟨some 92, (some (91, false)), .mv (.t 6)⟩, ⟨some 93, (some (91, false)), .notb (.t 92)⟩, ⟨some 94, (some (91, false)), .mv (.t 93)⟩, ⟨some 95, (some (94, true)), .fa 5 (.t 1)⟩, ⟨some 96, (some (94, true)), .ld none (.t 95)⟩, ⟨some 97, (some (94, true)), .len false (.t 96)⟩, ⟨some 98, (some (94, true)), .ic .gtr (.t 97) (kI 0)⟩, ⟨some 99, (some (91, false)), .pick (.t 94) (.t 98) kF⟩, dO 100 (.pick (.t 91) kT (.t 99)), dO 73 (.tk (.t 100))])
 (.cond (.t 73)
 (.seq (.reg [dO 2 (.tk kF)])
 (.ret))
 (.skip))))))))
 (.seq (.reg [dO 101 (.fa 3 (.t 1)), dO 102 (.ld none (.t 101)), dO 103 (.callc n_sC_Expr_api_Expr [.t 102, (.c (.fn (.func n_tree_shape_1) [] []))]), dO 104 (.notb (.t 103)), dO 2 (.tk (.t 104))])
 (.ret))))))) }
def c_tree_stmt_1 : AFunc :=
 { np := 1, res := [.t 2], body := (
 .seq (.reg [dO 1 (.box (.t 0)), dO 2 (.tk kF)])
 (.seq (.reg [dO 3 (.fa 0 (.t 1)), dO 4 (.ld none (.t 3)), dO 5 (.ic .neq (.t 4) (kI 3)), dO 2 (.tk (.t 5))])
 (.ret))) }
def b_pp_chain_0 : AC :=
 .seq (.reg [dO 16 (.ic .lss (.t 15) (.t 14))])
 (.seq (.cond (.t 16)
 (.skip)
 (.exit 0))
 (.seq (.block 1 (.seq (.reg [dO 18 (.mv (.t 0)), dO 19 (.nck (.t 18)), dO 20 (.fa 0 (.t 19)), dO 21 (.mv (.t 3)), dO 22 (.call n_pw_takes [.t 20, .t 21]), dO 17 (.mv (.t 22)), dO 23 (.ext (.t 17) 0), dO 24 (.ext (.t 17) 1), dO 10 (.tk (.t 23)), dO 11 (.tk (.t 24))])
 (.seq (.seq (.reg [dO 25 (.mv (.t 11)), dO 26 (.notb (.t 25))])
 (.cond (.t 26)
 (.exit 0)
 (.skip)))
 (.drw [[], [], [], [], [], [], [], []] [dO 27 (.mv (.t 10)), dO 28 (.callc n_parse_kind [.t 27]), dO 29 (.ldq (some 4) (.t 9) (.t 9)), dO 30 (.mv (.t 1)), dO 31 (.callvh (.t 30) [] (.t 9)), dO 32 (.bsl 4 [iZ, iZ, .str [], .sl 4 []] 2 [(0, 4, .t 29), (4, 4, .t 31)] false), dO 33 (.bld [iZ, iZ, .str [], .sl 4 []] [(0, 1, .t 28), (3, 1, .t 32)]), ⟨none, none, .st 4 (.t 9) (.t 33)⟩]))))
 (.reg [dO 34 (.ia .add .i64 (.t 15) (kI 1)), dO 15 (.mv (.t 34))])))
def l_pp_chain_0 : AC :=
 .loop [0, 1, 3, 8, 9, 14, 15] b_pp_chain_0
def r_pp_chain_0 : AC :=
 .seq (.reg [dO 35 (.ld (some 4) (.t 9)), ⟨none, none, .st 4 (.t 8) (.t 35)⟩])
 (.ret)
def c_pp_chain : AFunc :=
 { np := 4, res := [.cell 8 (some 4)], body := (
 .seq (.reg [dO 8 (.alloc [iZ, iZ, .str [], .own 4 []])])
 (.seq (.reg [dO 12 (.mv (.t 1)), dO 13 (.callv (.t 12) []), dO 9 (.alloc [iZ, iZ, .str [], .own 4 []]), ⟨none, none, .st 4 (.t 9) (.t 13)⟩])
 (.seq (.seq (.reg [dO 14 (.mv (.t 2)), dO 15 (.mv (kI 0))])
 (.block 0 (l_pp_chain_0))) r_pp_chain_0))) }
def c_pp_both : AFunc :=
 { np := 1, res := [.cell 2 (some 4)], body := (
 .seq (.reg [dO 2 (.alloc [iZ, iZ, .str [], .own 4 []])])
 (.seq (.reg [dO 3 (.mv (.t 0)), dO 4 (.mv (.t 0)), dO 5 (.mkf (.func n_pp_not) [.t 4] []), dO 6 (.bsl 1 [.str []] 1 [(0, 1, kS [97, 110, 100])] false), dO 7 (.call n_pp_chain [.t 3, .t 5, kI 4096, .t 6]), ⟨none, none, .st 4 (.t 2) (.t 7)⟩])
 (.ret))) }
def c_isl_HasPrefix : AFunc :=
 { np := 2, res := [.t 4], body := (
 .seq (.reg [dO 4 (.tk kF)])
 (.seq (.reg [dO 5 (.mv (.t 0)), dO 6 (.len true (.t 5)), dO 7 (.mv (.t 1)), dO 8 (.len true (.t 7)), dO 9 (.ic .geq (.t 6) (.t 8)), dO 10 (.mv (.t 9)), ⟨some 11, (some (10, true)), .mv (.t 0)⟩, ⟨some 12, (some (10, true)), .mv (.t 1)⟩, ⟨some 13, (some (10, true)), .len true (.t 12)⟩, ⟨some 14, (some (10, true)), .slc (.t 11) none (some (.t 13))⟩, ⟨some 15, (some (10, true)), .mv (.t 1)⟩, ⟨some 16, (some (10, true)), .sop .eql (.t 14) (.t 15)⟩, dO 17 (.pick (.t 10) (.t 16) kF), dO 4 (.tk (.t 17))])
 (.ret))) }
def b_num_Read_0 : AC :=
 .seq (.reg [dO 28 (.ic .lss (.t 27) (.t 26))])
 (.seq (.cond (.t 28)
 (.skip)
 (.exit 0))
 (.seq (.block 1 (.seq (.reg [dO 29 (.ixa 1 none (.t 25) (.t 27)), dO 30 (.ld none (.t 29)), dO 6 (.tk (.t 30))])
 (.seq (.reg [dO 31 (.mv (.t 6)), dO 32 (.conv .i64 (.t 31)), dO 33 (.ia .sub .i64 (.t 32) (kI 48)), dO 7 (.tk (.t 33))])
 (.seq (.seq (.reg [dO 34 (.mv (.t 7)), dO 35 (.ic .lss (.t 34) (kI 0)), dO 36 (.mv (.t 35)), ⟨some 37, (some (36, false)), .mv (.t 7)⟩, ⟨some 38, (some (36, false)), .ic .gtr (.t 37) (kI 9)⟩, dO 39 (.pick (.t 36) kT (.t 38))])
 (.cond (.t 39)
 (.seq (.reg [dO 2 (.tk (kI 0)), dO 3 (.tk kF)])
 (.ret))
 (.skip)))
 (.reg [dO 40 (.mv (.t 4)), dO 41 (.ia .mul .i64 (.t 40) (kI 10)), dO 42 (.mv (.t 7)), dO 43 (.ia .add .i64 (.t 41) (.t 42)), dO 4 (.tk (.t 43))])))))
 (.reg [dO 44 (.ia .add .i64 (.t 27) (kI 1)), dO 27 (.mv (.t 44))])))
def l_num_Read_0 : AC :=
 .loop [4, 25, 26, 27] b_num_Read_0
def r_num_Read_0 : AC :=
 .seq (.seq (.reg [dO 45 (.mv (.t 4)), dO 46 (.ic .gtr (.t 45) (kI 1000000000000))])
 (.cond (.t 46)
 (.seq (.reg [dO 2 (.tk (kI 0)), dO 3 (.tk kF)])
 (.ret))
 (.skip)))
 (.seq (.reg [dO 47 (.mv (.t 4)), dO 2 (.tk (.t 47)), dO 3 (.tk kT)])
 (.ret))
def c_num_Read : AFunc :=
 { np := 1, res := [.t 2, .t 3], body := (
 .seq (.reg [dO 2 (.tk (kI 0)), dO 3 (.tk kF)])
 (.seq (.seq (.reg [dO 8 (.mv (.t 0)), dO 9 (.sop .eql (.t 8) (kS [])), dO 10 (.mv (.t 9)), ⟨some 11, (some (10, false)), .mv (.t 0)⟩, ⟨some 12, (some (10, false)), .len true (.t 11)⟩, ⟨some 13, (some (10, false)), .ic .gtr (.t 12) (kI 13)⟩, dO 14 (.pick (.t 10) kT (.t 13)), dO 15 (.mv (.t 14)), ⟨some 16, (some (15, false)), .mv (.t 0)⟩, ⟨some 17, (some (15, false)), .ixs (.t 16) (kI 0)⟩, ⟨some 18, (some (15, false)), .ic .eql (.t 17) (.c (.int .u8 48))⟩, ⟨some 19, (some (15, false)), .mv (.t 18)⟩, ⟨some 20, (some (19, true)), .mv (.t 0)⟩, ⟨some 21, (some (19, true)), .sop .neq (.t 20) (kS [48])⟩, ⟨some 22, (some (15, false)), .pick (.t 19) (.t 21) kF⟩, dO 23 (.pick (.t 15) kT (.t 22))])
 (.cond (.t 23)
 (.seq (.reg [dO 2 (.tk (kI 0)), dO 3 (.tk kF)])
 (.ret))
 (.skip)))
 (.seq (.reg [dO 4 (.tk (kI 0))])
 (.seq (.seq (.reg [dO 24 (.mv (.t 0)), dO 25 (.s2b (.t 24)), dO 26 (.len false (.t 25)), dO 27 (.mv (kI 0))])
 (.block 0 (l_num_Read_0))) r_num_Read_0)))) }
def b_view_Unquote_0 : AC :=
 .seq (.seq (.reg [dO 25 (.mv (.t 4)), dO 26 (.sop .neq (.t 25) (kS []))])
 (.cond (.t 26)
 (.skip)
 (.exit 0)))
 (.block 1 (.seq (.reg [dO 27 (.mv (.t 4)), dO 28 (.ixs (.t 27) (kI 0)), dO 8 (.tk (.t 28))])
 (.seq (.reg [dO 29 (.mv (.t 4)), dO 30 (.slc (.t 29) (some (kI 1)) none), dO 4 (.tk (.t 30))])
 (.seq (.seq (.reg [dO 31 (.mv (.t 8)), dO 32 (.ic .eql (.t 31) (.c (.int .u8 92)))])
 (.cond (.t 32)
 (.seq (.seq (.reg [dO 34 (.mv (.t 4)), dO 35 (.callc n_view_pair [.t 34]), dO 33 (.mv (.t 35)), dO 36 (.ext (.t 33) 0), dO 37 (.ext (.t 33) 1), dO 8 (.tk (.t 36)), dO 5 (.tk (.t 37))])
 (.seq (.reg [dO 38 (.mv (.t 5)), dO 39 (.notb (.t 38))])
 (.cond (.t 39)
 (.seq (.reg [dO 2 (.tk (kS [])), dO 3 (.tk kF)])
 (.ret))
 (.skip))))
 (.reg [dO 40 (.mv (.t 4)), dO 41 (.slc (.t 40) (some (kI 2)) none), dO 4 (.tk (.t 41))]))
 (.seq (.reg [dO 42 (.mv (.t 8)), dO 43 (.callc n_view_plain [.t 42]), dO 44 (.notb (.t 43))])
 (.cond (.t 44)
 (.seq (.reg [dO 2 (.tk (kS [])), dO 3 (.tk kF)])
 (.ret))
 (.skip)))))
 (.reg [dO 45 (.mv (.t 8)), dO 46 (.call n_pstrings_Builder_WriteByte [.t 7, .t 45])])))))
def l_view_Unquote_0 : AC :=
 .loop [4, 7] b_view_Unquote_0
def r_view_Unquote_0 : AC :=
 .seq (.reg [dO 47 (.call n_pstrings_Builder_String [.t 7]), dO 2 (.tk (.t 47)), dO 3 (.tk kT)])
 (.ret)
def c_view_Unquote : AFunc :=
 { np := 1, res := [.t 2, .t 3], body := (
 .seq (.reg [dO 2 (.tk (kS [])), dO 3 (.tk kF)])
 (.seq (.reg [dO 10 (.mv (.t 0)), dO 11 (.callc n_strings_CutPrefix [.t 10, kS [34]]), dO 9 (.mv (.t 11)), dO 12 (.ext (.t 9) 0), dO 13 (.ext (.t 9) 1), dO 4 (.tk (.t 12)), dO 5 (.tk (.t 13))])
 (.seq (.reg [dO 15 (.mv (.t 4)), dO 16 (.callc n_strings_CutSuffix [.t 15, kS [34]]), dO 14 (.mv (.t 16)), dO 17 (.ext (.t 14) 0), dO 18 (.ext (.t 14) 1), dO 4 (.tk (.t 17)), dO 6 (.tk (.t 18))])
 (.seq (.seq (.reg [dO 19 (.mv (.t 5)), dO 20 (.notb (.t 19)), dO 21 (.mv (.t 20)), ⟨some 22, (some (21, false)), .mv (.t 6)⟩, ⟨some 23, (some (21, false)), .notb (.t 22)⟩, dO 24 (.pick (.t 21) kT (.t 23))])
 (.cond (.t 24)
 (.seq (.reg [dO 2 (.tk (kS [])), dO 3 (.tk kF)])
 (.ret))
 (.skip)))
 (.seq (.reg [dO 7 (.allocb bT bE)])
 (.seq (.block 0 (l_view_Unquote_0)) r_view_Unquote_0)))))) }
def c_parse_simple : AFunc :=
 { np := 1, res := [.t 2, .t 3], body := (
 .seq (.reg [dO 1 (.box (.t 0)), dO 2 (.tk (kI 0)), dO 3 (.tk kF)])
 (.seq (.seq (.reg [dO 4 (.fa 0 (.t 1)), dO 5 (.ld none (.t 4)), dO 6 (.ic .neq (.t 5) (kI 4))])
 (.cond (.t 6)
 (.seq (.reg [dO 2 (.tk (kI 0)), dO 3 (.tk kF)])
 (.ret))
 (.skip)))
 (.seq (.seq (.reg [dO 7 (.fa 1 (.t 1)), dO 8 (.ld none (.t 7))])
 (.block 0 (.seq (.reg [dO 10 (.sop .eql (.t 8) (kS [99, 114, 101, 97, 116, 101])), dO 9 (.tk (.t 10))])
 (.cond (.t 9)
 (.seq (.reg [dO 2 (.tk (kI 1)), dO 3 (.tk kT)])
 (.ret))
 (.seq (.reg [dO 12 (.sop .eql (.t 8) (kS [109, 107, 100, 105, 114])), dO 11 (.tk (.t 12))])
 (.cond (.t 11)
 (.seq (.reg [dO 2 (.tk (kI 2)), dO 3 (.tk kT)])
 (.ret))
 (.seq (.reg [dO 14 (.sop .eql (.t 8) (kS [119, 114, 105, 116, 101])), dO 13 (.tk (.t 14))])
 (.cond (.t 13)
 (.seq (.reg [dO 2 (.tk (kI 3)), dO 3 (.tk kT)])
 (.ret))
 (.seq (.reg [dO 16 (.sop .eql (.t 8) (kS [97, 112, 112, 101, 110, 100])), dO 15 (.tk (.t 16))])
 (.cond (.t 15)
 (.seq (.reg [dO 2 (.tk (kI 4)), dO 3 (.tk kT)])
 (.ret))
 (.seq (.reg [dO 18 (.sop .eql (.t 8) (kS [116, 114, 117, 110, 99, 97, 116, 101])), dO 17 (.tk (.t 18))])
 (.cond (.t 17)
 (.seq (.reg [dO 2 (.tk (kI 5)), dO 3 (.tk kT)])
 (.ret))
 (.seq (.reg [dO 20 (.sop .eql (.t 8) (kS [114, 101, 110, 97, 109, 101])), dO 19 (.tk (.t 20))])
 (.cond (.t 19)
 (.seq (.reg [dO 2 (.tk (kI 6)), dO 3 (.tk kT)])
 (.ret))
 (.seq (.reg [dO 22 (.sop .eql (.t 8) (kS [117, 110, 108, 105, 110, 107])), dO 21 (.tk (.t 22))])
 (.cond (.t 21)
 (.seq (.reg [dO 2 (.tk (kI 7)), dO 3 (.tk kT)])
 (.ret))
 (.seq (.reg [dO 24 (.sop .eql (.t 8) (kS [102, 115, 121, 110, 99])), dO 23 (.tk (.t 24))])
 (.cond (.t 23)
 (.seq (.reg [dO 2 (.tk (kI 8)), dO 3 (.tk kT)])
 (.ret))
 (.seq (.reg [dO 26 (.sop .eql (.t 8) (kS [102, 100, 97, 116, 97, 115, 121, 110, 99])), dO 25 (.tk (.t 26))])
 (.cond (.t 25)
 (.seq (.reg [dO 2 (.tk (kI 9)), dO 3 (.tk kT)])
 (.ret))
 (.seq (.reg [dO 28 (.sop .eql (.t 8) (kS [115, 121, 110, 99, 100, 105, 114])), dO 27 (.tk (.t 28))])
 (.cond (.t 27)
 (.seq (.reg [dO 2 (.tk (kI 10)), dO 3 (.tk kT)])
 (.ret))
 (.seq (.reg [dO 30 (.sop .eql (.t 8) (kS [114, 101, 112, 108, 97, 121])), dO 29 (.tk (.t 30))])
 (.cond (.t 29)
 (.seq (.reg [dO 2 (.tk (kI 17)), dO 3 (.tk kT)])
 (.ret))
 (.seq (.reg [dO 32 (.sop .eql (.t 8) (kS [97, 115, 115, 101, 114, 116])), dO 31 (.tk (.t 32))])
 (.cond (.t 31)
 (.seq (.reg [dO 2 (.tk (kI 18)), dO 3 (.tk kT)])
 (.ret))
 (.seq (.reg [dO 34 (.sop .eql (.t 8) (kS [98, 97, 114, 114, 105, 101, 114])), dO 33 (.tk (.t 34))])
 (.cond (.t 33)
 (.seq (.reg [dO 2 (.tk (kI 11)), dO 3 (.tk kT)])
 (.ret))
 (.skip)))))))))))))))))))))))))))))
 (.seq (.reg [dO 2 (.tk (kI 0)), dO 3 (.tk kF)])
 (.ret))))) }
def b_pp_exprs_0 : AC :=
 .seq (.reg [dO 17 (.ic .lss (.t 16) (.t 15))])
 (.seq (.cond (.t 17)
 (.skip)
 (.exit 0))
 (.seq (.block 1 (.seq (.reg [dO 18 (.mv (.t 16)), dO 8 (.tk (.t 18))])
 (.seq (.reg [dO 9 (.tk (kS [59]))])
 (.seq (.seq (.reg [dO 19 (.mv (.t 8)), dO 20 (.ia .add .i64 (.t 19) (kI 1)), dO 21 (.mv (.t 5)), dO 22 (.ic .lss (.t 20) (.t 21))])
 (.cond (.t 22)
 (.reg [dO 9 (.tk (kS [44]))])
 (.skip)))
 (.seq (.reg [dO 23 (.tk (.t 7)), dO 24 (.mv (.t 0)), dO 25 (.mv (.t 9)), dO 26 (.call n_pp_whole [.t 24, .t 25]), dO 27 (.bsl 4 [iZ, iZ, .str [], .sl 4 []] 1 [(0, 4, .t 26)] false), dO 28 (.app 4 56 (.t 23) (.t 27) false), dO 7 (.tk (.t 28))])
 (.reg [dO 29 (.mv (.t 0)), dO 30 (.nck (.t 29)), dO 31 (.fa 0 (.t 30)), dO 32 (.mv (.t 9)), dO 33 (.call n_pw_wants [.t 31, .t 32])]))))))
 (.reg [dO 34 (.ia .add .i64 (.t 16) (kI 1)), dO 16 (.mv (.t 34))])))
def l_pp_exprs_0 : AC :=
 .loop [0, 5, 7, 15, 16] b_pp_exprs_0
def r_pp_exprs_0 : AC :=
 .seq (.seq (.reg [dO 35 (.mv (.t 5)), dO 36 (.ic .eql (.t 35) (kI 0))])
 (.cond (.t 36)
 (.reg [dO 37 (.mv (.t 0)), dO 38 (.nck (.t 37)), dO 39 (.fa 0 (.t 38)), dO 40 (.call n_pw_wants [.t 39, kS [59]])])
 (.skip)))
 (.seq (.reg [dO 41 (.tk (.t 7)), dO 4 (.tk (.t 41))])
 (.ret))
def c_pp_exprs : AFunc :=
 { np := 2, res := [.t 4], body := (
 .seq (.reg [dO 4 (.tk (.c (.own 4 [])))])
 (.seq (.reg [dO 11 (.mv (.t 1)), dO 12 (.callc n_tree_Exprs [.t 11]), dO 10 (.mv (.t 12)), dO 13 (.ext (.t 10) 0), dO 14 (.ext (.t 10) 1), dO 5 (.tk (.t 13)), dO 6 (.tk (.t 14))])
 (.seq (.reg [dO 7 (.tk (.c (.own 4 [])))])
 (.seq (.seq (.reg [dO 15 (.mv (.t 5)), dO 16 (.mv (kI 0))])
 (.block 0 (l_pp_exprs_0))) r_pp_exprs_0)))) }
def c_pp_choice : AFunc :=
 { np := 2, res := [.cell 4 (some 7)], body := (
 .seq (.reg [dO 4 (.alloc [iZ, .str [], iZ, .own 4 [], .own 7 [], .own 7 [], .bool false])])
 (.seq (.reg [dO 8 (.mv (.t 0)), dO 9 (.call n_pp_whole [.t 8, kS [123]]), dO 10 (.bsl 4 [iZ, iZ, .str [], .sl 4 []] 1 [(0, 4, .t 9)] false), dO 11 (.bld [iZ, .str [], iZ, .sl 4 [], .sl 7 [], .sl 7 [], .bool false] [(0, 1, kI 13), (3, 1, .t 10)]), dO 5 (.alloc [iZ, .str [], iZ, .own 4 [], .own 7 [], .own 7 [], .bool false]), ⟨none, none, .st 7 (.t 5) (.t 11)⟩])
 (.seq (.reg [dO 12 (.mv (.t 0)), dO 13 (.mv (.t 1)), dO 14 (.ia .add .i64 (.t 13) (kI 1)), dO 15 (.call n_pp_block [.t 12, .t 14]), dO 16 (.fa 4 (.t 5)), ⟨none, none, .st 1 (.t 16) (.t 15)⟩])
 (.seq (.seq (.reg [dO 18 (.mv (.t 0)), dO 19 (.nck (.t 18)), dO 20 (.fa 0 (.t 19)), dO 21 (.bsl 1 [.str []] 1 [(0, 1, kS [101, 108, 115, 101])] false), dO 22 (.call n_pw_takes [.t 20, .t 21]), dO 17 (.mv (.t 22)), dO 23 (.ext (.t 17) 0), dO 24 (.ext (.t 17) 1), dO 6 (.tk (.t 23)), dO 7 (.tk (.t 24))])
 (.seq (.reg [dO 25 (.mv (.t 7))])
 (.cond (.t 25)
 (.reg [dO 26 (.mv (.t 0)), dO 27 (.mv (.t 1)), dO 28 (.ia .add .i64 (.t 27) (kI 1)), dO 29 (.call n_pp_block [.t 26, .t 28]), dO 30 (.fa 5 (.t 5)), ⟨none, none, .st 1 (.t 30) (.t 29)⟩])
 (.skip))))
 (.seq (.reg [dO 31 (.ld (some 7) (.t 5)), ⟨none, none, .st 7 (.t 4) (.t 31)⟩])
 (.ret)))))) }
def c_pp_loop : AFunc :=
 { np := 2, res := [.cell 4 (some 7)], body := (
 .seq (.reg [dO 4 (.alloc [iZ, .str [], iZ, .own 4 [], .own 7 [], .own 7 [], .bool false])])
 (.seq (.reg [dO 6 (.mv (.t 0)), dO 7 (.nck (.t 6)), dO 8 (.fa 0 (.t 7)), dO 9 (.call n_pw_of [.t 8, kI 2]), dO 5 (.alloc [iZ, .str [], iZ, iZ]), ⟨none, none, .st 4 (.t 5) (.t 9)⟩])
 (.seq (.seq (.reg [dO 10 (.fa 2 (.t 5)), dO 11 (.ld none (.t 10)), dO 12 (.ic .gtr (.t 11) (kI 16))])
 (.cond (.t 12)
 (.drw [[], [], [], [], []] [dO 13 (.mv (.t 0)), dO 14 (.nck (.t 13)), dO 15 (.fa 0 (.t 14)), dO 16 (.ld (some 4) (.t 5)), dO 17 (.call n_pw_fail [.t 15, kI 14, .t 16])])
 (.skip)))
 (.seq (.drw [[], [], [], [], [], [], [], []] [dO 18 (.fa 2 (.t 5)), dO 19 (.ldq none (.t 18) (.t 5)), dO 20 (.mv (.t 0)), dO 21 (.mv (.t 1)), dO 22 (.ia .add .i64 (.t 21) (kI 1)), dO 23 (.callh n_pp_block [.t 20, .t 22] (.t 5)), dO 24 (.bld [iZ, .str [], iZ, .sl 4 [], .sl 7 [], .sl 7 [], .bool false] [(0, 1, kI 14), (2, 1, .t 19), (4, 1, .t 23)]), ⟨none, none, .st 7 (.t 4) (.t 24)⟩])
 (.ret))))) }
def b_pp_txn_0 : AC :=
 .block 1 (.seq (.seq (.reg [dO 17 (.mv (.t 0)), dO 18 (.nck (.t 17)), dO 19 (.fa 0 (.t 18)), dO 20 (.bsl 1 [.str []] 1 [(0, 1, kS [119, 114, 105, 116, 101])] false), dO 21 (.call n_pw_sees [.t 19, .t 20]), dO 16 (.mv (.t 21)), dO 22 (.ext (.t 16) 0), dO 23 (.ext (.t 16) 1), dO 6 (.tk (.t 22)), dO 7 (.tk (.t 23))])
 (.seq (.reg [dO 24 (.mv (.t 7)), dO 25 (.notb (.t 24))])
 (.cond (.t 25)
 (.exit 0)
 (.skip))))
 (.seq (.seq (.reg [dO 26 (.fa 4 (.t 5)), dO 27 (.ld none (.t 26)), dO 28 (.len false (.t 27)), dO 29 (.ic .eql (.t 28) (kI 8))])
 (.cond (.t 29)
 (.seq (.drw [[], [], [], [], [], [], [], []] [dO 30 (.mv (.t 0)), dO 31 (.nck (.t 30)), dO 32 (.fa 0 (.t 31)), dO 33 (.mv (.t 0)), dO 34 (.nck (.t 33)), dO 35 (.fa 0 (.t 34)), dO 36 (.call n_pw_head [.t 35]), dO 37 (.call n_pw_fail [.t 32, kI 14, .t 36])])
 (.exit 0))
 (.skip)))
 (.drw [[], [], [], [], [], [], [], [], [], []] [dO 38 (.fa 4 (.t 5)), dO 39 (.ldoq (.t 38) (.t 5)), dO 40 (.mv (.t 0)), dO 41 (.mv (.t 1)), dO 42 (.ia .add .i64 (.t 41) (kI 1)), dO 43 (.callh n_pp_stmt [.t 40, .t 42] (.t 5)), dO 44 (.bsl 7 [iZ, .str [], iZ, .sl 4 [], .sl 7 [], .sl 7 [], .bool false] 1 [(0, 7, .t 43)] false), dO 45 (.app 7 112 (.t 39) (.t 44) false), dO 46 (.fa 4 (.t 5)), ⟨none, none, .st 1 (.t 46) (.t 45)⟩])))
def l_pp_txn_0 : AC :=
 .loop [0, 1, 4, 5] b_pp_txn_0
def r_pp_txn_0 : AC :=
 .seq (.reg [dO 47 (.mv (.t 0)), dO 48 (.nck (.t 47)), dO 49 (.fa 0 (.t 48)), dO 50 (.call n_pw_wants [.t 49, kS [125]])])
 (.seq (.reg [dO 52 (.mv (.t 0)), dO 53 (.nck (.t 52)), dO 54 (.fa 0 (.t 53)), dO 55 (.bsl 1 [.str []] 1 [(0, 1, kS [99, 111, 109, 109, 105, 116])] false), dO 56 (.call n_pw_takes [.t 54, .t 55]), dO 51 (.mv (.t 56)), dO 57 (.ext (.t 51) 0), dO 58 (.ext (.t 51) 1), dO 59 (.fa 6 (.t 5)), ⟨none, none, .st 1 (.t 59) (.t 58)⟩])
 (.seq (.reg [dO 60 (.mv (.t 0)), dO 61 (.nck (.t 60)), dO 62 (.fa 0 (.t 61)), dO 63 (.call n_pw_wants [.t 62, kS [59]])])
 (.seq (.reg [dO 64 (.ld (some 7) (.t 5)), ⟨none, none, .st 7 (.t 4) (.t 64)⟩])
 (.ret))))
def c_pp_txn : AFunc :=
 { np := 2, res := [.cell 4 (some 7)], body := (
 .seq (.reg [dO 4 (.alloc [iZ, .str [], iZ, .own 4 [], .own 7 [], .own 7 [], .bool false])])
 (.seq (.reg [dO 8 (.mv (.t 0)), dO 9 (.call n_pp_whole [.t 8, kS [123]]), dO 10 (.bsl 4 [iZ, iZ, .str [], .sl 4 []] 1 [(0, 4, .t 9)] false), dO 11 (.bld [iZ, .str [], iZ, .sl 4 [], .nils 7, .sl 7 [], .bool false] [(0, 1, kI 16), (3, 1, .t 10)]), dO 5 (.alloc [iZ, .str [], iZ, .own 4 [], .own 7 [], .own 7 [], .bool false]), ⟨none, none, .st 7 (.t 5) (.t 11)⟩])
 (.seq (.reg [dO 12 (.mv (.t 0)), dO 13 (.nck (.t 12)), dO 14 (.fa 0 (.t 13)), dO 15 (.call n_pw_wants [.t 14, kS [123]])])
 (.seq (.block 0 (l_pp_txn_0)) r_pp_txn_0)))) }
def c_tree_Exprs : AFunc :=
 { np := 1, res := [.t 2, .t 3], body := (
 .seq (.reg [dO 2 (.tk (kI 0)), dO 3 (.tk kF)])
 (.seq (.seq (.reg [dO 4 (.mv (.t 0))])
 (.block 0 (.seq (.seq (.reg [dO 6 (.ic .eql (.t 4) (kI 11)), dO 5 (.tk (.t 6))])
 (.cond (.t 5)
 (.skip)
 (.seq (.reg [dO 7 (.ic .eql (.t 4) (kI 14)), dO 5 (.tk (.t 7))])
 (.cond (.t 5)
 (.skip)
 (.reg [dO 8 (.ic .eql (.t 4) (kI 15)), dO 5 (.tk (.t 8))])))))
 (.cond (.t 5)
 (.seq (.reg [dO 2 (.tk (kI 0)), dO 3 (.tk kT)])
 (.ret))
 (.seq (.seq (.reg [dO 10 (.ic .eql (.t 4) (kI 4)), dO 9 (.tk (.t 10))])
 (.cond (.t 9)
 (.skip)
 (.seq (.reg [dO 11 (.ic .eql (.t 4) (kI 5)), dO 9 (.tk (.t 11))])
 (.cond (.t 9)
 (.skip)
 (.reg [dO 12 (.ic .eql (.t 4) (kI 6)), dO 9 (.tk (.t 12))])))))
 (.cond (.t 9)
 (.seq (.reg [dO 2 (.tk (kI 2)), dO 3 (.tk kT)])
 (.ret))
 (.seq (.reg [dO 14 (.ic .eql (.t 4) (kI 3)), dO 13 (.tk (.t 14))])
 (.cond (.t 13)
 (.seq (.reg [dO 2 (.tk (kI 3)), dO 3 (.tk kT)])
 (.ret))
 (.skip)))))))))
 (.seq (.seq (.reg [dO 15 (.mv (.t 0)), dO 16 (.ic .lss (.t 15) (kI 1)), dO 17 (.mv (.t 16)), ⟨some 18, (some (17, false)), .mv (.t 0)⟩, ⟨some 19, (some (17, false)), .ic .gtr (.t 18) (kI 18)⟩, dO 20 (.pick (.t 17) kT (.t 19))])
 (.cond (.t 20)
 (.seq (.reg [dO 2 (.tk (kI 0)), dO 3 (.tk kF)])
 (.ret))
 (.skip)))
 (.seq (.reg [dO 2 (.tk (kI 1)), dO 3 (.tk kT)])
 (.ret))))) }
def c_tree_blocks : AFunc :=
 { np := 1, res := [.t 2, .t 3], body := (
 .seq (.reg [dO 2 (.tk kF), dO 3 (.tk kF)])
 (.seq (.reg [dO 4 (.mv (.t 0)), dO 5 (.ic .eql (.t 4) (kI 13)), dO 6 (.mv (.t 5)), ⟨some 7, (some (6, false)), .mv (.t 0)⟩, ⟨some 8, (some (6, false)), .ic .eql (.t 7) (kI 14)⟩, dO 9 (.pick (.t 6) kT (.t 8)), dO 10 (.mv (.t 9)), ⟨some 11, (some (10, false)), .mv (.t 0)⟩, ⟨some 12, (some (10, false)), .ic .eql (.t 11) (kI 16)⟩, dO 13 (.pick (.t 10) kT (.t 12)), dO 14 (.mv (.t 0)), dO 15 (.ic .eql (.t 14) (kI 13)), dO 2 (.tk (.t 13)), dO 3 (.tk (.t 15))])
 (.ret))) }
def c_tree_shape_1 : AFunc :=
 { np := 1, res := [.t 2], body := (
 .seq (.reg [dO 1 (.box (.t 0)), dO 2 (.tk kF)])
 (.seq (.reg [dO 3 (.ld (some 4) (.t 1)), dO 4 (.callc n_tree_expr [.t 3, kI 8]), dO 5 (.notb (.t 4)), dO 2 (.tk (.t 5))])
 (.ret))) }
def c_parse_kind : AFunc :=
 { np := 1, res := [.t 2], body := (
 .seq (.reg [dO 2 (.tk (kI 0))])
 (.seq (.seq (.reg [dO 3 (.mv (.t 0))])
 (.block 0 (.seq (.reg [dO 5 (.sop .eql (.t 3) (kS [101, 120, 105, 115, 116, 115])), dO 4 (.tk (.t 5))])
 (.cond (.t 4)
 (.seq (.reg [dO 2 (.tk (kI 5))])
 (.ret))
 (.seq (.reg [dO 7 (.sop .eql (.t 3) (kS [115, 105, 122, 101])), dO 6 (.tk (.t 7))])
 (.cond (.t 6)
 (.seq (.reg [dO 2 (.tk (kI 6))])
 (.ret))
 (.seq (.reg [dO 9 (.sop .eql (.t 3) (kS [114, 101, 97, 100])), dO 8 (.tk (.t 9))])
 (.cond (.t 8)
 (.seq (.reg [dO 2 (.tk (kI 7))])
 (.ret))
 (.seq (.reg [dO 11 (.sop .eql (.t 3) (kS [110, 111, 116])), dO 10 (.tk (.t 11))])
 (.cond (.t 10)
 (.seq (.reg [dO 2 (.tk (kI 8))])
 (.ret))
 (.seq (.reg [dO 13 (.sop .eql (.t 3) (kS [43])), dO 12 (.tk (.t 13))])
 (.cond (.t 12)
 (.seq (.reg [dO 2 (.tk (kI 9))])
 (.ret))
 (.seq (.reg [dO 15 (.sop .eql (.t 3) (kS [45])), dO 14 (.tk (.t 15))])
 (.cond (.t 14)
 (.seq (.reg [dO 2 (.tk (kI 10))])
 (.ret))
 (.seq (.reg [dO 17 (.sop .eql (.t 3) (kS [61, 61])), dO 16 (.tk (.t 17))])
 (.cond (.t 16)
 (.seq (.reg [dO 2 (.tk (kI 11))])
 (.ret))
 (.seq (.reg [dO 19 (.sop .eql (.t 3) (kS [60])), dO 18 (.tk (.t 19))])
 (.cond (.t 18)
 (.seq (.reg [dO 2 (.tk (kI 12))])
 (.ret))
 (.seq (.reg [dO 21 (.sop .eql (.t 3) (kS [97, 110, 100])), dO 20 (.tk (.t 21))])
 (.cond (.t 20)
 (.seq (.reg [dO 2 (.tk (kI 13))])
 (.ret))
 (.skip)))))))))))))))))))))
 (.seq (.reg [dO 2 (.tk (kI 14))])
 (.ret)))) }
def c_pp_not : AFunc :=
 { np := 1, res := [.cell 2 (some 4)], body := (
 .seq (.reg [dO 2 (.alloc [iZ, iZ, .str [], .own 4 []])])
 (.seq (.seq (.reg [dO 6 (.mv (.t 0)), dO 7 (.nck (.t 6)), dO 8 (.fa 0 (.t 7)), dO 9 (.bsl 1 [.str []] 1 [(0, 1, kS [110, 111, 116])] false), dO 10 (.call n_pw_takes [.t 8, .t 9]), dO 5 (.mv (.t 10)), dO 11 (.ext (.t 5) 0), dO 12 (.ext (.t 5) 1), dO 3 (.tk (.t 11)), dO 4 (.tk (.t 12))])
 (.seq (.reg [dO 13 (.mv (.t 4))])
 (.cond (.t 13)
 (.seq (.reg [dO 14 (.mv (.t 0)), dO 15 (.call n_pp_not [.t 14]), dO 16 (.bsl 4 [iZ, iZ, .str [], .sl 4 []] 1 [(0, 4, .t 15)] false), dO 17 (.bld [iZ, iZ, .str [], .sl 4 []] [(0, 1, kI 8), (3, 1, .t 16)]), ⟨none, none, .st 4 (.t 2) (.t 17)⟩])
 (.ret))
 (.skip))))
 (.seq (.reg [dO 18 (.mv (.t 0)), dO 19 (.call n_pp_compare [.t 18]), ⟨none, none, .st 4 (.t 2) (.t 19)⟩])
 (.ret)))) }
def c_strings_CutPrefix : AFunc :=
 { np := 2, res := [.t 4, .t 5], body := (
 .seq (.reg [dO 4 (.tk (kS [])), dO 5 (.tk kF)])
 (.seq (.reg [dO 6 (.mv (.t 0)), dO 7 (.mv (.t 1)), dO 8 (.callc n_isl_CutPrefix [.t 6, .t 7]), dO 9 (.ext (.t 8) 0), dO 10 (.ext (.t 8) 1), dO 4 (.tk (.t 9)), dO 5 (.tk (.t 10))])
 (.ret))) }
def c_strings_CutSuffix : AFunc :=
 { np := 2, res := [.t 4, .t 5], body := (
 .seq (.reg [dO 4 (.tk (kS [])), dO 5 (.tk kF)])
 (.seq (.reg [dO 6 (.mv (.t 0)), dO 7 (.mv (.t 1)), dO 8 (.callc n_isl_CutSuffix [.t 6, .t 7]), dO 9 (.ext (.t 8) 0), dO 10 (.ext (.t 8) 1), dO 4 (.tk (.t 9)), dO 5 (.tk (.t 10))])
 (.ret))) }
def c_view_pair : AFunc :=
 { np := 1, res := [.t 2, .t 3], body := (
 .seq (.reg [dO 2 (.tk (.c (.int .u8 0))), dO 3 (.tk kF)])
 (.seq (.seq (.reg [dO 7 (.mv (.t 0)), dO 8 (.len true (.t 7)), dO 9 (.ic .lss (.t 8) (kI 2))])
 (.cond (.t 9)
 (.seq (.reg [dO 2 (.tk (.c (.int .u8 0))), dO 3 (.tk kF)])
 (.ret))
 (.skip)))
 (.seq (.drw [[], [], [], [], [], [], [], []] [dO 10 (.mv (.t 0)), dO 11 (.ixs (.t 10) (kI 0)), dO 12 (.callc n_strings_IndexByte [kS [48, 49, 50, 51, 52, 53, 54, 55, 56, 57, 97, 98, 99, 100, 101, 102], .t 11]), dO 13 (.mv (.t 0)), dO 14 (.ixs (.t 13) (kI 1)), dO 15 (.callc n_strings_IndexByte [kS [48, 49, 50, 51, 52, 53, 54, 55, 56, 57, 97, 98, 99, 100, 101, 102], .t 14]), dO 4 (.tk (.t 12)), dO 5 (.tk (.t 15))])
 (.seq (.seq (.reg [dO 16 (.mv (.t 4)), dO 17 (.ic .lss (.t 16) (kI 0)), dO 18 (.mv (.t 17)), ⟨some 19, (some (18, false)), .mv (.t 5)⟩, ⟨some 20, (some (18, false)), .ic .lss (.t 19) (kI 0)⟩, dO 21 (.pick (.t 18) kT (.t 20))])
 (.cond (.t 21)
 (.seq (.reg [dO 2 (.tk (.c (.int .u8 0))), dO 3 (.tk kF)])
 (.ret))
 (.skip)))
 (.seq (.reg [dO 22 (.mv (.t 4)), dO 23 (.ia .shl .i64 (.t 22) (.c (.int .u64 4))), dO 24 (.mv (.t 5)), dO 25 (.ia .or .i64 (.t 23) (.t 24)), dO 26 (.conv .u8 (.t 25)), dO 6 (.tk (.t 26))])
 (.seq (.reg [dO 27 (.mv (.t 6)), dO 28 (.mv (.t 6)), dO 29 (.callc n_view_plain [.t 28]), dO 30 (.notb (.t 29)), dO 2 (.tk (.t 27)), dO 3 (.tk (.t 30))])
 (.ret))))))) }
def c_pp_compare : AFunc :=
 { np := 1, res := [.cell 2 (some 4)], body := (
 .seq (.reg [dO 2 (.alloc [iZ, iZ, .str [], .own 4 []])])
 (.seq (.reg [dO 3 (.mv (.t 0)), dO 4 (.mv (.t 0)), dO 5 (.mkf (.func n_pp_sum) [.t 4] []), dO 6 (.bsl 1 [.str []] 2 [(0, 1, kS [61, 61]), (1, 1, kS [60])] false), dO 7 (.call n_pp_chain [.t 3, .t 5, kI 1, .t 6]), ⟨none, none, .st 4 (.t 2) (.t 7)⟩])
 (.ret))) }
def c_isl_CutPrefix : AFunc :=
 { np := 2, res := [.t 4, .t 5], body := (
 .seq (.reg [dO 4 (.tk (kS [])), dO 5 (.tk kF)])
 (.seq (.seq (.reg [dO 6 (.mv (.t 0)), dO 7 (.mv (.t 1)), dO 8 (.callc n_isl_HasPrefix [.t 6, .t 7]), dO 9 (.notb (.t 8))])
 (.cond (.t 9)
 (.seq (.reg [dO 10 (.mv (.t 0)), dO 4 (.tk (.t 10)), dO 5 (.tk kF)])
 (.ret))
 (.skip)))
 (.seq (.reg [dO 11 (.mv (.t 0)), dO 12 (.mv (.t 1)), dO 13 (.len true (.t 12)), dO 14 (.slc (.t 11) (some (.t 13)) none), dO 4 (.tk (.t 14)), dO 5 (.tk kT)])
 (.ret)))) }
def c_isl_CutSuffix : AFunc :=
 { np := 2, res := [.t 4, .t 5], body := (
 .seq (.reg [dO 4 (.tk (kS [])), dO 5 (.tk kF)])
 (.seq (.seq (.reg [dO 6 (.mv (.t 0)), dO 7 (.mv (.t 1)), dO 8 (.callc n_isl_HasSuffix [.t 6, .t 7]), dO 9 (.notb (.t 8))])
 (.cond (.t 9)
 (.seq (.reg [dO 10 (.mv (.t 0)), dO 4 (.tk (.t 10)), dO 5 (.tk kF)])
 (.ret))
 (.skip)))
 (.seq (.reg [dO 11 (.mv (.t 0)), dO 12 (.mv (.t 0)), dO 13 (.len true (.t 12)), dO 14 (.mv (.t 1)), dO 15 (.len true (.t 14)), dO 16 (.ia .sub .i64 (.t 13) (.t 15)), dO 17 (.slc (.t 11) none (some (.t 16))), dO 4 (.tk (.t 17)), dO 5 (.tk kT)])
 (.ret)))) }
def c_pp_sum : AFunc :=
 { np := 1, res := [.cell 2 (some 4)], body := (
 .seq (.reg [dO 2 (.alloc [iZ, iZ, .str [], .own 4 []])])
 (.seq (.reg [dO 3 (.mv (.t 0)), dO 4 (.mv (.t 0)), dO 5 (.mkf (.func n_pp_part) [.t 4] []), dO 6 (.bsl 1 [.str []] 2 [(0, 1, kS [43]), (1, 1, kS [45])] false), dO 7 (.call n_pp_chain [.t 3, .t 5, kI 4096, .t 6]), ⟨none, none, .st 4 (.t 2) (.t 7)⟩])
 (.ret))) }
def c_isl_HasSuffix : AFunc :=
 { np := 2, res := [.t 4], body := (
 .seq (.reg [dO 4 (.tk kF)])
 (.seq (.reg [dO 5 (.mv (.t 0)), dO 6 (.len true (.t 5)), dO 7 (.mv (.t 1)), dO 8 (.len true (.t 7)), dO 9 (.ic .geq (.t 6) (.t 8)), dO 10 (.mv (.t 9)), ⟨some 11, (some (10, true)), .mv (.t 0)⟩, ⟨some 12, (some (10, true)), .mv (.t 0)⟩, ⟨some 13, (some (10, true)), .len true (.t 12)⟩, ⟨some 14, (some (10, true)), .mv (.t 1)⟩, ⟨some 15, (some (10, true)), .len true (.t 14)⟩, ⟨some 16, (some (10, true)), .ia .sub .i64 (.t 13) (.t 15)⟩, ⟨some 17, (some (10, true)), .slc (.t 11) (some (.t 16)) none⟩, ⟨some 18, (some (10, true)), .mv (.t 1)⟩, ⟨some 19, (some (10, true)), .sop .eql (.t 17) (.t 18)⟩, dO 20 (.pick (.t 10) (.t 19) kF), dO 4 (.tk (.t 20))])
 (.ret))) }
def c_pp_part : AFunc :=
 { np := 1, res := [.cell 2 (some 4)], body := (
 .seq (.reg [dO 2 (.alloc [iZ, iZ, .str [], .own 4 []])])
 (.seq (.reg [dO 8 (.mv (.t 0)), dO 9 (.nck (.t 8)), dO 10 (.fa 0 (.t 9)), dO 11 (.call n_pw_head [.t 10]), dO 3 (.alloc [iZ, .str [], iZ, iZ]), ⟨none, none, .st 4 (.t 3) (.t 11)⟩])
 (.seq (.seq (.reg [dO 12 (.fa 0 (.t 3)), dO 13 (.ld none (.t 12))])
 (.block 0 (.seq (.reg [dO 15 (.ic .eql (.t 13) (kI 2)), dO 14 (.tk (.t 15))])
 (.cond (.t 14)
 (.seq (.reg [dO 16 (.mv (.t 0)), dO 17 (.nck (.t 16)), dO 18 (.fa 0 (.t 17)), dO 19 (.call n_pw_skip [.t 18]), dO 20 (.fld none 2 (.t 19)), dO 21 (.bld [iZ, iZ, .str [], .sl 4 []] [(0, 1, kI 1), (1, 1, .t 20)]), ⟨none, none, .st 4 (.t 2) (.t 21)⟩])
 (.ret))
 (.seq (.reg [dO 23 (.ic .eql (.t 13) (kI 3)), dO 22 (.tk (.t 23))])
 (.cond (.t 22)
 (.seq (.reg [dO 24 (.mv (.t 0)), dO 25 (.nck (.t 24)), dO 26 (.fa 0 (.t 25)), dO 27 (.call n_pw_skip [.t 26]), dO 28 (.fld none 1 (.t 27)), dO 29 (.bld [iZ, iZ, .str [], .sl 4 []] [(0, 1, kI 2), (2, 1, .t 28)]), ⟨none, none, .st 4 (.t 2) (.t 29)⟩])
 (.ret))
 (.seq (.reg [dO 31 (.ic .eql (.t 13) (kI 1)), dO 30 (.tk (.t 31))])
 (.cond (.t 30)
 (.seq (.reg [dO 32 (.mv (.t 0)), dO 33 (.nck (.t 32)), dO 34 (.fa 0 (.t 33)), dO 35 (.call n_pw_skip [.t 34]), dO 36 (.fld none 1 (.t 35)), dO 37 (.bld [iZ, iZ, .str [], .sl 4 []] [(0, 1, kI 4), (2, 1, .t 36)]), ⟨none, none, .st 4 (.t 2) (.t 37)⟩])
 (.ret))
 (.skip)))))))))
 (.seq (.seq (.reg [dO 39 (.mv (.t 0)), dO 40 (.nck (.t 39)), dO 41 (.fa 0 (.t 40)), dO 42 (.bsl 1 [.str []] 1 [(0, 1, kS [40])] false), dO 43 (.call n_pw_sees [.t 41, .t 42]), dO 38 (.mv (.t 43)), dO 44 (.ext (.t 38) 0), dO 45 (.ext (.t 38) 1), dO 4 (.tk (.t 44)), dO 5 (.tk (.t 45))])
 (.seq (.reg [dO 46 (.mv (.t 5))])
 (.cond (.t 46)
 (.seq (.reg [dO 47 (.mv (.t 0)), dO 48 (.call n_pp_inner [.t 47]), ⟨none, none, .st 4 (.t 2) (.t 48)⟩])
 (.ret))
 (.skip))))
 (.seq (.reg [dO 50 (.mv (.t 0)), dO 51 (.nck (.t 50)), dO 52 (.fa 0 (.t 51)), dO 53 (.bsl 1 [.str []] 5 [(0, 1, kS [116, 114, 117, 101]), (1, 1, kS [102, 97, 108, 115, 101]), (2, 1, kS [101, 120, 105, 115, 116, 115]), (3, 1, kS [115, 105, 122, 101]), (4, 1, kS [114, 101, 97, 100])] false), dO 54 (.call n_pw_takes [.t 52, .t 53]), dO 49 (.mv (.t 54)), dO 55 (.ext (.t 49) 0), dO 56 (.ext (.t 49) 1), dO 6 (.tk (.t 55)), dO 7 (.tk (.t 56))])
 (.seq (.block 1 (.seq (.reg [dO 58 (.mv (.t 7)), dO 59 (.notb (.t 58)), dO 57 (.tk (.t 59))])
 (.cond (.t 57)
 (.seq (.drw [[], [], [], [], []] [dO 60 (.mv (.t 0)), dO 61 (.nck (.t 60)), dO 62 (.fa 0 (.t 61)), dO 63 (.ld (some 4) (.t 3)), dO 64 (.call n_pw_fail [.t 62, kI 12, .t 63])])
 (.seq (.reg [dO 65 (.bld [iZ, iZ, .str [], .sl 4 []] []), ⟨none, none, .st 4 (.t 2) (.t 65)⟩])
 (.ret)))
 (.seq (.reg [dO 67 (.mv (.t 6)), dO 68 (.sop .eql (.t 67) (kS [116, 114, 117, 101])), dO 66 (.tk (.t 68))])
 (.cond (.t 66)
 (.seq (.reg [dO 69 (.bld [iZ, iZ, .str [], .sl 4 []] [(0, 1, kI 3), (1, 1, kI 1)]), ⟨none, none, .st 4 (.t 2) (.t 69)⟩])
 (.ret))
 (.seq (.reg [dO 71 (.mv (.t 6)), dO 72 (.sop .eql (.t 71) (kS [102, 97, 108, 115, 101])), dO 70 (.tk (.t 72))])
 (.cond (.t 70)
 (.seq (.reg [dO 73 (.bld [iZ, iZ, .str [], .sl 4 []] [(0, 1, kI 3)]), ⟨none, none, .st 4 (.t 2) (.t 73)⟩])
 (.ret))
 (.skip))))))))
 (.seq (.reg [dO 74 (.mv (.t 6)), dO 75 (.callc n_parse_kind [.t 74]), dO 76 (.mv (.t 0)), dO 77 (.call n_pp_inner [.t 76]), dO 78 (.bsl 4 [iZ, iZ, .str [], .sl 4 []] 1 [(0, 4, .t 77)] false), dO 79 (.bld [iZ, iZ, .str [], .sl 4 []] [(0, 1, .t 75), (3, 1, .t 78)]), ⟨none, none, .st 4 (.t 2) (.t 79)⟩])
 (.ret)))))))) }
def c_pp_inner : AFunc :=
 { np := 1, res := [.cell 2 (some 4)], body := (
 .seq (.reg [dO 2 (.alloc [iZ, iZ, .str [], .own 4 []])])
 (.seq (.reg [dO 4 (.mv (.t 0)), dO 5 (.nck (.t 4)), dO 6 (.fa 0 (.t 5)), dO 7 (.call n_pw_wants [.t 6, kS [40]])])
 (.seq (.reg [dO 8 (.mv (.t 0)), dO 9 (.call n_pp_expr [.t 8]), dO 3 (.alloc [iZ, iZ, .str [], .own 4 []]), ⟨none, none, .st 4 (.t 3) (.t 9)⟩])
 (.seq (.reg [dO 10 (.mv (.t 0)), dO 11 (.nck (.t 10)), dO 12 (.fa 0 (.t 11)), dO 13 (.call n_pw_wants [.t 12, kS [41]])])
 (.seq (.reg [dO 14 (.ld (some 4) (.t 3)), ⟨none, none, .st 4 (.t 2) (.t 14)⟩])
 (.ret)))))) }
def tbl : Tbl := Tab.get [(5, c_l18_PrintBack), (6, c_l16_Small), (7, c_l18_knows), (8, c_pP), (10, c_print_Expr), (12, c_parse_Program), (13, c_r16_Same), (14, c_tree_Right), (15, c_l15_Fault), (16, c_parse_Expr), (17, c_r16_SameExpr), (18, c_r16_Size), (19, c_pq_add), (20, c_pq_block), (21, c_pq_expr), (27, c_lex_Words), (28, c_pp_program), (29, c_r16_SameStmts), (30, c_tree_All), (31, c_tree_Right_1), (32, c_lex_Name), (33, c_tree_Right_2), (34, c_tree_expr), (35, c_tree_Right_3), (36, c_tree_block), (37, c_sC_Proc_api_Proc), (38, c_sC_Oracle_api_Oracle), (39, c_sC_Stmt_api_Stmt), (40, c_tree_parts), (41, c_pp_whole), (42, c_r16_block), (43, c_r16_expr), (46, c_pq_stmt), (47, c_print_strong), (48, c_num_Digits), (49, c_view_Quote), (50, c_print_call), (51, c_print_sign), (61, c_lex_skip), (62, c_lex_next), (63, c_pp_named), (64, c_pp_block), (65, c_pw_wants), (66, c_pw_takes), (67, c_pw_of), (68, c_r16_SameStmt), (69, c_tree_walk), (70, c_tree_cloned), (71, c_lex_begins), (72, c_lex_letter), (74, c_lex_inner), (75, c_lex_Key), (76, c_tree_Parts), (77, c_sC_Expr_api_Expr), (78, c_tree_expr_1), (79, c_sC_Stmt_api_Stmt_x), (80, c_tree_block_1), (81, c_tree_stmt), (82, c_sI_Proc_api_Proc), (83, c_sI_Oracle_api_Oracle), (84, c_sI_Stmt_api_Stmt), (85, c_pw_head), (86, c_pp_expr), (87, c_pw_sees), (88, c_pw_fail), (89, c_parse_deep), (92, c_strings_HasPrefix), (95, c_print_key), (96, c_pq_exprs), (98, c_view_plain), (108, c_lex_word), (109, c_lex_digit), (110, c_lex_number), (111, c_lex_text), (112, c_lex_sign), (113, c_pp_stmt), (114, c_pw_skip), (115, c_tree_walk_1), (116, c_tree_each_api_Expr), (117, c_tree_clonedExpr), (118, c_tree_each_api_Stmt), (122, c_sI_Expr_api_Expr), (123, c_sI_Stmt_api_Stmt_x), (124, c_tree_shape), (125, c_tree_stmt_1), (126, c_pp_chain), (127, c_pp_both), (131, c_isl_HasPrefix), (141, c_num_Read), (142, c_view_Unquote), (143, c_parse_simple), (144, c_pp_exprs), (145, c_pp_choice), (146, c_pp_loop), (147, c_pp_txn), (150, c_tree_Exprs), (151, c_tree_blocks), (152, c_tree_shape_1), (153, c_parse_kind), (154, c_pp_not), (162, c_strings_CutPrefix), (163, c_strings_CutSuffix), (164, c_view_pair), (166, c_pp_compare), (170, c_isl_CutPrefix), (171, c_isl_CutSuffix), (175, c_pp_sum), (179, c_isl_HasSuffix), (181, c_pp_part), (182, c_pp_inner), (2003000, ⟨0, .seq a_tree_All_0 y_tree_All_0, []⟩), (2011500, ⟨0, .seq a_tree_walk_1_0 y_tree_walk_1_0, []⟩)]
theorem t_l18_PrintBack : tbl n_l18_PrintBack = some c_l18_PrintBack := by kernel_rfl
theorem t_l16_Small : tbl n_l16_Small = some c_l16_Small := by kernel_rfl
theorem t_l18_knows : tbl n_l18_knows = some c_l18_knows := by kernel_rfl
theorem t_pP : tbl n_pP = some c_pP := by kernel_rfl
theorem t_print_Expr : tbl n_print_Expr = some c_print_Expr := by kernel_rfl
theorem t_parse_Program : tbl n_parse_Program = some c_parse_Program := by kernel_rfl
theorem t_r16_Same : tbl n_r16_Same = some c_r16_Same := by kernel_rfl
theorem t_tree_Right : tbl n_tree_Right = some c_tree_Right := by kernel_rfl
theorem t_l15_Fault : tbl n_l15_Fault = some c_l15_Fault := by kernel_rfl
theorem t_parse_Expr : tbl n_parse_Expr = some c_parse_Expr := by kernel_rfl
theorem t_r16_SameExpr : tbl n_r16_SameExpr = some c_r16_SameExpr := by kernel_rfl
theorem t_r16_Size : tbl n_r16_Size = some c_r16_Size := by kernel_rfl
theorem t_pq_add : tbl n_pq_add = some c_pq_add := by kernel_rfl
theorem t_pq_block : tbl n_pq_block = some c_pq_block := by kernel_rfl
theorem t_pq_expr : tbl n_pq_expr = some c_pq_expr := by kernel_rfl
theorem t_lex_Words : tbl n_lex_Words = some c_lex_Words := by kernel_rfl
theorem t_pp_program : tbl n_pp_program = some c_pp_program := by kernel_rfl
theorem t_r16_SameStmts : tbl n_r16_SameStmts = some c_r16_SameStmts := by kernel_rfl
theorem t_tree_All : tbl n_tree_All = some c_tree_All := by kernel_rfl
theorem t_tree_Right_1 : tbl n_tree_Right_1 = some c_tree_Right_1 := by kernel_rfl
theorem t_lex_Name : tbl n_lex_Name = some c_lex_Name := by kernel_rfl
theorem t_tree_Right_2 : tbl n_tree_Right_2 = some c_tree_Right_2 := by kernel_rfl
theorem t_tree_expr : tbl n_tree_expr = some c_tree_expr := by kernel_rfl
theorem t_tree_Right_3 : tbl n_tree_Right_3 = some c_tree_Right_3 := by kernel_rfl
theorem t_tree_block : tbl n_tree_block = some c_tree_block := by kernel_rfl
theorem t_sC_Proc_api_Proc : tbl n_sC_Proc_api_Proc = some c_sC_Proc_api_Proc := by kernel_rfl
theorem t_sC_Oracle_api_Oracle : tbl n_sC_Oracle_api_Oracle = some c_sC_Oracle_api_Oracle := by kernel_rfl
theorem t_sC_Stmt_api_Stmt : tbl n_sC_Stmt_api_Stmt = some c_sC_Stmt_api_Stmt := by kernel_rfl
theorem t_tree_parts : tbl n_tree_parts = some c_tree_parts := by kernel_rfl
theorem t_pp_whole : tbl n_pp_whole = some c_pp_whole := by kernel_rfl
theorem t_r16_block : tbl n_r16_block = some c_r16_block := by kernel_rfl
theorem t_r16_expr : tbl n_r16_expr = some c_r16_expr := by kernel_rfl
theorem t_pq_stmt : tbl n_pq_stmt = some c_pq_stmt := by kernel_rfl
theorem t_print_strong : tbl n_print_strong = some c_print_strong := by kernel_rfl
theorem t_num_Digits : tbl n_num_Digits = some c_num_Digits := by kernel_rfl
theorem t_view_Quote : tbl n_view_Quote = some c_view_Quote := by kernel_rfl
theorem t_print_call : tbl n_print_call = some c_print_call := by kernel_rfl
theorem t_print_sign : tbl n_print_sign = some c_print_sign := by kernel_rfl
theorem t_lex_skip : tbl n_lex_skip = some c_lex_skip := by kernel_rfl
theorem t_lex_next : tbl n_lex_next = some c_lex_next := by kernel_rfl
theorem t_pp_named : tbl n_pp_named = some c_pp_named := by kernel_rfl
theorem t_pp_block : tbl n_pp_block = some c_pp_block := by kernel_rfl
theorem t_pw_wants : tbl n_pw_wants = some c_pw_wants := by kernel_rfl
theorem t_pw_takes : tbl n_pw_takes = some c_pw_takes := by kernel_rfl
theorem t_pw_of : tbl n_pw_of = some c_pw_of := by kernel_rfl
theorem t_r16_SameStmt : tbl n_r16_SameStmt = some c_r16_SameStmt := by kernel_rfl
theorem t_tree_walk : tbl n_tree_walk = some c_tree_walk := by kernel_rfl
theorem t_tree_cloned : tbl n_tree_cloned = some c_tree_cloned := by kernel_rfl
theorem t_lex_begins : tbl n_lex_begins = some c_lex_begins := by kernel_rfl
theorem t_lex_letter : tbl n_lex_letter = some c_lex_letter := by kernel_rfl
theorem t_lex_inner : tbl n_lex_inner = some c_lex_inner := by kernel_rfl
theorem t_lex_Key : tbl n_lex_Key = some c_lex_Key := by kernel_rfl
theorem t_tree_Parts : tbl n_tree_Parts = some c_tree_Parts := by kernel_rfl
theorem t_sC_Expr_api_Expr : tbl n_sC_Expr_api_Expr = some c_sC_Expr_api_Expr := by kernel_rfl
theorem t_tree_expr_1 : tbl n_tree_expr_1 = some c_tree_expr_1 := by kernel_rfl
theorem t_sC_Stmt_api_Stmt_x : tbl n_sC_Stmt_api_Stmt_x = some c_sC_Stmt_api_Stmt_x := by kernel_rfl
theorem t_tree_block_1 : tbl n_tree_block_1 = some c_tree_block_1 := by kernel_rfl
theorem t_tree_stmt : tbl n_tree_stmt = some c_tree_stmt := by kernel_rfl
theorem t_sI_Proc_api_Proc : tbl n_sI_Proc_api_Proc = some c_sI_Proc_api_Proc := by kernel_rfl
theorem t_sI_Oracle_api_Oracle : tbl n_sI_Oracle_api_Oracle = some c_sI_Oracle_api_Oracle := by kernel_rfl
theorem t_sI_Stmt_api_Stmt : tbl n_sI_Stmt_api_Stmt = some c_sI_Stmt_api_Stmt := by kernel_rfl
theorem t_pw_head : tbl n_pw_head = some c_pw_head := by kernel_rfl
theorem t_pp_expr : tbl n_pp_expr = some c_pp_expr := by kernel_rfl
theorem t_pw_sees : tbl n_pw_sees = some c_pw_sees := by kernel_rfl
theorem t_pw_fail : tbl n_pw_fail = some c_pw_fail := by kernel_rfl
theorem t_parse_deep : tbl n_parse_deep = some c_parse_deep := by kernel_rfl
theorem t_strings_HasPrefix : tbl n_strings_HasPrefix = some c_strings_HasPrefix := by kernel_rfl
theorem t_print_key : tbl n_print_key = some c_print_key := by kernel_rfl
theorem t_pq_exprs : tbl n_pq_exprs = some c_pq_exprs := by kernel_rfl
theorem t_view_plain : tbl n_view_plain = some c_view_plain := by kernel_rfl
theorem t_lex_word : tbl n_lex_word = some c_lex_word := by kernel_rfl
theorem t_lex_digit : tbl n_lex_digit = some c_lex_digit := by kernel_rfl
theorem t_lex_number : tbl n_lex_number = some c_lex_number := by kernel_rfl
theorem t_lex_text : tbl n_lex_text = some c_lex_text := by kernel_rfl
theorem t_lex_sign : tbl n_lex_sign = some c_lex_sign := by kernel_rfl
theorem t_pp_stmt : tbl n_pp_stmt = some c_pp_stmt := by kernel_rfl
theorem t_pw_skip : tbl n_pw_skip = some c_pw_skip := by kernel_rfl
theorem t_tree_walk_1 : tbl n_tree_walk_1 = some c_tree_walk_1 := by kernel_rfl
theorem t_tree_each_api_Expr : tbl n_tree_each_api_Expr = some c_tree_each_api_Expr := by kernel_rfl
theorem t_tree_clonedExpr : tbl n_tree_clonedExpr = some c_tree_clonedExpr := by kernel_rfl
theorem t_tree_each_api_Stmt : tbl n_tree_each_api_Stmt = some c_tree_each_api_Stmt := by kernel_rfl
theorem t_sI_Expr_api_Expr : tbl n_sI_Expr_api_Expr = some c_sI_Expr_api_Expr := by kernel_rfl
theorem t_sI_Stmt_api_Stmt_x : tbl n_sI_Stmt_api_Stmt_x = some c_sI_Stmt_api_Stmt_x := by kernel_rfl
theorem t_tree_shape : tbl n_tree_shape = some c_tree_shape := by kernel_rfl
theorem t_tree_stmt_1 : tbl n_tree_stmt_1 = some c_tree_stmt_1 := by kernel_rfl
theorem t_pp_chain : tbl n_pp_chain = some c_pp_chain := by kernel_rfl
theorem t_pp_both : tbl n_pp_both = some c_pp_both := by kernel_rfl
theorem t_isl_HasPrefix : tbl n_isl_HasPrefix = some c_isl_HasPrefix := by kernel_rfl
theorem t_num_Read : tbl n_num_Read = some c_num_Read := by kernel_rfl
theorem t_view_Unquote : tbl n_view_Unquote = some c_view_Unquote := by kernel_rfl
theorem t_parse_simple : tbl n_parse_simple = some c_parse_simple := by kernel_rfl
theorem t_pp_exprs : tbl n_pp_exprs = some c_pp_exprs := by kernel_rfl
theorem t_pp_choice : tbl n_pp_choice = some c_pp_choice := by kernel_rfl
theorem t_pp_loop : tbl n_pp_loop = some c_pp_loop := by kernel_rfl
theorem t_pp_txn : tbl n_pp_txn = some c_pp_txn := by kernel_rfl
theorem t_tree_Exprs : tbl n_tree_Exprs = some c_tree_Exprs := by kernel_rfl
theorem t_tree_blocks : tbl n_tree_blocks = some c_tree_blocks := by kernel_rfl
theorem t_tree_shape_1 : tbl n_tree_shape_1 = some c_tree_shape_1 := by kernel_rfl
theorem t_parse_kind : tbl n_parse_kind = some c_parse_kind := by kernel_rfl
theorem t_pp_not : tbl n_pp_not = some c_pp_not := by kernel_rfl
theorem t_strings_CutPrefix : tbl n_strings_CutPrefix = some c_strings_CutPrefix := by kernel_rfl
theorem t_strings_CutSuffix : tbl n_strings_CutSuffix = some c_strings_CutSuffix := by kernel_rfl
theorem t_view_pair : tbl n_view_pair = some c_view_pair := by kernel_rfl
theorem t_pp_compare : tbl n_pp_compare = some c_pp_compare := by kernel_rfl
theorem t_isl_CutPrefix : tbl n_isl_CutPrefix = some c_isl_CutPrefix := by kernel_rfl
theorem t_isl_CutSuffix : tbl n_isl_CutSuffix = some c_isl_CutSuffix := by kernel_rfl
theorem t_pp_sum : tbl n_pp_sum = some c_pp_sum := by kernel_rfl
theorem t_isl_HasSuffix : tbl n_isl_HasSuffix = some c_isl_HasSuffix := by kernel_rfl
theorem t_pp_part : tbl n_pp_part = some c_pp_part := by kernel_rfl
theorem t_pp_inner : tbl n_pp_inner = some c_pp_inner := by kernel_rfl
theorem u_tree_All_0 : tbl q_tree_All_0 = some ⟨0, .seq a_tree_All_0 y_tree_All_0, []⟩ := by kernel_rfl
theorem u_tree_walk_1_0 : tbl q_tree_walk_1_0 = some ⟨0, .seq a_tree_walk_1_0 y_tree_walk_1_0, []⟩ := by kernel_rfl
def noExt : Ext := fun k => if k = n_strings_Contains then some (xContains) else if k = n_strings_Fields then some (xFields) else if k = n_strings_Repeat then some (xRepeat) else if k = n_strings_TrimLeft then some (xTrimLeft) else if k = n_strings_IndexByte then some (xIndexByte) else if k = n_pstrings_Builder_WriteByte then some (xWriteByte bT bP bE) else if k = n_pstrings_Builder_WriteString then some (xWriteString bT bP bE) else if k = n_pstrings_Builder_String then some (xString bT bP bE) else if k = n_lex_run then some (xRun n_lex_letter n_lex_digit n_lex_inner) else none
@[simp] theorem lt_l18_PrintBack : n_l18_PrintBack < yBase := ltB rfl
@[simp] theorem lt_l16_Small : n_l16_Small < yBase := ltB rfl
@[simp] theorem lt_l18_knows : n_l18_knows < yBase := ltB rfl
@[simp] theorem lt_pP : n_pP < yBase := ltB rfl
@[simp] theorem ltAll : n_print_Expr < yBase ∧ n_r16_Same < yBase ∧ n_l15_Fault < yBase ∧ n_parse_Expr < yBase ∧ n_r16_SameExpr < yBase ∧ n_r16_Size < yBase ∧ n_pq_expr < yBase ∧ n_pstrings_Builder_String < yBase ∧ n_lex_Words < yBase ∧ n_pp_program < yBase ∧ n_r16_SameStmts < yBase ∧ n_tree_All < yBase ∧ n_lex_Name < yBase ∧ n_tree_expr < yBase ∧ n_tree_block < yBase ∧ n_sC_Proc_api_Proc < yBase ∧ n_sC_Oracle_api_Oracle < yBase ∧ n_sC_Stmt_api_Stmt < yBase ∧ n_tree_parts < yBase ∧ n_pp_whole < yBase ∧ n_r16_block < yBase ∧ n_r16_expr < yBase ∧ n_pstrings_Builder_WriteString < yBase ∧ n_strings_Repeat < yBase ∧ n_pq_stmt < yBase ∧ n_print_strong < yBase ∧ n_num_Digits < yBase ∧ n_view_Quote < yBase ∧ n_print_call < yBase ∧ n_print_sign < yBase ∧ n_lex_skip < yBase ∧ n_lex_next < yBase ∧ n_pp_named < yBase ∧ n_pp_block < yBase ∧ n_pw_wants < yBase ∧ n_pw_takes < yBase ∧ n_pw_of < yBase ∧ n_r16_SameStmt < yBase ∧ n_tree_walk < yBase ∧ n_tree_cloned < yBase ∧ n_lex_begins < yBase ∧ n_lex_letter < yBase ∧ n_lex_run < yBase ∧ n_lex_inner < yBase ∧ n_lex_Key < yBase ∧ n_tree_Parts < yBase ∧ n_sC_Expr_api_Expr < yBase ∧ n_sC_Stmt_api_Stmt_x < yBase ∧ n_tree_stmt < yBase ∧ n_sI_Proc_api_Proc < yBase ∧ n_sI_Oracle_api_Oracle < yBase ∧ n_sI_Stmt_api_Stmt < yBase ∧ n_pw_head < yBase ∧ n_pp_expr < yBase ∧ n_pw_sees < yBase ∧ n_pw_fail < yBase ∧ n_parse_deep < yBase ∧ n_strings_HasPrefix < yBase ∧ n_print_key < yBase ∧ n_pstrings_Builder_WriteByte < yBase ∧ n_view_plain < yBase ∧ n_strings_TrimLeft < yBase ∧ n_strings_IndexByte < yBase ∧ n_lex_word < yBase ∧ n_lex_digit < yBase ∧ n_lex_number < yBase ∧ n_lex_text < yBase ∧ n_lex_sign < yBase ∧ n_pp_stmt < yBase ∧ n_pw_skip < yBase ∧ n_tree_walk_1 < yBase ∧ n_tree_each_api_Expr < yBase ∧ n_tree_clonedExpr < yBase ∧ n_tree_each_api_Stmt < yBase ∧ n_strings_Contains < yBase ∧ n_sI_Expr_api_Expr < yBase ∧ n_sI_Stmt_api_Stmt_x < yBase ∧ n_tree_shape < yBase ∧ n_pp_chain < yBase ∧ n_isl_HasPrefix < yBase ∧ n_strings_Fields < yBase ∧ n_num_Read < yBase ∧ n_view_Unquote < yBase ∧ n_parse_simple < yBase ∧ n_pp_exprs < yBase ∧ n_pp_choice < yBase ∧ n_pp_loop < yBase ∧ n_pp_txn < yBase ∧ n_tree_Exprs < yBase ∧ n_tree_blocks < yBase ∧ n_parse_kind < yBase ∧ n_strings_CutPrefix < yBase ∧ n_strings_CutSuffix < yBase ∧ n_view_pair < yBase ∧ n_pp_compare < yBase ∧ n_isl_CutPrefix < yBase ∧ n_isl_CutSuffix < yBase ∧ n_isl_HasSuffix < yBase ∧ n_pp_inner < yBase := by and_intros <;> exact ltB rfl
@[simp] theorem lt_parse_Program : n_parse_Program < yBase := ltB rfl
@[simp] theorem lt_tree_Right : n_tree_Right < yBase := ltB rfl
@[simp] theorem lt_pq_add : n_pq_add < yBase := ltB rfl
@[simp] theorem lt_pq_block : n_pq_block < yBase := ltB rfl
@[simp] theorem lt_tree_Right_1 : n_tree_Right_1 < yBase := ltB rfl
@[simp] theorem lt_tree_Right_2 : n_tree_Right_2 < yBase := ltB rfl
@[simp] theorem lt_tree_Right_3 : n_tree_Right_3 < yBase := ltB rfl
@[simp] theorem lt_tree_expr_1 : n_tree_expr_1 < yBase := ltB rfl
@[simp] theorem lt_tree_block_1 : n_tree_block_1 < yBase := ltB rfl
@[simp] theorem lt_pq_exprs : n_pq_exprs < yBase := ltB rfl
@[simp] theorem lt_tree_stmt_1 : n_tree_stmt_1 < yBase := ltB rfl
@[simp] theorem lt_pp_both : n_pp_both < yBase := ltB rfl
@[simp] theorem lt_tree_shape_1 : n_tree_shape_1 < yBase := ltB rfl
@[simp] theorem lt_pp_not : n_pp_not < yBase := ltB rfl
@[simp] theorem lt_pp_sum : n_pp_sum < yBase := ltB rfl
@[simp] theorem lt_pp_part : n_pp_part < yBase := ltB rfl
end Go.AM
