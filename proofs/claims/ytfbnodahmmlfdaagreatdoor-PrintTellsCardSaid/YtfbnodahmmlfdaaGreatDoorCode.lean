/-
 The abstract code of the functions, printed by a program (gen.py) out of the loaded program, and each function's place in the table.
-/
import Derived.Test.YtfbnodahmmlfdaaGreatDoorXlib
namespace Go.AM
abbrev dO (d : Nat) (p : AOp) : AOper := ⟨some d, none, p⟩
@[simp] theorem dO_eq (d : Nat) (p : AOp) : dO d p = ⟨some d, none, p⟩ := rfl

abbrev bT : Nat := 54
abbrev bP : Nat := 56
abbrev bE : Nat := 5
def n_flotsamlaw18_PrintTells : Nat := 3
def n_flotsamlaw16_Small : Nat := 6
def n_flotsamlaw18_knows : Nat := 7
def n_print_Program : Nat := 8
def n_flotsamref18_Program : Nat := 9
def n_print_Expr : Nat := 10
def n_flotsamref18_Expr : Nat := 11
def n_tree_Right : Nat := 14
def n_r16_Size : Nat := 18
def n_pprint_printer_add : Nat := 19
def n_pprint_printer_block : Nat := 20
def n_pprint_printer_expr : Nat := 21
def n_pstrings_Builder_String : Nat := 22
def n_r16_Right : Nat := 23
def n_flotsamref18_block : Nat := 24
def n_flotsamref18_expr : Nat := 25
def n_r16_Expr : Nat := 26
def n_tree_All : Nat := 30
def n_tree_Right_1 : Nat := 31
def n_lex_Name : Nat := 32
def n_tree_Right_2 : Nat := 33
def n_tree_expr : Nat := 34
def n_tree_Right_3 : Nat := 35
def n_tree_block : Nat := 36
def n_slices_ContainsFunc_api_Proc_api_Proc : Nat := 37
def n_slices_ContainsFunc_api_Oracle_api_Oracle : Nat := 38
def n_slices_ContainsFunc_api_Stmt_api_Stmt : Nat := 39
def n_tree_parts : Nat := 40
def n_r16_block : Nat := 42
def n_r16_expr : Nat := 43
def n_pstrings_Builder_WriteString : Nat := 44
def n_strings_Repeat : Nat := 45
def n_pprint_printer_stmt : Nat := 46
def n_print_strong : Nat := 47
def n_num_Digits : Nat := 48
def n_view_Quote : Nat := 49
def n_print_call : Nat := 50
def n_print_sign : Nat := 51
def n_r16_All : Nat := 52
def n_r15_Name : Nat := 53
def n_r16_Block : Nat := 54
def n_flotsamref18_tabs : Nat := 55
def n_flotsamref18_stmt : Nat := 56
def n_r01_Digits : Nat := 57
def n_r14_Quote : Nat := 58
def n_flotsamref18_sub : Nat := 59
def n_r16_Parts : Nat := 60
def n_tree_walk : Nat := 69
def n_tree_cloned : Nat := 70
def n_lex_begins : Nat := 71
def n_lex_letter : Nat := 72
def n_lex_run : Nat := 73
def n_lex_inner : Nat := 74
def n_lex_Key : Nat := 75
def n_tree_Parts : Nat := 76
def n_slices_ContainsFunc_api_Expr_api_Expr : Nat := 77
def n_tree_expr_1 : Nat := 78
def n_slices_ContainsFunc_api_Stmt_api_Stmt_x : Nat := 79
def n_tree_block_1 : Nat := 80
def n_tree_stmt : Nat := 81
def n_slices_IndexFunc_api_Proc_api_Proc : Nat := 82
def n_slices_IndexFunc_api_Oracle_api_Oracle : Nat := 83
def n_slices_IndexFunc_api_Stmt_api_Stmt : Nat := 84
def n_print_key : Nat := 95
def n_pprint_printer_exprs : Nat := 96
def n_pstrings_Builder_WriteByte : Nat := 97
def n_view_plain : Nat := 98
def n_r16_list : Nat := 99
def n_r15_letter : Nat := 100
def n_r15_Key : Nat := 101
def n_r15_inner : Nat := 102
def n_r16_Stmt : Nat := 103
def n_r14_sign : Nat := 104
def n_flotsamref18_closed : Nat := 105
def n_lex_digit : Nat := 109
def n_tree_walk_1 : Nat := 115
def n_tree_each_api_Expr : Nat := 116
def n_tree_clonedExpr : Nat := 117
def n_tree_each_api_Stmt : Nat := 118
def n_strings_Contains : Nat := 121
def n_slices_IndexFunc_api_Expr_api_Expr : Nat := 122
def n_slices_IndexFunc_api_Stmt_api_Stmt_x : Nat := 123
def n_tree_shape : Nat := 124
def n_tree_stmt_1 : Nat := 125
def n_strings_Fields : Nat := 133
def n_r15_digit : Nat := 134
def n_r16_Exprs : Nat := 135
def n_tree_Exprs : Nat := 150
def n_tree_blocks : Nat := 151
def n_tree_shape_1 : Nat := 152

def q_tree_All_0 : Nat := 2003000
def q_tree_walk_1_0 : Nat := 2011500

def b_flotsamlaw18_PrintTells_0 : AC :=
 .seq (.seq (.reg [dO 38 (.mv (.t 7)), dO 39 (.fa 3 (.t 1)), dO 40 (.ld none (.t 39)), dO 41 (.len false (.t 40)), dO 42 (.ic .lss (.t 38) (.t 41))])
 (.cond (.t 42)
 (.skip)
 (.exit 0)))
 (.seq (.block 1 (.seq (.reg [dO 46 (.fa 3 (.t 1)), dO 47 (.ld none (.t 46)), dO 48 (.mv (.t 7)), dO 49 (.ixa 5 none (.t 47) (.t 48)), dO 50 (.fa 1 (.t 49)), dO 51 (.ld (some 4) (.t 50)), dO 52 (.callc n_print_Expr [(.t 51)]), dO 45 (.mv (.t 52)), dO 53 (.ext (.t 45) 0), dO 54 (.ext (.t 45) 1), dO 8 (.tk (.t 53)), dO 9 (.tk (.t 54))])
 (.seq (.reg [dO 56 (.fa 3 (.t 1)), dO 57 (.ld none (.t 56)), dO 58 (.mv (.t 7)), dO 59 (.ixa 5 none (.t 57) (.t 58)), dO 60 (.fa 1 (.t 59)), dO 61 (.ld (some 4) (.t 60)), dO 62 (.callc n_flotsamref18_Expr [(.t 61)]), dO 55 (.mv (.t 62)), dO 63 (.ext (.t 55) 0), dO 64 (.ext (.t 55) 1), dO 10 (.tk (.t 63)), dO 11 (.tk (.t 64))])
 (.seq (.reg [dO 65 (.mv (.t 8)), dO 66 (.mv (.t 10)), dO 67 (.sop .neq (.t 65) (.t 66)), dO 68 (.mv (.t 67)), ⟨some 69, (some (68, false)), .mv (.t 9)⟩, ⟨some 70, (some (68, false)), .mv (.t 11)⟩, ⟨some 71, (some (68, false)), .eqb true (.t 69) (.t 70)⟩, dO 72 (.pick (.t 68) (.c (.bool true)) (.t 71))])
 (.cond (.t 72)
 (.seq (.reg [dO 2 (.tk (.c (.bool false)))])
 (.ret))
 (.skip))))))
 (.reg [dO 43 (.mv (.t 7)), dO 44 (.ia .add .i64 (.t 43) (.c (.int .i64 1))), dO 7 (.tk (.t 44))]))

def l_flotsamlaw18_PrintTells_0 : AC :=
 .loop [1, 7] b_flotsamlaw18_PrintTells_0

def r_flotsamlaw18_PrintTells_0 : AC :=
 .seq (.reg [dO 2 (.tk (.c (.bool true)))])
 (.ret)

def c_flotsamlaw18_PrintTells : AFunc :=
 { np := 1, res := [.t 2], body := (
 .seq (.reg [dO 1 (.box (.t 0)), dO 2 (.tk (.c (.bool false)))])
 (.seq (.seq (.reg [dO 12 (.ld (some 4) (.t 1)), dO 13 (.callc n_flotsamlaw16_Small [(.t 12)]), dO 14 (.notb (.t 13)), dO 15 (.mv (.t 14)), ⟨some 16, (some (15, false)), .callc n_flotsamlaw18_knows []⟩, ⟨some 17, (some (15, false)), .notb (.t 16)⟩, dO 18 (.pick (.t 15) (.c (.bool true)) (.t 17))])
 (.cond (.t 18)
 (.seq (.reg [dO 19 (.callc n_flotsamlaw18_knows []), dO 2 (.tk (.t 19))])
 (.ret))
 (.skip)))
 (.seq (.reg [dO 21 (.ld (some 4) (.t 1)), dO 22 (.callc n_print_Program [(.t 21)]), dO 20 (.mv (.t 22)), dO 23 (.ext (.t 20) 0), dO 24 (.ext (.t 20) 1), dO 3 (.tk (.t 23)), dO 4 (.tk (.t 24))])
 (.seq (.reg [dO 26 (.ld (some 4) (.t 1)), dO 27 (.callc n_flotsamref18_Program [(.t 26)]), dO 25 (.mv (.t 27)), dO 28 (.ext (.t 25) 0), dO 29 (.ext (.t 25) 1), dO 5 (.tk (.t 28)), dO 6 (.tk (.t 29))])
 (.seq (.seq (.reg [dO 30 (.mv (.t 3)), dO 31 (.mv (.t 5)), dO 32 (.sop .neq (.t 30) (.t 31)), dO 33 (.mv (.t 32)), ⟨some 34, (some (33, false)), .mv (.t 4)⟩, ⟨some 35, (some (33, false)), .mv (.t 6)⟩, ⟨some 36, (some (33, false)), .eqb true (.t 34) (.t 35)⟩, dO 37 (.pick (.t 33) (.c (.bool true)) (.t 36))])
 (.cond (.t 37)
 (.seq (.reg [dO 2 (.tk (.c (.bool false)))])
 (.ret))
 (.skip)))
 (.seq (.seq (.reg [dO 7 (.tk (.c (.int .i64 0)))])
 (.block 0 (l_flotsamlaw18_PrintTells_0))) r_flotsamlaw18_PrintTells_0)))))) }

def c_flotsamlaw16_Small : AFunc :=
 { np := 1, res := [.t 2], body := (
 .seq (.reg [dO 1 (.box (.t 0)), dO 2 (.tk (.c (.bool false)))])
 (.seq (.reg [dO 3 (.ld (some 4) (.t 1)), dO 4 (.callc n_r16_Size [(.t 3), (.c (.int .i64 600))]), dO 5 (.ic .leq (.t 4) (.c (.int .i64 600))), dO 2 (.tk (.t 5))])
 (.ret))) }

def c_flotsamlaw18_knows : AFunc :=
 { np := 0, res := [.t 0], body := (
 .seq (.reg [dO 0 (.tk (.c (.bool false)))])
 (.seq (.reg [dO 6 (.bld [.int .i64 0, .str [], .int .i64 0, .sl 4 [], .sl 7 [], .sl 7 [], .bool false] [(0, 1, (.c (.int .i64 11)))]), dO 7 (.bsl 7 [.int .i64 0, .str [], .int .i64 0, .sl 4 [], .sl 7 [], .sl 7 [], .bool false] 1 [(0, 7, (.t 6))] false), dO 8 (.bld [.sl 2 [], .sl 7 [], .sl 7 [], .sl 5 []] [(1, 1, (.t 7))]), dO 9 (.callc n_print_Program [(.t 8)]), dO 5 (.mv (.t 9)), dO 10 (.ext (.t 5) 0), dO 11 (.ext (.t 5) 1), dO 1 (.tk (.t 10)), dO 2 (.tk (.t 11))])
 (.seq (.reg [dO 13 (.bld [.int .i64 0, .int .i64 0, .str [], .sl 4 []] [(0, 1, (.c (.int .i64 4))), (2, 1, (.c (.str [97])))]), dO 14 (.bsl 4 [.int .i64 0, .int .i64 0, .str [], .sl 4 []] 1 [(0, 4, (.t 13))] false), dO 15 (.bld [.int .i64 0, .int .i64 0, .str [], .sl 4 []] [(0, 1, (.c (.int .i64 8))), (3, 1, (.t 14))]), dO 16 (.callc n_print_Expr [(.t 15)]), dO 12 (.mv (.t 16)), dO 17 (.ext (.t 12) 0), dO 18 (.ext (.t 12) 1), dO 3 (.tk (.t 17)), dO 4 (.tk (.t 18))])
 (.seq (.reg [dO 19 (.mv (.t 2)), dO 20 (.mv (.t 19)), ⟨some 21, (some (20, true)), .mv (.t 1)⟩, ⟨some 22, (some (20, true)), .sop .eql (.t 21) (.c (.str [109, 97, 105, 110, 32, 123, 10, 9, 98, 97, 114, 114, 105, 101, 114, 59, 10, 125, 10]))⟩, dO 23 (.pick (.t 20) (.t 22) (.c (.bool false))), dO 24 (.mv (.t 23)), ⟨some 25, (some (24, true)), .mv (.t 4)⟩, dO 26 (.pick (.t 24) (.t 25) (.c (.bool false))), dO 27 (.mv (.t 26)), ⟨some 28, (some (27, true)), .mv (.t 3)⟩, ⟨some 29, (some (27, true)), .sop .eql (.t 28) (.c (.str [110, 111, 116, 32, 97]))⟩, dO 30 (.pick (.t 27) (.t 29) (.c (.bool false))), dO 0 (.tk (.t 30))])
 (.ret))))) }

def b_print_Program_0 : AC :=
 .seq (.reg [dO 16 (.ic .lss (.t 15) (.t 14))])
 (.seq (.cond (.t 16)
 (.skip)
 (.exit 0))
 (.seq (.block 1 (.seq (.reg [dO 17 (.ixa 2 none (.t 13) (.t 15)), dO 18 (.ld (some 2) (.t 17)), dO 6 (.alloc [.str [], .own 7 []]), ⟨none, none, .st 2 (.t 6) (.t 18)⟩])
 (.seq (.reg [dO 19 (.fa 0 (.t 6)), dO 20 (.ld none (.t 19)), dO 21 (.bsl 1 [.str []] 2 [(0, 1, (.c (.str [112, 114, 111, 99, 32]))), (1, 1, (.t 20))] false), dO 22 (.call n_pprint_printer_add [(.t 4), (.t 21)])])
 (.seq (.reg [dO 23 (.fa 1 (.t 6)), dO 24 (.ld none (.t 23)), dO 25 (.call n_pprint_printer_block [(.t 4), (.t 24), (.c (.int .i64 0))])])
 (.reg [dO 26 (.bsl 1 [.str []] 1 [(0, 1, (.c (.str [10])))] false), dO 27 (.call n_pprint_printer_add [(.t 4), (.t 26)])])))))
 (.reg [dO 28 (.ia .add .i64 (.t 15) (.c (.int .i64 1))), dO 15 (.mv (.t 28))])))

def l_print_Program_0 : AC :=
 .loop [1, 4, 13, 14, 15] b_print_Program_0

def b_print_Program_1 : AC :=
 .seq (.reg [dO 51 (.ic .lss (.t 50) (.t 49))])
 (.seq (.cond (.t 51)
 (.skip)
 (.exit 2))
 (.seq (.block 3 (.seq (.reg [dO 52 (.ixa 5 none (.t 48) (.t 50)), dO 53 (.ld (some 5) (.t 52)), dO 8 (.alloc [.str [], .int .i64 0, .int .i64 0, .str [], .own 4 []]), ⟨none, none, .st 5 (.t 8) (.t 53)⟩])
 (.seq (.reg [dO 54 (.fa 0 (.t 8)), dO 55 (.ld none (.t 54)), dO 56 (.bsl 1 [.str []] 3 [(0, 1, (.c (.str [111, 114, 97, 99, 108, 101, 32]))), (1, 1, (.t 55)), (2, 1, (.c (.str [58, 32])))] false), dO 57 (.call n_pprint_printer_add [(.t 4), (.t 56)])])
 (.seq (.reg [dO 58 (.fa 1 (.t 8)), dO 59 (.ld (some 4) (.t 58)), dO 60 (.call n_pprint_printer_expr [(.t 4), (.t 59), (.c (.int .i64 0))])])
 (.reg [dO 61 (.bsl 1 [.str []] 1 [(0, 1, (.c (.str [59, 10])))] false), dO 62 (.call n_pprint_printer_add [(.t 4), (.t 61)])])))))
 (.reg [dO 63 (.ia .add .i64 (.t 50) (.c (.int .i64 1))), dO 50 (.mv (.t 63))])))

def l_print_Program_1 : AC :=
 .loop [4, 48, 49, 50] b_print_Program_1

def r_print_Program_0 : AC :=
 .seq (.reg [dO 64 (.fa 0 (.t 4)), dO 65 (.call n_pstrings_Builder_String [(.t 64)]), dO 2 (.tk (.t 65)), dO 3 (.tk (.c (.bool true)))])
 (.ret)

def r_print_Program_1 : AC :=
 .seq (.reg [dO 29 (.bsl 1 [.str []] 1 [(0, 1, (.c (.str [109, 97, 105, 110])))] false), dO 30 (.call n_pprint_printer_add [(.t 4), (.t 29)])])
 (.seq (.reg [dO 31 (.fa 1 (.t 1)), dO 32 (.ld none (.t 31)), dO 33 (.call n_pprint_printer_block [(.t 4), (.t 32), (.c (.int .i64 0))])])
 (.seq (.reg [dO 34 (.bsl 1 [.str []] 1 [(0, 1, (.c (.str [10])))] false), dO 35 (.call n_pprint_printer_add [(.t 4), (.t 34)])])
 (.seq (.seq (.reg [dO 36 (.fa 2 (.t 1)), dO 37 (.ld none (.t 36)), dO 38 (.len false (.t 37)), dO 39 (.ic .gtr (.t 38) (.c (.int .i64 0)))])
 (.cond (.t 39)
 (.seq (.reg [dO 40 (.bsl 1 [.str []] 1 [(0, 1, (.c (.str [114, 101, 99, 111, 118, 101, 114])))] false), dO 41 (.call n_pprint_printer_add [(.t 4), (.t 40)])])
 (.seq (.reg [dO 42 (.fa 2 (.t 1)), dO 43 (.ld none (.t 42)), dO 44 (.call n_pprint_printer_block [(.t 4), (.t 43), (.c (.int .i64 0))])])
 (.reg [dO 45 (.bsl 1 [.str []] 1 [(0, 1, (.c (.str [10])))] false), dO 46 (.call n_pprint_printer_add [(.t 4), (.t 45)])])))
 (.skip)))
 (.seq (.seq (.reg [dO 47 (.fa 3 (.t 1)), dO 48 (.ld none (.t 47)), dO 49 (.len false (.t 48)), dO 50 (.mv (.c (.int .i64 0)))])
 (.block 2 (l_print_Program_1))) r_print_Program_0))))

def c_print_Program : AFunc :=
 { np := 1, res := [.t 2, .t 3], body := (
 .seq (.reg [dO 1 (.box (.t 0)), dO 2 (.tk (.c (.str []))), dO 3 (.tk (.c (.bool false)))])
 (.seq (.seq (.reg [dO 9 (.ld (some 4) (.t 1)), dO 10 (.callc n_tree_Right [(.t 9)]), dO 11 (.notb (.t 10))])
 (.cond (.t 11)
 (.seq (.reg [dO 2 (.tk (.c (.str []))), dO 3 (.tk (.c (.bool false)))])
 (.ret))
 (.skip)))
 (.seq (.reg [dO 4 (.allocb bP bE)])
 (.seq (.seq (.reg [dO 12 (.fa 0 (.t 1)), dO 13 (.ld none (.t 12)), dO 14 (.len false (.t 13)), dO 15 (.mv (.c (.int .i64 0)))])
 (.block 0 (l_print_Program_0))) r_print_Program_1)))) }

def b_flotsamref18_Program_0 : AC :=
 .seq (.seq (.reg [dO 10 (.mv (.t 5)), dO 11 (.fa 0 (.t 1)), dO 12 (.ld none (.t 11)), dO 13 (.len false (.t 12)), dO 14 (.ic .lss (.t 10) (.t 13))])
 (.cond (.t 14)
 (.skip)
 (.exit 0)))
 (.seq (.block 1 (.drw [[], [], [], [], [], [], [], [], [], [], [], [], [], [], [], [], [], [], [], []] [dO 17 (.mv (.t 4)), dO 18 (.sop .add (.t 17) (.c (.str [112, 114, 111, 99, 32]))), dO 19 (.fa 0 (.t 1)), dO 20 (.ld none (.t 19)), dO 21 (.mv (.t 5)), dO 22 (.ixa 2 none (.t 20) (.t 21)), dO 23 (.fa 0 (.t 22)), dO 24 (.ld none (.t 23)), dO 25 (.sop .add (.t 18) (.t 24)), dO 26 (.sop .add (.t 25) (.c (.str [32]))), dO 27 (.fa 0 (.t 1)), dO 28 (.ld none (.t 27)), dO 29 (.mv (.t 5)), dO 30 (.ixa 2 none (.t 28) (.t 29)), dO 31 (.fa 1 (.t 30)), dO 32 (.ld none (.t 31)), dO 33 (.callc n_flotsamref18_block [(.t 32), (.c (.int .i64 0))]), dO 34 (.sop .add (.t 26) (.t 33)), dO 35 (.sop .add (.t 34) (.c (.str [10]))), dO 4 (.tk (.t 35))]))
 (.reg [dO 15 (.mv (.t 5)), dO 16 (.ia .add .i64 (.t 15) (.c (.int .i64 1))), dO 5 (.tk (.t 16))]))

def l_flotsamref18_Program_0 : AC :=
 .loop [1, 4, 5] b_flotsamref18_Program_0

def b_flotsamref18_Program_1 : AC :=
 .seq (.seq (.reg [dO 54 (.mv (.t 6)), dO 55 (.fa 3 (.t 1)), dO 56 (.ld none (.t 55)), dO 57 (.len false (.t 56)), dO 58 (.ic .lss (.t 54) (.t 57))])
 (.cond (.t 58)
 (.skip)
 (.exit 2)))
 (.seq (.block 3 (.drw [[], [], [], [], [], [], [], [], [], [], [], [], [], [], [], [], [], [], [], []] [dO 61 (.mv (.t 4)), dO 62 (.sop .add (.t 61) (.c (.str [111, 114, 97, 99, 108, 101, 32]))), dO 63 (.fa 3 (.t 1)), dO 64 (.ld none (.t 63)), dO 65 (.mv (.t 6)), dO 66 (.ixa 5 none (.t 64) (.t 65)), dO 67 (.fa 0 (.t 66)), dO 68 (.ld none (.t 67)), dO 69 (.sop .add (.t 62) (.t 68)), dO 70 (.sop .add (.t 69) (.c (.str [58, 32]))), dO 71 (.fa 3 (.t 1)), dO 72 (.ld none (.t 71)), dO 73 (.mv (.t 6)), dO 74 (.ixa 5 none (.t 72) (.t 73)), dO 75 (.fa 1 (.t 74)), dO 76 (.ld (some 4) (.t 75)), dO 77 (.callc n_flotsamref18_expr [(.t 76)]), dO 78 (.sop .add (.t 70) (.t 77)), dO 79 (.sop .add (.t 78) (.c (.str [59, 10]))), dO 4 (.tk (.t 79))]))
 (.reg [dO 59 (.mv (.t 6)), dO 60 (.ia .add .i64 (.t 59) (.c (.int .i64 1))), dO 6 (.tk (.t 60))]))

def l_flotsamref18_Program_1 : AC :=
 .loop [1, 4, 6] b_flotsamref18_Program_1

def r_flotsamref18_Program_0 : AC :=
 .seq (.reg [dO 80 (.mv (.t 4)), dO 2 (.tk (.t 80)), dO 3 (.tk (.c (.bool true)))])
 (.ret)

def r_flotsamref18_Program_1 : AC :=
 .seq (.reg [dO 36 (.mv (.t 4)), dO 37 (.sop .add (.t 36) (.c (.str [109, 97, 105, 110, 32]))), dO 38 (.fa 1 (.t 1)), dO 39 (.ld none (.t 38)), dO 40 (.callc n_flotsamref18_block [(.t 39), (.c (.int .i64 0))]), dO 41 (.sop .add (.t 37) (.t 40)), dO 42 (.sop .add (.t 41) (.c (.str [10]))), dO 4 (.tk (.t 42))])
 (.seq (.seq (.reg [dO 43 (.fa 2 (.t 1)), dO 44 (.ld none (.t 43)), dO 45 (.len false (.t 44)), dO 46 (.ic .gtr (.t 45) (.c (.int .i64 0)))])
 (.cond (.t 46)
 (.reg [dO 47 (.mv (.t 4)), dO 48 (.sop .add (.t 47) (.c (.str [114, 101, 99, 111, 118, 101, 114, 32]))), dO 49 (.fa 2 (.t 1)), dO 50 (.ld none (.t 49)), dO 51 (.callc n_flotsamref18_block [(.t 50), (.c (.int .i64 0))]), dO 52 (.sop .add (.t 48) (.t 51)), dO 53 (.sop .add (.t 52) (.c (.str [10]))), dO 4 (.tk (.t 53))])
 (.skip)))
 (.seq (.seq (.reg [dO 6 (.tk (.c (.int .i64 0)))])
 (.block 2 (l_flotsamref18_Program_1))) r_flotsamref18_Program_0))

def c_flotsamref18_Program : AFunc :=
 { np := 1, res := [.t 2, .t 3], body := (
 .seq (.reg [dO 1 (.box (.t 0)), dO 2 (.tk (.c (.str []))), dO 3 (.tk (.c (.bool false)))])
 (.seq (.seq (.reg [dO 7 (.ld (some 4) (.t 1)), dO 8 (.callc n_r16_Right [(.t 7)]), dO 9 (.notb (.t 8))])
 (.cond (.t 9)
 (.seq (.reg [dO 2 (.tk (.c (.str []))), dO 3 (.tk (.c (.bool false)))])
 (.ret))
 (.skip)))
 (.seq (.reg [dO 4 (.tk (.c (.str [])))])
 (.seq (.seq (.reg [dO 5 (.tk (.c (.int .i64 0)))])
 (.block 0 (l_flotsamref18_Program_0))) r_flotsamref18_Program_1)))) }

def c_print_Expr : AFunc :=
 { np := 1, res := [.t 2, .t 3], body := (
 .seq (.reg [dO 1 (.box (.t 0)), dO 2 (.tk (.c (.str []))), dO 3 (.tk (.c (.bool false)))])
 (.seq (.seq (.reg [dO 5 (.ld (some 4) (.t 1)), dO 6 (.bld [.str [], .int .i64 0, .int .i64 0, .str [], .sl 4 []] [(0, 1, (.c (.str [97]))), (1, 4, (.t 5))]), dO 7 (.bsl 5 [.str [], .int .i64 0, .int .i64 0, .str [], .sl 4 []] 1 [(0, 5, (.t 6))] false), dO 8 (.bld [.sl 2 [], .sl 7 [], .sl 7 [], .sl 5 []] [(3, 1, (.t 7))]), dO 9 (.callc n_tree_Right [(.t 8)]), dO 10 (.notb (.t 9))])
 (.cond (.t 10)
 (.seq (.reg [dO 2 (.tk (.c (.str []))), dO 3 (.tk (.c (.bool false)))])
 (.ret))
 (.skip)))
 (.seq (.reg [dO 4 (.allocb bP bE)])
 (.seq (.reg [dO 11 (.ld (some 4) (.t 1)), dO 12 (.call n_pprint_printer_expr [(.t 4), (.t 11), (.c (.int .i64 0))])])
 (.seq (.reg [dO 13 (.fa 0 (.t 4)), dO 14 (.call n_pstrings_Builder_String [(.t 13)]), dO 2 (.tk (.t 14)), dO 3 (.tk (.c (.bool true)))])
 (.ret)))))) }

def c_flotsamref18_Expr : AFunc :=
 { np := 1, res := [.t 2, .t 3], body := (
 .seq (.reg [dO 1 (.box (.t 0)), dO 2 (.tk (.c (.str []))), dO 3 (.tk (.c (.bool false)))])
 (.seq (.seq (.reg [dO 4 (.ld (some 4) (.t 1)), dO 5 (.callc n_r16_Expr [(.t 4), (.c (.int .i64 8))]), dO 6 (.notb (.t 5))])
 (.cond (.t 6)
 (.seq (.reg [dO 2 (.tk (.c (.str []))), dO 3 (.tk (.c (.bool false)))])
 (.ret))
 (.skip)))
 (.seq (.reg [dO 7 (.ld (some 4) (.t 1)), dO 8 (.callc n_flotsamref18_expr [(.t 7)]), dO 2 (.tk (.t 8)), dO 3 (.tk (.c (.bool true)))])
 (.ret)))) }

def c_tree_Right : AFunc :=
 { np := 1, res := [.t 2], body := (
 .seq (.reg [dO 1 (.box (.t 0)), dO 2 (.tk (.c (.bool false)))])
 (.seq (.seq (.reg [dO 6 (.fa 0 (.t 1)), dO 7 (.ld none (.t 6)), dO 8 (.len false (.t 7)), dO 9 (.ic .gtr (.t 8) (.c (.int .i64 16))), dO 10 (.mv (.t 9)), ⟨some 11, (some (10, false)), .fa 3 (.t 1)⟩, ⟨some 12, (some (10, false)), .ld none (.t 11)⟩, ⟨some 13, (some (10, false)), .len false (.t 12)⟩, ⟨some 14, (some (10, false)), .ic .gtr (.t 13) (.c (.int .i64 16))⟩, dO 15 (.pick (.t 10) (.c (.bool true)) (.t 14)), dO 16 (.mv (.t 15)), ⟨some 17, (some (16, false)), .ld (some 4) (.t 1)⟩, ⟨some 18, (some (16, false)), .callc n_tree_All [(.t 17)]⟩, ⟨some 19, (some (16, false)), .len false (.t 18)⟩, ⟨some 20, (some (16, false)), .ic .gtr (.t 19) (.c (.int .i64 256))⟩, dO 21 (.pick (.t 16) (.c (.bool true)) (.t 20))])
 (.cond (.t 21)
 (.seq (.reg [dO 2 (.tk (.c (.bool false)))])
 (.ret))
 (.skip)))
 (.seq (.reg [dO 3 (.tk (.c (.fn (.func n_tree_Right_1) [] [])))])
 (.seq (.reg [dO 4 (.tk (.c (.fn (.func n_tree_Right_2) [] [])))])
 (.seq (.reg [dO 5 (.tk (.c (.fn (.func n_tree_Right_3) [] [])))])
 (.seq (.reg [dO 22 (.fa 0 (.t 1)), dO 23 (.ld none (.t 22)), dO 24 (.mv (.t 3)), dO 25 (.call n_slices_ContainsFunc_api_Proc_api_Proc [(.t 23), (.t 24)]), dO 26 (.notb (.t 25)), dO 27 (.mv (.t 26)), ⟨some 28, (some (27, true)), .fa 3 (.t 1)⟩, ⟨some 29, (some (27, true)), .ld none (.t 28)⟩, ⟨some 30, (some (27, true)), .mv (.t 4)⟩, ⟨some 31, (some (27, true)), .call n_slices_ContainsFunc_api_Oracle_api_Oracle [(.t 29), (.t 30)]⟩, ⟨some 32, (some (27, true)), .notb (.t 31)⟩, dO 33 (.pick (.t 27) (.t 32) (.c (.bool false))), dO 34 (.mv (.t 33)), ⟨some 35, (some (34, true)), .ld (some 4) (.t 1)⟩, ⟨some 36, (some (34, true)), .callc n_tree_parts [(.t 35)]⟩, ⟨some 37, (some (34, true)), .mv (.t 5)⟩, ⟨some 38, (some (34, true)), .call n_slices_ContainsFunc_api_Stmt_api_Stmt [(.t 36), (.t 37)]⟩, ⟨some 39, (some (34, true)), .notb (.t 38)⟩, dO 40 (.pick (.t 34) (.t 39) (.c (.bool false))), dO 2 (.tk (.t 40))])
 (.ret))))))) }

def b_r16_Size_0 : AC :=
 .seq (.seq (.reg [dO 31 (.mv (.t 6)), dO 32 (.fa 0 (.t 2)), dO 33 (.ld none (.t 32)), dO 34 (.len false (.t 33)), dO 35 (.ic .lss (.t 31) (.t 34))])
 (.cond (.t 35)
 (.skip)
 (.exit 0)))
 (.seq (.block 1 (.seq (.reg [dO 38 (.mv (.t 5)), dO 39 (.fa 0 (.t 2)), dO 40 (.ld none (.t 39)), dO 41 (.mv (.t 6)), dO 42 (.ixa 2 none (.t 40) (.t 41)), dO 43 (.fa 1 (.t 42)), dO 44 (.ld none (.t 43)), dO 45 (.mv (.t 1)), dO 46 (.mv (.t 5)), dO 47 (.ia .sub .i64 (.t 45) (.t 46)), dO 48 (.callc n_r16_block [(.t 44), (.t 47)]), dO 49 (.ia .add .i64 (.t 38) (.t 48)), dO 5 (.tk (.t 49))])
 (.seq (.reg [dO 50 (.fa 0 (.t 2)), dO 51 (.ld none (.t 50)), dO 52 (.mv (.t 6)), dO 53 (.ixa 2 none (.t 51) (.t 52)), dO 54 (.fa 0 (.t 53)), dO 55 (.ld none (.t 54)), dO 56 (.len true (.t 55)), dO 57 (.ic .gtr (.t 56) (.c (.int .i64 300))), dO 58 (.mv (.t 57)), ⟨some 59, (some (58, false)), .mv (.t 5)⟩, ⟨some 60, (some (58, false)), .mv (.t 1)⟩, ⟨some 61, (some (58, false)), .ic .gtr (.t 59) (.t 60)⟩, dO 62 (.pick (.t 58) (.c (.bool true)) (.t 61))])
 (.cond (.t 62)
 (.seq (.reg [dO 63 (.mv (.t 1)), dO 64 (.ia .add .i64 (.t 63) (.c (.int .i64 1))), dO 4 (.tk (.t 64))])
 (.ret))
 (.skip)))))
 (.reg [dO 36 (.mv (.t 6)), dO 37 (.ia .add .i64 (.t 36) (.c (.int .i64 1))), dO 6 (.tk (.t 37))]))

def l_r16_Size_0 : AC :=
 .loop [1, 2, 5, 6] b_r16_Size_0

def b_r16_Size_1 : AC :=
 .seq (.seq (.reg [dO 84 (.mv (.t 7)), dO 85 (.fa 3 (.t 2)), dO 86 (.ld none (.t 85)), dO 87 (.len false (.t 86)), dO 88 (.ic .lss (.t 84) (.t 87)), dO 89 (.mv (.t 88)), ⟨some 90, (some (89, true)), .mv (.t 5)⟩, ⟨some 91, (some (89, true)), .mv (.t 1)⟩, ⟨some 92, (some (89, true)), .ic .leq (.t 90) (.t 91)⟩, dO 93 (.pick (.t 89) (.t 92) (.c (.bool false)))])
 (.cond (.t 93)
 (.skip)
 (.exit 2)))
 (.seq (.block 3 (.seq (.reg [dO 96 (.mv (.t 5)), dO 97 (.fa 3 (.t 2)), dO 98 (.ld none (.t 97)), dO 99 (.mv (.t 7)), dO 100 (.ixa 5 none (.t 98) (.t 99)), dO 101 (.fa 1 (.t 100)), dO 102 (.ld (some 4) (.t 101)), dO 103 (.mv (.t 1)), dO 104 (.mv (.t 5)), dO 105 (.ia .sub .i64 (.t 103) (.t 104)), dO 106 (.callc n_r16_expr [(.t 102), (.t 105)]), dO 107 (.ia .add .i64 (.t 96) (.t 106)), dO 5 (.tk (.t 107))])
 (.seq (.reg [dO 108 (.fa 3 (.t 2)), dO 109 (.ld none (.t 108)), dO 110 (.mv (.t 7)), dO 111 (.ixa 5 none (.t 109) (.t 110)), dO 112 (.fa 0 (.t 111)), dO 113 (.ld none (.t 112)), dO 114 (.len true (.t 113)), dO 115 (.ic .gtr (.t 114) (.c (.int .i64 300)))])
 (.cond (.t 115)
 (.seq (.reg [dO 116 (.mv (.t 1)), dO 117 (.ia .add .i64 (.t 116) (.c (.int .i64 1))), dO 4 (.tk (.t 117))])
 (.ret))
 (.skip)))))
 (.reg [dO 94 (.mv (.t 7)), dO 95 (.ia .add .i64 (.t 94) (.c (.int .i64 1))), dO 7 (.tk (.t 95))]))

def l_r16_Size_1 : AC :=
 .loop [1, 2, 5, 7] b_r16_Size_1

def r_r16_Size_0 : AC :=
 .seq (.reg [dO 118 (.mv (.t 5)), dO 4 (.tk (.t 118))])
 (.ret)

def r_r16_Size_1 : AC :=
 .seq (.reg [dO 65 (.mv (.t 5)), dO 66 (.fa 1 (.t 2)), dO 67 (.ld none (.t 66)), dO 68 (.mv (.t 1)), dO 69 (.mv (.t 5)), dO 70 (.ia .sub .i64 (.t 68) (.t 69)), dO 71 (.callc n_r16_block [(.t 67), (.t 70)]), dO 72 (.ia .add .i64 (.t 65) (.t 71)), dO 5 (.tk (.t 72))])
 (.seq (.seq (.reg [dO 73 (.mv (.t 5)), dO 74 (.mv (.t 1)), dO 75 (.ic .leq (.t 73) (.t 74))])
 (.cond (.t 75)
 (.reg [dO 76 (.mv (.t 5)), dO 77 (.fa 2 (.t 2)), dO 78 (.ld none (.t 77)), dO 79 (.mv (.t 1)), dO 80 (.mv (.t 5)), dO 81 (.ia .sub .i64 (.t 79) (.t 80)), dO 82 (.callc n_r16_block [(.t 78), (.t 81)]), dO 83 (.ia .add .i64 (.t 76) (.t 82)), dO 5 (.tk (.t 83))])
 (.skip)))
 (.seq (.seq (.reg [dO 7 (.tk (.c (.int .i64 0)))])
 (.block 2 (l_r16_Size_1))) r_r16_Size_0))

def c_r16_Size : AFunc :=
 { np := 2, res := [.t 4], body := (
 .seq (.reg [dO 2 (.box (.t 0)), dO 4 (.tk (.c (.int .i64 0)))])
 (.seq (.reg [dO 8 (.mv (.t 1)), dO 9 (.mx false [(.t 8), (.c (.int .i64 1000))]), dO 1 (.tk (.t 9))])
 (.seq (.seq (.reg [dO 10 (.fa 0 (.t 2)), dO 11 (.ld none (.t 10)), dO 12 (.len false (.t 11)), dO 13 (.mv (.t 1)), dO 14 (.ic .gtr (.t 12) (.t 13)), dO 15 (.mv (.t 14)), ⟨some 16, (some (15, false)), .fa 3 (.t 2)⟩, ⟨some 17, (some (15, false)), .ld none (.t 16)⟩, ⟨some 18, (some (15, false)), .len false (.t 17)⟩, ⟨some 19, (some (15, false)), .mv (.t 1)⟩, ⟨some 20, (some (15, false)), .ic .gtr (.t 18) (.t 19)⟩, dO 21 (.pick (.t 15) (.c (.bool true)) (.t 20))])
 (.cond (.t 21)
 (.seq (.reg [dO 22 (.mv (.t 1)), dO 23 (.ia .add .i64 (.t 22) (.c (.int .i64 1))), dO 4 (.tk (.t 23))])
 (.ret))
 (.skip)))
 (.seq (.reg [dO 24 (.fa 0 (.t 2)), dO 25 (.ld none (.t 24)), dO 26 (.len false (.t 25)), dO 27 (.fa 3 (.t 2)), dO 28 (.ld none (.t 27)), dO 29 (.len false (.t 28)), dO 30 (.ia .add .i64 (.t 26) (.t 29)), dO 5 (.tk (.t 30))])
 (.seq (.seq (.reg [dO 6 (.tk (.c (.int .i64 0)))])
 (.block 0 (l_r16_Size_0))) r_r16_Size_1))))) }

def b_pprint_printer_add_0 : AC :=
 .seq (.reg [dO 9 (.ic .lss (.t 8) (.t 7))])
 (.seq (.cond (.t 9)
 (.skip)
 (.exit 0))
 (.seq (.block 1 (.seq (.reg [dO 10 (.ixa 1 none (.t 6) (.t 8)), dO 11 (.ld none (.t 10)), dO 5 (.tk (.t 11))])
 (.reg [dO 12 (.mv (.t 0)), dO 13 (.nck (.t 12)), dO 14 (.fa 0 (.t 13)), dO 15 (.mv (.t 5)), dO 16 (.call n_pstrings_Builder_WriteString [(.t 14), (.t 15)])])))
 (.reg [dO 17 (.ia .add .i64 (.t 8) (.c (.int .i64 1))), dO 8 (.mv (.t 17))])))

def l_pprint_printer_add_0 : AC :=
 .loop [0, 6, 7, 8] b_pprint_printer_add_0

def c_pprint_printer_add : AFunc :=
 { np := 2, res := [], body := (
 .seq (.reg [dO 6 (.mv (.t 1)), dO 7 (.len false (.t 6)), dO 8 (.mv (.c (.int .i64 0)))])
 (.block 0 (l_pprint_printer_add_0))) }

def b_pprint_printer_block_0 : AC :=
 .seq (.reg [dO 14 (.ic .lss (.t 13) (.t 12))])
 (.seq (.cond (.t 14)
 (.skip)
 (.exit 0))
 (.seq (.block 1 (.seq (.reg [dO 15 (.ixa 7 none (.t 11) (.t 13)), dO 16 (.ld (some 7) (.t 15)), dO 7 (.alloc [.int .i64 0, .str [], .int .i64 0, .own 4 [], .own 7 [], .own 7 [], .bool false]), ⟨none, none, .st 7 (.t 7) (.t 16)⟩])
 (.seq (.reg [dO 17 (.mv (.t 0)), dO 18 (.mv (.t 2)), dO 19 (.ia .add .i64 (.t 18) (.c (.int .i64 1))), dO 20 (.callc n_strings_Repeat [(.c (.str [9])), (.t 19)]), dO 21 (.bsl 1 [.str []] 1 [(0, 1, (.t 20))] false), dO 22 (.call n_pprint_printer_add [(.t 17), (.t 21)])])
 (.seq (.reg [dO 23 (.mv (.t 0)), dO 24 (.ld (some 7) (.t 7)), dO 25 (.mv (.t 2)), dO 26 (.ia .add .i64 (.t 25) (.c (.int .i64 1))), dO 27 (.call n_pprint_printer_stmt [(.t 23), (.t 24), (.t 26)])])
 (.reg [dO 28 (.mv (.t 0)), dO 29 (.bsl 1 [.str []] 1 [(0, 1, (.c (.str [10])))] false), dO 30 (.call n_pprint_printer_add [(.t 28), (.t 29)])])))))
 (.reg [dO 31 (.ia .add .i64 (.t 13) (.c (.int .i64 1))), dO 13 (.mv (.t 31))])))

def l_pprint_printer_block_0 : AC :=
 .loop [0, 2, 11, 12, 13] b_pprint_printer_block_0

def r_pprint_printer_block_0 : AC :=
 .reg [dO 32 (.mv (.t 0)), dO 33 (.mv (.t 2)), dO 34 (.callc n_strings_Repeat [(.c (.str [9])), (.t 33)]), dO 35 (.bsl 1 [.str []] 2 [(0, 1, (.t 34)), (1, 1, (.c (.str [125])))] false), dO 36 (.call n_pprint_printer_add [(.t 32), (.t 35)])]

def c_pprint_printer_block : AFunc :=
 { np := 3, res := [], body := (
 .seq (.reg [dO 8 (.mv (.t 0)), dO 9 (.bsl 1 [.str []] 1 [(0, 1, (.c (.str [32, 123, 10])))] false), dO 10 (.call n_pprint_printer_add [(.t 8), (.t 9)])])
 (.seq (.seq (.reg [dO 11 (.mv (.t 1)), dO 12 (.len false (.t 11)), dO 13 (.mv (.c (.int .i64 0)))])
 (.block 0 (l_pprint_printer_block_0))) r_pprint_printer_block_0)) }

def c_pprint_printer_expr : AFunc :=
 { np := 3, res := [], body := (
 .dfr (.seq (.reg [dO 4 (.box (.t 1))])
 (.reg [dO 8 (.fa 0 (.t 4)), dO 9 (.ld none (.t 8)), dO 10 (.callc n_print_strong [(.t 9)]), dO 11 (.mv (.t 2)), dO 12 (.ic .lss (.t 10) (.t 11))]))
 (.t 12)
 (.seq (.reg [dO 13 (.mv (.t 0)), dO 14 (.bsl 1 [.str []] 1 [(0, 1, (.c (.str [40])))] false), dO 15 (.call n_pprint_printer_add [(.t 13), (.t 14)])])
 (.reg [dO 16 (.mv (.t 0)), dO 17 (.bsl 1 [.str []] 1 [(0, 1, (.c (.str [41])))] false)]))
 n_pprint_printer_add [16, 17] (
 .seq (.reg [dO 18 (.fa 0 (.t 4)), dO 19 (.ld none (.t 18)), dO 20 (.callc n_print_strong [(.t 19)]), dO 6 (.tk (.t 20))])
 (.seq (.reg [dO 21 (.fa 0 (.t 4)), dO 22 (.ld none (.t 21))])
 (.block 0 (.seq (.reg [dO 50 (.ic .eql (.t 22) (.c (.int .i64 1))), dO 49 (.tk (.t 50))])
 (.cond (.t 49)
 (.reg [dO 51 (.mv (.t 0)), dO 52 (.fa 1 (.t 4)), dO 53 (.ld none (.t 52)), dO 54 (.callc n_num_Digits [(.t 53)]), dO 55 (.bsl 1 [.str []] 1 [(0, 1, (.t 54))] false), dO 56 (.call n_pprint_printer_add [(.t 51), (.t 55)])])
 (.seq (.reg [dO 58 (.ic .eql (.t 22) (.c (.int .i64 2))), dO 57 (.tk (.t 58))])
 (.cond (.t 57)
 (.reg [dO 59 (.mv (.t 0)), dO 60 (.fa 2 (.t 4)), dO 61 (.ld none (.t 60)), dO 62 (.callc n_view_Quote [(.t 61)]), dO 63 (.bsl 1 [.str []] 1 [(0, 1, (.t 62))] false), dO 64 (.call n_pprint_printer_add [(.t 59), (.t 63)])])
 (.seq (.reg [dO 66 (.ic .eql (.t 22) (.c (.int .i64 4))), dO 65 (.tk (.t 66))])
 (.cond (.t 65)
 (.reg [dO 67 (.mv (.t 0)), dO 68 (.fa 2 (.t 4)), dO 69 (.ld none (.t 68)), dO 70 (.bsl 1 [.str []] 1 [(0, 1, (.t 69))] false), dO 71 (.call n_pprint_printer_add [(.t 67), (.t 70)])])
 (.seq (.reg [dO 73 (.ic .eql (.t 22) (.c (.int .i64 3))), dO 72 (.tk (.t 73))])
 (.cond (.t 72)
 (.seq (.reg [dO 74 (.fa 1 (.t 4)), dO 75 (.ld none (.t 74)), dO 76 (.ic .eql (.t 75) (.c (.int .i64 1)))])
 (.cond (.t 76)
 (.reg [dO 77 (.mv (.t 0)), dO 78 (.bsl 1 [.str []] 1 [(0, 1, (.c (.str [116, 114, 117, 101])))] false), dO 79 (.call n_pprint_printer_add [(.t 77), (.t 78)])])
 (.reg [dO 80 (.mv (.t 0)), dO 81 (.bsl 1 [.str []] 1 [(0, 1, (.c (.str [102, 97, 108, 115, 101])))] false), dO 82 (.call n_pprint_printer_add [(.t 80), (.t 81)])])))
 (.seq (.reg [dO 84 (.ic .eql (.t 22) (.c (.int .i64 8))), dO 83 (.tk (.t 84))])
 (.cond (.t 83)
 (.seq (.reg [dO 85 (.mv (.t 0)), dO 86 (.bsl 1 [.str []] 1 [(0, 1, (.c (.str [110, 111, 116, 32])))] false), dO 87 (.call n_pprint_printer_add [(.t 85), (.t 86)])])
 (.reg [dO 88 (.mv (.t 0)), dO 89 (.fa 3 (.t 4)), dO 90 (.ld none (.t 89)), dO 91 (.ixa 4 none (.t 90) (.c (.int .i64 0))), dO 92 (.ld (some 4) (.t 91)), dO 93 (.call n_pprint_printer_expr [(.t 88), (.t 92), (.c (.int .i64 2))])]))
 (.seq (.seq (.reg [dO 95 (.ic .eql (.t 22) (.c (.int .i64 5))), dO 94 (.tk (.t 95))])
 (.cond (.t 94)
 (.skip)
 (.seq (.reg [dO 96 (.ic .eql (.t 22) (.c (.int .i64 6))), dO 94 (.tk (.t 96))])
 (.cond (.t 94)
 (.skip)
 (.reg [dO 97 (.ic .eql (.t 22) (.c (.int .i64 7))), dO 94 (.tk (.t 97))])))))
 (.cond (.t 94)
 (.seq (.reg [dO 98 (.mv (.t 0)), dO 99 (.fa 0 (.t 4)), dO 100 (.ld none (.t 99)), dO 101 (.callc n_print_call [(.t 100)]), dO 102 (.bsl 1 [.str []] 2 [(0, 1, (.t 101)), (1, 1, (.c (.str [40])))] false), dO 103 (.call n_pprint_printer_add [(.t 98), (.t 102)])])
 (.seq (.reg [dO 104 (.mv (.t 0)), dO 105 (.fa 3 (.t 4)), dO 106 (.ld none (.t 105)), dO 107 (.ixa 4 none (.t 106) (.c (.int .i64 0))), dO 108 (.ld (some 4) (.t 107)), dO 109 (.call n_pprint_printer_expr [(.t 104), (.t 108), (.c (.int .i64 0))])])
 (.reg [dO 110 (.mv (.t 0)), dO 111 (.bsl 1 [.str []] 1 [(0, 1, (.c (.str [41])))] false), dO 112 (.call n_pprint_printer_add [(.t 110), (.t 111)])])))
 (.seq (.reg [dO 23 (.mv (.t 6)), dO 7 (.tk (.t 23))])
 (.seq (.seq (.reg [dO 24 (.mv (.t 6)), dO 25 (.ic .eql (.t 24) (.c (.int .i64 3)))])
 (.cond (.t 25)
 (.reg [dO 26 (.mv (.t 7)), dO 27 (.ia .add .i64 (.t 26) (.c (.int .i64 1))), dO 7 (.tk (.t 27))])
 (.skip)))
 (.seq (.reg [dO 28 (.mv (.t 0)), dO 29 (.fa 3 (.t 4)), dO 30 (.ld none (.t 29)), dO 31 (.ixa 4 none (.t 30) (.c (.int .i64 0))), dO 32 (.ld (some 4) (.t 31)), dO 33 (.mv (.t 7)), dO 34 (.call n_pprint_printer_expr [(.t 28), (.t 32), (.t 33)])])
 (.seq (.reg [dO 35 (.mv (.t 0)), dO 36 (.fa 0 (.t 4)), dO 37 (.ld none (.t 36)), dO 38 (.callc n_print_sign [(.t 37)]), dO 39 (.bsl 1 [.str []] 1 [(0, 1, (.t 38))] false), dO 40 (.call n_pprint_printer_add [(.t 35), (.t 39)])])
 (.reg [dO 41 (.mv (.t 0)), dO 42 (.fa 3 (.t 4)), dO 43 (.ld none (.t 42)), dO 44 (.ixa 4 none (.t 43) (.c (.int .i64 1))), dO 45 (.ld (some 4) (.t 44)), dO 46 (.mv (.t 6)), dO 47 (.ia .add .i64 (.t 46) (.c (.int .i64 1))), dO 48 (.call n_pprint_printer_expr [(.t 41), (.t 45), (.t 47)])]))))))))))))))))))))) }

def b_r16_Right_0 : AC :=
 .seq (.seq (.reg [dO 21 (.mv (.t 3)), dO 22 (.fa 0 (.t 1)), dO 23 (.ld none (.t 22)), dO 24 (.len false (.t 23)), dO 25 (.ic .lss (.t 21) (.t 24))])
 (.cond (.t 25)
 (.skip)
 (.exit 0)))
 (.seq (.block 1 (.seq (.reg [dO 28 (.fa 0 (.t 1)), dO 29 (.ld none (.t 28)), dO 30 (.mv (.t 3)), dO 31 (.ixa 2 none (.t 29) (.t 30)), dO 32 (.fa 0 (.t 31)), dO 33 (.ld none (.t 32)), dO 34 (.callc n_r15_Name [(.t 33)]), dO 35 (.notb (.t 34)), dO 36 (.mv (.t 35)), ⟨some 37, (some (36, false)), .fa 0 (.t 1)⟩, ⟨some 38, (some (36, false)), .ld none (.t 37)⟩, ⟨some 39, (some (36, false)), .mv (.t 3)⟩, ⟨some 40, (some (36, false)), .ixa 2 none (.t 38) (.t 39)⟩, ⟨some 41, (some (36, false)), .fa 1 (.t 40)⟩, ⟨some 42, (some (36, false)), .ld none (.t 41)⟩, ⟨some 43, (some (36, false)), .callc n_r16_Block [(.t 42), (.c (.int .i64 1))]⟩, ⟨some 44, (some (36, false)), .notb (.t 43)⟩, dO 45 (.pick (.t 36) (.c (.bool true)) (.t 44))])
 (.cond (.t 45)
 (.seq (.reg [dO 2 (.tk (.c (.bool false)))])
 (.ret))
 (.skip))))
 (.reg [dO 26 (.mv (.t 3)), dO 27 (.ia .add .i64 (.t 26) (.c (.int .i64 1))), dO 3 (.tk (.t 27))]))

def l_r16_Right_0 : AC :=
 .loop [1, 3] b_r16_Right_0

def b_r16_Right_1 : AC :=
 .seq (.seq (.reg [dO 46 (.mv (.t 4)), dO 47 (.fa 3 (.t 1)), dO 48 (.ld none (.t 47)), dO 49 (.len false (.t 48)), dO 50 (.ic .lss (.t 46) (.t 49))])
 (.cond (.t 50)
 (.skip)
 (.exit 2)))
 (.seq (.block 3 (.seq (.reg [dO 53 (.fa 3 (.t 1)), dO 54 (.ld none (.t 53)), dO 55 (.mv (.t 4)), dO 56 (.ixa 5 none (.t 54) (.t 55)), dO 57 (.fa 0 (.t 56)), dO 58 (.ld none (.t 57)), dO 59 (.callc n_r15_Name [(.t 58)]), dO 60 (.notb (.t 59)), dO 61 (.mv (.t 60)), ⟨some 62, (some (61, false)), .fa 3 (.t 1)⟩, ⟨some 63, (some (61, false)), .ld none (.t 62)⟩, ⟨some 64, (some (61, false)), .mv (.t 4)⟩, ⟨some 65, (some (61, false)), .ixa 5 none (.t 63) (.t 64)⟩, ⟨some 66, (some (61, false)), .fa 1 (.t 65)⟩, ⟨some 67, (some (61, false)), .ld (some 4) (.t 66)⟩, ⟨some 68, (some (61, false)), .callc n_r16_Expr [(.t 67), (.c (.int .i64 8))]⟩, ⟨some 69, (some (61, false)), .notb (.t 68)⟩, dO 70 (.pick (.t 61) (.c (.bool true)) (.t 69))])
 (.cond (.t 70)
 (.seq (.reg [dO 2 (.tk (.c (.bool false)))])
 (.ret))
 (.skip))))
 (.reg [dO 51 (.mv (.t 4)), dO 52 (.ia .add .i64 (.t 51) (.c (.int .i64 1))), dO 4 (.tk (.t 52))]))

def l_r16_Right_1 : AC :=
 .loop [1, 4] b_r16_Right_1

def r_r16_Right_0 : AC :=
 .seq (.reg [dO 71 (.fa 1 (.t 1)), dO 72 (.ld none (.t 71)), dO 73 (.callc n_r16_Block [(.t 72), (.c (.int .i64 1))]), dO 74 (.mv (.t 73)), ⟨some 75, (some (74, true)), .fa 2 (.t 1)⟩, ⟨some 76, (some (74, true)), .ld none (.t 75)⟩, ⟨some 77, (some (74, true)), .callc n_r16_Block [(.t 76), (.c (.int .i64 1))]⟩, dO 78 (.pick (.t 74) (.t 77) (.c (.bool false))), dO 2 (.tk (.t 78))])
 (.ret)

def r_r16_Right_1 : AC :=
 .seq (.seq (.reg [dO 4 (.tk (.c (.int .i64 0)))])
 (.block 2 (l_r16_Right_1))) r_r16_Right_0

def c_r16_Right : AFunc :=
 { np := 1, res := [.t 2], body := (
 .seq (.reg [dO 1 (.box (.t 0)), dO 2 (.tk (.c (.bool false)))])
 (.seq (.seq (.reg [dO 5 (.fa 0 (.t 1)), dO 6 (.ld none (.t 5)), dO 7 (.len false (.t 6)), dO 8 (.ic .gtr (.t 7) (.c (.int .i64 16))), dO 9 (.mv (.t 8)), ⟨some 10, (some (9, false)), .fa 3 (.t 1)⟩, ⟨some 11, (some (9, false)), .ld none (.t 10)⟩, ⟨some 12, (some (9, false)), .len false (.t 11)⟩, ⟨some 13, (some (9, false)), .ic .gtr (.t 12) (.c (.int .i64 16))⟩, dO 14 (.pick (.t 9) (.c (.bool true)) (.t 13)), dO 15 (.mv (.t 14)), ⟨some 16, (some (15, false)), .ld (some 4) (.t 1)⟩, ⟨some 17, (some (15, false)), .callc n_r16_All [(.t 16)]⟩, ⟨some 18, (some (15, false)), .len false (.t 17)⟩, ⟨some 19, (some (15, false)), .ic .gtr (.t 18) (.c (.int .i64 256))⟩, dO 20 (.pick (.t 15) (.c (.bool true)) (.t 19))])
 (.cond (.t 20)
 (.seq (.reg [dO 2 (.tk (.c (.bool false)))])
 (.ret))
 (.skip)))
 (.seq (.seq (.reg [dO 3 (.tk (.c (.int .i64 0)))])
 (.block 0 (l_r16_Right_0))) r_r16_Right_1))) }

def b_flotsamref18_block_0 : AC :=
 .seq (.seq (.reg [dO 7 (.mv (.t 6)), dO 8 (.mv (.t 0)), dO 9 (.len false (.t 8)), dO 10 (.ic .lss (.t 7) (.t 9))])
 (.cond (.t 10)
 (.skip)
 (.exit 0)))
 (.seq (.block 1 (.drw [[], [], [], [], [], [], [], [], [], [], [], [], [], [], []] [dO 13 (.mv (.t 5)), dO 14 (.mv (.t 1)), dO 15 (.ia .add .i64 (.t 14) (.c (.int .i64 1))), dO 16 (.callc n_flotsamref18_tabs [(.t 15)]), dO 17 (.sop .add (.t 13) (.t 16)), dO 18 (.mv (.t 0)), dO 19 (.mv (.t 6)), dO 20 (.ixa 7 none (.t 18) (.t 19)), dO 21 (.ld (some 7) (.t 20)), dO 22 (.mv (.t 1)), dO 23 (.ia .add .i64 (.t 22) (.c (.int .i64 1))), dO 24 (.callc n_flotsamref18_stmt [(.t 21), (.t 23)]), dO 25 (.sop .add (.t 17) (.t 24)), dO 26 (.sop .add (.t 25) (.c (.str [10]))), dO 5 (.tk (.t 26))]))
 (.reg [dO 11 (.mv (.t 6)), dO 12 (.ia .add .i64 (.t 11) (.c (.int .i64 1))), dO 6 (.tk (.t 12))]))

def l_flotsamref18_block_0 : AC :=
 .loop [0, 1, 5, 6] b_flotsamref18_block_0

def r_flotsamref18_block_0 : AC :=
 .seq (.reg [dO 27 (.mv (.t 5)), dO 28 (.mv (.t 1)), dO 29 (.callc n_flotsamref18_tabs [(.t 28)]), dO 30 (.sop .add (.t 27) (.t 29)), dO 31 (.sop .add (.t 30) (.c (.str [125]))), dO 4 (.tk (.t 31))])
 (.ret)

def c_flotsamref18_block : AFunc :=
 { np := 2, res := [.t 4], body := (
 .seq (.reg [dO 4 (.tk (.c (.str [])))])
 (.seq (.reg [dO 5 (.tk (.c (.str [123, 10])))])
 (.seq (.seq (.reg [dO 6 (.tk (.c (.int .i64 0)))])
 (.block 0 (l_flotsamref18_block_0))) r_flotsamref18_block_0))) }

def c_flotsamref18_expr : AFunc :=
 { np := 1, res := [.t 2], body := (
 .seq (.reg [dO 1 (.box (.t 0)), dO 2 (.tk (.c (.str [])))])
 (.seq (.seq (.reg [dO 5 (.fa 0 (.t 1)), dO 6 (.ld none (.t 5))])
 (.block 0 (.seq (.reg [dO 8 (.ic .eql (.t 6) (.c (.int .i64 1))), dO 7 (.tk (.t 8))])
 (.cond (.t 7)
 (.seq (.reg [dO 9 (.fa 1 (.t 1)), dO 10 (.ld none (.t 9)), dO 11 (.callc n_r01_Digits [(.t 10)]), dO 2 (.tk (.t 11))])
 (.ret))
 (.seq (.reg [dO 13 (.ic .eql (.t 6) (.c (.int .i64 2))), dO 12 (.tk (.t 13))])
 (.cond (.t 12)
 (.seq (.reg [dO 14 (.fa 2 (.t 1)), dO 15 (.ld none (.t 14)), dO 16 (.callc n_r14_Quote [(.t 15)]), dO 2 (.tk (.t 16))])
 (.ret))
 (.seq (.reg [dO 18 (.ic .eql (.t 6) (.c (.int .i64 3))), dO 17 (.tk (.t 18))])
 (.cond (.t 17)
 (.seq (.seq (.reg [dO 19 (.fa 1 (.t 1)), dO 20 (.ld none (.t 19)), dO 21 (.ic .eql (.t 20) (.c (.int .i64 1)))])
 (.cond (.t 21)
 (.seq (.reg [dO 2 (.tk (.c (.str [116, 114, 117, 101])))])
 (.ret))
 (.skip)))
 (.seq (.reg [dO 2 (.tk (.c (.str [102, 97, 108, 115, 101])))])
 (.ret)))
 (.seq (.reg [dO 23 (.ic .eql (.t 6) (.c (.int .i64 4))), dO 22 (.tk (.t 23))])
 (.cond (.t 22)
 (.seq (.reg [dO 24 (.fa 2 (.t 1)), dO 25 (.ld none (.t 24)), dO 2 (.tk (.t 25))])
 (.ret))
 (.seq (.reg [dO 27 (.ic .eql (.t 6) (.c (.int .i64 8))), dO 26 (.tk (.t 27))])
 (.cond (.t 26)
 (.seq (.reg [dO 28 (.ld (some 4) (.t 1)), dO 29 (.callc n_flotsamref18_sub [(.t 28), (.c (.int .i64 0))]), dO 30 (.sop .add (.c (.str [110, 111, 116, 32])) (.t 29)), dO 2 (.tk (.t 30))])
 (.ret))
 (.skip)))))))))))))
 (.seq (.seq (.reg [dO 31 (.fa 3 (.t 1)), dO 32 (.ld none (.t 31)), dO 33 (.len false (.t 32)), dO 34 (.ic .eql (.t 33) (.c (.int .i64 1)))])
 (.cond (.t 34)
 (.seq (.reg [dO 35 (.bsl 1 [.str []] 3 [(0, 1, (.c (.str [101, 120, 105, 115, 116, 115]))), (1, 1, (.c (.str [115, 105, 122, 101]))), (2, 1, (.c (.str [114, 101, 97, 100])))] false), dO 3 (.tk (.t 35))])
 (.seq (.drw [[], [], [], [], [], [], [], [], [], [], [], [], [], [], []] [dO 36 (.mv (.t 3)), dO 37 (.fa 0 (.t 1)), dO 38 (.ld none (.t 37)), dO 39 (.ia .sub .i64 (.t 38) (.c (.int .i64 5))), dO 40 (.ixa 1 none (.t 36) (.t 39)), dO 41 (.ld none (.t 40)), dO 42 (.sop .add (.t 41) (.c (.str [40]))), dO 43 (.fa 3 (.t 1)), dO 44 (.ld none (.t 43)), dO 45 (.ixa 4 none (.t 44) (.c (.int .i64 0))), dO 46 (.ld (some 4) (.t 45)), dO 47 (.callc n_flotsamref18_expr [(.t 46)]), dO 48 (.sop .add (.t 42) (.t 47)), dO 49 (.sop .add (.t 48) (.c (.str [41]))), dO 2 (.tk (.t 49))])
 (.ret)))
 (.skip)))
 (.seq (.reg [dO 50 (.bsl 1 [.str []] 6 [(0, 1, (.c (.str [43]))), (1, 1, (.c (.str [45]))), (2, 1, (.c (.str [61, 61]))), (3, 1, (.c (.str [60]))), (4, 1, (.c (.str [97, 110, 100]))), (5, 1, (.c (.str [111, 114])))] false), dO 4 (.tk (.t 50))])
 (.seq (.drw [[], [], [], [], [], [], [], [], [], [], [], [], [], [], []] [dO 51 (.ld (some 4) (.t 1)), dO 52 (.callc n_flotsamref18_sub [(.t 51), (.c (.int .i64 0))]), dO 53 (.sop .add (.t 52) (.c (.str [32]))), dO 54 (.mv (.t 4)), dO 55 (.fa 0 (.t 1)), dO 56 (.ld none (.t 55)), dO 57 (.ia .sub .i64 (.t 56) (.c (.int .i64 9))), dO 58 (.ixa 1 none (.t 54) (.t 57)), dO 59 (.ld none (.t 58)), dO 60 (.sop .add (.t 53) (.t 59)), dO 61 (.sop .add (.t 60) (.c (.str [32]))), dO 62 (.ld (some 4) (.t 1)), dO 63 (.callc n_flotsamref18_sub [(.t 62), (.c (.int .i64 1))]), dO 64 (.sop .add (.t 61) (.t 63)), dO 2 (.tk (.t 64))])
 (.ret)))))) }

def b_r16_Expr_0 : AC :=
 .seq (.seq (.reg [dO 105 (.mv (.t 7)), dO 106 (.mv (.t 5)), dO 107 (.ic .lss (.t 105) (.t 106))])
 (.cond (.t 107)
 (.skip)
 (.exit 0)))
 (.seq (.block 1 (.seq (.reg [dO 110 (.fa 3 (.t 2)), dO 111 (.ld none (.t 110)), dO 112 (.mv (.t 7)), dO 113 (.ixa 4 none (.t 111) (.t 112)), dO 114 (.ld (some 4) (.t 113)), dO 115 (.mv (.t 1)), dO 116 (.ia .sub .i64 (.t 115) (.c (.int .i64 1))), dO 117 (.callc n_r16_Expr [(.t 114), (.t 116)]), dO 118 (.notb (.t 117))])
 (.cond (.t 118)
 (.seq (.reg [dO 4 (.tk (.c (.bool false)))])
 (.ret))
 (.skip))))
 (.reg [dO 108 (.mv (.t 7)), dO 109 (.ia .add .i64 (.t 108) (.c (.int .i64 1))), dO 7 (.tk (.t 109))]))

def l_r16_Expr_0 : AC :=
 .loop [1, 2, 5, 7] b_r16_Expr_0

def r_r16_Expr_0 : AC :=
 .seq (.reg [dO 4 (.tk (.c (.bool true)))])
 (.ret)

def c_r16_Expr : AFunc :=
 { np := 2, res := [.t 4], body := (
 .seq (.reg [dO 2 (.box (.t 0)), dO 4 (.tk (.c (.bool false)))])
 (.seq (.reg [dO 9 (.fa 0 (.t 2)), dO 10 (.ld none (.t 9)), dO 11 (.callc n_r16_Parts [(.t 10)]), dO 8 (.mv (.t 11)), dO 12 (.ext (.t 8) 0), dO 13 (.ext (.t 8) 1), dO 5 (.tk (.t 12)), dO 6 (.tk (.t 13))])
 (.seq (.seq (.reg [dO 14 (.mv (.t 6)), dO 15 (.notb (.t 14)), dO 16 (.mv (.t 15)), ⟨some 17, (some (16, false)), .mv (.t 1)⟩, ⟨some 18, (some (16, false)), .ic .lss (.t 17) (.c (.int .i64 1))⟩, dO 19 (.pick (.t 16) (.c (.bool true)) (.t 18)), dO 20 (.mv (.t 19)), ⟨some 21, (some (20, false)), .fa 3 (.t 2)⟩, ⟨some 22, (some (20, false)), .ld none (.t 21)⟩, ⟨some 23, (some (20, false)), .len false (.t 22)⟩, ⟨some 24, (some (20, false)), .mv (.t 5)⟩, ⟨some 25, (some (20, false)), .ic .neq (.t 23) (.t 24)⟩, dO 26 (.pick (.t 20) (.c (.bool true)) (.t 25))])
 (.cond (.t 26)
 (.seq (.reg [dO 4 (.tk (.c (.bool false)))])
 (.ret))
 (.skip)))
 (.seq (.seq (.reg [dO 27 (.fa 0 (.t 2)), dO 28 (.ld none (.t 27)), dO 29 (.ic .eql (.t 28) (.c (.int .i64 1))), dO 30 (.mv (.t 29)), ⟨some 31, (some (30, true)), .fa 1 (.t 2)⟩, ⟨some 32, (some (30, true)), .ld none (.t 31)⟩, ⟨some 33, (some (30, true)), .ic .lss (.t 32) (.c (.int .i64 0))⟩, ⟨some 34, (some (30, true)), .mv (.t 33)⟩, ⟨some 35, (some (34, false)), .fa 1 (.t 2)⟩, ⟨some 36, (some (34, false)), .ld none (.t 35)⟩, ⟨some 37, (some (34, false)), .ic .gtr (.t 36) (.c (.int .i64 1000000000000))⟩, ⟨some 38, (some (30, true)), .pick (.t 34) (.c (.bool true)) (.t 37)⟩, dO 39 (.pick (.t 30) (.t 38) (.c (.bool false))), dO 40 (.mv (.t 39)), ⟨some 41, (some (40, false)), .fa 0 (.t 2)⟩, ⟨some 42, (some (40, false)), .ld none (.t 41)⟩, ⟨some 43, (some (40, false)), .ic .eql (.t 42) (.c (.int .i64 3))⟩, ⟨some 44, (some (40, false)), .mv (.t 43)⟩, ⟨some 45, (some (44, true)), .fa 1 (.t 2)⟩, ⟨some 46, (some (44, true)), .ld none (.t 45)⟩, ⟨some 47, (some (44, true)), .ic .neq (.t 46) (.c (.int .i64 0))⟩, ⟨some 48, (some (40, false)), .pick (.t 44) (.t 47) (.c (.bool false))⟩, ⟨some 49, (some (40, false)), .mv (.t 48)⟩, ⟨some 50, (some (49, true)), .fa 1 (.t 2)⟩, ⟨some 51, (some (49, true)), .ld none (.t 50)⟩, ⟨some 52, (some (49, true)), .ic .neq (.t 51) (.c (.int .i64 1))⟩, ⟨some 53, (some (40, false)), .pick (.t 49) (.t 52) (.c (.bool false))⟩, dO 54 (.pick (.t 40) (.c (.bool true)) (.t 53)), dO 55 (.mv (.t 54)), ⟨some 56, (some (55, false)), .fa 0 (.t 2)⟩, ⟨some 57, (some (55, false)), .ld none (.t 56)⟩, ⟨some 58, (some (55, false)), .ic .neq (.t 57) (.c (.int .i64 1))⟩, ⟨some 59, (some (55, false)), .mv (.t 58)⟩, ⟨some 60, (some (59, true)), .fa 0 (.t 2)⟩, ⟨some 61, (some (59, true)), .ld none (.t 60)⟩, ⟨some 62, (some (59, true)), .ic .neq (.t 61) (.c (.int .i64 3))⟩, ⟨some 63, (some (55, false)), .pick (.t 59) (.t 62) (.c (.bool false))⟩, ⟨some 64, (some (55, false)), .mv (.t 63)⟩, ⟨some 65, (some (64, true)), .fa 1 (.t 2)⟩, ⟨some 66, (some (64, true)), .ld none (.t 65)⟩, ⟨some 67, (some (64, true)), .ic .neq (.t 66) (.c (.int .i64 0))⟩, ⟨some 68, (some (55, false)), .pick (.t 64) (.t 67) (.c (.bool false))⟩, dO 69 (.pick (.t 55) (.c (.bool true)) (.t 68))])
 (.cond (.t 69)
 (.seq (.reg [dO 4 (.tk (.c (.bool false)))])
 (.ret))
 (.skip)))
 (.seq (.seq (.reg [dO 70 (.fa 0 (.t 2)), dO 71 (.ld none (.t 70)), dO 72 (.ic .eql (.t 71) (.c (.int .i64 2))), dO 73 (.mv (.t 72)), ⟨some 74, (some (73, true)), .fa 2 (.t 2)⟩, ⟨some 75, (some (73, true)), .ld none (.t 74)⟩, ⟨some 76, (some (73, true)), .len true (.t 75)⟩, ⟨some 77, (some (73, true)), .ic .gtr (.t 76) (.c (.int .i64 64))⟩, dO 78 (.pick (.t 73) (.t 77) (.c (.bool false))), dO 79 (.mv (.t 78)), ⟨some 80, (some (79, false)), .fa 0 (.t 2)⟩, ⟨some 81, (some (79, false)), .ld none (.t 80)⟩, ⟨some 82, (some (79, false)), .ic .eql (.t 81) (.c (.int .i64 4))⟩, ⟨some 83, (some (79, false)), .mv (.t 82)⟩, ⟨some 84, (some (83, true)), .fa 2 (.t 2)⟩, ⟨some 85, (some (83, true)), .ld none (.t 84)⟩, ⟨some 86, (some (83, true)), .callc n_r15_Name [(.t 85)]⟩, ⟨some 87, (some (83, true)), .notb (.t 86)⟩, ⟨some 88, (some (79, false)), .pick (.t 83) (.t 87) (.c (.bool false))⟩, dO 89 (.pick (.t 79) (.c (.bool true)) (.t 88)), dO 90 (.mv (.t 89)), ⟨some 91, (some (90, false)), .fa 0 (.t 2)⟩, ⟨some 92, (some (90, false)), .ld none (.t 91)⟩, ⟨some 93, (some (90, false)), .ic .neq (.t 92) (.c (.int .i64 2))⟩, ⟨some 94, (some (90, false)), .mv (.t 93)⟩, ⟨some 95, (some (94, true)), .fa 0 (.t 2)⟩, ⟨some 96, (some (94, true)), .ld none (.t 95)⟩, ⟨some 97, (some (94, true)), .ic .neq (.t 96) (.c (.int .i64 4))⟩, ⟨some 98, (some (90, false)), .pick (.t 94) (.t 97) (.c (.bool false))⟩, ⟨some 99, (some (90, false)), .mv (.t 98)⟩, ⟨some 100, (some (99, true)), .fa 2 (.t 2)⟩, ⟨some 101, (some (99, true)), .ld none (.t 100)⟩, ⟨some 102, (some (99, true)), .sop .neq (.t 101) (.c (.str []))⟩, ⟨some 103, (some (90, false)), .pick (.t 99) (.t 102) (.c (.bool false))⟩, dO 104 (.pick (.t 90) (.c (.bool true)) (.t 103))])
 (.cond (.t 104)
 (.seq (.reg [dO 4 (.tk (.c (.bool false)))])
 (.ret))
 (.skip)))
 (.seq (.seq (.reg [dO 7 (.tk (.c (.int .i64 0)))])
 (.block 0 (l_r16_Expr_0))) r_r16_Expr_0)))))) }

def a_tree_All_0 : AC :=
 .reg [dO 6 (.alloc [.int .i64 0, .str [], .int .i64 0, .own 4 [], .own 7 [], .own 7 [], .bool false]), ⟨none, none, .st 7 (.t 6) (.t 16)⟩]

def y_tree_All_0 : AC :=
 .block 3 (.drw [[], [], [], [], [], [], [], [], []] [dO 17 (.ldo (.t 3)), dO 18 (.ld (some 7) (.t 6)), dO 19 (.callc n_tree_cloned [(.t 18)]), dO 20 (.len false (.t 17)), dO 21 (.bsl 7 [.int .i64 0, .str [], .int .i64 0, .sl 4 [], .sl 7 [], .sl 7 [], .bool false] 1 [(0, 7, (.c (.agg [.int .i64 0, .str [], .int .i64 0, .sl 4 [], .sl 7 [], .sl 7 [], .bool false])))] false), dO 22 (.apz 7 112 (.t 17) (.t 21)), dO 23 (.ixa 7 none (.t 22) (.t 20)), ⟨none, none, .st 7 (.t 23) (.t 19)⟩, ⟨none, none, .stf (.t 3) (.t 22)⟩])

def r_tree_All_0 : AC :=
 .reg [dO 24 (.ia .add .i64 (.t 10) (.c (.int .i64 1))), dO 10 (.mv (.t 24))]

def b_tree_All_0 : AC :=
 .seq (.reg [dO 11 (.ic .lss (.t 10) (.t 9))])
 (.seq (.cond (.t 11)
 (.skip)
 (.exit 0))
 (.seq (.block 1 (.seq (.reg [dO 12 (.ixa 1 none (.t 8) (.t 10)), dO 13 (.ld none (.t 12)), dO 5 (.tk (.t 13))])
 (.seq (.reg [dO 14 (.mv (.t 5)), dO 15 (.call n_tree_walk [(.t 14)])])
 (.block 2 (.rfn (.t 15) [3] q_tree_All_0 [16] a_tree_All_0 y_tree_All_0))))) r_tree_All_0))

def l_tree_All_0 : AC :=
 .loop [3, 8, 9, 10] b_tree_All_0

def r_tree_All_1 : AC :=
 .seq (.reg [dO 25 (.ld none (.t 3)), dO 2 (.tk (.t 25))])
 (.ret)

def c_tree_All : AFunc :=
 { np := 1, res := [.t 2], body := (
 .seq (.reg [dO 1 (.box (.t 0)), dO 2 (.tk (.c (.own 7 [])))])
 (.seq (.reg [dO 3 (.alloc [.own 7 []])])
 (.seq (.seq (.reg [dO 7 (.ld (some 4) (.t 1)), dO 8 (.callc n_tree_parts [(.t 7)]), dO 9 (.len false (.t 8)), dO 10 (.mv (.c (.int .i64 0)))])
 (.block 0 (l_tree_All_0))) r_tree_All_1))) }

def c_tree_Right_1 : AFunc :=
 { np := 1, res := [.t 2], body := (
 .seq (.reg [dO 1 (.box (.t 0)), dO 2 (.tk (.c (.bool false)))])
 (.seq (.reg [dO 3 (.fa 0 (.t 1)), dO 4 (.ld none (.t 3)), dO 5 (.callc n_lex_Name [(.t 4)]), dO 6 (.notb (.t 5)), dO 2 (.tk (.t 6))])
 (.ret))) }

def c_lex_Name : AFunc :=
 { np := 1, res := [.t 2], body := (
 .seq (.reg [dO 2 (.tk (.c (.bool false)))])
 (.seq (.reg [dO 3 (.mv (.t 0)), dO 4 (.callc n_lex_begins [(.t 3), (.c (.fn (.func n_lex_letter) [] []))]), dO 5 (.mv (.t 4)), ⟨some 6, (some (5, true)), .mv (.t 0)⟩, ⟨some 7, (some (5, true)), .len true (.t 6)⟩, ⟨some 8, (some (5, true)), .ic .leq (.t 7) (.c (.int .i64 8))⟩, dO 9 (.pick (.t 5) (.t 8) (.c (.bool false))), dO 10 (.mv (.t 9)), ⟨some 11, (some (10, true)), .mv (.t 0)⟩, ⟨some 12, (some (10, true)), .callc n_lex_run [(.t 11), (.c (.fn (.func n_lex_inner) [] []))]⟩, ⟨some 13, (some (10, true)), .mv (.t 0)⟩, ⟨some 14, (some (10, true)), .sop .eql (.t 12) (.t 13)⟩, dO 15 (.pick (.t 10) (.t 14) (.c (.bool false))), dO 16 (.mv (.t 15)), ⟨some 17, (some (16, true)), .mv (.t 0)⟩, ⟨some 18, (some (16, true)), .callc n_lex_Key [(.t 17)]⟩, ⟨some 19, (some (16, true)), .notb (.t 18)⟩, dO 20 (.pick (.t 16) (.t 19) (.c (.bool false))), dO 2 (.tk (.t 20))])
 (.ret))) }

def c_tree_Right_2 : AFunc :=
 { np := 1, res := [.t 2], body := (
 .seq (.reg [dO 1 (.box (.t 0)), dO 2 (.tk (.c (.bool false)))])
 (.seq (.reg [dO 3 (.fa 0 (.t 1)), dO 4 (.ld none (.t 3)), dO 5 (.callc n_lex_Name [(.t 4)]), dO 6 (.notb (.t 5)), dO 7 (.mv (.t 6)), ⟨some 8, (some (7, false)), .fa 1 (.t 1)⟩, ⟨some 9, (some (7, false)), .ld (some 4) (.t 8)⟩, ⟨some 10, (some (7, false)), .callc n_tree_expr [(.t 9), (.c (.int .i64 8))]⟩, ⟨some 11, (some (7, false)), .notb (.t 10)⟩, dO 12 (.pick (.t 7) (.c (.bool true)) (.t 11)), dO 2 (.tk (.t 12))])
 (.ret))) }

def c_tree_expr : AFunc :=
 { np := 2, res := [.t 4], body := (
 .seq (.reg [dO 2 (.box (.t 0)), dO 3 (.box (.t 1)), dO 4 (.tk (.c (.bool false)))])
 (.seq (.reg [dO 9 (.fa 0 (.t 2)), dO 10 (.ld none (.t 9)), dO 11 (.callc n_tree_Parts [(.t 10)]), dO 8 (.mv (.t 11)), dO 12 (.ext (.t 8) 0), dO 13 (.ext (.t 8) 1), dO 5 (.tk (.t 12)), dO 6 (.tk (.t 13))])
 (.seq (.seq (.reg [dO 14 (.mv (.t 6)), dO 15 (.notb (.t 14)), dO 16 (.mv (.t 15)), ⟨some 17, (some (16, false)), .ld none (.t 3)⟩, ⟨some 18, (some (16, false)), .ic .eql (.t 17) (.c (.int .i64 0))⟩, dO 19 (.pick (.t 16) (.c (.bool true)) (.t 18)), dO 20 (.mv (.t 19)), ⟨some 21, (some (20, false)), .fa 3 (.t 2)⟩, ⟨some 22, (some (20, false)), .ld none (.t 21)⟩, ⟨some 23, (some (20, false)), .len false (.t 22)⟩, ⟨some 24, (some (20, false)), .mv (.t 5)⟩, ⟨some 25, (some (20, false)), .ic .neq (.t 23) (.t 24)⟩, dO 26 (.pick (.t 20) (.c (.bool true)) (.t 25))])
 (.cond (.t 26)
 (.seq (.reg [dO 4 (.tk (.c (.bool false)))])
 (.ret))
 (.skip)))
 (.seq (.seq (.reg [dO 27 (.fa 0 (.t 2)), dO 28 (.ld none (.t 27)), dO 29 (.fa 1 (.t 2)), dO 30 (.ld none (.t 29)), dO 31 (.fa 2 (.t 2)), dO 32 (.ld none (.t 31)), dO 33 (.bld [.int .i64 0, .int .i64 0, .str [], .sl 4 []] [(0, 1, (.t 28)), (1, 1, (.t 30)), (2, 1, (.t 32))]), dO 7 (.alloc [.int .i64 0, .int .i64 0, .str [], .own 4 []]), ⟨none, none, .st 4 (.t 7) (.t 33)⟩])
 (.seq (.reg [dO 34 (.fa 0 (.t 7)), dO 35 (.ld none (.t 34))])
 (.block 0 (.seq (.reg [dO 45 (.ic .eql (.t 35) (.c (.int .i64 1))), dO 44 (.tk (.t 45))])
 (.cond (.t 44)
 (.reg [dO 46 (.fa 1 (.t 7)), dO 47 (.ld none (.t 46)), dO 48 (.ic .geq (.t 47) (.c (.int .i64 0))), dO 49 (.mv (.t 48)), ⟨some 50, (some (49, true)), .fa 1 (.t 7)⟩, ⟨some 51, (some (49, true)), .ld none (.t 50)⟩, ⟨some 52, (some (49, true)), .ic .leq (.t 51) (.c (.int .i64 1000000000000))⟩, dO 53 (.pick (.t 49) (.t 52) (.c (.bool false))), dO 54 (.mv (.t 53)), ⟨some 55, (some (54, true)), .fa 2 (.t 7)⟩, ⟨some 56, (some (54, true)), .ld none (.t 55)⟩, ⟨some 57, (some (54, true)), .sop .eql (.t 56) (.c (.str []))⟩, dO 58 (.pick (.t 54) (.t 57) (.c (.bool false))), dO 6 (.tk (.t 58))])
 (.seq (.reg [dO 60 (.ic .eql (.t 35) (.c (.int .i64 3))), dO 59 (.tk (.t 60))])
 (.cond (.t 59)
 (.reg [dO 61 (.fa 1 (.t 7)), dO 62 (.ld none (.t 61)), dO 63 (.ia .shr .i64 (.t 62) (.c (.int .u64 1))), dO 64 (.ic .eql (.t 63) (.c (.int .i64 0))), dO 65 (.mv (.t 64)), ⟨some 66, (some (65, true)), .fa 2 (.t 7)⟩, ⟨some 67, (some (65, true)), .ld none (.t 66)⟩, ⟨some 68, (some (65, true)), .sop .eql (.t 67) (.c (.str []))⟩, dO 69 (.pick (.t 65) (.t 68) (.c (.bool false))), dO 6 (.tk (.t 69))])
 (.seq (.reg [dO 71 (.ic .eql (.t 35) (.c (.int .i64 2))), dO 70 (.tk (.t 71))])
 (.cond (.t 70)
 (.reg [dO 72 (.fa 2 (.t 7)), dO 73 (.ld none (.t 72)), dO 74 (.len true (.t 73)), dO 75 (.ic .leq (.t 74) (.c (.int .i64 64))), dO 76 (.mv (.t 75)), ⟨some 77, (some (76, true)), .fa 1 (.t 7)⟩, ⟨some 78, (some (76, true)), .ld none (.t 77)⟩, ⟨some 79, (some (76, true)), .ic .eql (.t 78) (.c (.int .i64 0))⟩, dO 80 (.pick (.t 76) (.t 79) (.c (.bool false))), dO 6 (.tk (.t 80))])
 (.seq (.reg [dO 82 (.ic .eql (.t 35) (.c (.int .i64 4))), dO 81 (.tk (.t 82))])
 (.cond (.t 81)
 (.reg [dO 83 (.fa 2 (.t 7)), dO 84 (.ld none (.t 83)), dO 85 (.callc n_lex_Name [(.t 84)]), dO 86 (.mv (.t 85)), ⟨some 87, (some (86, true)), .fa 1 (.t 7)⟩, ⟨some 88, (some (86, true)), .ld none (.t 87)⟩, ⟨some 89, (some (86, true)), .ic .eql (.t 88) (.c (.int .i64 0))⟩, dO 90 (.pick (.t 86) (.t 89) (.c (.bool false))), dO 6 (.tk (.t 90))])
 (.reg [dO 36 (.fa 2 (.t 7)), dO 37 (.ld none (.t 36)), dO 38 (.sop .eql (.t 37) (.c (.str []))), dO 39 (.mv (.t 38)), ⟨some 40, (some (39, true)), .fa 1 (.t 7)⟩, ⟨some 41, (some (39, true)), .ld none (.t 40)⟩, ⟨some 42, (some (39, true)), .ic .eql (.t 41) (.c (.int .i64 0))⟩, dO 43 (.pick (.t 39) (.t 42) (.c (.bool false))), dO 6 (.tk (.t 43))]))))))))))))
 (.seq (.reg [dO 91 (.mv (.t 6)), dO 92 (.mv (.t 91)), ⟨some 93, (some (92, true)), .fa 3 (.t 2)⟩, ⟨some 94, (some (92, true)), .ld none (.t 93)⟩, ⟨some 95, (some (92, true)), .mkf (.func n_tree_expr_1) [] [(.t 3)]⟩, ⟨some 96, (some (92, true)), .call n_slices_ContainsFunc_api_Expr_api_Expr [(.t 94), (.t 95)]⟩, ⟨some 97, (some (92, true)), .notb (.t 96)⟩, dO 98 (.pick (.t 92) (.t 97) (.c (.bool false))), dO 4 (.tk (.t 98))])
 (.ret)))))) }

def c_tree_Right_3 : AFunc :=
 { np := 1, res := [.t 2], body := (
 .seq (.reg [dO 2 (.tk (.c (.bool false)))])
 (.seq (.reg [dO 3 (.mv (.t 0)), dO 4 (.callc n_tree_block [(.t 3), (.c (.int .i64 1))]), dO 5 (.notb (.t 4)), dO 2 (.tk (.t 5))])
 (.ret))) }

def c_tree_block : AFunc :=
 { np := 2, res := [.t 4], body := (
 .seq (.reg [dO 3 (.box (.t 1)), dO 4 (.tk (.c (.bool false)))])
 (.seq (.reg [dO 5 (.mv (.t 0)), dO 6 (.mkf (.func n_tree_block_1) [] [(.t 3)]), dO 7 (.call n_slices_ContainsFunc_api_Stmt_api_Stmt_x [(.t 5), (.t 6)]), dO 8 (.notb (.t 7)), dO 4 (.tk (.t 8))])
 (.ret))) }

def c_slices_ContainsFunc_api_Proc_api_Proc : AFunc :=
 { np := 2, res := [.t 4], body := (
 .seq (.reg [dO 4 (.tk (.c (.bool false)))])
 (.seq (.reg [dO 5 (.mv (.t 0)), dO 6 (.mv (.t 1)), dO 7 (.call n_slices_IndexFunc_api_Proc_api_Proc [(.t 5), (.t 6)]), dO 8 (.ic .geq (.t 7) (.c (.int .i64 0))), dO 4 (.tk (.t 8))])
 (.ret))) }

def c_slices_ContainsFunc_api_Oracle_api_Oracle : AFunc :=
 { np := 2, res := [.t 4], body := (
 .seq (.reg [dO 4 (.tk (.c (.bool false)))])
 (.seq (.reg [dO 5 (.mv (.t 0)), dO 6 (.mv (.t 1)), dO 7 (.call n_slices_IndexFunc_api_Oracle_api_Oracle [(.t 5), (.t 6)]), dO 8 (.ic .geq (.t 7) (.c (.int .i64 0))), dO 4 (.tk (.t 8))])
 (.ret))) }

def c_slices_ContainsFunc_api_Stmt_api_Stmt : AFunc :=
 { np := 2, res := [.t 4], body := (
 .seq (.reg [dO 4 (.tk (.c (.bool false)))])
 (.seq (.reg [dO 5 (.mv (.t 0)), dO 6 (.mv (.t 1)), dO 7 (.call n_slices_IndexFunc_api_Stmt_api_Stmt [(.t 5), (.t 6)]), dO 8 (.ic .geq (.t 7) (.c (.int .i64 0))), dO 4 (.tk (.t 8))])
 (.ret))) }

def b_tree_parts_0 : AC :=
 .seq (.reg [dO 10 (.ic .lss (.t 9) (.t 8))])
 (.seq (.cond (.t 10)
 (.skip)
 (.exit 0))
 (.seq (.block 1 (.seq (.reg [dO 11 (.ixa 2 none (.t 7) (.t 9)), dO 12 (.ld (some 2) (.t 11)), dO 5 (.alloc [.str [], .own 7 []]), ⟨none, none, .st 2 (.t 5) (.t 12)⟩])
 (.reg [dO 13 (.tk (.t 3)), dO 14 (.fa 1 (.t 5)), dO 15 (.ld none (.t 14)), dO 16 (.bsl 1 [.sl 7 []] 1 [(0, 1, (.t 15))] false), dO 17 (.app 1 24 (.t 13) (.t 16) false), dO 3 (.tk (.t 17))])))
 (.reg [dO 18 (.ia .add .i64 (.t 9) (.c (.int .i64 1))), dO 9 (.mv (.t 18))])))

def l_tree_parts_0 : AC :=
 .loop [1, 3, 7, 8, 9] b_tree_parts_0

def r_tree_parts_0 : AC :=
 .seq (.reg [dO 19 (.tk (.t 3)), dO 20 (.fa 1 (.t 1)), dO 21 (.ld none (.t 20)), dO 22 (.fa 2 (.t 1)), dO 23 (.ld none (.t 22)), dO 24 (.bsl 1 [.sl 7 []] 2 [(0, 1, (.t 21)), (1, 1, (.t 23))] false), dO 25 (.app 1 24 (.t 19) (.t 24) false), dO 2 (.tk (.t 25))])
 (.ret)

def c_tree_parts : AFunc :=
 { np := 1, res := [.t 2], body := (
 .seq (.reg [dO 1 (.box (.t 0)), dO 2 (.tk (.c (.own 1 [])))])
 (.seq (.reg [dO 3 (.tk (.c (.own 1 [])))])
 (.seq (.seq (.reg [dO 6 (.fa 0 (.t 1)), dO 7 (.ld none (.t 6)), dO 8 (.len false (.t 7)), dO 9 (.mv (.c (.int .i64 0)))])
 (.block 0 (l_tree_parts_0))) r_tree_parts_0))) }

def b_r16_block_0 : AC :=
 .seq (.seq (.reg [dO 30 (.mv (.t 7)), dO 31 (.mv (.t 0)), dO 32 (.mv (.t 6)), dO 33 (.ixa 7 none (.t 31) (.t 32)), dO 34 (.fa 3 (.t 33)), dO 35 (.ld none (.t 34)), dO 36 (.len false (.t 35)), dO 37 (.ic .lss (.t 30) (.t 36))])
 (.cond (.t 37)
 (.skip)
 (.exit 2)))
 (.seq (.block 3 (.seq (.reg [dO 40 (.mv (.t 5)), dO 41 (.mv (.t 0)), dO 42 (.mv (.t 6)), dO 43 (.ixa 7 none (.t 41) (.t 42)), dO 44 (.fa 3 (.t 43)), dO 45 (.ld none (.t 44)), dO 46 (.mv (.t 7)), dO 47 (.ixa 4 none (.t 45) (.t 46)), dO 48 (.ld (some 4) (.t 47)), dO 49 (.mv (.t 1)), dO 50 (.mv (.t 5)), dO 51 (.ia .sub .i64 (.t 49) (.t 50)), dO 52 (.callc n_r16_expr [(.t 48), (.t 51)]), dO 53 (.ia .add .i64 (.t 40) (.t 52)), dO 5 (.tk (.t 53))])
 (.seq (.reg [dO 54 (.mv (.t 5)), dO 55 (.mv (.t 1)), dO 56 (.ic .gtr (.t 54) (.t 55))])
 (.cond (.t 56)
 (.seq (.reg [dO 57 (.mv (.t 1)), dO 58 (.ia .add .i64 (.t 57) (.c (.int .i64 1))), dO 4 (.tk (.t 58))])
 (.ret))
 (.skip)))))
 (.reg [dO 38 (.mv (.t 7)), dO 39 (.ia .add .i64 (.t 38) (.c (.int .i64 1))), dO 7 (.tk (.t 39))]))

def l_r16_block_0 : AC :=
 .loop [0, 1, 5, 6, 7] b_r16_block_0

def r_r16_block_0 : AC :=
 .seq (.reg [dO 59 (.mv (.t 5)), dO 60 (.mv (.t 0)), dO 61 (.mv (.t 6)), dO 62 (.ixa 7 none (.t 60) (.t 61)), dO 63 (.fa 4 (.t 62)), dO 64 (.ld none (.t 63)), dO 65 (.mv (.t 1)), dO 66 (.mv (.t 5)), dO 67 (.ia .sub .i64 (.t 65) (.t 66)), dO 68 (.callc n_r16_block [(.t 64), (.t 67)]), dO 69 (.ia .add .i64 (.t 59) (.t 68)), dO 5 (.tk (.t 69))])
 (.seq (.seq (.reg [dO 70 (.mv (.t 5)), dO 71 (.mv (.t 1)), dO 72 (.ic .gtr (.t 70) (.t 71))])
 (.cond (.t 72)
 (.seq (.reg [dO 73 (.mv (.t 1)), dO 74 (.ia .add .i64 (.t 73) (.c (.int .i64 1))), dO 4 (.tk (.t 74))])
 (.ret))
 (.skip)))
 (.seq (.reg [dO 75 (.mv (.t 5)), dO 76 (.mv (.t 0)), dO 77 (.mv (.t 6)), dO 78 (.ixa 7 none (.t 76) (.t 77)), dO 79 (.fa 5 (.t 78)), dO 80 (.ld none (.t 79)), dO 81 (.mv (.t 1)), dO 82 (.mv (.t 5)), dO 83 (.ia .sub .i64 (.t 81) (.t 82)), dO 84 (.callc n_r16_block [(.t 80), (.t 83)]), dO 85 (.ia .add .i64 (.t 75) (.t 84)), dO 5 (.tk (.t 85))])
 (.seq (.reg [dO 86 (.mv (.t 5)), dO 87 (.mv (.t 1)), dO 88 (.ic .gtr (.t 86) (.t 87))])
 (.cond (.t 88)
 (.seq (.reg [dO 89 (.mv (.t 1)), dO 90 (.ia .add .i64 (.t 89) (.c (.int .i64 1))), dO 4 (.tk (.t 90))])
 (.ret))
 (.skip)))))

def r_r16_block_1 : AC :=
 .reg [dO 12 (.mv (.t 6)), dO 13 (.ia .add .i64 (.t 12) (.c (.int .i64 1))), dO 6 (.tk (.t 13))]

def b_r16_block_1 : AC :=
 .seq (.seq (.reg [dO 8 (.mv (.t 6)), dO 9 (.mv (.t 0)), dO 10 (.len false (.t 9)), dO 11 (.ic .lss (.t 8) (.t 10))])
 (.cond (.t 11)
 (.skip)
 (.exit 0)))
 (.seq (.block 1 (.seq (.reg [dO 14 (.mv (.t 5)), dO 15 (.ia .add .i64 (.t 14) (.c (.int .i64 1))), dO 5 (.tk (.t 15))])
 (.seq (.seq (.reg [dO 16 (.mv (.t 5)), dO 17 (.mv (.t 1)), dO 18 (.ic .gtr (.t 16) (.t 17)), dO 19 (.mv (.t 18)), ⟨some 20, (some (19, false)), .mv (.t 0)⟩, ⟨some 21, (some (19, false)), .mv (.t 6)⟩, ⟨some 22, (some (19, false)), .ixa 7 none (.t 20) (.t 21)⟩, ⟨some 23, (some (19, false)), .fa 1 (.t 22)⟩, ⟨some 24, (some (19, false)), .ld none (.t 23)⟩, ⟨some 25, (some (19, false)), .len true (.t 24)⟩, ⟨some 26, (some (19, false)), .ic .gtr (.t 25) (.c (.int .i64 300))⟩, dO 27 (.pick (.t 19) (.c (.bool true)) (.t 26))])
 (.cond (.t 27)
 (.seq (.reg [dO 28 (.mv (.t 1)), dO 29 (.ia .add .i64 (.t 28) (.c (.int .i64 1))), dO 4 (.tk (.t 29))])
 (.ret))
 (.skip)))
 (.seq (.seq (.reg [dO 7 (.tk (.c (.int .i64 0)))])
 (.block 2 (l_r16_block_0))) r_r16_block_0)))) r_r16_block_1)

def l_r16_block_1 : AC :=
 .loop [0, 1, 5, 6] b_r16_block_1

def r_r16_block_2 : AC :=
 .seq (.reg [dO 91 (.mv (.t 5)), dO 4 (.tk (.t 91))])
 (.ret)

def c_r16_block : AFunc :=
 { np := 2, res := [.t 4], body := (
 .seq (.reg [dO 4 (.tk (.c (.int .i64 0)))])
 (.seq (.reg [dO 5 (.tk (.c (.int .i64 0)))])
 (.seq (.seq (.reg [dO 6 (.tk (.c (.int .i64 0)))])
 (.block 0 (l_r16_block_1))) r_r16_block_2))) }

def b_r16_expr_0 : AC :=
 .seq (.seq (.reg [dO 17 (.mv (.t 6)), dO 18 (.fa 3 (.t 2)), dO 19 (.ld none (.t 18)), dO 20 (.len false (.t 19)), dO 21 (.ic .lss (.t 17) (.t 20))])
 (.cond (.t 21)
 (.skip)
 (.exit 0)))
 (.seq (.block 1 (.seq (.reg [dO 24 (.mv (.t 5)), dO 25 (.fa 3 (.t 2)), dO 26 (.ld none (.t 25)), dO 27 (.mv (.t 6)), dO 28 (.ixa 4 none (.t 26) (.t 27)), dO 29 (.ld (some 4) (.t 28)), dO 30 (.mv (.t 1)), dO 31 (.mv (.t 5)), dO 32 (.ia .sub .i64 (.t 30) (.t 31)), dO 33 (.callc n_r16_expr [(.t 29), (.t 32)]), dO 34 (.ia .add .i64 (.t 24) (.t 33)), dO 5 (.tk (.t 34))])
 (.seq (.reg [dO 35 (.mv (.t 5)), dO 36 (.mv (.t 1)), dO 37 (.ic .gtr (.t 35) (.t 36))])
 (.cond (.t 37)
 (.seq (.reg [dO 38 (.mv (.t 1)), dO 39 (.ia .add .i64 (.t 38) (.c (.int .i64 1))), dO 4 (.tk (.t 39))])
 (.ret))
 (.skip)))))
 (.reg [dO 22 (.mv (.t 6)), dO 23 (.ia .add .i64 (.t 22) (.c (.int .i64 1))), dO 6 (.tk (.t 23))]))

def l_r16_expr_0 : AC :=
 .loop [1, 2, 5, 6] b_r16_expr_0

def r_r16_expr_0 : AC :=
 .seq (.reg [dO 40 (.mv (.t 5)), dO 4 (.tk (.t 40))])
 (.ret)

def c_r16_expr : AFunc :=
 { np := 2, res := [.t 4], body := (
 .seq (.reg [dO 2 (.box (.t 0)), dO 4 (.tk (.c (.int .i64 0)))])
 (.seq (.seq (.reg [dO 7 (.mv (.t 1)), dO 8 (.ic .lss (.t 7) (.c (.int .i64 1))), dO 9 (.mv (.t 8)), ⟨some 10, (some (9, false)), .fa 2 (.t 2)⟩, ⟨some 11, (some (9, false)), .ld none (.t 10)⟩, ⟨some 12, (some (9, false)), .len true (.t 11)⟩, ⟨some 13, (some (9, false)), .ic .gtr (.t 12) (.c (.int .i64 300))⟩, dO 14 (.pick (.t 9) (.c (.bool true)) (.t 13))])
 (.cond (.t 14)
 (.seq (.reg [dO 15 (.mv (.t 1)), dO 16 (.ia .add .i64 (.t 15) (.c (.int .i64 1))), dO 4 (.tk (.t 16))])
 (.ret))
 (.skip)))
 (.seq (.reg [dO 5 (.tk (.c (.int .i64 1)))])
 (.seq (.seq (.reg [dO 6 (.tk (.c (.int .i64 0)))])
 (.block 0 (l_r16_expr_0))) r_r16_expr_0)))) }

def c_pprint_printer_stmt : AFunc :=
 { np := 3, res := [], body := (
 .seq (.reg [dO 4 (.box (.t 1))])
 (.seq (.reg [dO 6 (.mv (.t 0)), dO 7 (.fa 0 (.t 4)), dO 8 (.ld none (.t 7)), dO 9 (.callc n_print_key [(.t 8)]), dO 10 (.bsl 1 [.str []] 1 [(0, 1, (.t 9))] false), dO 11 (.call n_pprint_printer_add [(.t 6), (.t 10)])])
 (.seq (.seq (.reg [dO 12 (.fa 0 (.t 4)), dO 13 (.ld none (.t 12))])
 (.block 0 (.seq (.reg [dO 15 (.ic .eql (.t 13) (.c (.int .i64 12))), dO 14 (.tk (.t 15))])
 (.cond (.t 14)
 (.reg [dO 16 (.mv (.t 0)), dO 17 (.fa 1 (.t 4)), dO 18 (.ld none (.t 17)), dO 19 (.bsl 1 [.str []] 3 [(0, 1, (.c (.str [32]))), (1, 1, (.t 18)), (2, 1, (.c (.str [32, 61])))] false), dO 20 (.call n_pprint_printer_add [(.t 16), (.t 19)])])
 (.seq (.reg [dO 22 (.ic .eql (.t 13) (.c (.int .i64 15))), dO 21 (.tk (.t 22))])
 (.cond (.t 21)
 (.reg [dO 23 (.mv (.t 0)), dO 24 (.fa 1 (.t 4)), dO 25 (.ld none (.t 24)), dO 26 (.bsl 1 [.str []] 2 [(0, 1, (.c (.str [32]))), (1, 1, (.t 25))] false), dO 27 (.call n_pprint_printer_add [(.t 23), (.t 26)])])
 (.seq (.reg [dO 29 (.ic .eql (.t 13) (.c (.int .i64 14))), dO 28 (.tk (.t 29))])
 (.cond (.t 28)
 (.reg [dO 30 (.mv (.t 0)), dO 31 (.fa 2 (.t 4)), dO 32 (.ld none (.t 31)), dO 33 (.callc n_num_Digits [(.t 32)]), dO 34 (.bsl 1 [.str []] 2 [(0, 1, (.c (.str [32]))), (1, 1, (.t 33))] false), dO 35 (.call n_pprint_printer_add [(.t 30), (.t 34)])])
 (.skip)))))))))
 (.seq (.reg [dO 36 (.mv (.t 0)), dO 37 (.fa 3 (.t 4)), dO 38 (.ld none (.t 37)), dO 39 (.call n_pprint_printer_exprs [(.t 36), (.t 38)])])
 (.seq (.seq (.reg [dO 40 (.fa 0 (.t 4)), dO 41 (.ld none (.t 40))])
 (.block 1 (.seq (.seq (.reg [dO 43 (.ic .eql (.t 41) (.c (.int .i64 13))), dO 42 (.tk (.t 43))])
 (.cond (.t 42)
 (.skip)
 (.reg [dO 44 (.ic .eql (.t 41) (.c (.int .i64 14))), dO 42 (.tk (.t 44))])))
 (.cond (.t 42)
 (.seq (.reg [dO 45 (.mv (.t 0)), dO 46 (.fa 4 (.t 4)), dO 47 (.ld none (.t 46)), dO 48 (.mv (.t 2)), dO 49 (.call n_pprint_printer_block [(.t 45), (.t 47), (.t 48)])])
 (.seq (.seq (.reg [dO 50 (.fa 5 (.t 4)), dO 51 (.ld none (.t 50)), dO 52 (.len false (.t 51)), dO 53 (.ic .gtr (.t 52) (.c (.int .i64 0)))])
 (.cond (.t 53)
 (.seq (.reg [dO 54 (.mv (.t 0)), dO 55 (.bsl 1 [.str []] 1 [(0, 1, (.c (.str [32, 101, 108, 115, 101])))] false), dO 56 (.call n_pprint_printer_add [(.t 54), (.t 55)])])
 (.reg [dO 57 (.mv (.t 0)), dO 58 (.fa 5 (.t 4)), dO 59 (.ld none (.t 58)), dO 60 (.mv (.t 2)), dO 61 (.call n_pprint_printer_block [(.t 57), (.t 59), (.t 60)])]))
 (.skip)))
 (.ret)))
 (.seq (.reg [dO 63 (.ic .eql (.t 41) (.c (.int .i64 16))), dO 62 (.tk (.t 63))])
 (.cond (.t 62)
 (.seq (.reg [dO 64 (.mv (.t 0)), dO 65 (.fa 4 (.t 4)), dO 66 (.ld none (.t 65)), dO 67 (.mv (.t 2)), dO 68 (.call n_pprint_printer_block [(.t 64), (.t 66), (.t 67)])])
 (.seq (.reg [dO 69 (.fa 6 (.t 4)), dO 70 (.ld none (.t 69))])
 (.cond (.t 70)
 (.reg [dO 71 (.mv (.t 0)), dO 72 (.bsl 1 [.str []] 1 [(0, 1, (.c (.str [32, 99, 111, 109, 109, 105, 116])))] false), dO 73 (.call n_pprint_printer_add [(.t 71), (.t 72)])])
 (.skip))))
 (.skip)))))))
 (.reg [dO 74 (.mv (.t 0)), dO 75 (.bsl 1 [.str []] 1 [(0, 1, (.c (.str [59])))] false), dO 76 (.call n_pprint_printer_add [(.t 74), (.t 75)])])))))) }

def c_print_strong : AFunc :=
 { np := 1, res := [.t 2], body := (
 .seq (.reg [dO 2 (.tk (.c (.int .i64 0)))])
 (.seq (.seq (.reg [dO 3 (.mv (.t 0))])
 (.block 0 (.seq (.reg [dO 5 (.ic .eql (.t 3) (.c (.int .i64 14))), dO 4 (.tk (.t 5))])
 (.cond (.t 4)
 (.seq (.reg [dO 2 (.tk (.c (.int .i64 0)))])
 (.ret))
 (.seq (.reg [dO 7 (.ic .eql (.t 3) (.c (.int .i64 13))), dO 6 (.tk (.t 7))])
 (.cond (.t 6)
 (.seq (.reg [dO 2 (.tk (.c (.int .i64 1)))])
 (.ret))
 (.seq (.reg [dO 9 (.ic .eql (.t 3) (.c (.int .i64 8))), dO 8 (.tk (.t 9))])
 (.cond (.t 8)
 (.seq (.reg [dO 2 (.tk (.c (.int .i64 2)))])
 (.ret))
 (.seq (.seq (.reg [dO 11 (.ic .eql (.t 3) (.c (.int .i64 11))), dO 10 (.tk (.t 11))])
 (.cond (.t 10)
 (.skip)
 (.reg [dO 12 (.ic .eql (.t 3) (.c (.int .i64 12))), dO 10 (.tk (.t 12))])))
 (.cond (.t 10)
 (.seq (.reg [dO 2 (.tk (.c (.int .i64 3)))])
 (.ret))
 (.seq (.seq (.reg [dO 14 (.ic .eql (.t 3) (.c (.int .i64 9))), dO 13 (.tk (.t 14))])
 (.cond (.t 13)
 (.skip)
 (.reg [dO 15 (.ic .eql (.t 3) (.c (.int .i64 10))), dO 13 (.tk (.t 15))])))
 (.cond (.t 13)
 (.seq (.reg [dO 2 (.tk (.c (.int .i64 4)))])
 (.ret))
 (.skip)))))))))))))
 (.seq (.reg [dO 2 (.tk (.c (.int .i64 5)))])
 (.ret)))) }

def b_num_Digits_0 : AC :=
 .block 1 (.seq (.reg [dO 12 (.mv (.t 4)), dO 13 (.ia .sub .i64 (.t 12) (.c (.int .i64 1))), dO 4 (.tk (.t 13))])
 (.seq (.reg [dO 14 (.mv (.t 4)), dO 15 (.mv (.t 5)), dO 16 (.ia .rem .u64 (.t 15) (.c (.int .u64 10))), dO 17 (.ia .add .u64 (.c (.int .u64 48)) (.t 16)), dO 18 (.conv .u8 (.t 17)), dO 19 (.ixa 1 (some 20) (.t 3) (.t 14)), ⟨none, none, .st 1 (.t 19) (.t 18)⟩])
 (.seq (.reg [dO 20 (.mv (.t 5)), dO 21 (.ia .quo .u64 (.t 20) (.c (.int .u64 10))), dO 5 (.tk (.t 21))])
 (.seq (.reg [dO 22 (.mv (.t 5)), dO 23 (.ic .eql (.t 22) (.c (.int .u64 0)))])
 (.cond (.t 23)
 (.exit 0)
 (.skip))))))

def l_num_Digits_0 : AC :=
 .loop [0, 3, 4, 5] b_num_Digits_0

def r_num_Digits_0 : AC :=
 .seq (.seq (.reg [dO 24 (.mv (.t 0)), dO 25 (.ic .lss (.t 24) (.c (.int .i64 0)))])
 (.cond (.t 25)
 (.seq (.reg [dO 26 (.mv (.t 4)), dO 27 (.ia .sub .i64 (.t 26) (.c (.int .i64 1))), dO 4 (.tk (.t 27))])
 (.reg [dO 28 (.mv (.t 4)), dO 29 (.ixa 1 (some 20) (.t 3) (.t 28)), ⟨none, none, .st 1 (.t 29) (.c (.int .u8 45))⟩]))
 (.skip)))
 (.seq (.reg [dO 30 (.mv (.t 4)), dO 31 (.slp 1 20 (.t 3) (some (.t 30)) none none), dO 32 (.b2s (.t 31)), dO 2 (.tk (.t 32))])
 (.ret))

def c_num_Digits : AFunc :=
 { np := 1, res := [.t 2], body := (
 .seq (.reg [dO 2 (.tk (.c (.str [])))])
 (.seq (.reg [dO 3 (.alloc [.int .u8 0, .int .u8 0, .int .u8 0, .int .u8 0, .int .u8 0, .int .u8 0, .int .u8 0, .int .u8 0, .int .u8 0, .int .u8 0, .int .u8 0, .int .u8 0, .int .u8 0, .int .u8 0, .int .u8 0, .int .u8 0, .int .u8 0, .int .u8 0, .int .u8 0, .int .u8 0])])
 (.seq (.reg [dO 4 (.tk (.c (.int .i64 20)))])
 (.seq (.reg [dO 6 (.mv (.t 0)), dO 7 (.conv .u64 (.t 6)), dO 5 (.tk (.t 7))])
 (.seq (.seq (.reg [dO 8 (.mv (.t 0)), dO 9 (.ic .lss (.t 8) (.c (.int .i64 0)))])
 (.cond (.t 9)
 (.reg [dO 10 (.mv (.t 5)), dO 11 (.neg .u64 (.t 10)), dO 5 (.tk (.t 11))])
 (.skip)))
 (.seq (.block 0 (l_num_Digits_0)) r_num_Digits_0)))))) }

def b_view_Quote_0 : AC :=
 .seq (.reg [dO 11 (.ic .lss (.t 10) (.t 9))])
 (.seq (.cond (.t 11)
 (.skip)
 (.exit 0))
 (.seq (.block 1 (.seq (.reg [dO 12 (.ixa 1 none (.t 8) (.t 10)), dO 13 (.ld none (.t 12)), dO 5 (.tk (.t 13))])
 (.seq (.seq (.reg [dO 14 (.mv (.t 5)), dO 15 (.callc n_view_plain [(.t 14)])])
 (.cond (.t 15)
 (.seq (.reg [dO 16 (.mv (.t 5)), dO 17 (.call n_pstrings_Builder_WriteByte [(.t 3), (.t 16)])])
 (.exit 1))
 (.skip)))
 (.seq (.reg [dO 18 (.call n_pstrings_Builder_WriteByte [(.t 3), (.c (.int .u8 92))])])
 (.seq (.reg [dO 19 (.mv (.t 5)), dO 20 (.ia .shr .u8 (.t 19) (.c (.int .u64 4))), dO 21 (.ixs (.c (.str [48, 49, 50, 51, 52, 53, 54, 55, 56, 57, 97, 98, 99, 100, 101, 102])) (.t 20)), dO 22 (.call n_pstrings_Builder_WriteByte [(.t 3), (.t 21)])])
 (.reg [dO 23 (.mv (.t 5)), dO 24 (.ia .and .u8 (.t 23) (.c (.int .u8 15))), dO 25 (.ixs (.c (.str [48, 49, 50, 51, 52, 53, 54, 55, 56, 57, 97, 98, 99, 100, 101, 102])) (.t 24)), dO 26 (.call n_pstrings_Builder_WriteByte [(.t 3), (.t 25)])]))))))
 (.reg [dO 27 (.ia .add .i64 (.t 10) (.c (.int .i64 1))), dO 10 (.mv (.t 27))])))

def l_view_Quote_0 : AC :=
 .loop [3, 8, 9, 10] b_view_Quote_0

def r_view_Quote_0 : AC :=
 .seq (.reg [dO 28 (.call n_pstrings_Builder_WriteByte [(.t 3), (.c (.int .u8 34))])])
 (.seq (.reg [dO 29 (.call n_pstrings_Builder_String [(.t 3)]), dO 2 (.tk (.t 29))])
 (.ret))

def c_view_Quote : AFunc :=
 { np := 1, res := [.t 2], body := (
 .seq (.reg [dO 2 (.tk (.c (.str [])))])
 (.seq (.reg [dO 3 (.allocb bT bE)])
 (.seq (.reg [dO 6 (.call n_pstrings_Builder_WriteByte [(.t 3), (.c (.int .u8 34))])])
 (.seq (.seq (.reg [dO 7 (.mv (.t 0)), dO 8 (.s2b (.t 7)), dO 9 (.len false (.t 8)), dO 10 (.mv (.c (.int .i64 0)))])
 (.block 0 (l_view_Quote_0))) r_view_Quote_0)))) }

def c_print_call : AFunc :=
 { np := 1, res := [.t 2], body := (
 .seq (.reg [dO 2 (.tk (.c (.str [])))])
 (.seq (.seq (.reg [dO 3 (.mv (.t 0))])
 (.block 0 (.seq (.reg [dO 5 (.ic .eql (.t 3) (.c (.int .i64 5))), dO 4 (.tk (.t 5))])
 (.cond (.t 4)
 (.seq (.reg [dO 2 (.tk (.c (.str [101, 120, 105, 115, 116, 115])))])
 (.ret))
 (.seq (.reg [dO 7 (.ic .eql (.t 3) (.c (.int .i64 6))), dO 6 (.tk (.t 7))])
 (.cond (.t 6)
 (.seq (.reg [dO 2 (.tk (.c (.str [115, 105, 122, 101])))])
 (.ret))
 (.skip)))))))
 (.seq (.reg [dO 2 (.tk (.c (.str [114, 101, 97, 100])))])
 (.ret)))) }

def c_print_sign : AFunc :=
 { np := 1, res := [.t 2], body := (
 .seq (.reg [dO 2 (.tk (.c (.str [])))])
 (.seq (.seq (.reg [dO 3 (.mv (.t 0))])
 (.block 0 (.seq (.reg [dO 5 (.ic .eql (.t 3) (.c (.int .i64 9))), dO 4 (.tk (.t 5))])
 (.cond (.t 4)
 (.seq (.reg [dO 2 (.tk (.c (.str [32, 43, 32])))])
 (.ret))
 (.seq (.reg [dO 7 (.ic .eql (.t 3) (.c (.int .i64 10))), dO 6 (.tk (.t 7))])
 (.cond (.t 6)
 (.seq (.reg [dO 2 (.tk (.c (.str [32, 45, 32])))])
 (.ret))
 (.seq (.reg [dO 9 (.ic .eql (.t 3) (.c (.int .i64 11))), dO 8 (.tk (.t 9))])
 (.cond (.t 8)
 (.seq (.reg [dO 2 (.tk (.c (.str [32, 61, 61, 32])))])
 (.ret))
 (.seq (.reg [dO 11 (.ic .eql (.t 3) (.c (.int .i64 12))), dO 10 (.tk (.t 11))])
 (.cond (.t 10)
 (.seq (.reg [dO 2 (.tk (.c (.str [32, 60, 32])))])
 (.ret))
 (.seq (.reg [dO 13 (.ic .eql (.t 3) (.c (.int .i64 13))), dO 12 (.tk (.t 13))])
 (.cond (.t 12)
 (.seq (.reg [dO 2 (.tk (.c (.str [32, 97, 110, 100, 32])))])
 (.ret))
 (.skip)))))))))))))
 (.seq (.reg [dO 2 (.tk (.c (.str [32, 111, 114, 32])))])
 (.ret)))) }

def b_r16_All_0 : AC :=
 .seq (.seq (.reg [dO 5 (.mv (.t 4)), dO 6 (.fa 0 (.t 1)), dO 7 (.ld none (.t 6)), dO 8 (.len false (.t 7)), dO 9 (.ic .lss (.t 5) (.t 8))])
 (.cond (.t 9)
 (.skip)
 (.exit 0)))
 (.seq (.block 1 (.reg [dO 12 (.fa 0 (.t 1)), dO 13 (.ld none (.t 12)), dO 14 (.mv (.t 4)), dO 15 (.ixa 2 none (.t 13) (.t 14)), dO 16 (.fa 1 (.t 15)), dO 17 (.ld none (.t 16)), dO 18 (.tk (.t 3)), dO 19 (.call n_r16_list [(.t 17), (.t 18)]), dO 3 (.tk (.t 19))]))
 (.reg [dO 10 (.mv (.t 4)), dO 11 (.ia .add .i64 (.t 10) (.c (.int .i64 1))), dO 4 (.tk (.t 11))]))

def l_r16_All_0 : AC :=
 .loop [1, 3, 4] b_r16_All_0

def r_r16_All_0 : AC :=
 .seq (.reg [dO 20 (.fa 1 (.t 1)), dO 21 (.ld none (.t 20)), dO 22 (.tk (.t 3)), dO 23 (.call n_r16_list [(.t 21), (.t 22)]), dO 3 (.tk (.t 23))])
 (.seq (.reg [dO 24 (.fa 2 (.t 1)), dO 25 (.ld none (.t 24)), dO 26 (.tk (.t 3)), dO 27 (.call n_r16_list [(.t 25), (.t 26)]), dO 2 (.tk (.t 27))])
 (.ret))

def c_r16_All : AFunc :=
 { np := 1, res := [.t 2], body := (
 .seq (.reg [dO 1 (.box (.t 0)), dO 2 (.tk (.c (.own 7 [])))])
 (.seq (.reg [dO 3 (.tk (.c (.own 7 [])))])
 (.seq (.seq (.reg [dO 4 (.tk (.c (.int .i64 0)))])
 (.block 0 (l_r16_All_0))) r_r16_All_0))) }

def b_r15_Name_0 : AC :=
 .seq (.seq (.reg [dO 22 (.mv (.t 3)), dO 23 (.mv (.t 0)), dO 24 (.len true (.t 23)), dO 25 (.ic .lss (.t 22) (.t 24))])
 (.cond (.t 25)
 (.skip)
 (.exit 0)))
 (.seq (.block 1 (.seq (.reg [dO 28 (.mv (.t 0)), dO 29 (.mv (.t 3)), dO 30 (.ixs (.t 28) (.t 29)), dO 31 (.callc n_r15_inner [(.t 30)]), dO 32 (.notb (.t 31))])
 (.cond (.t 32)
 (.seq (.reg [dO 2 (.tk (.c (.bool false)))])
 (.ret))
 (.skip))))
 (.reg [dO 26 (.mv (.t 3)), dO 27 (.ia .add .i64 (.t 26) (.c (.int .i64 1))), dO 3 (.tk (.t 27))]))

def l_r15_Name_0 : AC :=
 .loop [0, 3] b_r15_Name_0

def r_r15_Name_0 : AC :=
 .seq (.reg [dO 2 (.tk (.c (.bool true)))])
 (.ret)

def c_r15_Name : AFunc :=
 { np := 1, res := [.t 2], body := (
 .seq (.reg [dO 2 (.tk (.c (.bool false)))])
 (.seq (.seq (.reg [dO 4 (.mv (.t 0)), dO 5 (.len true (.t 4)), dO 6 (.ic .lss (.t 5) (.c (.int .i64 1))), dO 7 (.mv (.t 6)), ⟨some 8, (some (7, false)), .mv (.t 0)⟩, ⟨some 9, (some (7, false)), .len true (.t 8)⟩, ⟨some 10, (some (7, false)), .ic .gtr (.t 9) (.c (.int .i64 8))⟩, dO 11 (.pick (.t 7) (.c (.bool true)) (.t 10)), dO 12 (.mv (.t 11)), ⟨some 13, (some (12, false)), .mv (.t 0)⟩, ⟨some 14, (some (12, false)), .ixs (.t 13) (.c (.int .i64 0))⟩, ⟨some 15, (some (12, false)), .callc n_r15_letter [(.t 14)]⟩, ⟨some 16, (some (12, false)), .notb (.t 15)⟩, dO 17 (.pick (.t 12) (.c (.bool true)) (.t 16)), dO 18 (.mv (.t 17)), ⟨some 19, (some (18, false)), .mv (.t 0)⟩, ⟨some 20, (some (18, false)), .callc n_r15_Key [(.t 19)]⟩, dO 21 (.pick (.t 18) (.c (.bool true)) (.t 20))])
 (.cond (.t 21)
 (.seq (.reg [dO 2 (.tk (.c (.bool false)))])
 (.ret))
 (.skip)))
 (.seq (.seq (.reg [dO 3 (.tk (.c (.int .i64 0)))])
 (.block 0 (l_r15_Name_0))) r_r15_Name_0))) }

def b_r16_Block_0 : AC :=
 .seq (.seq (.reg [dO 6 (.mv (.t 5)), dO 7 (.mv (.t 0)), dO 8 (.len false (.t 7)), dO 9 (.ic .lss (.t 6) (.t 8))])
 (.cond (.t 9)
 (.skip)
 (.exit 0)))
 (.seq (.block 1 (.seq (.reg [dO 12 (.mv (.t 0)), dO 13 (.mv (.t 5)), dO 14 (.ixa 7 none (.t 12) (.t 13)), dO 15 (.ld (some 7) (.t 14)), dO 16 (.mv (.t 1)), dO 17 (.callc n_r16_Stmt [(.t 15), (.t 16)]), dO 18 (.notb (.t 17))])
 (.cond (.t 18)
 (.seq (.reg [dO 4 (.tk (.c (.bool false)))])
 (.ret))
 (.skip))))
 (.reg [dO 10 (.mv (.t 5)), dO 11 (.ia .add .i64 (.t 10) (.c (.int .i64 1))), dO 5 (.tk (.t 11))]))

def l_r16_Block_0 : AC :=
 .loop [0, 1, 5] b_r16_Block_0

def r_r16_Block_0 : AC :=
 .seq (.reg [dO 4 (.tk (.c (.bool true)))])
 (.ret)

def c_r16_Block : AFunc :=
 { np := 2, res := [.t 4], body := (
 .seq (.reg [dO 4 (.tk (.c (.bool false)))])
 (.seq (.seq (.reg [dO 5 (.tk (.c (.int .i64 0)))])
 (.block 0 (l_r16_Block_0))) r_r16_Block_0)) }

def b_flotsamref18_tabs_0 : AC :=
 .seq (.seq (.reg [dO 5 (.mv (.t 4)), dO 6 (.mv (.t 0)), dO 7 (.ic .lss (.t 5) (.t 6))])
 (.cond (.t 7)
 (.skip)
 (.exit 0)))
 (.seq (.block 1 (.reg [dO 10 (.mv (.t 3)), dO 11 (.sop .add (.t 10) (.c (.str [9]))), dO 3 (.tk (.t 11))]))
 (.reg [dO 8 (.mv (.t 4)), dO 9 (.ia .add .i64 (.t 8) (.c (.int .i64 1))), dO 4 (.tk (.t 9))]))

def l_flotsamref18_tabs_0 : AC :=
 .loop [0, 3, 4] b_flotsamref18_tabs_0

def r_flotsamref18_tabs_0 : AC :=
 .seq (.reg [dO 12 (.mv (.t 3)), dO 2 (.tk (.t 12))])
 (.ret)

def c_flotsamref18_tabs : AFunc :=
 { np := 1, res := [.t 2], body := (
 .seq (.reg [dO 2 (.tk (.c (.str [])))])
 (.seq (.reg [dO 3 (.tk (.c (.str [])))])
 (.seq (.seq (.reg [dO 4 (.tk (.c (.int .i64 0)))])
 (.block 0 (l_flotsamref18_tabs_0))) r_flotsamref18_tabs_0))) }

def b_flotsamref18_stmt_0 : AC :=
 .seq (.seq (.reg [dO 94 (.mv (.t 7)), dO 95 (.fa 3 (.t 2)), dO 96 (.ld none (.t 95)), dO 97 (.len false (.t 96)), dO 98 (.ic .lss (.t 94) (.t 97))])
 (.cond (.t 98)
 (.skip)
 (.exit 1)))
 (.seq (.block 2 (.seq (.seq (.reg [dO 101 (.mv (.t 7)), dO 102 (.ic .eql (.t 101) (.c (.int .i64 0)))])
 (.cond (.t 102)
 (.reg [dO 103 (.mv (.t 6)), dO 104 (.sop .add (.t 103) (.c (.str [32]))), dO 6 (.tk (.t 104))])
 (.reg [dO 105 (.mv (.t 6)), dO 106 (.sop .add (.t 105) (.c (.str [44, 32]))), dO 6 (.tk (.t 106))])))
 (.reg [dO 107 (.mv (.t 6)), dO 108 (.fa 3 (.t 2)), dO 109 (.ld none (.t 108)), dO 110 (.mv (.t 7)), dO 111 (.ixa 4 none (.t 109) (.t 110)), dO 112 (.ld (some 4) (.t 111)), dO 113 (.callc n_flotsamref18_expr [(.t 112)]), dO 114 (.sop .add (.t 107) (.t 113)), dO 6 (.tk (.t 114))])))
 (.reg [dO 99 (.mv (.t 7)), dO 100 (.ia .add .i64 (.t 99) (.c (.int .i64 1))), dO 7 (.tk (.t 100))]))

def l_flotsamref18_stmt_0 : AC :=
 .loop [2, 6, 7] b_flotsamref18_stmt_0

def r_flotsamref18_stmt_0 : AC :=
 .seq (.reg [dO 115 (.mv (.t 6)), dO 116 (.sop .add (.t 115) (.c (.str [59]))), dO 4 (.tk (.t 116))])
 (.ret)

def c_flotsamref18_stmt : AFunc :=
 { np := 2, res := [.t 4], body := (
 .seq (.reg [dO 2 (.box (.t 0)), dO 4 (.tk (.c (.str [])))])
 (.seq (.reg [dO 8 (.bsl 1 [.str []] 18 [(0, 1, (.c (.str [99, 114, 101, 97, 116, 101]))), (1, 1, (.c (.str [109, 107, 100, 105, 114]))), (2, 1, (.c (.str [119, 114, 105, 116, 101]))), (3, 1, (.c (.str [97, 112, 112, 101, 110, 100]))), (4, 1, (.c (.str [116, 114, 117, 110, 99, 97, 116, 101]))), (5, 1, (.c (.str [114, 101, 110, 97, 109, 101]))), (6, 1, (.c (.str [117, 110, 108, 105, 110, 107]))), (7, 1, (.c (.str [102, 115, 121, 110, 99]))), (8, 1, (.c (.str [102, 100, 97, 116, 97, 115, 121, 110, 99]))), (9, 1, (.c (.str [115, 121, 110, 99, 100, 105, 114]))), (10, 1, (.c (.str [98, 97, 114, 114, 105, 101, 114]))), (11, 1, (.c (.str [108, 101, 116]))), (12, 1, (.c (.str [105, 102]))), (13, 1, (.c (.str [114, 101, 112, 101, 97, 116]))), (14, 1, (.c (.str [99, 97, 108, 108]))), (15, 1, (.c (.str [116, 120, 110]))), (16, 1, (.c (.str [114, 101, 112, 108, 97, 121]))), (17, 1, (.c (.str [97, 115, 115, 101, 114, 116])))] false), dO 5 (.tk (.t 8))])
 (.seq (.reg [dO 9 (.mv (.t 5)), dO 10 (.fa 0 (.t 2)), dO 11 (.ld none (.t 10)), dO 12 (.ia .sub .i64 (.t 11) (.c (.int .i64 1))), dO 13 (.ixa 1 none (.t 9) (.t 12)), dO 14 (.ld none (.t 13)), dO 6 (.tk (.t 14))])
 (.seq (.seq (.reg [dO 15 (.fa 0 (.t 2)), dO 16 (.ld none (.t 15))])
 (.block 0 (.seq (.reg [dO 18 (.ic .eql (.t 16) (.c (.int .i64 12))), dO 17 (.tk (.t 18))])
 (.cond (.t 17)
 (.seq (.drw [[], [], [], [], [], [], [], [], [], [], [], []] [dO 19 (.fa 1 (.t 2)), dO 20 (.ld none (.t 19)), dO 21 (.sop .add (.c (.str [108, 101, 116, 32])) (.t 20)), dO 22 (.sop .add (.t 21) (.c (.str [32, 61, 32]))), dO 23 (.fa 3 (.t 2)), dO 24 (.ld none (.t 23)), dO 25 (.ixa 4 none (.t 24) (.c (.int .i64 0))), dO 26 (.ld (some 4) (.t 25)), dO 27 (.callc n_flotsamref18_expr [(.t 26)]), dO 28 (.sop .add (.t 22) (.t 27)), dO 29 (.sop .add (.t 28) (.c (.str [59]))), dO 4 (.tk (.t 29))])
 (.ret))
 (.seq (.reg [dO 31 (.ic .eql (.t 16) (.c (.int .i64 15))), dO 30 (.tk (.t 31))])
 (.cond (.t 30)
 (.seq (.reg [dO 32 (.fa 1 (.t 2)), dO 33 (.ld none (.t 32)), dO 34 (.sop .add (.c (.str [99, 97, 108, 108, 32])) (.t 33)), dO 35 (.sop .add (.t 34) (.c (.str [59]))), dO 4 (.tk (.t 35))])
 (.ret))
 (.seq (.reg [dO 37 (.ic .eql (.t 16) (.c (.int .i64 14))), dO 36 (.tk (.t 37))])
 (.cond (.t 36)
 (.seq (.drw [[], [], [], [], [], [], [], [], [], [], []] [dO 38 (.fa 2 (.t 2)), dO 39 (.ld none (.t 38)), dO 40 (.callc n_r01_Digits [(.t 39)]), dO 41 (.sop .add (.c (.str [114, 101, 112, 101, 97, 116, 32])) (.t 40)), dO 42 (.sop .add (.t 41) (.c (.str [32]))), dO 43 (.fa 4 (.t 2)), dO 44 (.ld none (.t 43)), dO 45 (.mv (.t 1)), dO 46 (.callc n_flotsamref18_block [(.t 44), (.t 45)]), dO 47 (.sop .add (.t 42) (.t 46)), dO 4 (.tk (.t 47))])
 (.ret))
 (.seq (.reg [dO 49 (.ic .eql (.t 16) (.c (.int .i64 13))), dO 48 (.tk (.t 49))])
 (.cond (.t 48)
 (.seq (.drw [[], [], [], [], [], [], [], [], [], [], [], [], []] [dO 50 (.fa 3 (.t 2)), dO 51 (.ld none (.t 50)), dO 52 (.ixa 4 none (.t 51) (.c (.int .i64 0))), dO 53 (.ld (some 4) (.t 52)), dO 54 (.callc n_flotsamref18_expr [(.t 53)]), dO 55 (.sop .add (.c (.str [105, 102, 32])) (.t 54)), dO 56 (.sop .add (.t 55) (.c (.str [32]))), dO 57 (.fa 4 (.t 2)), dO 58 (.ld none (.t 57)), dO 59 (.mv (.t 1)), dO 60 (.callc n_flotsamref18_block [(.t 58), (.t 59)]), dO 61 (.sop .add (.t 56) (.t 60)), dO 6 (.tk (.t 61))])
 (.seq (.seq (.reg [dO 62 (.fa 5 (.t 2)), dO 63 (.ld none (.t 62)), dO 64 (.len false (.t 63)), dO 65 (.ic .gtr (.t 64) (.c (.int .i64 0)))])
 (.cond (.t 65)
 (.reg [dO 66 (.mv (.t 6)), dO 67 (.sop .add (.t 66) (.c (.str [32, 101, 108, 115, 101, 32]))), dO 68 (.fa 5 (.t 2)), dO 69 (.ld none (.t 68)), dO 70 (.mv (.t 1)), dO 71 (.callc n_flotsamref18_block [(.t 69), (.t 70)]), dO 72 (.sop .add (.t 67) (.t 71)), dO 6 (.tk (.t 72))])
 (.skip)))
 (.seq (.reg [dO 73 (.mv (.t 6)), dO 4 (.tk (.t 73))])
 (.ret))))
 (.seq (.reg [dO 75 (.ic .eql (.t 16) (.c (.int .i64 16))), dO 74 (.tk (.t 75))])
 (.cond (.t 74)
 (.seq (.drw [[], [], [], [], [], [], [], [], [], [], [], [], []] [dO 76 (.fa 3 (.t 2)), dO 77 (.ld none (.t 76)), dO 78 (.ixa 4 none (.t 77) (.c (.int .i64 0))), dO 79 (.ld (some 4) (.t 78)), dO 80 (.callc n_flotsamref18_expr [(.t 79)]), dO 81 (.sop .add (.c (.str [116, 120, 110, 32])) (.t 80)), dO 82 (.sop .add (.t 81) (.c (.str [32]))), dO 83 (.fa 4 (.t 2)), dO 84 (.ld none (.t 83)), dO 85 (.mv (.t 1)), dO 86 (.callc n_flotsamref18_block [(.t 84), (.t 85)]), dO 87 (.sop .add (.t 82) (.t 86)), dO 6 (.tk (.t 87))])
 (.seq (.seq (.reg [dO 88 (.fa 6 (.t 2)), dO 89 (.ld none (.t 88))])
 (.cond (.t 89)
 (.reg [dO 90 (.mv (.t 6)), dO 91 (.sop .add (.t 90) (.c (.str [32, 99, 111, 109, 109, 105, 116]))), dO 6 (.tk (.t 91))])
 (.skip)))
 (.seq (.reg [dO 92 (.mv (.t 6)), dO 93 (.sop .add (.t 92) (.c (.str [59]))), dO 4 (.tk (.t 93))])
 (.ret))))
 (.skip)))))))))))))
 (.seq (.seq (.reg [dO 7 (.tk (.c (.int .i64 0)))])
 (.block 1 (l_flotsamref18_stmt_0))) r_flotsamref18_stmt_0))))) }

def c_r01_Digits : AFunc :=
 { np := 1, res := [.t 2], body := (
 .seq (.reg [dO 2 (.tk (.c (.str [])))])
 (.seq (.seq (.reg [dO 3 (.mv (.t 0)), dO 4 (.ic .gtr (.t 3) (.c (.int .i64 (-10)))), dO 5 (.mv (.t 4)), ⟨some 6, (some (5, true)), .mv (.t 0)⟩, ⟨some 7, (some (5, true)), .ic .lss (.t 6) (.c (.int .i64 0))⟩, dO 8 (.pick (.t 5) (.t 7) (.c (.bool false)))])
 (.cond (.t 8)
 (.seq (.reg [dO 9 (.mv (.t 0)), dO 10 (.ia .sub .i64 (.c (.int .i64 48)) (.t 9)), dO 11 (.conv .u8 (.t 10)), dO 12 (.bsl 1 [.int .u8 0] 1 [(0, 1, (.t 11))] false), dO 13 (.b2s (.t 12)), dO 14 (.sop .add (.c (.str [45])) (.t 13)), dO 2 (.tk (.t 14))])
 (.ret))
 (.skip)))
 (.seq (.seq (.reg [dO 15 (.mv (.t 0)), dO 16 (.ic .lss (.t 15) (.c (.int .i64 0)))])
 (.cond (.t 16)
 (.seq (.drw [[], [], [], [], [], [], [], [], [], [], []] [dO 17 (.mv (.t 0)), dO 18 (.ia .quo .i64 (.t 17) (.c (.int .i64 10))), dO 19 (.callc n_r01_Digits [(.t 18)]), dO 20 (.mv (.t 0)), dO 21 (.ia .rem .i64 (.t 20) (.c (.int .i64 10))), dO 22 (.ia .sub .i64 (.c (.int .i64 48)) (.t 21)), dO 23 (.conv .u8 (.t 22)), dO 24 (.bsl 1 [.int .u8 0] 1 [(0, 1, (.t 23))] false), dO 25 (.b2s (.t 24)), dO 26 (.sop .add (.t 19) (.t 25)), dO 2 (.tk (.t 26))])
 (.ret))
 (.skip)))
 (.seq (.seq (.reg [dO 27 (.mv (.t 0)), dO 28 (.ic .gtr (.t 27) (.c (.int .i64 9)))])
 (.cond (.t 28)
 (.seq (.drw [[], [], [], [], [], [], [], [], [], [], []] [dO 29 (.mv (.t 0)), dO 30 (.ia .quo .i64 (.t 29) (.c (.int .i64 10))), dO 31 (.callc n_r01_Digits [(.t 30)]), dO 32 (.mv (.t 0)), dO 33 (.ia .rem .i64 (.t 32) (.c (.int .i64 10))), dO 34 (.ia .add .i64 (.c (.int .i64 48)) (.t 33)), dO 35 (.conv .u8 (.t 34)), dO 36 (.bsl 1 [.int .u8 0] 1 [(0, 1, (.t 35))] false), dO 37 (.b2s (.t 36)), dO 38 (.sop .add (.t 31) (.t 37)), dO 2 (.tk (.t 38))])
 (.ret))
 (.skip)))
 (.seq (.reg [dO 39 (.mv (.t 0)), dO 40 (.ia .add .i64 (.c (.int .i64 48)) (.t 39)), dO 41 (.conv .u8 (.t 40)), dO 42 (.bsl 1 [.int .u8 0] 1 [(0, 1, (.t 41))] false), dO 43 (.b2s (.t 42)), dO 2 (.tk (.t 43))])
 (.ret)))))) }

def b_r14_Quote_0 : AC :=
 .seq (.seq (.reg [dO 5 (.mv (.t 4)), dO 6 (.mv (.t 0)), dO 7 (.len true (.t 6)), dO 8 (.ic .lss (.t 5) (.t 7))])
 (.cond (.t 8)
 (.skip)
 (.exit 0)))
 (.seq (.block 1 (.reg [dO 11 (.mv (.t 3)), dO 12 (.mv (.t 0)), dO 13 (.mv (.t 4)), dO 14 (.ixs (.t 12) (.t 13)), dO 15 (.callc n_r14_sign [(.t 14)]), dO 16 (.sop .add (.t 11) (.t 15)), dO 3 (.tk (.t 16))]))
 (.reg [dO 9 (.mv (.t 4)), dO 10 (.ia .add .i64 (.t 9) (.c (.int .i64 1))), dO 4 (.tk (.t 10))]))

def l_r14_Quote_0 : AC :=
 .loop [0, 3, 4] b_r14_Quote_0

def r_r14_Quote_0 : AC :=
 .seq (.reg [dO 17 (.mv (.t 3)), dO 18 (.sop .add (.t 17) (.c (.str [34]))), dO 2 (.tk (.t 18))])
 (.ret)

def c_r14_Quote : AFunc :=
 { np := 1, res := [.t 2], body := (
 .seq (.reg [dO 2 (.tk (.c (.str [])))])
 (.seq (.reg [dO 3 (.tk (.c (.str [34])))])
 (.seq (.seq (.reg [dO 4 (.tk (.c (.int .i64 0)))])
 (.block 0 (l_r14_Quote_0))) r_r14_Quote_0))) }

def c_flotsamref18_sub : AFunc :=
 { np := 2, res := [.t 4], body := (
 .seq (.reg [dO 2 (.box (.t 0)), dO 4 (.tk (.c (.str [])))])
 (.seq (.seq (.drw [[], [], [], [], [], [], [], [], [], []] [dO 5 (.fa 0 (.t 2)), dO 6 (.ld none (.t 5)), dO 7 (.mv (.t 1)), dO 8 (.fa 3 (.t 2)), dO 9 (.ld none (.t 8)), dO 10 (.mv (.t 1)), dO 11 (.ixa 4 none (.t 9) (.t 10)), dO 12 (.fa 0 (.t 11)), dO 13 (.ld none (.t 12)), dO 14 (.callc n_flotsamref18_closed [(.t 6), (.t 7), (.t 13)])])
 (.cond (.t 14)
 (.seq (.reg [dO 15 (.fa 3 (.t 2)), dO 16 (.ld none (.t 15)), dO 17 (.mv (.t 1)), dO 18 (.ixa 4 none (.t 16) (.t 17)), dO 19 (.ld (some 4) (.t 18)), dO 20 (.callc n_flotsamref18_expr [(.t 19)]), dO 21 (.sop .add (.c (.str [40])) (.t 20)), dO 22 (.sop .add (.t 21) (.c (.str [41]))), dO 4 (.tk (.t 22))])
 (.ret))
 (.skip)))
 (.seq (.reg [dO 23 (.fa 3 (.t 2)), dO 24 (.ld none (.t 23)), dO 25 (.mv (.t 1)), dO 26 (.ixa 4 none (.t 24) (.t 25)), dO 27 (.ld (some 4) (.t 26)), dO 28 (.callc n_flotsamref18_expr [(.t 27)]), dO 4 (.tk (.t 28))])
 (.ret)))) }

def c_r16_Parts : AFunc :=
 { np := 1, res := [.t 2, .t 3], body := (
 .seq (.reg [dO 2 (.tk (.c (.int .i64 0))), dO 3 (.tk (.c (.bool false)))])
 (.seq (.seq (.reg [dO 4 (.mv (.t 0)), dO 5 (.ic .lss (.t 4) (.c (.int .i64 1))), dO 6 (.mv (.t 5)), ⟨some 7, (some (6, false)), .mv (.t 0)⟩, ⟨some 8, (some (6, false)), .ic .gtr (.t 7) (.c (.int .i64 14))⟩, dO 9 (.pick (.t 6) (.c (.bool true)) (.t 8))])
 (.cond (.t 9)
 (.seq (.reg [dO 2 (.tk (.c (.int .i64 0))), dO 3 (.tk (.c (.bool false)))])
 (.ret))
 (.skip)))
 (.seq (.seq (.reg [dO 10 (.mv (.t 0)), dO 11 (.ic .leq (.t 10) (.c (.int .i64 4)))])
 (.cond (.t 11)
 (.seq (.reg [dO 2 (.tk (.c (.int .i64 0))), dO 3 (.tk (.c (.bool true)))])
 (.ret))
 (.skip)))
 (.seq (.seq (.reg [dO 12 (.mv (.t 0)), dO 13 (.ic .leq (.t 12) (.c (.int .i64 8)))])
 (.cond (.t 13)
 (.seq (.reg [dO 2 (.tk (.c (.int .i64 1))), dO 3 (.tk (.c (.bool true)))])
 (.ret))
 (.skip)))
 (.seq (.reg [dO 2 (.tk (.c (.int .i64 2))), dO 3 (.tk (.c (.bool true)))])
 (.ret)))))) }

def c_tree_walk : AFunc :=
 { np := 1, res := [.t 2], body := (
 .seq (.reg [dO 1 (.box (.t 0)), dO 2 (.tk (.c (.nilf)))])
 (.seq (.reg [dO 3 (.mkf (.func n_tree_walk_1) [] [(.t 1)]), dO 2 (.tk (.t 3))])
 (.ret))) }

def c_tree_cloned : AFunc :=
 { np := 1, res := [.cell 2 (some 7)], body := (
 .seq (.reg [dO 1 (.box (.t 0)), dO 2 (.alloc [.int .i64 0, .str [], .int .i64 0, .own 4 [], .own 7 [], .own 7 [], .bool false])])
 (.seq (.reg [dO 3 (.fa 3 (.t 1)), dO 4 (.ld none (.t 3)), dO 5 (.callc n_tree_each_api_Expr [(.t 4), (.c (.fn (.func n_tree_clonedExpr) [] []))]), dO 6 (.fa 3 (.t 1)), ⟨none, none, .st 1 (.t 6) (.t 5)⟩])
 (.seq (.reg [dO 7 (.fa 4 (.t 1)), dO 8 (.ld none (.t 7)), dO 9 (.callc n_tree_each_api_Stmt [(.t 8), (.c (.fn (.func n_tree_cloned) [] []))]), dO 10 (.fa 4 (.t 1)), ⟨none, none, .st 1 (.t 10) (.t 9)⟩])
 (.seq (.reg [dO 11 (.fa 5 (.t 1)), dO 12 (.ld none (.t 11)), dO 13 (.callc n_tree_each_api_Stmt [(.t 12), (.c (.fn (.func n_tree_cloned) [] []))]), dO 14 (.fa 5 (.t 1)), ⟨none, none, .st 1 (.t 14) (.t 13)⟩])
 (.seq (.reg [dO 15 (.ld (some 7) (.t 1)), ⟨none, none, .st 7 (.t 2) (.t 15)⟩])
 (.ret)))))) }

def c_lex_begins : AFunc :=
 { np := 2, res := [.t 4], body := (
 .seq (.reg [dO 4 (.tk (.c (.bool false)))])
 (.seq (.reg [dO 5 (.mv (.t 0)), dO 6 (.sop .neq (.t 5) (.c (.str []))), dO 7 (.mv (.t 6)), ⟨some 8, (some (7, true)), .mv (.t 1)⟩, ⟨some 9, (some (7, true)), .mv (.t 0)⟩, ⟨some 10, (some (7, true)), .ixs (.t 9) (.c (.int .i64 0))⟩, ⟨some 11, (some (7, true)), .conv .i32 (.t 10)⟩, ⟨some 12, (some (7, true)), .callv (.t 8) [(.t 11)]⟩, dO 13 (.pick (.t 7) (.t 12) (.c (.bool false))), dO 4 (.tk (.t 13))])
 (.ret))) }

def c_lex_letter : AFunc :=
 { np := 1, res := [.t 2], body := (
 .seq (.reg [dO 2 (.tk (.c (.bool false)))])
 (.seq (.reg [dO 3 (.mv (.t 0)), dO 4 (.ic .geq (.t 3) (.c (.int .i32 97))), dO 5 (.mv (.t 4)), ⟨some 6, (some (5, true)), .mv (.t 0)⟩, ⟨some 7, (some (5, true)), .ic .leq (.t 6) (.c (.int .i32 122))⟩, dO 8 (.pick (.t 5) (.t 7) (.c (.bool false))), dO 2 (.tk (.t 8))])
 (.ret))) }

def c_lex_inner : AFunc :=
 { np := 1, res := [.t 2], body := (
 .seq (.reg [dO 2 (.tk (.c (.bool false)))])
 (.seq (.reg [dO 3 (.mv (.t 0)), dO 4 (.callc n_lex_letter [(.t 3)]), dO 5 (.mv (.t 4)), ⟨some 6, (some (5, false)), .mv (.t 0)⟩, ⟨some 7, (some (5, false)), .callc n_lex_digit [(.t 6)]⟩, dO 8 (.pick (.t 5) (.c (.bool true)) (.t 7)), dO 9 (.mv (.t 8)), ⟨some 10, (some (9, false)), .mv (.t 0)⟩, ⟨some 11, (some (9, false)), .ic .eql (.t 10) (.c (.int .i32 95))⟩, dO 12 (.pick (.t 9) (.c (.bool true)) (.t 11)), dO 2 (.tk (.t 12))])
 (.ret))) }

def c_lex_Key : AFunc :=
 { np := 1, res := [.t 2], body := (
 .seq (.reg [dO 2 (.tk (.c (.bool false)))])
 (.seq (.reg [dO 3 (.mv (.t 0)), dO 4 (.sop .neq (.t 3) (.c (.str []))), dO 5 (.mv (.t 4)), ⟨some 6, (some (5, true)), .mv (.t 0)⟩, ⟨some 7, (some (5, true)), .callc n_strings_Contains [(.t 6), (.c (.str [32]))]⟩, ⟨some 8, (some (5, true)), .notb (.t 7)⟩, dO 9 (.pick (.t 5) (.t 8) (.c (.bool false))), dO 10 (.mv (.t 9)), ⟨some 11, (some (10, true)), .mv (.t 0)⟩, ⟨some 12, (some (10, true)), .sop .add (.c (.str [32])) (.t 11)⟩, ⟨some 13, (some (10, true)), .sop .add (.t 12) (.c (.str [32]))⟩, ⟨some 14, (some (10, true)), .callc n_strings_Contains [(.c (.str [32, 112, 114, 111, 99, 32, 109, 97, 105, 110, 32, 114, 101, 99, 111, 118, 101, 114, 32, 111, 114, 97, 99, 108, 101, 32, 99, 114, 101, 97, 116, 101, 32, 109, 107, 100, 105, 114, 32, 119, 114, 105, 116, 101, 32, 97, 112, 112, 101, 110, 100, 32, 116, 114, 117, 110, 99, 97, 116, 101, 32, 114, 101, 110, 97, 109, 101, 32, 117, 110, 108, 105, 110, 107, 32, 102, 115, 121, 110, 99, 32, 102, 100, 97, 116, 97, 115, 121, 110, 99, 32, 115, 121, 110, 99, 100, 105, 114, 32, 98, 97, 114, 114, 105, 101, 114, 32, 108, 101, 116, 32, 105, 102, 32, 101, 108, 115, 101, 32, 114, 101, 112, 101, 97, 116, 32, 99, 97, 108, 108, 32, 116, 120, 110, 32, 99, 111, 109, 109, 105, 116, 32, 114, 101, 112, 108, 97, 121, 32, 97, 115, 115, 101, 114, 116, 32, 101, 120, 105, 115, 116, 115, 32, 115, 105, 122, 101, 32, 114, 101, 97, 100, 32, 110, 111, 116, 32, 97, 110, 100, 32, 111, 114, 32, 116, 114, 117, 101, 32, 102, 97, 108, 115, 101, 32])), (.t 13)]⟩, dO 15 (.pick (.t 10) (.t 14) (.c (.bool false))), dO 2 (.tk (.t 15))])
 (.ret))) }

def c_tree_Parts : AFunc :=
 { np := 1, res := [.t 2, .t 3], body := (
 .seq (.reg [dO 2 (.tk (.c (.int .i64 0))), dO 3 (.tk (.c (.bool false)))])
 (.seq (.block 0 (.seq (.reg [dO 5 (.mv (.t 0)), dO 6 (.ic .lss (.t 5) (.c (.int .i64 1))), dO 7 (.mv (.t 6)), ⟨some 8, (some (7, false)), .mv (.t 0)⟩, ⟨some 9, (some (7, false)), .ic .gtr (.t 8) (.c (.int .i64 14))⟩, dO 10 (.pick (.t 7) (.c (.bool true)) (.t 9)), dO 4 (.tk (.t 10))])
 (.cond (.t 4)
 (.seq (.reg [dO 2 (.tk (.c (.int .i64 0))), dO 3 (.tk (.c (.bool false)))])
 (.ret))
 (.seq (.reg [dO 12 (.mv (.t 0)), dO 13 (.ic .leq (.t 12) (.c (.int .i64 4))), dO 11 (.tk (.t 13))])
 (.cond (.t 11)
 (.seq (.reg [dO 2 (.tk (.c (.int .i64 0))), dO 3 (.tk (.c (.bool true)))])
 (.ret))
 (.seq (.reg [dO 15 (.mv (.t 0)), dO 16 (.ic .leq (.t 15) (.c (.int .i64 8))), dO 14 (.tk (.t 16))])
 (.cond (.t 14)
 (.seq (.reg [dO 2 (.tk (.c (.int .i64 1))), dO 3 (.tk (.c (.bool true)))])
 (.ret))
 (.skip))))))))
 (.seq (.reg [dO 2 (.tk (.c (.int .i64 2))), dO 3 (.tk (.c (.bool true)))])
 (.ret)))) }

def c_slices_ContainsFunc_api_Expr_api_Expr : AFunc :=
 { np := 2, res := [.t 4], body := (
 .seq (.reg [dO 4 (.tk (.c (.bool false)))])
 (.seq (.reg [dO 5 (.mv (.t 0)), dO 6 (.mv (.t 1)), dO 7 (.call n_slices_IndexFunc_api_Expr_api_Expr [(.t 5), (.t 6)]), dO 8 (.ic .geq (.t 7) (.c (.int .i64 0))), dO 4 (.tk (.t 8))])
 (.ret))) }

def c_tree_expr_1 : AFunc :=
 { np := 2, res := [.t 3], body := (
 .seq (.reg [dO 2 (.box (.t 0)), dO 3 (.tk (.c (.bool false)))])
 (.seq (.reg [dO 4 (.ld (some 4) (.t 2)), dO 5 (.ld none (.t 1)), dO 6 (.ia .sub .i64 (.t 5) (.c (.int .i64 1))), dO 7 (.callc n_tree_expr [(.t 4), (.t 6)]), dO 8 (.notb (.t 7)), dO 3 (.tk (.t 8))])
 (.ret))) }

def c_slices_ContainsFunc_api_Stmt_api_Stmt_x : AFunc :=
 { np := 2, res := [.t 4], body := (
 .seq (.reg [dO 4 (.tk (.c (.bool false)))])
 (.seq (.reg [dO 5 (.mv (.t 0)), dO 6 (.mv (.t 1)), dO 7 (.call n_slices_IndexFunc_api_Stmt_api_Stmt_x [(.t 5), (.t 6)]), dO 8 (.ic .geq (.t 7) (.c (.int .i64 0))), dO 4 (.tk (.t 8))])
 (.ret))) }

def c_tree_block_1 : AFunc :=
 { np := 2, res := [.t 3], body := (
 .seq (.reg [dO 2 (.box (.t 0)), dO 3 (.tk (.c (.bool false)))])
 (.seq (.reg [dO 4 (.ld (some 7) (.t 2)), dO 5 (.ld none (.t 1)), dO 6 (.callc n_tree_stmt [(.t 4), (.t 5)]), dO 7 (.notb (.t 6)), dO 3 (.tk (.t 7))])
 (.ret))) }

def c_tree_stmt : AFunc :=
 { np := 2, res := [.t 4], body := (
 .seq (.reg [dO 2 (.box (.t 0)), dO 4 (.tk (.c (.bool false)))])
 (.seq (.seq (.reg [dO 6 (.mv (.t 1)), dO 7 (.ic .gtr (.t 6) (.c (.int .i64 8))), dO 8 (.mv (.t 7)), ⟨some 9, (some (8, false)), .ld (some 7) (.t 2)⟩, ⟨some 10, (some (8, false)), .callc n_tree_shape [(.t 9)]⟩, ⟨some 11, (some (8, false)), .notb (.t 10)⟩, dO 12 (.pick (.t 8) (.c (.bool true)) (.t 11))])
 (.cond (.t 12)
 (.seq (.reg [dO 4 (.tk (.c (.bool false)))])
 (.ret))
 (.skip)))
 (.seq (.seq (.reg [dO 13 (.fa 0 (.t 2)), dO 14 (.ld none (.t 13)), dO 15 (.ic .eql (.t 14) (.c (.int .i64 16)))])
 (.cond (.t 15)
 (.seq (.reg [dO 5 (.tk (.c (.fn (.func n_tree_stmt_1) [] [])))])
 (.seq (.reg [dO 16 (.fa 4 (.t 2)), dO 17 (.ld none (.t 16)), dO 18 (.len false (.t 17)), dO 19 (.ic .gtr (.t 18) (.c (.int .i64 8))), dO 20 (.mv (.t 19)), ⟨some 21, (some (20, false)), .fa 4 (.t 2)⟩, ⟨some 22, (some (20, false)), .ld none (.t 21)⟩, ⟨some 23, (some (20, false)), .mv (.t 5)⟩, ⟨some 24, (some (20, false)), .call n_slices_ContainsFunc_api_Stmt_api_Stmt_x [(.t 22), (.t 23)]⟩, dO 25 (.pick (.t 20) (.c (.bool true)) (.t 24))])
 (.cond (.t 25)
 (.seq (.reg [dO 4 (.tk (.c (.bool false)))])
 (.ret))
 (.skip))))
 (.skip)))
 (.seq (.reg [dO 26 (.fa 4 (.t 2)), dO 27 (.ld none (.t 26)), dO 28 (.mv (.t 1)), dO 29 (.ia .add .i64 (.t 28) (.c (.int .i64 1))), dO 30 (.callc n_tree_block [(.t 27), (.t 29)]), dO 31 (.mv (.t 30)), ⟨some 32, (some (31, true)), .fa 5 (.t 2)⟩, ⟨some 33, (some (31, true)), .ld none (.t 32)⟩, ⟨some 34, (some (31, true)), .mv (.t 1)⟩, ⟨some 35, (some (31, true)), .ia .add .i64 (.t 34) (.c (.int .i64 1))⟩, ⟨some 36, (some (31, true)), .callc n_tree_block [(.t 33), (.t 35)]⟩, dO 37 (.pick (.t 31) (.t 36) (.c (.bool false))), dO 4 (.tk (.t 37))])
 (.ret))))) }

def b_slices_IndexFunc_api_Proc_api_Proc_0 : AC :=
 .seq (.reg [dO 9 (.ic .lss (.t 8) (.t 7))])
 (.seq (.cond (.t 9)
 (.skip)
 (.exit 0))
 (.seq (.block 1 (.seq (.reg [dO 10 (.mv (.t 8)), dO 5 (.tk (.t 10))])
 (.seq (.reg [dO 11 (.mv (.t 1)), dO 12 (.mv (.t 0)), dO 13 (.mv (.t 5)), dO 14 (.ixa 2 none (.t 12) (.t 13)), dO 15 (.ld (some 2) (.t 14)), dO 16 (.callv (.t 11) [(.t 15)])])
 (.cond (.t 16)
 (.seq (.reg [dO 17 (.mv (.t 5)), dO 4 (.tk (.t 17))])
 (.ret))
 (.skip)))))
 (.reg [dO 18 (.ia .add .i64 (.t 8) (.c (.int .i64 1))), dO 8 (.mv (.t 18))])))

def l_slices_IndexFunc_api_Proc_api_Proc_0 : AC :=
 .loop [0, 1, 7, 8] b_slices_IndexFunc_api_Proc_api_Proc_0

def r_slices_IndexFunc_api_Proc_api_Proc_0 : AC :=
 .seq (.reg [dO 4 (.tk (.c (.int .i64 (-1))))])
 (.ret)

def c_slices_IndexFunc_api_Proc_api_Proc : AFunc :=
 { np := 2, res := [.t 4], body := (
 .seq (.reg [dO 4 (.tk (.c (.int .i64 0)))])
 (.seq (.seq (.reg [dO 6 (.mv (.t 0)), dO 7 (.len false (.t 6)), dO 8 (.mv (.c (.int .i64 0)))])
 (.block 0 (l_slices_IndexFunc_api_Proc_api_Proc_0))) r_slices_IndexFunc_api_Proc_api_Proc_0)) }

def b_slices_IndexFunc_api_Oracle_api_Oracle_0 : AC :=
 .seq (.reg [dO 9 (.ic .lss (.t 8) (.t 7))])
 (.seq (.cond (.t 9)
 (.skip)
 (.exit 0))
 (.seq (.block 1 (.seq (.reg [dO 10 (.mv (.t 8)), dO 5 (.tk (.t 10))])
 (.seq (.reg [dO 11 (.mv (.t 1)), dO 12 (.mv (.t 0)), dO 13 (.mv (.t 5)), dO 14 (.ixa 5 none (.t 12) (.t 13)), dO 15 (.ld (some 5) (.t 14)), dO 16 (.callv (.t 11) [(.t 15)])])
 (.cond (.t 16)
 (.seq (.reg [dO 17 (.mv (.t 5)), dO 4 (.tk (.t 17))])
 (.ret))
 (.skip)))))
 (.reg [dO 18 (.ia .add .i64 (.t 8) (.c (.int .i64 1))), dO 8 (.mv (.t 18))])))

def l_slices_IndexFunc_api_Oracle_api_Oracle_0 : AC :=
 .loop [0, 1, 7, 8] b_slices_IndexFunc_api_Oracle_api_Oracle_0

def r_slices_IndexFunc_api_Oracle_api_Oracle_0 : AC :=
 .seq (.reg [dO 4 (.tk (.c (.int .i64 (-1))))])
 (.ret)

def c_slices_IndexFunc_api_Oracle_api_Oracle : AFunc :=
 { np := 2, res := [.t 4], body := (
 .seq (.reg [dO 4 (.tk (.c (.int .i64 0)))])
 (.seq (.seq (.reg [dO 6 (.mv (.t 0)), dO 7 (.len false (.t 6)), dO 8 (.mv (.c (.int .i64 0)))])
 (.block 0 (l_slices_IndexFunc_api_Oracle_api_Oracle_0))) r_slices_IndexFunc_api_Oracle_api_Oracle_0)) }

def b_slices_IndexFunc_api_Stmt_api_Stmt_0 : AC :=
 .seq (.reg [dO 9 (.ic .lss (.t 8) (.t 7))])
 (.seq (.cond (.t 9)
 (.skip)
 (.exit 0))
 (.seq (.block 1 (.seq (.reg [dO 10 (.mv (.t 8)), dO 5 (.tk (.t 10))])
 (.seq (.reg [dO 11 (.mv (.t 1)), dO 12 (.mv (.t 0)), dO 13 (.mv (.t 5)), dO 14 (.ixa 1 none (.t 12) (.t 13)), dO 15 (.ld none (.t 14)), dO 16 (.callv (.t 11) [(.t 15)])])
 (.cond (.t 16)
 (.seq (.reg [dO 17 (.mv (.t 5)), dO 4 (.tk (.t 17))])
 (.ret))
 (.skip)))))
 (.reg [dO 18 (.ia .add .i64 (.t 8) (.c (.int .i64 1))), dO 8 (.mv (.t 18))])))

def l_slices_IndexFunc_api_Stmt_api_Stmt_0 : AC :=
 .loop [0, 1, 7, 8] b_slices_IndexFunc_api_Stmt_api_Stmt_0

def r_slices_IndexFunc_api_Stmt_api_Stmt_0 : AC :=
 .seq (.reg [dO 4 (.tk (.c (.int .i64 (-1))))])
 (.ret)

def c_slices_IndexFunc_api_Stmt_api_Stmt : AFunc :=
 { np := 2, res := [.t 4], body := (
 .seq (.reg [dO 4 (.tk (.c (.int .i64 0)))])
 (.seq (.seq (.reg [dO 6 (.mv (.t 0)), dO 7 (.len false (.t 6)), dO 8 (.mv (.c (.int .i64 0)))])
 (.block 0 (l_slices_IndexFunc_api_Stmt_api_Stmt_0))) r_slices_IndexFunc_api_Stmt_api_Stmt_0)) }

def c_print_key : AFunc :=
 { np := 1, res := [.t 2], body := (
 .seq (.reg [dO 2 (.tk (.c (.str [])))])
 (.seq (.reg [dO 4 (.callc n_strings_Fields [(.c (.str [99, 114, 101, 97, 116, 101, 32, 109, 107, 100, 105, 114, 32, 119, 114, 105, 116, 101, 32, 97, 112, 112, 101, 110, 100, 32, 116, 114, 117, 110, 99, 97, 116, 101, 32, 114, 101, 110, 97, 109, 101, 32, 117, 110, 108, 105, 110, 107, 32, 102, 115, 121, 110, 99, 32, 102, 100, 97, 116, 97, 115, 121, 110, 99, 32, 115, 121, 110, 99, 100, 105, 114, 32, 98, 97, 114, 114, 105, 101, 114, 32, 108, 101, 116, 32, 105, 102, 32, 114, 101, 112, 101, 97, 116, 32, 99, 97, 108, 108, 32, 116, 120, 110, 32, 114, 101, 112, 108, 97, 121, 32, 97, 115, 115, 101, 114, 116]))]), dO 3 (.tk (.t 4))])
 (.seq (.reg [dO 5 (.mv (.t 3)), dO 6 (.mv (.t 0)), dO 7 (.ia .sub .i64 (.t 6) (.c (.int .i64 1))), dO 8 (.ixa 1 none (.t 5) (.t 7)), dO 9 (.ld none (.t 8)), dO 2 (.tk (.t 9))])
 (.ret)))) }

def b_pprint_printer_exprs_0 : AC :=
 .seq (.reg [dO 9 (.ic .lss (.t 8) (.t 7))])
 (.seq (.cond (.t 9)
 (.skip)
 (.exit 0))
 (.seq (.block 1 (.seq (.reg [dO 10 (.mv (.t 8)), dO 11 (.ixa 4 none (.t 6) (.t 8)), dO 12 (.ld (some 4) (.t 11)), dO 5 (.alloc [.int .i64 0, .int .i64 0, .str [], .own 4 []]), dO 4 (.tk (.t 10)), ⟨none, none, .st 4 (.t 5) (.t 12)⟩])
 (.seq (.seq (.reg [dO 13 (.mv (.t 4)), dO 14 (.ic .gtr (.t 13) (.c (.int .i64 0)))])
 (.cond (.t 14)
 (.reg [dO 15 (.mv (.t 0)), dO 16 (.bsl 1 [.str []] 1 [(0, 1, (.c (.str [44])))] false), dO 17 (.call n_pprint_printer_add [(.t 15), (.t 16)])])
 (.skip)))
 (.seq (.reg [dO 18 (.mv (.t 0)), dO 19 (.bsl 1 [.str []] 1 [(0, 1, (.c (.str [32])))] false), dO 20 (.call n_pprint_printer_add [(.t 18), (.t 19)])])
 (.reg [dO 21 (.mv (.t 0)), dO 22 (.ld (some 4) (.t 5)), dO 23 (.call n_pprint_printer_expr [(.t 21), (.t 22), (.c (.int .i64 0))])])))))
 (.reg [dO 24 (.ia .add .i64 (.t 8) (.c (.int .i64 1))), dO 8 (.mv (.t 24))])))

def l_pprint_printer_exprs_0 : AC :=
 .loop [0, 6, 7, 8] b_pprint_printer_exprs_0

def c_pprint_printer_exprs : AFunc :=
 { np := 2, res := [], body := (
 .seq (.reg [dO 6 (.mv (.t 1)), dO 7 (.len false (.t 6)), dO 8 (.mv (.c (.int .i64 0)))])
 (.block 0 (l_pprint_printer_exprs_0))) }

def c_view_plain : AFunc :=
 { np := 1, res := [.t 2], body := (
 .seq (.reg [dO 2 (.tk (.c (.bool false)))])
 (.seq (.reg [dO 3 (.mv (.t 0)), dO 4 (.ic .geq (.t 3) (.c (.int .u8 32))), dO 5 (.mv (.t 4)), ⟨some 6, (some (5, true)), .mv (.t 0)⟩, ⟨some 7, (some (5, true)), .ic .leq (.t 6) (.c (.int .u8 126))⟩, dO 8 (.pick (.t 5) (.t 7) (.c (.bool false))), dO 9 (.mv (.t 8)), ⟨some 10, (some (9, true)), .mv (.t 0)⟩, ⟨some 11, (some (9, true)), .ic .neq (.t 10) (.c (.int .u8 34))⟩, dO 12 (.pick (.t 9) (.t 11) (.c (.bool false))), dO 13 (.mv (.t 12)), ⟨some 14, (some (13, true)), .mv (.t 0)⟩, ⟨some 15, (some (13, true)), .ic .neq (.t 14) (.c (.int .u8 92))⟩, dO 16 (.pick (.t 13) (.t 15) (.c (.bool false))), dO 2 (.tk (.t 16))])
 (.ret))) }

def b_r16_list_0 : AC :=
 .seq (.seq (.reg [dO 6 (.mv (.t 5)), dO 7 (.mv (.t 0)), dO 8 (.len false (.t 7)), dO 9 (.ic .lss (.t 6) (.t 8))])
 (.cond (.t 9)
 (.skip)
 (.exit 0)))
 (.seq (.block 1 (.seq (.reg [dO 12 (.tk (.t 1)), dO 13 (.mv (.t 0)), dO 14 (.mv (.t 5)), dO 15 (.ixa 7 none (.t 13) (.t 14)), dO 16 (.ld (some 7) (.t 15)), dO 17 (.bsl 7 [.int .i64 0, .str [], .int .i64 0, .sl 4 [], .sl 7 [], .sl 7 [], .bool false] 1 [(0, 7, (.t 16))] false), dO 18 (.app 7 112 (.t 12) (.t 17) false), dO 1 (.tk (.t 18))])
 (.seq (.reg [dO 19 (.mv (.t 0)), dO 20 (.mv (.t 5)), dO 21 (.ixa 7 none (.t 19) (.t 20)), dO 22 (.fa 4 (.t 21)), dO 23 (.ld none (.t 22)), dO 24 (.tk (.t 1)), dO 25 (.call n_r16_list [(.t 23), (.t 24)]), dO 1 (.tk (.t 25))])
 (.reg [dO 26 (.mv (.t 0)), dO 27 (.mv (.t 5)), dO 28 (.ixa 7 none (.t 26) (.t 27)), dO 29 (.fa 5 (.t 28)), dO 30 (.ld none (.t 29)), dO 31 (.tk (.t 1)), dO 32 (.call n_r16_list [(.t 30), (.t 31)]), dO 1 (.tk (.t 32))]))))
 (.reg [dO 10 (.mv (.t 5)), dO 11 (.ia .add .i64 (.t 10) (.c (.int .i64 1))), dO 5 (.tk (.t 11))]))

def l_r16_list_0 : AC :=
 .loop [0, 1, 5] b_r16_list_0

def r_r16_list_0 : AC :=
 .seq (.reg [dO 33 (.tk (.t 1)), dO 4 (.tk (.t 33))])
 (.ret)

def c_r16_list : AFunc :=
 { np := 2, res := [.t 4], body := (
 .seq (.reg [dO 4 (.tk (.c (.own 7 [])))])
 (.seq (.seq (.reg [dO 5 (.tk (.c (.int .i64 0)))])
 (.block 0 (l_r16_list_0))) r_r16_list_0)) }

def c_r15_letter : AFunc :=
 { np := 1, res := [.t 2], body := (
 .seq (.reg [dO 2 (.tk (.c (.bool false)))])
 (.seq (.reg [dO 3 (.mv (.t 0)), dO 4 (.ic .geq (.t 3) (.c (.int .u8 97))), dO 5 (.mv (.t 4)), ⟨some 6, (some (5, true)), .mv (.t 0)⟩, ⟨some 7, (some (5, true)), .ic .leq (.t 6) (.c (.int .u8 122))⟩, dO 8 (.pick (.t 5) (.t 7) (.c (.bool false))), dO 2 (.tk (.t 8))])
 (.ret))) }

def b_r15_Key_0 : AC :=
 .seq (.seq (.reg [dO 6 (.mv (.t 4)), dO 7 (.mv (.t 3)), dO 8 (.len false (.t 7)), dO 9 (.ic .lss (.t 6) (.t 8))])
 (.cond (.t 9)
 (.skip)
 (.exit 0)))
 (.seq (.block 1 (.seq (.reg [dO 12 (.mv (.t 3)), dO 13 (.mv (.t 4)), dO 14 (.ixa 1 none (.t 12) (.t 13)), dO 15 (.ld none (.t 14)), dO 16 (.mv (.t 0)), dO 17 (.sop .eql (.t 15) (.t 16))])
 (.cond (.t 17)
 (.seq (.reg [dO 2 (.tk (.c (.bool true)))])
 (.ret))
 (.skip))))
 (.reg [dO 10 (.mv (.t 4)), dO 11 (.ia .add .i64 (.t 10) (.c (.int .i64 1))), dO 4 (.tk (.t 11))]))

def l_r15_Key_0 : AC :=
 .loop [0, 3, 4] b_r15_Key_0

def r_r15_Key_0 : AC :=
 .seq (.reg [dO 2 (.tk (.c (.bool false)))])
 (.ret)

def c_r15_Key : AFunc :=
 { np := 1, res := [.t 2], body := (
 .seq (.reg [dO 2 (.tk (.c (.bool false)))])
 (.seq (.reg [dO 5 (.bsl 1 [.str []] 32 [(0, 1, (.c (.str [112, 114, 111, 99]))), (1, 1, (.c (.str [109, 97, 105, 110]))), (2, 1, (.c (.str [114, 101, 99, 111, 118, 101, 114]))), (3, 1, (.c (.str [111, 114, 97, 99, 108, 101]))), (4, 1, (.c (.str [99, 114, 101, 97, 116, 101]))), (5, 1, (.c (.str [109, 107, 100, 105, 114]))), (6, 1, (.c (.str [119, 114, 105, 116, 101]))), (7, 1, (.c (.str [97, 112, 112, 101, 110, 100]))), (8, 1, (.c (.str [116, 114, 117, 110, 99, 97, 116, 101]))), (9, 1, (.c (.str [114, 101, 110, 97, 109, 101]))), (10, 1, (.c (.str [117, 110, 108, 105, 110, 107]))), (11, 1, (.c (.str [102, 115, 121, 110, 99]))), (12, 1, (.c (.str [102, 100, 97, 116, 97, 115, 121, 110, 99]))), (13, 1, (.c (.str [115, 121, 110, 99, 100, 105, 114]))), (14, 1, (.c (.str [98, 97, 114, 114, 105, 101, 114]))), (15, 1, (.c (.str [108, 101, 116]))), (16, 1, (.c (.str [105, 102]))), (17, 1, (.c (.str [101, 108, 115, 101]))), (18, 1, (.c (.str [114, 101, 112, 101, 97, 116]))), (19, 1, (.c (.str [99, 97, 108, 108]))), (20, 1, (.c (.str [116, 120, 110]))), (21, 1, (.c (.str [99, 111, 109, 109, 105, 116]))), (22, 1, (.c (.str [114, 101, 112, 108, 97, 121]))), (23, 1, (.c (.str [97, 115, 115, 101, 114, 116]))), (24, 1, (.c (.str [101, 120, 105, 115, 116, 115]))), (25, 1, (.c (.str [115, 105, 122, 101]))), (26, 1, (.c (.str [114, 101, 97, 100]))), (27, 1, (.c (.str [110, 111, 116]))), (28, 1, (.c (.str [97, 110, 100]))), (29, 1, (.c (.str [111, 114]))), (30, 1, (.c (.str [116, 114, 117, 101]))), (31, 1, (.c (.str [102, 97, 108, 115, 101])))] false), dO 3 (.tk (.t 5))])
 (.seq (.seq (.reg [dO 4 (.tk (.c (.int .i64 0)))])
 (.block 0 (l_r15_Key_0))) r_r15_Key_0))) }

def c_r15_inner : AFunc :=
 { np := 1, res := [.t 2], body := (
 .seq (.reg [dO 2 (.tk (.c (.bool false)))])
 (.seq (.reg [dO 3 (.mv (.t 0)), dO 4 (.callc n_r15_letter [(.t 3)]), dO 5 (.mv (.t 4)), ⟨some 6, (some (5, false)), .mv (.t 0)⟩, ⟨some 7, (some (5, false)), .callc n_r15_digit [(.t 6)]⟩, dO 8 (.pick (.t 5) (.c (.bool true)) (.t 7)), dO 9 (.mv (.t 8)), ⟨some 10, (some (9, false)), .mv (.t 0)⟩, ⟨some 11, (some (9, false)), .ic .eql (.t 10) (.c (.int .u8 95))⟩, dO 12 (.pick (.t 9) (.c (.bool true)) (.t 11)), dO 2 (.tk (.t 12))])
 (.ret))) }

def b_r16_Stmt_0 : AC :=
 .seq (.seq (.reg [dO 30 (.mv (.t 7)), dO 31 (.mv (.t 5)), dO 32 (.ic .lss (.t 30) (.t 31))])
 (.cond (.t 32)
 (.skip)
 (.exit 0)))
 (.seq (.block 1 (.seq (.reg [dO 35 (.fa 3 (.t 2)), dO 36 (.ld none (.t 35)), dO 37 (.mv (.t 7)), dO 38 (.ixa 4 none (.t 36) (.t 37)), dO 39 (.ld (some 4) (.t 38)), dO 40 (.callc n_r16_Expr [(.t 39), (.c (.int .i64 8))]), dO 41 (.notb (.t 40))])
 (.cond (.t 41)
 (.seq (.reg [dO 4 (.tk (.c (.bool false)))])
 (.ret))
 (.skip))))
 (.reg [dO 33 (.mv (.t 7)), dO 34 (.ia .add .i64 (.t 33) (.c (.int .i64 1))), dO 7 (.tk (.t 34))]))

def l_r16_Stmt_0 : AC :=
 .loop [1, 2, 5, 7] b_r16_Stmt_0

def b_r16_Stmt_1 : AC :=
 .seq (.seq (.reg [dO 136 (.mv (.t 10)), dO 137 (.fa 4 (.t 2)), dO 138 (.ld none (.t 137)), dO 139 (.len false (.t 138)), dO 140 (.ic .lss (.t 136) (.t 139))])
 (.cond (.t 140)
 (.skip)
 (.exit 2)))
 (.seq (.block 3 (.seq (.reg [dO 143 (.fa 0 (.t 2)), dO 144 (.ld none (.t 143)), dO 145 (.ic .eql (.t 144) (.c (.int .i64 16))), dO 146 (.mv (.t 145)), ⟨some 147, (some (146, true)), .fa 4 (.t 2)⟩, ⟨some 148, (some (146, true)), .ld none (.t 147)⟩, ⟨some 149, (some (146, true)), .mv (.t 10)⟩, ⟨some 150, (some (146, true)), .ixa 7 none (.t 148) (.t 149)⟩, ⟨some 151, (some (146, true)), .fa 0 (.t 150)⟩, ⟨some 152, (some (146, true)), .ld none (.t 151)⟩, ⟨some 153, (some (146, true)), .ic .neq (.t 152) (.c (.int .i64 3))⟩, dO 154 (.pick (.t 146) (.t 153) (.c (.bool false)))])
 (.cond (.t 154)
 (.seq (.reg [dO 4 (.tk (.c (.bool false)))])
 (.ret))
 (.skip))))
 (.reg [dO 141 (.mv (.t 10)), dO 142 (.ia .add .i64 (.t 141) (.c (.int .i64 1))), dO 10 (.tk (.t 142))]))

def l_r16_Stmt_1 : AC :=
 .loop [1, 2, 10] b_r16_Stmt_1

def r_r16_Stmt_0 : AC :=
 .seq (.reg [dO 155 (.fa 4 (.t 2)), dO 156 (.ld none (.t 155)), dO 157 (.mv (.t 1)), dO 158 (.ia .add .i64 (.t 157) (.c (.int .i64 1))), dO 159 (.callc n_r16_Block [(.t 156), (.t 158)]), dO 160 (.mv (.t 159)), ⟨some 161, (some (160, true)), .fa 5 (.t 2)⟩, ⟨some 162, (some (160, true)), .ld none (.t 161)⟩, ⟨some 163, (some (160, true)), .mv (.t 1)⟩, ⟨some 164, (some (160, true)), .ia .add .i64 (.t 163) (.c (.int .i64 1))⟩, ⟨some 165, (some (160, true)), .callc n_r16_Block [(.t 162), (.t 164)]⟩, dO 166 (.pick (.t 160) (.t 165) (.c (.bool false))), dO 4 (.tk (.t 166))])
 (.ret)

def r_r16_Stmt_1 : AC :=
 .seq (.reg [dO 42 (.fa 0 (.t 2)), dO 43 (.ld none (.t 42)), dO 44 (.ic .eql (.t 43) (.c (.int .i64 12))), dO 45 (.mv (.t 44)), ⟨some 46, (some (45, false)), .fa 0 (.t 2)⟩, ⟨some 47, (some (45, false)), .ld none (.t 46)⟩, ⟨some 48, (some (45, false)), .ic .eql (.t 47) (.c (.int .i64 15))⟩, dO 49 (.pick (.t 45) (.c (.bool true)) (.t 48)), dO 8 (.tk (.t 49))])
 (.seq (.reg [dO 50 (.fa 0 (.t 2)), dO 51 (.ld none (.t 50)), dO 52 (.ic .eql (.t 51) (.c (.int .i64 13))), dO 53 (.mv (.t 52)), ⟨some 54, (some (53, false)), .fa 0 (.t 2)⟩, ⟨some 55, (some (53, false)), .ld none (.t 54)⟩, ⟨some 56, (some (53, false)), .ic .eql (.t 55) (.c (.int .i64 14))⟩, dO 57 (.pick (.t 53) (.c (.bool true)) (.t 56)), dO 58 (.mv (.t 57)), ⟨some 59, (some (58, false)), .fa 0 (.t 2)⟩, ⟨some 60, (some (58, false)), .ld none (.t 59)⟩, ⟨some 61, (some (58, false)), .ic .eql (.t 60) (.c (.int .i64 16))⟩, dO 62 (.pick (.t 58) (.c (.bool true)) (.t 61)), dO 9 (.tk (.t 62))])
 (.seq (.seq (.reg [dO 63 (.mv (.t 8)), dO 64 (.mv (.t 63)), ⟨some 65, (some (64, true)), .fa 1 (.t 2)⟩, ⟨some 66, (some (64, true)), .ld none (.t 65)⟩, ⟨some 67, (some (64, true)), .callc n_r15_Name [(.t 66)]⟩, ⟨some 68, (some (64, true)), .notb (.t 67)⟩, dO 69 (.pick (.t 64) (.t 68) (.c (.bool false))), dO 70 (.mv (.t 69)), ⟨some 71, (some (70, false)), .mv (.t 8)⟩, ⟨some 72, (some (70, false)), .notb (.t 71)⟩, ⟨some 73, (some (70, false)), .mv (.t 72)⟩, ⟨some 74, (some (73, true)), .fa 1 (.t 2)⟩, ⟨some 75, (some (73, true)), .ld none (.t 74)⟩, ⟨some 76, (some (73, true)), .sop .neq (.t 75) (.c (.str []))⟩, ⟨some 77, (some (70, false)), .pick (.t 73) (.t 76) (.c (.bool false))⟩, dO 78 (.pick (.t 70) (.c (.bool true)) (.t 77))])
 (.cond (.t 78)
 (.seq (.reg [dO 4 (.tk (.c (.bool false)))])
 (.ret))
 (.skip)))
 (.seq (.seq (.reg [dO 79 (.fa 2 (.t 2)), dO 80 (.ld none (.t 79)), dO 81 (.ic .lss (.t 80) (.c (.int .i64 0))), dO 82 (.mv (.t 81)), ⟨some 83, (some (82, false)), .fa 2 (.t 2)⟩, ⟨some 84, (some (82, false)), .ld none (.t 83)⟩, ⟨some 85, (some (82, false)), .ic .gtr (.t 84) (.c (.int .i64 16))⟩, dO 86 (.pick (.t 82) (.c (.bool true)) (.t 85)), dO 87 (.mv (.t 86)), ⟨some 88, (some (87, false)), .fa 0 (.t 2)⟩, ⟨some 89, (some (87, false)), .ld none (.t 88)⟩, ⟨some 90, (some (87, false)), .ic .neq (.t 89) (.c (.int .i64 14))⟩, ⟨some 91, (some (87, false)), .mv (.t 90)⟩, ⟨some 92, (some (91, true)), .fa 2 (.t 2)⟩, ⟨some 93, (some (91, true)), .ld none (.t 92)⟩, ⟨some 94, (some (91, true)), .ic .neq (.t 93) (.c (.int .i64 0))⟩, ⟨some 95, (some (87, false)), .pick (.t 91) (.t 94) (.c (.bool false))⟩, dO 96 (.pick (.t 87) (.c (.bool true)) (.t 95)), dO 97 (.mv (.t 96)), ⟨some 98, (some (97, false)), .fa 6 (.t 2)⟩, ⟨some 99, (some (97, false)), .ld none (.t 98)⟩, ⟨some 100, (some (97, false)), .mv (.t 99)⟩, ⟨some 101, (some (100, true)), .fa 0 (.t 2)⟩, ⟨some 102, (some (100, true)), .ld none (.t 101)⟩, ⟨some 103, (some (100, true)), .ic .neq (.t 102) (.c (.int .i64 16))⟩, ⟨some 104, (some (97, false)), .pick (.t 100) (.t 103) (.c (.bool false))⟩, dO 105 (.pick (.t 97) (.c (.bool true)) (.t 104))])
 (.cond (.t 105)
 (.seq (.reg [dO 4 (.tk (.c (.bool false)))])
 (.ret))
 (.skip)))
 (.seq (.seq (.reg [dO 106 (.mv (.t 9)), dO 107 (.notb (.t 106)), dO 108 (.mv (.t 107)), ⟨some 109, (some (108, true)), .fa 4 (.t 2)⟩, ⟨some 110, (some (108, true)), .ld none (.t 109)⟩, ⟨some 111, (some (108, true)), .len false (.t 110)⟩, ⟨some 112, (some (108, true)), .ic .gtr (.t 111) (.c (.int .i64 0))⟩, dO 113 (.pick (.t 108) (.t 112) (.c (.bool false))), dO 114 (.mv (.t 113)), ⟨some 115, (some (114, false)), .fa 0 (.t 2)⟩, ⟨some 116, (some (114, false)), .ld none (.t 115)⟩, ⟨some 117, (some (114, false)), .ic .neq (.t 116) (.c (.int .i64 13))⟩, ⟨some 118, (some (114, false)), .mv (.t 117)⟩, ⟨some 119, (some (118, true)), .fa 5 (.t 2)⟩, ⟨some 120, (some (118, true)), .ld none (.t 119)⟩, ⟨some 121, (some (118, true)), .len false (.t 120)⟩, ⟨some 122, (some (118, true)), .ic .gtr (.t 121) (.c (.int .i64 0))⟩, ⟨some 123, (some (114, false)), .pick (.t 118) (.t 122) (.c (.bool false))⟩, dO 124 (.pick (.t 114) (.c (.bool true)) (.t 123)), dO 125 (.mv (.t 124)), ⟨some 126, (some (125, false)), .fa 0 (.t 2)⟩, ⟨some 127, (some (125, false)), .ld none (.t 126)⟩, ⟨some 128, (some (125, false)), .ic .eql (.t 127) (.c (.int .i64 16))⟩, ⟨some 129, (some (125, false)), .mv (.t 128)⟩, ⟨some 130, (some (129, true)), .fa 4 (.t 2)⟩, ⟨some 131, (some (129, true)), .ld none (.t 130)⟩, ⟨some 132, (some (129, true)), .len false (.t 131)⟩, ⟨some 133, (some (129, true)), .ic .gtr (.t 132) (.c (.int .i64 8))⟩, ⟨some 134, (some (125, false)), .pick (.t 129) (.t 133) (.c (.bool false))⟩, dO 135 (.pick (.t 125) (.c (.bool true)) (.t 134))])
 (.cond (.t 135)
 (.seq (.reg [dO 4 (.tk (.c (.bool false)))])
 (.ret))
 (.skip)))
 (.seq (.seq (.reg [dO 10 (.tk (.c (.int .i64 0)))])
 (.block 2 (l_r16_Stmt_1))) r_r16_Stmt_0)))))

def c_r16_Stmt : AFunc :=
 { np := 2, res := [.t 4], body := (
 .seq (.reg [dO 2 (.box (.t 0)), dO 4 (.tk (.c (.bool false)))])
 (.seq (.reg [dO 12 (.fa 0 (.t 2)), dO 13 (.ld none (.t 12)), dO 14 (.callc n_r16_Exprs [(.t 13)]), dO 11 (.mv (.t 14)), dO 15 (.ext (.t 11) 0), dO 16 (.ext (.t 11) 1), dO 5 (.tk (.t 15)), dO 6 (.tk (.t 16))])
 (.seq (.seq (.reg [dO 17 (.mv (.t 6)), dO 18 (.notb (.t 17)), dO 19 (.mv (.t 18)), ⟨some 20, (some (19, false)), .mv (.t 1)⟩, ⟨some 21, (some (19, false)), .ic .gtr (.t 20) (.c (.int .i64 8))⟩, dO 22 (.pick (.t 19) (.c (.bool true)) (.t 21)), dO 23 (.mv (.t 22)), ⟨some 24, (some (23, false)), .fa 3 (.t 2)⟩, ⟨some 25, (some (23, false)), .ld none (.t 24)⟩, ⟨some 26, (some (23, false)), .len false (.t 25)⟩, ⟨some 27, (some (23, false)), .mv (.t 5)⟩, ⟨some 28, (some (23, false)), .ic .neq (.t 26) (.t 27)⟩, dO 29 (.pick (.t 23) (.c (.bool true)) (.t 28))])
 (.cond (.t 29)
 (.seq (.reg [dO 4 (.tk (.c (.bool false)))])
 (.ret))
 (.skip)))
 (.seq (.seq (.reg [dO 7 (.tk (.c (.int .i64 0)))])
 (.block 0 (l_r16_Stmt_0))) r_r16_Stmt_1)))) }

def c_r14_sign : AFunc :=
 { np := 1, res := [.t 2], body := (
 .seq (.reg [dO 2 (.tk (.c (.str [])))])
 (.seq (.seq (.reg [dO 3 (.mv (.t 0)), dO 4 (.ic .geq (.t 3) (.c (.int .u8 32))), dO 5 (.mv (.t 4)), ⟨some 6, (some (5, true)), .mv (.t 0)⟩, ⟨some 7, (some (5, true)), .ic .leq (.t 6) (.c (.int .u8 126))⟩, dO 8 (.pick (.t 5) (.t 7) (.c (.bool false))), dO 9 (.mv (.t 8)), ⟨some 10, (some (9, true)), .mv (.t 0)⟩, ⟨some 11, (some (9, true)), .ic .neq (.t 10) (.c (.int .u8 34))⟩, dO 12 (.pick (.t 9) (.t 11) (.c (.bool false))), dO 13 (.mv (.t 12)), ⟨some 14, (some (13, true)), .mv (.t 0)⟩, ⟨some 15, (some (13, true)), .ic .neq (.t 14) (.c (.int .u8 92))⟩, dO 16 (.pick (.t 13) (.t 15) (.c (.bool false)))])
 (.cond (.t 16)
 (.seq (.reg [dO 17 (.mv (.t 0)), dO 18 (.bsl 1 [.int .u8 0] 1 [(0, 1, (.t 17))] false), dO 19 (.b2s (.t 18)), dO 2 (.tk (.t 19))])
 (.ret))
 (.skip)))
 (.seq (.drw [[], [], [], [], [], [], [], [], []] [dO 20 (.mv (.t 0)), dO 21 (.ia .quo .u8 (.t 20) (.c (.int .u8 16))), dO 22 (.ixs (.c (.str [48, 49, 50, 51, 52, 53, 54, 55, 56, 57, 97, 98, 99, 100, 101, 102])) (.t 21)), dO 23 (.mv (.t 0)), dO 24 (.ia .rem .u8 (.t 23) (.c (.int .u8 16))), dO 25 (.ixs (.c (.str [48, 49, 50, 51, 52, 53, 54, 55, 56, 57, 97, 98, 99, 100, 101, 102])) (.t 24)), dO 26 (.bsl 1 [.int .u8 0] 3 [(0, 1, (.c (.int .u8 92))), (1, 1, (.t 22)), (2, 1, (.t 25))] false), dO 27 (.b2s (.t 26)), dO 2 (.tk (.t 27))])
 (.ret)))) }

def c_flotsamref18_closed : AFunc :=
 { np := 3, res := [.t 6], body := (
 .seq (.reg [dO 6 (.tk (.c (.bool false)))])
 (.seq (.reg [dO 9 (.mv (.t 2)), dO 10 (.ic .eql (.t 9) (.c (.int .i64 13))), dO 11 (.mv (.t 10)), ⟨some 12, (some (11, false)), .mv (.t 2)⟩, ⟨some 13, (some (11, false)), .ic .eql (.t 12) (.c (.int .i64 14))⟩, dO 14 (.pick (.t 11) (.c (.bool true)) (.t 13)), dO 7 (.tk (.t 14))])
 (.seq (.reg [dO 15 (.mv (.t 7)), dO 16 (.mv (.t 15)), ⟨some 17, (some (16, false)), .mv (.t 2)⟩, ⟨some 18, (some (16, false)), .ic .eql (.t 17) (.c (.int .i64 8))⟩, dO 19 (.pick (.t 16) (.c (.bool true)) (.t 18)), dO 20 (.mv (.t 19)), ⟨some 21, (some (20, false)), .mv (.t 2)⟩, ⟨some 22, (some (20, false)), .ic .eql (.t 21) (.c (.int .i64 11))⟩, dO 23 (.pick (.t 20) (.c (.bool true)) (.t 22)), dO 24 (.mv (.t 23)), ⟨some 25, (some (24, false)), .mv (.t 2)⟩, ⟨some 26, (some (24, false)), .ic .eql (.t 25) (.c (.int .i64 12))⟩, dO 27 (.pick (.t 24) (.c (.bool true)) (.t 26)), dO 8 (.tk (.t 27))])
 (.seq (.seq (.reg [dO 28 (.mv (.t 0))])
 (.block 0 (.seq (.reg [dO 30 (.ic .eql (.t 28) (.c (.int .i64 8))), dO 29 (.tk (.t 30))])
 (.cond (.t 29)
 (.seq (.reg [dO 31 (.mv (.t 7)), dO 6 (.tk (.t 31))])
 (.ret))
 (.seq (.seq (.reg [dO 33 (.ic .eql (.t 28) (.c (.int .i64 9))), dO 32 (.tk (.t 33))])
 (.cond (.t 32)
 (.skip)
 (.reg [dO 34 (.ic .eql (.t 28) (.c (.int .i64 10))), dO 32 (.tk (.t 34))])))
 (.cond (.t 32)
 (.seq (.reg [dO 35 (.mv (.t 8)), dO 36 (.mv (.t 35)), ⟨some 37, (some (36, false)), .mv (.t 1)⟩, ⟨some 38, (some (36, false)), .ic .eql (.t 37) (.c (.int .i64 1))⟩, ⟨some 39, (some (36, false)), .mv (.t 38)⟩, ⟨some 40, (some (39, true)), .mv (.t 2)⟩, ⟨some 41, (some (39, true)), .ic .eql (.t 40) (.c (.int .i64 9))⟩, ⟨some 42, (some (39, true)), .mv (.t 41)⟩, ⟨some 43, (some (42, false)), .mv (.t 2)⟩, ⟨some 44, (some (42, false)), .ic .eql (.t 43) (.c (.int .i64 10))⟩, ⟨some 45, (some (39, true)), .pick (.t 42) (.c (.bool true)) (.t 44)⟩, ⟨some 46, (some (36, false)), .pick (.t 39) (.t 45) (.c (.bool false))⟩, dO 47 (.pick (.t 36) (.c (.bool true)) (.t 46)), dO 6 (.tk (.t 47))])
 (.ret))
 (.seq (.seq (.reg [dO 49 (.ic .eql (.t 28) (.c (.int .i64 11))), dO 48 (.tk (.t 49))])
 (.cond (.t 48)
 (.skip)
 (.reg [dO 50 (.ic .eql (.t 28) (.c (.int .i64 12))), dO 48 (.tk (.t 50))])))
 (.cond (.t 48)
 (.seq (.reg [dO 51 (.mv (.t 8)), dO 6 (.tk (.t 51))])
 (.ret))
 (.seq (.reg [dO 53 (.ic .eql (.t 28) (.c (.int .i64 13))), dO 52 (.tk (.t 53))])
 (.cond (.t 52)
 (.seq (.reg [dO 54 (.mv (.t 2)), dO 55 (.ic .eql (.t 54) (.c (.int .i64 14))), dO 56 (.mv (.t 55)), ⟨some 57, (some (56, false)), .mv (.t 1)⟩, ⟨some 58, (some (56, false)), .ic .eql (.t 57) (.c (.int .i64 1))⟩, ⟨some 59, (some (56, false)), .mv (.t 58)⟩, ⟨some 60, (some (59, true)), .mv (.t 2)⟩, ⟨some 61, (some (59, true)), .ic .eql (.t 60) (.c (.int .i64 13))⟩, ⟨some 62, (some (56, false)), .pick (.t 59) (.t 61) (.c (.bool false))⟩, dO 63 (.pick (.t 56) (.c (.bool true)) (.t 62)), dO 6 (.tk (.t 63))])
 (.ret))
 (.seq (.reg [dO 65 (.ic .eql (.t 28) (.c (.int .i64 14))), dO 64 (.tk (.t 65))])
 (.cond (.t 64)
 (.seq (.reg [dO 66 (.mv (.t 1)), dO 67 (.ic .eql (.t 66) (.c (.int .i64 1))), dO 68 (.mv (.t 67)), ⟨some 69, (some (68, true)), .mv (.t 2)⟩, ⟨some 70, (some (68, true)), .ic .eql (.t 69) (.c (.int .i64 14))⟩, dO 71 (.pick (.t 68) (.t 70) (.c (.bool false))), dO 6 (.tk (.t 71))])
 (.ret))
 (.skip)))))))))))))
 (.seq (.reg [dO 6 (.tk (.c (.bool false)))])
 (.ret)))))) }

def c_lex_digit : AFunc :=
 { np := 1, res := [.t 2], body := (
 .seq (.reg [dO 2 (.tk (.c (.bool false)))])
 (.seq (.reg [dO 3 (.mv (.t 0)), dO 4 (.ic .geq (.t 3) (.c (.int .i32 48))), dO 5 (.mv (.t 4)), ⟨some 6, (some (5, true)), .mv (.t 0)⟩, ⟨some 7, (some (5, true)), .ic .leq (.t 6) (.c (.int .i32 57))⟩, dO 8 (.pick (.t 5) (.t 7) (.c (.bool false))), dO 2 (.tk (.t 8))])
 (.ret))) }

def a_tree_walk_1_0 : AC :=
 .reg [dO 7 (.alloc [.int .i64 0, .str [], .int .i64 0, .own 4 [], .own 7 [], .own 7 [], .bool false]), ⟨none, none, .st 7 (.t 7) (.t 30)⟩]

def y_tree_walk_1_0 : AC :=
 .block 5 (.seq (.reg [dO 31 (.ld none (.t 2)), dO 32 (.ld (some 7) (.t 7)), dO 33 (.callv (.t 31) [(.t 32)]), dO 34 (.notb (.t 33))])
 (.cond (.t 34)
 (.ret)
 (.skip)))

def r_tree_walk_1_0 : AC :=
 .reg [dO 35 (.ia .add .i64 (.t 24) (.c (.int .i64 1))), dO 24 (.mv (.t 35))]

def b_tree_walk_1_0 : AC :=
 .seq (.reg [dO 25 (.ic .lss (.t 24) (.t 23))])
 (.seq (.cond (.t 25)
 (.skip)
 (.exit 2))
 (.seq (.block 3 (.seq (.reg [dO 26 (.ixa 1 none (.t 22) (.t 24)), dO 27 (.ld none (.t 26)), dO 6 (.tk (.t 27))])
 (.seq (.reg [dO 28 (.mv (.t 6)), dO 29 (.call n_tree_walk [(.t 28)])])
 (.block 4 (.rfn (.t 29) [2] q_tree_walk_1_0 [30] a_tree_walk_1_0 y_tree_walk_1_0))))) r_tree_walk_1_0))

def l_tree_walk_1_0 : AC :=
 .loop [2, 8, 9, 10, 22, 23, 24] b_tree_walk_1_0

def r_tree_walk_1_1 : AC :=
 .reg [dO 36 (.ia .add .i64 (.t 10) (.c (.int .i64 1))), dO 10 (.mv (.t 36))]

def b_tree_walk_1_1 : AC :=
 .seq (.reg [dO 11 (.ic .lss (.t 10) (.t 9))])
 (.seq (.cond (.t 11)
 (.skip)
 (.exit 0))
 (.seq (.block 1 (.seq (.reg [dO 12 (.ixa 7 none (.t 8) (.t 10)), dO 13 (.ld (some 7) (.t 12)), dO 4 (.alloc [.int .i64 0, .str [], .int .i64 0, .own 4 [], .own 7 [], .own 7 [], .bool false]), ⟨none, none, .st 7 (.t 4) (.t 13)⟩])
 (.seq (.seq (.reg [dO 14 (.ld none (.t 2)), dO 15 (.ld (some 7) (.t 4)), dO 16 (.callv (.t 14) [(.t 15)]), dO 17 (.notb (.t 16))])
 (.cond (.t 17)
 (.ret)
 (.skip)))
 (.seq (.reg [dO 18 (.fa 4 (.t 4)), dO 19 (.ld none (.t 18)), dO 20 (.fa 5 (.t 4)), dO 21 (.ld none (.t 20)), dO 22 (.bsl 1 [.sl 7 []] 2 [(0, 1, (.t 19)), (1, 1, (.t 21))] false), dO 23 (.len false (.t 22)), dO 24 (.mv (.c (.int .i64 0)))])
 (.block 2 (l_tree_walk_1_0)))))) r_tree_walk_1_1))

def l_tree_walk_1_1 : AC :=
 .loop [2, 8, 9, 10] b_tree_walk_1_1

def c_tree_walk_1 : AFunc :=
 { np := 2, res := [], body := (
 .seq (.reg [dO 2 (.box (.t 0))])
 (.seq (.reg [dO 8 (.ld none (.t 1)), dO 9 (.len false (.t 8)), dO 10 (.mv (.c (.int .i64 0)))])
 (.block 0 (l_tree_walk_1_1)))) }

def b_tree_each_api_Expr_0 : AC :=
 .seq (.reg [dO 11 (.ic .lss (.t 10) (.t 9))])
 (.seq (.cond (.t 11)
 (.skip)
 (.exit 0))
 (.seq (.block 1 (.seq (.reg [dO 12 (.ixa 4 none (.t 8) (.t 10)), dO 13 (.ld (some 4) (.t 12)), dO 7 (.alloc [.int .i64 0, .int .i64 0, .str [], .own 4 []]), ⟨none, none, .st 4 (.t 7) (.t 13)⟩])
 (.reg [dO 14 (.tk (.t 5)), dO 15 (.mv (.t 1)), dO 16 (.ld (some 4) (.t 7)), dO 17 (.callv (.t 15) [(.t 16)]), dO 18 (.bsl 4 [.int .i64 0, .int .i64 0, .str [], .sl 4 []] 1 [(0, 4, (.t 17))] false), dO 19 (.app 4 56 (.t 14) (.t 18) false), dO 5 (.tk (.t 19))])))
 (.reg [dO 20 (.ia .add .i64 (.t 10) (.c (.int .i64 1))), dO 10 (.mv (.t 20))])))

def l_tree_each_api_Expr_0 : AC :=
 .loop [1, 5, 8, 9, 10] b_tree_each_api_Expr_0

def r_tree_each_api_Expr_0 : AC :=
 .seq (.reg [dO 21 (.tk (.t 5)), dO 4 (.tk (.t 21))])
 (.ret)

def c_tree_each_api_Expr : AFunc :=
 { np := 2, res := [.t 4], body := (
 .seq (.reg [dO 4 (.tk (.c (.own 4 [])))])
 (.seq (.reg [dO 5 (.tk (.c (.own 4 [])))])
 (.seq (.seq (.reg [dO 8 (.mv (.t 0)), dO 9 (.len false (.t 8)), dO 10 (.mv (.c (.int .i64 0)))])
 (.block 0 (l_tree_each_api_Expr_0))) r_tree_each_api_Expr_0))) }

def c_tree_clonedExpr : AFunc :=
 { np := 1, res := [.cell 2 (some 4)], body := (
 .seq (.reg [dO 1 (.box (.t 0)), dO 2 (.alloc [.int .i64 0, .int .i64 0, .str [], .own 4 []])])
 (.seq (.reg [dO 3 (.fa 3 (.t 1)), dO 4 (.ld none (.t 3)), dO 5 (.callc n_tree_each_api_Expr [(.t 4), (.c (.fn (.func n_tree_clonedExpr) [] []))]), dO 6 (.fa 3 (.t 1)), ⟨none, none, .st 1 (.t 6) (.t 5)⟩])
 (.seq (.reg [dO 7 (.ld (some 4) (.t 1)), ⟨none, none, .st 4 (.t 2) (.t 7)⟩])
 (.ret)))) }

def b_tree_each_api_Stmt_0 : AC :=
 .seq (.reg [dO 11 (.ic .lss (.t 10) (.t 9))])
 (.seq (.cond (.t 11)
 (.skip)
 (.exit 0))
 (.seq (.block 1 (.seq (.reg [dO 12 (.ixa 7 none (.t 8) (.t 10)), dO 13 (.ld (some 7) (.t 12)), dO 7 (.alloc [.int .i64 0, .str [], .int .i64 0, .own 4 [], .own 7 [], .own 7 [], .bool false]), ⟨none, none, .st 7 (.t 7) (.t 13)⟩])
 (.reg [dO 14 (.tk (.t 5)), dO 15 (.mv (.t 1)), dO 16 (.ld (some 7) (.t 7)), dO 17 (.callv (.t 15) [(.t 16)]), dO 18 (.bsl 7 [.int .i64 0, .str [], .int .i64 0, .sl 4 [], .sl 7 [], .sl 7 [], .bool false] 1 [(0, 7, (.t 17))] false), dO 19 (.app 7 112 (.t 14) (.t 18) false), dO 5 (.tk (.t 19))])))
 (.reg [dO 20 (.ia .add .i64 (.t 10) (.c (.int .i64 1))), dO 10 (.mv (.t 20))])))

def l_tree_each_api_Stmt_0 : AC :=
 .loop [1, 5, 8, 9, 10] b_tree_each_api_Stmt_0

def r_tree_each_api_Stmt_0 : AC :=
 .seq (.reg [dO 21 (.tk (.t 5)), dO 4 (.tk (.t 21))])
 (.ret)

def c_tree_each_api_Stmt : AFunc :=
 { np := 2, res := [.t 4], body := (
 .seq (.reg [dO 4 (.tk (.c (.own 7 [])))])
 (.seq (.reg [dO 5 (.tk (.c (.own 7 [])))])
 (.seq (.seq (.reg [dO 8 (.mv (.t 0)), dO 9 (.len false (.t 8)), dO 10 (.mv (.c (.int .i64 0)))])
 (.block 0 (l_tree_each_api_Stmt_0))) r_tree_each_api_Stmt_0))) }

def b_slices_IndexFunc_api_Expr_api_Expr_0 : AC :=
 .seq (.reg [dO 9 (.ic .lss (.t 8) (.t 7))])
 (.seq (.cond (.t 9)
 (.skip)
 (.exit 0))
 (.seq (.block 1 (.seq (.reg [dO 10 (.mv (.t 8)), dO 5 (.tk (.t 10))])
 (.seq (.reg [dO 11 (.mv (.t 1)), dO 12 (.mv (.t 0)), dO 13 (.mv (.t 5)), dO 14 (.ixa 4 none (.t 12) (.t 13)), dO 15 (.ld (some 4) (.t 14)), dO 16 (.callv (.t 11) [(.t 15)])])
 (.cond (.t 16)
 (.seq (.reg [dO 17 (.mv (.t 5)), dO 4 (.tk (.t 17))])
 (.ret))
 (.skip)))))
 (.reg [dO 18 (.ia .add .i64 (.t 8) (.c (.int .i64 1))), dO 8 (.mv (.t 18))])))

def l_slices_IndexFunc_api_Expr_api_Expr_0 : AC :=
 .loop [0, 1, 7, 8] b_slices_IndexFunc_api_Expr_api_Expr_0

def r_slices_IndexFunc_api_Expr_api_Expr_0 : AC :=
 .seq (.reg [dO 4 (.tk (.c (.int .i64 (-1))))])
 (.ret)

def c_slices_IndexFunc_api_Expr_api_Expr : AFunc :=
 { np := 2, res := [.t 4], body := (
 .seq (.reg [dO 4 (.tk (.c (.int .i64 0)))])
 (.seq (.seq (.reg [dO 6 (.mv (.t 0)), dO 7 (.len false (.t 6)), dO 8 (.mv (.c (.int .i64 0)))])
 (.block 0 (l_slices_IndexFunc_api_Expr_api_Expr_0))) r_slices_IndexFunc_api_Expr_api_Expr_0)) }

def b_slices_IndexFunc_api_Stmt_api_Stmt_x_0 : AC :=
 .seq (.reg [dO 9 (.ic .lss (.t 8) (.t 7))])
 (.seq (.cond (.t 9)
 (.skip)
 (.exit 0))
 (.seq (.block 1 (.seq (.reg [dO 10 (.mv (.t 8)), dO 5 (.tk (.t 10))])
 (.seq (.reg [dO 11 (.mv (.t 1)), dO 12 (.mv (.t 0)), dO 13 (.mv (.t 5)), dO 14 (.ixa 7 none (.t 12) (.t 13)), dO 15 (.ld (some 7) (.t 14)), dO 16 (.callv (.t 11) [(.t 15)])])
 (.cond (.t 16)
 (.seq (.reg [dO 17 (.mv (.t 5)), dO 4 (.tk (.t 17))])
 (.ret))
 (.skip)))))
 (.reg [dO 18 (.ia .add .i64 (.t 8) (.c (.int .i64 1))), dO 8 (.mv (.t 18))])))

def l_slices_IndexFunc_api_Stmt_api_Stmt_x_0 : AC :=
 .loop [0, 1, 7, 8] b_slices_IndexFunc_api_Stmt_api_Stmt_x_0

def r_slices_IndexFunc_api_Stmt_api_Stmt_x_0 : AC :=
 .seq (.reg [dO 4 (.tk (.c (.int .i64 (-1))))])
 (.ret)

def c_slices_IndexFunc_api_Stmt_api_Stmt_x : AFunc :=
 { np := 2, res := [.t 4], body := (
 .seq (.reg [dO 4 (.tk (.c (.int .i64 0)))])
 (.seq (.seq (.reg [dO 6 (.mv (.t 0)), dO 7 (.len false (.t 6)), dO 8 (.mv (.c (.int .i64 0)))])
 (.block 0 (l_slices_IndexFunc_api_Stmt_api_Stmt_x_0))) r_slices_IndexFunc_api_Stmt_api_Stmt_x_0)) }

def c_tree_shape : AFunc :=
 { np := 1, res := [.t 2], body := (
 .seq (.reg [dO 1 (.box (.t 0)), dO 2 (.tk (.c (.bool false)))])
 (.seq (.reg [dO 9 (.fa 0 (.t 1)), dO 10 (.ld none (.t 9)), dO 11 (.callc n_tree_Exprs [(.t 10)]), dO 8 (.mv (.t 11)), dO 12 (.ext (.t 8) 0), dO 13 (.ext (.t 8) 1), dO 3 (.tk (.t 12)), dO 4 (.tk (.t 13))])
 (.seq (.reg [dO 15 (.fa 0 (.t 1)), dO 16 (.ld none (.t 15)), dO 17 (.callc n_tree_blocks [(.t 16)]), dO 14 (.mv (.t 17)), dO 18 (.ext (.t 14) 0), dO 19 (.ext (.t 14) 1), dO 5 (.tk (.t 18)), dO 6 (.tk (.t 19))])
 (.seq (.reg [dO 20 (.fa 0 (.t 1)), dO 21 (.ld none (.t 20)), dO 22 (.ic .eql (.t 21) (.c (.int .i64 12))), dO 23 (.mv (.t 22)), ⟨some 24, (some (23, false)), .fa 0 (.t 1)⟩, ⟨some 25, (some (23, false)), .ld none (.t 24)⟩, ⟨some 26, (some (23, false)), .ic .eql (.t 25) (.c (.int .i64 15))⟩, dO 27 (.pick (.t 23) (.c (.bool true)) (.t 26)), dO 7 (.tk (.t 27))])
 (.seq (.block 0 (.seq (.reg [dO 29 (.mv (.t 4)), dO 30 (.notb (.t 29)), dO 31 (.mv (.t 30)), ⟨some 32, (some (31, false)), .fa 3 (.t 1)⟩, ⟨some 33, (some (31, false)), .ld none (.t 32)⟩, ⟨some 34, (some (31, false)), .len false (.t 33)⟩, ⟨some 35, (some (31, false)), .mv (.t 3)⟩, ⟨some 36, (some (31, false)), .ic .neq (.t 34) (.t 35)⟩, dO 37 (.pick (.t 31) (.c (.bool true)) (.t 36)), dO 38 (.mv (.t 37)), ⟨some 39, (some (38, false)), .mv (.t 7)⟩, ⟨some 40, (some (38, false)), .fa 1 (.t 1)⟩, ⟨some 41, (some (38, false)), .ld none (.t 40)⟩, ⟨some 42, (some (38, false)), .sop .neq (.t 41) (.c (.str []))⟩, ⟨some 43, (some (38, false)), .eqb true (.t 39) (.t 42)⟩, dO 44 (.pick (.t 38) (.c (.bool true)) (.t 43)), dO 45 (.mv (.t 44)), ⟨some 46, (some (45, false)), .mv (.t 7)⟩, ⟨some 47, (some (45, false)), .mv (.t 46)⟩, ⟨some 48, (some (47, true)), .fa 1 (.t 1)⟩, ⟨some 49, (some (47, true)), .ld none (.t 48)⟩, ⟨some 50, (some (47, true)), .callc n_lex_Name [(.t 49)]⟩, ⟨some 51, (some (47, true)), .notb (.t 50)⟩, ⟨some 52, (some (45, false)), .pick (.t 47) (.t 51) (.c (.bool false))⟩, dO 53 (.pick (.t 45) (.c (.bool true)) (.t 52)), dO 28 (.tk (.t 53))])
 (.cond (.t 28)
 (.seq (.reg [dO 2 (.tk (.c (.bool false)))])
 (.ret))
 (.seq (.reg [dO 55 (.fa 2 (.t 1)), dO 56 (.ld none (.t 55)), dO 57 (.ic .neq (.t 56) (.c (.int .i64 0))), dO 58 (.mv (.t 57)), ⟨some 59, (some (58, true)), .fa 0 (.t 1)⟩, ⟨some 60, (some (58, true)), .ld none (.t 59)⟩, ⟨some 61, (some (58, true)), .ic .neq (.t 60) (.c (.int .i64 14))⟩, dO 62 (.pick (.t 58) (.t 61) (.c (.bool false))), dO 63 (.mv (.t 62)), ⟨some 64, (some (63, false)), .fa 2 (.t 1)⟩, ⟨some 65, (some (63, false)), .ld none (.t 64)⟩, ⟨some 66, (some (63, false)), .ic .lss (.t 65) (.c (.int .i64 0))⟩, dO 67 (.pick (.t 63) (.c (.bool true)) (.t 66)), dO 68 (.mv (.t 67)), ⟨some 69, (some (68, false)), .fa 2 (.t 1)⟩, ⟨some 70, (some (68, false)), .ld none (.t 69)⟩, ⟨some 71, (some (68, false)), .ic .gtr (.t 70) (.c (.int .i64 16))⟩, dO 72 (.pick (.t 68) (.c (.bool true)) (.t 71)), dO 54 (.tk (.t 72))])
 (.cond (.t 54)
 (.seq (.reg [dO 2 (.tk (.c (.bool false)))])
 (.ret))
 (.seq (.reg [dO 74 (.fa 6 (.t 1)), dO 75 (.ld none (.t 74)), dO 76 (.mv (.t 75)), ⟨some 77, (some (76, true)), .fa 0 (.t 1)⟩, ⟨some 78, (some (76, true)), .ld none (.t 77)⟩, ⟨some 79, (some (76, true)), .ic .neq (.t 78) (.c (.int .i64 16))⟩, dO 80 (.pick (.t 76) (.t 79) (.c (.bool false))), dO 81 (.mv (.t 80)), ⟨some 82, (some (81, false)), .mv (.t 5)⟩, ⟨some 83, (some (81, false)), .notb (.t 82)⟩, ⟨some 84, (some (81, false)), .mv (.t 83)⟩, ⟨some 85, (some (84, true)), .fa 4 (.t 1)⟩, ⟨some 86, (some (84, true)), .ld none (.t 85)⟩, ⟨some 87, (some (84, true)), .len false (.t 86)⟩, ⟨some 88, (some (84, true)), .ic .gtr (.t 87) (.c (.int .i64 0))⟩, ⟨some 89, (some (81, false)), .pick (.t 84) (.t 88) (.c (.bool false))⟩, dO 90 (.pick (.t 81) (.c (.bool true)) (.t 89)), dO 91 (.mv (.t 90)), ⟨some 92, (some (91, false)), .mv (.t 6)⟩, ⟨some 93, (some (91, false)), .notb (.t 92)⟩, ⟨some 94, (some (91, false)), .mv (.t 93)⟩, ⟨some 95, (some (94, true)), .fa 5 (.t 1)⟩, ⟨some 96, (some (94, true)), .ld none (.t 95)⟩, ⟨some 97, (some (94, true)), .len false (.t 96)⟩, ⟨some 98, (some (94, true)), .ic .gtr (.t 97) (.c (.int .i64 0))⟩, ⟨some 99, (some (91, false)), .pick (.t 94) (.t 98) (.c (.bool false))⟩, dO 100 (.pick (.t 91) (.c (.bool true)) (.t 99)), dO 73 (.tk (.t 100))])
 (.cond (.t 73)
 (.seq (.reg [dO 2 (.tk (.c (.bool false)))])
 (.ret))
 (.skip))))))))
 (.seq (.reg [dO 101 (.fa 3 (.t 1)), dO 102 (.ld none (.t 101)), dO 103 (.callc n_slices_ContainsFunc_api_Expr_api_Expr [(.t 102), (.c (.fn (.func n_tree_shape_1) [] []))]), dO 104 (.notb (.t 103)), dO 2 (.tk (.t 104))])
 (.ret))))))) }

def c_tree_stmt_1 : AFunc :=
 { np := 1, res := [.t 2], body := (
 .seq (.reg [dO 1 (.box (.t 0)), dO 2 (.tk (.c (.bool false)))])
 (.seq (.reg [dO 3 (.fa 0 (.t 1)), dO 4 (.ld none (.t 3)), dO 5 (.ic .neq (.t 4) (.c (.int .i64 3))), dO 2 (.tk (.t 5))])
 (.ret))) }

def c_r15_digit : AFunc :=
 { np := 1, res := [.t 2], body := (
 .seq (.reg [dO 2 (.tk (.c (.bool false)))])
 (.seq (.reg [dO 3 (.mv (.t 0)), dO 4 (.ic .geq (.t 3) (.c (.int .u8 48))), dO 5 (.mv (.t 4)), ⟨some 6, (some (5, true)), .mv (.t 0)⟩, ⟨some 7, (some (5, true)), .ic .leq (.t 6) (.c (.int .u8 57))⟩, dO 8 (.pick (.t 5) (.t 7) (.c (.bool false))), dO 2 (.tk (.t 8))])
 (.ret))) }

def c_r16_Exprs : AFunc :=
 { np := 1, res := [.t 2, .t 3], body := (
 .seq (.reg [dO 2 (.tk (.c (.int .i64 0))), dO 3 (.tk (.c (.bool false)))])
 (.seq (.reg [dO 5 (.bsl 1 [.int .i64 0] 18 [(0, 1, (.c (.int .i64 1))), (1, 1, (.c (.int .i64 1))), (2, 1, (.c (.int .i64 3))), (3, 1, (.c (.int .i64 2))), (4, 1, (.c (.int .i64 2))), (5, 1, (.c (.int .i64 2))), (6, 1, (.c (.int .i64 1))), (7, 1, (.c (.int .i64 1))), (8, 1, (.c (.int .i64 1))), (9, 1, (.c (.int .i64 1))), (10, 1, (.c (.int .i64 0))), (11, 1, (.c (.int .i64 1))), (12, 1, (.c (.int .i64 1))), (13, 1, (.c (.int .i64 0))), (14, 1, (.c (.int .i64 0))), (15, 1, (.c (.int .i64 1))), (16, 1, (.c (.int .i64 1))), (17, 1, (.c (.int .i64 1)))] false), dO 4 (.tk (.t 5))])
 (.seq (.seq (.reg [dO 6 (.mv (.t 0)), dO 7 (.ic .lss (.t 6) (.c (.int .i64 1))), dO 8 (.mv (.t 7)), ⟨some 9, (some (8, false)), .mv (.t 0)⟩, ⟨some 10, (some (8, false)), .mv (.t 4)⟩, ⟨some 11, (some (8, false)), .len false (.t 10)⟩, ⟨some 12, (some (8, false)), .ic .gtr (.t 9) (.t 11)⟩, dO 13 (.pick (.t 8) (.c (.bool true)) (.t 12))])
 (.cond (.t 13)
 (.seq (.reg [dO 2 (.tk (.c (.int .i64 0))), dO 3 (.tk (.c (.bool false)))])
 (.ret))
 (.skip)))
 (.seq (.reg [dO 14 (.mv (.t 4)), dO 15 (.mv (.t 0)), dO 16 (.ia .sub .i64 (.t 15) (.c (.int .i64 1))), dO 17 (.ixa 1 none (.t 14) (.t 16)), dO 18 (.ld none (.t 17)), dO 2 (.tk (.t 18)), dO 3 (.tk (.c (.bool true)))])
 (.ret))))) }

def c_tree_Exprs : AFunc :=
 { np := 1, res := [.t 2, .t 3], body := (
 .seq (.reg [dO 2 (.tk (.c (.int .i64 0))), dO 3 (.tk (.c (.bool false)))])
 (.seq (.seq (.reg [dO 4 (.mv (.t 0))])
 (.block 0 (.seq (.seq (.reg [dO 6 (.ic .eql (.t 4) (.c (.int .i64 11))), dO 5 (.tk (.t 6))])
 (.cond (.t 5)
 (.skip)
 (.seq (.reg [dO 7 (.ic .eql (.t 4) (.c (.int .i64 14))), dO 5 (.tk (.t 7))])
 (.cond (.t 5)
 (.skip)
 (.reg [dO 8 (.ic .eql (.t 4) (.c (.int .i64 15))), dO 5 (.tk (.t 8))])))))
 (.cond (.t 5)
 (.seq (.reg [dO 2 (.tk (.c (.int .i64 0))), dO 3 (.tk (.c (.bool true)))])
 (.ret))
 (.seq (.seq (.reg [dO 10 (.ic .eql (.t 4) (.c (.int .i64 4))), dO 9 (.tk (.t 10))])
 (.cond (.t 9)
 (.skip)
 (.seq (.reg [dO 11 (.ic .eql (.t 4) (.c (.int .i64 5))), dO 9 (.tk (.t 11))])
 (.cond (.t 9)
 (.skip)
 (.reg [dO 12 (.ic .eql (.t 4) (.c (.int .i64 6))), dO 9 (.tk (.t 12))])))))
 (.cond (.t 9)
 (.seq (.reg [dO 2 (.tk (.c (.int .i64 2))), dO 3 (.tk (.c (.bool true)))])
 (.ret))
 (.seq (.reg [dO 14 (.ic .eql (.t 4) (.c (.int .i64 3))), dO 13 (.tk (.t 14))])
 (.cond (.t 13)
 (.seq (.reg [dO 2 (.tk (.c (.int .i64 3))), dO 3 (.tk (.c (.bool true)))])
 (.ret))
 (.skip)))))))))
 (.seq (.seq (.reg [dO 15 (.mv (.t 0)), dO 16 (.ic .lss (.t 15) (.c (.int .i64 1))), dO 17 (.mv (.t 16)), ⟨some 18, (some (17, false)), .mv (.t 0)⟩, ⟨some 19, (some (17, false)), .ic .gtr (.t 18) (.c (.int .i64 18))⟩, dO 20 (.pick (.t 17) (.c (.bool true)) (.t 19))])
 (.cond (.t 20)
 (.seq (.reg [dO 2 (.tk (.c (.int .i64 0))), dO 3 (.tk (.c (.bool false)))])
 (.ret))
 (.skip)))
 (.seq (.reg [dO 2 (.tk (.c (.int .i64 1))), dO 3 (.tk (.c (.bool true)))])
 (.ret))))) }

def c_tree_blocks : AFunc :=
 { np := 1, res := [.t 2, .t 3], body := (
 .seq (.reg [dO 2 (.tk (.c (.bool false))), dO 3 (.tk (.c (.bool false)))])
 (.seq (.reg [dO 4 (.mv (.t 0)), dO 5 (.ic .eql (.t 4) (.c (.int .i64 13))), dO 6 (.mv (.t 5)), ⟨some 7, (some (6, false)), .mv (.t 0)⟩, ⟨some 8, (some (6, false)), .ic .eql (.t 7) (.c (.int .i64 14))⟩, dO 9 (.pick (.t 6) (.c (.bool true)) (.t 8)), dO 10 (.mv (.t 9)), ⟨some 11, (some (10, false)), .mv (.t 0)⟩, ⟨some 12, (some (10, false)), .ic .eql (.t 11) (.c (.int .i64 16))⟩, dO 13 (.pick (.t 10) (.c (.bool true)) (.t 12)), dO 14 (.mv (.t 0)), dO 15 (.ic .eql (.t 14) (.c (.int .i64 13))), dO 2 (.tk (.t 13)), dO 3 (.tk (.t 15))])
 (.ret))) }

def c_tree_shape_1 : AFunc :=
 { np := 1, res := [.t 2], body := (
 .seq (.reg [dO 1 (.box (.t 0)), dO 2 (.tk (.c (.bool false)))])
 (.seq (.reg [dO 3 (.ld (some 4) (.t 1)), dO 4 (.callc n_tree_expr [(.t 3), (.c (.int .i64 8))]), dO 5 (.notb (.t 4)), dO 2 (.tk (.t 5))])
 (.ret))) }

def tbl : Tbl := Tab.get [(3, c_flotsamlaw18_PrintTells), (6, c_flotsamlaw16_Small), (7, c_flotsamlaw18_knows), (8, c_print_Program), (9, c_flotsamref18_Program), (10, c_print_Expr), (11, c_flotsamref18_Expr), (14, c_tree_Right), (18, c_r16_Size), (19, c_pprint_printer_add), (20, c_pprint_printer_block), (21, c_pprint_printer_expr), (23, c_r16_Right), (24, c_flotsamref18_block), (25, c_flotsamref18_expr), (26, c_r16_Expr), (30, c_tree_All), (31, c_tree_Right_1), (32, c_lex_Name), (33, c_tree_Right_2), (34, c_tree_expr), (35, c_tree_Right_3), (36, c_tree_block), (37, c_slices_ContainsFunc_api_Proc_api_Proc), (38, c_slices_ContainsFunc_api_Oracle_api_Oracle), (39, c_slices_ContainsFunc_api_Stmt_api_Stmt), (40, c_tree_parts), (42, c_r16_block), (43, c_r16_expr), (46, c_pprint_printer_stmt), (47, c_print_strong), (48, c_num_Digits), (49, c_view_Quote), (50, c_print_call), (51, c_print_sign), (52, c_r16_All), (53, c_r15_Name), (54, c_r16_Block), (55, c_flotsamref18_tabs), (56, c_flotsamref18_stmt), (57, c_r01_Digits), (58, c_r14_Quote), (59, c_flotsamref18_sub), (60, c_r16_Parts), (69, c_tree_walk), (70, c_tree_cloned), (71, c_lex_begins), (72, c_lex_letter), (74, c_lex_inner), (75, c_lex_Key), (76, c_tree_Parts), (77, c_slices_ContainsFunc_api_Expr_api_Expr), (78, c_tree_expr_1), (79, c_slices_ContainsFunc_api_Stmt_api_Stmt_x), (80, c_tree_block_1), (81, c_tree_stmt), (82, c_slices_IndexFunc_api_Proc_api_Proc), (83, c_slices_IndexFunc_api_Oracle_api_Oracle), (84, c_slices_IndexFunc_api_Stmt_api_Stmt), (95, c_print_key), (96, c_pprint_printer_exprs), (98, c_view_plain), (99, c_r16_list), (100, c_r15_letter), (101, c_r15_Key), (102, c_r15_inner), (103, c_r16_Stmt), (104, c_r14_sign), (105, c_flotsamref18_closed), (109, c_lex_digit), (115, c_tree_walk_1), (116, c_tree_each_api_Expr), (117, c_tree_clonedExpr), (118, c_tree_each_api_Stmt), (122, c_slices_IndexFunc_api_Expr_api_Expr), (123, c_slices_IndexFunc_api_Stmt_api_Stmt_x), (124, c_tree_shape), (125, c_tree_stmt_1), (134, c_r15_digit), (135, c_r16_Exprs), (150, c_tree_Exprs), (151, c_tree_blocks), (152, c_tree_shape_1), (2003000, ⟨0, .seq a_tree_All_0 y_tree_All_0, []⟩), (2011500, ⟨0, .seq a_tree_walk_1_0 y_tree_walk_1_0, []⟩)]

theorem t_flotsamlaw18_PrintTells : tbl n_flotsamlaw18_PrintTells = some c_flotsamlaw18_PrintTells := by kernel_rfl
theorem t_flotsamlaw16_Small : tbl n_flotsamlaw16_Small = some c_flotsamlaw16_Small := by kernel_rfl
theorem t_flotsamlaw18_knows : tbl n_flotsamlaw18_knows = some c_flotsamlaw18_knows := by kernel_rfl
theorem t_print_Program : tbl n_print_Program = some c_print_Program := by kernel_rfl
theorem t_flotsamref18_Program : tbl n_flotsamref18_Program = some c_flotsamref18_Program := by kernel_rfl
theorem t_print_Expr : tbl n_print_Expr = some c_print_Expr := by kernel_rfl
theorem t_flotsamref18_Expr : tbl n_flotsamref18_Expr = some c_flotsamref18_Expr := by kernel_rfl
theorem t_tree_Right : tbl n_tree_Right = some c_tree_Right := by kernel_rfl
theorem t_r16_Size : tbl n_r16_Size = some c_r16_Size := by kernel_rfl
theorem t_pprint_printer_add : tbl n_pprint_printer_add = some c_pprint_printer_add := by kernel_rfl
theorem t_pprint_printer_block : tbl n_pprint_printer_block = some c_pprint_printer_block := by kernel_rfl
theorem t_pprint_printer_expr : tbl n_pprint_printer_expr = some c_pprint_printer_expr := by kernel_rfl
theorem t_r16_Right : tbl n_r16_Right = some c_r16_Right := by kernel_rfl
theorem t_flotsamref18_block : tbl n_flotsamref18_block = some c_flotsamref18_block := by kernel_rfl
theorem t_flotsamref18_expr : tbl n_flotsamref18_expr = some c_flotsamref18_expr := by kernel_rfl
theorem t_r16_Expr : tbl n_r16_Expr = some c_r16_Expr := by kernel_rfl
theorem t_tree_All : tbl n_tree_All = some c_tree_All := by kernel_rfl
theorem t_tree_Right_1 : tbl n_tree_Right_1 = some c_tree_Right_1 := by kernel_rfl
theorem t_lex_Name : tbl n_lex_Name = some c_lex_Name := by kernel_rfl
theorem t_tree_Right_2 : tbl n_tree_Right_2 = some c_tree_Right_2 := by kernel_rfl
theorem t_tree_expr : tbl n_tree_expr = some c_tree_expr := by kernel_rfl
theorem t_tree_Right_3 : tbl n_tree_Right_3 = some c_tree_Right_3 := by kernel_rfl
theorem t_tree_block : tbl n_tree_block = some c_tree_block := by kernel_rfl
theorem t_slices_ContainsFunc_api_Proc_api_Proc : tbl n_slices_ContainsFunc_api_Proc_api_Proc = some c_slices_ContainsFunc_api_Proc_api_Proc := by kernel_rfl
theorem t_slices_ContainsFunc_api_Oracle_api_Oracle : tbl n_slices_ContainsFunc_api_Oracle_api_Oracle = some c_slices_ContainsFunc_api_Oracle_api_Oracle := by kernel_rfl
theorem t_slices_ContainsFunc_api_Stmt_api_Stmt : tbl n_slices_ContainsFunc_api_Stmt_api_Stmt = some c_slices_ContainsFunc_api_Stmt_api_Stmt := by kernel_rfl
theorem t_tree_parts : tbl n_tree_parts = some c_tree_parts := by kernel_rfl
theorem t_r16_block : tbl n_r16_block = some c_r16_block := by kernel_rfl
theorem t_r16_expr : tbl n_r16_expr = some c_r16_expr := by kernel_rfl
theorem t_pprint_printer_stmt : tbl n_pprint_printer_stmt = some c_pprint_printer_stmt := by kernel_rfl
theorem t_print_strong : tbl n_print_strong = some c_print_strong := by kernel_rfl
theorem t_num_Digits : tbl n_num_Digits = some c_num_Digits := by kernel_rfl
theorem t_view_Quote : tbl n_view_Quote = some c_view_Quote := by kernel_rfl
theorem t_print_call : tbl n_print_call = some c_print_call := by kernel_rfl
theorem t_print_sign : tbl n_print_sign = some c_print_sign := by kernel_rfl
theorem t_r16_All : tbl n_r16_All = some c_r16_All := by kernel_rfl
theorem t_r15_Name : tbl n_r15_Name = some c_r15_Name := by kernel_rfl
theorem t_r16_Block : tbl n_r16_Block = some c_r16_Block := by kernel_rfl
theorem t_flotsamref18_tabs : tbl n_flotsamref18_tabs = some c_flotsamref18_tabs := by kernel_rfl
theorem t_flotsamref18_stmt : tbl n_flotsamref18_stmt = some c_flotsamref18_stmt := by kernel_rfl
theorem t_r01_Digits : tbl n_r01_Digits = some c_r01_Digits := by kernel_rfl
theorem t_r14_Quote : tbl n_r14_Quote = some c_r14_Quote := by kernel_rfl
theorem t_flotsamref18_sub : tbl n_flotsamref18_sub = some c_flotsamref18_sub := by kernel_rfl
theorem t_r16_Parts : tbl n_r16_Parts = some c_r16_Parts := by kernel_rfl
theorem t_tree_walk : tbl n_tree_walk = some c_tree_walk := by kernel_rfl
theorem t_tree_cloned : tbl n_tree_cloned = some c_tree_cloned := by kernel_rfl
theorem t_lex_begins : tbl n_lex_begins = some c_lex_begins := by kernel_rfl
theorem t_lex_letter : tbl n_lex_letter = some c_lex_letter := by kernel_rfl
theorem t_lex_inner : tbl n_lex_inner = some c_lex_inner := by kernel_rfl
theorem t_lex_Key : tbl n_lex_Key = some c_lex_Key := by kernel_rfl
theorem t_tree_Parts : tbl n_tree_Parts = some c_tree_Parts := by kernel_rfl
theorem t_slices_ContainsFunc_api_Expr_api_Expr : tbl n_slices_ContainsFunc_api_Expr_api_Expr = some c_slices_ContainsFunc_api_Expr_api_Expr := by kernel_rfl
theorem t_tree_expr_1 : tbl n_tree_expr_1 = some c_tree_expr_1 := by kernel_rfl
theorem t_slices_ContainsFunc_api_Stmt_api_Stmt_x : tbl n_slices_ContainsFunc_api_Stmt_api_Stmt_x = some c_slices_ContainsFunc_api_Stmt_api_Stmt_x := by kernel_rfl
theorem t_tree_block_1 : tbl n_tree_block_1 = some c_tree_block_1 := by kernel_rfl
theorem t_tree_stmt : tbl n_tree_stmt = some c_tree_stmt := by kernel_rfl
theorem t_slices_IndexFunc_api_Proc_api_Proc : tbl n_slices_IndexFunc_api_Proc_api_Proc = some c_slices_IndexFunc_api_Proc_api_Proc := by kernel_rfl
theorem t_slices_IndexFunc_api_Oracle_api_Oracle : tbl n_slices_IndexFunc_api_Oracle_api_Oracle = some c_slices_IndexFunc_api_Oracle_api_Oracle := by kernel_rfl
theorem t_slices_IndexFunc_api_Stmt_api_Stmt : tbl n_slices_IndexFunc_api_Stmt_api_Stmt = some c_slices_IndexFunc_api_Stmt_api_Stmt := by kernel_rfl
theorem t_print_key : tbl n_print_key = some c_print_key := by kernel_rfl
theorem t_pprint_printer_exprs : tbl n_pprint_printer_exprs = some c_pprint_printer_exprs := by kernel_rfl
theorem t_view_plain : tbl n_view_plain = some c_view_plain := by kernel_rfl
theorem t_r16_list : tbl n_r16_list = some c_r16_list := by kernel_rfl
theorem t_r15_letter : tbl n_r15_letter = some c_r15_letter := by kernel_rfl
theorem t_r15_Key : tbl n_r15_Key = some c_r15_Key := by kernel_rfl
theorem t_r15_inner : tbl n_r15_inner = some c_r15_inner := by kernel_rfl
theorem t_r16_Stmt : tbl n_r16_Stmt = some c_r16_Stmt := by kernel_rfl
theorem t_r14_sign : tbl n_r14_sign = some c_r14_sign := by kernel_rfl
theorem t_flotsamref18_closed : tbl n_flotsamref18_closed = some c_flotsamref18_closed := by kernel_rfl
theorem t_lex_digit : tbl n_lex_digit = some c_lex_digit := by kernel_rfl
theorem t_tree_walk_1 : tbl n_tree_walk_1 = some c_tree_walk_1 := by kernel_rfl
theorem t_tree_each_api_Expr : tbl n_tree_each_api_Expr = some c_tree_each_api_Expr := by kernel_rfl
theorem t_tree_clonedExpr : tbl n_tree_clonedExpr = some c_tree_clonedExpr := by kernel_rfl
theorem t_tree_each_api_Stmt : tbl n_tree_each_api_Stmt = some c_tree_each_api_Stmt := by kernel_rfl
theorem t_slices_IndexFunc_api_Expr_api_Expr : tbl n_slices_IndexFunc_api_Expr_api_Expr = some c_slices_IndexFunc_api_Expr_api_Expr := by kernel_rfl
theorem t_slices_IndexFunc_api_Stmt_api_Stmt_x : tbl n_slices_IndexFunc_api_Stmt_api_Stmt_x = some c_slices_IndexFunc_api_Stmt_api_Stmt_x := by kernel_rfl
theorem t_tree_shape : tbl n_tree_shape = some c_tree_shape := by kernel_rfl
theorem t_tree_stmt_1 : tbl n_tree_stmt_1 = some c_tree_stmt_1 := by kernel_rfl
theorem t_r15_digit : tbl n_r15_digit = some c_r15_digit := by kernel_rfl
theorem t_r16_Exprs : tbl n_r16_Exprs = some c_r16_Exprs := by kernel_rfl
theorem t_tree_Exprs : tbl n_tree_Exprs = some c_tree_Exprs := by kernel_rfl
theorem t_tree_blocks : tbl n_tree_blocks = some c_tree_blocks := by kernel_rfl
theorem t_tree_shape_1 : tbl n_tree_shape_1 = some c_tree_shape_1 := by kernel_rfl
theorem u_tree_All_0 : tbl q_tree_All_0 = some ⟨0, .seq a_tree_All_0 y_tree_All_0, []⟩ := by kernel_rfl
theorem u_tree_walk_1_0 : tbl q_tree_walk_1_0 = some ⟨0, .seq a_tree_walk_1_0 y_tree_walk_1_0, []⟩ := by kernel_rfl

/-- The functions that are taken as given. -/
def noExt : Ext := fun k => if k = n_strings_Contains then some (xContains) else if k = n_strings_Fields then some (xFields) else if k = n_strings_Repeat then some (xRepeat) else if k = n_pstrings_Builder_WriteByte then some (xWriteByte bT bP bE) else if k = n_pstrings_Builder_WriteString then some (xWriteString bT bP bE) else if k = n_pstrings_Builder_String then some (xString bT bP bE) else if k = n_lex_run then some (xRun n_lex_letter n_lex_digit n_lex_inner) else none

@[simp] theorem lt_flotsamlaw18_PrintTells : n_flotsamlaw18_PrintTells < yBase := Nat.le_of_ble_eq_true rfl
@[simp] theorem lt_flotsamlaw16_Small : n_flotsamlaw16_Small < yBase := Nat.le_of_ble_eq_true rfl
@[simp] theorem lt_flotsamlaw18_knows : n_flotsamlaw18_knows < yBase := Nat.le_of_ble_eq_true rfl
@[simp] theorem lt_print_Program : n_print_Program < yBase := Nat.le_of_ble_eq_true rfl
@[simp] theorem lt_flotsamref18_Program : n_flotsamref18_Program < yBase := Nat.le_of_ble_eq_true rfl
@[simp] theorem lt_print_Expr : n_print_Expr < yBase := Nat.le_of_ble_eq_true rfl
@[simp] theorem lt_flotsamref18_Expr : n_flotsamref18_Expr < yBase := Nat.le_of_ble_eq_true rfl
@[simp] theorem lt_tree_Right : n_tree_Right < yBase := Nat.le_of_ble_eq_true rfl
@[simp] theorem lt_r16_Size : n_r16_Size < yBase := Nat.le_of_ble_eq_true rfl
@[simp] theorem lt_pprint_printer_add : n_pprint_printer_add < yBase := Nat.le_of_ble_eq_true rfl
@[simp] theorem lt_pprint_printer_block : n_pprint_printer_block < yBase := Nat.le_of_ble_eq_true rfl
@[simp] theorem lt_pprint_printer_expr : n_pprint_printer_expr < yBase := Nat.le_of_ble_eq_true rfl
@[simp] theorem lt_pstrings_Builder_String : n_pstrings_Builder_String < yBase := Nat.le_of_ble_eq_true rfl
@[simp] theorem lt_r16_Right : n_r16_Right < yBase := Nat.le_of_ble_eq_true rfl
@[simp] theorem lt_flotsamref18_block : n_flotsamref18_block < yBase := Nat.le_of_ble_eq_true rfl
@[simp] theorem lt_flotsamref18_expr : n_flotsamref18_expr < yBase := Nat.le_of_ble_eq_true rfl
@[simp] theorem lt_r16_Expr : n_r16_Expr < yBase := Nat.le_of_ble_eq_true rfl
@[simp] theorem lt_tree_All : n_tree_All < yBase := Nat.le_of_ble_eq_true rfl
@[simp] theorem lt_tree_Right_1 : n_tree_Right_1 < yBase := Nat.le_of_ble_eq_true rfl
@[simp] theorem lt_lex_Name : n_lex_Name < yBase := Nat.le_of_ble_eq_true rfl
@[simp] theorem lt_tree_Right_2 : n_tree_Right_2 < yBase := Nat.le_of_ble_eq_true rfl
@[simp] theorem lt_tree_expr : n_tree_expr < yBase := Nat.le_of_ble_eq_true rfl
@[simp] theorem lt_tree_Right_3 : n_tree_Right_3 < yBase := Nat.le_of_ble_eq_true rfl
@[simp] theorem lt_tree_block : n_tree_block < yBase := Nat.le_of_ble_eq_true rfl
@[simp] theorem lt_slices_ContainsFunc_api_Proc_api_Proc : n_slices_ContainsFunc_api_Proc_api_Proc < yBase := Nat.le_of_ble_eq_true rfl
@[simp] theorem lt_slices_ContainsFunc_api_Oracle_api_Oracle : n_slices_ContainsFunc_api_Oracle_api_Oracle < yBase := Nat.le_of_ble_eq_true rfl
@[simp] theorem lt_slices_ContainsFunc_api_Stmt_api_Stmt : n_slices_ContainsFunc_api_Stmt_api_Stmt < yBase := Nat.le_of_ble_eq_true rfl
@[simp] theorem lt_tree_parts : n_tree_parts < yBase := Nat.le_of_ble_eq_true rfl
@[simp] theorem lt_r16_block : n_r16_block < yBase := Nat.le_of_ble_eq_true rfl
@[simp] theorem lt_r16_expr : n_r16_expr < yBase := Nat.le_of_ble_eq_true rfl
@[simp] theorem lt_pstrings_Builder_WriteString : n_pstrings_Builder_WriteString < yBase := Nat.le_of_ble_eq_true rfl
@[simp] theorem lt_strings_Repeat : n_strings_Repeat < yBase := Nat.le_of_ble_eq_true rfl
@[simp] theorem lt_pprint_printer_stmt : n_pprint_printer_stmt < yBase := Nat.le_of_ble_eq_true rfl
@[simp] theorem lt_print_strong : n_print_strong < yBase := Nat.le_of_ble_eq_true rfl
@[simp] theorem lt_num_Digits : n_num_Digits < yBase := Nat.le_of_ble_eq_true rfl
@[simp] theorem lt_view_Quote : n_view_Quote < yBase := Nat.le_of_ble_eq_true rfl
@[simp] theorem lt_print_call : n_print_call < yBase := Nat.le_of_ble_eq_true rfl
@[simp] theorem lt_print_sign : n_print_sign < yBase := Nat.le_of_ble_eq_true rfl
@[simp] theorem lt_r16_All : n_r16_All < yBase := Nat.le_of_ble_eq_true rfl
@[simp] theorem lt_r15_Name : n_r15_Name < yBase := Nat.le_of_ble_eq_true rfl
@[simp] theorem lt_r16_Block : n_r16_Block < yBase := Nat.le_of_ble_eq_true rfl
@[simp] theorem lt_flotsamref18_tabs : n_flotsamref18_tabs < yBase := Nat.le_of_ble_eq_true rfl
@[simp] theorem lt_flotsamref18_stmt : n_flotsamref18_stmt < yBase := Nat.le_of_ble_eq_true rfl
@[simp] theorem lt_r01_Digits : n_r01_Digits < yBase := Nat.le_of_ble_eq_true rfl
@[simp] theorem lt_r14_Quote : n_r14_Quote < yBase := Nat.le_of_ble_eq_true rfl
@[simp] theorem lt_flotsamref18_sub : n_flotsamref18_sub < yBase := Nat.le_of_ble_eq_true rfl
@[simp] theorem lt_r16_Parts : n_r16_Parts < yBase := Nat.le_of_ble_eq_true rfl
@[simp] theorem lt_tree_walk : n_tree_walk < yBase := Nat.le_of_ble_eq_true rfl
@[simp] theorem lt_tree_cloned : n_tree_cloned < yBase := Nat.le_of_ble_eq_true rfl
@[simp] theorem lt_lex_begins : n_lex_begins < yBase := Nat.le_of_ble_eq_true rfl
@[simp] theorem lt_lex_letter : n_lex_letter < yBase := Nat.le_of_ble_eq_true rfl
@[simp] theorem lt_lex_run : n_lex_run < yBase := Nat.le_of_ble_eq_true rfl
@[simp] theorem lt_lex_inner : n_lex_inner < yBase := Nat.le_of_ble_eq_true rfl
@[simp] theorem lt_lex_Key : n_lex_Key < yBase := Nat.le_of_ble_eq_true rfl
@[simp] theorem lt_tree_Parts : n_tree_Parts < yBase := Nat.le_of_ble_eq_true rfl
@[simp] theorem lt_slices_ContainsFunc_api_Expr_api_Expr : n_slices_ContainsFunc_api_Expr_api_Expr < yBase := Nat.le_of_ble_eq_true rfl
@[simp] theorem lt_tree_expr_1 : n_tree_expr_1 < yBase := Nat.le_of_ble_eq_true rfl
@[simp] theorem lt_slices_ContainsFunc_api_Stmt_api_Stmt_x : n_slices_ContainsFunc_api_Stmt_api_Stmt_x < yBase := Nat.le_of_ble_eq_true rfl
@[simp] theorem lt_tree_block_1 : n_tree_block_1 < yBase := Nat.le_of_ble_eq_true rfl
@[simp] theorem lt_tree_stmt : n_tree_stmt < yBase := Nat.le_of_ble_eq_true rfl
@[simp] theorem lt_slices_IndexFunc_api_Proc_api_Proc : n_slices_IndexFunc_api_Proc_api_Proc < yBase := Nat.le_of_ble_eq_true rfl
@[simp] theorem lt_slices_IndexFunc_api_Oracle_api_Oracle : n_slices_IndexFunc_api_Oracle_api_Oracle < yBase := Nat.le_of_ble_eq_true rfl
@[simp] theorem lt_slices_IndexFunc_api_Stmt_api_Stmt : n_slices_IndexFunc_api_Stmt_api_Stmt < yBase := Nat.le_of_ble_eq_true rfl
@[simp] theorem lt_print_key : n_print_key < yBase := Nat.le_of_ble_eq_true rfl
@[simp] theorem lt_pprint_printer_exprs : n_pprint_printer_exprs < yBase := Nat.le_of_ble_eq_true rfl
@[simp] theorem lt_pstrings_Builder_WriteByte : n_pstrings_Builder_WriteByte < yBase := Nat.le_of_ble_eq_true rfl
@[simp] theorem lt_view_plain : n_view_plain < yBase := Nat.le_of_ble_eq_true rfl
@[simp] theorem lt_r16_list : n_r16_list < yBase := Nat.le_of_ble_eq_true rfl
@[simp] theorem lt_r15_letter : n_r15_letter < yBase := Nat.le_of_ble_eq_true rfl
@[simp] theorem lt_r15_Key : n_r15_Key < yBase := Nat.le_of_ble_eq_true rfl
@[simp] theorem lt_r15_inner : n_r15_inner < yBase := Nat.le_of_ble_eq_true rfl
@[simp] theorem lt_r16_Stmt : n_r16_Stmt < yBase := Nat.le_of_ble_eq_true rfl
@[simp] theorem lt_r14_sign : n_r14_sign < yBase := Nat.le_of_ble_eq_true rfl
@[simp] theorem lt_flotsamref18_closed : n_flotsamref18_closed < yBase := Nat.le_of_ble_eq_true rfl
@[simp] theorem lt_lex_digit : n_lex_digit < yBase := Nat.le_of_ble_eq_true rfl
@[simp] theorem lt_tree_walk_1 : n_tree_walk_1 < yBase := Nat.le_of_ble_eq_true rfl
@[simp] theorem lt_tree_each_api_Expr : n_tree_each_api_Expr < yBase := Nat.le_of_ble_eq_true rfl
@[simp] theorem lt_tree_clonedExpr : n_tree_clonedExpr < yBase := Nat.le_of_ble_eq_true rfl
@[simp] theorem lt_tree_each_api_Stmt : n_tree_each_api_Stmt < yBase := Nat.le_of_ble_eq_true rfl
@[simp] theorem lt_strings_Contains : n_strings_Contains < yBase := Nat.le_of_ble_eq_true rfl
@[simp] theorem lt_slices_IndexFunc_api_Expr_api_Expr : n_slices_IndexFunc_api_Expr_api_Expr < yBase := Nat.le_of_ble_eq_true rfl
@[simp] theorem lt_slices_IndexFunc_api_Stmt_api_Stmt_x : n_slices_IndexFunc_api_Stmt_api_Stmt_x < yBase := Nat.le_of_ble_eq_true rfl
@[simp] theorem lt_tree_shape : n_tree_shape < yBase := Nat.le_of_ble_eq_true rfl
@[simp] theorem lt_tree_stmt_1 : n_tree_stmt_1 < yBase := Nat.le_of_ble_eq_true rfl
@[simp] theorem lt_strings_Fields : n_strings_Fields < yBase := Nat.le_of_ble_eq_true rfl
@[simp] theorem lt_r15_digit : n_r15_digit < yBase := Nat.le_of_ble_eq_true rfl
@[simp] theorem lt_r16_Exprs : n_r16_Exprs < yBase := Nat.le_of_ble_eq_true rfl
@[simp] theorem lt_tree_Exprs : n_tree_Exprs < yBase := Nat.le_of_ble_eq_true rfl
@[simp] theorem lt_tree_blocks : n_tree_blocks < yBase := Nat.le_of_ble_eq_true rfl
@[simp] theorem lt_tree_shape_1 : n_tree_shape_1 < yBase := Nat.le_of_ble_eq_true rfl

end Go.AM
