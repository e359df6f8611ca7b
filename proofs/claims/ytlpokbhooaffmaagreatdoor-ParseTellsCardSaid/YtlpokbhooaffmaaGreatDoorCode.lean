/-
 The abstract code of the functions, printed by a program (gen.py) out of the loaded program, and each function's place in the table.
-/
import Derived.Test.YtlpokbhooaffmaaGreatDoorXlib
namespace Go.AM
abbrev dO (d : Nat) (p : AOp) : AOper := ⟨some d, none, p⟩
@[simp] theorem dO_eq (d : Nat) (p : AOp) : dO d p = ⟨some d, none, p⟩ := rfl

abbrev bT : Nat := 154
abbrev bE : Nat := 5
def n_l17_ParseTells : Nat := 3
def n_l17_knows : Nat := 5
def n_parse_Program : Nat := 6
def n_r17_Program : Nat := 7
def n_parse_Expr : Nat := 8
def n_r17_Expr : Nat := 9
def n_r16_Same : Nat := 10
def n_l15_Fault : Nat := 11
def n_r16_SameExpr : Nat := 12
def n_lex_Words : Nat := 14
def n_pp_program : Nat := 15
def n_r15_Words : Nat := 16
def n_rt_is : Nat := 17
def n_rt_fail : Nat := 18
def n_rt_now : Nat := 19
def n_rt_kind : Nat := 20
def n_rt_block : Nat := 21
def n_rt_need : Nat := 22
def n_rt_take : Nat := 23
def n_rt_whole : Nat := 24
def n_rt_bad : Nat := 25
def n_pp_whole : Nat := 26
def n_r16_SameStmts : Nat := 27
def n_lex_Name : Nat := 30
def n_lex_skip : Nat := 39
def n_lex_next : Nat := 40
def n_pp_named : Nat := 41
def n_pp_block : Nat := 42
def n_pw_wants : Nat := 43
def n_pw_takes : Nat := 44
def n_pw_of : Nat := 45
def n_r15_skip : Nat := 46
def n_r15_one : Nat := 47
def n_rt_stmt : Nat := 48
def n_rt_expr : Nat := 49
def n_r17_Deep : Nat := 50
def n_pw_head : Nat := 51
def n_pp_expr : Nat := 52
def n_pw_sees : Nat := 53
def n_pw_fail : Nat := 54
def n_parse_deep : Nat := 55
def n_r16_SameStmt : Nat := 56
def n_lex_begins : Nat := 59
def n_lex_letter : Nat := 60
def n_lex_run : Nat := 61
def n_lex_inner : Nat := 62
def n_lex_Key : Nat := 63
def n_strings_TrimLeft : Nat := 73
def n_strings_HasPrefix : Nat := 74
def n_strings_IndexByte : Nat := 75
def n_lex_word : Nat := 76
def n_lex_digit : Nat := 77
def n_lex_number : Nat := 78
def n_lex_text : Nat := 79
def n_lex_sign : Nat := 80
def n_pp_stmt : Nat := 81
def n_pw_skip : Nat := 82
def n_r15_letter : Nat := 83
def n_r15_inner : Nat := 84
def n_r15_Key : Nat := 85
def n_r15_Name : Nat := 86
def n_r15_digit : Nat := 87
def n_r01_Read : Nat := 88
def n_r14_Unquote : Nat := 89
def n_r15_Sign : Nat := 90
def n_r17_simple : Nat := 91
def n_rt_begin : Nat := 92
def n_r16_Exprs : Nat := 93
def n_rt_exprs : Nat := 94
def n_rt_txn : Nat := 95
def n_rt_both : Nat := 96
def n_r17_two : Nat := 97
def n_pp_chain : Nat := 98
def n_pp_both : Nat := 99
def n_strings_Contains : Nat := 106
def n_isl_HasPrefix : Nat := 115
def n_num_Read : Nat := 117
def n_view_Unquote : Nat := 118
def n_parse_simple : Nat := 119
def n_pp_exprs : Nat := 120
def n_pp_choice : Nat := 121
def n_pp_loop : Nat := 122
def n_pp_txn : Nat := 123
def n_r14_value : Nat := 124
def n_r14_sign : Nat := 125
def n_rt_not : Nat := 126
def n_parse_kind : Nat := 127
def n_pp_not : Nat := 128
def n_tree_Exprs : Nat := 131
def n_strings_CutPrefix : Nat := 138
def n_strings_CutSuffix : Nat := 139
def n_view_pair : Nat := 140
def n_view_plain : Nat := 141
def n_pstrings_Builder_WriteByte : Nat := 142
def n_pstrings_Builder_String : Nat := 143
def n_rt_compare : Nat := 144
def n_pp_compare : Nat := 145
def n_isl_CutPrefix : Nat := 149
def n_isl_CutSuffix : Nat := 150
def n_rt_sum : Nat := 152
def n_pp_sum : Nat := 153
def n_isl_HasSuffix : Nat := 158
def n_rt_part : Nat := 160
def n_pp_part : Nat := 161
def n_pp_inner : Nat := 163


def c_l17_ParseTells : AFunc :=
 { np := 1, res := [.t 2], body := (
 .seq (.reg [dO 2 (.tk (.c (.bool false)))])
 (.seq (.seq (.reg [dO 11 (.mv (.t 0)), dO 12 (.len true (.t 11)), dO 13 (.ic .gtr (.t 12) (.c (.int .i64 5000))), dO 14 (.mv (.t 13)), ⟨some 15, (some (14, false)), .callc n_l17_knows []⟩, ⟨some 16, (some (14, false)), .notb (.t 15)⟩, dO 17 (.pick (.t 14) (.c (.bool true)) (.t 16))])
 (.cond (.t 17)
 (.seq (.reg [dO 18 (.callc n_l17_knows []), dO 2 (.tk (.t 18))])
 (.ret))
 (.skip)))
 (.seq (.reg [dO 20 (.mv (.t 0)), dO 21 (.callc n_parse_Program [(.t 20)]), dO 19 (.mv (.t 21)), dO 22 (.ext (.t 19) 0), dO 23 (.ext (.t 19) 1), dO 3 (.alloc [.own 2 [], .own 7 [], .own 7 [], .own 5 []]), dO 4 (.alloc [.int .i64 0, .int .i64 0]), ⟨none, none, .st 4 (.t 3) (.t 22)⟩, ⟨none, none, .st 2 (.t 4) (.t 23)⟩])
 (.seq (.reg [dO 25 (.mv (.t 0)), dO 26 (.callc n_r17_Program [(.t 25)]), dO 24 (.mv (.t 26)), dO 27 (.ext (.t 24) 0), dO 28 (.ext (.t 24) 1), dO 5 (.alloc [.own 2 [], .own 7 [], .own 7 [], .own 5 []]), dO 6 (.alloc [.int .i64 0, .int .i64 0]), ⟨none, none, .st 4 (.t 5) (.t 27)⟩, ⟨none, none, .st 2 (.t 6) (.t 28)⟩])
 (.seq (.reg [dO 30 (.mv (.t 0)), dO 31 (.callc n_parse_Expr [(.t 30)]), dO 29 (.mv (.t 31)), dO 32 (.ext (.t 29) 0), dO 33 (.ext (.t 29) 1), dO 7 (.alloc [.int .i64 0, .int .i64 0, .str [], .own 4 []]), dO 8 (.alloc [.int .i64 0, .int .i64 0]), ⟨none, none, .st 4 (.t 7) (.t 32)⟩, ⟨none, none, .st 2 (.t 8) (.t 33)⟩])
 (.seq (.reg [dO 35 (.mv (.t 0)), dO 36 (.callc n_r17_Expr [(.t 35)]), dO 34 (.mv (.t 36)), dO 37 (.ext (.t 34) 0), dO 38 (.ext (.t 34) 1), dO 9 (.alloc [.int .i64 0, .int .i64 0, .str [], .own 4 []]), dO 10 (.alloc [.int .i64 0, .int .i64 0]), ⟨none, none, .st 4 (.t 9) (.t 37)⟩, ⟨none, none, .st 2 (.t 10) (.t 38)⟩])
 (.seq (.reg [dO 39 (.ld (some 4) (.t 3)), dO 40 (.ld (some 4) (.t 5)), dO 41 (.callc n_r16_Same [(.t 39), (.t 40)]), dO 42 (.mv (.t 41)), ⟨some 43, (some (42, true)), .ld (some 2) (.t 4)⟩, ⟨some 44, (some (42, true)), .ld (some 2) (.t 6)⟩, ⟨some 45, (some (42, true)), .callc n_l15_Fault [(.t 43), (.t 44)]⟩, dO 46 (.pick (.t 42) (.t 45) (.c (.bool false))), dO 47 (.mv (.t 46)), ⟨some 48, (some (47, true)), .ld (some 4) (.t 7)⟩, ⟨some 49, (some (47, true)), .ld (some 4) (.t 9)⟩, ⟨some 50, (some (47, true)), .callc n_r16_SameExpr [(.t 48), (.t 49)]⟩, dO 51 (.pick (.t 47) (.t 50) (.c (.bool false))), dO 52 (.mv (.t 51)), ⟨some 53, (some (52, true)), .ld (some 2) (.t 8)⟩, ⟨some 54, (some (52, true)), .ld (some 2) (.t 10)⟩, ⟨some 55, (some (52, true)), .callc n_l15_Fault [(.t 53), (.t 54)]⟩, dO 56 (.pick (.t 52) (.t 55) (.c (.bool false))), dO 2 (.tk (.t 56))])
 (.ret)))))))) }

def c_l17_knows : AFunc :=
 { np := 0, res := [.t 0], body := (
 .seq (.reg [dO 0 (.tk (.c (.bool false)))])
 (.seq (.reg [dO 8 (.callc n_parse_Program [(.c (.str [109, 97, 105, 110, 123, 98, 97, 114, 114, 105, 101, 114, 59, 125]))]), dO 7 (.mv (.t 8)), dO 9 (.ext (.t 7) 0), dO 10 (.ext (.t 7) 1), dO 1 (.alloc [.own 2 [], .own 7 [], .own 7 [], .own 5 []]), dO 2 (.alloc [.int .i64 0, .int .i64 0]), ⟨none, none, .st 4 (.t 1) (.t 9)⟩, ⟨none, none, .st 2 (.t 2) (.t 10)⟩])
 (.seq (.reg [dO 12 (.callc n_parse_Program [(.c (.str [109, 97, 105, 110, 123, 102, 115, 121, 110, 99, 59, 125]))]), dO 11 (.mv (.t 12)), dO 13 (.ext (.t 11) 0), dO 14 (.ext (.t 11) 1), dO 3 (.alloc [.own 2 [], .own 7 [], .own 7 [], .own 5 []]), dO 4 (.alloc [.int .i64 0, .int .i64 0]), ⟨none, none, .st 4 (.t 3) (.t 13)⟩, ⟨none, none, .st 2 (.t 4) (.t 14)⟩])
 (.seq (.reg [dO 16 (.callc n_parse_Expr [(.c (.str [49, 45, 50, 60, 51]))]), dO 15 (.mv (.t 16)), dO 17 (.ext (.t 15) 0), dO 18 (.ext (.t 15) 1), dO 5 (.alloc [.int .i64 0, .int .i64 0, .str [], .own 4 []]), dO 6 (.alloc [.int .i64 0, .int .i64 0]), ⟨none, none, .st 4 (.t 5) (.t 17)⟩, ⟨none, none, .st 2 (.t 6) (.t 18)⟩])
 (.seq (.reg [dO 19 (.ld (some 2) (.t 2)), dO 20 (.bld [.int .i64 0, .int .i64 0] []), dO 21 (.callc n_l15_Fault [(.t 19), (.t 20)]), dO 22 (.mv (.t 21)), ⟨some 23, (some (22, true)), .fa 1 (.t 1)⟩, ⟨some 24, (some (22, true)), .ld none (.t 23)⟩, ⟨some 25, (some (22, true)), .len false (.t 24)⟩, ⟨some 26, (some (22, true)), .ic .eql (.t 25) (.c (.int .i64 1))⟩, dO 27 (.pick (.t 22) (.t 26) (.c (.bool false))), dO 28 (.mv (.t 27)), ⟨some 29, (some (28, true)), .fa 1 (.t 1)⟩, ⟨some 30, (some (28, true)), .ld none (.t 29)⟩, ⟨some 31, (some (28, true)), .ixa 7 none (.t 30) (.c (.int .i64 0))⟩, ⟨some 32, (some (28, true)), .fa 0 (.t 31)⟩, ⟨some 33, (some (28, true)), .ld none (.t 32)⟩, ⟨some 34, (some (28, true)), .ic .eql (.t 33) (.c (.int .i64 11))⟩, dO 35 (.pick (.t 28) (.t 34) (.c (.bool false))), dO 36 (.mv (.t 35)), ⟨some 37, (some (36, true)), .ld (some 2) (.t 4)⟩, ⟨some 38, (some (36, true)), .bld [.int .i64 0, .int .i64 0] [(0, 1, (.c (.int .i64 12))), (1, 1, (.c (.int .i64 10)))]⟩, ⟨some 39, (some (36, true)), .callc n_l15_Fault [(.t 37), (.t 38)]⟩, dO 40 (.pick (.t 36) (.t 39) (.c (.bool false))), dO 41 (.mv (.t 40)), ⟨some 42, (some (41, true)), .fa 1 (.t 3)⟩, ⟨some 43, (some (41, true)), .ld none (.t 42)⟩, ⟨some 44, (some (41, true)), .len false (.t 43)⟩, ⟨some 45, (some (41, true)), .ic .eql (.t 44) (.c (.int .i64 0))⟩, dO 46 (.pick (.t 41) (.t 45) (.c (.bool false))), dO 47 (.mv (.t 46)), ⟨some 48, (some (47, true)), .ld (some 2) (.t 6)⟩, ⟨some 49, (some (47, true)), .bld [.int .i64 0, .int .i64 0] []⟩, ⟨some 50, (some (47, true)), .callc n_l15_Fault [(.t 48), (.t 49)]⟩, dO 51 (.pick (.t 47) (.t 50) (.c (.bool false))), dO 52 (.mv (.t 51)), ⟨some 53, (some (52, true)), .fa 0 (.t 5)⟩, ⟨some 54, (some (52, true)), .ld none (.t 53)⟩, ⟨some 55, (some (52, true)), .ic .eql (.t 54) (.c (.int .i64 12))⟩, dO 56 (.pick (.t 52) (.t 55) (.c (.bool false))), dO 57 (.mv (.t 56)), ⟨some 58, (some (57, true)), .fa 3 (.t 5)⟩, ⟨some 59, (some (57, true)), .ld none (.t 58)⟩, ⟨some 60, (some (57, true)), .len false (.t 59)⟩, ⟨some 61, (some (57, true)), .ic .eql (.t 60) (.c (.int .i64 2))⟩, dO 62 (.pick (.t 57) (.t 61) (.c (.bool false))), dO 63 (.mv (.t 62)), ⟨some 64, (some (63, true)), .fa 3 (.t 5)⟩, ⟨some 65, (some (63, true)), .ld none (.t 64)⟩, ⟨some 66, (some (63, true)), .ixa 4 none (.t 65) (.c (.int .i64 0))⟩, ⟨some 67, (some (63, true)), .fa 0 (.t 66)⟩, ⟨some 68, (some (63, true)), .ld none (.t 67)⟩, ⟨some 69, (some (63, true)), .ic .eql (.t 68) (.c (.int .i64 10))⟩, dO 70 (.pick (.t 63) (.t 69) (.c (.bool false))), dO 0 (.tk (.t 70))])
 (.ret)))))) }

def c_parse_Program : AFunc :=
 { np := 1, res := [.cell 2 (some 4), .cell 3 (some 2)], body := (
 .seq (.reg [dO 2 (.alloc [.own 2 [], .own 7 [], .own 7 [], .own 5 []]), dO 3 (.alloc [.int .i64 0, .int .i64 0])])
 (.seq (.reg [dO 9 (.mv (.t 0)), dO 10 (.callc n_lex_Words [(.t 9)]), dO 8 (.mv (.t 10)), dO 11 (.ext (.t 8) 0), dO 12 (.ext (.t 8) 1), dO 5 (.alloc [.int .i64 0, .int .i64 0]), dO 4 (.tk (.t 11)), ⟨none, none, .st 2 (.t 5) (.t 12)⟩])
 (.seq (.seq (.reg [dO 13 (.ld (some 2) (.t 5)), dO 14 (.bld [.int .i64 0, .int .i64 0] []), dO 15 (.eqa true [.int .i64, .int .i64] (.t 13) (.t 14))])
 (.cond (.t 15)
 (.seq (.drw [[], [], [], []] [dO 16 (.bld [.sl 2 [], .sl 7 [], .sl 7 [], .sl 5 []] []), dO 17 (.ldq (some 2) (.t 5) (.t 5)), ⟨none, none, .stq 4 (.t 2) (.t 16) [(.t 5)]⟩, ⟨none, none, .st 2 (.t 3) (.t 17)⟩])
 (.ret))
 (.skip)))
 (.seq (.reg [dO 18 (.mv (.t 4)), dO 19 (.bld [.sl 4 [], .int .i64 0, .int .i64 0] [(0, 1, (.t 18))]), dO 20 (.bld [.sl 4 [], .int .i64 0, .int .i64 0, .int .i64 0] [(0, 3, (.t 19))]), dO 21 (.box (.t 20)), dO 6 (.tk (.t 21))])
 (.seq (.reg [dO 22 (.mv (.t 6)), dO 23 (.call n_pp_program [(.t 22)]), dO 7 (.alloc [.own 2 [], .own 7 [], .own 7 [], .own 5 []]), ⟨none, none, .st 4 (.t 7) (.t 23)⟩])
 (.seq (.seq (.reg [dO 24 (.mv (.t 6)), dO 25 (.nck (.t 24)), dO 26 (.fa 0 (.t 25)), dO 27 (.fa 1 (.t 26)), dO 28 (.ld (some 2) (.t 27)), dO 29 (.bld [.int .i64 0, .int .i64 0] []), dO 30 (.eqa true [.int .i64, .int .i64] (.t 28) (.t 29))])
 (.cond (.t 30)
 (.seq (.drw [[], [], [], [], [], [], [], []] [dO 31 (.bld [.sl 2 [], .sl 7 [], .sl 7 [], .sl 5 []] []), dO 32 (.mv (.t 6)), dO 33 (.nck (.t 32)), dO 34 (.fa 0 (.t 33)), dO 35 (.fa 1 (.t 34)), dO 36 (.ldq (some 2) (.t 35) (.t 6)), ⟨none, none, .stq 4 (.t 2) (.t 31) [(.t 6)]⟩, ⟨none, none, .st 2 (.t 3) (.t 36)⟩])
 (.ret))
 (.skip)))
 (.seq (.reg [dO 37 (.ld (some 4) (.t 7)), dO 38 (.bld [.int .i64 0, .int .i64 0] []), ⟨none, none, .st 4 (.t 2) (.t 37)⟩, ⟨none, none, .st 2 (.t 3) (.t 38)⟩])
 (.ret)))))))) }

def b_r17_Program_0 : AC :=
 .seq (.seq (.reg [dO 25 (.mv (.t 6)), dO 26 (.call n_rt_is [(.t 25), (.c (.str [112, 114, 111, 99]))])])
 (.cond (.t 26)
 (.skip)
 (.exit 0)))
 (.block 1 (.seq (.seq (.reg [dO 27 (.fa 0 (.t 7)), dO 28 (.ld none (.t 27)), dO 29 (.len false (.t 28)), dO 30 (.ic .eql (.t 29) (.c (.int .i64 16)))])
 (.cond (.t 30)
 (.reg [dO 31 (.mv (.t 6)), dO 32 (.mv (.t 6)), dO 33 (.call n_rt_now [(.t 32)]), dO 34 (.call n_rt_fail [(.t 31), (.c (.int .i64 14)), (.t 33)])])
 (.skip)))
 (.seq (.reg [dO 35 (.mv (.t 6)), dO 36 (.nck (.t 35)), dO 37 (.fa 1 (.t 36)), dO 38 (.ld none (.t 37)), dO 39 (.ia .add .i64 (.t 38) (.c (.int .i64 1))), dO 40 (.nck (.t 35)), dO 41 (.fa 1 (.t 40)), ⟨none, none, .st 1 (.t 41) (.t 39)⟩])
 (.seq (.reg [dO 42 (.mv (.t 6)), dO 43 (.call n_rt_kind [(.t 42), (.c (.int .i64 1))]), dO 8 (.alloc [.int .i64 0, .str [], .int .i64 0, .int .i64 0]), ⟨none, none, .st 4 (.t 8) (.t 43)⟩])
 (.seq (.reg [dO 44 (.mv (.t 6)), dO 45 (.call n_rt_block [(.t 44), (.c (.int .i64 1))]), dO 9 (.tk (.t 45))])
 (.reg [dO 46 (.fa 0 (.t 7)), dO 47 (.ldo (.t 46)), dO 48 (.fa 1 (.t 8)), dO 49 (.ld none (.t 48)), dO 50 (.mv (.t 9)), dO 51 (.bld [.str [], .sl 7 []] [(0, 1, (.t 49)), (1, 1, (.t 50))]), dO 52 (.bsl 2 [.str [], .sl 7 []] 1 [(0, 2, (.t 51))] false), dO 53 (.app 2 40 (.t 47) (.t 52) false), dO 54 (.fa 0 (.t 7)), ⟨none, none, .st 1 (.t 54) (.t 53)⟩]))))))

def l_r17_Program_0 : AC :=
 .loop [2, 3, 6, 7] b_r17_Program_0

def b_r17_Program_1 : AC :=
 .seq (.seq (.reg [dO 65 (.mv (.t 6)), dO 66 (.call n_rt_is [(.t 65), (.c (.str [111, 114, 97, 99, 108, 101]))])])
 (.cond (.t 66)
 (.skip)
 (.exit 2)))
 (.block 3 (.seq (.seq (.reg [dO 67 (.fa 3 (.t 7)), dO 68 (.ld none (.t 67)), dO 69 (.len false (.t 68)), dO 70 (.ic .eql (.t 69) (.c (.int .i64 16)))])
 (.cond (.t 70)
 (.reg [dO 71 (.mv (.t 6)), dO 72 (.mv (.t 6)), dO 73 (.call n_rt_now [(.t 72)]), dO 74 (.call n_rt_fail [(.t 71), (.c (.int .i64 14)), (.t 73)])])
 (.skip)))
 (.seq (.reg [dO 75 (.mv (.t 6)), dO 76 (.nck (.t 75)), dO 77 (.fa 1 (.t 76)), dO 78 (.ld none (.t 77)), dO 79 (.ia .add .i64 (.t 78) (.c (.int .i64 1))), dO 80 (.nck (.t 75)), dO 81 (.fa 1 (.t 80)), ⟨none, none, .st 1 (.t 81) (.t 79)⟩])
 (.seq (.reg [dO 82 (.mv (.t 6)), dO 83 (.call n_rt_kind [(.t 82), (.c (.int .i64 1))]), dO 10 (.alloc [.int .i64 0, .str [], .int .i64 0, .int .i64 0]), ⟨none, none, .st 4 (.t 10) (.t 83)⟩])
 (.seq (.reg [dO 84 (.mv (.t 6)), dO 85 (.call n_rt_need [(.t 84), (.c (.str [58]))])])
 (.seq (.reg [dO 86 (.mv (.t 6)), dO 87 (.bsl 1 [.str []] 1 [(0, 1, (.c (.str [59])))] false), dO 88 (.call n_rt_whole [(.t 86), (.t 87)]), dO 11 (.alloc [.int .i64 0, .int .i64 0, .str [], .own 4 []]), ⟨none, none, .st 4 (.t 11) (.t 88)⟩])
 (.seq (.reg [dO 89 (.mv (.t 6)), dO 90 (.call n_rt_need [(.t 89), (.c (.str [59]))])])
 (.reg [dO 91 (.fa 3 (.t 7)), dO 92 (.ldo (.t 91)), dO 93 (.fa 1 (.t 10)), dO 94 (.ld none (.t 93)), dO 95 (.ld (some 4) (.t 11)), dO 96 (.bld [.str [], .int .i64 0, .int .i64 0, .str [], .sl 4 []] [(0, 1, (.t 94)), (1, 4, (.t 95))]), dO 97 (.bsl 5 [.str [], .int .i64 0, .int .i64 0, .str [], .sl 4 []] 1 [(0, 5, (.t 96))] false), dO 98 (.app 5 72 (.t 92) (.t 97) false), dO 99 (.fa 3 (.t 7)), ⟨none, none, .st 1 (.t 99) (.t 98)⟩]))))))))

def l_r17_Program_1 : AC :=
 .loop [2, 3, 6, 7] b_r17_Program_1

def r_r17_Program_0 : AC :=
 .seq (.reg [dO 100 (.mv (.t 6)), dO 101 (.call n_rt_kind [(.t 100), (.c (.int .i64 0))])])
 (.seq (.seq (.reg [dO 102 (.mv (.t 6)), dO 103 (.call n_rt_bad [(.t 102)])])
 (.cond (.t 103)
 (.seq (.drw [[], [], [], [], [], [], []] [dO 104 (.bld [.nils 2, .sl 7 [], .sl 7 [], .nils 5] []), dO 105 (.mv (.t 6)), dO 106 (.nck (.t 105)), dO 107 (.fa 3 (.t 106)), dO 108 (.ldq (some 2) (.t 107) (.t 6)), ⟨none, none, .stq 4 (.t 2) (.t 104) [(.t 6)]⟩, ⟨none, none, .st 2 (.t 3) (.t 108)⟩])
 (.ret))
 (.skip)))
 (.seq (.reg [dO 109 (.ld (some 4) (.t 7)), dO 110 (.bld [.int .i64 0, .int .i64 0] []), ⟨none, none, .st 4 (.t 2) (.t 109)⟩, ⟨none, none, .st 2 (.t 3) (.t 110)⟩])
 (.ret)))

def r_r17_Program_1 : AC :=
 .seq (.reg [dO 55 (.mv (.t 6)), dO 56 (.call n_rt_need [(.t 55), (.c (.str [109, 97, 105, 110]))])])
 (.seq (.reg [dO 57 (.mv (.t 6)), dO 58 (.call n_rt_block [(.t 57), (.c (.int .i64 1))]), dO 59 (.fa 1 (.t 7)), ⟨none, none, .st 1 (.t 59) (.t 58)⟩])
 (.seq (.seq (.reg [dO 60 (.mv (.t 6)), dO 61 (.call n_rt_take [(.t 60), (.c (.str [114, 101, 99, 111, 118, 101, 114]))])])
 (.cond (.t 61)
 (.reg [dO 62 (.mv (.t 6)), dO 63 (.call n_rt_block [(.t 62), (.c (.int .i64 1))]), dO 64 (.fa 2 (.t 7)), ⟨none, none, .st 1 (.t 64) (.t 63)⟩])
 (.skip)))
 (.seq (.block 2 (l_r17_Program_1)) r_r17_Program_0)))

def c_r17_Program : AFunc :=
 { np := 1, res := [.cell 2 (some 4), .cell 3 (some 2)], body := (
 .seq (.reg [dO 2 (.alloc [.own 2 [], .own 7 [], .own 7 [], .own 5 []]), dO 3 (.alloc [.int .i64 0, .int .i64 0])])
 (.seq (.reg [dO 13 (.mv (.t 0)), dO 14 (.callc n_r15_Words [(.t 13)]), dO 12 (.mv (.t 14)), dO 15 (.ext (.t 12) 0), dO 16 (.ext (.t 12) 1), dO 5 (.alloc [.int .i64 0, .int .i64 0]), dO 4 (.tk (.t 15)), ⟨none, none, .st 2 (.t 5) (.t 16)⟩])
 (.seq (.seq (.reg [dO 17 (.fa 0 (.t 5)), dO 18 (.ld none (.t 17)), dO 19 (.ic .neq (.t 18) (.c (.int .i64 0)))])
 (.cond (.t 19)
 (.seq (.drw [[], [], [], []] [dO 20 (.bld [.nils 2, .sl 7 [], .sl 7 [], .nils 5] []), dO 21 (.ldq (some 2) (.t 5) (.t 5)), ⟨none, none, .stq 4 (.t 2) (.t 20) [(.t 5)]⟩, ⟨none, none, .st 2 (.t 3) (.t 21)⟩])
 (.ret))
 (.skip)))
 (.seq (.reg [dO 22 (.mv (.t 4)), dO 23 (.bld [.sl 4 [], .int .i64 0, .int .i64 0, .int .i64 0, .int .i64 0] [(0, 1, (.t 22))]), dO 24 (.box (.t 23)), dO 6 (.tk (.t 24))])
 (.seq (.reg [dO 7 (.alloc [.own 2 [], .own 7 [], .own 7 [], .own 5 []])])
 (.seq (.block 0 (l_r17_Program_0)) r_r17_Program_1)))))) }

def c_parse_Expr : AFunc :=
 { np := 1, res := [.cell 2 (some 4), .cell 3 (some 2)], body := (
 .seq (.reg [dO 2 (.alloc [.int .i64 0, .int .i64 0, .str [], .own 4 []]), dO 3 (.alloc [.int .i64 0, .int .i64 0])])
 (.seq (.reg [dO 9 (.mv (.t 0)), dO 10 (.callc n_lex_Words [(.t 9)]), dO 8 (.mv (.t 10)), dO 11 (.ext (.t 8) 0), dO 12 (.ext (.t 8) 1), dO 5 (.alloc [.int .i64 0, .int .i64 0]), dO 4 (.tk (.t 11)), ⟨none, none, .st 2 (.t 5) (.t 12)⟩])
 (.seq (.seq (.reg [dO 13 (.ld (some 2) (.t 5)), dO 14 (.bld [.int .i64 0, .int .i64 0] []), dO 15 (.eqa true [.int .i64, .int .i64] (.t 13) (.t 14))])
 (.cond (.t 15)
 (.seq (.drw [[], [], [], []] [dO 16 (.bld [.int .i64 0, .int .i64 0, .str [], .sl 4 []] []), dO 17 (.ldq (some 2) (.t 5) (.t 5)), ⟨none, none, .stq 4 (.t 2) (.t 16) [(.t 5)]⟩, ⟨none, none, .st 2 (.t 3) (.t 17)⟩])
 (.ret))
 (.skip)))
 (.seq (.reg [dO 18 (.mv (.t 4)), dO 19 (.bld [.sl 4 [], .int .i64 0, .int .i64 0] [(0, 1, (.t 18))]), dO 20 (.bld [.sl 4 [], .int .i64 0, .int .i64 0, .int .i64 0] [(0, 3, (.t 19))]), dO 21 (.box (.t 20)), dO 6 (.tk (.t 21))])
 (.seq (.reg [dO 22 (.mv (.t 6)), dO 23 (.call n_pp_whole [(.t 22), (.c (.str []))]), dO 7 (.alloc [.int .i64 0, .int .i64 0, .str [], .own 4 []]), ⟨none, none, .st 4 (.t 7) (.t 23)⟩])
 (.seq (.seq (.reg [dO 24 (.mv (.t 6)), dO 25 (.nck (.t 24)), dO 26 (.fa 0 (.t 25)), dO 27 (.fa 1 (.t 26)), dO 28 (.ld (some 2) (.t 27)), dO 29 (.bld [.int .i64 0, .int .i64 0] []), dO 30 (.eqa true [.int .i64, .int .i64] (.t 28) (.t 29))])
 (.cond (.t 30)
 (.seq (.drw [[], [], [], [], [], [], [], []] [dO 31 (.bld [.int .i64 0, .int .i64 0, .str [], .sl 4 []] []), dO 32 (.mv (.t 6)), dO 33 (.nck (.t 32)), dO 34 (.fa 0 (.t 33)), dO 35 (.fa 1 (.t 34)), dO 36 (.ldq (some 2) (.t 35) (.t 6)), ⟨none, none, .stq 4 (.t 2) (.t 31) [(.t 6)]⟩, ⟨none, none, .st 2 (.t 3) (.t 36)⟩])
 (.ret))
 (.skip)))
 (.seq (.reg [dO 37 (.ld (some 4) (.t 7)), dO 38 (.bld [.int .i64 0, .int .i64 0] []), ⟨none, none, .st 4 (.t 2) (.t 37)⟩, ⟨none, none, .st 2 (.t 3) (.t 38)⟩])
 (.ret)))))))) }

def c_r17_Expr : AFunc :=
 { np := 1, res := [.cell 2 (some 4), .cell 3 (some 2)], body := (
 .seq (.reg [dO 2 (.alloc [.int .i64 0, .int .i64 0, .str [], .own 4 []]), dO 3 (.alloc [.int .i64 0, .int .i64 0])])
 (.seq (.reg [dO 9 (.mv (.t 0)), dO 10 (.callc n_r15_Words [(.t 9)]), dO 8 (.mv (.t 10)), dO 11 (.ext (.t 8) 0), dO 12 (.ext (.t 8) 1), dO 5 (.alloc [.int .i64 0, .int .i64 0]), dO 4 (.tk (.t 11)), ⟨none, none, .st 2 (.t 5) (.t 12)⟩])
 (.seq (.seq (.reg [dO 13 (.fa 0 (.t 5)), dO 14 (.ld none (.t 13)), dO 15 (.ic .neq (.t 14) (.c (.int .i64 0)))])
 (.cond (.t 15)
 (.seq (.drw [[], [], [], []] [dO 16 (.bld [.int .i64 0, .int .i64 0, .str [], .sl 4 []] []), dO 17 (.ldq (some 2) (.t 5) (.t 5)), ⟨none, none, .stq 4 (.t 2) (.t 16) [(.t 5)]⟩, ⟨none, none, .st 2 (.t 3) (.t 17)⟩])
 (.ret))
 (.skip)))
 (.seq (.reg [dO 18 (.mv (.t 4)), dO 19 (.bld [.sl 4 [], .int .i64 0, .int .i64 0, .int .i64 0, .int .i64 0] [(0, 1, (.t 18))]), dO 20 (.box (.t 19)), dO 6 (.tk (.t 20))])
 (.seq (.reg [dO 21 (.mv (.t 6)), dO 22 (.call n_rt_whole [(.t 21), (.c (.own 1 []))]), dO 7 (.alloc [.int .i64 0, .int .i64 0, .str [], .own 4 []]), ⟨none, none, .st 4 (.t 7) (.t 22)⟩])
 (.seq (.seq (.reg [dO 23 (.mv (.t 6)), dO 24 (.call n_rt_bad [(.t 23)])])
 (.cond (.t 24)
 (.seq (.drw [[], [], [], [], [], [], []] [dO 25 (.bld [.int .i64 0, .int .i64 0, .str [], .sl 4 []] []), dO 26 (.mv (.t 6)), dO 27 (.nck (.t 26)), dO 28 (.fa 3 (.t 27)), dO 29 (.ldq (some 2) (.t 28) (.t 6)), ⟨none, none, .stq 4 (.t 2) (.t 25) [(.t 6)]⟩, ⟨none, none, .st 2 (.t 3) (.t 29)⟩])
 (.ret))
 (.skip)))
 (.seq (.reg [dO 30 (.ld (some 4) (.t 7)), dO 31 (.bld [.int .i64 0, .int .i64 0] []), ⟨none, none, .st 4 (.t 2) (.t 30)⟩, ⟨none, none, .st 2 (.t 3) (.t 31)⟩])
 (.ret)))))))) }

def b_r16_Same_0 : AC :=
 .seq (.seq (.reg [dO 39 (.mv (.t 5)), dO 40 (.fa 0 (.t 2)), dO 41 (.ld none (.t 40)), dO 42 (.len false (.t 41)), dO 43 (.ic .lss (.t 39) (.t 42))])
 (.cond (.t 43)
 (.skip)
 (.exit 0)))
 (.seq (.block 1 (.seq (.drw [[], [], [], [], [], [], [], [], [], [], [], [], [], [], [], [], [], [], [], [], [], [], [], [], [], [], [], [], []] [dO 46 (.fa 0 (.t 2)), dO 47 (.ld none (.t 46)), dO 48 (.mv (.t 5)), dO 49 (.ixa 2 none (.t 47) (.t 48)), dO 50 (.fa 0 (.t 49)), dO 51 (.ld none (.t 50)), dO 52 (.fa 0 (.t 3)), dO 53 (.ld none (.t 52)), dO 54 (.mv (.t 5)), dO 55 (.ixa 2 none (.t 53) (.t 54)), dO 56 (.fa 0 (.t 55)), dO 57 (.ld none (.t 56)), dO 58 (.sop .neq (.t 51) (.t 57)), dO 59 (.mv (.t 58)), ⟨some 60, (some (59, false)), .fa 0 (.t 2)⟩, ⟨some 61, (some (59, false)), .ld none (.t 60)⟩, ⟨some 62, (some (59, false)), .mv (.t 5)⟩, ⟨some 63, (some (59, false)), .ixa 2 none (.t 61) (.t 62)⟩, ⟨some 64, (some (59, false)), .fa 1 (.t 63)⟩, ⟨some 65, (some (59, false)), .ld none (.t 64)⟩, ⟨some 66, (some (59, false)), .fa 0 (.t 3)⟩, ⟨some 67, (some (59, false)), .ld none (.t 66)⟩, ⟨some 68, (some (59, false)), .mv (.t 5)⟩, ⟨some 69, (some (59, false)), .ixa 2 none (.t 67) (.t 68)⟩, ⟨some 70, (some (59, false)), .fa 1 (.t 69)⟩, ⟨some 71, (some (59, false)), .ld none (.t 70)⟩, ⟨some 72, (some (59, false)), .callc n_r16_SameStmts [(.t 65), (.t 71)]⟩, ⟨some 73, (some (59, false)), .notb (.t 72)⟩, dO 74 (.pick (.t 59) (.c (.bool true)) (.t 73))])
 (.cond (.t 74)
 (.seq (.reg [dO 4 (.tk (.c (.bool false)))])
 (.ret))
 (.skip))))
 (.reg [dO 44 (.mv (.t 5)), dO 45 (.ia .add .i64 (.t 44) (.c (.int .i64 1))), dO 5 (.tk (.t 45))]))

def l_r16_Same_0 : AC :=
 .loop [2, 3, 5] b_r16_Same_0

def b_r16_Same_1 : AC :=
 .seq (.seq (.reg [dO 75 (.mv (.t 6)), dO 76 (.fa 3 (.t 2)), dO 77 (.ld none (.t 76)), dO 78 (.len false (.t 77)), dO 79 (.ic .lss (.t 75) (.t 78))])
 (.cond (.t 79)
 (.skip)
 (.exit 2)))
 (.seq (.block 3 (.seq (.drw [[], [], [], [], [], [], [], [], [], [], [], [], [], [], [], [], [], [], [], [], [], [], [], [], [], [], [], [], []] [dO 82 (.fa 3 (.t 2)), dO 83 (.ld none (.t 82)), dO 84 (.mv (.t 6)), dO 85 (.ixa 5 none (.t 83) (.t 84)), dO 86 (.fa 0 (.t 85)), dO 87 (.ld none (.t 86)), dO 88 (.fa 3 (.t 3)), dO 89 (.ld none (.t 88)), dO 90 (.mv (.t 6)), dO 91 (.ixa 5 none (.t 89) (.t 90)), dO 92 (.fa 0 (.t 91)), dO 93 (.ld none (.t 92)), dO 94 (.sop .neq (.t 87) (.t 93)), dO 95 (.mv (.t 94)), ⟨some 96, (some (95, false)), .fa 3 (.t 2)⟩, ⟨some 97, (some (95, false)), .ld none (.t 96)⟩, ⟨some 98, (some (95, false)), .mv (.t 6)⟩, ⟨some 99, (some (95, false)), .ixa 5 none (.t 97) (.t 98)⟩, ⟨some 100, (some (95, false)), .fa 1 (.t 99)⟩, ⟨some 101, (some (95, false)), .ld (some 4) (.t 100)⟩, ⟨some 102, (some (95, false)), .fa 3 (.t 3)⟩, ⟨some 103, (some (95, false)), .ld none (.t 102)⟩, ⟨some 104, (some (95, false)), .mv (.t 6)⟩, ⟨some 105, (some (95, false)), .ixa 5 none (.t 103) (.t 104)⟩, ⟨some 106, (some (95, false)), .fa 1 (.t 105)⟩, ⟨some 107, (some (95, false)), .ld (some 4) (.t 106)⟩, ⟨some 108, (some (95, false)), .callc n_r16_SameExpr [(.t 101), (.t 107)]⟩, ⟨some 109, (some (95, false)), .notb (.t 108)⟩, dO 110 (.pick (.t 95) (.c (.bool true)) (.t 109))])
 (.cond (.t 110)
 (.seq (.reg [dO 4 (.tk (.c (.bool false)))])
 (.ret))
 (.skip))))
 (.reg [dO 80 (.mv (.t 6)), dO 81 (.ia .add .i64 (.t 80) (.c (.int .i64 1))), dO 6 (.tk (.t 81))]))

def l_r16_Same_1 : AC :=
 .loop [2, 3, 6] b_r16_Same_1

def r_r16_Same_0 : AC :=
 .seq (.reg [dO 4 (.tk (.c (.bool true)))])
 (.ret)

def r_r16_Same_1 : AC :=
 .seq (.seq (.reg [dO 6 (.tk (.c (.int .i64 0)))])
 (.block 2 (l_r16_Same_1))) r_r16_Same_0

def c_r16_Same : AFunc :=
 { np := 2, res := [.t 4], body := (
 .seq (.reg [dO 2 (.box (.t 0)), dO 3 (.box (.t 1)), dO 4 (.tk (.c (.bool false)))])
 (.seq (.seq (.reg [dO 7 (.fa 0 (.t 2)), dO 8 (.ld none (.t 7)), dO 9 (.len false (.t 8)), dO 10 (.fa 0 (.t 3)), dO 11 (.ld none (.t 10)), dO 12 (.len false (.t 11)), dO 13 (.ic .neq (.t 9) (.t 12)), dO 14 (.mv (.t 13)), ⟨some 15, (some (14, false)), .fa 3 (.t 2)⟩, ⟨some 16, (some (14, false)), .ld none (.t 15)⟩, ⟨some 17, (some (14, false)), .len false (.t 16)⟩, ⟨some 18, (some (14, false)), .fa 3 (.t 3)⟩, ⟨some 19, (some (14, false)), .ld none (.t 18)⟩, ⟨some 20, (some (14, false)), .len false (.t 19)⟩, ⟨some 21, (some (14, false)), .ic .neq (.t 17) (.t 20)⟩, dO 22 (.pick (.t 14) (.c (.bool true)) (.t 21)), dO 23 (.mv (.t 22)), ⟨some 24, (some (23, false)), .fa 1 (.t 2)⟩, ⟨some 25, (some (23, false)), .ld none (.t 24)⟩, ⟨some 26, (some (23, false)), .fa 1 (.t 3)⟩, ⟨some 27, (some (23, false)), .ld none (.t 26)⟩, ⟨some 28, (some (23, false)), .callc n_r16_SameStmts [(.t 25), (.t 27)]⟩, ⟨some 29, (some (23, false)), .notb (.t 28)⟩, dO 30 (.pick (.t 23) (.c (.bool true)) (.t 29)), dO 31 (.mv (.t 30)), ⟨some 32, (some (31, false)), .fa 2 (.t 2)⟩, ⟨some 33, (some (31, false)), .ld none (.t 32)⟩, ⟨some 34, (some (31, false)), .fa 2 (.t 3)⟩, ⟨some 35, (some (31, false)), .ld none (.t 34)⟩, ⟨some 36, (some (31, false)), .callc n_r16_SameStmts [(.t 33), (.t 35)]⟩, ⟨some 37, (some (31, false)), .notb (.t 36)⟩, dO 38 (.pick (.t 31) (.c (.bool true)) (.t 37))])
 (.cond (.t 38)
 (.seq (.reg [dO 4 (.tk (.c (.bool false)))])
 (.ret))
 (.skip)))
 (.seq (.seq (.reg [dO 5 (.tk (.c (.int .i64 0)))])
 (.block 0 (l_r16_Same_0))) r_r16_Same_1))) }

def c_l15_Fault : AFunc :=
 { np := 2, res := [.t 4], body := (
 .seq (.reg [dO 2 (.box (.t 0)), dO 3 (.box (.t 1)), dO 4 (.tk (.c (.bool false)))])
 (.seq (.reg [dO 5 (.fa 0 (.t 2)), dO 6 (.ld none (.t 5)), dO 7 (.fa 0 (.t 3)), dO 8 (.ld none (.t 7)), dO 9 (.ic .eql (.t 6) (.t 8)), dO 10 (.mv (.t 9)), ⟨some 11, (some (10, true)), .fa 1 (.t 2)⟩, ⟨some 12, (some (10, true)), .ld none (.t 11)⟩, ⟨some 13, (some (10, true)), .fa 1 (.t 3)⟩, ⟨some 14, (some (10, true)), .ld none (.t 13)⟩, ⟨some 15, (some (10, true)), .ic .eql (.t 12) (.t 14)⟩, dO 16 (.pick (.t 10) (.t 15) (.c (.bool false))), dO 4 (.tk (.t 16))])
 (.ret))) }

def b_r16_SameExpr_0 : AC :=
 .seq (.seq (.reg [dO 34 (.mv (.t 5)), dO 35 (.fa 3 (.t 2)), dO 36 (.ld none (.t 35)), dO 37 (.len false (.t 36)), dO 38 (.ic .lss (.t 34) (.t 37))])
 (.cond (.t 38)
 (.skip)
 (.exit 0)))
 (.seq (.block 1 (.seq (.drw [[], [], [], [], [], [], [], [], [], [], [], []] [dO 41 (.fa 3 (.t 2)), dO 42 (.ld none (.t 41)), dO 43 (.mv (.t 5)), dO 44 (.ixa 4 none (.t 42) (.t 43)), dO 45 (.ld (some 4) (.t 44)), dO 46 (.fa 3 (.t 3)), dO 47 (.ld none (.t 46)), dO 48 (.mv (.t 5)), dO 49 (.ixa 4 none (.t 47) (.t 48)), dO 50 (.ld (some 4) (.t 49)), dO 51 (.callc n_r16_SameExpr [(.t 45), (.t 50)]), dO 52 (.notb (.t 51))])
 (.cond (.t 52)
 (.seq (.reg [dO 4 (.tk (.c (.bool false)))])
 (.ret))
 (.skip))))
 (.reg [dO 39 (.mv (.t 5)), dO 40 (.ia .add .i64 (.t 39) (.c (.int .i64 1))), dO 5 (.tk (.t 40))]))

def l_r16_SameExpr_0 : AC :=
 .loop [2, 3, 5] b_r16_SameExpr_0

def r_r16_SameExpr_0 : AC :=
 .seq (.reg [dO 4 (.tk (.c (.bool true)))])
 (.ret)

def c_r16_SameExpr : AFunc :=
 { np := 2, res := [.t 4], body := (
 .seq (.reg [dO 2 (.box (.t 0)), dO 3 (.box (.t 1)), dO 4 (.tk (.c (.bool false)))])
 (.seq (.seq (.reg [dO 6 (.fa 0 (.t 2)), dO 7 (.ld none (.t 6)), dO 8 (.fa 0 (.t 3)), dO 9 (.ld none (.t 8)), dO 10 (.ic .neq (.t 7) (.t 9)), dO 11 (.mv (.t 10)), ⟨some 12, (some (11, false)), .fa 1 (.t 2)⟩, ⟨some 13, (some (11, false)), .ld none (.t 12)⟩, ⟨some 14, (some (11, false)), .fa 1 (.t 3)⟩, ⟨some 15, (some (11, false)), .ld none (.t 14)⟩, ⟨some 16, (some (11, false)), .ic .neq (.t 13) (.t 15)⟩, dO 17 (.pick (.t 11) (.c (.bool true)) (.t 16)), dO 18 (.mv (.t 17)), ⟨some 19, (some (18, false)), .fa 2 (.t 2)⟩, ⟨some 20, (some (18, false)), .ld none (.t 19)⟩, ⟨some 21, (some (18, false)), .fa 2 (.t 3)⟩, ⟨some 22, (some (18, false)), .ld none (.t 21)⟩, ⟨some 23, (some (18, false)), .sop .neq (.t 20) (.t 22)⟩, dO 24 (.pick (.t 18) (.c (.bool true)) (.t 23)), dO 25 (.mv (.t 24)), ⟨some 26, (some (25, false)), .fa 3 (.t 2)⟩, ⟨some 27, (some (25, false)), .ld none (.t 26)⟩, ⟨some 28, (some (25, false)), .len false (.t 27)⟩, ⟨some 29, (some (25, false)), .fa 3 (.t 3)⟩, ⟨some 30, (some (25, false)), .ld none (.t 29)⟩, ⟨some 31, (some (25, false)), .len false (.t 30)⟩, ⟨some 32, (some (25, false)), .ic .neq (.t 28) (.t 31)⟩, dO 33 (.pick (.t 25) (.c (.bool true)) (.t 32))])
 (.cond (.t 33)
 (.seq (.reg [dO 4 (.tk (.c (.bool false)))])
 (.ret))
 (.skip)))
 (.seq (.seq (.reg [dO 5 (.tk (.c (.int .i64 0)))])
 (.block 0 (l_r16_SameExpr_0))) r_r16_SameExpr_0))) }

def b_lex_Words_0 : AC :=
 .seq (.seq (.reg [dO 15 (.mv (.t 5)), dO 16 (.sop .neq (.t 15) (.c (.str [])))])
 (.cond (.t 16)
 (.skip)
 (.exit 0)))
 (.block 1 (.seq (.reg [dO 18 (.mv (.t 5)), dO 19 (.callc n_lex_next [(.t 18)]), dO 17 (.mv (.t 19)), dO 20 (.ext (.t 17) 0), dO 21 (.ext (.t 17) 1), dO 22 (.ext (.t 17) 2), dO 6 (.alloc [.int .i64 0, .str [], .int .i64 0, .int .i64 0]), ⟨none, none, .st 4 (.t 6) (.t 20)⟩, dO 7 (.tk (.t 21)), dO 8 (.tk (.t 22))])
 (.seq (.reg [dO 23 (.mv (.t 0)), dO 24 (.len true (.t 23)), dO 25 (.mv (.t 5)), dO 26 (.len true (.t 25)), dO 27 (.ia .sub .i64 (.t 24) (.t 26)), dO 28 (.fa 3 (.t 6)), ⟨none, none, .st 1 (.t 28) (.t 27)⟩])
 (.seq (.seq (.reg [dO 29 (.mv (.t 8)), dO 30 (.ic .neq (.t 29) (.c (.int .i64 0)))])
 (.cond (.t 30)
 (.seq (.drw [[], [], [], [], [], []] [dO 31 (.mv (.t 8)), dO 32 (.fa 3 (.t 6)), dO 33 (.ld none (.t 32)), dO 34 (.bld [.int .i64 0, .int .i64 0] [(0, 1, (.t 31)), (1, 1, (.t 33))]), dO 2 (.tk (.c (.own 4 []))), ⟨none, none, .st 2 (.t 3) (.t 34)⟩])
 (.ret))
 (.skip)))
 (.seq (.reg [dO 35 (.tk (.t 4)), dO 36 (.ld (some 4) (.t 6)), dO 37 (.bsl 4 [.int .i64 0, .str [], .int .i64 0, .int .i64 0] 1 [(0, 4, (.t 36))] false), dO 38 (.app 4 40 (.t 35) (.t 37) false), dO 4 (.tk (.t 38))])
 (.reg [dO 39 (.mv (.t 5)), dO 40 (.mv (.t 7)), dO 41 (.slc (.t 39) (some (.t 40)) none), dO 42 (.callc n_lex_skip [(.t 41)]), dO 5 (.tk (.t 42))]))))))

def l_lex_Words_0 : AC :=
 .loop [0, 3, 4, 5] b_lex_Words_0

def r_lex_Words_0 : AC :=
 .seq (.reg [dO 43 (.tk (.t 4)), dO 44 (.mv (.t 0)), dO 45 (.len true (.t 44)), dO 46 (.bld [.int .i64 0, .str [], .int .i64 0, .int .i64 0] [(0, 1, (.c (.int .i64 0))), (3, 1, (.t 45))]), dO 47 (.bsl 4 [.int .i64 0, .str [], .int .i64 0, .int .i64 0] 1 [(0, 4, (.t 46))] false), dO 48 (.app 4 40 (.t 43) (.t 47) false), dO 49 (.bld [.int .i64 0, .int .i64 0] []), dO 2 (.tk (.t 48)), ⟨none, none, .st 2 (.t 3) (.t 49)⟩])
 (.ret)

def c_lex_Words : AFunc :=
 { np := 1, res := [.t 2, .cell 3 (some 2)], body := (
 .seq (.reg [dO 2 (.tk (.c (.own 4 []))), dO 3 (.alloc [.int .i64 0, .int .i64 0])])
 (.seq (.seq (.reg [dO 9 (.mv (.t 0)), dO 10 (.len true (.t 9)), dO 11 (.ic .gtr (.t 10) (.c (.int .i64 4096)))])
 (.cond (.t 11)
 (.seq (.reg [dO 12 (.bld [.int .i64 0, .int .i64 0] [(0, 1, (.c (.int .i64 14)))]), dO 2 (.tk (.c (.own 4 []))), ⟨none, none, .st 2 (.t 3) (.t 12)⟩])
 (.ret))
 (.skip)))
 (.seq (.reg [dO 4 (.tk (.c (.own 4 [])))])
 (.seq (.seq (.reg [dO 13 (.mv (.t 0)), dO 14 (.callc n_lex_skip [(.t 13)]), dO 5 (.tk (.t 14))])
 (.block 0 (l_lex_Words_0))) r_lex_Words_0)))) }

def b_pp_program_0 : AC :=
 .block 1 (.seq (.reg [dO 11 (.mv (.t 0)), dO 12 (.fa 0 (.t 3)), dO 13 (.ld none (.t 12)), dO 14 (.len false (.t 13)), dO 15 (.call n_pp_named [(.t 11), (.c (.str [112, 114, 111, 99])), (.t 14)]), dO 10 (.mv (.t 15)), dO 16 (.ext (.t 10) 0), dO 17 (.ext (.t 10) 1), dO 4 (.tk (.t 16)), dO 5 (.tk (.t 17))])
 (.seq (.seq (.reg [dO 18 (.mv (.t 5)), dO 19 (.notb (.t 18))])
 (.cond (.t 19)
 (.exit 0)
 (.skip)))
 (.drw [[], [], [], [], [], [], [], [], [], []] [dO 20 (.fa 0 (.t 3)), dO 21 (.ldoq (.t 20) (.t 3)), dO 22 (.mv (.t 4)), dO 23 (.mv (.t 0)), dO 24 (.callh n_pp_block [(.t 23), (.c (.int .i64 1))] (.t 3)), dO 25 (.bld [.str [], .sl 7 []] [(0, 1, (.t 22)), (1, 1, (.t 24))]), dO 26 (.bsl 2 [.str [], .sl 7 []] 1 [(0, 2, (.t 25))] false), dO 27 (.app 2 40 (.t 21) (.t 26) false), dO 28 (.fa 0 (.t 3)), ⟨none, none, .st 1 (.t 28) (.t 27)⟩])))

def l_pp_program_0 : AC :=
 .loop [0, 2, 3] b_pp_program_0

def b_pp_program_1 : AC :=
 .block 3 (.seq (.reg [dO 49 (.mv (.t 0)), dO 50 (.fa 3 (.t 3)), dO 51 (.ld none (.t 50)), dO 52 (.len false (.t 51)), dO 53 (.call n_pp_named [(.t 49), (.c (.str [111, 114, 97, 99, 108, 101])), (.t 52)]), dO 48 (.mv (.t 53)), dO 54 (.ext (.t 48) 0), dO 55 (.ext (.t 48) 1), dO 8 (.tk (.t 54)), dO 9 (.tk (.t 55))])
 (.seq (.seq (.reg [dO 56 (.mv (.t 9)), dO 57 (.notb (.t 56))])
 (.cond (.t 57)
 (.exit 2)
 (.skip)))
 (.seq (.reg [dO 58 (.mv (.t 0)), dO 59 (.nck (.t 58)), dO 60 (.fa 0 (.t 59)), dO 61 (.call n_pw_wants [(.t 60), (.c (.str [58]))])])
 (.seq (.drw [[], [], [], [], [], [], [], [], [], []] [dO 62 (.fa 3 (.t 3)), dO 63 (.ldoq (.t 62) (.t 3)), dO 64 (.mv (.t 8)), dO 65 (.mv (.t 0)), dO 66 (.callh n_pp_whole [(.t 65), (.c (.str [59]))] (.t 3)), dO 67 (.bld [.str [], .int .i64 0, .int .i64 0, .str [], .sl 4 []] [(0, 1, (.t 64)), (1, 4, (.t 66))]), dO 68 (.bsl 5 [.str [], .int .i64 0, .int .i64 0, .str [], .sl 4 []] 1 [(0, 5, (.t 67))] false), dO 69 (.app 5 72 (.t 63) (.t 68) false), dO 70 (.fa 3 (.t 3)), ⟨none, none, .st 1 (.t 70) (.t 69)⟩])
 (.reg [dO 71 (.mv (.t 0)), dO 72 (.nck (.t 71)), dO 73 (.fa 0 (.t 72)), dO 74 (.call n_pw_wants [(.t 73), (.c (.str [59]))])])))))

def l_pp_program_1 : AC :=
 .loop [0, 2, 3] b_pp_program_1

def r_pp_program_0 : AC :=
 .seq (.reg [dO 75 (.mv (.t 0)), dO 76 (.nck (.t 75)), dO 77 (.fa 0 (.t 76)), dO 78 (.call n_pw_of [(.t 77), (.c (.int .i64 0))])])
 (.seq (.reg [dO 79 (.ld (some 4) (.t 3)), ⟨none, none, .st 4 (.t 2) (.t 79)⟩])
 (.ret))

def r_pp_program_1 : AC :=
 .seq (.reg [dO 29 (.mv (.t 0)), dO 30 (.nck (.t 29)), dO 31 (.fa 0 (.t 30)), dO 32 (.call n_pw_wants [(.t 31), (.c (.str [109, 97, 105, 110]))])])
 (.seq (.reg [dO 33 (.mv (.t 0)), dO 34 (.call n_pp_block [(.t 33), (.c (.int .i64 1))]), dO 35 (.fa 1 (.t 3)), ⟨none, none, .st 1 (.t 35) (.t 34)⟩])
 (.seq (.seq (.reg [dO 37 (.mv (.t 0)), dO 38 (.nck (.t 37)), dO 39 (.fa 0 (.t 38)), dO 40 (.bsl 1 [.str []] 1 [(0, 1, (.c (.str [114, 101, 99, 111, 118, 101, 114])))] false), dO 41 (.call n_pw_takes [(.t 39), (.t 40)]), dO 36 (.mv (.t 41)), dO 42 (.ext (.t 36) 0), dO 43 (.ext (.t 36) 1), dO 6 (.tk (.t 42)), dO 7 (.tk (.t 43))])
 (.seq (.reg [dO 44 (.mv (.t 7))])
 (.cond (.t 44)
 (.reg [dO 45 (.mv (.t 0)), dO 46 (.call n_pp_block [(.t 45), (.c (.int .i64 1))]), dO 47 (.fa 2 (.t 3)), ⟨none, none, .st 1 (.t 47) (.t 46)⟩])
 (.skip))))
 (.seq (.block 2 (l_pp_program_1)) r_pp_program_0)))

def c_pp_program : AFunc :=
 { np := 1, res := [.cell 2 (some 4)], body := (
 .seq (.reg [dO 2 (.alloc [.own 2 [], .own 7 [], .own 7 [], .own 5 []])])
 (.seq (.reg [dO 3 (.alloc [.own 2 [], .own 7 [], .own 7 [], .own 5 []])])
 (.seq (.block 0 (l_pp_program_0)) r_pp_program_1))) }

def b_r15_Words_0 : AC :=
 .seq (.seq (.reg [dO 15 (.mv (.t 5)), dO 16 (.mv (.t 0)), dO 17 (.len true (.t 16)), dO 18 (.ic .lss (.t 15) (.t 17))])
 (.cond (.t 18)
 (.skip)
 (.exit 0)))
 (.block 1 (.seq (.reg [dO 20 (.mv (.t 0)), dO 21 (.mv (.t 5)), dO 22 (.callc n_r15_one [(.t 20), (.t 21)]), dO 19 (.mv (.t 22)), dO 23 (.ext (.t 19) 0), dO 24 (.ext (.t 19) 1), dO 25 (.ext (.t 19) 2), dO 6 (.alloc [.int .i64 0, .str [], .int .i64 0, .int .i64 0]), ⟨none, none, .st 4 (.t 6) (.t 23)⟩, dO 7 (.tk (.t 24)), dO 8 (.tk (.t 25))])
 (.seq (.seq (.reg [dO 26 (.mv (.t 8)), dO 27 (.ic .neq (.t 26) (.c (.int .i64 0)))])
 (.cond (.t 27)
 (.seq (.reg [dO 28 (.mv (.t 8)), dO 29 (.mv (.t 5)), dO 30 (.bld [.int .i64 0, .int .i64 0] [(0, 1, (.t 28)), (1, 1, (.t 29))]), dO 2 (.tk (.c (.own 4 []))), ⟨none, none, .st 2 (.t 3) (.t 30)⟩])
 (.ret))
 (.skip)))
 (.seq (.reg [dO 31 (.tk (.t 4)), dO 32 (.ld (some 4) (.t 6)), dO 33 (.bsl 4 [.int .i64 0, .str [], .int .i64 0, .int .i64 0] 1 [(0, 4, (.t 32))] false), dO 34 (.app 4 40 (.t 31) (.t 33) false), dO 4 (.tk (.t 34))])
 (.reg [dO 35 (.mv (.t 0)), dO 36 (.mv (.t 7)), dO 37 (.callc n_r15_skip [(.t 35), (.t 36)]), dO 5 (.tk (.t 37))])))))

def l_r15_Words_0 : AC :=
 .loop [0, 3, 4, 5] b_r15_Words_0

def r_r15_Words_0 : AC :=
 .seq (.reg [dO 38 (.tk (.t 4)), dO 39 (.mv (.t 0)), dO 40 (.len true (.t 39)), dO 41 (.bld [.int .i64 0, .str [], .int .i64 0, .int .i64 0] [(0, 1, (.c (.int .i64 0))), (3, 1, (.t 40))]), dO 42 (.bsl 4 [.int .i64 0, .str [], .int .i64 0, .int .i64 0] 1 [(0, 4, (.t 41))] false), dO 43 (.app 4 40 (.t 38) (.t 42) false), dO 44 (.bld [.int .i64 0, .int .i64 0] []), dO 2 (.tk (.t 43)), ⟨none, none, .st 2 (.t 3) (.t 44)⟩])
 (.ret)

def c_r15_Words : AFunc :=
 { np := 1, res := [.t 2, .cell 3 (some 2)], body := (
 .seq (.reg [dO 2 (.tk (.c (.own 4 []))), dO 3 (.alloc [.int .i64 0, .int .i64 0])])
 (.seq (.seq (.reg [dO 9 (.mv (.t 0)), dO 10 (.len true (.t 9)), dO 11 (.ic .gtr (.t 10) (.c (.int .i64 4096)))])
 (.cond (.t 11)
 (.seq (.reg [dO 12 (.bld [.int .i64 0, .int .i64 0] [(0, 1, (.c (.int .i64 14)))]), dO 2 (.tk (.c (.own 4 []))), ⟨none, none, .st 2 (.t 3) (.t 12)⟩])
 (.ret))
 (.skip)))
 (.seq (.reg [dO 4 (.tk (.c (.own 4 [])))])
 (.seq (.reg [dO 13 (.mv (.t 0)), dO 14 (.callc n_r15_skip [(.t 13), (.c (.int .i64 0))]), dO 5 (.tk (.t 14))])
 (.seq (.block 0 (l_r15_Words_0)) r_r15_Words_0))))) }

def c_rt_is : AFunc :=
 { np := 2, res := [.t 4], body := (
 .seq (.reg [dO 4 (.tk (.c (.bool false)))])
 (.seq (.reg [dO 6 (.mv (.t 0)), dO 7 (.call n_rt_now [(.t 6)]), dO 5 (.alloc [.int .i64 0, .str [], .int .i64 0, .int .i64 0]), ⟨none, none, .st 4 (.t 5) (.t 7)⟩])
 (.seq (.reg [dO 8 (.mv (.t 0)), dO 9 (.call n_rt_bad [(.t 8)]), dO 10 (.notb (.t 9)), dO 11 (.mv (.t 10)), ⟨some 12, (some (11, true)), .fa 1 (.t 5)⟩, ⟨some 13, (some (11, true)), .ld none (.t 12)⟩, ⟨some 14, (some (11, true)), .mv (.t 1)⟩, ⟨some 15, (some (11, true)), .sop .eql (.t 13) (.t 14)⟩, dO 16 (.pick (.t 11) (.t 15) (.c (.bool false))), dO 17 (.mv (.t 16)), ⟨some 18, (some (17, true)), .fa 0 (.t 5)⟩, ⟨some 19, (some (17, true)), .ld none (.t 18)⟩, ⟨some 20, (some (17, true)), .ic .eql (.t 19) (.c (.int .i64 4))⟩, ⟨some 21, (some (17, true)), .mv (.t 20)⟩, ⟨some 22, (some (21, false)), .fa 0 (.t 5)⟩, ⟨some 23, (some (21, false)), .ld none (.t 22)⟩, ⟨some 24, (some (21, false)), .ic .eql (.t 23) (.c (.int .i64 5))⟩, ⟨some 25, (some (17, true)), .pick (.t 21) (.c (.bool true)) (.t 24)⟩, dO 26 (.pick (.t 17) (.t 25) (.c (.bool false))), dO 4 (.tk (.t 26))])
 (.ret)))) }

def c_rt_fail : AFunc :=
 { np := 3, res := [], body := (
 .seq (.reg [dO 5 (.box (.t 2))])
 (.seq (.reg [dO 6 (.mv (.t 0)), dO 7 (.call n_rt_bad [(.t 6)]), dO 8 (.notb (.t 7))])
 (.cond (.t 8)
 (.reg [dO 9 (.mv (.t 0)), dO 10 (.mv (.t 1)), dO 11 (.fa 3 (.t 5)), dO 12 (.ld none (.t 11)), dO 13 (.bld [.int .i64 0, .int .i64 0] [(0, 1, (.t 10)), (1, 1, (.t 12))]), dO 14 (.nck (.t 9)), dO 15 (.fa 3 (.t 14)), ⟨none, none, .st 2 (.t 15) (.t 13)⟩])
 (.skip)))) }

def c_rt_now : AFunc :=
 { np := 1, res := [.cell 2 (some 4)], body := (
 .seq (.reg [dO 2 (.alloc [.int .i64 0, .str [], .int .i64 0, .int .i64 0])])
 (.seq (.drw [[], [], [], [], [], [], [], [], [], [], []] [dO 3 (.mv (.t 0)), dO 4 (.nck (.t 3)), dO 5 (.fa 0 (.t 4)), dO 6 (.ld none (.t 5)), dO 7 (.mv (.t 0)), dO 8 (.nck (.t 7)), dO 9 (.fa 1 (.t 8)), dO 10 (.ld none (.t 9)), dO 11 (.ixa 4 none (.t 6) (.t 10)), dO 12 (.ld (some 4) (.t 11)), ⟨none, none, .st 4 (.t 2) (.t 12)⟩])
 (.ret))) }

def c_rt_kind : AFunc :=
 { np := 2, res := [.cell 4 (some 4)], body := (
 .seq (.reg [dO 4 (.alloc [.int .i64 0, .str [], .int .i64 0, .int .i64 0])])
 (.seq (.reg [dO 6 (.mv (.t 0)), dO 7 (.call n_rt_now [(.t 6)]), dO 5 (.alloc [.int .i64 0, .str [], .int .i64 0, .int .i64 0]), ⟨none, none, .st 4 (.t 5) (.t 7)⟩])
 (.seq (.seq (.reg [dO 8 (.fa 0 (.t 5)), dO 9 (.ld none (.t 8)), dO 10 (.mv (.t 1)), dO 11 (.ic .neq (.t 9) (.t 10))])
 (.cond (.t 11)
 (.reg [dO 12 (.mv (.t 0)), dO 13 (.ld (some 4) (.t 5)), dO 14 (.call n_rt_fail [(.t 12), (.c (.int .i64 12)), (.t 13)])])
 (.skip)))
 (.seq (.seq (.reg [dO 15 (.mv (.t 0)), dO 16 (.call n_rt_bad [(.t 15)])])
 (.cond (.t 16)
 (.seq (.reg [dO 17 (.bld [.int .i64 0, .str [], .int .i64 0, .int .i64 0] []), ⟨none, none, .st 4 (.t 4) (.t 17)⟩])
 (.ret))
 (.skip)))
 (.seq (.reg [dO 18 (.mv (.t 0)), dO 19 (.nck (.t 18)), dO 20 (.fa 1 (.t 19)), dO 21 (.ld none (.t 20)), dO 22 (.ia .add .i64 (.t 21) (.c (.int .i64 1))), dO 23 (.nck (.t 18)), dO 24 (.fa 1 (.t 23)), ⟨none, none, .st 1 (.t 24) (.t 22)⟩])
 (.seq (.reg [dO 25 (.ld (some 4) (.t 5)), ⟨none, none, .st 4 (.t 4) (.t 25)⟩])
 (.ret))))))) }

def b_rt_block_0 : AC :=
 .seq (.seq (.reg [dO 9 (.mv (.t 0)), dO 10 (.call n_rt_bad [(.t 9)]), dO 11 (.notb (.t 10)), dO 12 (.mv (.t 11)), ⟨some 13, (some (12, true)), .mv (.t 0)⟩, ⟨some 14, (some (12, true)), .call n_rt_is [(.t 13), (.c (.str [125]))]⟩, ⟨some 15, (some (12, true)), .notb (.t 14)⟩, dO 16 (.pick (.t 12) (.t 15) (.c (.bool false)))])
 (.cond (.t 16)
 (.skip)
 (.exit 0)))
 (.block 1 (.seq (.reg [dO 17 (.mv (.t 0)), dO 18 (.mv (.t 1)), dO 19 (.call n_rt_stmt [(.t 17), (.t 18)]), dO 6 (.alloc [.int .i64 0, .str [], .int .i64 0, .own 4 [], .own 7 [], .own 7 [], .bool false]), ⟨none, none, .st 7 (.t 6) (.t 19)⟩])
 (.reg [dO 20 (.tk (.t 5)), dO 21 (.ld (some 7) (.t 6)), dO 22 (.bsl 7 [.int .i64 0, .str [], .int .i64 0, .sl 4 [], .sl 7 [], .sl 7 [], .bool false] 1 [(0, 7, (.t 21))] false), dO 23 (.app 7 112 (.t 20) (.t 22) false), dO 5 (.tk (.t 23))])))

def l_rt_block_0 : AC :=
 .loop [0, 1, 5] b_rt_block_0

def r_rt_block_0 : AC :=
 .seq (.reg [dO 24 (.mv (.t 0)), dO 25 (.call n_rt_need [(.t 24), (.c (.str [125]))])])
 (.seq (.reg [dO 26 (.tk (.t 5)), dO 4 (.tk (.t 26))])
 (.ret))

def c_rt_block : AFunc :=
 { np := 2, res := [.t 4], body := (
 .seq (.reg [dO 4 (.tk (.c (.own 7 [])))])
 (.seq (.reg [dO 5 (.tk (.c (.own 7 [])))])
 (.seq (.reg [dO 7 (.mv (.t 0)), dO 8 (.call n_rt_need [(.t 7), (.c (.str [123]))])])
 (.seq (.block 0 (l_rt_block_0)) r_rt_block_0)))) }

def c_rt_need : AFunc :=
 { np := 2, res := [], body := (
 .seq (.reg [dO 4 (.mv (.t 0)), dO 5 (.mv (.t 1)), dO 6 (.call n_rt_take [(.t 4), (.t 5)]), dO 7 (.notb (.t 6))])
 (.cond (.t 7)
 (.reg [dO 8 (.mv (.t 0)), dO 9 (.mv (.t 0)), dO 10 (.call n_rt_now [(.t 9)]), dO 11 (.call n_rt_fail [(.t 8), (.c (.int .i64 12)), (.t 10)])])
 (.skip))) }

def c_rt_take : AFunc :=
 { np := 2, res := [.t 4], body := (
 .seq (.reg [dO 4 (.tk (.c (.bool false)))])
 (.seq (.seq (.reg [dO 5 (.mv (.t 0)), dO 6 (.mv (.t 1)), dO 7 (.call n_rt_is [(.t 5), (.t 6)])])
 (.cond (.t 7)
 (.seq (.reg [dO 8 (.mv (.t 0)), dO 9 (.nck (.t 8)), dO 10 (.fa 1 (.t 9)), dO 11 (.ld none (.t 10)), dO 12 (.ia .add .i64 (.t 11) (.c (.int .i64 1))), dO 13 (.nck (.t 8)), dO 14 (.fa 1 (.t 13)), ⟨none, none, .st 1 (.t 14) (.t 12)⟩])
 (.seq (.reg [dO 4 (.tk (.c (.bool true)))])
 (.ret)))
 (.skip)))
 (.seq (.reg [dO 4 (.tk (.c (.bool false)))])
 (.ret)))) }

def b_rt_whole_0 : AC :=
 .seq (.seq (.reg [dO 22 (.mv (.t 8)), dO 23 (.mv (.t 1)), dO 24 (.len false (.t 23)), dO 25 (.ic .lss (.t 22) (.t 24))])
 (.cond (.t 25)
 (.skip)
 (.exit 0)))
 (.seq (.block 1 (.reg [dO 28 (.mv (.t 7)), dO 29 (.mv (.t 28)), ⟨some 30, (some (29, false)), .mv (.t 0)⟩, ⟨some 31, (some (29, false)), .mv (.t 1)⟩, ⟨some 32, (some (29, false)), .mv (.t 8)⟩, ⟨some 33, (some (29, false)), .ixa 1 none (.t 31) (.t 32)⟩, ⟨some 34, (some (29, false)), .ld none (.t 33)⟩, ⟨some 35, (some (29, false)), .call n_rt_is [(.t 30), (.t 34)]⟩, dO 36 (.pick (.t 29) (.c (.bool true)) (.t 35)), dO 7 (.tk (.t 36))]))
 (.reg [dO 26 (.mv (.t 8)), dO 27 (.ia .add .i64 (.t 26) (.c (.int .i64 1))), dO 8 (.tk (.t 27))]))

def l_rt_whole_0 : AC :=
 .loop [0, 1, 4, 5, 6, 7, 8] b_rt_whole_0

def r_rt_whole_0 : AC :=
 .seq (.seq (.reg [dO 37 (.mv (.t 7)), dO 38 (.notb (.t 37))])
 (.cond (.t 38)
 (.reg [dO 39 (.mv (.t 0)), dO 40 (.mv (.t 0)), dO 41 (.call n_rt_now [(.t 40)]), dO 42 (.call n_rt_fail [(.t 39), (.c (.int .i64 12)), (.t 41)])])
 (.skip)))
 (.seq (.seq (.reg [dO 43 (.ld (some 4) (.t 6)), dO 44 (.callc n_r17_Deep [(.t 43)]), dO 45 (.ic .gtr (.t 44) (.c (.int .i64 8)))])
 (.cond (.t 45)
 (.reg [dO 46 (.mv (.t 0)), dO 47 (.ld (some 4) (.t 5)), dO 48 (.call n_rt_fail [(.t 46), (.c (.int .i64 14)), (.t 47)])])
 (.skip)))
 (.seq (.reg [dO 49 (.ld (some 4) (.t 6)), ⟨none, none, .st 4 (.t 4) (.t 49)⟩])
 (.ret)))

def c_rt_whole : AFunc :=
 { np := 2, res := [.cell 4 (some 4)], body := (
 .seq (.reg [dO 4 (.alloc [.int .i64 0, .int .i64 0, .str [], .own 4 []])])
 (.seq (.reg [dO 9 (.mv (.t 0)), dO 10 (.call n_rt_now [(.t 9)]), dO 5 (.alloc [.int .i64 0, .str [], .int .i64 0, .int .i64 0]), ⟨none, none, .st 4 (.t 5) (.t 10)⟩])
 (.seq (.reg [dO 11 (.mv (.t 0)), dO 12 (.call n_rt_expr [(.t 11)]), dO 6 (.alloc [.int .i64 0, .int .i64 0, .str [], .own 4 []]), ⟨none, none, .st 4 (.t 6) (.t 12)⟩])
 (.seq (.reg [dO 13 (.mv (.t 1)), dO 14 (.len false (.t 13)), dO 15 (.ic .eql (.t 14) (.c (.int .i64 0))), dO 16 (.mv (.t 15)), ⟨some 17, (some (16, true)), .mv (.t 0)⟩, ⟨some 18, (some (16, true)), .call n_rt_now [(.t 17)]⟩, ⟨some 19, (some (16, true)), .fld none 0 (.t 18)⟩, ⟨some 20, (some (16, true)), .ic .eql (.t 19) (.c (.int .i64 0))⟩, dO 21 (.pick (.t 16) (.t 20) (.c (.bool false))), dO 7 (.tk (.t 21))])
 (.seq (.seq (.reg [dO 8 (.tk (.c (.int .i64 0)))])
 (.block 0 (l_rt_whole_0))) r_rt_whole_0))))) }

def c_rt_bad : AFunc :=
 { np := 1, res := [.t 2], body := (
 .seq (.reg [dO 2 (.tk (.c (.bool false)))])
 (.seq (.reg [dO 3 (.mv (.t 0)), dO 4 (.nck (.t 3)), dO 5 (.fa 3 (.t 4)), dO 6 (.fa 0 (.t 5)), dO 7 (.ld none (.t 6)), dO 8 (.ic .neq (.t 7) (.c (.int .i64 0))), dO 2 (.tk (.t 8))])
 (.ret))) }

def c_pp_whole : AFunc :=
 { np := 2, res := [.cell 4 (some 4)], body := (
 .seq (.reg [dO 4 (.alloc [.int .i64 0, .int .i64 0, .str [], .own 4 []])])
 (.seq (.reg [dO 9 (.mv (.t 0)), dO 10 (.nck (.t 9)), dO 11 (.fa 0 (.t 10)), dO 12 (.call n_pw_head [(.t 11)]), dO 5 (.alloc [.int .i64 0, .str [], .int .i64 0, .int .i64 0]), ⟨none, none, .st 4 (.t 5) (.t 12)⟩])
 (.seq (.reg [dO 13 (.mv (.t 0)), dO 14 (.call n_pp_expr [(.t 13)]), dO 6 (.alloc [.int .i64 0, .int .i64 0, .str [], .own 4 []]), ⟨none, none, .st 4 (.t 6) (.t 14)⟩])
 (.seq (.seq (.reg [dO 15 (.mv (.t 0)), dO 16 (.nck (.t 15)), dO 17 (.fa 0 (.t 16)), dO 18 (.fa 1 (.t 17)), dO 19 (.ld (some 2) (.t 18)), dO 20 (.bld [.int .i64 0, .int .i64 0] []), dO 21 (.eqa true [.int .i64, .int .i64] (.t 19) (.t 20))])
 (.cond (.t 21)
 (.seq (.reg [dO 22 (.ld (some 4) (.t 6)), ⟨none, none, .st 4 (.t 4) (.t 22)⟩])
 (.ret))
 (.skip)))
 (.seq (.reg [dO 24 (.mv (.t 0)), dO 25 (.nck (.t 24)), dO 26 (.fa 0 (.t 25)), dO 27 (.mv (.t 1)), dO 28 (.bsl 1 [.str []] 1 [(0, 1, (.t 27))] false), dO 29 (.call n_pw_sees [(.t 26), (.t 28)]), dO 23 (.mv (.t 29)), dO 30 (.ext (.t 23) 0), dO 31 (.ext (.t 23) 1), dO 7 (.tk (.t 30)), dO 8 (.tk (.t 31))])
 (.seq (.block 0 (.seq (.reg [dO 33 (.mv (.t 8)), dO 34 (.notb (.t 33)), dO 35 (.mv (.t 34)), ⟨some 36, (some (35, true)), .mv (.t 1)⟩, ⟨some 37, (some (35, true)), .sop .eql (.t 36) (.c (.str []))⟩, ⟨some 38, (some (35, true)), .mv (.t 37)⟩, ⟨some 39, (some (38, true)), .mv (.t 0)⟩, ⟨some 40, (some (38, true)), .nck (.t 39)⟩, ⟨some 41, (some (38, true)), .fa 0 (.t 40)⟩, ⟨some 42, (some (38, true)), .call n_pw_head [(.t 41)]⟩, ⟨some 43, (some (38, true)), .fld none 0 (.t 42)⟩, ⟨some 44, (some (38, true)), .ic .eql (.t 43) (.c (.int .i64 0))⟩, ⟨some 45, (some (35, true)), .pick (.t 38) (.t 44) (.c (.bool false))⟩, ⟨some 46, (some (35, true)), .notb (.t 45)⟩, dO 47 (.pick (.t 35) (.t 46) (.c (.bool false))), dO 32 (.tk (.t 47))])
 (.cond (.t 32)
 (.drw [[], [], [], [], [], [], [], []] [dO 48 (.mv (.t 0)), dO 49 (.nck (.t 48)), dO 50 (.fa 0 (.t 49)), dO 51 (.mv (.t 0)), dO 52 (.nck (.t 51)), dO 53 (.fa 0 (.t 52)), dO 54 (.call n_pw_head [(.t 53)]), dO 55 (.call n_pw_fail [(.t 50), (.c (.int .i64 12)), (.t 54)])])
 (.seq (.reg [dO 57 (.ld (some 4) (.t 6)), dO 58 (.callc n_parse_deep [(.t 57)]), dO 59 (.ic .gtr (.t 58) (.c (.int .i64 8))), dO 56 (.tk (.t 59))])
 (.cond (.t 56)
 (.drw [[], [], [], [], []] [dO 60 (.mv (.t 0)), dO 61 (.nck (.t 60)), dO 62 (.fa 0 (.t 61)), dO 63 (.ld (some 4) (.t 5)), dO 64 (.call n_pw_fail [(.t 62), (.c (.int .i64 14)), (.t 63)])])
 (.skip))))))
 (.seq (.reg [dO 65 (.ld (some 4) (.t 6)), ⟨none, none, .st 4 (.t 4) (.t 65)⟩])
 (.ret)))))))) }

def b_r16_SameStmts_0 : AC :=
 .seq (.seq (.reg [dO 11 (.mv (.t 5)), dO 12 (.mv (.t 0)), dO 13 (.len false (.t 12)), dO 14 (.ic .lss (.t 11) (.t 13))])
 (.cond (.t 14)
 (.skip)
 (.exit 0)))
 (.seq (.block 1 (.seq (.drw [[], [], [], [], [], [], [], [], [], []] [dO 17 (.mv (.t 0)), dO 18 (.mv (.t 5)), dO 19 (.ixa 7 none (.t 17) (.t 18)), dO 20 (.ld (some 7) (.t 19)), dO 21 (.mv (.t 1)), dO 22 (.mv (.t 5)), dO 23 (.ixa 7 none (.t 21) (.t 22)), dO 24 (.ld (some 7) (.t 23)), dO 25 (.callc n_r16_SameStmt [(.t 20), (.t 24)]), dO 26 (.notb (.t 25))])
 (.cond (.t 26)
 (.seq (.reg [dO 4 (.tk (.c (.bool false)))])
 (.ret))
 (.skip))))
 (.reg [dO 15 (.mv (.t 5)), dO 16 (.ia .add .i64 (.t 15) (.c (.int .i64 1))), dO 5 (.tk (.t 16))]))

def l_r16_SameStmts_0 : AC :=
 .loop [0, 1, 5] b_r16_SameStmts_0

def r_r16_SameStmts_0 : AC :=
 .seq (.reg [dO 4 (.tk (.c (.bool true)))])
 (.ret)

def c_r16_SameStmts : AFunc :=
 { np := 2, res := [.t 4], body := (
 .seq (.reg [dO 4 (.tk (.c (.bool false)))])
 (.seq (.seq (.reg [dO 6 (.mv (.t 0)), dO 7 (.len false (.t 6)), dO 8 (.mv (.t 1)), dO 9 (.len false (.t 8)), dO 10 (.ic .neq (.t 7) (.t 9))])
 (.cond (.t 10)
 (.seq (.reg [dO 4 (.tk (.c (.bool false)))])
 (.ret))
 (.skip)))
 (.seq (.seq (.reg [dO 5 (.tk (.c (.int .i64 0)))])
 (.block 0 (l_r16_SameStmts_0))) r_r16_SameStmts_0))) }

def c_lex_Name : AFunc :=
 { np := 1, res := [.t 2], body := (
 .seq (.reg [dO 2 (.tk (.c (.bool false)))])
 (.seq (.reg [dO 3 (.mv (.t 0)), dO 4 (.callc n_lex_begins [(.t 3), (.c (.fn (.func n_lex_letter) [] []))]), dO 5 (.mv (.t 4)), ⟨some 6, (some (5, true)), .mv (.t 0)⟩, ⟨some 7, (some (5, true)), .len true (.t 6)⟩, ⟨some 8, (some (5, true)), .ic .leq (.t 7) (.c (.int .i64 8))⟩, dO 9 (.pick (.t 5) (.t 8) (.c (.bool false))), dO 10 (.mv (.t 9)), ⟨some 11, (some (10, true)), .mv (.t 0)⟩, ⟨some 12, (some (10, true)), .callc n_lex_run [(.t 11), (.c (.fn (.func n_lex_inner) [] []))]⟩, ⟨some 13, (some (10, true)), .mv (.t 0)⟩, ⟨some 14, (some (10, true)), .sop .eql (.t 12) (.t 13)⟩, dO 15 (.pick (.t 10) (.t 14) (.c (.bool false))), dO 16 (.mv (.t 15)), ⟨some 17, (some (16, true)), .mv (.t 0)⟩, ⟨some 18, (some (16, true)), .callc n_lex_Key [(.t 17)]⟩, ⟨some 19, (some (16, true)), .notb (.t 18)⟩, dO 20 (.pick (.t 16) (.t 19) (.c (.bool false))), dO 2 (.tk (.t 20))])
 (.ret))) }

def b_lex_skip_0 : AC :=
 .block 1 (.seq (.reg [dO 4 (.mv (.t 0)), dO 5 (.callc n_strings_TrimLeft [(.t 4), (.c (.str [32, 9, 10]))]), dO 0 (.tk (.t 5))])
 (.seq (.seq (.reg [dO 6 (.mv (.t 0)), dO 7 (.callc n_strings_HasPrefix [(.t 6), (.c (.str [35]))]), dO 8 (.notb (.t 7))])
 (.cond (.t 8)
 (.seq (.reg [dO 9 (.mv (.t 0)), dO 2 (.tk (.t 9))])
 (.ret))
 (.skip)))
 (.seq (.reg [dO 10 (.mv (.t 0)), dO 11 (.callc n_strings_IndexByte [(.t 10), (.c (.int .u8 10))]), dO 3 (.tk (.t 11))])
 (.seq (.seq (.reg [dO 12 (.mv (.t 3)), dO 13 (.ic .lss (.t 12) (.c (.int .i64 0)))])
 (.cond (.t 13)
 (.seq (.reg [dO 2 (.tk (.c (.str [])))])
 (.ret))
 (.skip)))
 (.reg [dO 14 (.mv (.t 0)), dO 15 (.mv (.t 3)), dO 16 (.slc (.t 14) (some (.t 15)) none), dO 0 (.tk (.t 16))])))))

def l_lex_skip_0 : AC :=
 .loop [0] b_lex_skip_0

def c_lex_skip : AFunc :=
 { np := 1, res := [.t 2], body := (
 .seq (.reg [dO 2 (.tk (.c (.str [])))])
 (.block 0 (l_lex_skip_0))) }

def c_lex_next : AFunc :=
 { np := 1, res := [.cell 2 (some 4), .t 3, .t 4], body := (
 .seq (.reg [dO 2 (.alloc [.int .i64 0, .str [], .int .i64 0, .int .i64 0]), dO 3 (.tk (.c (.int .i64 0))), dO 4 (.tk (.c (.int .i64 0)))])
 (.seq (.block 0 (.seq (.reg [dO 6 (.mv (.t 0)), dO 7 (.callc n_lex_begins [(.t 6), (.c (.fn (.func n_lex_letter) [] []))]), dO 5 (.tk (.t 7))])
 (.cond (.t 5)
 (.seq (.reg [dO 8 (.mv (.t 0)), dO 9 (.callc n_lex_word [(.t 8)]), dO 10 (.ext (.t 9) 0), dO 11 (.ext (.t 9) 1), dO 12 (.ext (.t 9) 2), ⟨none, none, .st 4 (.t 2) (.t 10)⟩, dO 3 (.tk (.t 11)), dO 4 (.tk (.t 12))])
 (.ret))
 (.seq (.reg [dO 14 (.mv (.t 0)), dO 15 (.callc n_lex_begins [(.t 14), (.c (.fn (.func n_lex_digit) [] []))]), dO 13 (.tk (.t 15))])
 (.cond (.t 13)
 (.seq (.reg [dO 16 (.mv (.t 0)), dO 17 (.callc n_lex_number [(.t 16)]), dO 18 (.ext (.t 17) 0), dO 19 (.ext (.t 17) 1), dO 20 (.ext (.t 17) 2), ⟨none, none, .st 4 (.t 2) (.t 18)⟩, dO 3 (.tk (.t 19)), dO 4 (.tk (.t 20))])
 (.ret))
 (.seq (.reg [dO 22 (.mv (.t 0)), dO 23 (.ixs (.t 22) (.c (.int .i64 0))), dO 24 (.ic .eql (.t 23) (.c (.int .u8 34))), dO 21 (.tk (.t 24))])
 (.cond (.t 21)
 (.seq (.reg [dO 25 (.mv (.t 0)), dO 26 (.callc n_lex_text [(.t 25)]), dO 27 (.ext (.t 26) 0), dO 28 (.ext (.t 26) 1), dO 29 (.ext (.t 26) 2), ⟨none, none, .st 4 (.t 2) (.t 27)⟩, dO 3 (.tk (.t 28)), dO 4 (.tk (.t 29))])
 (.ret))
 (.skip))))))))
 (.seq (.reg [dO 30 (.mv (.t 0)), dO 31 (.callc n_lex_sign [(.t 30)]), dO 32 (.ext (.t 31) 0), dO 33 (.ext (.t 31) 1), dO 34 (.ext (.t 31) 2), ⟨none, none, .st 4 (.t 2) (.t 32)⟩, dO 3 (.tk (.t 33)), dO 4 (.tk (.t 34))])
 (.ret)))) }

def c_pp_named : AFunc :=
 { np := 3, res := [.t 6, .t 7], body := (
 .seq (.reg [dO 6 (.tk (.c (.str []))), dO 7 (.tk (.c (.bool false)))])
 (.seq (.reg [dO 11 (.mv (.t 0)), dO 12 (.nck (.t 11)), dO 13 (.fa 0 (.t 12)), dO 14 (.call n_pw_head [(.t 13)]), dO 8 (.alloc [.int .i64 0, .str [], .int .i64 0, .int .i64 0]), ⟨none, none, .st 4 (.t 8) (.t 14)⟩])
 (.seq (.seq (.reg [dO 16 (.mv (.t 0)), dO 17 (.nck (.t 16)), dO 18 (.fa 0 (.t 17)), dO 19 (.mv (.t 1)), dO 20 (.bsl 1 [.str []] 1 [(0, 1, (.t 19))] false), dO 21 (.call n_pw_takes [(.t 18), (.t 20)]), dO 15 (.mv (.t 21)), dO 22 (.ext (.t 15) 0), dO 23 (.ext (.t 15) 1), dO 9 (.tk (.t 22)), dO 10 (.tk (.t 23))])
 (.seq (.reg [dO 24 (.mv (.t 10)), dO 25 (.notb (.t 24))])
 (.cond (.t 25)
 (.seq (.reg [dO 6 (.tk (.c (.str []))), dO 7 (.tk (.c (.bool false)))])
 (.ret))
 (.skip))))
 (.seq (.seq (.reg [dO 26 (.mv (.t 2)), dO 27 (.ic .eql (.t 26) (.c (.int .i64 16)))])
 (.cond (.t 27)
 (.drw [[], [], [], [], []] [dO 28 (.mv (.t 0)), dO 29 (.nck (.t 28)), dO 30 (.fa 0 (.t 29)), dO 31 (.ld (some 4) (.t 8)), dO 32 (.call n_pw_fail [(.t 30), (.c (.int .i64 14)), (.t 31)])])
 (.skip)))
 (.seq (.reg [dO 33 (.mv (.t 0)), dO 34 (.nck (.t 33)), dO 35 (.fa 0 (.t 34)), dO 36 (.call n_pw_of [(.t 35), (.c (.int .i64 1))]), dO 37 (.fld none 1 (.t 36)), dO 6 (.tk (.t 37)), dO 7 (.tk (.c (.bool true)))])
 (.ret)))))) }

def b_pp_block_0 : AC :=
 .seq (.seq (.reg [dO 12 (.mv (.t 0)), dO 13 (.nck (.t 12)), dO 14 (.fa 0 (.t 13)), dO 15 (.fa 1 (.t 14)), dO 16 (.ld (some 2) (.t 15)), dO 17 (.bld [.int .i64 0, .int .i64 0] []), dO 18 (.eqa false [.int .i64, .int .i64] (.t 16) (.t 17))])
 (.cond (.t 18)
 (.skip)
 (.exit 0)))
 (.block 1 (.seq (.seq (.reg [dO 20 (.mv (.t 0)), dO 21 (.nck (.t 20)), dO 22 (.fa 0 (.t 21)), dO 23 (.bsl 1 [.str []] 1 [(0, 1, (.c (.str [125])))] false), dO 24 (.call n_pw_takes [(.t 22), (.t 23)]), dO 19 (.mv (.t 24)), dO 25 (.ext (.t 19) 0), dO 26 (.ext (.t 19) 1), dO 6 (.tk (.t 25)), dO 7 (.tk (.t 26))])
 (.seq (.reg [dO 27 (.mv (.t 7))])
 (.cond (.t 27)
 (.exit 0)
 (.skip))))
 (.reg [dO 28 (.tk (.t 5)), dO 29 (.mv (.t 0)), dO 30 (.mv (.t 1)), dO 31 (.call n_pp_stmt [(.t 29), (.t 30)]), dO 32 (.bsl 7 [.int .i64 0, .str [], .int .i64 0, .sl 4 [], .sl 7 [], .sl 7 [], .bool false] 1 [(0, 7, (.t 31))] false), dO 33 (.app 7 112 (.t 28) (.t 32) false), dO 5 (.tk (.t 33))])))

def l_pp_block_0 : AC :=
 .loop [0, 1, 5] b_pp_block_0

def r_pp_block_0 : AC :=
 .seq (.reg [dO 34 (.tk (.t 5)), dO 4 (.tk (.t 34))])
 (.ret)

def c_pp_block : AFunc :=
 { np := 2, res := [.t 4], body := (
 .seq (.reg [dO 4 (.tk (.c (.own 7 [])))])
 (.seq (.reg [dO 5 (.tk (.c (.own 7 [])))])
 (.seq (.reg [dO 8 (.mv (.t 0)), dO 9 (.nck (.t 8)), dO 10 (.fa 0 (.t 9)), dO 11 (.call n_pw_wants [(.t 10), (.c (.str [123]))])])
 (.seq (.block 0 (l_pp_block_0)) r_pp_block_0)))) }

def c_pw_wants : AFunc :=
 { np := 2, res := [], body := (
 .seq (.reg [dO 7 (.mv (.t 0)), dO 8 (.mv (.t 1)), dO 9 (.bsl 1 [.str []] 1 [(0, 1, (.t 8))] false), dO 10 (.call n_pw_takes [(.t 7), (.t 9)]), dO 6 (.mv (.t 10)), dO 11 (.ext (.t 6) 0), dO 12 (.ext (.t 6) 1), dO 4 (.tk (.t 11)), dO 5 (.tk (.t 12))])
 (.seq (.reg [dO 13 (.mv (.t 5)), dO 14 (.notb (.t 13))])
 (.cond (.t 14)
 (.reg [dO 15 (.mv (.t 0)), dO 16 (.mv (.t 0)), dO 17 (.call n_pw_head [(.t 16)]), dO 18 (.call n_pw_fail [(.t 15), (.c (.int .i64 12)), (.t 17)])])
 (.skip)))) }

def c_pw_takes : AFunc :=
 { np := 2, res := [.t 4, .t 5], body := (
 .seq (.reg [dO 4 (.tk (.c (.str []))), dO 5 (.tk (.c (.bool false)))])
 (.seq (.reg [dO 9 (.mv (.t 0)), dO 10 (.mv (.t 1)), dO 11 (.call n_pw_sees [(.t 9), (.t 10)]), dO 8 (.mv (.t 11)), dO 12 (.ext (.t 8) 0), dO 13 (.ext (.t 8) 1), dO 6 (.tk (.t 12)), dO 7 (.tk (.t 13))])
 (.seq (.seq (.reg [dO 14 (.mv (.t 7))])
 (.cond (.t 14)
 (.reg [dO 15 (.mv (.t 0)), dO 16 (.call n_pw_skip [(.t 15)])])
 (.skip)))
 (.seq (.reg [dO 17 (.mv (.t 6)), dO 18 (.mv (.t 7)), dO 4 (.tk (.t 17)), dO 5 (.tk (.t 18))])
 (.ret))))) }

def c_pw_of : AFunc :=
 { np := 2, res := [.cell 4 (some 4)], body := (
 .seq (.reg [dO 4 (.alloc [.int .i64 0, .str [], .int .i64 0, .int .i64 0])])
 (.seq (.seq (.reg [dO 6 (.mv (.t 0)), dO 7 (.call n_pw_head [(.t 6)]), dO 5 (.alloc [.int .i64 0, .str [], .int .i64 0, .int .i64 0]), ⟨none, none, .st 4 (.t 5) (.t 7)⟩])
 (.seq (.reg [dO 8 (.fa 0 (.t 5)), dO 9 (.ld none (.t 8)), dO 10 (.mv (.t 1)), dO 11 (.ic .neq (.t 9) (.t 10))])
 (.cond (.t 11)
 (.seq (.reg [dO 12 (.mv (.t 0)), dO 13 (.ld (some 4) (.t 5)), dO 14 (.call n_pw_fail [(.t 12), (.c (.int .i64 12)), (.t 13)])])
 (.seq (.reg [dO 15 (.bld [.int .i64 0, .str [], .int .i64 0, .int .i64 0] []), ⟨none, none, .st 4 (.t 4) (.t 15)⟩])
 (.ret)))
 (.skip))))
 (.seq (.reg [dO 16 (.mv (.t 0)), dO 17 (.call n_pw_skip [(.t 16)]), ⟨none, none, .st 4 (.t 4) (.t 17)⟩])
 (.ret)))) }

def b_r15_skip_0 : AC :=
 .seq (.seq (.reg [dO 13 (.mv (.t 1)), dO 14 (.mv (.t 0)), dO 15 (.len true (.t 14)), dO 16 (.ic .lss (.t 13) (.t 15)), dO 17 (.mv (.t 16)), ⟨some 18, (some (17, true)), .mv (.t 0)⟩, ⟨some 19, (some (17, true)), .mv (.t 1)⟩, ⟨some 20, (some (17, true)), .ixs (.t 18) (.t 19)⟩, ⟨some 21, (some (17, true)), .ic .neq (.t 20) (.c (.int .u8 10))⟩, dO 22 (.pick (.t 17) (.t 21) (.c (.bool false)))])
 (.cond (.t 22)
 (.skip)
 (.exit 2)))
 (.block 3 (.reg [dO 23 (.mv (.t 1)), dO 24 (.ia .add .i64 (.t 23) (.c (.int .i64 1))), dO 1 (.tk (.t 24))]))

def l_r15_skip_0 : AC :=
 .loop [0, 1] b_r15_skip_0

def r_r15_skip_0 : AC :=
 .seq (.seq (.reg [dO 25 (.mv (.t 0)), dO 26 (.mv (.t 1)), dO 27 (.ixs (.t 25) (.t 26)), dO 28 (.ic .neq (.t 27) (.c (.int .u8 32))), dO 29 (.mv (.t 28)), ⟨some 30, (some (29, true)), .mv (.t 0)⟩, ⟨some 31, (some (29, true)), .mv (.t 1)⟩, ⟨some 32, (some (29, true)), .ixs (.t 30) (.t 31)⟩, ⟨some 33, (some (29, true)), .ic .neq (.t 32) (.c (.int .u8 9))⟩, dO 34 (.pick (.t 29) (.t 33) (.c (.bool false))), dO 35 (.mv (.t 34)), ⟨some 36, (some (35, true)), .mv (.t 0)⟩, ⟨some 37, (some (35, true)), .mv (.t 1)⟩, ⟨some 38, (some (35, true)), .ixs (.t 36) (.t 37)⟩, ⟨some 39, (some (35, true)), .ic .neq (.t 38) (.c (.int .u8 10))⟩, dO 40 (.pick (.t 35) (.t 39) (.c (.bool false)))])
 (.cond (.t 40)
 (.seq (.reg [dO 41 (.mv (.t 1)), dO 4 (.tk (.t 41))])
 (.ret))
 (.skip)))
 (.reg [dO 42 (.mv (.t 1)), dO 43 (.ia .add .i64 (.t 42) (.c (.int .i64 1))), dO 1 (.tk (.t 43))])

def b_r15_skip_1 : AC :=
 .seq (.seq (.reg [dO 5 (.mv (.t 1)), dO 6 (.mv (.t 0)), dO 7 (.len true (.t 6)), dO 8 (.ic .lss (.t 5) (.t 7))])
 (.cond (.t 8)
 (.skip)
 (.exit 0)))
 (.block 1 (.seq (.seq (.reg [dO 9 (.mv (.t 0)), dO 10 (.mv (.t 1)), dO 11 (.ixs (.t 9) (.t 10)), dO 12 (.ic .eql (.t 11) (.c (.int .u8 35)))])
 (.cond (.t 12)
 (.seq (.block 2 (l_r15_skip_0))
 (.exit 1))
 (.skip))) r_r15_skip_0))

def l_r15_skip_1 : AC :=
 .loop [0, 1] b_r15_skip_1

def r_r15_skip_1 : AC :=
 .seq (.reg [dO 44 (.mv (.t 1)), dO 4 (.tk (.t 44))])
 (.ret)

def c_r15_skip : AFunc :=
 { np := 2, res := [.t 4], body := (
 .seq (.reg [dO 4 (.tk (.c (.int .i64 0)))])
 (.seq (.block 0 (l_r15_skip_1)) r_r15_skip_1)) }

def b_r15_one_0 : AC :=
 .seq (.seq (.reg [dO 19 (.mv (.t 7)), dO 20 (.mv (.t 0)), dO 21 (.len true (.t 20)), dO 22 (.ic .lss (.t 19) (.t 21)), dO 23 (.mv (.t 22)), ⟨some 24, (some (23, true)), .mv (.t 0)⟩, ⟨some 25, (some (23, true)), .mv (.t 7)⟩, ⟨some 26, (some (23, true)), .ixs (.t 24) (.t 25)⟩, ⟨some 27, (some (23, true)), .callc n_r15_inner [(.t 26)]⟩, dO 28 (.pick (.t 23) (.t 27) (.c (.bool false)))])
 (.cond (.t 28)
 (.skip)
 (.exit 0)))
 (.block 1 (.reg [dO 29 (.mv (.t 7)), dO 30 (.ia .add .i64 (.t 29) (.c (.int .i64 1))), dO 7 (.tk (.t 30))]))

def l_r15_one_0 : AC :=
 .loop [0, 1, 4, 7] b_r15_one_0

def r_r15_one_0 : AC :=
 .seq (.reg [dO 31 (.mv (.t 0)), dO 32 (.mv (.t 1)), dO 33 (.mv (.t 7)), dO 34 (.slc (.t 31) (some (.t 32)) (some (.t 33))), dO 8 (.tk (.t 34))])
 (.seq (.seq (.reg [dO 35 (.mv (.t 8)), dO 36 (.callc n_r15_Key [(.t 35)])])
 (.cond (.t 36)
 (.seq (.reg [dO 37 (.mv (.t 8)), dO 38 (.mv (.t 1)), dO 39 (.bld [.int .i64 0, .str [], .int .i64 0, .int .i64 0] [(0, 1, (.c (.int .i64 4))), (1, 1, (.t 37)), (3, 1, (.t 38))]), dO 40 (.mv (.t 7)), ⟨none, none, .st 4 (.t 4) (.t 39)⟩, dO 5 (.tk (.t 40)), dO 6 (.tk (.c (.int .i64 0)))])
 (.ret))
 (.skip)))
 (.seq (.seq (.reg [dO 41 (.mv (.t 8)), dO 42 (.callc n_r15_Name [(.t 41)])])
 (.cond (.t 42)
 (.seq (.reg [dO 43 (.mv (.t 8)), dO 44 (.mv (.t 1)), dO 45 (.bld [.int .i64 0, .str [], .int .i64 0, .int .i64 0] [(0, 1, (.c (.int .i64 1))), (1, 1, (.t 43)), (3, 1, (.t 44))]), dO 46 (.mv (.t 7)), ⟨none, none, .st 4 (.t 4) (.t 45)⟩, dO 5 (.tk (.t 46)), dO 6 (.tk (.c (.int .i64 0)))])
 (.ret))
 (.skip)))
 (.seq (.reg [dO 47 (.bld [.int .i64 0, .str [], .int .i64 0, .int .i64 0] []), dO 48 (.mv (.t 7)), ⟨none, none, .st 4 (.t 4) (.t 47)⟩, dO 5 (.tk (.t 48)), dO 6 (.tk (.c (.int .i64 14)))])
 (.ret))))

def b_r15_one_1 : AC :=
 .seq (.seq (.reg [dO 53 (.mv (.t 7)), dO 54 (.mv (.t 0)), dO 55 (.len true (.t 54)), dO 56 (.ic .lss (.t 53) (.t 55)), dO 57 (.mv (.t 56)), ⟨some 58, (some (57, true)), .mv (.t 0)⟩, ⟨some 59, (some (57, true)), .mv (.t 7)⟩, ⟨some 60, (some (57, true)), .ixs (.t 58) (.t 59)⟩, ⟨some 61, (some (57, true)), .callc n_r15_digit [(.t 60)]⟩, dO 62 (.pick (.t 57) (.t 61) (.c (.bool false)))])
 (.cond (.t 62)
 (.skip)
 (.exit 2)))
 (.block 3 (.reg [dO 63 (.mv (.t 7)), dO 64 (.ia .add .i64 (.t 63) (.c (.int .i64 1))), dO 7 (.tk (.t 64))]))

def l_r15_one_1 : AC :=
 .loop [0, 1, 4, 7] b_r15_one_1

def r_r15_one_1 : AC :=
 .seq (.reg [dO 66 (.mv (.t 0)), dO 67 (.mv (.t 1)), dO 68 (.mv (.t 7)), dO 69 (.slc (.t 66) (some (.t 67)) (some (.t 68))), dO 70 (.callc n_r01_Read [(.t 69)]), dO 65 (.mv (.t 70)), dO 71 (.ext (.t 65) 0), dO 72 (.ext (.t 65) 1), dO 9 (.tk (.t 71)), dO 10 (.tk (.t 72))])
 (.seq (.seq (.reg [dO 73 (.mv (.t 10)), dO 74 (.notb (.t 73))])
 (.cond (.t 74)
 (.seq (.reg [dO 75 (.bld [.int .i64 0, .str [], .int .i64 0, .int .i64 0] []), dO 76 (.mv (.t 7)), ⟨none, none, .st 4 (.t 4) (.t 75)⟩, dO 5 (.tk (.t 76)), dO 6 (.tk (.c (.int .i64 12)))])
 (.ret))
 (.skip)))
 (.seq (.reg [dO 77 (.mv (.t 9)), dO 78 (.mv (.t 1)), dO 79 (.bld [.int .i64 0, .str [], .int .i64 0, .int .i64 0] [(0, 1, (.c (.int .i64 2))), (2, 1, (.t 77)), (3, 1, (.t 78))]), dO 80 (.mv (.t 7)), ⟨none, none, .st 4 (.t 4) (.t 79)⟩, dO 5 (.tk (.t 80)), dO 6 (.tk (.c (.int .i64 0)))])
 (.ret)))

def b_r15_one_2 : AC :=
 .seq (.seq (.reg [dO 85 (.mv (.t 7)), dO 86 (.mv (.t 0)), dO 87 (.len true (.t 86)), dO 88 (.ic .lss (.t 85) (.t 87)), dO 89 (.mv (.t 88)), ⟨some 90, (some (89, true)), .mv (.t 0)⟩, ⟨some 91, (some (89, true)), .mv (.t 7)⟩, ⟨some 92, (some (89, true)), .ixs (.t 90) (.t 91)⟩, ⟨some 93, (some (89, true)), .ic .neq (.t 92) (.c (.int .u8 34))⟩, dO 94 (.pick (.t 89) (.t 93) (.c (.bool false)))])
 (.cond (.t 94)
 (.skip)
 (.exit 4)))
 (.block 5 (.reg [dO 95 (.mv (.t 7)), dO 96 (.ia .add .i64 (.t 95) (.c (.int .i64 1))), dO 7 (.tk (.t 96))]))

def l_r15_one_2 : AC :=
 .loop [0, 1, 4, 7] b_r15_one_2

def r_r15_one_2 : AC :=
 .seq (.seq (.reg [dO 97 (.mv (.t 7)), dO 98 (.mv (.t 0)), dO 99 (.len true (.t 98)), dO 100 (.ic .eql (.t 97) (.t 99))])
 (.cond (.t 100)
 (.seq (.reg [dO 101 (.bld [.int .i64 0, .str [], .int .i64 0, .int .i64 0] []), dO 102 (.mv (.t 7)), ⟨none, none, .st 4 (.t 4) (.t 101)⟩, dO 5 (.tk (.t 102)), dO 6 (.tk (.c (.int .i64 12)))])
 (.ret))
 (.skip)))
 (.seq (.reg [dO 104 (.mv (.t 0)), dO 105 (.mv (.t 1)), dO 106 (.mv (.t 7)), dO 107 (.ia .add .i64 (.t 106) (.c (.int .i64 1))), dO 108 (.slc (.t 104) (some (.t 105)) (some (.t 107))), dO 109 (.callc n_r14_Unquote [(.t 108)]), dO 103 (.mv (.t 109)), dO 110 (.ext (.t 103) 0), dO 111 (.ext (.t 103) 1), dO 11 (.tk (.t 110)), dO 12 (.tk (.t 111))])
 (.seq (.seq (.reg [dO 112 (.mv (.t 12)), dO 113 (.notb (.t 112))])
 (.cond (.t 113)
 (.seq (.reg [dO 114 (.bld [.int .i64 0, .str [], .int .i64 0, .int .i64 0] []), dO 115 (.mv (.t 7)), ⟨none, none, .st 4 (.t 4) (.t 114)⟩, dO 5 (.tk (.t 115)), dO 6 (.tk (.c (.int .i64 12)))])
 (.ret))
 (.skip)))
 (.seq (.seq (.reg [dO 116 (.mv (.t 11)), dO 117 (.len true (.t 116)), dO 118 (.ic .gtr (.t 117) (.c (.int .i64 64)))])
 (.cond (.t 118)
 (.seq (.reg [dO 119 (.bld [.int .i64 0, .str [], .int .i64 0, .int .i64 0] []), dO 120 (.mv (.t 7)), ⟨none, none, .st 4 (.t 4) (.t 119)⟩, dO 5 (.tk (.t 120)), dO 6 (.tk (.c (.int .i64 14)))])
 (.ret))
 (.skip)))
 (.seq (.reg [dO 121 (.mv (.t 11)), dO 122 (.mv (.t 1)), dO 123 (.bld [.int .i64 0, .str [], .int .i64 0, .int .i64 0] [(0, 1, (.c (.int .i64 3))), (1, 1, (.t 121)), (3, 1, (.t 122))]), dO 124 (.mv (.t 7)), dO 125 (.ia .add .i64 (.t 124) (.c (.int .i64 1))), ⟨none, none, .st 4 (.t 4) (.t 123)⟩, dO 5 (.tk (.t 125)), dO 6 (.tk (.c (.int .i64 0)))])
 (.ret)))))

def r_r15_one_3 : AC :=
 .seq (.seq (.reg [dO 126 (.mv (.t 7)), dO 127 (.mv (.t 0)), dO 128 (.len true (.t 127)), dO 129 (.ic .lss (.t 126) (.t 128)), dO 130 (.mv (.t 129)), ⟨some 131, (some (130, true)), .mv (.t 0)⟩, ⟨some 132, (some (130, true)), .mv (.t 1)⟩, ⟨some 133, (some (130, true)), .mv (.t 7)⟩, ⟨some 134, (some (130, true)), .ia .add .i64 (.t 133) (.c (.int .i64 1))⟩, ⟨some 135, (some (130, true)), .slc (.t 131) (some (.t 132)) (some (.t 134))⟩, ⟨some 136, (some (130, true)), .callc n_r15_Sign [(.t 135)]⟩, dO 137 (.pick (.t 130) (.t 136) (.c (.bool false)))])
 (.cond (.t 137)
 (.reg [dO 138 (.mv (.t 7)), dO 139 (.ia .add .i64 (.t 138) (.c (.int .i64 1))), dO 7 (.tk (.t 139))])
 (.skip)))
 (.seq (.seq (.reg [dO 140 (.mv (.t 0)), dO 141 (.mv (.t 1)), dO 142 (.mv (.t 7)), dO 143 (.slc (.t 140) (some (.t 141)) (some (.t 142))), dO 144 (.callc n_r15_Sign [(.t 143)]), dO 145 (.notb (.t 144))])
 (.cond (.t 145)
 (.seq (.reg [dO 146 (.bld [.int .i64 0, .str [], .int .i64 0, .int .i64 0] []), dO 147 (.mv (.t 7)), ⟨none, none, .st 4 (.t 4) (.t 146)⟩, dO 5 (.tk (.t 147)), dO 6 (.tk (.c (.int .i64 12)))])
 (.ret))
 (.skip)))
 (.seq (.reg [dO 148 (.mv (.t 0)), dO 149 (.mv (.t 1)), dO 150 (.mv (.t 7)), dO 151 (.slc (.t 148) (some (.t 149)) (some (.t 150))), dO 152 (.mv (.t 1)), dO 153 (.bld [.int .i64 0, .str [], .int .i64 0, .int .i64 0] [(0, 1, (.c (.int .i64 5))), (1, 1, (.t 151)), (3, 1, (.t 152))]), dO 154 (.mv (.t 7)), ⟨none, none, .st 4 (.t 4) (.t 153)⟩, dO 5 (.tk (.t 154)), dO 6 (.tk (.c (.int .i64 0)))])
 (.ret)))

def r_r15_one_4 : AC :=
 .seq (.seq (.reg [dO 81 (.mv (.t 0)), dO 82 (.mv (.t 1)), dO 83 (.ixs (.t 81) (.t 82)), dO 84 (.ic .eql (.t 83) (.c (.int .u8 34)))])
 (.cond (.t 84)
 (.seq (.block 4 (l_r15_one_2)) r_r15_one_2)
 (.skip))) r_r15_one_3

def r_r15_one_5 : AC :=
 .seq (.seq (.reg [dO 49 (.mv (.t 0)), dO 50 (.mv (.t 1)), dO 51 (.ixs (.t 49) (.t 50)), dO 52 (.callc n_r15_digit [(.t 51)])])
 (.cond (.t 52)
 (.seq (.block 2 (l_r15_one_1)) r_r15_one_1)
 (.skip))) r_r15_one_4

def c_r15_one : AFunc :=
 { np := 2, res := [.cell 4 (some 4), .t 5, .t 6], body := (
 .seq (.reg [dO 4 (.alloc [.int .i64 0, .str [], .int .i64 0, .int .i64 0]), dO 5 (.tk (.c (.int .i64 0))), dO 6 (.tk (.c (.int .i64 0)))])
 (.seq (.reg [dO 13 (.mv (.t 1)), dO 14 (.ia .add .i64 (.t 13) (.c (.int .i64 1))), dO 7 (.tk (.t 14))])
 (.seq (.seq (.reg [dO 15 (.mv (.t 0)), dO 16 (.mv (.t 1)), dO 17 (.ixs (.t 15) (.t 16)), dO 18 (.callc n_r15_letter [(.t 17)])])
 (.cond (.t 18)
 (.seq (.block 0 (l_r15_one_0)) r_r15_one_0)
 (.skip))) r_r15_one_5))) }

def c_rt_stmt : AFunc :=
 { np := 2, res := [.cell 4 (some 7)], body := (
 .seq (.reg [dO 4 (.alloc [.int .i64 0, .str [], .int .i64 0, .own 4 [], .own 7 [], .own 7 [], .bool false])])
 (.seq (.reg [dO 14 (.mv (.t 0)), dO 15 (.call n_rt_now [(.t 14)]), dO 5 (.alloc [.int .i64 0, .str [], .int .i64 0, .int .i64 0]), ⟨none, none, .st 4 (.t 5) (.t 15)⟩])
 (.seq (.seq (.reg [dO 16 (.fa 1 (.t 5)), dO 17 (.ld none (.t 16)), dO 18 (.callc n_r17_simple [(.t 17)]), dO 6 (.tk (.t 18))])
 (.seq (.reg [dO 19 (.mv (.t 6)), dO 20 (.ic .gtr (.t 19) (.c (.int .i64 0))), dO 21 (.mv (.t 20)), ⟨some 22, (some (21, true)), .fa 0 (.t 5)⟩, ⟨some 23, (some (21, true)), .ld none (.t 22)⟩, ⟨some 24, (some (21, true)), .ic .eql (.t 23) (.c (.int .i64 4))⟩, dO 25 (.pick (.t 21) (.t 24) (.c (.bool false)))])
 (.cond (.t 25)
 (.seq (.reg [dO 26 (.mv (.t 0)), dO 27 (.mv (.t 1)), dO 28 (.call n_rt_begin [(.t 26), (.t 27)])])
 (.seq (.reg [dO 29 (.mv (.t 0)), dO 30 (.nck (.t 29)), dO 31 (.fa 1 (.t 30)), dO 32 (.ld none (.t 31)), dO 33 (.ia .add .i64 (.t 32) (.c (.int .i64 1))), dO 34 (.nck (.t 29)), dO 35 (.fa 1 (.t 34)), ⟨none, none, .st 1 (.t 35) (.t 33)⟩])
 (.seq (.reg [dO 37 (.mv (.t 6)), dO 38 (.callc n_r16_Exprs [(.t 37)]), dO 36 (.mv (.t 38)), dO 39 (.ext (.t 36) 0), dO 40 (.ext (.t 36) 1), dO 7 (.tk (.t 39)), dO 8 (.tk (.t 40))])
 (.seq (.reg [dO 41 (.mv (.t 6)), dO 42 (.mv (.t 0)), dO 43 (.mv (.t 7)), dO 44 (.call n_rt_exprs [(.t 42), (.t 43)]), dO 45 (.bld [.int .i64 0, .str [], .int .i64 0, .sl 4 [], .sl 7 [], .sl 7 [], .bool false] [(0, 1, (.t 41)), (3, 1, (.t 44))]), ⟨none, none, .st 7 (.t 4) (.t 45)⟩])
 (.ret)))))
 (.skip))))
 (.seq (.seq (.reg [dO 46 (.mv (.t 0)), dO 47 (.call n_rt_is [(.t 46), (.c (.str [98, 97, 114, 114, 105, 101, 114]))])])
 (.cond (.t 47)
 (.seq (.reg [dO 48 (.mv (.t 0)), dO 49 (.mv (.t 1)), dO 50 (.call n_rt_begin [(.t 48), (.t 49)])])
 (.seq (.reg [dO 51 (.mv (.t 0)), dO 52 (.nck (.t 51)), dO 53 (.fa 1 (.t 52)), dO 54 (.ld none (.t 53)), dO 55 (.ia .add .i64 (.t 54) (.c (.int .i64 1))), dO 56 (.nck (.t 51)), dO 57 (.fa 1 (.t 56)), ⟨none, none, .st 1 (.t 57) (.t 55)⟩])
 (.seq (.reg [dO 58 (.mv (.t 0)), dO 59 (.call n_rt_need [(.t 58), (.c (.str [59]))])])
 (.seq (.reg [dO 60 (.bld [.int .i64 0, .str [], .int .i64 0, .sl 4 [], .sl 7 [], .sl 7 [], .bool false] [(0, 1, (.c (.int .i64 11)))]), ⟨none, none, .st 7 (.t 4) (.t 60)⟩])
 (.ret)))))
 (.skip)))
 (.seq (.seq (.reg [dO 61 (.mv (.t 0)), dO 62 (.call n_rt_is [(.t 61), (.c (.str [108, 101, 116]))])])
 (.cond (.t 62)
 (.seq (.reg [dO 63 (.mv (.t 0)), dO 64 (.mv (.t 1)), dO 65 (.call n_rt_begin [(.t 63), (.t 64)])])
 (.seq (.reg [dO 66 (.mv (.t 0)), dO 67 (.nck (.t 66)), dO 68 (.fa 1 (.t 67)), dO 69 (.ld none (.t 68)), dO 70 (.ia .add .i64 (.t 69) (.c (.int .i64 1))), dO 71 (.nck (.t 66)), dO 72 (.fa 1 (.t 71)), ⟨none, none, .st 1 (.t 72) (.t 70)⟩])
 (.seq (.reg [dO 73 (.mv (.t 0)), dO 74 (.call n_rt_kind [(.t 73), (.c (.int .i64 1))]), dO 9 (.alloc [.int .i64 0, .str [], .int .i64 0, .int .i64 0]), ⟨none, none, .st 4 (.t 9) (.t 74)⟩])
 (.seq (.reg [dO 75 (.mv (.t 0)), dO 76 (.call n_rt_need [(.t 75), (.c (.str [61]))])])
 (.seq (.drw [[], [], [], [], [], []] [dO 77 (.fa 1 (.t 9)), dO 78 (.ldq none (.t 77) (.t 9)), dO 79 (.mv (.t 0)), dO 80 (.callh n_rt_exprs [(.t 79), (.c (.int .i64 1))] (.t 9)), dO 81 (.bld [.int .i64 0, .str [], .int .i64 0, .sl 4 [], .sl 7 [], .sl 7 [], .bool false] [(0, 1, (.c (.int .i64 12))), (1, 1, (.t 78)), (3, 1, (.t 80))]), ⟨none, none, .st 7 (.t 4) (.t 81)⟩])
 (.ret))))))
 (.skip)))
 (.seq (.seq (.reg [dO 82 (.mv (.t 0)), dO 83 (.call n_rt_is [(.t 82), (.c (.str [99, 97, 108, 108]))])])
 (.cond (.t 83)
 (.seq (.reg [dO 84 (.mv (.t 0)), dO 85 (.mv (.t 1)), dO 86 (.call n_rt_begin [(.t 84), (.t 85)])])
 (.seq (.reg [dO 87 (.mv (.t 0)), dO 88 (.nck (.t 87)), dO 89 (.fa 1 (.t 88)), dO 90 (.ld none (.t 89)), dO 91 (.ia .add .i64 (.t 90) (.c (.int .i64 1))), dO 92 (.nck (.t 87)), dO 93 (.fa 1 (.t 92)), ⟨none, none, .st 1 (.t 93) (.t 91)⟩])
 (.seq (.reg [dO 94 (.mv (.t 0)), dO 95 (.call n_rt_kind [(.t 94), (.c (.int .i64 1))]), dO 10 (.alloc [.int .i64 0, .str [], .int .i64 0, .int .i64 0]), ⟨none, none, .st 4 (.t 10) (.t 95)⟩])
 (.seq (.reg [dO 96 (.mv (.t 0)), dO 97 (.call n_rt_need [(.t 96), (.c (.str [59]))])])
 (.seq (.reg [dO 98 (.fa 1 (.t 10)), dO 99 (.ld none (.t 98)), dO 100 (.bld [.int .i64 0, .str [], .int .i64 0, .sl 4 [], .sl 7 [], .sl 7 [], .bool false] [(0, 1, (.c (.int .i64 15))), (1, 1, (.t 99))]), ⟨none, none, .st 7 (.t 4) (.t 100)⟩])
 (.ret))))))
 (.skip)))
 (.seq (.seq (.reg [dO 101 (.mv (.t 0)), dO 102 (.call n_rt_is [(.t 101), (.c (.str [105, 102]))])])
 (.cond (.t 102)
 (.seq (.reg [dO 103 (.mv (.t 0)), dO 104 (.mv (.t 1)), dO 105 (.call n_rt_begin [(.t 103), (.t 104)])])
 (.seq (.reg [dO 106 (.mv (.t 0)), dO 107 (.nck (.t 106)), dO 108 (.fa 1 (.t 107)), dO 109 (.ld none (.t 108)), dO 110 (.ia .add .i64 (.t 109) (.c (.int .i64 1))), dO 111 (.nck (.t 106)), dO 112 (.fa 1 (.t 111)), ⟨none, none, .st 1 (.t 112) (.t 110)⟩])
 (.seq (.reg [dO 113 (.mv (.t 0)), dO 114 (.bsl 1 [.str []] 1 [(0, 1, (.c (.str [123])))] false), dO 115 (.call n_rt_whole [(.t 113), (.t 114)]), dO 11 (.alloc [.int .i64 0, .int .i64 0, .str [], .own 4 []]), ⟨none, none, .st 4 (.t 11) (.t 115)⟩])
 (.seq (.reg [dO 116 (.ld (some 4) (.t 11)), dO 117 (.bsl 4 [.int .i64 0, .int .i64 0, .str [], .sl 4 []] 1 [(0, 4, (.t 116))] false), dO 118 (.bld [.int .i64 0, .str [], .int .i64 0, .sl 4 [], .sl 7 [], .sl 7 [], .bool false] [(0, 1, (.c (.int .i64 13))), (3, 1, (.t 117))]), dO 12 (.alloc [.int .i64 0, .str [], .int .i64 0, .own 4 [], .own 7 [], .own 7 [], .bool false]), ⟨none, none, .st 7 (.t 12) (.t 118)⟩])
 (.seq (.reg [dO 119 (.mv (.t 0)), dO 120 (.mv (.t 1)), dO 121 (.ia .add .i64 (.t 120) (.c (.int .i64 1))), dO 122 (.call n_rt_block [(.t 119), (.t 121)]), dO 123 (.fa 4 (.t 12)), ⟨none, none, .st 1 (.t 123) (.t 122)⟩])
 (.seq (.seq (.reg [dO 124 (.mv (.t 0)), dO 125 (.call n_rt_take [(.t 124), (.c (.str [101, 108, 115, 101]))])])
 (.cond (.t 125)
 (.reg [dO 126 (.mv (.t 0)), dO 127 (.mv (.t 1)), dO 128 (.ia .add .i64 (.t 127) (.c (.int .i64 1))), dO 129 (.call n_rt_block [(.t 126), (.t 128)]), dO 130 (.fa 5 (.t 12)), ⟨none, none, .st 1 (.t 130) (.t 129)⟩])
 (.skip)))
 (.seq (.reg [dO 131 (.ld (some 7) (.t 12)), ⟨none, none, .st 7 (.t 4) (.t 131)⟩])
 (.ret))))))))
 (.skip)))
 (.seq (.seq (.reg [dO 132 (.mv (.t 0)), dO 133 (.call n_rt_is [(.t 132), (.c (.str [114, 101, 112, 101, 97, 116]))])])
 (.cond (.t 133)
 (.seq (.reg [dO 134 (.mv (.t 0)), dO 135 (.mv (.t 1)), dO 136 (.call n_rt_begin [(.t 134), (.t 135)])])
 (.seq (.reg [dO 137 (.mv (.t 0)), dO 138 (.nck (.t 137)), dO 139 (.fa 1 (.t 138)), dO 140 (.ld none (.t 139)), dO 141 (.ia .add .i64 (.t 140) (.c (.int .i64 1))), dO 142 (.nck (.t 137)), dO 143 (.fa 1 (.t 142)), ⟨none, none, .st 1 (.t 143) (.t 141)⟩])
 (.seq (.reg [dO 144 (.mv (.t 0)), dO 145 (.call n_rt_kind [(.t 144), (.c (.int .i64 2))]), dO 13 (.alloc [.int .i64 0, .str [], .int .i64 0, .int .i64 0]), ⟨none, none, .st 4 (.t 13) (.t 145)⟩])
 (.seq (.seq (.reg [dO 146 (.fa 2 (.t 13)), dO 147 (.ld none (.t 146)), dO 148 (.ic .gtr (.t 147) (.c (.int .i64 16)))])
 (.cond (.t 148)
 (.reg [dO 149 (.mv (.t 0)), dO 150 (.ld (some 4) (.t 13)), dO 151 (.call n_rt_fail [(.t 149), (.c (.int .i64 14)), (.t 150)])])
 (.skip)))
 (.seq (.drw [[], [], [], [], [], [], [], []] [dO 152 (.fa 2 (.t 13)), dO 153 (.ldq none (.t 152) (.t 13)), dO 154 (.mv (.t 0)), dO 155 (.mv (.t 1)), dO 156 (.ia .add .i64 (.t 155) (.c (.int .i64 1))), dO 157 (.callh n_rt_block [(.t 154), (.t 156)] (.t 13)), dO 158 (.bld [.int .i64 0, .str [], .int .i64 0, .sl 4 [], .sl 7 [], .sl 7 [], .bool false] [(0, 1, (.c (.int .i64 14))), (2, 1, (.t 153)), (4, 1, (.t 157))]), ⟨none, none, .st 7 (.t 4) (.t 158)⟩])
 (.ret))))))
 (.skip)))
 (.seq (.seq (.reg [dO 159 (.mv (.t 0)), dO 160 (.call n_rt_is [(.t 159), (.c (.str [116, 120, 110]))])])
 (.cond (.t 160)
 (.seq (.reg [dO 161 (.mv (.t 0)), dO 162 (.mv (.t 1)), dO 163 (.call n_rt_begin [(.t 161), (.t 162)])])
 (.seq (.reg [dO 164 (.mv (.t 0)), dO 165 (.nck (.t 164)), dO 166 (.fa 1 (.t 165)), dO 167 (.ld none (.t 166)), dO 168 (.ia .add .i64 (.t 167) (.c (.int .i64 1))), dO 169 (.nck (.t 164)), dO 170 (.fa 1 (.t 169)), ⟨none, none, .st 1 (.t 170) (.t 168)⟩])
 (.seq (.reg [dO 171 (.mv (.t 0)), dO 172 (.mv (.t 1)), dO 173 (.call n_rt_txn [(.t 171), (.t 172)]), ⟨none, none, .st 7 (.t 4) (.t 173)⟩])
 (.ret))))
 (.skip)))
 (.seq (.reg [dO 174 (.mv (.t 0)), dO 175 (.ld (some 4) (.t 5)), dO 176 (.call n_rt_fail [(.t 174), (.c (.int .i64 12)), (.t 175)])])
 (.seq (.reg [dO 177 (.bld [.int .i64 0, .str [], .int .i64 0, .sl 4 [], .sl 7 [], .sl 7 [], .bool false] []), ⟨none, none, .st 7 (.t 4) (.t 177)⟩])
 (.ret)))))))))))) }

def b_rt_expr_0 : AC :=
 .seq (.seq (.reg [dO 7 (.mv (.t 0)), dO 8 (.call n_rt_take [(.t 7), (.c (.str [111, 114]))])])
 (.cond (.t 8)
 (.skip)
 (.exit 0)))
 (.block 1 (.seq (.reg [dO 9 (.mv (.t 0)), dO 10 (.call n_rt_both [(.t 9)]), dO 4 (.alloc [.int .i64 0, .int .i64 0, .str [], .own 4 []]), ⟨none, none, .st 4 (.t 4) (.t 10)⟩])
 (.reg [dO 11 (.ld (some 4) (.t 3)), dO 12 (.ld (some 4) (.t 4)), dO 13 (.callc n_r17_two [(.c (.int .i64 14)), (.t 11), (.t 12)]), ⟨none, none, .st 4 (.t 3) (.t 13)⟩])))

def l_rt_expr_0 : AC :=
 .loop [0, 2, 3] b_rt_expr_0

def r_rt_expr_0 : AC :=
 .seq (.reg [dO 14 (.ld (some 4) (.t 3)), ⟨none, none, .st 4 (.t 2) (.t 14)⟩])
 (.ret)

def c_rt_expr : AFunc :=
 { np := 1, res := [.cell 2 (some 4)], body := (
 .seq (.reg [dO 2 (.alloc [.int .i64 0, .int .i64 0, .str [], .own 4 []])])
 (.seq (.reg [dO 5 (.mv (.t 0)), dO 6 (.call n_rt_both [(.t 5)]), dO 3 (.alloc [.int .i64 0, .int .i64 0, .str [], .own 4 []]), ⟨none, none, .st 4 (.t 3) (.t 6)⟩])
 (.seq (.block 0 (l_rt_expr_0)) r_rt_expr_0))) }

def b_r17_Deep_0 : AC :=
 .seq (.seq (.reg [dO 5 (.mv (.t 4)), dO 6 (.fa 3 (.t 1)), dO 7 (.ld none (.t 6)), dO 8 (.len false (.t 7)), dO 9 (.ic .lss (.t 5) (.t 8))])
 (.cond (.t 9)
 (.skip)
 (.exit 0)))
 (.seq (.block 1 (.reg [dO 12 (.mv (.t 3)), dO 13 (.fa 3 (.t 1)), dO 14 (.ld none (.t 13)), dO 15 (.mv (.t 4)), dO 16 (.ixa 4 none (.t 14) (.t 15)), dO 17 (.ld (some 4) (.t 16)), dO 18 (.callc n_r17_Deep [(.t 17)]), dO 19 (.mx true [(.t 12), (.t 18)]), dO 3 (.tk (.t 19))]))
 (.reg [dO 10 (.mv (.t 4)), dO 11 (.ia .add .i64 (.t 10) (.c (.int .i64 1))), dO 4 (.tk (.t 11))]))

def l_r17_Deep_0 : AC :=
 .loop [1, 3, 4] b_r17_Deep_0

def r_r17_Deep_0 : AC :=
 .seq (.reg [dO 20 (.mv (.t 3)), dO 21 (.ia .add .i64 (.t 20) (.c (.int .i64 1))), dO 2 (.tk (.t 21))])
 (.ret)

def c_r17_Deep : AFunc :=
 { np := 1, res := [.t 2], body := (
 .seq (.reg [dO 1 (.box (.t 0)), dO 2 (.tk (.c (.int .i64 0)))])
 (.seq (.reg [dO 3 (.tk (.c (.int .i64 0)))])
 (.seq (.seq (.reg [dO 4 (.tk (.c (.int .i64 0)))])
 (.block 0 (l_r17_Deep_0))) r_r17_Deep_0))) }

def c_pw_head : AFunc :=
 { np := 1, res := [.cell 2 (some 4)], body := (
 .seq (.reg [dO 2 (.alloc [.int .i64 0, .str [], .int .i64 0, .int .i64 0])])
 (.seq (.reg [dO 3 (.mv (.t 0)), dO 4 (.nck (.t 3)), dO 5 (.fa 0 (.t 4)), dO 6 (.ld none (.t 5)), dO 7 (.ixa 4 none (.t 6) (.c (.int .i64 0))), dO 8 (.ld (some 4) (.t 7)), ⟨none, none, .st 4 (.t 2) (.t 8)⟩])
 (.ret))) }

def c_pp_expr : AFunc :=
 { np := 1, res := [.cell 2 (some 4)], body := (
 .seq (.reg [dO 2 (.alloc [.int .i64 0, .int .i64 0, .str [], .own 4 []])])
 (.seq (.reg [dO 3 (.mv (.t 0)), dO 4 (.mv (.t 0)), dO 5 (.mkf (.func n_pp_both) [(.t 4)] []), dO 6 (.bsl 1 [.str []] 1 [(0, 1, (.c (.str [111, 114])))] false), dO 7 (.call n_pp_chain [(.t 3), (.t 5), (.c (.int .i64 4096)), (.t 6)]), ⟨none, none, .st 4 (.t 2) (.t 7)⟩])
 (.ret))) }

def b_pw_sees_0 : AC :=
 .seq (.reg [dO 22 (.ic .lss (.t 21) (.t 20))])
 (.seq (.cond (.t 22)
 (.skip)
 (.exit 0))
 (.seq (.block 1 (.seq (.reg [dO 23 (.ixa 1 none (.t 19) (.t 21)), dO 24 (.ld none (.t 23)), dO 8 (.tk (.t 24))])
 (.seq (.reg [dO 25 (.fa 1 (.t 6)), dO 26 (.ld none (.t 25)), dO 27 (.mv (.t 8)), dO 28 (.sop .eql (.t 26) (.t 27))])
 (.cond (.t 28)
 (.seq (.reg [dO 29 (.mv (.t 8)), dO 4 (.tk (.t 29)), dO 5 (.tk (.c (.bool true)))])
 (.ret))
 (.skip)))))
 (.reg [dO 30 (.ia .add .i64 (.t 21) (.c (.int .i64 1))), dO 21 (.mv (.t 30))])))

def l_pw_sees_0 : AC :=
 .loop [6, 19, 20, 21] b_pw_sees_0

def r_pw_sees_0 : AC :=
 .seq (.reg [dO 4 (.tk (.c (.str []))), dO 5 (.tk (.c (.bool false)))])
 (.ret)

def c_pw_sees : AFunc :=
 { np := 2, res := [.t 4, .t 5], body := (
 .seq (.reg [dO 4 (.tk (.c (.str []))), dO 5 (.tk (.c (.bool false)))])
 (.seq (.reg [dO 9 (.mv (.t 0)), dO 10 (.call n_pw_head [(.t 9)]), dO 6 (.alloc [.int .i64 0, .str [], .int .i64 0, .int .i64 0]), ⟨none, none, .st 4 (.t 6) (.t 10)⟩])
 (.seq (.seq (.reg [dO 11 (.fa 0 (.t 6)), dO 12 (.ld none (.t 11)), dO 13 (.ic .neq (.t 12) (.c (.int .i64 4))), dO 14 (.mv (.t 13)), ⟨some 15, (some (14, true)), .fa 0 (.t 6)⟩, ⟨some 16, (some (14, true)), .ld none (.t 15)⟩, ⟨some 17, (some (14, true)), .ic .neq (.t 16) (.c (.int .i64 5))⟩, dO 18 (.pick (.t 14) (.t 17) (.c (.bool false)))])
 (.cond (.t 18)
 (.seq (.reg [dO 4 (.tk (.c (.str []))), dO 5 (.tk (.c (.bool false)))])
 (.ret))
 (.skip)))
 (.seq (.seq (.reg [dO 19 (.mv (.t 1)), dO 20 (.len false (.t 19)), dO 21 (.mv (.c (.int .i64 0)))])
 (.block 0 (l_pw_sees_0))) r_pw_sees_0)))) }

def c_pw_fail : AFunc :=
 { np := 3, res := [], body := (
 .seq (.reg [dO 5 (.box (.t 2))])
 (.seq (.seq (.reg [dO 6 (.mv (.t 0)), dO 7 (.nck (.t 6)), dO 8 (.fa 1 (.t 7)), dO 9 (.ld (some 2) (.t 8)), dO 10 (.bld [.int .i64 0, .int .i64 0] []), dO 11 (.eqa false [.int .i64, .int .i64] (.t 9) (.t 10))])
 (.cond (.t 11)
 (.reg [dO 12 (.mv (.t 0)), dO 13 (.mv (.t 1)), dO 14 (.fa 3 (.t 5)), dO 15 (.ld none (.t 14)), dO 16 (.bld [.int .i64 0, .int .i64 0] [(0, 1, (.t 13)), (1, 1, (.t 15))]), dO 17 (.nck (.t 12)), dO 18 (.fa 1 (.t 17)), ⟨none, none, .st 2 (.t 18) (.t 16)⟩])
 (.skip)))
 (.reg [dO 19 (.mv (.t 0)), dO 20 (.bld [.int .i64 0, .str [], .int .i64 0, .int .i64 0] []), dO 21 (.bsl 4 [.int .i64 0, .str [], .int .i64 0, .int .i64 0] 1 [(0, 4, (.t 20))] false), dO 22 (.nck (.t 19)), dO 23 (.fa 0 (.t 22)), ⟨none, none, .st 1 (.t 23) (.t 21)⟩]))) }

def b_parse_deep_0 : AC :=
 .seq (.reg [dO 10 (.ic .lss (.t 9) (.t 8))])
 (.seq (.cond (.t 10)
 (.skip)
 (.exit 0))
 (.seq (.block 1 (.seq (.reg [dO 11 (.ixa 4 none (.t 7) (.t 9)), dO 12 (.ld (some 4) (.t 11)), dO 5 (.alloc [.int .i64 0, .int .i64 0, .str [], .own 4 []]), ⟨none, none, .st 4 (.t 5) (.t 12)⟩])
 (.reg [dO 13 (.mv (.t 3)), dO 14 (.ld (some 4) (.t 5)), dO 15 (.callc n_parse_deep [(.t 14)]), dO 16 (.mx true [(.t 13), (.t 15)]), dO 3 (.tk (.t 16))])))
 (.reg [dO 17 (.ia .add .i64 (.t 9) (.c (.int .i64 1))), dO 9 (.mv (.t 17))])))

def l_parse_deep_0 : AC :=
 .loop [3, 7, 8, 9] b_parse_deep_0

def r_parse_deep_0 : AC :=
 .seq (.reg [dO 18 (.mv (.t 3)), dO 19 (.ia .add .i64 (.t 18) (.c (.int .i64 1))), dO 2 (.tk (.t 19))])
 (.ret)

def c_parse_deep : AFunc :=
 { np := 1, res := [.t 2], body := (
 .seq (.reg [dO 1 (.box (.t 0)), dO 2 (.tk (.c (.int .i64 0)))])
 (.seq (.reg [dO 3 (.tk (.c (.int .i64 0)))])
 (.seq (.seq (.reg [dO 6 (.fa 3 (.t 1)), dO 7 (.ld none (.t 6)), dO 8 (.len false (.t 7)), dO 9 (.mv (.c (.int .i64 0)))])
 (.block 0 (l_parse_deep_0))) r_parse_deep_0))) }

def b_r16_SameStmt_0 : AC :=
 .seq (.seq (.reg [dO 41 (.mv (.t 5)), dO 42 (.fa 3 (.t 2)), dO 43 (.ld none (.t 42)), dO 44 (.len false (.t 43)), dO 45 (.ic .lss (.t 41) (.t 44))])
 (.cond (.t 45)
 (.skip)
 (.exit 0)))
 (.seq (.block 1 (.seq (.drw [[], [], [], [], [], [], [], [], [], [], [], []] [dO 48 (.fa 3 (.t 2)), dO 49 (.ld none (.t 48)), dO 50 (.mv (.t 5)), dO 51 (.ixa 4 none (.t 49) (.t 50)), dO 52 (.ld (some 4) (.t 51)), dO 53 (.fa 3 (.t 3)), dO 54 (.ld none (.t 53)), dO 55 (.mv (.t 5)), dO 56 (.ixa 4 none (.t 54) (.t 55)), dO 57 (.ld (some 4) (.t 56)), dO 58 (.callc n_r16_SameExpr [(.t 52), (.t 57)]), dO 59 (.notb (.t 58))])
 (.cond (.t 59)
 (.seq (.reg [dO 4 (.tk (.c (.bool false)))])
 (.ret))
 (.skip))))
 (.reg [dO 46 (.mv (.t 5)), dO 47 (.ia .add .i64 (.t 46) (.c (.int .i64 1))), dO 5 (.tk (.t 47))]))

def l_r16_SameStmt_0 : AC :=
 .loop [2, 3, 5] b_r16_SameStmt_0

def r_r16_SameStmt_0 : AC :=
 .seq (.reg [dO 60 (.fa 4 (.t 2)), dO 61 (.ld none (.t 60)), dO 62 (.fa 4 (.t 3)), dO 63 (.ld none (.t 62)), dO 64 (.callc n_r16_SameStmts [(.t 61), (.t 63)]), dO 65 (.mv (.t 64)), ⟨some 66, (some (65, true)), .fa 5 (.t 2)⟩, ⟨some 67, (some (65, true)), .ld none (.t 66)⟩, ⟨some 68, (some (65, true)), .fa 5 (.t 3)⟩, ⟨some 69, (some (65, true)), .ld none (.t 68)⟩, ⟨some 70, (some (65, true)), .callc n_r16_SameStmts [(.t 67), (.t 69)]⟩, dO 71 (.pick (.t 65) (.t 70) (.c (.bool false))), dO 4 (.tk (.t 71))])
 (.ret)

def c_r16_SameStmt : AFunc :=
 { np := 2, res := [.t 4], body := (
 .seq (.reg [dO 2 (.box (.t 0)), dO 3 (.box (.t 1)), dO 4 (.tk (.c (.bool false)))])
 (.seq (.seq (.reg [dO 6 (.fa 0 (.t 2)), dO 7 (.ld none (.t 6)), dO 8 (.fa 0 (.t 3)), dO 9 (.ld none (.t 8)), dO 10 (.ic .neq (.t 7) (.t 9)), dO 11 (.mv (.t 10)), ⟨some 12, (some (11, false)), .fa 1 (.t 2)⟩, ⟨some 13, (some (11, false)), .ld none (.t 12)⟩, ⟨some 14, (some (11, false)), .fa 1 (.t 3)⟩, ⟨some 15, (some (11, false)), .ld none (.t 14)⟩, ⟨some 16, (some (11, false)), .sop .neq (.t 13) (.t 15)⟩, dO 17 (.pick (.t 11) (.c (.bool true)) (.t 16)), dO 18 (.mv (.t 17)), ⟨some 19, (some (18, false)), .fa 2 (.t 2)⟩, ⟨some 20, (some (18, false)), .ld none (.t 19)⟩, ⟨some 21, (some (18, false)), .fa 2 (.t 3)⟩, ⟨some 22, (some (18, false)), .ld none (.t 21)⟩, ⟨some 23, (some (18, false)), .ic .neq (.t 20) (.t 22)⟩, dO 24 (.pick (.t 18) (.c (.bool true)) (.t 23)), dO 25 (.mv (.t 24)), ⟨some 26, (some (25, false)), .fa 6 (.t 2)⟩, ⟨some 27, (some (25, false)), .ld none (.t 26)⟩, ⟨some 28, (some (25, false)), .fa 6 (.t 3)⟩, ⟨some 29, (some (25, false)), .ld none (.t 28)⟩, ⟨some 30, (some (25, false)), .eqb true (.t 27) (.t 29)⟩, dO 31 (.pick (.t 25) (.c (.bool true)) (.t 30)), dO 32 (.mv (.t 31)), ⟨some 33, (some (32, false)), .fa 3 (.t 2)⟩, ⟨some 34, (some (32, false)), .ld none (.t 33)⟩, ⟨some 35, (some (32, false)), .len false (.t 34)⟩, ⟨some 36, (some (32, false)), .fa 3 (.t 3)⟩, ⟨some 37, (some (32, false)), .ld none (.t 36)⟩, ⟨some 38, (some (32, false)), .len false (.t 37)⟩, ⟨some 39, (some (32, false)), .ic .neq (.t 35) (.t 38)⟩, dO 40 (.pick (.t 32) (.c (.bool true)) (.t 39))])
 (.cond (.t 40)
 (.seq (.reg [dO 4 (.tk (.c (.bool false)))])
 (.ret))
 (.skip)))
 (.seq (.seq (.reg [dO 5 (.tk (.c (.int .i64 0)))])
 (.block 0 (l_r16_SameStmt_0))) r_r16_SameStmt_0))) }

def c_lex_begins : AFunc :=
 { np := 2, res := [.t 4], body := (
 .seq (.reg [dO 4 (.tk (.c (.bool false)))])
 (.seq (.reg [dO 5 (.mv (.t 0)), dO 6 (.sop .neq (.t 5) (.c (.str []))), dO 7 (.mv (.t 6)), ⟨some 8, (some (7, true)), .mv (.t 1)⟩, ⟨some 9, (some (7, true)), .mv (.t 0)⟩, ⟨some 10, (some (7, true)), .ixs (.t 9) (.c (.int .i64 0))⟩, ⟨some 11, (some (7, true)), .conv .i32 (.t 10)⟩, ⟨some 12, (some (7, true)), .callv (.t 8) [(.t 11)]⟩, dO 13 (.pick (.t 7) (.t 12) (.c (.bool false))), dO 4 (.tk (.t 13))])
 (.ret))) }

def c_lex_letter : AFunc :=
 { np := 1, res := [.t 2], body := (
 .seq (.reg [dO 2 (.tk (.c (.bool false)))])
 (.seq (.reg [dO 3 (.mv (.t 0)), dO 4 (.ic .geq (.t 3) (.c (.int .i32 97))), dO 5 (.mv (.t 4)), ⟨some 6, (some (5, true)), .mv (.t 0)⟩, ⟨some 7, (some (5, true)), .ic .leq (.t 6) (.c (.int .i32 122))⟩, dO 8 (.pick (.t 5) (.t 7) (.c (.bool false))), dO 2 (.tk (.t 8))])
 (.ret))) }

def c_lex_inner : AFunc :=
 { np := 1, res := [.t 2], body := (
 .seq (.reg [dO 2 (.tk (.c (.bool false)))])
 (.seq (.reg [dO 3 (.mv (.t 0)), dO 4 (.callc n_lex_letter [(.t 3)]), dO 5 (.mv (.t 4)), ⟨some 6, (some (5, false)), .mv (.t 0)⟩, ⟨some 7, (some (5, false)), .callc n_lex_digit [(.t 6)]⟩, dO 8 (.pick (.t 5) (.c (.bool true)) (.t 7)), dO 9 (.mv (.t 8)), ⟨some 10, (some (9, false)), .mv (.t 0)⟩, ⟨some 11, (some (9, false)), .ic .eql (.t 10) (.c (.int .i32 95))⟩, dO 12 (.pick (.t 9) (.c (.bool true)) (.t 11)), dO 2 (.tk (.t 12))])
 (.ret))) }

def c_lex_Key : AFunc :=
 { np := 1, res := [.t 2], body := (
 .seq (.reg [dO 2 (.tk (.c (.bool false)))])
 (.seq (.reg [dO 3 (.mv (.t 0)), dO 4 (.sop .neq (.t 3) (.c (.str []))), dO 5 (.mv (.t 4)), ⟨some 6, (some (5, true)), .mv (.t 0)⟩, ⟨some 7, (some (5, true)), .callc n_strings_Contains [(.t 6), (.c (.str [32]))]⟩, ⟨some 8, (some (5, true)), .notb (.t 7)⟩, dO 9 (.pick (.t 5) (.t 8) (.c (.bool false))), dO 10 (.mv (.t 9)), ⟨some 11, (some (10, true)), .mv (.t 0)⟩, ⟨some 12, (some (10, true)), .sop .add (.c (.str [32])) (.t 11)⟩, ⟨some 13, (some (10, true)), .sop .add (.t 12) (.c (.str [32]))⟩, ⟨some 14, (some (10, true)), .callc n_strings_Contains [(.c (.str [32, 112, 114, 111, 99, 32, 109, 97, 105, 110, 32, 114, 101, 99, 111, 118, 101, 114, 32, 111, 114, 97, 99, 108, 101, 32, 99, 114, 101, 97, 116, 101, 32, 109, 107, 100, 105, 114, 32, 119, 114, 105, 116, 101, 32, 97, 112, 112, 101, 110, 100, 32, 116, 114, 117, 110, 99, 97, 116, 101, 32, 114, 101, 110, 97, 109, 101, 32, 117, 110, 108, 105, 110, 107, 32, 102, 115, 121, 110, 99, 32, 102, 100, 97, 116, 97, 115, 121, 110, 99, 32, 115, 121, 110, 99, 100, 105, 114, 32, 98, 97, 114, 114, 105, 101, 114, 32, 108, 101, 116, 32, 105, 102, 32, 101, 108, 115, 101, 32, 114, 101, 112, 101, 97, 116, 32, 99, 97, 108, 108, 32, 116, 120, 110, 32, 99, 111, 109, 109, 105, 116, 32, 114, 101, 112, 108, 97, 121, 32, 97, 115, 115, 101, 114, 116, 32, 101, 120, 105, 115, 116, 115, 32, 115, 105, 122, 101, 32, 114, 101, 97, 100, 32, 110, 111, 116, 32, 97, 110, 100, 32, 111, 114, 32, 116, 114, 117, 101, 32, 102, 97, 108, 115, 101, 32])), (.t 13)]⟩, dO 15 (.pick (.t 10) (.t 14) (.c (.bool false))), dO 2 (.tk (.t 15))])
 (.ret))) }

def c_strings_HasPrefix : AFunc :=
 { np := 2, res := [.t 4], body := (
 .seq (.reg [dO 4 (.tk (.c (.bool false)))])
 (.seq (.reg [dO 5 (.mv (.t 0)), dO 6 (.mv (.t 1)), dO 7 (.callc n_isl_HasPrefix [(.t 5), (.t 6)]), dO 4 (.tk (.t 7))])
 (.ret))) }

def c_lex_word : AFunc :=
 { np := 1, res := [.cell 2 (some 4), .t 3, .t 4], body := (
 .seq (.reg [dO 2 (.alloc [.int .i64 0, .str [], .int .i64 0, .int .i64 0]), dO 3 (.tk (.c (.int .i64 0))), dO 4 (.tk (.c (.int .i64 0)))])
 (.seq (.reg [dO 6 (.mv (.t 0)), dO 7 (.callc n_lex_run [(.t 6), (.c (.fn (.func n_lex_inner) [] []))]), dO 5 (.tk (.t 7))])
 (.seq (.block 0 (.seq (.reg [dO 9 (.mv (.t 5)), dO 10 (.callc n_lex_Key [(.t 9)]), dO 8 (.tk (.t 10))])
 (.cond (.t 8)
 (.seq (.reg [dO 11 (.mv (.t 5)), dO 12 (.bld [.int .i64 0, .str [], .int .i64 0, .int .i64 0] [(0, 1, (.c (.int .i64 4))), (1, 1, (.t 11))]), dO 13 (.mv (.t 5)), dO 14 (.len true (.t 13)), ⟨none, none, .st 4 (.t 2) (.t 12)⟩, dO 3 (.tk (.t 14)), dO 4 (.tk (.c (.int .i64 0)))])
 (.ret))
 (.seq (.reg [dO 16 (.mv (.t 5)), dO 17 (.callc n_lex_Name [(.t 16)]), dO 15 (.tk (.t 17))])
 (.cond (.t 15)
 (.seq (.reg [dO 18 (.mv (.t 5)), dO 19 (.bld [.int .i64 0, .str [], .int .i64 0, .int .i64 0] [(0, 1, (.c (.int .i64 1))), (1, 1, (.t 18))]), dO 20 (.mv (.t 5)), dO 21 (.len true (.t 20)), ⟨none, none, .st 4 (.t 2) (.t 19)⟩, dO 3 (.tk (.t 21)), dO 4 (.tk (.c (.int .i64 0)))])
 (.ret))
 (.skip))))))
 (.seq (.reg [dO 22 (.bld [.int .i64 0, .str [], .int .i64 0, .int .i64 0] []), ⟨none, none, .st 4 (.t 2) (.t 22)⟩, dO 3 (.tk (.c (.int .i64 0))), dO 4 (.tk (.c (.int .i64 14)))])
 (.ret))))) }

def c_lex_digit : AFunc :=
 { np := 1, res := [.t 2], body := (
 .seq (.reg [dO 2 (.tk (.c (.bool false)))])
 (.seq (.reg [dO 3 (.mv (.t 0)), dO 4 (.ic .geq (.t 3) (.c (.int .i32 48))), dO 5 (.mv (.t 4)), ⟨some 6, (some (5, true)), .mv (.t 0)⟩, ⟨some 7, (some (5, true)), .ic .leq (.t 6) (.c (.int .i32 57))⟩, dO 8 (.pick (.t 5) (.t 7) (.c (.bool false))), dO 2 (.tk (.t 8))])
 (.ret))) }

def c_lex_number : AFunc :=
 { np := 1, res := [.cell 2 (some 4), .t 3, .t 4], body := (
 .seq (.reg [dO 2 (.alloc [.int .i64 0, .str [], .int .i64 0, .int .i64 0]), dO 3 (.tk (.c (.int .i64 0))), dO 4 (.tk (.c (.int .i64 0)))])
 (.seq (.reg [dO 8 (.mv (.t 0)), dO 9 (.callc n_lex_run [(.t 8), (.c (.fn (.func n_lex_digit) [] []))]), dO 5 (.tk (.t 9))])
 (.seq (.reg [dO 11 (.mv (.t 5)), dO 12 (.callc n_num_Read [(.t 11)]), dO 10 (.mv (.t 12)), dO 13 (.ext (.t 10) 0), dO 14 (.ext (.t 10) 1), dO 6 (.tk (.t 13)), dO 7 (.tk (.t 14))])
 (.seq (.seq (.reg [dO 15 (.mv (.t 7)), dO 16 (.notb (.t 15))])
 (.cond (.t 16)
 (.seq (.reg [dO 17 (.bld [.int .i64 0, .str [], .int .i64 0, .int .i64 0] []), ⟨none, none, .st 4 (.t 2) (.t 17)⟩, dO 3 (.tk (.c (.int .i64 0))), dO 4 (.tk (.c (.int .i64 12)))])
 (.ret))
 (.skip)))
 (.seq (.reg [dO 18 (.mv (.t 6)), dO 19 (.bld [.int .i64 0, .str [], .int .i64 0, .int .i64 0] [(0, 1, (.c (.int .i64 2))), (2, 1, (.t 18))]), dO 20 (.mv (.t 5)), dO 21 (.len true (.t 20)), ⟨none, none, .st 4 (.t 2) (.t 19)⟩, dO 3 (.tk (.t 21)), dO 4 (.tk (.c (.int .i64 0)))])
 (.ret)))))) }

def c_lex_text : AFunc :=
 { np := 1, res := [.cell 2 (some 4), .t 3, .t 4], body := (
 .seq (.reg [dO 2 (.alloc [.int .i64 0, .str [], .int .i64 0, .int .i64 0]), dO 3 (.tk (.c (.int .i64 0))), dO 4 (.tk (.c (.int .i64 0)))])
 (.seq (.drw [[], [], [], [], [], []] [dO 8 (.mv (.t 0)), dO 9 (.slc (.t 8) (some (.c (.int .i64 1))) none), dO 10 (.mv (.t 0)), dO 11 (.ixs (.t 10) (.c (.int .i64 0))), dO 12 (.callc n_strings_IndexByte [(.t 9), (.t 11)]), dO 5 (.tk (.t 12))])
 (.seq (.seq (.reg [dO 13 (.mv (.t 5)), dO 14 (.ic .lss (.t 13) (.c (.int .i64 0)))])
 (.cond (.t 14)
 (.seq (.reg [dO 15 (.bld [.int .i64 0, .str [], .int .i64 0, .int .i64 0] []), ⟨none, none, .st 4 (.t 2) (.t 15)⟩, dO 3 (.tk (.c (.int .i64 0))), dO 4 (.tk (.c (.int .i64 12)))])
 (.ret))
 (.skip)))
 (.seq (.reg [dO 17 (.mv (.t 0)), dO 18 (.mv (.t 5)), dO 19 (.ia .add .i64 (.t 18) (.c (.int .i64 2))), dO 20 (.slc (.t 17) none (some (.t 19))), dO 21 (.callc n_view_Unquote [(.t 20)]), dO 16 (.mv (.t 21)), dO 22 (.ext (.t 16) 0), dO 23 (.ext (.t 16) 1), dO 6 (.tk (.t 22)), dO 7 (.tk (.t 23))])
 (.seq (.block 0 (.seq (.reg [dO 25 (.mv (.t 7)), dO 26 (.notb (.t 25)), dO 24 (.tk (.t 26))])
 (.cond (.t 24)
 (.seq (.reg [dO 27 (.bld [.int .i64 0, .str [], .int .i64 0, .int .i64 0] []), ⟨none, none, .st 4 (.t 2) (.t 27)⟩, dO 3 (.tk (.c (.int .i64 0))), dO 4 (.tk (.c (.int .i64 12)))])
 (.ret))
 (.seq (.reg [dO 29 (.mv (.t 6)), dO 30 (.len true (.t 29)), dO 31 (.ic .gtr (.t 30) (.c (.int .i64 64))), dO 28 (.tk (.t 31))])
 (.cond (.t 28)
 (.seq (.reg [dO 32 (.bld [.int .i64 0, .str [], .int .i64 0, .int .i64 0] []), ⟨none, none, .st 4 (.t 2) (.t 32)⟩, dO 3 (.tk (.c (.int .i64 0))), dO 4 (.tk (.c (.int .i64 14)))])
 (.ret))
 (.skip))))))
 (.seq (.reg [dO 33 (.mv (.t 6)), dO 34 (.bld [.int .i64 0, .str [], .int .i64 0, .int .i64 0] [(0, 1, (.c (.int .i64 3))), (1, 1, (.t 33))]), dO 35 (.mv (.t 5)), dO 36 (.ia .add .i64 (.t 35) (.c (.int .i64 2))), ⟨none, none, .st 4 (.t 2) (.t 34)⟩, dO 3 (.tk (.t 36)), dO 4 (.tk (.c (.int .i64 0)))])
 (.ret))))))) }

def c_lex_sign : AFunc :=
 { np := 1, res := [.cell 2 (some 4), .t 3, .t 4], body := (
 .seq (.reg [dO 2 (.alloc [.int .i64 0, .str [], .int .i64 0, .int .i64 0]), dO 3 (.tk (.c (.int .i64 0))), dO 4 (.tk (.c (.int .i64 0)))])
 (.seq (.block 0 (.seq (.reg [dO 6 (.mv (.t 0)), dO 7 (.callc n_strings_HasPrefix [(.t 6), (.c (.str [61, 61]))]), dO 5 (.tk (.t 7))])
 (.cond (.t 5)
 (.seq (.reg [dO 8 (.bld [.int .i64 0, .str [], .int .i64 0, .int .i64 0] [(0, 1, (.c (.int .i64 5))), (1, 1, (.c (.str [61, 61])))]), ⟨none, none, .st 4 (.t 2) (.t 8)⟩, dO 3 (.tk (.c (.int .i64 2))), dO 4 (.tk (.c (.int .i64 0)))])
 (.ret))
 (.seq (.reg [dO 10 (.mv (.t 0)), dO 11 (.ixs (.t 10) (.c (.int .i64 0))), dO 12 (.callc n_strings_IndexByte [(.c (.str [123, 125, 40, 41, 59, 44, 58, 43, 45, 60, 61])), (.t 11)]), dO 13 (.ic .geq (.t 12) (.c (.int .i64 0))), dO 9 (.tk (.t 13))])
 (.cond (.t 9)
 (.seq (.reg [dO 14 (.mv (.t 0)), dO 15 (.slc (.t 14) none (some (.c (.int .i64 1)))), dO 16 (.bld [.int .i64 0, .str [], .int .i64 0, .int .i64 0] [(0, 1, (.c (.int .i64 5))), (1, 1, (.t 15))]), ⟨none, none, .st 4 (.t 2) (.t 16)⟩, dO 3 (.tk (.c (.int .i64 1))), dO 4 (.tk (.c (.int .i64 0)))])
 (.ret))
 (.skip))))))
 (.seq (.reg [dO 17 (.bld [.int .i64 0, .str [], .int .i64 0, .int .i64 0] []), ⟨none, none, .st 4 (.t 2) (.t 17)⟩, dO 3 (.tk (.c (.int .i64 0))), dO 4 (.tk (.c (.int .i64 12)))])
 (.ret)))) }

def c_pp_stmt : AFunc :=
 { np := 2, res := [.cell 4 (some 7)], body := (
 .seq (.reg [dO 4 (.alloc [.int .i64 0, .str [], .int .i64 0, .own 4 [], .own 7 [], .own 7 [], .bool false])])
 (.seq (.reg [dO 11 (.mv (.t 0)), dO 12 (.nck (.t 11)), dO 13 (.fa 0 (.t 12)), dO 14 (.call n_pw_head [(.t 13)]), dO 5 (.alloc [.int .i64 0, .str [], .int .i64 0, .int .i64 0]), ⟨none, none, .st 4 (.t 5) (.t 14)⟩])
 (.seq (.reg [dO 16 (.ld (some 4) (.t 5)), dO 17 (.callc n_parse_simple [(.t 16)]), dO 15 (.mv (.t 17)), dO 18 (.ext (.t 15) 0), dO 19 (.ext (.t 15) 1), dO 6 (.tk (.t 18)), dO 7 (.tk (.t 19))])
 (.seq (.reg [dO 21 (.mv (.t 0)), dO 22 (.nck (.t 21)), dO 23 (.fa 0 (.t 22)), dO 24 (.bsl 1 [.str []] 5 [(0, 1, (.c (.str [108, 101, 116]))), (1, 1, (.c (.str [99, 97, 108, 108]))), (2, 1, (.c (.str [105, 102]))), (3, 1, (.c (.str [114, 101, 112, 101, 97, 116]))), (4, 1, (.c (.str [116, 120, 110])))] false), dO 25 (.call n_pw_sees [(.t 23), (.t 24)]), dO 20 (.mv (.t 25)), dO 26 (.ext (.t 20) 0), dO 27 (.ext (.t 20) 1), dO 8 (.tk (.t 26)), dO 9 (.tk (.t 27))])
 (.seq (.seq (.reg [dO 28 (.mv (.t 7)), dO 29 (.notb (.t 28)), dO 30 (.mv (.t 29)), ⟨some 31, (some (30, true)), .mv (.t 9)⟩, ⟨some 32, (some (30, true)), .notb (.t 31)⟩, dO 33 (.pick (.t 30) (.t 32) (.c (.bool false)))])
 (.cond (.t 33)
 (.seq (.drw [[], [], [], [], []] [dO 34 (.mv (.t 0)), dO 35 (.nck (.t 34)), dO 36 (.fa 0 (.t 35)), dO 37 (.ld (some 4) (.t 5)), dO 38 (.call n_pw_fail [(.t 36), (.c (.int .i64 12)), (.t 37)])])
 (.seq (.reg [dO 39 (.bld [.int .i64 0, .str [], .int .i64 0, .sl 4 [], .sl 7 [], .sl 7 [], .bool false] []), ⟨none, none, .st 7 (.t 4) (.t 39)⟩])
 (.ret)))
 (.skip)))
 (.seq (.seq (.reg [dO 40 (.mv (.t 0)), dO 41 (.nck (.t 40)), dO 42 (.fa 3 (.t 41)), dO 43 (.ld none (.t 42)), dO 44 (.ia .add .i64 (.t 43) (.c (.int .i64 1))), dO 45 (.nck (.t 40)), dO 46 (.fa 3 (.t 45)), ⟨none, none, .st 1 (.t 46) (.t 44)⟩])
 (.seq (.reg [dO 47 (.mv (.t 0)), dO 48 (.nck (.t 47)), dO 49 (.fa 3 (.t 48)), dO 50 (.ld none (.t 49)), dO 51 (.ic .gtr (.t 50) (.c (.int .i64 256))), dO 52 (.mv (.t 51)), ⟨some 53, (some (52, false)), .mv (.t 1)⟩, ⟨some 54, (some (52, false)), .ic .gtr (.t 53) (.c (.int .i64 8))⟩, dO 55 (.pick (.t 52) (.c (.bool true)) (.t 54))])
 (.cond (.t 55)
 (.seq (.drw [[], [], [], [], []] [dO 56 (.mv (.t 0)), dO 57 (.nck (.t 56)), dO 58 (.fa 0 (.t 57)), dO 59 (.ld (some 4) (.t 5)), dO 60 (.call n_pw_fail [(.t 58), (.c (.int .i64 14)), (.t 59)])])
 (.seq (.reg [dO 61 (.bld [.int .i64 0, .str [], .int .i64 0, .sl 4 [], .sl 7 [], .sl 7 [], .bool false] []), ⟨none, none, .st 7 (.t 4) (.t 61)⟩])
 (.ret)))
 (.skip))))
 (.seq (.reg [dO 62 (.mv (.t 0)), dO 63 (.nck (.t 62)), dO 64 (.fa 0 (.t 63)), dO 65 (.call n_pw_skip [(.t 64)])])
 (.seq (.seq (.reg [dO 66 (.mv (.t 8))])
 (.block 0 (.seq (.reg [dO 68 (.sop .eql (.t 66) (.c (.str [108, 101, 116]))), dO 67 (.tk (.t 68))])
 (.cond (.t 67)
 (.seq (.reg [dO 69 (.mv (.t 0)), dO 70 (.nck (.t 69)), dO 71 (.fa 0 (.t 70)), dO 72 (.call n_pw_of [(.t 71), (.c (.int .i64 1))]), dO 73 (.fld none 1 (.t 72)), dO 74 (.bld [.int .i64 0, .str [], .int .i64 0, .sl 4 [], .sl 7 [], .sl 7 [], .bool false] [(0, 1, (.c (.int .i64 12))), (1, 1, (.t 73))]), dO 10 (.alloc [.int .i64 0, .str [], .int .i64 0, .own 4 [], .own 7 [], .own 7 [], .bool false]), ⟨none, none, .st 7 (.t 10) (.t 74)⟩])
 (.seq (.reg [dO 75 (.mv (.t 0)), dO 76 (.nck (.t 75)), dO 77 (.fa 0 (.t 76)), dO 78 (.call n_pw_wants [(.t 77), (.c (.str [61]))])])
 (.seq (.reg [dO 79 (.mv (.t 0)), dO 80 (.call n_pp_exprs [(.t 79), (.c (.int .i64 12))]), dO 81 (.fa 3 (.t 10)), ⟨none, none, .st 1 (.t 81) (.t 80)⟩])
 (.seq (.reg [dO 82 (.ld (some 7) (.t 10)), ⟨none, none, .st 7 (.t 4) (.t 82)⟩])
 (.ret)))))
 (.seq (.reg [dO 84 (.sop .eql (.t 66) (.c (.str [99, 97, 108, 108]))), dO 83 (.tk (.t 84))])
 (.cond (.t 83)
 (.seq (.reg [dO 85 (.mv (.t 0)), dO 86 (.nck (.t 85)), dO 87 (.fa 0 (.t 86)), dO 88 (.call n_pw_of [(.t 87), (.c (.int .i64 1))]), dO 89 (.fld none 1 (.t 88)), dO 90 (.mv (.t 0)), dO 91 (.call n_pp_exprs [(.t 90), (.c (.int .i64 15))]), dO 92 (.bld [.int .i64 0, .str [], .int .i64 0, .sl 4 [], .sl 7 [], .sl 7 [], .bool false] [(0, 1, (.c (.int .i64 15))), (1, 1, (.t 89)), (3, 1, (.t 91))]), ⟨none, none, .st 7 (.t 4) (.t 92)⟩])
 (.ret))
 (.seq (.reg [dO 94 (.sop .eql (.t 66) (.c (.str [105, 102]))), dO 93 (.tk (.t 94))])
 (.cond (.t 93)
 (.seq (.reg [dO 95 (.mv (.t 0)), dO 96 (.mv (.t 1)), dO 97 (.call n_pp_choice [(.t 95), (.t 96)]), ⟨none, none, .st 7 (.t 4) (.t 97)⟩])
 (.ret))
 (.seq (.reg [dO 99 (.sop .eql (.t 66) (.c (.str [114, 101, 112, 101, 97, 116]))), dO 98 (.tk (.t 99))])
 (.cond (.t 98)
 (.seq (.reg [dO 100 (.mv (.t 0)), dO 101 (.mv (.t 1)), dO 102 (.call n_pp_loop [(.t 100), (.t 101)]), ⟨none, none, .st 7 (.t 4) (.t 102)⟩])
 (.ret))
 (.seq (.reg [dO 104 (.sop .eql (.t 66) (.c (.str [116, 120, 110]))), dO 103 (.tk (.t 104))])
 (.cond (.t 103)
 (.seq (.reg [dO 105 (.mv (.t 0)), dO 106 (.mv (.t 1)), dO 107 (.call n_pp_txn [(.t 105), (.t 106)]), ⟨none, none, .st 7 (.t 4) (.t 107)⟩])
 (.ret))
 (.skip)))))))))))))
 (.seq (.reg [dO 108 (.mv (.t 6)), dO 109 (.mv (.t 0)), dO 110 (.mv (.t 6)), dO 111 (.call n_pp_exprs [(.t 109), (.t 110)]), dO 112 (.bld [.int .i64 0, .str [], .int .i64 0, .sl 4 [], .sl 7 [], .sl 7 [], .bool false] [(0, 1, (.t 108)), (3, 1, (.t 111))]), ⟨none, none, .st 7 (.t 4) (.t 112)⟩])
 (.ret)))))))))) }

def c_pw_skip : AFunc :=
 { np := 1, res := [.cell 2 (some 4)], body := (
 .seq (.reg [dO 2 (.alloc [.int .i64 0, .str [], .int .i64 0, .int .i64 0])])
 (.seq (.reg [dO 4 (.mv (.t 0)), dO 5 (.nck (.t 4)), dO 6 (.fa 0 (.t 5)), dO 7 (.ld none (.t 6)), dO 8 (.ixa 4 none (.t 7) (.c (.int .i64 0))), dO 9 (.ld (some 4) (.t 8)), dO 3 (.alloc [.int .i64 0, .str [], .int .i64 0, .int .i64 0]), ⟨none, none, .st 4 (.t 3) (.t 9)⟩])
 (.seq (.seq (.reg [dO 10 (.mv (.t 0)), dO 11 (.nck (.t 10)), dO 12 (.fa 0 (.t 11)), dO 13 (.ld none (.t 12)), dO 14 (.len false (.t 13)), dO 15 (.ic .gtr (.t 14) (.c (.int .i64 1)))])
 (.cond (.t 15)
 (.reg [dO 16 (.mv (.t 0)), dO 17 (.mv (.t 0)), dO 18 (.nck (.t 17)), dO 19 (.fa 0 (.t 18)), dO 20 (.ld none (.t 19)), dO 21 (.sls 4 (.t 20) (some (.c (.int .i64 1))) none none), dO 22 (.nck (.t 16)), dO 23 (.fa 0 (.t 22)), ⟨none, none, .st 1 (.t 23) (.t 21)⟩])
 (.skip)))
 (.seq (.reg [dO 24 (.ld (some 4) (.t 3)), ⟨none, none, .st 4 (.t 2) (.t 24)⟩])
 (.ret))))) }

def c_r15_letter : AFunc :=
 { np := 1, res := [.t 2], body := (
 .seq (.reg [dO 2 (.tk (.c (.bool false)))])
 (.seq (.reg [dO 3 (.mv (.t 0)), dO 4 (.ic .geq (.t 3) (.c (.int .u8 97))), dO 5 (.mv (.t 4)), ⟨some 6, (some (5, true)), .mv (.t 0)⟩, ⟨some 7, (some (5, true)), .ic .leq (.t 6) (.c (.int .u8 122))⟩, dO 8 (.pick (.t 5) (.t 7) (.c (.bool false))), dO 2 (.tk (.t 8))])
 (.ret))) }

def c_r15_inner : AFunc :=
 { np := 1, res := [.t 2], body := (
 .seq (.reg [dO 2 (.tk (.c (.bool false)))])
 (.seq (.reg [dO 3 (.mv (.t 0)), dO 4 (.callc n_r15_letter [(.t 3)]), dO 5 (.mv (.t 4)), ⟨some 6, (some (5, false)), .mv (.t 0)⟩, ⟨some 7, (some (5, false)), .callc n_r15_digit [(.t 6)]⟩, dO 8 (.pick (.t 5) (.c (.bool true)) (.t 7)), dO 9 (.mv (.t 8)), ⟨some 10, (some (9, false)), .mv (.t 0)⟩, ⟨some 11, (some (9, false)), .ic .eql (.t 10) (.c (.int .u8 95))⟩, dO 12 (.pick (.t 9) (.c (.bool true)) (.t 11)), dO 2 (.tk (.t 12))])
 (.ret))) }

def b_r15_Key_0 : AC :=
 .seq (.seq (.reg [dO 6 (.mv (.t 4)), dO 7 (.mv (.t 3)), dO 8 (.len false (.t 7)), dO 9 (.ic .lss (.t 6) (.t 8))])
 (.cond (.t 9)
 (.skip)
 (.exit 0)))
 (.seq (.block 1 (.seq (.reg [dO 12 (.mv (.t 3)), dO 13 (.mv (.t 4)), dO 14 (.ixa 1 none (.t 12) (.t 13)), dO 15 (.ld none (.t 14)), dO 16 (.mv (.t 0)), dO 17 (.sop .eql (.t 15) (.t 16))])
 (.cond (.t 17)
 (.seq (.reg [dO 2 (.tk (.c (.bool true)))])
 (.ret))
 (.skip))))
 (.reg [dO 10 (.mv (.t 4)), dO 11 (.ia .add .i64 (.t 10) (.c (.int .i64 1))), dO 4 (.tk (.t 11))]))

def l_r15_Key_0 : AC :=
 .loop [0, 3, 4] b_r15_Key_0

def r_r15_Key_0 : AC :=
 .seq (.reg [dO 2 (.tk (.c (.bool false)))])
 (.ret)

def c_r15_Key : AFunc :=
 { np := 1, res := [.t 2], body := (
 .seq (.reg [dO 2 (.tk (.c (.bool false)))])
 (.seq (.reg [dO 5 (.bsl 1 [.str []] 32 [(0, 1, (.c (.str [112, 114, 111, 99]))), (1, 1, (.c (.str [109, 97, 105, 110]))), (2, 1, (.c (.str [114, 101, 99, 111, 118, 101, 114]))), (3, 1, (.c (.str [111, 114, 97, 99, 108, 101]))), (4, 1, (.c (.str [99, 114, 101, 97, 116, 101]))), (5, 1, (.c (.str [109, 107, 100, 105, 114]))), (6, 1, (.c (.str [119, 114, 105, 116, 101]))), (7, 1, (.c (.str [97, 112, 112, 101, 110, 100]))), (8, 1, (.c (.str [116, 114, 117, 110, 99, 97, 116, 101]))), (9, 1, (.c (.str [114, 101, 110, 97, 109, 101]))), (10, 1, (.c (.str [117, 110, 108, 105, 110, 107]))), (11, 1, (.c (.str [102, 115, 121, 110, 99]))), (12, 1, (.c (.str [102, 100, 97, 116, 97, 115, 121, 110, 99]))), (13, 1, (.c (.str [115, 121, 110, 99, 100, 105, 114]))), (14, 1, (.c (.str [98, 97, 114, 114, 105, 101, 114]))), (15, 1, (.c (.str [108, 101, 116]))), (16, 1, (.c (.str [105, 102]))), (17, 1, (.c (.str [101, 108, 115, 101]))), (18, 1, (.c (.str [114, 101, 112, 101, 97, 116]))), (19, 1, (.c (.str [99, 97, 108, 108]))), (20, 1, (.c (.str [116, 120, 110]))), (21, 1, (.c (.str [99, 111, 109, 109, 105, 116]))), (22, 1, (.c (.str [114, 101, 112, 108, 97, 121]))), (23, 1, (.c (.str [97, 115, 115, 101, 114, 116]))), (24, 1, (.c (.str [101, 120, 105, 115, 116, 115]))), (25, 1, (.c (.str [115, 105, 122, 101]))), (26, 1, (.c (.str [114, 101, 97, 100]))), (27, 1, (.c (.str [110, 111, 116]))), (28, 1, (.c (.str [97, 110, 100]))), (29, 1, (.c (.str [111, 114]))), (30, 1, (.c (.str [116, 114, 117, 101]))), (31, 1, (.c (.str [102, 97, 108, 115, 101])))] false), dO 3 (.tk (.t 5))])
 (.seq (.seq (.reg [dO 4 (.tk (.c (.int .i64 0)))])
 (.block 0 (l_r15_Key_0))) r_r15_Key_0))) }

def b_r15_Name_0 : AC :=
 .seq (.seq (.reg [dO 22 (.mv (.t 3)), dO 23 (.mv (.t 0)), dO 24 (.len true (.t 23)), dO 25 (.ic .lss (.t 22) (.t 24))])
 (.cond (.t 25)
 (.skip)
 (.exit 0)))
 (.seq (.block 1 (.seq (.reg [dO 28 (.mv (.t 0)), dO 29 (.mv (.t 3)), dO 30 (.ixs (.t 28) (.t 29)), dO 31 (.callc n_r15_inner [(.t 30)]), dO 32 (.notb (.t 31))])
 (.cond (.t 32)
 (.seq (.reg [dO 2 (.tk (.c (.bool false)))])
 (.ret))
 (.skip))))
 (.reg [dO 26 (.mv (.t 3)), dO 27 (.ia .add .i64 (.t 26) (.c (.int .i64 1))), dO 3 (.tk (.t 27))]))

def l_r15_Name_0 : AC :=
 .loop [0, 3] b_r15_Name_0

def r_r15_Name_0 : AC :=
 .seq (.reg [dO 2 (.tk (.c (.bool true)))])
 (.ret)

def c_r15_Name : AFunc :=
 { np := 1, res := [.t 2], body := (
 .seq (.reg [dO 2 (.tk (.c (.bool false)))])
 (.seq (.seq (.reg [dO 4 (.mv (.t 0)), dO 5 (.len true (.t 4)), dO 6 (.ic .lss (.t 5) (.c (.int .i64 1))), dO 7 (.mv (.t 6)), ⟨some 8, (some (7, false)), .mv (.t 0)⟩, ⟨some 9, (some (7, false)), .len true (.t 8)⟩, ⟨some 10, (some (7, false)), .ic .gtr (.t 9) (.c (.int .i64 8))⟩, dO 11 (.pick (.t 7) (.c (.bool true)) (.t 10)), dO 12 (.mv (.t 11)), ⟨some 13, (some (12, false)), .mv (.t 0)⟩, ⟨some 14, (some (12, false)), .ixs (.t 13) (.c (.int .i64 0))⟩, ⟨some 15, (some (12, false)), .callc n_r15_letter [(.t 14)]⟩, ⟨some 16, (some (12, false)), .notb (.t 15)⟩, dO 17 (.pick (.t 12) (.c (.bool true)) (.t 16)), dO 18 (.mv (.t 17)), ⟨some 19, (some (18, false)), .mv (.t 0)⟩, ⟨some 20, (some (18, false)), .callc n_r15_Key [(.t 19)]⟩, dO 21 (.pick (.t 18) (.c (.bool true)) (.t 20))])
 (.cond (.t 21)
 (.seq (.reg [dO 2 (.tk (.c (.bool false)))])
 (.ret))
 (.skip)))
 (.seq (.seq (.reg [dO 3 (.tk (.c (.int .i64 0)))])
 (.block 0 (l_r15_Name_0))) r_r15_Name_0))) }

def c_r15_digit : AFunc :=
 { np := 1, res := [.t 2], body := (
 .seq (.reg [dO 2 (.tk (.c (.bool false)))])
 (.seq (.reg [dO 3 (.mv (.t 0)), dO 4 (.ic .geq (.t 3) (.c (.int .u8 48))), dO 5 (.mv (.t 4)), ⟨some 6, (some (5, true)), .mv (.t 0)⟩, ⟨some 7, (some (5, true)), .ic .leq (.t 6) (.c (.int .u8 57))⟩, dO 8 (.pick (.t 5) (.t 7) (.c (.bool false))), dO 2 (.tk (.t 8))])
 (.ret))) }

def b_r01_Read_0 : AC :=
 .seq (.seq (.reg [dO 24 (.mv (.t 5)), dO 25 (.mv (.t 0)), dO 26 (.len true (.t 25)), dO 27 (.ic .lss (.t 24) (.t 26))])
 (.cond (.t 27)
 (.skip)
 (.exit 0)))
 (.seq (.block 1 (.seq (.seq (.reg [dO 30 (.mv (.t 0)), dO 31 (.mv (.t 5)), dO 32 (.ixs (.t 30) (.t 31)), dO 33 (.ic .lss (.t 32) (.c (.int .u8 48))), dO 34 (.mv (.t 33)), ⟨some 35, (some (34, false)), .mv (.t 0)⟩, ⟨some 36, (some (34, false)), .mv (.t 5)⟩, ⟨some 37, (some (34, false)), .ixs (.t 35) (.t 36)⟩, ⟨some 38, (some (34, false)), .ic .gtr (.t 37) (.c (.int .u8 57))⟩, dO 39 (.pick (.t 34) (.c (.bool true)) (.t 38))])
 (.cond (.t 39)
 (.seq (.reg [dO 2 (.tk (.c (.int .i64 0))), dO 3 (.tk (.c (.bool false)))])
 (.ret))
 (.skip)))
 (.reg [dO 40 (.mv (.t 4)), dO 41 (.ia .mul .i64 (.c (.int .i64 10)) (.t 40)), dO 42 (.mv (.t 0)), dO 43 (.mv (.t 5)), dO 44 (.ixs (.t 42) (.t 43)), dO 45 (.ia .sub .u8 (.t 44) (.c (.int .u8 48))), dO 46 (.conv .i64 (.t 45)), dO 47 (.ia .add .i64 (.t 41) (.t 46)), dO 4 (.tk (.t 47))])))
 (.reg [dO 28 (.mv (.t 5)), dO 29 (.ia .add .i64 (.t 28) (.c (.int .i64 1))), dO 5 (.tk (.t 29))]))

def l_r01_Read_0 : AC :=
 .loop [0, 4, 5] b_r01_Read_0

def r_r01_Read_0 : AC :=
 .seq (.seq (.reg [dO 48 (.mv (.t 4)), dO 49 (.ic .gtr (.t 48) (.c (.int .i64 1000000000000)))])
 (.cond (.t 49)
 (.seq (.reg [dO 2 (.tk (.c (.int .i64 0))), dO 3 (.tk (.c (.bool false)))])
 (.ret))
 (.skip)))
 (.seq (.reg [dO 50 (.mv (.t 4)), dO 2 (.tk (.t 50)), dO 3 (.tk (.c (.bool true)))])
 (.ret))

def c_r01_Read : AFunc :=
 { np := 1, res := [.t 2, .t 3], body := (
 .seq (.reg [dO 2 (.tk (.c (.int .i64 0))), dO 3 (.tk (.c (.bool false)))])
 (.seq (.seq (.reg [dO 6 (.mv (.t 0)), dO 7 (.len true (.t 6)), dO 8 (.ic .lss (.t 7) (.c (.int .i64 1))), dO 9 (.mv (.t 8)), ⟨some 10, (some (9, false)), .mv (.t 0)⟩, ⟨some 11, (some (9, false)), .len true (.t 10)⟩, ⟨some 12, (some (9, false)), .ic .gtr (.t 11) (.c (.int .i64 13))⟩, dO 13 (.pick (.t 9) (.c (.bool true)) (.t 12)), dO 14 (.mv (.t 13)), ⟨some 15, (some (14, false)), .mv (.t 0)⟩, ⟨some 16, (some (14, false)), .len true (.t 15)⟩, ⟨some 17, (some (14, false)), .ic .gtr (.t 16) (.c (.int .i64 1))⟩, ⟨some 18, (some (14, false)), .mv (.t 17)⟩, ⟨some 19, (some (18, true)), .mv (.t 0)⟩, ⟨some 20, (some (18, true)), .ixs (.t 19) (.c (.int .i64 0))⟩, ⟨some 21, (some (18, true)), .ic .eql (.t 20) (.c (.int .u8 48))⟩, ⟨some 22, (some (14, false)), .pick (.t 18) (.t 21) (.c (.bool false))⟩, dO 23 (.pick (.t 14) (.c (.bool true)) (.t 22))])
 (.cond (.t 23)
 (.seq (.reg [dO 2 (.tk (.c (.int .i64 0))), dO 3 (.tk (.c (.bool false)))])
 (.ret))
 (.skip)))
 (.seq (.reg [dO 4 (.tk (.c (.int .i64 0)))])
 (.seq (.seq (.reg [dO 5 (.tk (.c (.int .i64 0)))])
 (.block 0 (l_r01_Read_0))) r_r01_Read_0)))) }

def b_r14_Unquote_0 : AC :=
 .seq (.seq (.reg [dO 24 (.mv (.t 5)), dO 25 (.mv (.t 0)), dO 26 (.len true (.t 25)), dO 27 (.ia .sub .i64 (.t 26) (.c (.int .i64 1))), dO 28 (.ic .lss (.t 24) (.t 27))])
 (.cond (.t 28)
 (.skip)
 (.exit 0)))
 (.seq (.block 1 (.seq (.reg [dO 31 (.mv (.t 0)), dO 32 (.mv (.t 5)), dO 33 (.ixs (.t 31) (.t 32)), dO 6 (.tk (.t 33)), dO 7 (.tk (.c (.int .i64 1)))])
 (.seq (.seq (.reg [dO 34 (.mv (.t 6)), dO 35 (.ic .eql (.t 34) (.c (.int .u8 92))), dO 36 (.mv (.t 35)), ⟨some 37, (some (36, true)), .mv (.t 5)⟩, ⟨some 38, (some (36, true)), .ia .add .i64 (.t 37) (.c (.int .i64 2))⟩, ⟨some 39, (some (36, true)), .mv (.t 0)⟩, ⟨some 40, (some (36, true)), .len true (.t 39)⟩, ⟨some 41, (some (36, true)), .ia .sub .i64 (.t 40) (.c (.int .i64 1))⟩, ⟨some 42, (some (36, true)), .ic .lss (.t 38) (.t 41)⟩, dO 43 (.pick (.t 36) (.t 42) (.c (.bool false)))])
 (.cond (.t 43)
 (.drw [[], [], [], [], [], [], [], [], [], [], [], [], [], []] [dO 44 (.mv (.t 0)), dO 45 (.mv (.t 5)), dO 46 (.ia .add .i64 (.t 45) (.c (.int .i64 1))), dO 47 (.ixs (.t 44) (.t 46)), dO 48 (.callc n_r14_value [(.t 47)]), dO 49 (.ia .mul .u8 (.c (.int .u8 16)) (.t 48)), dO 50 (.mv (.t 0)), dO 51 (.mv (.t 5)), dO 52 (.ia .add .i64 (.t 51) (.c (.int .i64 2))), dO 53 (.ixs (.t 50) (.t 52)), dO 54 (.callc n_r14_value [(.t 53)]), dO 55 (.ia .add .u8 (.t 49) (.t 54)), dO 6 (.tk (.t 55)), dO 7 (.tk (.c (.int .i64 3)))])
 (.skip)))
 (.seq (.seq (.drw [[], [], [], [], [], [], [], [], []] [dO 56 (.mv (.t 6)), dO 57 (.callc n_r14_sign [(.t 56)]), dO 58 (.mv (.t 0)), dO 59 (.mv (.t 5)), dO 60 (.mv (.t 5)), dO 61 (.mv (.t 7)), dO 62 (.ia .add .i64 (.t 60) (.t 61)), dO 63 (.slc (.t 58) (some (.t 59)) (some (.t 62))), dO 64 (.sop .neq (.t 57) (.t 63))])
 (.cond (.t 64)
 (.seq (.reg [dO 2 (.tk (.c (.str []))), dO 3 (.tk (.c (.bool false)))])
 (.ret))
 (.skip)))
 (.seq (.reg [dO 65 (.tk (.t 4)), dO 66 (.mv (.t 6)), dO 67 (.bsl 1 [.int .u8 0] 1 [(0, 1, (.t 66))] false), dO 68 (.app 1 1 (.t 65) (.t 67) false), dO 4 (.tk (.t 68))])
 (.reg [dO 69 (.mv (.t 5)), dO 70 (.mv (.t 7)), dO 71 (.ia .add .i64 (.t 69) (.t 70)), dO 72 (.ia .sub .i64 (.t 71) (.c (.int .i64 1))), dO 5 (.tk (.t 72))]))))))
 (.reg [dO 29 (.mv (.t 5)), dO 30 (.ia .add .i64 (.t 29) (.c (.int .i64 1))), dO 5 (.tk (.t 30))]))

def l_r14_Unquote_0 : AC :=
 .loop [0, 4, 5] b_r14_Unquote_0

def r_r14_Unquote_0 : AC :=
 .seq (.reg [dO 73 (.mv (.t 4)), dO 74 (.b2s (.t 73)), dO 2 (.tk (.t 74)), dO 3 (.tk (.c (.bool true)))])
 (.ret)

def c_r14_Unquote : AFunc :=
 { np := 1, res := [.t 2, .t 3], body := (
 .seq (.reg [dO 2 (.tk (.c (.str []))), dO 3 (.tk (.c (.bool false)))])
 (.seq (.seq (.reg [dO 8 (.mv (.t 0)), dO 9 (.len true (.t 8)), dO 10 (.ic .lss (.t 9) (.c (.int .i64 2))), dO 11 (.mv (.t 10)), ⟨some 12, (some (11, false)), .mv (.t 0)⟩, ⟨some 13, (some (11, false)), .ixs (.t 12) (.c (.int .i64 0))⟩, ⟨some 14, (some (11, false)), .ic .neq (.t 13) (.c (.int .u8 34))⟩, dO 15 (.pick (.t 11) (.c (.bool true)) (.t 14)), dO 16 (.mv (.t 15)), ⟨some 17, (some (16, false)), .mv (.t 0)⟩, ⟨some 18, (some (16, false)), .mv (.t 0)⟩, ⟨some 19, (some (16, false)), .len true (.t 18)⟩, ⟨some 20, (some (16, false)), .ia .sub .i64 (.t 19) (.c (.int .i64 1))⟩, ⟨some 21, (some (16, false)), .ixs (.t 17) (.t 20)⟩, ⟨some 22, (some (16, false)), .ic .neq (.t 21) (.c (.int .u8 34))⟩, dO 23 (.pick (.t 16) (.c (.bool true)) (.t 22))])
 (.cond (.t 23)
 (.seq (.reg [dO 2 (.tk (.c (.str []))), dO 3 (.tk (.c (.bool false)))])
 (.ret))
 (.skip)))
 (.seq (.reg [dO 4 (.tk (.c (.own 1 [])))])
 (.seq (.seq (.reg [dO 5 (.tk (.c (.int .i64 1)))])
 (.block 0 (l_r14_Unquote_0))) r_r14_Unquote_0)))) }

def b_r15_Sign_0 : AC :=
 .seq (.seq (.reg [dO 6 (.mv (.t 4)), dO 7 (.mv (.t 3)), dO 8 (.len false (.t 7)), dO 9 (.ic .lss (.t 6) (.t 8))])
 (.cond (.t 9)
 (.skip)
 (.exit 0)))
 (.seq (.block 1 (.seq (.reg [dO 12 (.mv (.t 3)), dO 13 (.mv (.t 4)), dO 14 (.ixa 1 none (.t 12) (.t 13)), dO 15 (.ld none (.t 14)), dO 16 (.mv (.t 0)), dO 17 (.sop .eql (.t 15) (.t 16))])
 (.cond (.t 17)
 (.seq (.reg [dO 2 (.tk (.c (.bool true)))])
 (.ret))
 (.skip))))
 (.reg [dO 10 (.mv (.t 4)), dO 11 (.ia .add .i64 (.t 10) (.c (.int .i64 1))), dO 4 (.tk (.t 11))]))

def l_r15_Sign_0 : AC :=
 .loop [0, 3, 4] b_r15_Sign_0

def r_r15_Sign_0 : AC :=
 .seq (.reg [dO 2 (.tk (.c (.bool false)))])
 (.ret)

def c_r15_Sign : AFunc :=
 { np := 1, res := [.t 2], body := (
 .seq (.reg [dO 2 (.tk (.c (.bool false)))])
 (.seq (.reg [dO 5 (.bsl 1 [.str []] 12 [(0, 1, (.c (.str [123]))), (1, 1, (.c (.str [125]))), (2, 1, (.c (.str [40]))), (3, 1, (.c (.str [41]))), (4, 1, (.c (.str [59]))), (5, 1, (.c (.str [44]))), (6, 1, (.c (.str [58]))), (7, 1, (.c (.str [43]))), (8, 1, (.c (.str [45]))), (9, 1, (.c (.str [60]))), (10, 1, (.c (.str [61]))), (11, 1, (.c (.str [61, 61])))] false), dO 3 (.tk (.t 5))])
 (.seq (.seq (.reg [dO 4 (.tk (.c (.int .i64 0)))])
 (.block 0 (l_r15_Sign_0))) r_r15_Sign_0))) }

def b_r17_simple_0 : AC :=
 .seq (.seq (.reg [dO 6 (.mv (.t 4)), dO 7 (.mv (.t 3)), dO 8 (.len false (.t 7)), dO 9 (.ic .lss (.t 6) (.t 8))])
 (.cond (.t 9)
 (.skip)
 (.exit 0)))
 (.seq (.block 1 (.seq (.reg [dO 12 (.mv (.t 3)), dO 13 (.mv (.t 4)), dO 14 (.ixa 1 none (.t 12) (.t 13)), dO 15 (.ld none (.t 14)), dO 16 (.mv (.t 0)), dO 17 (.sop .eql (.t 15) (.t 16))])
 (.cond (.t 17)
 (.seq (.reg [dO 18 (.mv (.t 4)), dO 19 (.ia .add .i64 (.t 18) (.c (.int .i64 1))), dO 2 (.tk (.t 19))])
 (.ret))
 (.skip))))
 (.reg [dO 10 (.mv (.t 4)), dO 11 (.ia .add .i64 (.t 10) (.c (.int .i64 1))), dO 4 (.tk (.t 11))]))

def l_r17_simple_0 : AC :=
 .loop [0, 3, 4] b_r17_simple_0

def r_r17_simple_0 : AC :=
 .seq (.seq (.reg [dO 20 (.mv (.t 0)), dO 21 (.sop .eql (.t 20) (.c (.str [114, 101, 112, 108, 97, 121])))])
 (.cond (.t 21)
 (.seq (.reg [dO 2 (.tk (.c (.int .i64 17)))])
 (.ret))
 (.skip)))
 (.seq (.seq (.reg [dO 22 (.mv (.t 0)), dO 23 (.sop .eql (.t 22) (.c (.str [97, 115, 115, 101, 114, 116])))])
 (.cond (.t 23)
 (.seq (.reg [dO 2 (.tk (.c (.int .i64 18)))])
 (.ret))
 (.skip)))
 (.seq (.reg [dO 2 (.tk (.c (.int .i64 0)))])
 (.ret)))

def c_r17_simple : AFunc :=
 { np := 1, res := [.t 2], body := (
 .seq (.reg [dO 2 (.tk (.c (.int .i64 0)))])
 (.seq (.reg [dO 5 (.bsl 1 [.str []] 10 [(0, 1, (.c (.str [99, 114, 101, 97, 116, 101]))), (1, 1, (.c (.str [109, 107, 100, 105, 114]))), (2, 1, (.c (.str [119, 114, 105, 116, 101]))), (3, 1, (.c (.str [97, 112, 112, 101, 110, 100]))), (4, 1, (.c (.str [116, 114, 117, 110, 99, 97, 116, 101]))), (5, 1, (.c (.str [114, 101, 110, 97, 109, 101]))), (6, 1, (.c (.str [117, 110, 108, 105, 110, 107]))), (7, 1, (.c (.str [102, 115, 121, 110, 99]))), (8, 1, (.c (.str [102, 100, 97, 116, 97, 115, 121, 110, 99]))), (9, 1, (.c (.str [115, 121, 110, 99, 100, 105, 114])))] false), dO 3 (.tk (.t 5))])
 (.seq (.seq (.reg [dO 4 (.tk (.c (.int .i64 0)))])
 (.block 0 (l_r17_simple_0))) r_r17_simple_0))) }

def c_rt_begin : AFunc :=
 { np := 2, res := [], body := (
 .seq (.reg [dO 4 (.mv (.t 0)), dO 5 (.nck (.t 4)), dO 6 (.fa 2 (.t 5)), dO 7 (.ld none (.t 6)), dO 8 (.ia .add .i64 (.t 7) (.c (.int .i64 1))), dO 9 (.nck (.t 4)), dO 10 (.fa 2 (.t 9)), ⟨none, none, .st 1 (.t 10) (.t 8)⟩])
 (.seq (.reg [dO 11 (.mv (.t 0)), dO 12 (.nck (.t 11)), dO 13 (.fa 2 (.t 12)), dO 14 (.ld none (.t 13)), dO 15 (.ic .gtr (.t 14) (.c (.int .i64 256))), dO 16 (.mv (.t 15)), ⟨some 17, (some (16, false)), .mv (.t 1)⟩, ⟨some 18, (some (16, false)), .ic .gtr (.t 17) (.c (.int .i64 8))⟩, dO 19 (.pick (.t 16) (.c (.bool true)) (.t 18))])
 (.cond (.t 19)
 (.reg [dO 20 (.mv (.t 0)), dO 21 (.mv (.t 0)), dO 22 (.call n_rt_now [(.t 21)]), dO 23 (.call n_rt_fail [(.t 20), (.c (.int .i64 14)), (.t 22)])])
 (.skip)))) }

def c_r16_Exprs : AFunc :=
 { np := 1, res := [.t 2, .t 3], body := (
 .seq (.reg [dO 2 (.tk (.c (.int .i64 0))), dO 3 (.tk (.c (.bool false)))])
 (.seq (.reg [dO 5 (.bsl 1 [.int .i64 0] 18 [(0, 1, (.c (.int .i64 1))), (1, 1, (.c (.int .i64 1))), (2, 1, (.c (.int .i64 3))), (3, 1, (.c (.int .i64 2))), (4, 1, (.c (.int .i64 2))), (5, 1, (.c (.int .i64 2))), (6, 1, (.c (.int .i64 1))), (7, 1, (.c (.int .i64 1))), (8, 1, (.c (.int .i64 1))), (9, 1, (.c (.int .i64 1))), (10, 1, (.c (.int .i64 0))), (11, 1, (.c (.int .i64 1))), (12, 1, (.c (.int .i64 1))), (13, 1, (.c (.int .i64 0))), (14, 1, (.c (.int .i64 0))), (15, 1, (.c (.int .i64 1))), (16, 1, (.c (.int .i64 1))), (17, 1, (.c (.int .i64 1)))] false), dO 4 (.tk (.t 5))])
 (.seq (.seq (.reg [dO 6 (.mv (.t 0)), dO 7 (.ic .lss (.t 6) (.c (.int .i64 1))), dO 8 (.mv (.t 7)), ⟨some 9, (some (8, false)), .mv (.t 0)⟩, ⟨some 10, (some (8, false)), .mv (.t 4)⟩, ⟨some 11, (some (8, false)), .len false (.t 10)⟩, ⟨some 12, (some (8, false)), .ic .gtr (.t 9) (.t 11)⟩, dO 13 (.pick (.t 8) (.c (.bool true)) (.t 12))])
 (.cond (.t 13)
 (.seq (.reg [dO 2 (.tk (.c (.int .i64 0))), dO 3 (.tk (.c (.bool false)))])
 (.ret))
 (.skip)))
 (.seq (.reg [dO 14 (.mv (.t 4)), dO 15 (.mv (.t 0)), dO 16 (.ia .sub .i64 (.t 15) (.c (.int .i64 1))), dO 17 (.ixa 1 none (.t 14) (.t 16)), dO 18 (.ld none (.t 17)), dO 2 (.tk (.t 18)), dO 3 (.tk (.c (.bool true)))])
 (.ret))))) }

def b_rt_exprs_0 : AC :=
 .seq (.seq (.reg [dO 9 (.mv (.t 6)), dO 10 (.mv (.t 1)), dO 11 (.ic .lss (.t 9) (.t 10))])
 (.cond (.t 11)
 (.skip)
 (.exit 0)))
 (.seq (.block 1 (.seq (.reg [dO 7 (.tk (.c (.str [59])))])
 (.seq (.seq (.reg [dO 14 (.mv (.t 6)), dO 15 (.mv (.t 1)), dO 16 (.ia .sub .i64 (.t 15) (.c (.int .i64 1))), dO 17 (.ic .lss (.t 14) (.t 16))])
 (.cond (.t 17)
 (.reg [dO 7 (.tk (.c (.str [44])))])
 (.skip)))
 (.seq (.reg [dO 18 (.mv (.t 0)), dO 19 (.mv (.t 7)), dO 20 (.bsl 1 [.str []] 1 [(0, 1, (.t 19))] false), dO 21 (.call n_rt_whole [(.t 18), (.t 20)]), dO 8 (.alloc [.int .i64 0, .int .i64 0, .str [], .own 4 []]), ⟨none, none, .st 4 (.t 8) (.t 21)⟩])
 (.seq (.reg [dO 22 (.tk (.t 5)), dO 23 (.ld (some 4) (.t 8)), dO 24 (.bsl 4 [.int .i64 0, .int .i64 0, .str [], .sl 4 []] 1 [(0, 4, (.t 23))] false), dO 25 (.app 4 56 (.t 22) (.t 24) false), dO 5 (.tk (.t 25))])
 (.reg [dO 26 (.mv (.t 0)), dO 27 (.mv (.t 7)), dO 28 (.call n_rt_need [(.t 26), (.t 27)])]))))))
 (.reg [dO 12 (.mv (.t 6)), dO 13 (.ia .add .i64 (.t 12) (.c (.int .i64 1))), dO 6 (.tk (.t 13))]))

def l_rt_exprs_0 : AC :=
 .loop [0, 1, 5, 6] b_rt_exprs_0

def r_rt_exprs_0 : AC :=
 .seq (.reg [dO 29 (.tk (.t 5)), dO 4 (.tk (.t 29))])
 (.ret)

def c_rt_exprs : AFunc :=
 { np := 2, res := [.t 4], body := (
 .seq (.reg [dO 4 (.tk (.c (.own 4 [])))])
 (.seq (.reg [dO 5 (.tk (.c (.own 4 [])))])
 (.seq (.seq (.reg [dO 6 (.tk (.c (.int .i64 0)))])
 (.block 0 (l_rt_exprs_0))) r_rt_exprs_0))) }

def b_rt_txn_0 : AC :=
 .seq (.seq (.reg [dO 16 (.mv (.t 0)), dO 17 (.call n_rt_is [(.t 16), (.c (.str [119, 114, 105, 116, 101]))])])
 (.cond (.t 17)
 (.skip)
 (.exit 0)))
 (.block 1 (.seq (.seq (.reg [dO 18 (.fa 4 (.t 6)), dO 19 (.ld none (.t 18)), dO 20 (.len false (.t 19)), dO 21 (.ic .eql (.t 20) (.c (.int .i64 8)))])
 (.cond (.t 21)
 (.reg [dO 22 (.mv (.t 0)), dO 23 (.mv (.t 0)), dO 24 (.call n_rt_now [(.t 23)]), dO 25 (.call n_rt_fail [(.t 22), (.c (.int .i64 14)), (.t 24)])])
 (.skip)))
 (.seq (.reg [dO 26 (.mv (.t 0)), dO 27 (.mv (.t 1)), dO 28 (.ia .add .i64 (.t 27) (.c (.int .i64 1))), dO 29 (.call n_rt_stmt [(.t 26), (.t 28)]), dO 7 (.alloc [.int .i64 0, .str [], .int .i64 0, .own 4 [], .own 7 [], .own 7 [], .bool false]), ⟨none, none, .st 7 (.t 7) (.t 29)⟩])
 (.reg [dO 30 (.fa 4 (.t 6)), dO 31 (.ldo (.t 30)), dO 32 (.ld (some 7) (.t 7)), dO 33 (.bsl 7 [.int .i64 0, .str [], .int .i64 0, .sl 4 [], .sl 7 [], .sl 7 [], .bool false] 1 [(0, 7, (.t 32))] false), dO 34 (.app 7 112 (.t 31) (.t 33) false), dO 35 (.fa 4 (.t 6)), ⟨none, none, .st 1 (.t 35) (.t 34)⟩]))))

def l_rt_txn_0 : AC :=
 .loop [0, 1, 4, 6] b_rt_txn_0

def r_rt_txn_0 : AC :=
 .seq (.reg [dO 36 (.mv (.t 0)), dO 37 (.call n_rt_need [(.t 36), (.c (.str [125]))])])
 (.seq (.reg [dO 38 (.mv (.t 0)), dO 39 (.call n_rt_take [(.t 38), (.c (.str [99, 111, 109, 109, 105, 116]))]), dO 40 (.fa 6 (.t 6)), ⟨none, none, .st 1 (.t 40) (.t 39)⟩])
 (.seq (.reg [dO 41 (.mv (.t 0)), dO 42 (.call n_rt_need [(.t 41), (.c (.str [59]))])])
 (.seq (.reg [dO 43 (.ld (some 7) (.t 6)), ⟨none, none, .st 7 (.t 4) (.t 43)⟩])
 (.ret))))

def c_rt_txn : AFunc :=
 { np := 2, res := [.cell 4 (some 7)], body := (
 .seq (.reg [dO 4 (.alloc [.int .i64 0, .str [], .int .i64 0, .own 4 [], .own 7 [], .own 7 [], .bool false])])
 (.seq (.reg [dO 8 (.mv (.t 0)), dO 9 (.bsl 1 [.str []] 1 [(0, 1, (.c (.str [123])))] false), dO 10 (.call n_rt_whole [(.t 8), (.t 9)]), dO 5 (.alloc [.int .i64 0, .int .i64 0, .str [], .own 4 []]), ⟨none, none, .st 4 (.t 5) (.t 10)⟩])
 (.seq (.reg [dO 11 (.ld (some 4) (.t 5)), dO 12 (.bsl 4 [.int .i64 0, .int .i64 0, .str [], .sl 4 []] 1 [(0, 4, (.t 11))] false), dO 13 (.bld [.int .i64 0, .str [], .int .i64 0, .sl 4 [], .nils 7, .sl 7 [], .bool false] [(0, 1, (.c (.int .i64 16))), (3, 1, (.t 12))]), dO 6 (.alloc [.int .i64 0, .str [], .int .i64 0, .own 4 [], .own 7 [], .own 7 [], .bool false]), ⟨none, none, .st 7 (.t 6) (.t 13)⟩])
 (.seq (.reg [dO 14 (.mv (.t 0)), dO 15 (.call n_rt_need [(.t 14), (.c (.str [123]))])])
 (.seq (.block 0 (l_rt_txn_0)) r_rt_txn_0))))) }

def b_rt_both_0 : AC :=
 .seq (.seq (.reg [dO 7 (.mv (.t 0)), dO 8 (.call n_rt_take [(.t 7), (.c (.str [97, 110, 100]))])])
 (.cond (.t 8)
 (.skip)
 (.exit 0)))
 (.block 1 (.seq (.reg [dO 9 (.mv (.t 0)), dO 10 (.call n_rt_not [(.t 9)]), dO 4 (.alloc [.int .i64 0, .int .i64 0, .str [], .own 4 []]), ⟨none, none, .st 4 (.t 4) (.t 10)⟩])
 (.reg [dO 11 (.ld (some 4) (.t 3)), dO 12 (.ld (some 4) (.t 4)), dO 13 (.callc n_r17_two [(.c (.int .i64 13)), (.t 11), (.t 12)]), ⟨none, none, .st 4 (.t 3) (.t 13)⟩])))

def l_rt_both_0 : AC :=
 .loop [0, 2, 3] b_rt_both_0

def r_rt_both_0 : AC :=
 .seq (.reg [dO 14 (.ld (some 4) (.t 3)), ⟨none, none, .st 4 (.t 2) (.t 14)⟩])
 (.ret)

def c_rt_both : AFunc :=
 { np := 1, res := [.cell 2 (some 4)], body := (
 .seq (.reg [dO 2 (.alloc [.int .i64 0, .int .i64 0, .str [], .own 4 []])])
 (.seq (.reg [dO 5 (.mv (.t 0)), dO 6 (.call n_rt_not [(.t 5)]), dO 3 (.alloc [.int .i64 0, .int .i64 0, .str [], .own 4 []]), ⟨none, none, .st 4 (.t 3) (.t 6)⟩])
 (.seq (.block 0 (l_rt_both_0)) r_rt_both_0))) }

def c_r17_two : AFunc :=
 { np := 3, res := [.cell 6 (some 4)], body := (
 .seq (.reg [dO 4 (.box (.t 1)), dO 5 (.box (.t 2)), dO 6 (.alloc [.int .i64 0, .int .i64 0, .str [], .own 4 []])])
 (.seq (.reg [dO 7 (.mv (.t 0)), dO 8 (.ld (some 4) (.t 4)), dO 9 (.ld (some 4) (.t 5)), dO 10 (.bsl 4 [.int .i64 0, .int .i64 0, .str [], .sl 4 []] 2 [(0, 4, (.t 8)), (4, 4, (.t 9))] false), dO 11 (.bld [.int .i64 0, .int .i64 0, .str [], .sl 4 []] [(0, 1, (.t 7)), (3, 1, (.t 10))]), ⟨none, none, .st 4 (.t 6) (.t 11)⟩])
 (.ret))) }

def b_pp_chain_0 : AC :=
 .seq (.reg [dO 16 (.ic .lss (.t 15) (.t 14))])
 (.seq (.cond (.t 16)
 (.skip)
 (.exit 0))
 (.seq (.block 1 (.seq (.reg [dO 18 (.mv (.t 0)), dO 19 (.nck (.t 18)), dO 20 (.fa 0 (.t 19)), dO 21 (.mv (.t 3)), dO 22 (.call n_pw_takes [(.t 20), (.t 21)]), dO 17 (.mv (.t 22)), dO 23 (.ext (.t 17) 0), dO 24 (.ext (.t 17) 1), dO 10 (.tk (.t 23)), dO 11 (.tk (.t 24))])
 (.seq (.seq (.reg [dO 25 (.mv (.t 11)), dO 26 (.notb (.t 25))])
 (.cond (.t 26)
 (.exit 0)
 (.skip)))
 (.drw [[], [], [], [], [], [], [], []] [dO 27 (.mv (.t 10)), dO 28 (.callc n_parse_kind [(.t 27)]), dO 29 (.ldq (some 4) (.t 9) (.t 9)), dO 30 (.mv (.t 1)), dO 31 (.callvh (.t 30) [] (.t 9)), dO 32 (.bsl 4 [.int .i64 0, .int .i64 0, .str [], .sl 4 []] 2 [(0, 4, (.t 29)), (4, 4, (.t 31))] false), dO 33 (.bld [.int .i64 0, .int .i64 0, .str [], .sl 4 []] [(0, 1, (.t 28)), (3, 1, (.t 32))]), ⟨none, none, .st 4 (.t 9) (.t 33)⟩]))))
 (.reg [dO 34 (.ia .add .i64 (.t 15) (.c (.int .i64 1))), dO 15 (.mv (.t 34))])))

def l_pp_chain_0 : AC :=
 .loop [0, 1, 3, 8, 9, 14, 15] b_pp_chain_0

def r_pp_chain_0 : AC :=
 .seq (.reg [dO 35 (.ld (some 4) (.t 9)), ⟨none, none, .st 4 (.t 8) (.t 35)⟩])
 (.ret)

def c_pp_chain : AFunc :=
 { np := 4, res := [.cell 8 (some 4)], body := (
 .seq (.reg [dO 8 (.alloc [.int .i64 0, .int .i64 0, .str [], .own 4 []])])
 (.seq (.reg [dO 12 (.mv (.t 1)), dO 13 (.callv (.t 12) []), dO 9 (.alloc [.int .i64 0, .int .i64 0, .str [], .own 4 []]), ⟨none, none, .st 4 (.t 9) (.t 13)⟩])
 (.seq (.seq (.reg [dO 14 (.mv (.t 2)), dO 15 (.mv (.c (.int .i64 0)))])
 (.block 0 (l_pp_chain_0))) r_pp_chain_0))) }

def c_pp_both : AFunc :=
 { np := 1, res := [.cell 2 (some 4)], body := (
 .seq (.reg [dO 2 (.alloc [.int .i64 0, .int .i64 0, .str [], .own 4 []])])
 (.seq (.reg [dO 3 (.mv (.t 0)), dO 4 (.mv (.t 0)), dO 5 (.mkf (.func n_pp_not) [(.t 4)] []), dO 6 (.bsl 1 [.str []] 1 [(0, 1, (.c (.str [97, 110, 100])))] false), dO 7 (.call n_pp_chain [(.t 3), (.t 5), (.c (.int .i64 4096)), (.t 6)]), ⟨none, none, .st 4 (.t 2) (.t 7)⟩])
 (.ret))) }

def c_isl_HasPrefix : AFunc :=
 { np := 2, res := [.t 4], body := (
 .seq (.reg [dO 4 (.tk (.c (.bool false)))])
 (.seq (.reg [dO 5 (.mv (.t 0)), dO 6 (.len true (.t 5)), dO 7 (.mv (.t 1)), dO 8 (.len true (.t 7)), dO 9 (.ic .geq (.t 6) (.t 8)), dO 10 (.mv (.t 9)), ⟨some 11, (some (10, true)), .mv (.t 0)⟩, ⟨some 12, (some (10, true)), .mv (.t 1)⟩, ⟨some 13, (some (10, true)), .len true (.t 12)⟩, ⟨some 14, (some (10, true)), .slc (.t 11) none (some (.t 13))⟩, ⟨some 15, (some (10, true)), .mv (.t 1)⟩, ⟨some 16, (some (10, true)), .sop .eql (.t 14) (.t 15)⟩, dO 17 (.pick (.t 10) (.t 16) (.c (.bool false))), dO 4 (.tk (.t 17))])
 (.ret))) }

def b_num_Read_0 : AC :=
 .seq (.reg [dO 28 (.ic .lss (.t 27) (.t 26))])
 (.seq (.cond (.t 28)
 (.skip)
 (.exit 0))
 (.seq (.block 1 (.seq (.reg [dO 29 (.ixa 1 none (.t 25) (.t 27)), dO 30 (.ld none (.t 29)), dO 6 (.tk (.t 30))])
 (.seq (.reg [dO 31 (.mv (.t 6)), dO 32 (.conv .i64 (.t 31)), dO 33 (.ia .sub .i64 (.t 32) (.c (.int .i64 48))), dO 7 (.tk (.t 33))])
 (.seq (.seq (.reg [dO 34 (.mv (.t 7)), dO 35 (.ic .lss (.t 34) (.c (.int .i64 0))), dO 36 (.mv (.t 35)), ⟨some 37, (some (36, false)), .mv (.t 7)⟩, ⟨some 38, (some (36, false)), .ic .gtr (.t 37) (.c (.int .i64 9))⟩, dO 39 (.pick (.t 36) (.c (.bool true)) (.t 38))])
 (.cond (.t 39)
 (.seq (.reg [dO 2 (.tk (.c (.int .i64 0))), dO 3 (.tk (.c (.bool false)))])
 (.ret))
 (.skip)))
 (.reg [dO 40 (.mv (.t 4)), dO 41 (.ia .mul .i64 (.t 40) (.c (.int .i64 10))), dO 42 (.mv (.t 7)), dO 43 (.ia .add .i64 (.t 41) (.t 42)), dO 4 (.tk (.t 43))])))))
 (.reg [dO 44 (.ia .add .i64 (.t 27) (.c (.int .i64 1))), dO 27 (.mv (.t 44))])))

def l_num_Read_0 : AC :=
 .loop [4, 25, 26, 27] b_num_Read_0

def r_num_Read_0 : AC :=
 .seq (.seq (.reg [dO 45 (.mv (.t 4)), dO 46 (.ic .gtr (.t 45) (.c (.int .i64 1000000000000)))])
 (.cond (.t 46)
 (.seq (.reg [dO 2 (.tk (.c (.int .i64 0))), dO 3 (.tk (.c (.bool false)))])
 (.ret))
 (.skip)))
 (.seq (.reg [dO 47 (.mv (.t 4)), dO 2 (.tk (.t 47)), dO 3 (.tk (.c (.bool true)))])
 (.ret))

def c_num_Read : AFunc :=
 { np := 1, res := [.t 2, .t 3], body := (
 .seq (.reg [dO 2 (.tk (.c (.int .i64 0))), dO 3 (.tk (.c (.bool false)))])
 (.seq (.seq (.reg [dO 8 (.mv (.t 0)), dO 9 (.sop .eql (.t 8) (.c (.str []))), dO 10 (.mv (.t 9)), ⟨some 11, (some (10, false)), .mv (.t 0)⟩, ⟨some 12, (some (10, false)), .len true (.t 11)⟩, ⟨some 13, (some (10, false)), .ic .gtr (.t 12) (.c (.int .i64 13))⟩, dO 14 (.pick (.t 10) (.c (.bool true)) (.t 13)), dO 15 (.mv (.t 14)), ⟨some 16, (some (15, false)), .mv (.t 0)⟩, ⟨some 17, (some (15, false)), .ixs (.t 16) (.c (.int .i64 0))⟩, ⟨some 18, (some (15, false)), .ic .eql (.t 17) (.c (.int .u8 48))⟩, ⟨some 19, (some (15, false)), .mv (.t 18)⟩, ⟨some 20, (some (19, true)), .mv (.t 0)⟩, ⟨some 21, (some (19, true)), .sop .neq (.t 20) (.c (.str [48]))⟩, ⟨some 22, (some (15, false)), .pick (.t 19) (.t 21) (.c (.bool false))⟩, dO 23 (.pick (.t 15) (.c (.bool true)) (.t 22))])
 (.cond (.t 23)
 (.seq (.reg [dO 2 (.tk (.c (.int .i64 0))), dO 3 (.tk (.c (.bool false)))])
 (.ret))
 (.skip)))
 (.seq (.reg [dO 4 (.tk (.c (.int .i64 0)))])
 (.seq (.seq (.reg [dO 24 (.mv (.t 0)), dO 25 (.s2b (.t 24)), dO 26 (.len false (.t 25)), dO 27 (.mv (.c (.int .i64 0)))])
 (.block 0 (l_num_Read_0))) r_num_Read_0)))) }

def b_view_Unquote_0 : AC :=
 .seq (.seq (.reg [dO 25 (.mv (.t 4)), dO 26 (.sop .neq (.t 25) (.c (.str [])))])
 (.cond (.t 26)
 (.skip)
 (.exit 0)))
 (.block 1 (.seq (.reg [dO 27 (.mv (.t 4)), dO 28 (.ixs (.t 27) (.c (.int .i64 0))), dO 8 (.tk (.t 28))])
 (.seq (.reg [dO 29 (.mv (.t 4)), dO 30 (.slc (.t 29) (some (.c (.int .i64 1))) none), dO 4 (.tk (.t 30))])
 (.seq (.seq (.reg [dO 31 (.mv (.t 8)), dO 32 (.ic .eql (.t 31) (.c (.int .u8 92)))])
 (.cond (.t 32)
 (.seq (.seq (.reg [dO 34 (.mv (.t 4)), dO 35 (.callc n_view_pair [(.t 34)]), dO 33 (.mv (.t 35)), dO 36 (.ext (.t 33) 0), dO 37 (.ext (.t 33) 1), dO 8 (.tk (.t 36)), dO 5 (.tk (.t 37))])
 (.seq (.reg [dO 38 (.mv (.t 5)), dO 39 (.notb (.t 38))])
 (.cond (.t 39)
 (.seq (.reg [dO 2 (.tk (.c (.str []))), dO 3 (.tk (.c (.bool false)))])
 (.ret))
 (.skip))))
 (.reg [dO 40 (.mv (.t 4)), dO 41 (.slc (.t 40) (some (.c (.int .i64 2))) none), dO 4 (.tk (.t 41))]))
 (.seq (.reg [dO 42 (.mv (.t 8)), dO 43 (.callc n_view_plain [(.t 42)]), dO 44 (.notb (.t 43))])
 (.cond (.t 44)
 (.seq (.reg [dO 2 (.tk (.c (.str []))), dO 3 (.tk (.c (.bool false)))])
 (.ret))
 (.skip)))))
 (.reg [dO 45 (.mv (.t 8)), dO 46 (.call n_pstrings_Builder_WriteByte [(.t 7), (.t 45)])])))))

def l_view_Unquote_0 : AC :=
 .loop [4, 7] b_view_Unquote_0

def r_view_Unquote_0 : AC :=
 .seq (.reg [dO 47 (.call n_pstrings_Builder_String [(.t 7)]), dO 2 (.tk (.t 47)), dO 3 (.tk (.c (.bool true)))])
 (.ret)

def c_view_Unquote : AFunc :=
 { np := 1, res := [.t 2, .t 3], body := (
 .seq (.reg [dO 2 (.tk (.c (.str []))), dO 3 (.tk (.c (.bool false)))])
 (.seq (.reg [dO 10 (.mv (.t 0)), dO 11 (.callc n_strings_CutPrefix [(.t 10), (.c (.str [34]))]), dO 9 (.mv (.t 11)), dO 12 (.ext (.t 9) 0), dO 13 (.ext (.t 9) 1), dO 4 (.tk (.t 12)), dO 5 (.tk (.t 13))])
 (.seq (.reg [dO 15 (.mv (.t 4)), dO 16 (.callc n_strings_CutSuffix [(.t 15), (.c (.str [34]))]), dO 14 (.mv (.t 16)), dO 17 (.ext (.t 14) 0), dO 18 (.ext (.t 14) 1), dO 4 (.tk (.t 17)), dO 6 (.tk (.t 18))])
 (.seq (.seq (.reg [dO 19 (.mv (.t 5)), dO 20 (.notb (.t 19)), dO 21 (.mv (.t 20)), ⟨some 22, (some (21, false)), .mv (.t 6)⟩, ⟨some 23, (some (21, false)), .notb (.t 22)⟩, dO 24 (.pick (.t 21) (.c (.bool true)) (.t 23))])
 (.cond (.t 24)
 (.seq (.reg [dO 2 (.tk (.c (.str []))), dO 3 (.tk (.c (.bool false)))])
 (.ret))
 (.skip)))
 (.seq (.reg [dO 7 (.allocb bT bE)])
 (.seq (.block 0 (l_view_Unquote_0)) r_view_Unquote_0)))))) }

def c_parse_simple : AFunc :=
 { np := 1, res := [.t 2, .t 3], body := (
 .seq (.reg [dO 1 (.box (.t 0)), dO 2 (.tk (.c (.int .i64 0))), dO 3 (.tk (.c (.bool false)))])
 (.seq (.seq (.reg [dO 4 (.fa 0 (.t 1)), dO 5 (.ld none (.t 4)), dO 6 (.ic .neq (.t 5) (.c (.int .i64 4)))])
 (.cond (.t 6)
 (.seq (.reg [dO 2 (.tk (.c (.int .i64 0))), dO 3 (.tk (.c (.bool false)))])
 (.ret))
 (.skip)))
 (.seq (.seq (.reg [dO 7 (.fa 1 (.t 1)), dO 8 (.ld none (.t 7))])
 (.block 0 (.seq (.reg [dO 10 (.sop .eql (.t 8) (.c (.str [99, 114, 101, 97, 116, 101]))), dO 9 (.tk (.t 10))])
 (.cond (.t 9)
 (.seq (.reg [dO 2 (.tk (.c (.int .i64 1))), dO 3 (.tk (.c (.bool true)))])
 (.ret))
 (.seq (.reg [dO 12 (.sop .eql (.t 8) (.c (.str [109, 107, 100, 105, 114]))), dO 11 (.tk (.t 12))])
 (.cond (.t 11)
 (.seq (.reg [dO 2 (.tk (.c (.int .i64 2))), dO 3 (.tk (.c (.bool true)))])
 (.ret))
 (.seq (.reg [dO 14 (.sop .eql (.t 8) (.c (.str [119, 114, 105, 116, 101]))), dO 13 (.tk (.t 14))])
 (.cond (.t 13)
 (.seq (.reg [dO 2 (.tk (.c (.int .i64 3))), dO 3 (.tk (.c (.bool true)))])
 (.ret))
 (.seq (.reg [dO 16 (.sop .eql (.t 8) (.c (.str [97, 112, 112, 101, 110, 100]))), dO 15 (.tk (.t 16))])
 (.cond (.t 15)
 (.seq (.reg [dO 2 (.tk (.c (.int .i64 4))), dO 3 (.tk (.c (.bool true)))])
 (.ret))
 (.seq (.reg [dO 18 (.sop .eql (.t 8) (.c (.str [116, 114, 117, 110, 99, 97, 116, 101]))), dO 17 (.tk (.t 18))])
 (.cond (.t 17)
 (.seq (.reg [dO 2 (.tk (.c (.int .i64 5))), dO 3 (.tk (.c (.bool true)))])
 (.ret))
 (.seq (.reg [dO 20 (.sop .eql (.t 8) (.c (.str [114, 101, 110, 97, 109, 101]))), dO 19 (.tk (.t 20))])
 (.cond (.t 19)
 (.seq (.reg [dO 2 (.tk (.c (.int .i64 6))), dO 3 (.tk (.c (.bool true)))])
 (.ret))
 (.seq (.reg [dO 22 (.sop .eql (.t 8) (.c (.str [117, 110, 108, 105, 110, 107]))), dO 21 (.tk (.t 22))])
 (.cond (.t 21)
 (.seq (.reg [dO 2 (.tk (.c (.int .i64 7))), dO 3 (.tk (.c (.bool true)))])
 (.ret))
 (.seq (.reg [dO 24 (.sop .eql (.t 8) (.c (.str [102, 115, 121, 110, 99]))), dO 23 (.tk (.t 24))])
 (.cond (.t 23)
 (.seq (.reg [dO 2 (.tk (.c (.int .i64 8))), dO 3 (.tk (.c (.bool true)))])
 (.ret))
 (.seq (.reg [dO 26 (.sop .eql (.t 8) (.c (.str [102, 100, 97, 116, 97, 115, 121, 110, 99]))), dO 25 (.tk (.t 26))])
 (.cond (.t 25)
 (.seq (.reg [dO 2 (.tk (.c (.int .i64 9))), dO 3 (.tk (.c (.bool true)))])
 (.ret))
 (.seq (.reg [dO 28 (.sop .eql (.t 8) (.c (.str [115, 121, 110, 99, 100, 105, 114]))), dO 27 (.tk (.t 28))])
 (.cond (.t 27)
 (.seq (.reg [dO 2 (.tk (.c (.int .i64 10))), dO 3 (.tk (.c (.bool true)))])
 (.ret))
 (.seq (.reg [dO 30 (.sop .eql (.t 8) (.c (.str [114, 101, 112, 108, 97, 121]))), dO 29 (.tk (.t 30))])
 (.cond (.t 29)
 (.seq (.reg [dO 2 (.tk (.c (.int .i64 17))), dO 3 (.tk (.c (.bool true)))])
 (.ret))
 (.seq (.reg [dO 32 (.sop .eql (.t 8) (.c (.str [97, 115, 115, 101, 114, 116]))), dO 31 (.tk (.t 32))])
 (.cond (.t 31)
 (.seq (.reg [dO 2 (.tk (.c (.int .i64 18))), dO 3 (.tk (.c (.bool true)))])
 (.ret))
 (.seq (.reg [dO 34 (.sop .eql (.t 8) (.c (.str [98, 97, 114, 114, 105, 101, 114]))), dO 33 (.tk (.t 34))])
 (.cond (.t 33)
 (.seq (.reg [dO 2 (.tk (.c (.int .i64 11))), dO 3 (.tk (.c (.bool true)))])
 (.ret))
 (.skip)))))))))))))))))))))))))))))
 (.seq (.reg [dO 2 (.tk (.c (.int .i64 0))), dO 3 (.tk (.c (.bool false)))])
 (.ret))))) }

def b_pp_exprs_0 : AC :=
 .seq (.reg [dO 17 (.ic .lss (.t 16) (.t 15))])
 (.seq (.cond (.t 17)
 (.skip)
 (.exit 0))
 (.seq (.block 1 (.seq (.reg [dO 18 (.mv (.t 16)), dO 8 (.tk (.t 18))])
 (.seq (.reg [dO 9 (.tk (.c (.str [59])))])
 (.seq (.seq (.reg [dO 19 (.mv (.t 8)), dO 20 (.ia .add .i64 (.t 19) (.c (.int .i64 1))), dO 21 (.mv (.t 5)), dO 22 (.ic .lss (.t 20) (.t 21))])
 (.cond (.t 22)
 (.reg [dO 9 (.tk (.c (.str [44])))])
 (.skip)))
 (.seq (.reg [dO 23 (.tk (.t 7)), dO 24 (.mv (.t 0)), dO 25 (.mv (.t 9)), dO 26 (.call n_pp_whole [(.t 24), (.t 25)]), dO 27 (.bsl 4 [.int .i64 0, .int .i64 0, .str [], .sl 4 []] 1 [(0, 4, (.t 26))] false), dO 28 (.app 4 56 (.t 23) (.t 27) false), dO 7 (.tk (.t 28))])
 (.reg [dO 29 (.mv (.t 0)), dO 30 (.nck (.t 29)), dO 31 (.fa 0 (.t 30)), dO 32 (.mv (.t 9)), dO 33 (.call n_pw_wants [(.t 31), (.t 32)])]))))))
 (.reg [dO 34 (.ia .add .i64 (.t 16) (.c (.int .i64 1))), dO 16 (.mv (.t 34))])))

def l_pp_exprs_0 : AC :=
 .loop [0, 5, 7, 15, 16] b_pp_exprs_0

def r_pp_exprs_0 : AC :=
 .seq (.seq (.reg [dO 35 (.mv (.t 5)), dO 36 (.ic .eql (.t 35) (.c (.int .i64 0)))])
 (.cond (.t 36)
 (.reg [dO 37 (.mv (.t 0)), dO 38 (.nck (.t 37)), dO 39 (.fa 0 (.t 38)), dO 40 (.call n_pw_wants [(.t 39), (.c (.str [59]))])])
 (.skip)))
 (.seq (.reg [dO 41 (.tk (.t 7)), dO 4 (.tk (.t 41))])
 (.ret))

def c_pp_exprs : AFunc :=
 { np := 2, res := [.t 4], body := (
 .seq (.reg [dO 4 (.tk (.c (.own 4 [])))])
 (.seq (.reg [dO 11 (.mv (.t 1)), dO 12 (.callc n_tree_Exprs [(.t 11)]), dO 10 (.mv (.t 12)), dO 13 (.ext (.t 10) 0), dO 14 (.ext (.t 10) 1), dO 5 (.tk (.t 13)), dO 6 (.tk (.t 14))])
 (.seq (.reg [dO 7 (.tk (.c (.own 4 [])))])
 (.seq (.seq (.reg [dO 15 (.mv (.t 5)), dO 16 (.mv (.c (.int .i64 0)))])
 (.block 0 (l_pp_exprs_0))) r_pp_exprs_0)))) }

def c_pp_choice : AFunc :=
 { np := 2, res := [.cell 4 (some 7)], body := (
 .seq (.reg [dO 4 (.alloc [.int .i64 0, .str [], .int .i64 0, .own 4 [], .own 7 [], .own 7 [], .bool false])])
 (.seq (.reg [dO 8 (.mv (.t 0)), dO 9 (.call n_pp_whole [(.t 8), (.c (.str [123]))]), dO 10 (.bsl 4 [.int .i64 0, .int .i64 0, .str [], .sl 4 []] 1 [(0, 4, (.t 9))] false), dO 11 (.bld [.int .i64 0, .str [], .int .i64 0, .sl 4 [], .sl 7 [], .sl 7 [], .bool false] [(0, 1, (.c (.int .i64 13))), (3, 1, (.t 10))]), dO 5 (.alloc [.int .i64 0, .str [], .int .i64 0, .own 4 [], .own 7 [], .own 7 [], .bool false]), ⟨none, none, .st 7 (.t 5) (.t 11)⟩])
 (.seq (.reg [dO 12 (.mv (.t 0)), dO 13 (.mv (.t 1)), dO 14 (.ia .add .i64 (.t 13) (.c (.int .i64 1))), dO 15 (.call n_pp_block [(.t 12), (.t 14)]), dO 16 (.fa 4 (.t 5)), ⟨none, none, .st 1 (.t 16) (.t 15)⟩])
 (.seq (.seq (.reg [dO 18 (.mv (.t 0)), dO 19 (.nck (.t 18)), dO 20 (.fa 0 (.t 19)), dO 21 (.bsl 1 [.str []] 1 [(0, 1, (.c (.str [101, 108, 115, 101])))] false), dO 22 (.call n_pw_takes [(.t 20), (.t 21)]), dO 17 (.mv (.t 22)), dO 23 (.ext (.t 17) 0), dO 24 (.ext (.t 17) 1), dO 6 (.tk (.t 23)), dO 7 (.tk (.t 24))])
 (.seq (.reg [dO 25 (.mv (.t 7))])
 (.cond (.t 25)
 (.reg [dO 26 (.mv (.t 0)), dO 27 (.mv (.t 1)), dO 28 (.ia .add .i64 (.t 27) (.c (.int .i64 1))), dO 29 (.call n_pp_block [(.t 26), (.t 28)]), dO 30 (.fa 5 (.t 5)), ⟨none, none, .st 1 (.t 30) (.t 29)⟩])
 (.skip))))
 (.seq (.reg [dO 31 (.ld (some 7) (.t 5)), ⟨none, none, .st 7 (.t 4) (.t 31)⟩])
 (.ret)))))) }

def c_pp_loop : AFunc :=
 { np := 2, res := [.cell 4 (some 7)], body := (
 .seq (.reg [dO 4 (.alloc [.int .i64 0, .str [], .int .i64 0, .own 4 [], .own 7 [], .own 7 [], .bool false])])
 (.seq (.reg [dO 6 (.mv (.t 0)), dO 7 (.nck (.t 6)), dO 8 (.fa 0 (.t 7)), dO 9 (.call n_pw_of [(.t 8), (.c (.int .i64 2))]), dO 5 (.alloc [.int .i64 0, .str [], .int .i64 0, .int .i64 0]), ⟨none, none, .st 4 (.t 5) (.t 9)⟩])
 (.seq (.seq (.reg [dO 10 (.fa 2 (.t 5)), dO 11 (.ld none (.t 10)), dO 12 (.ic .gtr (.t 11) (.c (.int .i64 16)))])
 (.cond (.t 12)
 (.drw [[], [], [], [], []] [dO 13 (.mv (.t 0)), dO 14 (.nck (.t 13)), dO 15 (.fa 0 (.t 14)), dO 16 (.ld (some 4) (.t 5)), dO 17 (.call n_pw_fail [(.t 15), (.c (.int .i64 14)), (.t 16)])])
 (.skip)))
 (.seq (.drw [[], [], [], [], [], [], [], []] [dO 18 (.fa 2 (.t 5)), dO 19 (.ldq none (.t 18) (.t 5)), dO 20 (.mv (.t 0)), dO 21 (.mv (.t 1)), dO 22 (.ia .add .i64 (.t 21) (.c (.int .i64 1))), dO 23 (.callh n_pp_block [(.t 20), (.t 22)] (.t 5)), dO 24 (.bld [.int .i64 0, .str [], .int .i64 0, .sl 4 [], .sl 7 [], .sl 7 [], .bool false] [(0, 1, (.c (.int .i64 14))), (2, 1, (.t 19)), (4, 1, (.t 23))]), ⟨none, none, .st 7 (.t 4) (.t 24)⟩])
 (.ret))))) }

def b_pp_txn_0 : AC :=
 .block 1 (.seq (.seq (.reg [dO 17 (.mv (.t 0)), dO 18 (.nck (.t 17)), dO 19 (.fa 0 (.t 18)), dO 20 (.bsl 1 [.str []] 1 [(0, 1, (.c (.str [119, 114, 105, 116, 101])))] false), dO 21 (.call n_pw_sees [(.t 19), (.t 20)]), dO 16 (.mv (.t 21)), dO 22 (.ext (.t 16) 0), dO 23 (.ext (.t 16) 1), dO 6 (.tk (.t 22)), dO 7 (.tk (.t 23))])
 (.seq (.reg [dO 24 (.mv (.t 7)), dO 25 (.notb (.t 24))])
 (.cond (.t 25)
 (.exit 0)
 (.skip))))
 (.seq (.seq (.reg [dO 26 (.fa 4 (.t 5)), dO 27 (.ld none (.t 26)), dO 28 (.len false (.t 27)), dO 29 (.ic .eql (.t 28) (.c (.int .i64 8)))])
 (.cond (.t 29)
 (.seq (.drw [[], [], [], [], [], [], [], []] [dO 30 (.mv (.t 0)), dO 31 (.nck (.t 30)), dO 32 (.fa 0 (.t 31)), dO 33 (.mv (.t 0)), dO 34 (.nck (.t 33)), dO 35 (.fa 0 (.t 34)), dO 36 (.call n_pw_head [(.t 35)]), dO 37 (.call n_pw_fail [(.t 32), (.c (.int .i64 14)), (.t 36)])])
 (.exit 0))
 (.skip)))
 (.drw [[], [], [], [], [], [], [], [], [], []] [dO 38 (.fa 4 (.t 5)), dO 39 (.ldoq (.t 38) (.t 5)), dO 40 (.mv (.t 0)), dO 41 (.mv (.t 1)), dO 42 (.ia .add .i64 (.t 41) (.c (.int .i64 1))), dO 43 (.callh n_pp_stmt [(.t 40), (.t 42)] (.t 5)), dO 44 (.bsl 7 [.int .i64 0, .str [], .int .i64 0, .sl 4 [], .sl 7 [], .sl 7 [], .bool false] 1 [(0, 7, (.t 43))] false), dO 45 (.app 7 112 (.t 39) (.t 44) false), dO 46 (.fa 4 (.t 5)), ⟨none, none, .st 1 (.t 46) (.t 45)⟩])))

def l_pp_txn_0 : AC :=
 .loop [0, 1, 4, 5] b_pp_txn_0

def r_pp_txn_0 : AC :=
 .seq (.reg [dO 47 (.mv (.t 0)), dO 48 (.nck (.t 47)), dO 49 (.fa 0 (.t 48)), dO 50 (.call n_pw_wants [(.t 49), (.c (.str [125]))])])
 (.seq (.reg [dO 52 (.mv (.t 0)), dO 53 (.nck (.t 52)), dO 54 (.fa 0 (.t 53)), dO 55 (.bsl 1 [.str []] 1 [(0, 1, (.c (.str [99, 111, 109, 109, 105, 116])))] false), dO 56 (.call n_pw_takes [(.t 54), (.t 55)]), dO 51 (.mv (.t 56)), dO 57 (.ext (.t 51) 0), dO 58 (.ext (.t 51) 1), dO 59 (.fa 6 (.t 5)), ⟨none, none, .st 1 (.t 59) (.t 58)⟩])
 (.seq (.reg [dO 60 (.mv (.t 0)), dO 61 (.nck (.t 60)), dO 62 (.fa 0 (.t 61)), dO 63 (.call n_pw_wants [(.t 62), (.c (.str [59]))])])
 (.seq (.reg [dO 64 (.ld (some 7) (.t 5)), ⟨none, none, .st 7 (.t 4) (.t 64)⟩])
 (.ret))))

def c_pp_txn : AFunc :=
 { np := 2, res := [.cell 4 (some 7)], body := (
 .seq (.reg [dO 4 (.alloc [.int .i64 0, .str [], .int .i64 0, .own 4 [], .own 7 [], .own 7 [], .bool false])])
 (.seq (.reg [dO 8 (.mv (.t 0)), dO 9 (.call n_pp_whole [(.t 8), (.c (.str [123]))]), dO 10 (.bsl 4 [.int .i64 0, .int .i64 0, .str [], .sl 4 []] 1 [(0, 4, (.t 9))] false), dO 11 (.bld [.int .i64 0, .str [], .int .i64 0, .sl 4 [], .nils 7, .sl 7 [], .bool false] [(0, 1, (.c (.int .i64 16))), (3, 1, (.t 10))]), dO 5 (.alloc [.int .i64 0, .str [], .int .i64 0, .own 4 [], .own 7 [], .own 7 [], .bool false]), ⟨none, none, .st 7 (.t 5) (.t 11)⟩])
 (.seq (.reg [dO 12 (.mv (.t 0)), dO 13 (.nck (.t 12)), dO 14 (.fa 0 (.t 13)), dO 15 (.call n_pw_wants [(.t 14), (.c (.str [123]))])])
 (.seq (.block 0 (l_pp_txn_0)) r_pp_txn_0)))) }

def c_r14_value : AFunc :=
 { np := 1, res := [.t 2], body := (
 .seq (.reg [dO 2 (.tk (.c (.int .u8 0)))])
 (.seq (.seq (.reg [dO 3 (.mv (.t 0)), dO 4 (.ic .geq (.t 3) (.c (.int .u8 48))), dO 5 (.mv (.t 4)), ⟨some 6, (some (5, true)), .mv (.t 0)⟩, ⟨some 7, (some (5, true)), .ic .leq (.t 6) (.c (.int .u8 57))⟩, dO 8 (.pick (.t 5) (.t 7) (.c (.bool false)))])
 (.cond (.t 8)
 (.seq (.reg [dO 9 (.mv (.t 0)), dO 10 (.ia .sub .u8 (.t 9) (.c (.int .u8 48))), dO 2 (.tk (.t 10))])
 (.ret))
 (.skip)))
 (.seq (.seq (.reg [dO 11 (.mv (.t 0)), dO 12 (.ic .geq (.t 11) (.c (.int .u8 97))), dO 13 (.mv (.t 12)), ⟨some 14, (some (13, true)), .mv (.t 0)⟩, ⟨some 15, (some (13, true)), .ic .leq (.t 14) (.c (.int .u8 102))⟩, dO 16 (.pick (.t 13) (.t 15) (.c (.bool false)))])
 (.cond (.t 16)
 (.seq (.reg [dO 17 (.mv (.t 0)), dO 18 (.ia .sub .u8 (.t 17) (.c (.int .u8 97))), dO 19 (.ia .add .u8 (.t 18) (.c (.int .u8 10))), dO 2 (.tk (.t 19))])
 (.ret))
 (.skip)))
 (.seq (.reg [dO 2 (.tk (.c (.int .u8 0)))])
 (.ret))))) }

def c_r14_sign : AFunc :=
 { np := 1, res := [.t 2], body := (
 .seq (.reg [dO 2 (.tk (.c (.str [])))])
 (.seq (.seq (.reg [dO 3 (.mv (.t 0)), dO 4 (.ic .geq (.t 3) (.c (.int .u8 32))), dO 5 (.mv (.t 4)), ⟨some 6, (some (5, true)), .mv (.t 0)⟩, ⟨some 7, (some (5, true)), .ic .leq (.t 6) (.c (.int .u8 126))⟩, dO 8 (.pick (.t 5) (.t 7) (.c (.bool false))), dO 9 (.mv (.t 8)), ⟨some 10, (some (9, true)), .mv (.t 0)⟩, ⟨some 11, (some (9, true)), .ic .neq (.t 10) (.c (.int .u8 34))⟩, dO 12 (.pick (.t 9) (.t 11) (.c (.bool false))), dO 13 (.mv (.t 12)), ⟨some 14, (some (13, true)), .mv (.t 0)⟩, ⟨some 15, (some (13, true)), .ic .neq (.t 14) (.c (.int .u8 92))⟩, dO 16 (.pick (.t 13) (.t 15) (.c (.bool false)))])
 (.cond (.t 16)
 (.seq (.reg [dO 17 (.mv (.t 0)), dO 18 (.bsl 1 [.int .u8 0] 1 [(0, 1, (.t 17))] false), dO 19 (.b2s (.t 18)), dO 2 (.tk (.t 19))])
 (.ret))
 (.skip)))
 (.seq (.drw [[], [], [], [], [], [], [], [], []] [dO 20 (.mv (.t 0)), dO 21 (.ia .quo .u8 (.t 20) (.c (.int .u8 16))), dO 22 (.ixs (.c (.str [48, 49, 50, 51, 52, 53, 54, 55, 56, 57, 97, 98, 99, 100, 101, 102])) (.t 21)), dO 23 (.mv (.t 0)), dO 24 (.ia .rem .u8 (.t 23) (.c (.int .u8 16))), dO 25 (.ixs (.c (.str [48, 49, 50, 51, 52, 53, 54, 55, 56, 57, 97, 98, 99, 100, 101, 102])) (.t 24)), dO 26 (.bsl 1 [.int .u8 0] 3 [(0, 1, (.c (.int .u8 92))), (1, 1, (.t 22)), (2, 1, (.t 25))] false), dO 27 (.b2s (.t 26)), dO 2 (.tk (.t 27))])
 (.ret)))) }

def c_rt_not : AFunc :=
 { np := 1, res := [.cell 2 (some 4)], body := (
 .seq (.reg [dO 2 (.alloc [.int .i64 0, .int .i64 0, .str [], .own 4 []])])
 (.seq (.seq (.reg [dO 4 (.mv (.t 0)), dO 5 (.call n_rt_take [(.t 4), (.c (.str [110, 111, 116]))])])
 (.cond (.t 5)
 (.seq (.reg [dO 6 (.mv (.t 0)), dO 7 (.call n_rt_not [(.t 6)]), dO 3 (.alloc [.int .i64 0, .int .i64 0, .str [], .own 4 []]), ⟨none, none, .st 4 (.t 3) (.t 7)⟩])
 (.seq (.reg [dO 8 (.ld (some 4) (.t 3)), dO 9 (.bsl 4 [.int .i64 0, .int .i64 0, .str [], .sl 4 []] 1 [(0, 4, (.t 8))] false), dO 10 (.bld [.int .i64 0, .int .i64 0, .str [], .sl 4 []] [(0, 1, (.c (.int .i64 8))), (3, 1, (.t 9))]), ⟨none, none, .st 4 (.t 2) (.t 10)⟩])
 (.ret)))
 (.skip)))
 (.seq (.reg [dO 11 (.mv (.t 0)), dO 12 (.call n_rt_compare [(.t 11)]), ⟨none, none, .st 4 (.t 2) (.t 12)⟩])
 (.ret)))) }

def c_parse_kind : AFunc :=
 { np := 1, res := [.t 2], body := (
 .seq (.reg [dO 2 (.tk (.c (.int .i64 0)))])
 (.seq (.seq (.reg [dO 3 (.mv (.t 0))])
 (.block 0 (.seq (.reg [dO 5 (.sop .eql (.t 3) (.c (.str [101, 120, 105, 115, 116, 115]))), dO 4 (.tk (.t 5))])
 (.cond (.t 4)
 (.seq (.reg [dO 2 (.tk (.c (.int .i64 5)))])
 (.ret))
 (.seq (.reg [dO 7 (.sop .eql (.t 3) (.c (.str [115, 105, 122, 101]))), dO 6 (.tk (.t 7))])
 (.cond (.t 6)
 (.seq (.reg [dO 2 (.tk (.c (.int .i64 6)))])
 (.ret))
 (.seq (.reg [dO 9 (.sop .eql (.t 3) (.c (.str [114, 101, 97, 100]))), dO 8 (.tk (.t 9))])
 (.cond (.t 8)
 (.seq (.reg [dO 2 (.tk (.c (.int .i64 7)))])
 (.ret))
 (.seq (.reg [dO 11 (.sop .eql (.t 3) (.c (.str [110, 111, 116]))), dO 10 (.tk (.t 11))])
 (.cond (.t 10)
 (.seq (.reg [dO 2 (.tk (.c (.int .i64 8)))])
 (.ret))
 (.seq (.reg [dO 13 (.sop .eql (.t 3) (.c (.str [43]))), dO 12 (.tk (.t 13))])
 (.cond (.t 12)
 (.seq (.reg [dO 2 (.tk (.c (.int .i64 9)))])
 (.ret))
 (.seq (.reg [dO 15 (.sop .eql (.t 3) (.c (.str [45]))), dO 14 (.tk (.t 15))])
 (.cond (.t 14)
 (.seq (.reg [dO 2 (.tk (.c (.int .i64 10)))])
 (.ret))
 (.seq (.reg [dO 17 (.sop .eql (.t 3) (.c (.str [61, 61]))), dO 16 (.tk (.t 17))])
 (.cond (.t 16)
 (.seq (.reg [dO 2 (.tk (.c (.int .i64 11)))])
 (.ret))
 (.seq (.reg [dO 19 (.sop .eql (.t 3) (.c (.str [60]))), dO 18 (.tk (.t 19))])
 (.cond (.t 18)
 (.seq (.reg [dO 2 (.tk (.c (.int .i64 12)))])
 (.ret))
 (.seq (.reg [dO 21 (.sop .eql (.t 3) (.c (.str [97, 110, 100]))), dO 20 (.tk (.t 21))])
 (.cond (.t 20)
 (.seq (.reg [dO 2 (.tk (.c (.int .i64 13)))])
 (.ret))
 (.skip)))))))))))))))))))))
 (.seq (.reg [dO 2 (.tk (.c (.int .i64 14)))])
 (.ret)))) }

def c_pp_not : AFunc :=
 { np := 1, res := [.cell 2 (some 4)], body := (
 .seq (.reg [dO 2 (.alloc [.int .i64 0, .int .i64 0, .str [], .own 4 []])])
 (.seq (.seq (.reg [dO 6 (.mv (.t 0)), dO 7 (.nck (.t 6)), dO 8 (.fa 0 (.t 7)), dO 9 (.bsl 1 [.str []] 1 [(0, 1, (.c (.str [110, 111, 116])))] false), dO 10 (.call n_pw_takes [(.t 8), (.t 9)]), dO 5 (.mv (.t 10)), dO 11 (.ext (.t 5) 0), dO 12 (.ext (.t 5) 1), dO 3 (.tk (.t 11)), dO 4 (.tk (.t 12))])
 (.seq (.reg [dO 13 (.mv (.t 4))])
 (.cond (.t 13)
 (.seq (.reg [dO 14 (.mv (.t 0)), dO 15 (.call n_pp_not [(.t 14)]), dO 16 (.bsl 4 [.int .i64 0, .int .i64 0, .str [], .sl 4 []] 1 [(0, 4, (.t 15))] false), dO 17 (.bld [.int .i64 0, .int .i64 0, .str [], .sl 4 []] [(0, 1, (.c (.int .i64 8))), (3, 1, (.t 16))]), ⟨none, none, .st 4 (.t 2) (.t 17)⟩])
 (.ret))
 (.skip))))
 (.seq (.reg [dO 18 (.mv (.t 0)), dO 19 (.call n_pp_compare [(.t 18)]), ⟨none, none, .st 4 (.t 2) (.t 19)⟩])
 (.ret)))) }

def c_tree_Exprs : AFunc :=
 { np := 1, res := [.t 2, .t 3], body := (
 .seq (.reg [dO 2 (.tk (.c (.int .i64 0))), dO 3 (.tk (.c (.bool false)))])
 (.seq (.seq (.reg [dO 4 (.mv (.t 0))])
 (.block 0 (.seq (.seq (.reg [dO 6 (.ic .eql (.t 4) (.c (.int .i64 11))), dO 5 (.tk (.t 6))])
 (.cond (.t 5)
 (.skip)
 (.seq (.reg [dO 7 (.ic .eql (.t 4) (.c (.int .i64 14))), dO 5 (.tk (.t 7))])
 (.cond (.t 5)
 (.skip)
 (.reg [dO 8 (.ic .eql (.t 4) (.c (.int .i64 15))), dO 5 (.tk (.t 8))])))))
 (.cond (.t 5)
 (.seq (.reg [dO 2 (.tk (.c (.int .i64 0))), dO 3 (.tk (.c (.bool true)))])
 (.ret))
 (.seq (.seq (.reg [dO 10 (.ic .eql (.t 4) (.c (.int .i64 4))), dO 9 (.tk (.t 10))])
 (.cond (.t 9)
 (.skip)
 (.seq (.reg [dO 11 (.ic .eql (.t 4) (.c (.int .i64 5))), dO 9 (.tk (.t 11))])
 (.cond (.t 9)
 (.skip)
 (.reg [dO 12 (.ic .eql (.t 4) (.c (.int .i64 6))), dO 9 (.tk (.t 12))])))))
 (.cond (.t 9)
 (.seq (.reg [dO 2 (.tk (.c (.int .i64 2))), dO 3 (.tk (.c (.bool true)))])
 (.ret))
 (.seq (.reg [dO 14 (.ic .eql (.t 4) (.c (.int .i64 3))), dO 13 (.tk (.t 14))])
 (.cond (.t 13)
 (.seq (.reg [dO 2 (.tk (.c (.int .i64 3))), dO 3 (.tk (.c (.bool true)))])
 (.ret))
 (.skip)))))))))
 (.seq (.seq (.reg [dO 15 (.mv (.t 0)), dO 16 (.ic .lss (.t 15) (.c (.int .i64 1))), dO 17 (.mv (.t 16)), ⟨some 18, (some (17, false)), .mv (.t 0)⟩, ⟨some 19, (some (17, false)), .ic .gtr (.t 18) (.c (.int .i64 18))⟩, dO 20 (.pick (.t 17) (.c (.bool true)) (.t 19))])
 (.cond (.t 20)
 (.seq (.reg [dO 2 (.tk (.c (.int .i64 0))), dO 3 (.tk (.c (.bool false)))])
 (.ret))
 (.skip)))
 (.seq (.reg [dO 2 (.tk (.c (.int .i64 1))), dO 3 (.tk (.c (.bool true)))])
 (.ret))))) }

def c_strings_CutPrefix : AFunc :=
 { np := 2, res := [.t 4, .t 5], body := (
 .seq (.reg [dO 4 (.tk (.c (.str []))), dO 5 (.tk (.c (.bool false)))])
 (.seq (.reg [dO 6 (.mv (.t 0)), dO 7 (.mv (.t 1)), dO 8 (.callc n_isl_CutPrefix [(.t 6), (.t 7)]), dO 9 (.ext (.t 8) 0), dO 10 (.ext (.t 8) 1), dO 4 (.tk (.t 9)), dO 5 (.tk (.t 10))])
 (.ret))) }

def c_strings_CutSuffix : AFunc :=
 { np := 2, res := [.t 4, .t 5], body := (
 .seq (.reg [dO 4 (.tk (.c (.str []))), dO 5 (.tk (.c (.bool false)))])
 (.seq (.reg [dO 6 (.mv (.t 0)), dO 7 (.mv (.t 1)), dO 8 (.callc n_isl_CutSuffix [(.t 6), (.t 7)]), dO 9 (.ext (.t 8) 0), dO 10 (.ext (.t 8) 1), dO 4 (.tk (.t 9)), dO 5 (.tk (.t 10))])
 (.ret))) }

def c_view_pair : AFunc :=
 { np := 1, res := [.t 2, .t 3], body := (
 .seq (.reg [dO 2 (.tk (.c (.int .u8 0))), dO 3 (.tk (.c (.bool false)))])
 (.seq (.seq (.reg [dO 7 (.mv (.t 0)), dO 8 (.len true (.t 7)), dO 9 (.ic .lss (.t 8) (.c (.int .i64 2)))])
 (.cond (.t 9)
 (.seq (.reg [dO 2 (.tk (.c (.int .u8 0))), dO 3 (.tk (.c (.bool false)))])
 (.ret))
 (.skip)))
 (.seq (.drw [[], [], [], [], [], [], [], []] [dO 10 (.mv (.t 0)), dO 11 (.ixs (.t 10) (.c (.int .i64 0))), dO 12 (.callc n_strings_IndexByte [(.c (.str [48, 49, 50, 51, 52, 53, 54, 55, 56, 57, 97, 98, 99, 100, 101, 102])), (.t 11)]), dO 13 (.mv (.t 0)), dO 14 (.ixs (.t 13) (.c (.int .i64 1))), dO 15 (.callc n_strings_IndexByte [(.c (.str [48, 49, 50, 51, 52, 53, 54, 55, 56, 57, 97, 98, 99, 100, 101, 102])), (.t 14)]), dO 4 (.tk (.t 12)), dO 5 (.tk (.t 15))])
 (.seq (.seq (.reg [dO 16 (.mv (.t 4)), dO 17 (.ic .lss (.t 16) (.c (.int .i64 0))), dO 18 (.mv (.t 17)), ⟨some 19, (some (18, false)), .mv (.t 5)⟩, ⟨some 20, (some (18, false)), .ic .lss (.t 19) (.c (.int .i64 0))⟩, dO 21 (.pick (.t 18) (.c (.bool true)) (.t 20))])
 (.cond (.t 21)
 (.seq (.reg [dO 2 (.tk (.c (.int .u8 0))), dO 3 (.tk (.c (.bool false)))])
 (.ret))
 (.skip)))
 (.seq (.reg [dO 22 (.mv (.t 4)), dO 23 (.ia .shl .i64 (.t 22) (.c (.int .u64 4))), dO 24 (.mv (.t 5)), dO 25 (.ia .or .i64 (.t 23) (.t 24)), dO 26 (.conv .u8 (.t 25)), dO 6 (.tk (.t 26))])
 (.seq (.reg [dO 27 (.mv (.t 6)), dO 28 (.mv (.t 6)), dO 29 (.callc n_view_plain [(.t 28)]), dO 30 (.notb (.t 29)), dO 2 (.tk (.t 27)), dO 3 (.tk (.t 30))])
 (.ret))))))) }

def c_view_plain : AFunc :=
 { np := 1, res := [.t 2], body := (
 .seq (.reg [dO 2 (.tk (.c (.bool false)))])
 (.seq (.reg [dO 3 (.mv (.t 0)), dO 4 (.ic .geq (.t 3) (.c (.int .u8 32))), dO 5 (.mv (.t 4)), ⟨some 6, (some (5, true)), .mv (.t 0)⟩, ⟨some 7, (some (5, true)), .ic .leq (.t 6) (.c (.int .u8 126))⟩, dO 8 (.pick (.t 5) (.t 7) (.c (.bool false))), dO 9 (.mv (.t 8)), ⟨some 10, (some (9, true)), .mv (.t 0)⟩, ⟨some 11, (some (9, true)), .ic .neq (.t 10) (.c (.int .u8 34))⟩, dO 12 (.pick (.t 9) (.t 11) (.c (.bool false))), dO 13 (.mv (.t 12)), ⟨some 14, (some (13, true)), .mv (.t 0)⟩, ⟨some 15, (some (13, true)), .ic .neq (.t 14) (.c (.int .u8 92))⟩, dO 16 (.pick (.t 13) (.t 15) (.c (.bool false))), dO 2 (.tk (.t 16))])
 (.ret))) }

def c_rt_compare : AFunc :=
 { np := 1, res := [.cell 2 (some 4)], body := (
 .seq (.reg [dO 2 (.alloc [.int .i64 0, .int .i64 0, .str [], .own 4 []])])
 (.seq (.reg [dO 6 (.mv (.t 0)), dO 7 (.call n_rt_sum [(.t 6)]), dO 3 (.alloc [.int .i64 0, .int .i64 0, .str [], .own 4 []]), ⟨none, none, .st 4 (.t 3) (.t 7)⟩])
 (.seq (.seq (.reg [dO 8 (.mv (.t 0)), dO 9 (.call n_rt_take [(.t 8), (.c (.str [61, 61]))])])
 (.cond (.t 9)
 (.seq (.reg [dO 10 (.mv (.t 0)), dO 11 (.call n_rt_sum [(.t 10)]), dO 4 (.alloc [.int .i64 0, .int .i64 0, .str [], .own 4 []]), ⟨none, none, .st 4 (.t 4) (.t 11)⟩])
 (.seq (.reg [dO 12 (.ld (some 4) (.t 3)), dO 13 (.ld (some 4) (.t 4)), dO 14 (.callc n_r17_two [(.c (.int .i64 11)), (.t 12), (.t 13)]), ⟨none, none, .st 4 (.t 2) (.t 14)⟩])
 (.ret)))
 (.skip)))
 (.seq (.seq (.reg [dO 15 (.mv (.t 0)), dO 16 (.call n_rt_take [(.t 15), (.c (.str [60]))])])
 (.cond (.t 16)
 (.seq (.reg [dO 17 (.mv (.t 0)), dO 18 (.call n_rt_sum [(.t 17)]), dO 5 (.alloc [.int .i64 0, .int .i64 0, .str [], .own 4 []]), ⟨none, none, .st 4 (.t 5) (.t 18)⟩])
 (.seq (.reg [dO 19 (.ld (some 4) (.t 3)), dO 20 (.ld (some 4) (.t 5)), dO 21 (.callc n_r17_two [(.c (.int .i64 12)), (.t 19), (.t 20)]), ⟨none, none, .st 4 (.t 2) (.t 21)⟩])
 (.ret)))
 (.skip)))
 (.seq (.reg [dO 22 (.ld (some 4) (.t 3)), ⟨none, none, .st 4 (.t 2) (.t 22)⟩])
 (.ret)))))) }

def c_pp_compare : AFunc :=
 { np := 1, res := [.cell 2 (some 4)], body := (
 .seq (.reg [dO 2 (.alloc [.int .i64 0, .int .i64 0, .str [], .own 4 []])])
 (.seq (.reg [dO 3 (.mv (.t 0)), dO 4 (.mv (.t 0)), dO 5 (.mkf (.func n_pp_sum) [(.t 4)] []), dO 6 (.bsl 1 [.str []] 2 [(0, 1, (.c (.str [61, 61]))), (1, 1, (.c (.str [60])))] false), dO 7 (.call n_pp_chain [(.t 3), (.t 5), (.c (.int .i64 1)), (.t 6)]), ⟨none, none, .st 4 (.t 2) (.t 7)⟩])
 (.ret))) }

def c_isl_CutPrefix : AFunc :=
 { np := 2, res := [.t 4, .t 5], body := (
 .seq (.reg [dO 4 (.tk (.c (.str []))), dO 5 (.tk (.c (.bool false)))])
 (.seq (.seq (.reg [dO 6 (.mv (.t 0)), dO 7 (.mv (.t 1)), dO 8 (.callc n_isl_HasPrefix [(.t 6), (.t 7)]), dO 9 (.notb (.t 8))])
 (.cond (.t 9)
 (.seq (.reg [dO 10 (.mv (.t 0)), dO 4 (.tk (.t 10)), dO 5 (.tk (.c (.bool false)))])
 (.ret))
 (.skip)))
 (.seq (.reg [dO 11 (.mv (.t 0)), dO 12 (.mv (.t 1)), dO 13 (.len true (.t 12)), dO 14 (.slc (.t 11) (some (.t 13)) none), dO 4 (.tk (.t 14)), dO 5 (.tk (.c (.bool true)))])
 (.ret)))) }

def c_isl_CutSuffix : AFunc :=
 { np := 2, res := [.t 4, .t 5], body := (
 .seq (.reg [dO 4 (.tk (.c (.str []))), dO 5 (.tk (.c (.bool false)))])
 (.seq (.seq (.reg [dO 6 (.mv (.t 0)), dO 7 (.mv (.t 1)), dO 8 (.callc n_isl_HasSuffix [(.t 6), (.t 7)]), dO 9 (.notb (.t 8))])
 (.cond (.t 9)
 (.seq (.reg [dO 10 (.mv (.t 0)), dO 4 (.tk (.t 10)), dO 5 (.tk (.c (.bool false)))])
 (.ret))
 (.skip)))
 (.seq (.reg [dO 11 (.mv (.t 0)), dO 12 (.mv (.t 0)), dO 13 (.len true (.t 12)), dO 14 (.mv (.t 1)), dO 15 (.len true (.t 14)), dO 16 (.ia .sub .i64 (.t 13) (.t 15)), dO 17 (.slc (.t 11) none (some (.t 16))), dO 4 (.tk (.t 17)), dO 5 (.tk (.c (.bool true)))])
 (.ret)))) }

def b_rt_sum_0 : AC :=
 .seq (.seq (.reg [dO 8 (.mv (.t 0)), dO 9 (.call n_rt_is [(.t 8), (.c (.str [43]))]), dO 10 (.mv (.t 9)), ⟨some 11, (some (10, false)), .mv (.t 0)⟩, ⟨some 12, (some (10, false)), .call n_rt_is [(.t 11), (.c (.str [45]))]⟩, dO 13 (.pick (.t 10) (.c (.bool true)) (.t 12))])
 (.cond (.t 13)
 (.skip)
 (.exit 0)))
 (.block 1 (.seq (.reg [dO 4 (.tk (.c (.int .i64 9)))])
 (.seq (.seq (.reg [dO 14 (.mv (.t 0)), dO 15 (.call n_rt_is [(.t 14), (.c (.str [45]))])])
 (.cond (.t 15)
 (.reg [dO 4 (.tk (.c (.int .i64 10)))])
 (.skip)))
 (.seq (.reg [dO 16 (.mv (.t 0)), dO 17 (.nck (.t 16)), dO 18 (.fa 1 (.t 17)), dO 19 (.ld none (.t 18)), dO 20 (.ia .add .i64 (.t 19) (.c (.int .i64 1))), dO 21 (.nck (.t 16)), dO 22 (.fa 1 (.t 21)), ⟨none, none, .st 1 (.t 22) (.t 20)⟩])
 (.seq (.reg [dO 23 (.mv (.t 0)), dO 24 (.call n_rt_part [(.t 23)]), dO 5 (.alloc [.int .i64 0, .int .i64 0, .str [], .own 4 []]), ⟨none, none, .st 4 (.t 5) (.t 24)⟩])
 (.reg [dO 25 (.mv (.t 4)), dO 26 (.ld (some 4) (.t 3)), dO 27 (.ld (some 4) (.t 5)), dO 28 (.callc n_r17_two [(.t 25), (.t 26), (.t 27)]), ⟨none, none, .st 4 (.t 3) (.t 28)⟩]))))))

def l_rt_sum_0 : AC :=
 .loop [0, 2, 3] b_rt_sum_0

def r_rt_sum_0 : AC :=
 .seq (.reg [dO 29 (.ld (some 4) (.t 3)), ⟨none, none, .st 4 (.t 2) (.t 29)⟩])
 (.ret)

def c_rt_sum : AFunc :=
 { np := 1, res := [.cell 2 (some 4)], body := (
 .seq (.reg [dO 2 (.alloc [.int .i64 0, .int .i64 0, .str [], .own 4 []])])
 (.seq (.reg [dO 6 (.mv (.t 0)), dO 7 (.call n_rt_part [(.t 6)]), dO 3 (.alloc [.int .i64 0, .int .i64 0, .str [], .own 4 []]), ⟨none, none, .st 4 (.t 3) (.t 7)⟩])
 (.seq (.block 0 (l_rt_sum_0)) r_rt_sum_0))) }

def c_pp_sum : AFunc :=
 { np := 1, res := [.cell 2 (some 4)], body := (
 .seq (.reg [dO 2 (.alloc [.int .i64 0, .int .i64 0, .str [], .own 4 []])])
 (.seq (.reg [dO 3 (.mv (.t 0)), dO 4 (.mv (.t 0)), dO 5 (.mkf (.func n_pp_part) [(.t 4)] []), dO 6 (.bsl 1 [.str []] 2 [(0, 1, (.c (.str [43]))), (1, 1, (.c (.str [45])))] false), dO 7 (.call n_pp_chain [(.t 3), (.t 5), (.c (.int .i64 4096)), (.t 6)]), ⟨none, none, .st 4 (.t 2) (.t 7)⟩])
 (.ret))) }

def c_isl_HasSuffix : AFunc :=
 { np := 2, res := [.t 4], body := (
 .seq (.reg [dO 4 (.tk (.c (.bool false)))])
 (.seq (.reg [dO 5 (.mv (.t 0)), dO 6 (.len true (.t 5)), dO 7 (.mv (.t 1)), dO 8 (.len true (.t 7)), dO 9 (.ic .geq (.t 6) (.t 8)), dO 10 (.mv (.t 9)), ⟨some 11, (some (10, true)), .mv (.t 0)⟩, ⟨some 12, (some (10, true)), .mv (.t 0)⟩, ⟨some 13, (some (10, true)), .len true (.t 12)⟩, ⟨some 14, (some (10, true)), .mv (.t 1)⟩, ⟨some 15, (some (10, true)), .len true (.t 14)⟩, ⟨some 16, (some (10, true)), .ia .sub .i64 (.t 13) (.t 15)⟩, ⟨some 17, (some (10, true)), .slc (.t 11) (some (.t 16)) none⟩, ⟨some 18, (some (10, true)), .mv (.t 1)⟩, ⟨some 19, (some (10, true)), .sop .eql (.t 17) (.t 18)⟩, dO 20 (.pick (.t 10) (.t 19) (.c (.bool false))), dO 4 (.tk (.t 20))])
 (.ret))) }

def c_rt_part : AFunc :=
 { np := 1, res := [.cell 2 (some 4)], body := (
 .seq (.reg [dO 2 (.alloc [.int .i64 0, .int .i64 0, .str [], .own 4 []])])
 (.seq (.reg [dO 7 (.mv (.t 0)), dO 8 (.call n_rt_now [(.t 7)]), dO 3 (.alloc [.int .i64 0, .str [], .int .i64 0, .int .i64 0]), ⟨none, none, .st 4 (.t 3) (.t 8)⟩])
 (.seq (.seq (.reg [dO 9 (.mv (.t 0)), dO 10 (.call n_rt_bad [(.t 9)])])
 (.cond (.t 10)
 (.seq (.reg [dO 11 (.bld [.int .i64 0, .int .i64 0, .str [], .sl 4 []] []), ⟨none, none, .st 4 (.t 2) (.t 11)⟩])
 (.ret))
 (.skip)))
 (.seq (.seq (.reg [dO 12 (.fa 0 (.t 3)), dO 13 (.ld none (.t 12)), dO 14 (.ic .eql (.t 13) (.c (.int .i64 2)))])
 (.cond (.t 14)
 (.seq (.reg [dO 15 (.mv (.t 0)), dO 16 (.nck (.t 15)), dO 17 (.fa 1 (.t 16)), dO 18 (.ld none (.t 17)), dO 19 (.ia .add .i64 (.t 18) (.c (.int .i64 1))), dO 20 (.nck (.t 15)), dO 21 (.fa 1 (.t 20)), ⟨none, none, .st 1 (.t 21) (.t 19)⟩])
 (.seq (.reg [dO 22 (.fa 2 (.t 3)), dO 23 (.ld none (.t 22)), dO 24 (.bld [.int .i64 0, .int .i64 0, .str [], .sl 4 []] [(0, 1, (.c (.int .i64 1))), (1, 1, (.t 23))]), ⟨none, none, .st 4 (.t 2) (.t 24)⟩])
 (.ret)))
 (.skip)))
 (.seq (.seq (.reg [dO 25 (.fa 0 (.t 3)), dO 26 (.ld none (.t 25)), dO 27 (.ic .eql (.t 26) (.c (.int .i64 3)))])
 (.cond (.t 27)
 (.seq (.reg [dO 28 (.mv (.t 0)), dO 29 (.nck (.t 28)), dO 30 (.fa 1 (.t 29)), dO 31 (.ld none (.t 30)), dO 32 (.ia .add .i64 (.t 31) (.c (.int .i64 1))), dO 33 (.nck (.t 28)), dO 34 (.fa 1 (.t 33)), ⟨none, none, .st 1 (.t 34) (.t 32)⟩])
 (.seq (.reg [dO 35 (.fa 1 (.t 3)), dO 36 (.ld none (.t 35)), dO 37 (.bld [.int .i64 0, .int .i64 0, .str [], .sl 4 []] [(0, 1, (.c (.int .i64 2))), (2, 1, (.t 36))]), ⟨none, none, .st 4 (.t 2) (.t 37)⟩])
 (.ret)))
 (.skip)))
 (.seq (.seq (.reg [dO 38 (.fa 0 (.t 3)), dO 39 (.ld none (.t 38)), dO 40 (.ic .eql (.t 39) (.c (.int .i64 1)))])
 (.cond (.t 40)
 (.seq (.reg [dO 41 (.mv (.t 0)), dO 42 (.nck (.t 41)), dO 43 (.fa 1 (.t 42)), dO 44 (.ld none (.t 43)), dO 45 (.ia .add .i64 (.t 44) (.c (.int .i64 1))), dO 46 (.nck (.t 41)), dO 47 (.fa 1 (.t 46)), ⟨none, none, .st 1 (.t 47) (.t 45)⟩])
 (.seq (.reg [dO 48 (.fa 1 (.t 3)), dO 49 (.ld none (.t 48)), dO 50 (.bld [.int .i64 0, .int .i64 0, .str [], .sl 4 []] [(0, 1, (.c (.int .i64 4))), (2, 1, (.t 49))]), ⟨none, none, .st 4 (.t 2) (.t 50)⟩])
 (.ret)))
 (.skip)))
 (.seq (.seq (.reg [dO 51 (.mv (.t 0)), dO 52 (.call n_rt_take [(.t 51), (.c (.str [116, 114, 117, 101]))])])
 (.cond (.t 52)
 (.seq (.reg [dO 53 (.bld [.int .i64 0, .int .i64 0, .str [], .sl 4 []] [(0, 1, (.c (.int .i64 3))), (1, 1, (.c (.int .i64 1)))]), ⟨none, none, .st 4 (.t 2) (.t 53)⟩])
 (.ret))
 (.skip)))
 (.seq (.seq (.reg [dO 54 (.mv (.t 0)), dO 55 (.call n_rt_take [(.t 54), (.c (.str [102, 97, 108, 115, 101]))])])
 (.cond (.t 55)
 (.seq (.reg [dO 56 (.bld [.int .i64 0, .int .i64 0, .str [], .sl 4 []] [(0, 1, (.c (.int .i64 3)))]), ⟨none, none, .st 4 (.t 2) (.t 56)⟩])
 (.ret))
 (.skip)))
 (.seq (.seq (.reg [dO 57 (.mv (.t 0)), dO 58 (.call n_rt_take [(.t 57), (.c (.str [40]))])])
 (.cond (.t 58)
 (.seq (.reg [dO 59 (.mv (.t 0)), dO 60 (.call n_rt_expr [(.t 59)]), dO 4 (.alloc [.int .i64 0, .int .i64 0, .str [], .own 4 []]), ⟨none, none, .st 4 (.t 4) (.t 60)⟩])
 (.seq (.reg [dO 61 (.mv (.t 0)), dO 62 (.call n_rt_need [(.t 61), (.c (.str [41]))])])
 (.seq (.reg [dO 63 (.ld (some 4) (.t 4)), ⟨none, none, .st 4 (.t 2) (.t 63)⟩])
 (.ret))))
 (.skip)))
 (.seq (.reg [dO 5 (.tk (.c (.int .i64 0)))])
 (.seq (.seq (.reg [dO 64 (.mv (.t 0)), dO 65 (.call n_rt_take [(.t 64), (.c (.str [101, 120, 105, 115, 116, 115]))])])
 (.cond (.t 65)
 (.reg [dO 5 (.tk (.c (.int .i64 5)))])
 (.seq (.reg [dO 66 (.mv (.t 0)), dO 67 (.call n_rt_take [(.t 66), (.c (.str [115, 105, 122, 101]))])])
 (.cond (.t 67)
 (.reg [dO 5 (.tk (.c (.int .i64 6)))])
 (.seq (.reg [dO 68 (.mv (.t 0)), dO 69 (.call n_rt_take [(.t 68), (.c (.str [114, 101, 97, 100]))])])
 (.cond (.t 69)
 (.reg [dO 5 (.tk (.c (.int .i64 7)))])
 (.seq (.reg [dO 70 (.mv (.t 0)), dO 71 (.ld (some 4) (.t 3)), dO 72 (.call n_rt_fail [(.t 70), (.c (.int .i64 12)), (.t 71)])])
 (.seq (.reg [dO 73 (.bld [.int .i64 0, .int .i64 0, .str [], .sl 4 []] []), ⟨none, none, .st 4 (.t 2) (.t 73)⟩])
 (.ret)))))))))
 (.seq (.reg [dO 74 (.mv (.t 0)), dO 75 (.call n_rt_need [(.t 74), (.c (.str [40]))])])
 (.seq (.reg [dO 76 (.mv (.t 0)), dO 77 (.call n_rt_expr [(.t 76)]), dO 6 (.alloc [.int .i64 0, .int .i64 0, .str [], .own 4 []]), ⟨none, none, .st 4 (.t 6) (.t 77)⟩])
 (.seq (.reg [dO 78 (.mv (.t 0)), dO 79 (.call n_rt_need [(.t 78), (.c (.str [41]))])])
 (.seq (.reg [dO 80 (.mv (.t 5)), dO 81 (.ld (some 4) (.t 6)), dO 82 (.bsl 4 [.int .i64 0, .int .i64 0, .str [], .sl 4 []] 1 [(0, 4, (.t 81))] false), dO 83 (.bld [.int .i64 0, .int .i64 0, .str [], .sl 4 []] [(0, 1, (.t 80)), (3, 1, (.t 82))]), ⟨none, none, .st 4 (.t 2) (.t 83)⟩])
 (.ret)))))))))))))))) }

def c_pp_part : AFunc :=
 { np := 1, res := [.cell 2 (some 4)], body := (
 .seq (.reg [dO 2 (.alloc [.int .i64 0, .int .i64 0, .str [], .own 4 []])])
 (.seq (.reg [dO 8 (.mv (.t 0)), dO 9 (.nck (.t 8)), dO 10 (.fa 0 (.t 9)), dO 11 (.call n_pw_head [(.t 10)]), dO 3 (.alloc [.int .i64 0, .str [], .int .i64 0, .int .i64 0]), ⟨none, none, .st 4 (.t 3) (.t 11)⟩])
 (.seq (.seq (.reg [dO 12 (.fa 0 (.t 3)), dO 13 (.ld none (.t 12))])
 (.block 0 (.seq (.reg [dO 15 (.ic .eql (.t 13) (.c (.int .i64 2))), dO 14 (.tk (.t 15))])
 (.cond (.t 14)
 (.seq (.reg [dO 16 (.mv (.t 0)), dO 17 (.nck (.t 16)), dO 18 (.fa 0 (.t 17)), dO 19 (.call n_pw_skip [(.t 18)]), dO 20 (.fld none 2 (.t 19)), dO 21 (.bld [.int .i64 0, .int .i64 0, .str [], .sl 4 []] [(0, 1, (.c (.int .i64 1))), (1, 1, (.t 20))]), ⟨none, none, .st 4 (.t 2) (.t 21)⟩])
 (.ret))
 (.seq (.reg [dO 23 (.ic .eql (.t 13) (.c (.int .i64 3))), dO 22 (.tk (.t 23))])
 (.cond (.t 22)
 (.seq (.reg [dO 24 (.mv (.t 0)), dO 25 (.nck (.t 24)), dO 26 (.fa 0 (.t 25)), dO 27 (.call n_pw_skip [(.t 26)]), dO 28 (.fld none 1 (.t 27)), dO 29 (.bld [.int .i64 0, .int .i64 0, .str [], .sl 4 []] [(0, 1, (.c (.int .i64 2))), (2, 1, (.t 28))]), ⟨none, none, .st 4 (.t 2) (.t 29)⟩])
 (.ret))
 (.seq (.reg [dO 31 (.ic .eql (.t 13) (.c (.int .i64 1))), dO 30 (.tk (.t 31))])
 (.cond (.t 30)
 (.seq (.reg [dO 32 (.mv (.t 0)), dO 33 (.nck (.t 32)), dO 34 (.fa 0 (.t 33)), dO 35 (.call n_pw_skip [(.t 34)]), dO 36 (.fld none 1 (.t 35)), dO 37 (.bld [.int .i64 0, .int .i64 0, .str [], .sl 4 []] [(0, 1, (.c (.int .i64 4))), (2, 1, (.t 36))]), ⟨none, none, .st 4 (.t 2) (.t 37)⟩])
 (.ret))
 (.skip)))))))))
 (.seq (.seq (.reg [dO 39 (.mv (.t 0)), dO 40 (.nck (.t 39)), dO 41 (.fa 0 (.t 40)), dO 42 (.bsl 1 [.str []] 1 [(0, 1, (.c (.str [40])))] false), dO 43 (.call n_pw_sees [(.t 41), (.t 42)]), dO 38 (.mv (.t 43)), dO 44 (.ext (.t 38) 0), dO 45 (.ext (.t 38) 1), dO 4 (.tk (.t 44)), dO 5 (.tk (.t 45))])
 (.seq (.reg [dO 46 (.mv (.t 5))])
 (.cond (.t 46)
 (.seq (.reg [dO 47 (.mv (.t 0)), dO 48 (.call n_pp_inner [(.t 47)]), ⟨none, none, .st 4 (.t 2) (.t 48)⟩])
 (.ret))
 (.skip))))
 (.seq (.reg [dO 50 (.mv (.t 0)), dO 51 (.nck (.t 50)), dO 52 (.fa 0 (.t 51)), dO 53 (.bsl 1 [.str []] 5 [(0, 1, (.c (.str [116, 114, 117, 101]))), (1, 1, (.c (.str [102, 97, 108, 115, 101]))), (2, 1, (.c (.str [101, 120, 105, 115, 116, 115]))), (3, 1, (.c (.str [115, 105, 122, 101]))), (4, 1, (.c (.str [114, 101, 97, 100])))] false), dO 54 (.call n_pw_takes [(.t 52), (.t 53)]), dO 49 (.mv (.t 54)), dO 55 (.ext (.t 49) 0), dO 56 (.ext (.t 49) 1), dO 6 (.tk (.t 55)), dO 7 (.tk (.t 56))])
 (.seq (.block 1 (.seq (.reg [dO 58 (.mv (.t 7)), dO 59 (.notb (.t 58)), dO 57 (.tk (.t 59))])
 (.cond (.t 57)
 (.seq (.drw [[], [], [], [], []] [dO 60 (.mv (.t 0)), dO 61 (.nck (.t 60)), dO 62 (.fa 0 (.t 61)), dO 63 (.ld (some 4) (.t 3)), dO 64 (.call n_pw_fail [(.t 62), (.c (.int .i64 12)), (.t 63)])])
 (.seq (.reg [dO 65 (.bld [.int .i64 0, .int .i64 0, .str [], .sl 4 []] []), ⟨none, none, .st 4 (.t 2) (.t 65)⟩])
 (.ret)))
 (.seq (.reg [dO 67 (.mv (.t 6)), dO 68 (.sop .eql (.t 67) (.c (.str [116, 114, 117, 101]))), dO 66 (.tk (.t 68))])
 (.cond (.t 66)
 (.seq (.reg [dO 69 (.bld [.int .i64 0, .int .i64 0, .str [], .sl 4 []] [(0, 1, (.c (.int .i64 3))), (1, 1, (.c (.int .i64 1)))]), ⟨none, none, .st 4 (.t 2) (.t 69)⟩])
 (.ret))
 (.seq (.reg [dO 71 (.mv (.t 6)), dO 72 (.sop .eql (.t 71) (.c (.str [102, 97, 108, 115, 101]))), dO 70 (.tk (.t 72))])
 (.cond (.t 70)
 (.seq (.reg [dO 73 (.bld [.int .i64 0, .int .i64 0, .str [], .sl 4 []] [(0, 1, (.c (.int .i64 3)))]), ⟨none, none, .st 4 (.t 2) (.t 73)⟩])
 (.ret))
 (.skip))))))))
 (.seq (.reg [dO 74 (.mv (.t 6)), dO 75 (.callc n_parse_kind [(.t 74)]), dO 76 (.mv (.t 0)), dO 77 (.call n_pp_inner [(.t 76)]), dO 78 (.bsl 4 [.int .i64 0, .int .i64 0, .str [], .sl 4 []] 1 [(0, 4, (.t 77))] false), dO 79 (.bld [.int .i64 0, .int .i64 0, .str [], .sl 4 []] [(0, 1, (.t 75)), (3, 1, (.t 78))]), ⟨none, none, .st 4 (.t 2) (.t 79)⟩])
 (.ret)))))))) }

def c_pp_inner : AFunc :=
 { np := 1, res := [.cell 2 (some 4)], body := (
 .seq (.reg [dO 2 (.alloc [.int .i64 0, .int .i64 0, .str [], .own 4 []])])
 (.seq (.reg [dO 4 (.mv (.t 0)), dO 5 (.nck (.t 4)), dO 6 (.fa 0 (.t 5)), dO 7 (.call n_pw_wants [(.t 6), (.c (.str [40]))])])
 (.seq (.reg [dO 8 (.mv (.t 0)), dO 9 (.call n_pp_expr [(.t 8)]), dO 3 (.alloc [.int .i64 0, .int .i64 0, .str [], .own 4 []]), ⟨none, none, .st 4 (.t 3) (.t 9)⟩])
 (.seq (.reg [dO 10 (.mv (.t 0)), dO 11 (.nck (.t 10)), dO 12 (.fa 0 (.t 11)), dO 13 (.call n_pw_wants [(.t 12), (.c (.str [41]))])])
 (.seq (.reg [dO 14 (.ld (some 4) (.t 3)), ⟨none, none, .st 4 (.t 2) (.t 14)⟩])
 (.ret)))))) }

def tbl : Tbl := Tab.get [(3, c_l17_ParseTells), (5, c_l17_knows), (6, c_parse_Program), (7, c_r17_Program), (8, c_parse_Expr), (9, c_r17_Expr), (10, c_r16_Same), (11, c_l15_Fault), (12, c_r16_SameExpr), (14, c_lex_Words), (15, c_pp_program), (16, c_r15_Words), (17, c_rt_is), (18, c_rt_fail), (19, c_rt_now), (20, c_rt_kind), (21, c_rt_block), (22, c_rt_need), (23, c_rt_take), (24, c_rt_whole), (25, c_rt_bad), (26, c_pp_whole), (27, c_r16_SameStmts), (30, c_lex_Name), (39, c_lex_skip), (40, c_lex_next), (41, c_pp_named), (42, c_pp_block), (43, c_pw_wants), (44, c_pw_takes), (45, c_pw_of), (46, c_r15_skip), (47, c_r15_one), (48, c_rt_stmt), (49, c_rt_expr), (50, c_r17_Deep), (51, c_pw_head), (52, c_pp_expr), (53, c_pw_sees), (54, c_pw_fail), (55, c_parse_deep), (56, c_r16_SameStmt), (59, c_lex_begins), (60, c_lex_letter), (62, c_lex_inner), (63, c_lex_Key), (74, c_strings_HasPrefix), (76, c_lex_word), (77, c_lex_digit), (78, c_lex_number), (79, c_lex_text), (80, c_lex_sign), (81, c_pp_stmt), (82, c_pw_skip), (83, c_r15_letter), (84, c_r15_inner), (85, c_r15_Key), (86, c_r15_Name), (87, c_r15_digit), (88, c_r01_Read), (89, c_r14_Unquote), (90, c_r15_Sign), (91, c_r17_simple), (92, c_rt_begin), (93, c_r16_Exprs), (94, c_rt_exprs), (95, c_rt_txn), (96, c_rt_both), (97, c_r17_two), (98, c_pp_chain), (99, c_pp_both), (115, c_isl_HasPrefix), (117, c_num_Read), (118, c_view_Unquote), (119, c_parse_simple), (120, c_pp_exprs), (121, c_pp_choice), (122, c_pp_loop), (123, c_pp_txn), (124, c_r14_value), (125, c_r14_sign), (126, c_rt_not), (127, c_parse_kind), (128, c_pp_not), (131, c_tree_Exprs), (138, c_strings_CutPrefix), (139, c_strings_CutSuffix), (140, c_view_pair), (141, c_view_plain), (144, c_rt_compare), (145, c_pp_compare), (149, c_isl_CutPrefix), (150, c_isl_CutSuffix), (152, c_rt_sum), (153, c_pp_sum), (158, c_isl_HasSuffix), (160, c_rt_part), (161, c_pp_part), (163, c_pp_inner)]

theorem t_l17_ParseTells : tbl n_l17_ParseTells = some c_l17_ParseTells := by kernel_rfl
theorem t_l17_knows : tbl n_l17_knows = some c_l17_knows := by kernel_rfl
theorem t_parse_Program : tbl n_parse_Program = some c_parse_Program := by kernel_rfl
theorem t_r17_Program : tbl n_r17_Program = some c_r17_Program := by kernel_rfl
theorem t_parse_Expr : tbl n_parse_Expr = some c_parse_Expr := by kernel_rfl
theorem t_r17_Expr : tbl n_r17_Expr = some c_r17_Expr := by kernel_rfl
theorem t_r16_Same : tbl n_r16_Same = some c_r16_Same := by kernel_rfl
theorem t_l15_Fault : tbl n_l15_Fault = some c_l15_Fault := by kernel_rfl
theorem t_r16_SameExpr : tbl n_r16_SameExpr = some c_r16_SameExpr := by kernel_rfl
theorem t_lex_Words : tbl n_lex_Words = some c_lex_Words := by kernel_rfl
theorem t_pp_program : tbl n_pp_program = some c_pp_program := by kernel_rfl
theorem t_r15_Words : tbl n_r15_Words = some c_r15_Words := by kernel_rfl
theorem t_rt_is : tbl n_rt_is = some c_rt_is := by kernel_rfl
theorem t_rt_fail : tbl n_rt_fail = some c_rt_fail := by kernel_rfl
theorem t_rt_now : tbl n_rt_now = some c_rt_now := by kernel_rfl
theorem t_rt_kind : tbl n_rt_kind = some c_rt_kind := by kernel_rfl
theorem t_rt_block : tbl n_rt_block = some c_rt_block := by kernel_rfl
theorem t_rt_need : tbl n_rt_need = some c_rt_need := by kernel_rfl
theorem t_rt_take : tbl n_rt_take = some c_rt_take := by kernel_rfl
theorem t_rt_whole : tbl n_rt_whole = some c_rt_whole := by kernel_rfl
theorem t_rt_bad : tbl n_rt_bad = some c_rt_bad := by kernel_rfl
theorem t_pp_whole : tbl n_pp_whole = some c_pp_whole := by kernel_rfl
theorem t_r16_SameStmts : tbl n_r16_SameStmts = some c_r16_SameStmts := by kernel_rfl
theorem t_lex_Name : tbl n_lex_Name = some c_lex_Name := by kernel_rfl
theorem t_lex_skip : tbl n_lex_skip = some c_lex_skip := by kernel_rfl
theorem t_lex_next : tbl n_lex_next = some c_lex_next := by kernel_rfl
theorem t_pp_named : tbl n_pp_named = some c_pp_named := by kernel_rfl
theorem t_pp_block : tbl n_pp_block = some c_pp_block := by kernel_rfl
theorem t_pw_wants : tbl n_pw_wants = some c_pw_wants := by kernel_rfl
theorem t_pw_takes : tbl n_pw_takes = some c_pw_takes := by kernel_rfl
theorem t_pw_of : tbl n_pw_of = some c_pw_of := by kernel_rfl
theorem t_r15_skip : tbl n_r15_skip = some c_r15_skip := by kernel_rfl
theorem t_r15_one : tbl n_r15_one = some c_r15_one := by kernel_rfl
theorem t_rt_stmt : tbl n_rt_stmt = some c_rt_stmt := by kernel_rfl
theorem t_rt_expr : tbl n_rt_expr = some c_rt_expr := by kernel_rfl
theorem t_r17_Deep : tbl n_r17_Deep = some c_r17_Deep := by kernel_rfl
theorem t_pw_head : tbl n_pw_head = some c_pw_head := by kernel_rfl
theorem t_pp_expr : tbl n_pp_expr = some c_pp_expr := by kernel_rfl
theorem t_pw_sees : tbl n_pw_sees = some c_pw_sees := by kernel_rfl
theorem t_pw_fail : tbl n_pw_fail = some c_pw_fail := by kernel_rfl
theorem t_parse_deep : tbl n_parse_deep = some c_parse_deep := by kernel_rfl
theorem t_r16_SameStmt : tbl n_r16_SameStmt = some c_r16_SameStmt := by kernel_rfl
theorem t_lex_begins : tbl n_lex_begins = some c_lex_begins := by kernel_rfl
theorem t_lex_letter : tbl n_lex_letter = some c_lex_letter := by kernel_rfl
theorem t_lex_inner : tbl n_lex_inner = some c_lex_inner := by kernel_rfl
theorem t_lex_Key : tbl n_lex_Key = some c_lex_Key := by kernel_rfl
theorem t_strings_HasPrefix : tbl n_strings_HasPrefix = some c_strings_HasPrefix := by kernel_rfl
theorem t_lex_word : tbl n_lex_word = some c_lex_word := by kernel_rfl
theorem t_lex_digit : tbl n_lex_digit = some c_lex_digit := by kernel_rfl
theorem t_lex_number : tbl n_lex_number = some c_lex_number := by kernel_rfl
theorem t_lex_text : tbl n_lex_text = some c_lex_text := by kernel_rfl
theorem t_lex_sign : tbl n_lex_sign = some c_lex_sign := by kernel_rfl
theorem t_pp_stmt : tbl n_pp_stmt = some c_pp_stmt := by kernel_rfl
theorem t_pw_skip : tbl n_pw_skip = some c_pw_skip := by kernel_rfl
theorem t_r15_letter : tbl n_r15_letter = some c_r15_letter := by kernel_rfl
theorem t_r15_inner : tbl n_r15_inner = some c_r15_inner := by kernel_rfl
theorem t_r15_Key : tbl n_r15_Key = some c_r15_Key := by kernel_rfl
theorem t_r15_Name : tbl n_r15_Name = some c_r15_Name := by kernel_rfl
theorem t_r15_digit : tbl n_r15_digit = some c_r15_digit := by kernel_rfl
theorem t_r01_Read : tbl n_r01_Read = some c_r01_Read := by kernel_rfl
theorem t_r14_Unquote : tbl n_r14_Unquote = some c_r14_Unquote := by kernel_rfl
theorem t_r15_Sign : tbl n_r15_Sign = some c_r15_Sign := by kernel_rfl
theorem t_r17_simple : tbl n_r17_simple = some c_r17_simple := by kernel_rfl
theorem t_rt_begin : tbl n_rt_begin = some c_rt_begin := by kernel_rfl
theorem t_r16_Exprs : tbl n_r16_Exprs = some c_r16_Exprs := by kernel_rfl
theorem t_rt_exprs : tbl n_rt_exprs = some c_rt_exprs := by kernel_rfl
theorem t_rt_txn : tbl n_rt_txn = some c_rt_txn := by kernel_rfl
theorem t_rt_both : tbl n_rt_both = some c_rt_both := by kernel_rfl
theorem t_r17_two : tbl n_r17_two = some c_r17_two := by kernel_rfl
theorem t_pp_chain : tbl n_pp_chain = some c_pp_chain := by kernel_rfl
theorem t_pp_both : tbl n_pp_both = some c_pp_both := by kernel_rfl
theorem t_isl_HasPrefix : tbl n_isl_HasPrefix = some c_isl_HasPrefix := by kernel_rfl
theorem t_num_Read : tbl n_num_Read = some c_num_Read := by kernel_rfl
theorem t_view_Unquote : tbl n_view_Unquote = some c_view_Unquote := by kernel_rfl
theorem t_parse_simple : tbl n_parse_simple = some c_parse_simple := by kernel_rfl
theorem t_pp_exprs : tbl n_pp_exprs = some c_pp_exprs := by kernel_rfl
theorem t_pp_choice : tbl n_pp_choice = some c_pp_choice := by kernel_rfl
theorem t_pp_loop : tbl n_pp_loop = some c_pp_loop := by kernel_rfl
theorem t_pp_txn : tbl n_pp_txn = some c_pp_txn := by kernel_rfl
theorem t_r14_value : tbl n_r14_value = some c_r14_value := by kernel_rfl
theorem t_r14_sign : tbl n_r14_sign = some c_r14_sign := by kernel_rfl
theorem t_rt_not : tbl n_rt_not = some c_rt_not := by kernel_rfl
theorem t_parse_kind : tbl n_parse_kind = some c_parse_kind := by kernel_rfl
theorem t_pp_not : tbl n_pp_not = some c_pp_not := by kernel_rfl
theorem t_tree_Exprs : tbl n_tree_Exprs = some c_tree_Exprs := by kernel_rfl
theorem t_strings_CutPrefix : tbl n_strings_CutPrefix = some c_strings_CutPrefix := by kernel_rfl
theorem t_strings_CutSuffix : tbl n_strings_CutSuffix = some c_strings_CutSuffix := by kernel_rfl
theorem t_view_pair : tbl n_view_pair = some c_view_pair := by kernel_rfl
theorem t_view_plain : tbl n_view_plain = some c_view_plain := by kernel_rfl
theorem t_rt_compare : tbl n_rt_compare = some c_rt_compare := by kernel_rfl
theorem t_pp_compare : tbl n_pp_compare = some c_pp_compare := by kernel_rfl
theorem t_isl_CutPrefix : tbl n_isl_CutPrefix = some c_isl_CutPrefix := by kernel_rfl
theorem t_isl_CutSuffix : tbl n_isl_CutSuffix = some c_isl_CutSuffix := by kernel_rfl
theorem t_rt_sum : tbl n_rt_sum = some c_rt_sum := by kernel_rfl
theorem t_pp_sum : tbl n_pp_sum = some c_pp_sum := by kernel_rfl
theorem t_isl_HasSuffix : tbl n_isl_HasSuffix = some c_isl_HasSuffix := by kernel_rfl
theorem t_rt_part : tbl n_rt_part = some c_rt_part := by kernel_rfl
theorem t_pp_part : tbl n_pp_part = some c_pp_part := by kernel_rfl
theorem t_pp_inner : tbl n_pp_inner = some c_pp_inner := by kernel_rfl

/-- The functions that are taken as given. -/
def noExt : Ext := fun k => if k = n_strings_Contains then some (xContains) else if k = n_strings_TrimLeft then some (xTrimLeft) else if k = n_strings_IndexByte then some (xIndexByte) else if k = n_pstrings_Builder_WriteByte then some (xWriteByte bT bE) else if k = n_pstrings_Builder_String then some (xString bT bE) else if k = n_lex_run then some (xRun n_lex_letter n_lex_digit n_lex_inner) else none

@[simp] theorem lt_l17_ParseTells : n_l17_ParseTells < yBase := Nat.le_of_ble_eq_true rfl
@[simp] theorem lt_l17_knows : n_l17_knows < yBase := Nat.le_of_ble_eq_true rfl
@[simp] theorem lt_parse_Program : n_parse_Program < yBase := Nat.le_of_ble_eq_true rfl
@[simp] theorem lt_r17_Program : n_r17_Program < yBase := Nat.le_of_ble_eq_true rfl
@[simp] theorem lt_parse_Expr : n_parse_Expr < yBase := Nat.le_of_ble_eq_true rfl
@[simp] theorem lt_r17_Expr : n_r17_Expr < yBase := Nat.le_of_ble_eq_true rfl
@[simp] theorem lt_r16_Same : n_r16_Same < yBase := Nat.le_of_ble_eq_true rfl
@[simp] theorem lt_l15_Fault : n_l15_Fault < yBase := Nat.le_of_ble_eq_true rfl
@[simp] theorem lt_r16_SameExpr : n_r16_SameExpr < yBase := Nat.le_of_ble_eq_true rfl
@[simp] theorem lt_lex_Words : n_lex_Words < yBase := Nat.le_of_ble_eq_true rfl
@[simp] theorem lt_pp_program : n_pp_program < yBase := Nat.le_of_ble_eq_true rfl
@[simp] theorem lt_r15_Words : n_r15_Words < yBase := Nat.le_of_ble_eq_true rfl
@[simp] theorem lt_rt_is : n_rt_is < yBase := Nat.le_of_ble_eq_true rfl
@[simp] theorem lt_rt_fail : n_rt_fail < yBase := Nat.le_of_ble_eq_true rfl
@[simp] theorem lt_rt_now : n_rt_now < yBase := Nat.le_of_ble_eq_true rfl
@[simp] theorem lt_rt_kind : n_rt_kind < yBase := Nat.le_of_ble_eq_true rfl
@[simp] theorem lt_rt_block : n_rt_block < yBase := Nat.le_of_ble_eq_true rfl
@[simp] theorem lt_rt_need : n_rt_need < yBase := Nat.le_of_ble_eq_true rfl
@[simp] theorem lt_rt_take : n_rt_take < yBase := Nat.le_of_ble_eq_true rfl
@[simp] theorem lt_rt_whole : n_rt_whole < yBase := Nat.le_of_ble_eq_true rfl
@[simp] theorem lt_rt_bad : n_rt_bad < yBase := Nat.le_of_ble_eq_true rfl
@[simp] theorem lt_pp_whole : n_pp_whole < yBase := Nat.le_of_ble_eq_true rfl
@[simp] theorem lt_r16_SameStmts : n_r16_SameStmts < yBase := Nat.le_of_ble_eq_true rfl
@[simp] theorem lt_lex_Name : n_lex_Name < yBase := Nat.le_of_ble_eq_true rfl
@[simp] theorem lt_lex_skip : n_lex_skip < yBase := Nat.le_of_ble_eq_true rfl
@[simp] theorem lt_lex_next : n_lex_next < yBase := Nat.le_of_ble_eq_true rfl
@[simp] theorem lt_pp_named : n_pp_named < yBase := Nat.le_of_ble_eq_true rfl
@[simp] theorem lt_pp_block : n_pp_block < yBase := Nat.le_of_ble_eq_true rfl
@[simp] theorem lt_pw_wants : n_pw_wants < yBase := Nat.le_of_ble_eq_true rfl
@[simp] theorem lt_pw_takes : n_pw_takes < yBase := Nat.le_of_ble_eq_true rfl
@[simp] theorem lt_pw_of : n_pw_of < yBase := Nat.le_of_ble_eq_true rfl
@[simp] theorem lt_r15_skip : n_r15_skip < yBase := Nat.le_of_ble_eq_true rfl
@[simp] theorem lt_r15_one : n_r15_one < yBase := Nat.le_of_ble_eq_true rfl
@[simp] theorem lt_rt_stmt : n_rt_stmt < yBase := Nat.le_of_ble_eq_true rfl
@[simp] theorem lt_rt_expr : n_rt_expr < yBase := Nat.le_of_ble_eq_true rfl
@[simp] theorem lt_r17_Deep : n_r17_Deep < yBase := Nat.le_of_ble_eq_true rfl
@[simp] theorem lt_pw_head : n_pw_head < yBase := Nat.le_of_ble_eq_true rfl
@[simp] theorem lt_pp_expr : n_pp_expr < yBase := Nat.le_of_ble_eq_true rfl
@[simp] theorem lt_pw_sees : n_pw_sees < yBase := Nat.le_of_ble_eq_true rfl
@[simp] theorem lt_pw_fail : n_pw_fail < yBase := Nat.le_of_ble_eq_true rfl
@[simp] theorem lt_parse_deep : n_parse_deep < yBase := Nat.le_of_ble_eq_true rfl
@[simp] theorem lt_r16_SameStmt : n_r16_SameStmt < yBase := Nat.le_of_ble_eq_true rfl
@[simp] theorem lt_lex_begins : n_lex_begins < yBase := Nat.le_of_ble_eq_true rfl
@[simp] theorem lt_lex_letter : n_lex_letter < yBase := Nat.le_of_ble_eq_true rfl
@[simp] theorem lt_lex_run : n_lex_run < yBase := Nat.le_of_ble_eq_true rfl
@[simp] theorem lt_lex_inner : n_lex_inner < yBase := Nat.le_of_ble_eq_true rfl
@[simp] theorem lt_lex_Key : n_lex_Key < yBase := Nat.le_of_ble_eq_true rfl
@[simp] theorem lt_strings_TrimLeft : n_strings_TrimLeft < yBase := Nat.le_of_ble_eq_true rfl
@[simp] theorem lt_strings_HasPrefix : n_strings_HasPrefix < yBase := Nat.le_of_ble_eq_true rfl
@[simp] theorem lt_strings_IndexByte : n_strings_IndexByte < yBase := Nat.le_of_ble_eq_true rfl
@[simp] theorem lt_lex_word : n_lex_word < yBase := Nat.le_of_ble_eq_true rfl
@[simp] theorem lt_lex_digit : n_lex_digit < yBase := Nat.le_of_ble_eq_true rfl
@[simp] theorem lt_lex_number : n_lex_number < yBase := Nat.le_of_ble_eq_true rfl
@[simp] theorem lt_lex_text : n_lex_text < yBase := Nat.le_of_ble_eq_true rfl
@[simp] theorem lt_lex_sign : n_lex_sign < yBase := Nat.le_of_ble_eq_true rfl
@[simp] theorem lt_pp_stmt : n_pp_stmt < yBase := Nat.le_of_ble_eq_true rfl
@[simp] theorem lt_pw_skip : n_pw_skip < yBase := Nat.le_of_ble_eq_true rfl
@[simp] theorem lt_r15_letter : n_r15_letter < yBase := Nat.le_of_ble_eq_true rfl
@[simp] theorem lt_r15_inner : n_r15_inner < yBase := Nat.le_of_ble_eq_true rfl
@[simp] theorem lt_r15_Key : n_r15_Key < yBase := Nat.le_of_ble_eq_true rfl
@[simp] theorem lt_r15_Name : n_r15_Name < yBase := Nat.le_of_ble_eq_true rfl
@[simp] theorem lt_r15_digit : n_r15_digit < yBase := Nat.le_of_ble_eq_true rfl
@[simp] theorem lt_r01_Read : n_r01_Read < yBase := Nat.le_of_ble_eq_true rfl
@[simp] theorem lt_r14_Unquote : n_r14_Unquote < yBase := Nat.le_of_ble_eq_true rfl
@[simp] theorem lt_r15_Sign : n_r15_Sign < yBase := Nat.le_of_ble_eq_true rfl
@[simp] theorem lt_r17_simple : n_r17_simple < yBase := Nat.le_of_ble_eq_true rfl
@[simp] theorem lt_rt_begin : n_rt_begin < yBase := Nat.le_of_ble_eq_true rfl
@[simp] theorem lt_r16_Exprs : n_r16_Exprs < yBase := Nat.le_of_ble_eq_true rfl
@[simp] theorem lt_rt_exprs : n_rt_exprs < yBase := Nat.le_of_ble_eq_true rfl
@[simp] theorem lt_rt_txn : n_rt_txn < yBase := Nat.le_of_ble_eq_true rfl
@[simp] theorem lt_rt_both : n_rt_both < yBase := Nat.le_of_ble_eq_true rfl
@[simp] theorem lt_r17_two : n_r17_two < yBase := Nat.le_of_ble_eq_true rfl
@[simp] theorem lt_pp_chain : n_pp_chain < yBase := Nat.le_of_ble_eq_true rfl
@[simp] theorem lt_pp_both : n_pp_both < yBase := Nat.le_of_ble_eq_true rfl
@[simp] theorem lt_strings_Contains : n_strings_Contains < yBase := Nat.le_of_ble_eq_true rfl
@[simp] theorem lt_isl_HasPrefix : n_isl_HasPrefix < yBase := Nat.le_of_ble_eq_true rfl
@[simp] theorem lt_num_Read : n_num_Read < yBase := Nat.le_of_ble_eq_true rfl
@[simp] theorem lt_view_Unquote : n_view_Unquote < yBase := Nat.le_of_ble_eq_true rfl
@[simp] theorem lt_parse_simple : n_parse_simple < yBase := Nat.le_of_ble_eq_true rfl
@[simp] theorem lt_pp_exprs : n_pp_exprs < yBase := Nat.le_of_ble_eq_true rfl
@[simp] theorem lt_pp_choice : n_pp_choice < yBase := Nat.le_of_ble_eq_true rfl
@[simp] theorem lt_pp_loop : n_pp_loop < yBase := Nat.le_of_ble_eq_true rfl
@[simp] theorem lt_pp_txn : n_pp_txn < yBase := Nat.le_of_ble_eq_true rfl
@[simp] theorem lt_r14_value : n_r14_value < yBase := Nat.le_of_ble_eq_true rfl
@[simp] theorem lt_r14_sign : n_r14_sign < yBase := Nat.le_of_ble_eq_true rfl
@[simp] theorem lt_rt_not : n_rt_not < yBase := Nat.le_of_ble_eq_true rfl
@[simp] theorem lt_parse_kind : n_parse_kind < yBase := Nat.le_of_ble_eq_true rfl
@[simp] theorem lt_pp_not : n_pp_not < yBase := Nat.le_of_ble_eq_true rfl
@[simp] theorem lt_tree_Exprs : n_tree_Exprs < yBase := Nat.le_of_ble_eq_true rfl
@[simp] theorem lt_strings_CutPrefix : n_strings_CutPrefix < yBase := Nat.le_of_ble_eq_true rfl
@[simp] theorem lt_strings_CutSuffix : n_strings_CutSuffix < yBase := Nat.le_of_ble_eq_true rfl
@[simp] theorem lt_view_pair : n_view_pair < yBase := Nat.le_of_ble_eq_true rfl
@[simp] theorem lt_view_plain : n_view_plain < yBase := Nat.le_of_ble_eq_true rfl
@[simp] theorem lt_pstrings_Builder_WriteByte : n_pstrings_Builder_WriteByte < yBase := Nat.le_of_ble_eq_true rfl
@[simp] theorem lt_pstrings_Builder_String : n_pstrings_Builder_String < yBase := Nat.le_of_ble_eq_true rfl
@[simp] theorem lt_rt_compare : n_rt_compare < yBase := Nat.le_of_ble_eq_true rfl
@[simp] theorem lt_pp_compare : n_pp_compare < yBase := Nat.le_of_ble_eq_true rfl
@[simp] theorem lt_isl_CutPrefix : n_isl_CutPrefix < yBase := Nat.le_of_ble_eq_true rfl
@[simp] theorem lt_isl_CutSuffix : n_isl_CutSuffix < yBase := Nat.le_of_ble_eq_true rfl
@[simp] theorem lt_rt_sum : n_rt_sum < yBase := Nat.le_of_ble_eq_true rfl
@[simp] theorem lt_pp_sum : n_pp_sum < yBase := Nat.le_of_ble_eq_true rfl
@[simp] theorem lt_isl_HasSuffix : n_isl_HasSuffix < yBase := Nat.le_of_ble_eq_true rfl
@[simp] theorem lt_rt_part : n_rt_part < yBase := Nat.le_of_ble_eq_true rfl
@[simp] theorem lt_pp_part : n_pp_part < yBase := Nat.le_of_ble_eq_true rfl
@[simp] theorem lt_pp_inner : n_pp_inner < yBase := Nat.le_of_ble_eq_true rfl

end Go.AM
