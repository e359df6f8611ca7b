/-
  The abstract code of the functions, printed by a program (gen.py) out of the loaded program, and each function's place in the table.
-/
import Derived.Test.YtlpokbhooaffmaaDoorXlib
namespace Go.AM

abbrev bT : Nat := 86
abbrev bE : Nat := 5
def n_flotsamlaw17_ParseBlanks : Nat := 3
def n_flotsamlaw17_knows : Nat := 4
def n_flotsamlaw17_spaced : Nat := 5
def n_parse_Program : Nat := 6
def n_flotsamref16_Same : Nat := 7
def n_parse_Expr : Nat := 8
def n_flotsamlaw15_Fault : Nat := 9
def n_lex_Show : Nat := 10
def n_lex_Words : Nat := 11
def n_pparse_parser_program : Nat := 12
def n_flotsamref16_SameStmts : Nat := 13
def n_flotsamref16_SameExpr : Nat := 14
def n_pparse_parser_whole : Nat := 15
def n_num_Digits : Nat := 16
def n_view_Quote : Nat := 17
def n_slices_Equal_api_Word_api_Word : Nat := 18
def n_lex_skip : Nat := 19
def n_lex_next : Nat := 20
def n_pparse_parser_named : Nat := 21
def n_pparse_parser_block : Nat := 22
def n_pparse_words_wants : Nat := 23
def n_pparse_words_takes : Nat := 24
def n_pparse_words_of : Nat := 25
def n_flotsamref16_SameStmt : Nat := 26
def n_pparse_words_head : Nat := 27
def n_pparse_parser_expr : Nat := 28
def n_pparse_words_sees : Nat := 29
def n_pparse_words_fail : Nat := 30
def n_parse_deep : Nat := 31
def n_pstrings_Builder_WriteByte : Nat := 32
def n_view_plain : Nat := 33
def n_pstrings_Builder_String : Nat := 34
def n_strings_TrimLeft : Nat := 35
def n_strings_HasPrefix : Nat := 36
def n_strings_IndexByte : Nat := 37
def n_lex_begins : Nat := 38
def n_lex_letter : Nat := 39
def n_lex_word : Nat := 40
def n_lex_digit : Nat := 41
def n_lex_number : Nat := 42
def n_lex_text : Nat := 43
def n_lex_sign : Nat := 44
def n_pparse_parser_stmt : Nat := 45
def n_pparse_words_skip : Nat := 46
def n_pparse_parser_chain : Nat := 47
def n_pparse_parser_both : Nat := 48
def n_internal_stringslite_HasPrefix : Nat := 54
def n_lex_run : Nat := 56
def n_lex_inner : Nat := 57
def n_lex_Key : Nat := 58
def n_lex_Name : Nat := 59
def n_num_Read : Nat := 60
def n_view_Unquote : Nat := 61
def n_parse_simple : Nat := 62
def n_pparse_parser_exprs : Nat := 63
def n_pparse_parser_choice : Nat := 64
def n_pparse_parser_loop : Nat := 65
def n_pparse_parser_txn : Nat := 66
def n_parse_kind : Nat := 67
def n_pparse_parser_not : Nat := 68
def n_strings_Contains : Nat := 76
def n_strings_CutPrefix : Nat := 77
def n_strings_CutSuffix : Nat := 78
def n_view_pair : Nat := 79
def n_tree_Exprs : Nat := 80
def n_pparse_parser_compare : Nat := 81
def n_internal_stringslite_CutPrefix : Nat := 86
def n_internal_stringslite_CutSuffix : Nat := 87
def n_pparse_parser_sum : Nat := 88
def n_internal_stringslite_HasSuffix : Nat := 93
def n_pparse_parser_part : Nat := 94
def n_pparse_parser_inner : Nat := 96


-- flotsam/flotsamlaw17.ParseBlanks
def b_flotsamlaw17_ParseBlanks_0 : AC :=
  .seq (.seq (.reg [⟨some 21, none, .mv (.t 3)⟩, ⟨some 22, none, .mv (.t 0)⟩, ⟨some 23, none, .len false (.t 22)⟩, ⟨some 24, none, .ic .lss (.t 21) (.t 23)⟩])
    (.cond (.t 24)
      (.skip)
      (.exit 0)))
  (.seq (.block 1 (.seq (.reg [⟨some 27, none, .mv (.t 0)⟩, ⟨some 28, none, .mv (.t 3)⟩, ⟨some 29, none, .ixa 4 none (.t 27) (.t 28)⟩, ⟨some 30, none, .fa 1 (.t 29)⟩, ⟨some 31, none, .ld none (.t 30)⟩, ⟨some 32, none, .len true (.t 31)⟩, ⟨some 33, none, .ic .gtr (.t 32) (.c (.int .i64 100))⟩])
      (.cond (.t 33)
        (.seq (.reg [⟨some 2, none, .tk (.c (.bool true))⟩])
          (.ret))
        (.skip))))
  (.reg [⟨some 25, none, .mv (.t 3)⟩, ⟨some 26, none, .ia .add .i64 (.t 25) (.c (.int .i64 1))⟩, ⟨some 3, none, .tk (.t 26)⟩]))

def l_flotsamlaw17_ParseBlanks_0 : AC :=
  .loop [0, 3] b_flotsamlaw17_ParseBlanks_0

def b_flotsamlaw17_ParseBlanks_1 : AC :=
  .seq (.seq (.reg [⟨some 73, none, .mv (.t 12)⟩, ⟨some 74, none, .mv (.t 5)⟩, ⟨some 75, none, .len false (.t 74)⟩, ⟨some 76, none, .ic .lss (.t 73) (.t 75)⟩, ⟨some 77, none, .mv (.t 76)⟩, ⟨some 78, (some (77, true)), .fa 0 (.t 9)⟩, ⟨some 79, (some (77, true)), .ld none (.t 78)⟩, ⟨some 80, (some (77, true)), .ic .neq (.t 79) (.c (.int .i64 0))⟩, ⟨some 81, none, .pick (.t 77) (.t 80) (.c (.bool false))⟩])
    (.cond (.t 81)
      (.skip)
      (.exit 2)))
  (.seq (.block 3 (.seq (.drw [[], [], [], [], [], [], []] [⟨some 84, none, .mv (.t 5)⟩, ⟨some 85, none, .mv (.t 12)⟩, ⟨some 86, none, .ixa 1 none (.t 84) (.t 85)⟩, ⟨some 87, none, .ld none (.t 86)⟩, ⟨some 88, none, .fa 1 (.t 9)⟩, ⟨some 89, none, .ld none (.t 88)⟩, ⟨some 90, none, .ic .eql (.t 87) (.t 89)⟩])
      (.cond (.t 90)
        (.seq (.drw [[], [], [], [], [], [], [], []] [⟨some 91, none, .mv (.t 7)⟩, ⟨some 92, none, .mv (.t 12)⟩, ⟨some 93, none, .ixa 1 none (.t 91) (.t 92)⟩, ⟨some 94, none, .ld none (.t 93)⟩, ⟨some 95, none, .fa 1 (.t 11)⟩, ⟨some 96, none, .ld none (.t 95)⟩, ⟨some 97, none, .ic .eql (.t 94) (.t 96)⟩, ⟨some 2, none, .tk (.t 97)⟩])
          (.ret))
        (.skip))))
  (.reg [⟨some 82, none, .mv (.t 12)⟩, ⟨some 83, none, .ia .add .i64 (.t 82) (.c (.int .i64 1))⟩, ⟨some 12, none, .tk (.t 83)⟩]))

def l_flotsamlaw17_ParseBlanks_1 : AC :=
  .loop [5, 7, 9, 11, 12] b_flotsamlaw17_ParseBlanks_1

def r_flotsamlaw17_ParseBlanks_0 : AC :=
  .seq (.reg [⟨some 98, none, .fa 0 (.t 9)⟩, ⟨some 99, none, .ld none (.t 98)⟩, ⟨some 100, none, .ic .eql (.t 99) (.c (.int .i64 0))⟩, ⟨some 101, none, .mv (.t 100)⟩, ⟨some 102, (some (101, true)), .fa 1 (.t 9)⟩, ⟨some 103, (some (101, true)), .ld none (.t 102)⟩, ⟨some 104, (some (101, true)), .fa 1 (.t 11)⟩, ⟨some 105, (some (101, true)), .ld none (.t 104)⟩, ⟨some 106, (some (101, true)), .ic .eql (.t 103) (.t 105)⟩, ⟨some 107, none, .pick (.t 101) (.t 106) (.c (.bool false))⟩, ⟨some 2, none, .tk (.t 107)⟩])
  (.ret)

def r_flotsamlaw17_ParseBlanks_1 : AC :=
  .seq (.reg [⟨some 35, none, .mv (.t 0)⟩, ⟨some 36, none, .callc n_flotsamlaw17_spaced [(.t 35), (.c (.bool false))]⟩, ⟨some 34, none, .mv (.t 36)⟩, ⟨some 37, none, .ext (.t 34) 0⟩, ⟨some 38, none, .ext (.t 34) 1⟩, ⟨some 4, none, .tk (.t 37)⟩, ⟨some 5, none, .tk (.t 38)⟩])
  (.seq (.reg [⟨some 40, none, .mv (.t 0)⟩, ⟨some 41, none, .callc n_flotsamlaw17_spaced [(.t 40), (.c (.bool true))]⟩, ⟨some 39, none, .mv (.t 41)⟩, ⟨some 42, none, .ext (.t 39) 0⟩, ⟨some 43, none, .ext (.t 39) 1⟩, ⟨some 6, none, .tk (.t 42)⟩, ⟨some 7, none, .tk (.t 43)⟩])
  (.seq (.seq (.reg [⟨some 44, none, .mv (.t 4)⟩, ⟨some 45, none, .len true (.t 44)⟩, ⟨some 46, none, .ic .gtr (.t 45) (.c (.int .i64 4096))⟩, ⟨some 47, none, .mv (.t 46)⟩, ⟨some 48, (some (47, false)), .mv (.t 6)⟩, ⟨some 49, (some (47, false)), .len true (.t 48)⟩, ⟨some 50, (some (47, false)), .ic .gtr (.t 49) (.c (.int .i64 4096))⟩, ⟨some 51, none, .pick (.t 47) (.c (.bool true)) (.t 50)⟩])
    (.cond (.t 51)
      (.seq (.reg [⟨some 2, none, .tk (.c (.bool true))⟩])
        (.ret))
      (.skip)))
  (.seq (.reg [⟨some 53, none, .mv (.t 4)⟩, ⟨some 54, none, .callc n_parse_Program [(.t 53)]⟩, ⟨some 52, none, .mv (.t 54)⟩, ⟨some 55, none, .ext (.t 52) 0⟩, ⟨some 56, none, .ext (.t 52) 1⟩, ⟨some 8, none, .alloc [.own 2 [], .own 7 [], .own 7 [], .own 5 []]⟩, ⟨some 9, none, .alloc [.int .i64 0, .int .i64 0]⟩, ⟨none, none, .st 4 (.t 8) (.t 55)⟩, ⟨none, none, .st 2 (.t 9) (.t 56)⟩])
  (.seq (.reg [⟨some 58, none, .mv (.t 6)⟩, ⟨some 59, none, .callc n_parse_Program [(.t 58)]⟩, ⟨some 57, none, .mv (.t 59)⟩, ⟨some 60, none, .ext (.t 57) 0⟩, ⟨some 61, none, .ext (.t 57) 1⟩, ⟨some 10, none, .alloc [.own 2 [], .own 7 [], .own 7 [], .own 5 []]⟩, ⟨some 11, none, .alloc [.int .i64 0, .int .i64 0]⟩, ⟨none, none, .st 4 (.t 10) (.t 60)⟩, ⟨none, none, .st 2 (.t 11) (.t 61)⟩])
  (.seq (.seq (.reg [⟨some 62, none, .fa 0 (.t 9)⟩, ⟨some 63, none, .ld none (.t 62)⟩, ⟨some 64, none, .fa 0 (.t 11)⟩, ⟨some 65, none, .ld none (.t 64)⟩, ⟨some 66, none, .ic .neq (.t 63) (.t 65)⟩, ⟨some 67, none, .mv (.t 66)⟩, ⟨some 68, (some (67, false)), .ld (some 4) (.t 8)⟩, ⟨some 69, (some (67, false)), .ld (some 4) (.t 10)⟩, ⟨some 70, (some (67, false)), .callc n_flotsamref16_Same [(.t 68), (.t 69)]⟩, ⟨some 71, (some (67, false)), .notb (.t 70)⟩, ⟨some 72, none, .pick (.t 67) (.c (.bool true)) (.t 71)⟩])
    (.cond (.t 72)
      (.seq (.reg [⟨some 2, none, .tk (.c (.bool false))⟩])
        (.ret))
      (.skip)))
  (.seq (.seq (.reg [⟨some 12, none, .tk (.c (.int .i64 0))⟩])
    (.block 2 (l_flotsamlaw17_ParseBlanks_1))) r_flotsamlaw17_ParseBlanks_0))))))

def c_flotsamlaw17_ParseBlanks : AFunc :=
  { np := 1, res := [.t 2], body := (
    .seq (.reg [⟨some 2, none, .tk (.c (.bool false))⟩])
    (.seq (.seq (.reg [⟨some 13, none, .mv (.t 0)⟩, ⟨some 14, none, .len false (.t 13)⟩, ⟨some 15, none, .ic .gtr (.t 14) (.c (.int .i64 80))⟩, ⟨some 16, none, .mv (.t 15)⟩, ⟨some 17, (some (16, false)), .callc n_flotsamlaw17_knows []⟩, ⟨some 18, (some (16, false)), .notb (.t 17)⟩, ⟨some 19, none, .pick (.t 16) (.c (.bool true)) (.t 18)⟩])
      (.cond (.t 19)
        (.seq (.reg [⟨some 20, none, .callc n_flotsamlaw17_knows []⟩, ⟨some 2, none, .tk (.t 20)⟩])
          (.ret))
        (.skip)))
    (.seq (.seq (.reg [⟨some 3, none, .tk (.c (.int .i64 0))⟩])
      (.block 0 (l_flotsamlaw17_ParseBlanks_0))) r_flotsamlaw17_ParseBlanks_1))) }

-- flotsam/flotsamlaw17.knows
def c_flotsamlaw17_knows : AFunc :=
  { np := 0, res := [.t 0], body := (
    .seq (.reg [⟨some 0, none, .tk (.c (.bool false))⟩])
    (.seq (.reg [⟨some 8, none, .callc n_parse_Program [(.c (.str [109, 97, 105, 110, 123, 98, 97, 114, 114, 105, 101, 114, 59, 125]))]⟩, ⟨some 7, none, .mv (.t 8)⟩, ⟨some 9, none, .ext (.t 7) 0⟩, ⟨some 10, none, .ext (.t 7) 1⟩, ⟨some 1, none, .alloc [.own 2 [], .own 7 [], .own 7 [], .own 5 []]⟩, ⟨some 2, none, .alloc [.int .i64 0, .int .i64 0]⟩, ⟨none, none, .st 4 (.t 1) (.t 9)⟩, ⟨none, none, .st 2 (.t 2) (.t 10)⟩])
    (.seq (.reg [⟨some 12, none, .callc n_parse_Program [(.c (.str [109, 97, 105, 110, 123, 102, 115, 121, 110, 99, 59, 125]))]⟩, ⟨some 11, none, .mv (.t 12)⟩, ⟨some 13, none, .ext (.t 11) 0⟩, ⟨some 14, none, .ext (.t 11) 1⟩, ⟨some 3, none, .alloc [.own 2 [], .own 7 [], .own 7 [], .own 5 []]⟩, ⟨some 4, none, .alloc [.int .i64 0, .int .i64 0]⟩, ⟨none, none, .st 4 (.t 3) (.t 13)⟩, ⟨none, none, .st 2 (.t 4) (.t 14)⟩])
    (.seq (.reg [⟨some 16, none, .callc n_parse_Expr [(.c (.str [49, 45, 50, 60, 51]))]⟩, ⟨some 15, none, .mv (.t 16)⟩, ⟨some 17, none, .ext (.t 15) 0⟩, ⟨some 18, none, .ext (.t 15) 1⟩, ⟨some 5, none, .alloc [.int .i64 0, .int .i64 0, .str [], .own 4 []]⟩, ⟨some 6, none, .alloc [.int .i64 0, .int .i64 0]⟩, ⟨none, none, .st 4 (.t 5) (.t 17)⟩, ⟨none, none, .st 2 (.t 6) (.t 18)⟩])
    (.seq (.reg [⟨some 19, none, .ld (some 2) (.t 2)⟩, ⟨some 20, none, .bld [.int .i64 0, .int .i64 0] []⟩, ⟨some 21, none, .callc n_flotsamlaw15_Fault [(.t 19), (.t 20)]⟩, ⟨some 22, none, .mv (.t 21)⟩, ⟨some 23, (some (22, true)), .fa 1 (.t 1)⟩, ⟨some 24, (some (22, true)), .ld none (.t 23)⟩, ⟨some 25, (some (22, true)), .len false (.t 24)⟩, ⟨some 26, (some (22, true)), .ic .eql (.t 25) (.c (.int .i64 1))⟩, ⟨some 27, none, .pick (.t 22) (.t 26) (.c (.bool false))⟩, ⟨some 28, none, .mv (.t 27)⟩, ⟨some 29, (some (28, true)), .fa 1 (.t 1)⟩, ⟨some 30, (some (28, true)), .ld none (.t 29)⟩, ⟨some 31, (some (28, true)), .ixa 7 none (.t 30) (.c (.int .i64 0))⟩, ⟨some 32, (some (28, true)), .fa 0 (.t 31)⟩, ⟨some 33, (some (28, true)), .ld none (.t 32)⟩, ⟨some 34, (some (28, true)), .ic .eql (.t 33) (.c (.int .i64 11))⟩, ⟨some 35, none, .pick (.t 28) (.t 34) (.c (.bool false))⟩, ⟨some 36, none, .mv (.t 35)⟩, ⟨some 37, (some (36, true)), .ld (some 2) (.t 4)⟩, ⟨some 38, (some (36, true)), .bld [.int .i64 0, .int .i64 0] [(0, 1, (.c (.int .i64 12))), (1, 1, (.c (.int .i64 10)))]⟩, ⟨some 39, (some (36, true)), .callc n_flotsamlaw15_Fault [(.t 37), (.t 38)]⟩, ⟨some 40, none, .pick (.t 36) (.t 39) (.c (.bool false))⟩, ⟨some 41, none, .mv (.t 40)⟩, ⟨some 42, (some (41, true)), .fa 1 (.t 3)⟩, ⟨some 43, (some (41, true)), .ld none (.t 42)⟩, ⟨some 44, (some (41, true)), .len false (.t 43)⟩, ⟨some 45, (some (41, true)), .ic .eql (.t 44) (.c (.int .i64 0))⟩, ⟨some 46, none, .pick (.t 41) (.t 45) (.c (.bool false))⟩, ⟨some 47, none, .mv (.t 46)⟩, ⟨some 48, (some (47, true)), .ld (some 2) (.t 6)⟩, ⟨some 49, (some (47, true)), .bld [.int .i64 0, .int .i64 0] []⟩, ⟨some 50, (some (47, true)), .callc n_flotsamlaw15_Fault [(.t 48), (.t 49)]⟩, ⟨some 51, none, .pick (.t 47) (.t 50) (.c (.bool false))⟩, ⟨some 52, none, .mv (.t 51)⟩, ⟨some 53, (some (52, true)), .fa 0 (.t 5)⟩, ⟨some 54, (some (52, true)), .ld none (.t 53)⟩, ⟨some 55, (some (52, true)), .ic .eql (.t 54) (.c (.int .i64 12))⟩, ⟨some 56, none, .pick (.t 52) (.t 55) (.c (.bool false))⟩, ⟨some 57, none, .mv (.t 56)⟩, ⟨some 58, (some (57, true)), .fa 3 (.t 5)⟩, ⟨some 59, (some (57, true)), .ld none (.t 58)⟩, ⟨some 60, (some (57, true)), .len false (.t 59)⟩, ⟨some 61, (some (57, true)), .ic .eql (.t 60) (.c (.int .i64 2))⟩, ⟨some 62, none, .pick (.t 57) (.t 61) (.c (.bool false))⟩, ⟨some 63, none, .mv (.t 62)⟩, ⟨some 64, (some (63, true)), .fa 3 (.t 5)⟩, ⟨some 65, (some (63, true)), .ld none (.t 64)⟩, ⟨some 66, (some (63, true)), .ixa 4 none (.t 65) (.c (.int .i64 0))⟩, ⟨some 67, (some (63, true)), .fa 0 (.t 66)⟩, ⟨some 68, (some (63, true)), .ld none (.t 67)⟩, ⟨some 69, (some (63, true)), .ic .eql (.t 68) (.c (.int .i64 10))⟩, ⟨some 70, none, .pick (.t 63) (.t 69) (.c (.bool false))⟩, ⟨some 0, none, .tk (.t 70)⟩])
    (.ret)))))) }

-- flotsam/flotsamlaw17.spaced
def b_flotsamlaw17_spaced_0 : AC :=
  .seq (.seq (.reg [⟨some 11, none, .mv (.t 8)⟩, ⟨some 12, none, .mv (.t 0)⟩, ⟨some 13, none, .len false (.t 12)⟩, ⟨some 14, none, .ic .lss (.t 11) (.t 13)⟩])
    (.cond (.t 14)
      (.skip)
      (.exit 0)))
  (.seq (.block 1 (.seq (.reg [⟨some 18, none, .mv (.t 0)⟩, ⟨some 19, none, .mv (.t 8)⟩, ⟨some 20, none, .ixa 4 none (.t 18) (.t 19)⟩, ⟨some 21, none, .ld (some 4) (.t 20)⟩, ⟨some 22, none, .callc n_lex_Show [(.t 21)]⟩, ⟨some 17, none, .mv (.t 22)⟩, ⟨some 23, none, .ext (.t 17) 0⟩, ⟨some 24, none, .ext (.t 17) 1⟩, ⟨some 9, none, .tk (.t 23)⟩, ⟨some 10, none, .tk (.t 24)⟩])
      (.seq (.seq (.reg [⟨some 25, none, .mv (.t 10)⟩, ⟨some 26, none, .notb (.t 25)⟩])
        (.cond (.t 26)
          (.exit 1)
          (.skip)))
      (.seq (.reg [⟨some 27, none, .tk (.t 7)⟩, ⟨some 28, none, .mv (.t 6)⟩, ⟨some 29, none, .len true (.t 28)⟩, ⟨some 30, none, .bsl 1 [.int .i64 0] 1 [(0, 1, (.t 29))] false⟩, ⟨some 31, none, .app 1 8 (.t 27) (.t 30) false⟩, ⟨some 7, none, .tk (.t 31)⟩])
      (.seq (.reg [⟨some 32, none, .mv (.t 6)⟩, ⟨some 33, none, .mv (.t 9)⟩, ⟨some 34, none, .sop .add (.t 32) (.t 33)⟩, ⟨some 35, none, .sop .add (.t 34) (.c (.str [32]))⟩, ⟨some 6, none, .tk (.t 35)⟩])
      (.seq (.reg [⟨some 36, none, .mv (.t 1)⟩])
      (.cond (.t 36)
        (.reg [⟨some 37, none, .mv (.t 6)⟩, ⟨some 38, none, .sop .add (.t 37) (.c (.str [9, 35, 32, 120, 10, 32]))⟩, ⟨some 6, none, .tk (.t 38)⟩])
        (.skip))))))))
  (.reg [⟨some 15, none, .mv (.t 8)⟩, ⟨some 16, none, .ia .add .i64 (.t 15) (.c (.int .i64 1))⟩, ⟨some 8, none, .tk (.t 16)⟩]))

def l_flotsamlaw17_spaced_0 : AC :=
  .loop [0, 1, 6, 7, 8] b_flotsamlaw17_spaced_0

def r_flotsamlaw17_spaced_0 : AC :=
  .seq (.reg [⟨some 39, none, .mv (.t 6)⟩, ⟨some 40, none, .tk (.t 7)⟩, ⟨some 41, none, .mv (.t 6)⟩, ⟨some 42, none, .len true (.t 41)⟩, ⟨some 43, none, .bsl 1 [.int .i64 0] 1 [(0, 1, (.t 42))] false⟩, ⟨some 44, none, .app 1 8 (.t 40) (.t 43) false⟩, ⟨some 4, none, .tk (.t 39)⟩, ⟨some 5, none, .tk (.t 44)⟩])
  (.ret)

def c_flotsamlaw17_spaced : AFunc :=
  { np := 2, res := [.t 4, .t 5], body := (
    .seq (.reg [⟨some 4, none, .tk (.c (.str []))⟩, ⟨some 5, none, .tk (.c (.own 1 []))⟩])
    (.seq (.reg [⟨some 6, none, .tk (.c (.str []))⟩])
    (.seq (.reg [⟨some 7, none, .tk (.c (.own 1 []))⟩])
    (.seq (.seq (.reg [⟨some 8, none, .tk (.c (.int .i64 0))⟩])
      (.block 0 (l_flotsamlaw17_spaced_0))) r_flotsamlaw17_spaced_0)))) }

-- flotsam/parse.Program
def c_parse_Program : AFunc :=
  { np := 1, res := [.cell 2 (some 4), .cell 3 (some 2)], body := (
    .seq (.reg [⟨some 2, none, .alloc [.own 2 [], .own 7 [], .own 7 [], .own 5 []]⟩, ⟨some 3, none, .alloc [.int .i64 0, .int .i64 0]⟩])
    (.seq (.reg [⟨some 9, none, .mv (.t 0)⟩, ⟨some 10, none, .callc n_lex_Words [(.t 9)]⟩, ⟨some 8, none, .mv (.t 10)⟩, ⟨some 11, none, .ext (.t 8) 0⟩, ⟨some 12, none, .ext (.t 8) 1⟩, ⟨some 5, none, .alloc [.int .i64 0, .int .i64 0]⟩, ⟨some 4, none, .tk (.t 11)⟩, ⟨none, none, .st 2 (.t 5) (.t 12)⟩])
    (.seq (.seq (.reg [⟨some 13, none, .ld (some 2) (.t 5)⟩, ⟨some 14, none, .bld [.int .i64 0, .int .i64 0] []⟩, ⟨some 15, none, .eqa true [.int .i64, .int .i64] (.t 13) (.t 14)⟩])
      (.cond (.t 15)
        (.seq (.drw [[], [], [], []] [⟨some 16, none, .bld [.sl 2 [], .sl 7 [], .sl 7 [], .sl 5 []] []⟩, ⟨some 17, none, .ldq (some 2) (.t 5) (.t 5)⟩, ⟨none, none, .stq 4 (.t 2) (.t 16) [(.t 5)]⟩, ⟨none, none, .st 2 (.t 3) (.t 17)⟩])
          (.ret))
        (.skip)))
    (.seq (.reg [⟨some 18, none, .mv (.t 4)⟩, ⟨some 19, none, .bld [.sl 4 [], .int .i64 0, .int .i64 0] [(0, 1, (.t 18))]⟩, ⟨some 20, none, .bld [.sl 4 [], .int .i64 0, .int .i64 0, .int .i64 0] [(0, 3, (.t 19))]⟩, ⟨some 21, none, .box (.t 20)⟩, ⟨some 6, none, .tk (.t 21)⟩])
    (.seq (.reg [⟨some 22, none, .mv (.t 6)⟩, ⟨some 23, none, .call n_pparse_parser_program [(.t 22)]⟩, ⟨some 7, none, .alloc [.own 2 [], .own 7 [], .own 7 [], .own 5 []]⟩, ⟨none, none, .st 4 (.t 7) (.t 23)⟩])
    (.seq (.seq (.reg [⟨some 24, none, .mv (.t 6)⟩, ⟨some 25, none, .nck (.t 24)⟩, ⟨some 26, none, .fa 0 (.t 25)⟩, ⟨some 27, none, .fa 1 (.t 26)⟩, ⟨some 28, none, .ld (some 2) (.t 27)⟩, ⟨some 29, none, .bld [.int .i64 0, .int .i64 0] []⟩, ⟨some 30, none, .eqa true [.int .i64, .int .i64] (.t 28) (.t 29)⟩])
      (.cond (.t 30)
        (.seq (.drw [[], [], [], [], [], [], [], []] [⟨some 31, none, .bld [.sl 2 [], .sl 7 [], .sl 7 [], .sl 5 []] []⟩, ⟨some 32, none, .mv (.t 6)⟩, ⟨some 33, none, .nck (.t 32)⟩, ⟨some 34, none, .fa 0 (.t 33)⟩, ⟨some 35, none, .fa 1 (.t 34)⟩, ⟨some 36, none, .ldq (some 2) (.t 35) (.t 6)⟩, ⟨none, none, .stq 4 (.t 2) (.t 31) [(.t 6)]⟩, ⟨none, none, .st 2 (.t 3) (.t 36)⟩])
          (.ret))
        (.skip)))
    (.seq (.reg [⟨some 37, none, .ld (some 4) (.t 7)⟩, ⟨some 38, none, .bld [.int .i64 0, .int .i64 0] []⟩, ⟨none, none, .st 4 (.t 2) (.t 37)⟩, ⟨none, none, .st 2 (.t 3) (.t 38)⟩])
    (.ret)))))))) }

-- flotsam/flotsamref16.Same
def b_flotsamref16_Same_0 : AC :=
  .seq (.seq (.reg [⟨some 39, none, .mv (.t 5)⟩, ⟨some 40, none, .fa 0 (.t 2)⟩, ⟨some 41, none, .ld none (.t 40)⟩, ⟨some 42, none, .len false (.t 41)⟩, ⟨some 43, none, .ic .lss (.t 39) (.t 42)⟩])
    (.cond (.t 43)
      (.skip)
      (.exit 0)))
  (.seq (.block 1 (.seq (.drw [[], [], [], [], [], [], [], [], [], [], [], [], [], [], [], [], [], [], [], [], [], [], [], [], [], [], [], [], []] [⟨some 46, none, .fa 0 (.t 2)⟩, ⟨some 47, none, .ld none (.t 46)⟩, ⟨some 48, none, .mv (.t 5)⟩, ⟨some 49, none, .ixa 2 none (.t 47) (.t 48)⟩, ⟨some 50, none, .fa 0 (.t 49)⟩, ⟨some 51, none, .ld none (.t 50)⟩, ⟨some 52, none, .fa 0 (.t 3)⟩, ⟨some 53, none, .ld none (.t 52)⟩, ⟨some 54, none, .mv (.t 5)⟩, ⟨some 55, none, .ixa 2 none (.t 53) (.t 54)⟩, ⟨some 56, none, .fa 0 (.t 55)⟩, ⟨some 57, none, .ld none (.t 56)⟩, ⟨some 58, none, .sop .neq (.t 51) (.t 57)⟩, ⟨some 59, none, .mv (.t 58)⟩, ⟨some 60, (some (59, false)), .fa 0 (.t 2)⟩, ⟨some 61, (some (59, false)), .ld none (.t 60)⟩, ⟨some 62, (some (59, false)), .mv (.t 5)⟩, ⟨some 63, (some (59, false)), .ixa 2 none (.t 61) (.t 62)⟩, ⟨some 64, (some (59, false)), .fa 1 (.t 63)⟩, ⟨some 65, (some (59, false)), .ld none (.t 64)⟩, ⟨some 66, (some (59, false)), .fa 0 (.t 3)⟩, ⟨some 67, (some (59, false)), .ld none (.t 66)⟩, ⟨some 68, (some (59, false)), .mv (.t 5)⟩, ⟨some 69, (some (59, false)), .ixa 2 none (.t 67) (.t 68)⟩, ⟨some 70, (some (59, false)), .fa 1 (.t 69)⟩, ⟨some 71, (some (59, false)), .ld none (.t 70)⟩, ⟨some 72, (some (59, false)), .callc n_flotsamref16_SameStmts [(.t 65), (.t 71)]⟩, ⟨some 73, (some (59, false)), .notb (.t 72)⟩, ⟨some 74, none, .pick (.t 59) (.c (.bool true)) (.t 73)⟩])
      (.cond (.t 74)
        (.seq (.reg [⟨some 4, none, .tk (.c (.bool false))⟩])
          (.ret))
        (.skip))))
  (.reg [⟨some 44, none, .mv (.t 5)⟩, ⟨some 45, none, .ia .add .i64 (.t 44) (.c (.int .i64 1))⟩, ⟨some 5, none, .tk (.t 45)⟩]))

def l_flotsamref16_Same_0 : AC :=
  .loop [2, 3, 5] b_flotsamref16_Same_0

def b_flotsamref16_Same_1 : AC :=
  .seq (.seq (.reg [⟨some 75, none, .mv (.t 6)⟩, ⟨some 76, none, .fa 3 (.t 2)⟩, ⟨some 77, none, .ld none (.t 76)⟩, ⟨some 78, none, .len false (.t 77)⟩, ⟨some 79, none, .ic .lss (.t 75) (.t 78)⟩])
    (.cond (.t 79)
      (.skip)
      (.exit 2)))
  (.seq (.block 3 (.seq (.drw [[], [], [], [], [], [], [], [], [], [], [], [], [], [], [], [], [], [], [], [], [], [], [], [], [], [], [], [], []] [⟨some 82, none, .fa 3 (.t 2)⟩, ⟨some 83, none, .ld none (.t 82)⟩, ⟨some 84, none, .mv (.t 6)⟩, ⟨some 85, none, .ixa 5 none (.t 83) (.t 84)⟩, ⟨some 86, none, .fa 0 (.t 85)⟩, ⟨some 87, none, .ld none (.t 86)⟩, ⟨some 88, none, .fa 3 (.t 3)⟩, ⟨some 89, none, .ld none (.t 88)⟩, ⟨some 90, none, .mv (.t 6)⟩, ⟨some 91, none, .ixa 5 none (.t 89) (.t 90)⟩, ⟨some 92, none, .fa 0 (.t 91)⟩, ⟨some 93, none, .ld none (.t 92)⟩, ⟨some 94, none, .sop .neq (.t 87) (.t 93)⟩, ⟨some 95, none, .mv (.t 94)⟩, ⟨some 96, (some (95, false)), .fa 3 (.t 2)⟩, ⟨some 97, (some (95, false)), .ld none (.t 96)⟩, ⟨some 98, (some (95, false)), .mv (.t 6)⟩, ⟨some 99, (some (95, false)), .ixa 5 none (.t 97) (.t 98)⟩, ⟨some 100, (some (95, false)), .fa 1 (.t 99)⟩, ⟨some 101, (some (95, false)), .ld (some 4) (.t 100)⟩, ⟨some 102, (some (95, false)), .fa 3 (.t 3)⟩, ⟨some 103, (some (95, false)), .ld none (.t 102)⟩, ⟨some 104, (some (95, false)), .mv (.t 6)⟩, ⟨some 105, (some (95, false)), .ixa 5 none (.t 103) (.t 104)⟩, ⟨some 106, (some (95, false)), .fa 1 (.t 105)⟩, ⟨some 107, (some (95, false)), .ld (some 4) (.t 106)⟩, ⟨some 108, (some (95, false)), .callc n_flotsamref16_SameExpr [(.t 101), (.t 107)]⟩, ⟨some 109, (some (95, false)), .notb (.t 108)⟩, ⟨some 110, none, .pick (.t 95) (.c (.bool true)) (.t 109)⟩])
      (.cond (.t 110)
        (.seq (.reg [⟨some 4, none, .tk (.c (.bool false))⟩])
          (.ret))
        (.skip))))
  (.reg [⟨some 80, none, .mv (.t 6)⟩, ⟨some 81, none, .ia .add .i64 (.t 80) (.c (.int .i64 1))⟩, ⟨some 6, none, .tk (.t 81)⟩]))

def l_flotsamref16_Same_1 : AC :=
  .loop [2, 3, 6] b_flotsamref16_Same_1

def r_flotsamref16_Same_0 : AC :=
  .seq (.reg [⟨some 4, none, .tk (.c (.bool true))⟩])
  (.ret)

def r_flotsamref16_Same_1 : AC :=
  .seq (.seq (.reg [⟨some 6, none, .tk (.c (.int .i64 0))⟩])
    (.block 2 (l_flotsamref16_Same_1))) r_flotsamref16_Same_0

def c_flotsamref16_Same : AFunc :=
  { np := 2, res := [.t 4], body := (
    .seq (.reg [⟨some 2, none, .box (.t 0)⟩, ⟨some 3, none, .box (.t 1)⟩, ⟨some 4, none, .tk (.c (.bool false))⟩])
    (.seq (.seq (.reg [⟨some 7, none, .fa 0 (.t 2)⟩, ⟨some 8, none, .ld none (.t 7)⟩, ⟨some 9, none, .len false (.t 8)⟩, ⟨some 10, none, .fa 0 (.t 3)⟩, ⟨some 11, none, .ld none (.t 10)⟩, ⟨some 12, none, .len false (.t 11)⟩, ⟨some 13, none, .ic .neq (.t 9) (.t 12)⟩, ⟨some 14, none, .mv (.t 13)⟩, ⟨some 15, (some (14, false)), .fa 3 (.t 2)⟩, ⟨some 16, (some (14, false)), .ld none (.t 15)⟩, ⟨some 17, (some (14, false)), .len false (.t 16)⟩, ⟨some 18, (some (14, false)), .fa 3 (.t 3)⟩, ⟨some 19, (some (14, false)), .ld none (.t 18)⟩, ⟨some 20, (some (14, false)), .len false (.t 19)⟩, ⟨some 21, (some (14, false)), .ic .neq (.t 17) (.t 20)⟩, ⟨some 22, none, .pick (.t 14) (.c (.bool true)) (.t 21)⟩, ⟨some 23, none, .mv (.t 22)⟩, ⟨some 24, (some (23, false)), .fa 1 (.t 2)⟩, ⟨some 25, (some (23, false)), .ld none (.t 24)⟩, ⟨some 26, (some (23, false)), .fa 1 (.t 3)⟩, ⟨some 27, (some (23, false)), .ld none (.t 26)⟩, ⟨some 28, (some (23, false)), .callc n_flotsamref16_SameStmts [(.t 25), (.t 27)]⟩, ⟨some 29, (some (23, false)), .notb (.t 28)⟩, ⟨some 30, none, .pick (.t 23) (.c (.bool true)) (.t 29)⟩, ⟨some 31, none, .mv (.t 30)⟩, ⟨some 32, (some (31, false)), .fa 2 (.t 2)⟩, ⟨some 33, (some (31, false)), .ld none (.t 32)⟩, ⟨some 34, (some (31, false)), .fa 2 (.t 3)⟩, ⟨some 35, (some (31, false)), .ld none (.t 34)⟩, ⟨some 36, (some (31, false)), .callc n_flotsamref16_SameStmts [(.t 33), (.t 35)]⟩, ⟨some 37, (some (31, false)), .notb (.t 36)⟩, ⟨some 38, none, .pick (.t 31) (.c (.bool true)) (.t 37)⟩])
      (.cond (.t 38)
        (.seq (.reg [⟨some 4, none, .tk (.c (.bool false))⟩])
          (.ret))
        (.skip)))
    (.seq (.seq (.reg [⟨some 5, none, .tk (.c (.int .i64 0))⟩])
      (.block 0 (l_flotsamref16_Same_0))) r_flotsamref16_Same_1))) }

-- flotsam/parse.Expr
def c_parse_Expr : AFunc :=
  { np := 1, res := [.cell 2 (some 4), .cell 3 (some 2)], body := (
    .seq (.reg [⟨some 2, none, .alloc [.int .i64 0, .int .i64 0, .str [], .own 4 []]⟩, ⟨some 3, none, .alloc [.int .i64 0, .int .i64 0]⟩])
    (.seq (.reg [⟨some 9, none, .mv (.t 0)⟩, ⟨some 10, none, .callc n_lex_Words [(.t 9)]⟩, ⟨some 8, none, .mv (.t 10)⟩, ⟨some 11, none, .ext (.t 8) 0⟩, ⟨some 12, none, .ext (.t 8) 1⟩, ⟨some 5, none, .alloc [.int .i64 0, .int .i64 0]⟩, ⟨some 4, none, .tk (.t 11)⟩, ⟨none, none, .st 2 (.t 5) (.t 12)⟩])
    (.seq (.seq (.reg [⟨some 13, none, .ld (some 2) (.t 5)⟩, ⟨some 14, none, .bld [.int .i64 0, .int .i64 0] []⟩, ⟨some 15, none, .eqa true [.int .i64, .int .i64] (.t 13) (.t 14)⟩])
      (.cond (.t 15)
        (.seq (.drw [[], [], [], []] [⟨some 16, none, .bld [.int .i64 0, .int .i64 0, .str [], .sl 4 []] []⟩, ⟨some 17, none, .ldq (some 2) (.t 5) (.t 5)⟩, ⟨none, none, .stq 4 (.t 2) (.t 16) [(.t 5)]⟩, ⟨none, none, .st 2 (.t 3) (.t 17)⟩])
          (.ret))
        (.skip)))
    (.seq (.reg [⟨some 18, none, .mv (.t 4)⟩, ⟨some 19, none, .bld [.sl 4 [], .int .i64 0, .int .i64 0] [(0, 1, (.t 18))]⟩, ⟨some 20, none, .bld [.sl 4 [], .int .i64 0, .int .i64 0, .int .i64 0] [(0, 3, (.t 19))]⟩, ⟨some 21, none, .box (.t 20)⟩, ⟨some 6, none, .tk (.t 21)⟩])
    (.seq (.reg [⟨some 22, none, .mv (.t 6)⟩, ⟨some 23, none, .call n_pparse_parser_whole [(.t 22), (.c (.str []))]⟩, ⟨some 7, none, .alloc [.int .i64 0, .int .i64 0, .str [], .own 4 []]⟩, ⟨none, none, .st 4 (.t 7) (.t 23)⟩])
    (.seq (.seq (.reg [⟨some 24, none, .mv (.t 6)⟩, ⟨some 25, none, .nck (.t 24)⟩, ⟨some 26, none, .fa 0 (.t 25)⟩, ⟨some 27, none, .fa 1 (.t 26)⟩, ⟨some 28, none, .ld (some 2) (.t 27)⟩, ⟨some 29, none, .bld [.int .i64 0, .int .i64 0] []⟩, ⟨some 30, none, .eqa true [.int .i64, .int .i64] (.t 28) (.t 29)⟩])
      (.cond (.t 30)
        (.seq (.drw [[], [], [], [], [], [], [], []] [⟨some 31, none, .bld [.int .i64 0, .int .i64 0, .str [], .sl 4 []] []⟩, ⟨some 32, none, .mv (.t 6)⟩, ⟨some 33, none, .nck (.t 32)⟩, ⟨some 34, none, .fa 0 (.t 33)⟩, ⟨some 35, none, .fa 1 (.t 34)⟩, ⟨some 36, none, .ldq (some 2) (.t 35) (.t 6)⟩, ⟨none, none, .stq 4 (.t 2) (.t 31) [(.t 6)]⟩, ⟨none, none, .st 2 (.t 3) (.t 36)⟩])
          (.ret))
        (.skip)))
    (.seq (.reg [⟨some 37, none, .ld (some 4) (.t 7)⟩, ⟨some 38, none, .bld [.int .i64 0, .int .i64 0] []⟩, ⟨none, none, .st 4 (.t 2) (.t 37)⟩, ⟨none, none, .st 2 (.t 3) (.t 38)⟩])
    (.ret)))))))) }

-- flotsam/flotsamlaw15.Fault
def c_flotsamlaw15_Fault : AFunc :=
  { np := 2, res := [.t 4], body := (
    .seq (.reg [⟨some 2, none, .box (.t 0)⟩, ⟨some 3, none, .box (.t 1)⟩, ⟨some 4, none, .tk (.c (.bool false))⟩])
    (.seq (.reg [⟨some 5, none, .fa 0 (.t 2)⟩, ⟨some 6, none, .ld none (.t 5)⟩, ⟨some 7, none, .fa 0 (.t 3)⟩, ⟨some 8, none, .ld none (.t 7)⟩, ⟨some 9, none, .ic .eql (.t 6) (.t 8)⟩, ⟨some 10, none, .mv (.t 9)⟩, ⟨some 11, (some (10, true)), .fa 1 (.t 2)⟩, ⟨some 12, (some (10, true)), .ld none (.t 11)⟩, ⟨some 13, (some (10, true)), .fa 1 (.t 3)⟩, ⟨some 14, (some (10, true)), .ld none (.t 13)⟩, ⟨some 15, (some (10, true)), .ic .eql (.t 12) (.t 14)⟩, ⟨some 16, none, .pick (.t 10) (.t 15) (.c (.bool false))⟩, ⟨some 4, none, .tk (.t 16)⟩])
    (.ret))) }

-- flotsam/lex.Show
def c_lex_Show : AFunc :=
  { np := 1, res := [.t 2, .t 3], body := (
    .seq (.reg [⟨some 1, none, .box (.t 0)⟩, ⟨some 2, none, .tk (.c (.str []))⟩, ⟨some 3, none, .tk (.c (.bool false))⟩])
    (.seq (.reg [⟨some 7, none, .fa 1 (.t 1)⟩, ⟨some 8, none, .ld none (.t 7)⟩, ⟨some 4, none, .tk (.t 8)⟩])
    (.seq (.seq (.reg [⟨some 9, none, .fa 0 (.t 1)⟩, ⟨some 10, none, .ld none (.t 9)⟩])
      (.block 0 (.seq (.reg [⟨some 12, none, .ic .eql (.t 10) (.c (.int .i64 2))⟩, ⟨some 11, none, .tk (.t 12)⟩])
        (.cond (.t 11)
          (.reg [⟨some 13, none, .fa 2 (.t 1)⟩, ⟨some 14, none, .ld none (.t 13)⟩, ⟨some 15, none, .callc n_num_Digits [(.t 14)]⟩, ⟨some 4, none, .tk (.t 15)⟩])
          (.seq (.reg [⟨some 17, none, .ic .eql (.t 10) (.c (.int .i64 3))⟩, ⟨some 16, none, .tk (.t 17)⟩])
            (.cond (.t 16)
              (.reg [⟨some 18, none, .fa 1 (.t 1)⟩, ⟨some 19, none, .ld none (.t 18)⟩, ⟨some 20, none, .callc n_view_Quote [(.t 19)]⟩, ⟨some 4, none, .tk (.t 20)⟩])
              (.skip)))))))
    (.seq (.reg [⟨some 22, none, .mv (.t 4)⟩, ⟨some 23, none, .callc n_lex_Words [(.t 22)]⟩, ⟨some 21, none, .mv (.t 23)⟩, ⟨some 24, none, .ext (.t 21) 0⟩, ⟨some 25, none, .ext (.t 21) 1⟩, ⟨some 6, none, .alloc [.int .i64 0, .int .i64 0]⟩, ⟨some 5, none, .tk (.t 24)⟩, ⟨none, none, .st 2 (.t 6) (.t 25)⟩])
    (.seq (.reg [⟨some 26, none, .fa 3 (.t 1)⟩, ⟨none, none, .st 1 (.t 26) (.c (.int .i64 0))⟩])
    (.seq (.seq (.reg [⟨some 27, none, .ld (some 2) (.t 6)⟩, ⟨some 28, none, .bld [.int .i64 0, .int .i64 0] []⟩, ⟨some 29, none, .eqa true [.int .i64, .int .i64] (.t 27) (.t 28)⟩, ⟨some 30, none, .mv (.t 29)⟩, ⟨some 31, (some (30, false)), .mv (.t 5)⟩, ⟨some 32, (some (30, false)), .ld (some 4) (.t 1)⟩, ⟨some 33, (some (30, false)), .mv (.t 4)⟩, ⟨some 34, (some (30, false)), .len true (.t 33)⟩, ⟨some 35, (some (30, false)), .bld [.int .i64 0, .str [], .int .i64 0, .int .i64 0] [(0, 1, (.c (.int .i64 0))), (3, 1, (.t 34))]⟩, ⟨some 36, (some (30, false)), .bsl 4 [.int .i64 0, .str [], .int .i64 0, .int .i64 0] 2 [(0, 4, (.t 32)), (4, 4, (.t 35))] false⟩, ⟨some 37, (some (30, false)), .callc n_slices_Equal_api_Word_api_Word [(.t 31), (.t 36)]⟩, ⟨some 38, (some (30, false)), .notb (.t 37)⟩, ⟨some 39, none, .pick (.t 30) (.c (.bool true)) (.t 38)⟩])
      (.cond (.t 39)
        (.seq (.reg [⟨some 2, none, .tk (.c (.str []))⟩, ⟨some 3, none, .tk (.c (.bool false))⟩])
          (.ret))
        (.skip)))
    (.seq (.reg [⟨some 40, none, .mv (.t 4)⟩, ⟨some 2, none, .tk (.t 40)⟩, ⟨some 3, none, .tk (.c (.bool true))⟩])
    (.ret)))))))) }

-- flotsam/lex.Words
def b_lex_Words_0 : AC :=
  .seq (.seq (.reg [⟨some 15, none, .mv (.t 5)⟩, ⟨some 16, none, .sop .neq (.t 15) (.c (.str []))⟩])
    (.cond (.t 16)
      (.skip)
      (.exit 0)))
  (.block 1 (.seq (.reg [⟨some 18, none, .mv (.t 5)⟩, ⟨some 19, none, .callc n_lex_next [(.t 18)]⟩, ⟨some 17, none, .mv (.t 19)⟩, ⟨some 20, none, .ext (.t 17) 0⟩, ⟨some 21, none, .ext (.t 17) 1⟩, ⟨some 22, none, .ext (.t 17) 2⟩, ⟨some 6, none, .alloc [.int .i64 0, .str [], .int .i64 0, .int .i64 0]⟩, ⟨none, none, .st 4 (.t 6) (.t 20)⟩, ⟨some 7, none, .tk (.t 21)⟩, ⟨some 8, none, .tk (.t 22)⟩])
    (.seq (.reg [⟨some 23, none, .mv (.t 0)⟩, ⟨some 24, none, .len true (.t 23)⟩, ⟨some 25, none, .mv (.t 5)⟩, ⟨some 26, none, .len true (.t 25)⟩, ⟨some 27, none, .ia .sub .i64 (.t 24) (.t 26)⟩, ⟨some 28, none, .fa 3 (.t 6)⟩, ⟨none, none, .st 1 (.t 28) (.t 27)⟩])
    (.seq (.seq (.reg [⟨some 29, none, .mv (.t 8)⟩, ⟨some 30, none, .ic .neq (.t 29) (.c (.int .i64 0))⟩])
      (.cond (.t 30)
        (.seq (.drw [[], [], [], [], [], []] [⟨some 31, none, .mv (.t 8)⟩, ⟨some 32, none, .fa 3 (.t 6)⟩, ⟨some 33, none, .ld none (.t 32)⟩, ⟨some 34, none, .bld [.int .i64 0, .int .i64 0] [(0, 1, (.t 31)), (1, 1, (.t 33))]⟩, ⟨some 2, none, .tk (.c (.own 4 []))⟩, ⟨none, none, .st 2 (.t 3) (.t 34)⟩])
          (.ret))
        (.skip)))
    (.seq (.reg [⟨some 35, none, .tk (.t 4)⟩, ⟨some 36, none, .ld (some 4) (.t 6)⟩, ⟨some 37, none, .bsl 4 [.int .i64 0, .str [], .int .i64 0, .int .i64 0] 1 [(0, 4, (.t 36))] false⟩, ⟨some 38, none, .app 4 40 (.t 35) (.t 37) false⟩, ⟨some 4, none, .tk (.t 38)⟩])
    (.reg [⟨some 39, none, .mv (.t 5)⟩, ⟨some 40, none, .mv (.t 7)⟩, ⟨some 41, none, .slc (.t 39) (some (.t 40)) none⟩, ⟨some 42, none, .callc n_lex_skip [(.t 41)]⟩, ⟨some 5, none, .tk (.t 42)⟩]))))))

def l_lex_Words_0 : AC :=
  .loop [0, 3, 4, 5] b_lex_Words_0

def r_lex_Words_0 : AC :=
  .seq (.reg [⟨some 43, none, .tk (.t 4)⟩, ⟨some 44, none, .mv (.t 0)⟩, ⟨some 45, none, .len true (.t 44)⟩, ⟨some 46, none, .bld [.int .i64 0, .str [], .int .i64 0, .int .i64 0] [(0, 1, (.c (.int .i64 0))), (3, 1, (.t 45))]⟩, ⟨some 47, none, .bsl 4 [.int .i64 0, .str [], .int .i64 0, .int .i64 0] 1 [(0, 4, (.t 46))] false⟩, ⟨some 48, none, .app 4 40 (.t 43) (.t 47) false⟩, ⟨some 49, none, .bld [.int .i64 0, .int .i64 0] []⟩, ⟨some 2, none, .tk (.t 48)⟩, ⟨none, none, .st 2 (.t 3) (.t 49)⟩])
  (.ret)

def c_lex_Words : AFunc :=
  { np := 1, res := [.t 2, .cell 3 (some 2)], body := (
    .seq (.reg [⟨some 2, none, .tk (.c (.own 4 []))⟩, ⟨some 3, none, .alloc [.int .i64 0, .int .i64 0]⟩])
    (.seq (.seq (.reg [⟨some 9, none, .mv (.t 0)⟩, ⟨some 10, none, .len true (.t 9)⟩, ⟨some 11, none, .ic .gtr (.t 10) (.c (.int .i64 4096))⟩])
      (.cond (.t 11)
        (.seq (.reg [⟨some 12, none, .bld [.int .i64 0, .int .i64 0] [(0, 1, (.c (.int .i64 14)))]⟩, ⟨some 2, none, .tk (.c (.own 4 []))⟩, ⟨none, none, .st 2 (.t 3) (.t 12)⟩])
          (.ret))
        (.skip)))
    (.seq (.reg [⟨some 4, none, .tk (.c (.own 4 []))⟩])
    (.seq (.seq (.reg [⟨some 13, none, .mv (.t 0)⟩, ⟨some 14, none, .callc n_lex_skip [(.t 13)]⟩, ⟨some 5, none, .tk (.t 14)⟩])
      (.block 0 (l_lex_Words_0))) r_lex_Words_0)))) }

-- (*flotsam/parse.parser).program
def b_pparse_parser_program_0 : AC :=
  .block 1 (.seq (.reg [⟨some 11, none, .mv (.t 0)⟩, ⟨some 12, none, .fa 0 (.t 3)⟩, ⟨some 13, none, .ld none (.t 12)⟩, ⟨some 14, none, .len false (.t 13)⟩, ⟨some 15, none, .call n_pparse_parser_named [(.t 11), (.c (.str [112, 114, 111, 99])), (.t 14)]⟩, ⟨some 10, none, .mv (.t 15)⟩, ⟨some 16, none, .ext (.t 10) 0⟩, ⟨some 17, none, .ext (.t 10) 1⟩, ⟨some 4, none, .tk (.t 16)⟩, ⟨some 5, none, .tk (.t 17)⟩])
    (.seq (.seq (.reg [⟨some 18, none, .mv (.t 5)⟩, ⟨some 19, none, .notb (.t 18)⟩])
      (.cond (.t 19)
        (.exit 0)
        (.skip)))
    (.drw [[], [], [], [], [], [], [], [], [], []] [⟨some 20, none, .fa 0 (.t 3)⟩, ⟨some 21, none, .ldoq (.t 20) (.t 3)⟩, ⟨some 22, none, .mv (.t 4)⟩, ⟨some 23, none, .mv (.t 0)⟩, ⟨some 24, none, .callh n_pparse_parser_block [(.t 23), (.c (.int .i64 1))] (.t 3)⟩, ⟨some 25, none, .bld [.str [], .sl 7 []] [(0, 1, (.t 22)), (1, 1, (.t 24))]⟩, ⟨some 26, none, .bsl 2 [.str [], .sl 7 []] 1 [(0, 2, (.t 25))] false⟩, ⟨some 27, none, .app 2 40 (.t 21) (.t 26) false⟩, ⟨some 28, none, .fa 0 (.t 3)⟩, ⟨none, none, .st 1 (.t 28) (.t 27)⟩])))

def l_pparse_parser_program_0 : AC :=
  .loop [0, 2, 3] b_pparse_parser_program_0

def b_pparse_parser_program_1 : AC :=
  .block 3 (.seq (.reg [⟨some 49, none, .mv (.t 0)⟩, ⟨some 50, none, .fa 3 (.t 3)⟩, ⟨some 51, none, .ld none (.t 50)⟩, ⟨some 52, none, .len false (.t 51)⟩, ⟨some 53, none, .call n_pparse_parser_named [(.t 49), (.c (.str [111, 114, 97, 99, 108, 101])), (.t 52)]⟩, ⟨some 48, none, .mv (.t 53)⟩, ⟨some 54, none, .ext (.t 48) 0⟩, ⟨some 55, none, .ext (.t 48) 1⟩, ⟨some 8, none, .tk (.t 54)⟩, ⟨some 9, none, .tk (.t 55)⟩])
    (.seq (.seq (.reg [⟨some 56, none, .mv (.t 9)⟩, ⟨some 57, none, .notb (.t 56)⟩])
      (.cond (.t 57)
        (.exit 2)
        (.skip)))
    (.seq (.reg [⟨some 58, none, .mv (.t 0)⟩, ⟨some 59, none, .nck (.t 58)⟩, ⟨some 60, none, .fa 0 (.t 59)⟩, ⟨some 61, none, .call n_pparse_words_wants [(.t 60), (.c (.str [58]))]⟩])
    (.seq (.drw [[], [], [], [], [], [], [], [], [], []] [⟨some 62, none, .fa 3 (.t 3)⟩, ⟨some 63, none, .ldoq (.t 62) (.t 3)⟩, ⟨some 64, none, .mv (.t 8)⟩, ⟨some 65, none, .mv (.t 0)⟩, ⟨some 66, none, .callh n_pparse_parser_whole [(.t 65), (.c (.str [59]))] (.t 3)⟩, ⟨some 67, none, .bld [.str [], .int .i64 0, .int .i64 0, .str [], .sl 4 []] [(0, 1, (.t 64)), (1, 4, (.t 66))]⟩, ⟨some 68, none, .bsl 5 [.str [], .int .i64 0, .int .i64 0, .str [], .sl 4 []] 1 [(0, 5, (.t 67))] false⟩, ⟨some 69, none, .app 5 72 (.t 63) (.t 68) false⟩, ⟨some 70, none, .fa 3 (.t 3)⟩, ⟨none, none, .st 1 (.t 70) (.t 69)⟩])
    (.reg [⟨some 71, none, .mv (.t 0)⟩, ⟨some 72, none, .nck (.t 71)⟩, ⟨some 73, none, .fa 0 (.t 72)⟩, ⟨some 74, none, .call n_pparse_words_wants [(.t 73), (.c (.str [59]))]⟩])))))

def l_pparse_parser_program_1 : AC :=
  .loop [0, 2, 3] b_pparse_parser_program_1

def r_pparse_parser_program_0 : AC :=
  .seq (.reg [⟨some 75, none, .mv (.t 0)⟩, ⟨some 76, none, .nck (.t 75)⟩, ⟨some 77, none, .fa 0 (.t 76)⟩, ⟨some 78, none, .call n_pparse_words_of [(.t 77), (.c (.int .i64 0))]⟩])
  (.seq (.reg [⟨some 79, none, .ld (some 4) (.t 3)⟩, ⟨none, none, .st 4 (.t 2) (.t 79)⟩])
  (.ret))

def r_pparse_parser_program_1 : AC :=
  .seq (.reg [⟨some 29, none, .mv (.t 0)⟩, ⟨some 30, none, .nck (.t 29)⟩, ⟨some 31, none, .fa 0 (.t 30)⟩, ⟨some 32, none, .call n_pparse_words_wants [(.t 31), (.c (.str [109, 97, 105, 110]))]⟩])
  (.seq (.reg [⟨some 33, none, .mv (.t 0)⟩, ⟨some 34, none, .call n_pparse_parser_block [(.t 33), (.c (.int .i64 1))]⟩, ⟨some 35, none, .fa 1 (.t 3)⟩, ⟨none, none, .st 1 (.t 35) (.t 34)⟩])
  (.seq (.seq (.reg [⟨some 37, none, .mv (.t 0)⟩, ⟨some 38, none, .nck (.t 37)⟩, ⟨some 39, none, .fa 0 (.t 38)⟩, ⟨some 40, none, .bsl 1 [.str []] 1 [(0, 1, (.c (.str [114, 101, 99, 111, 118, 101, 114])))] false⟩, ⟨some 41, none, .call n_pparse_words_takes [(.t 39), (.t 40)]⟩, ⟨some 36, none, .mv (.t 41)⟩, ⟨some 42, none, .ext (.t 36) 0⟩, ⟨some 43, none, .ext (.t 36) 1⟩, ⟨some 6, none, .tk (.t 42)⟩, ⟨some 7, none, .tk (.t 43)⟩])
    (.seq (.reg [⟨some 44, none, .mv (.t 7)⟩])
    (.cond (.t 44)
      (.reg [⟨some 45, none, .mv (.t 0)⟩, ⟨some 46, none, .call n_pparse_parser_block [(.t 45), (.c (.int .i64 1))]⟩, ⟨some 47, none, .fa 2 (.t 3)⟩, ⟨none, none, .st 1 (.t 47) (.t 46)⟩])
      (.skip))))
  (.seq (.block 2 (l_pparse_parser_program_1)) r_pparse_parser_program_0)))

def c_pparse_parser_program : AFunc :=
  { np := 1, res := [.cell 2 (some 4)], body := (
    .seq (.reg [⟨some 2, none, .alloc [.own 2 [], .own 7 [], .own 7 [], .own 5 []]⟩])
    (.seq (.reg [⟨some 3, none, .alloc [.own 2 [], .own 7 [], .own 7 [], .own 5 []]⟩])
    (.seq (.block 0 (l_pparse_parser_program_0)) r_pparse_parser_program_1))) }

-- flotsam/flotsamref16.SameStmts
def b_flotsamref16_SameStmts_0 : AC :=
  .seq (.seq (.reg [⟨some 11, none, .mv (.t 5)⟩, ⟨some 12, none, .mv (.t 0)⟩, ⟨some 13, none, .len false (.t 12)⟩, ⟨some 14, none, .ic .lss (.t 11) (.t 13)⟩])
    (.cond (.t 14)
      (.skip)
      (.exit 0)))
  (.seq (.block 1 (.seq (.drw [[], [], [], [], [], [], [], [], [], []] [⟨some 17, none, .mv (.t 0)⟩, ⟨some 18, none, .mv (.t 5)⟩, ⟨some 19, none, .ixa 7 none (.t 17) (.t 18)⟩, ⟨some 20, none, .ld (some 7) (.t 19)⟩, ⟨some 21, none, .mv (.t 1)⟩, ⟨some 22, none, .mv (.t 5)⟩, ⟨some 23, none, .ixa 7 none (.t 21) (.t 22)⟩, ⟨some 24, none, .ld (some 7) (.t 23)⟩, ⟨some 25, none, .callc n_flotsamref16_SameStmt [(.t 20), (.t 24)]⟩, ⟨some 26, none, .notb (.t 25)⟩])
      (.cond (.t 26)
        (.seq (.reg [⟨some 4, none, .tk (.c (.bool false))⟩])
          (.ret))
        (.skip))))
  (.reg [⟨some 15, none, .mv (.t 5)⟩, ⟨some 16, none, .ia .add .i64 (.t 15) (.c (.int .i64 1))⟩, ⟨some 5, none, .tk (.t 16)⟩]))

def l_flotsamref16_SameStmts_0 : AC :=
  .loop [0, 1, 5] b_flotsamref16_SameStmts_0

def r_flotsamref16_SameStmts_0 : AC :=
  .seq (.reg [⟨some 4, none, .tk (.c (.bool true))⟩])
  (.ret)

def c_flotsamref16_SameStmts : AFunc :=
  { np := 2, res := [.t 4], body := (
    .seq (.reg [⟨some 4, none, .tk (.c (.bool false))⟩])
    (.seq (.seq (.reg [⟨some 6, none, .mv (.t 0)⟩, ⟨some 7, none, .len false (.t 6)⟩, ⟨some 8, none, .mv (.t 1)⟩, ⟨some 9, none, .len false (.t 8)⟩, ⟨some 10, none, .ic .neq (.t 7) (.t 9)⟩])
      (.cond (.t 10)
        (.seq (.reg [⟨some 4, none, .tk (.c (.bool false))⟩])
          (.ret))
        (.skip)))
    (.seq (.seq (.reg [⟨some 5, none, .tk (.c (.int .i64 0))⟩])
      (.block 0 (l_flotsamref16_SameStmts_0))) r_flotsamref16_SameStmts_0))) }

-- flotsam/flotsamref16.SameExpr
def b_flotsamref16_SameExpr_0 : AC :=
  .seq (.seq (.reg [⟨some 34, none, .mv (.t 5)⟩, ⟨some 35, none, .fa 3 (.t 2)⟩, ⟨some 36, none, .ld none (.t 35)⟩, ⟨some 37, none, .len false (.t 36)⟩, ⟨some 38, none, .ic .lss (.t 34) (.t 37)⟩])
    (.cond (.t 38)
      (.skip)
      (.exit 0)))
  (.seq (.block 1 (.seq (.drw [[], [], [], [], [], [], [], [], [], [], [], []] [⟨some 41, none, .fa 3 (.t 2)⟩, ⟨some 42, none, .ld none (.t 41)⟩, ⟨some 43, none, .mv (.t 5)⟩, ⟨some 44, none, .ixa 4 none (.t 42) (.t 43)⟩, ⟨some 45, none, .ld (some 4) (.t 44)⟩, ⟨some 46, none, .fa 3 (.t 3)⟩, ⟨some 47, none, .ld none (.t 46)⟩, ⟨some 48, none, .mv (.t 5)⟩, ⟨some 49, none, .ixa 4 none (.t 47) (.t 48)⟩, ⟨some 50, none, .ld (some 4) (.t 49)⟩, ⟨some 51, none, .callc n_flotsamref16_SameExpr [(.t 45), (.t 50)]⟩, ⟨some 52, none, .notb (.t 51)⟩])
      (.cond (.t 52)
        (.seq (.reg [⟨some 4, none, .tk (.c (.bool false))⟩])
          (.ret))
        (.skip))))
  (.reg [⟨some 39, none, .mv (.t 5)⟩, ⟨some 40, none, .ia .add .i64 (.t 39) (.c (.int .i64 1))⟩, ⟨some 5, none, .tk (.t 40)⟩]))

def l_flotsamref16_SameExpr_0 : AC :=
  .loop [2, 3, 5] b_flotsamref16_SameExpr_0

def r_flotsamref16_SameExpr_0 : AC :=
  .seq (.reg [⟨some 4, none, .tk (.c (.bool true))⟩])
  (.ret)

def c_flotsamref16_SameExpr : AFunc :=
  { np := 2, res := [.t 4], body := (
    .seq (.reg [⟨some 2, none, .box (.t 0)⟩, ⟨some 3, none, .box (.t 1)⟩, ⟨some 4, none, .tk (.c (.bool false))⟩])
    (.seq (.seq (.reg [⟨some 6, none, .fa 0 (.t 2)⟩, ⟨some 7, none, .ld none (.t 6)⟩, ⟨some 8, none, .fa 0 (.t 3)⟩, ⟨some 9, none, .ld none (.t 8)⟩, ⟨some 10, none, .ic .neq (.t 7) (.t 9)⟩, ⟨some 11, none, .mv (.t 10)⟩, ⟨some 12, (some (11, false)), .fa 1 (.t 2)⟩, ⟨some 13, (some (11, false)), .ld none (.t 12)⟩, ⟨some 14, (some (11, false)), .fa 1 (.t 3)⟩, ⟨some 15, (some (11, false)), .ld none (.t 14)⟩, ⟨some 16, (some (11, false)), .ic .neq (.t 13) (.t 15)⟩, ⟨some 17, none, .pick (.t 11) (.c (.bool true)) (.t 16)⟩, ⟨some 18, none, .mv (.t 17)⟩, ⟨some 19, (some (18, false)), .fa 2 (.t 2)⟩, ⟨some 20, (some (18, false)), .ld none (.t 19)⟩, ⟨some 21, (some (18, false)), .fa 2 (.t 3)⟩, ⟨some 22, (some (18, false)), .ld none (.t 21)⟩, ⟨some 23, (some (18, false)), .sop .neq (.t 20) (.t 22)⟩, ⟨some 24, none, .pick (.t 18) (.c (.bool true)) (.t 23)⟩, ⟨some 25, none, .mv (.t 24)⟩, ⟨some 26, (some (25, false)), .fa 3 (.t 2)⟩, ⟨some 27, (some (25, false)), .ld none (.t 26)⟩, ⟨some 28, (some (25, false)), .len false (.t 27)⟩, ⟨some 29, (some (25, false)), .fa 3 (.t 3)⟩, ⟨some 30, (some (25, false)), .ld none (.t 29)⟩, ⟨some 31, (some (25, false)), .len false (.t 30)⟩, ⟨some 32, (some (25, false)), .ic .neq (.t 28) (.t 31)⟩, ⟨some 33, none, .pick (.t 25) (.c (.bool true)) (.t 32)⟩])
      (.cond (.t 33)
        (.seq (.reg [⟨some 4, none, .tk (.c (.bool false))⟩])
          (.ret))
        (.skip)))
    (.seq (.seq (.reg [⟨some 5, none, .tk (.c (.int .i64 0))⟩])
      (.block 0 (l_flotsamref16_SameExpr_0))) r_flotsamref16_SameExpr_0))) }

-- (*flotsam/parse.parser).whole
def c_pparse_parser_whole : AFunc :=
  { np := 2, res := [.cell 4 (some 4)], body := (
    .seq (.reg [⟨some 4, none, .alloc [.int .i64 0, .int .i64 0, .str [], .own 4 []]⟩])
    (.seq (.reg [⟨some 9, none, .mv (.t 0)⟩, ⟨some 10, none, .nck (.t 9)⟩, ⟨some 11, none, .fa 0 (.t 10)⟩, ⟨some 12, none, .call n_pparse_words_head [(.t 11)]⟩, ⟨some 5, none, .alloc [.int .i64 0, .str [], .int .i64 0, .int .i64 0]⟩, ⟨none, none, .st 4 (.t 5) (.t 12)⟩])
    (.seq (.reg [⟨some 13, none, .mv (.t 0)⟩, ⟨some 14, none, .call n_pparse_parser_expr [(.t 13)]⟩, ⟨some 6, none, .alloc [.int .i64 0, .int .i64 0, .str [], .own 4 []]⟩, ⟨none, none, .st 4 (.t 6) (.t 14)⟩])
    (.seq (.seq (.reg [⟨some 15, none, .mv (.t 0)⟩, ⟨some 16, none, .nck (.t 15)⟩, ⟨some 17, none, .fa 0 (.t 16)⟩, ⟨some 18, none, .fa 1 (.t 17)⟩, ⟨some 19, none, .ld (some 2) (.t 18)⟩, ⟨some 20, none, .bld [.int .i64 0, .int .i64 0] []⟩, ⟨some 21, none, .eqa true [.int .i64, .int .i64] (.t 19) (.t 20)⟩])
      (.cond (.t 21)
        (.seq (.reg [⟨some 22, none, .ld (some 4) (.t 6)⟩, ⟨none, none, .st 4 (.t 4) (.t 22)⟩])
          (.ret))
        (.skip)))
    (.seq (.reg [⟨some 24, none, .mv (.t 0)⟩, ⟨some 25, none, .nck (.t 24)⟩, ⟨some 26, none, .fa 0 (.t 25)⟩, ⟨some 27, none, .mv (.t 1)⟩, ⟨some 28, none, .bsl 1 [.str []] 1 [(0, 1, (.t 27))] false⟩, ⟨some 29, none, .call n_pparse_words_sees [(.t 26), (.t 28)]⟩, ⟨some 23, none, .mv (.t 29)⟩, ⟨some 30, none, .ext (.t 23) 0⟩, ⟨some 31, none, .ext (.t 23) 1⟩, ⟨some 7, none, .tk (.t 30)⟩, ⟨some 8, none, .tk (.t 31)⟩])
    (.seq (.block 0 (.seq (.reg [⟨some 33, none, .mv (.t 8)⟩, ⟨some 34, none, .notb (.t 33)⟩, ⟨some 35, none, .mv (.t 34)⟩, ⟨some 36, (some (35, true)), .mv (.t 1)⟩, ⟨some 37, (some (35, true)), .sop .eql (.t 36) (.c (.str []))⟩, ⟨some 38, (some (35, true)), .mv (.t 37)⟩, ⟨some 39, (some (38, true)), .mv (.t 0)⟩, ⟨some 40, (some (38, true)), .nck (.t 39)⟩, ⟨some 41, (some (38, true)), .fa 0 (.t 40)⟩, ⟨some 42, (some (38, true)), .call n_pparse_words_head [(.t 41)]⟩, ⟨some 43, (some (38, true)), .fld none 0 (.t 42)⟩, ⟨some 44, (some (38, true)), .ic .eql (.t 43) (.c (.int .i64 0))⟩, ⟨some 45, (some (35, true)), .pick (.t 38) (.t 44) (.c (.bool false))⟩, ⟨some 46, (some (35, true)), .notb (.t 45)⟩, ⟨some 47, none, .pick (.t 35) (.t 46) (.c (.bool false))⟩, ⟨some 32, none, .tk (.t 47)⟩])
        (.cond (.t 32)
          (.drw [[], [], [], [], [], [], [], []] [⟨some 48, none, .mv (.t 0)⟩, ⟨some 49, none, .nck (.t 48)⟩, ⟨some 50, none, .fa 0 (.t 49)⟩, ⟨some 51, none, .mv (.t 0)⟩, ⟨some 52, none, .nck (.t 51)⟩, ⟨some 53, none, .fa 0 (.t 52)⟩, ⟨some 54, none, .call n_pparse_words_head [(.t 53)]⟩, ⟨some 55, none, .call n_pparse_words_fail [(.t 50), (.c (.int .i64 12)), (.t 54)]⟩])
          (.seq (.reg [⟨some 57, none, .ld (some 4) (.t 6)⟩, ⟨some 58, none, .callc n_parse_deep [(.t 57)]⟩, ⟨some 59, none, .ic .gtr (.t 58) (.c (.int .i64 8))⟩, ⟨some 56, none, .tk (.t 59)⟩])
            (.cond (.t 56)
              (.drw [[], [], [], [], []] [⟨some 60, none, .mv (.t 0)⟩, ⟨some 61, none, .nck (.t 60)⟩, ⟨some 62, none, .fa 0 (.t 61)⟩, ⟨some 63, none, .ld (some 4) (.t 5)⟩, ⟨some 64, none, .call n_pparse_words_fail [(.t 62), (.c (.int .i64 14)), (.t 63)]⟩])
              (.skip))))))
    (.seq (.reg [⟨some 65, none, .ld (some 4) (.t 6)⟩, ⟨none, none, .st 4 (.t 4) (.t 65)⟩])
    (.ret)))))))) }

-- flotsam/num.Digits
def b_num_Digits_0 : AC :=
  .block 1 (.seq (.reg [⟨some 12, none, .mv (.t 4)⟩, ⟨some 13, none, .ia .sub .i64 (.t 12) (.c (.int .i64 1))⟩, ⟨some 4, none, .tk (.t 13)⟩])
    (.seq (.reg [⟨some 14, none, .mv (.t 4)⟩, ⟨some 15, none, .mv (.t 5)⟩, ⟨some 16, none, .ia .rem .u64 (.t 15) (.c (.int .u64 10))⟩, ⟨some 17, none, .ia .add .u64 (.c (.int .u64 48)) (.t 16)⟩, ⟨some 18, none, .conv .u8 (.t 17)⟩, ⟨some 19, none, .ixa 1 (some 20) (.t 3) (.t 14)⟩, ⟨none, none, .st 1 (.t 19) (.t 18)⟩])
    (.seq (.reg [⟨some 20, none, .mv (.t 5)⟩, ⟨some 21, none, .ia .quo .u64 (.t 20) (.c (.int .u64 10))⟩, ⟨some 5, none, .tk (.t 21)⟩])
    (.seq (.reg [⟨some 22, none, .mv (.t 5)⟩, ⟨some 23, none, .ic .eql (.t 22) (.c (.int .u64 0))⟩])
    (.cond (.t 23)
      (.exit 0)
      (.skip))))))

def l_num_Digits_0 : AC :=
  .loop [0, 3, 4, 5] b_num_Digits_0

def r_num_Digits_0 : AC :=
  .seq (.seq (.reg [⟨some 24, none, .mv (.t 0)⟩, ⟨some 25, none, .ic .lss (.t 24) (.c (.int .i64 0))⟩])
    (.cond (.t 25)
      (.seq (.reg [⟨some 26, none, .mv (.t 4)⟩, ⟨some 27, none, .ia .sub .i64 (.t 26) (.c (.int .i64 1))⟩, ⟨some 4, none, .tk (.t 27)⟩])
        (.reg [⟨some 28, none, .mv (.t 4)⟩, ⟨some 29, none, .ixa 1 (some 20) (.t 3) (.t 28)⟩, ⟨none, none, .st 1 (.t 29) (.c (.int .u8 45))⟩]))
      (.skip)))
  (.seq (.reg [⟨some 30, none, .mv (.t 4)⟩, ⟨some 31, none, .slp 1 20 (.t 3) (some (.t 30)) none none⟩, ⟨some 32, none, .b2s (.t 31)⟩, ⟨some 2, none, .tk (.t 32)⟩])
  (.ret))

def c_num_Digits : AFunc :=
  { np := 1, res := [.t 2], body := (
    .seq (.reg [⟨some 2, none, .tk (.c (.str []))⟩])
    (.seq (.reg [⟨some 3, none, .alloc [.int .u8 0, .int .u8 0, .int .u8 0, .int .u8 0, .int .u8 0, .int .u8 0, .int .u8 0, .int .u8 0, .int .u8 0, .int .u8 0, .int .u8 0, .int .u8 0, .int .u8 0, .int .u8 0, .int .u8 0, .int .u8 0, .int .u8 0, .int .u8 0, .int .u8 0, .int .u8 0]⟩])
    (.seq (.reg [⟨some 4, none, .tk (.c (.int .i64 20))⟩])
    (.seq (.reg [⟨some 6, none, .mv (.t 0)⟩, ⟨some 7, none, .conv .u64 (.t 6)⟩, ⟨some 5, none, .tk (.t 7)⟩])
    (.seq (.seq (.reg [⟨some 8, none, .mv (.t 0)⟩, ⟨some 9, none, .ic .lss (.t 8) (.c (.int .i64 0))⟩])
      (.cond (.t 9)
        (.reg [⟨some 10, none, .mv (.t 5)⟩, ⟨some 11, none, .neg .u64 (.t 10)⟩, ⟨some 5, none, .tk (.t 11)⟩])
        (.skip)))
    (.seq (.block 0 (l_num_Digits_0)) r_num_Digits_0)))))) }

-- flotsam/view.Quote
def b_view_Quote_0 : AC :=
  .seq (.reg [⟨some 11, none, .ic .lss (.t 10) (.t 9)⟩])
  (.seq (.cond (.t 11)
      (.skip)
      (.exit 0))
  (.seq (.block 1 (.seq (.reg [⟨some 12, none, .ixa 1 none (.t 8) (.t 10)⟩, ⟨some 13, none, .ld none (.t 12)⟩, ⟨some 5, none, .tk (.t 13)⟩])
      (.seq (.seq (.reg [⟨some 14, none, .mv (.t 5)⟩, ⟨some 15, none, .callc n_view_plain [(.t 14)]⟩])
        (.cond (.t 15)
          (.seq (.reg [⟨some 16, none, .mv (.t 5)⟩, ⟨some 17, none, .call n_pstrings_Builder_WriteByte [(.t 3), (.t 16)]⟩])
            (.exit 1))
          (.skip)))
      (.seq (.reg [⟨some 18, none, .call n_pstrings_Builder_WriteByte [(.t 3), (.c (.int .u8 92))]⟩])
      (.seq (.reg [⟨some 19, none, .mv (.t 5)⟩, ⟨some 20, none, .ia .shr .u8 (.t 19) (.c (.int .u64 4))⟩, ⟨some 21, none, .ixs (.c (.str [48, 49, 50, 51, 52, 53, 54, 55, 56, 57, 97, 98, 99, 100, 101, 102])) (.t 20)⟩, ⟨some 22, none, .call n_pstrings_Builder_WriteByte [(.t 3), (.t 21)]⟩])
      (.reg [⟨some 23, none, .mv (.t 5)⟩, ⟨some 24, none, .ia .and .u8 (.t 23) (.c (.int .u8 15))⟩, ⟨some 25, none, .ixs (.c (.str [48, 49, 50, 51, 52, 53, 54, 55, 56, 57, 97, 98, 99, 100, 101, 102])) (.t 24)⟩, ⟨some 26, none, .call n_pstrings_Builder_WriteByte [(.t 3), (.t 25)]⟩]))))))
  (.reg [⟨some 27, none, .ia .add .i64 (.t 10) (.c (.int .i64 1))⟩, ⟨some 10, none, .mv (.t 27)⟩])))

def l_view_Quote_0 : AC :=
  .loop [3, 8, 9, 10] b_view_Quote_0

def r_view_Quote_0 : AC :=
  .seq (.reg [⟨some 28, none, .call n_pstrings_Builder_WriteByte [(.t 3), (.c (.int .u8 34))]⟩])
  (.seq (.reg [⟨some 29, none, .call n_pstrings_Builder_String [(.t 3)]⟩, ⟨some 2, none, .tk (.t 29)⟩])
  (.ret))

def c_view_Quote : AFunc :=
  { np := 1, res := [.t 2], body := (
    .seq (.reg [⟨some 2, none, .tk (.c (.str []))⟩])
    (.seq (.reg [⟨some 3, none, .allocb bT bE⟩])
    (.seq (.reg [⟨some 6, none, .call n_pstrings_Builder_WriteByte [(.t 3), (.c (.int .u8 34))]⟩])
    (.seq (.seq (.reg [⟨some 7, none, .mv (.t 0)⟩, ⟨some 8, none, .s2b (.t 7)⟩, ⟨some 9, none, .len false (.t 8)⟩, ⟨some 10, none, .mv (.c (.int .i64 0))⟩])
      (.block 0 (l_view_Quote_0))) r_view_Quote_0)))) }

-- slices.Equal[[]flotsam/api.Word,flotsam/api.Word]
def b_slices_Equal_api_Word_api_Word_0 : AC :=
  .seq (.reg [⟨some 14, none, .ic .lss (.t 13) (.t 12)⟩])
  (.seq (.cond (.t 14)
      (.skip)
      (.exit 0))
  (.seq (.block 1 (.seq (.reg [⟨some 15, none, .mv (.t 13)⟩, ⟨some 5, none, .tk (.t 15)⟩])
      (.seq (.drw [[], [], [], [], [], [], [], [], []] [⟨some 16, none, .mv (.t 0)⟩, ⟨some 17, none, .mv (.t 5)⟩, ⟨some 18, none, .ixa 4 none (.t 16) (.t 17)⟩, ⟨some 19, none, .ld (some 4) (.t 18)⟩, ⟨some 20, none, .mv (.t 1)⟩, ⟨some 21, none, .mv (.t 5)⟩, ⟨some 22, none, .ixa 4 none (.t 20) (.t 21)⟩, ⟨some 23, none, .ld (some 4) (.t 22)⟩, ⟨some 24, none, .eqa true [.int .i64, .str, .int .i64, .int .i64] (.t 19) (.t 23)⟩])
      (.cond (.t 24)
        (.seq (.reg [⟨some 4, none, .tk (.c (.bool false))⟩])
          (.ret))
        (.skip)))))
  (.reg [⟨some 25, none, .ia .add .i64 (.t 13) (.c (.int .i64 1))⟩, ⟨some 13, none, .mv (.t 25)⟩])))

def l_slices_Equal_api_Word_api_Word_0 : AC :=
  .loop [0, 1, 12, 13] b_slices_Equal_api_Word_api_Word_0

def r_slices_Equal_api_Word_api_Word_0 : AC :=
  .seq (.reg [⟨some 4, none, .tk (.c (.bool true))⟩])
  (.ret)

def c_slices_Equal_api_Word_api_Word : AFunc :=
  { np := 2, res := [.t 4], body := (
    .seq (.reg [⟨some 4, none, .tk (.c (.bool false))⟩])
    (.seq (.seq (.reg [⟨some 6, none, .mv (.t 0)⟩, ⟨some 7, none, .len false (.t 6)⟩, ⟨some 8, none, .mv (.t 1)⟩, ⟨some 9, none, .len false (.t 8)⟩, ⟨some 10, none, .ic .neq (.t 7) (.t 9)⟩])
      (.cond (.t 10)
        (.seq (.reg [⟨some 4, none, .tk (.c (.bool false))⟩])
          (.ret))
        (.skip)))
    (.seq (.seq (.reg [⟨some 11, none, .mv (.t 0)⟩, ⟨some 12, none, .len false (.t 11)⟩, ⟨some 13, none, .mv (.c (.int .i64 0))⟩])
      (.block 0 (l_slices_Equal_api_Word_api_Word_0))) r_slices_Equal_api_Word_api_Word_0))) }

-- flotsam/lex.skip
def b_lex_skip_0 : AC :=
  .block 1 (.seq (.reg [⟨some 4, none, .mv (.t 0)⟩, ⟨some 5, none, .callc n_strings_TrimLeft [(.t 4), (.c (.str [32, 9, 10]))]⟩, ⟨some 0, none, .tk (.t 5)⟩])
    (.seq (.seq (.reg [⟨some 6, none, .mv (.t 0)⟩, ⟨some 7, none, .callc n_strings_HasPrefix [(.t 6), (.c (.str [35]))]⟩, ⟨some 8, none, .notb (.t 7)⟩])
      (.cond (.t 8)
        (.seq (.reg [⟨some 9, none, .mv (.t 0)⟩, ⟨some 2, none, .tk (.t 9)⟩])
          (.ret))
        (.skip)))
    (.seq (.reg [⟨some 10, none, .mv (.t 0)⟩, ⟨some 11, none, .callc n_strings_IndexByte [(.t 10), (.c (.int .u8 10))]⟩, ⟨some 3, none, .tk (.t 11)⟩])
    (.seq (.seq (.reg [⟨some 12, none, .mv (.t 3)⟩, ⟨some 13, none, .ic .lss (.t 12) (.c (.int .i64 0))⟩])
      (.cond (.t 13)
        (.seq (.reg [⟨some 2, none, .tk (.c (.str []))⟩])
          (.ret))
        (.skip)))
    (.reg [⟨some 14, none, .mv (.t 0)⟩, ⟨some 15, none, .mv (.t 3)⟩, ⟨some 16, none, .slc (.t 14) (some (.t 15)) none⟩, ⟨some 0, none, .tk (.t 16)⟩])))))

def l_lex_skip_0 : AC :=
  .loop [0] b_lex_skip_0

def c_lex_skip : AFunc :=
  { np := 1, res := [.t 2], body := (
    .seq (.reg [⟨some 2, none, .tk (.c (.str []))⟩])
    (.block 0 (l_lex_skip_0))) }

-- flotsam/lex.next
def c_lex_next : AFunc :=
  { np := 1, res := [.cell 2 (some 4), .t 3, .t 4], body := (
    .seq (.reg [⟨some 2, none, .alloc [.int .i64 0, .str [], .int .i64 0, .int .i64 0]⟩, ⟨some 3, none, .tk (.c (.int .i64 0))⟩, ⟨some 4, none, .tk (.c (.int .i64 0))⟩])
    (.seq (.block 0 (.seq (.reg [⟨some 6, none, .mv (.t 0)⟩, ⟨some 7, none, .callc n_lex_begins [(.t 6), (.c (.fn (.func n_lex_letter) [] []))]⟩, ⟨some 5, none, .tk (.t 7)⟩])
        (.cond (.t 5)
          (.seq (.reg [⟨some 8, none, .mv (.t 0)⟩, ⟨some 9, none, .callc n_lex_word [(.t 8)]⟩, ⟨some 10, none, .ext (.t 9) 0⟩, ⟨some 11, none, .ext (.t 9) 1⟩, ⟨some 12, none, .ext (.t 9) 2⟩, ⟨none, none, .st 4 (.t 2) (.t 10)⟩, ⟨some 3, none, .tk (.t 11)⟩, ⟨some 4, none, .tk (.t 12)⟩])
            (.ret))
          (.seq (.reg [⟨some 14, none, .mv (.t 0)⟩, ⟨some 15, none, .callc n_lex_begins [(.t 14), (.c (.fn (.func n_lex_digit) [] []))]⟩, ⟨some 13, none, .tk (.t 15)⟩])
            (.cond (.t 13)
              (.seq (.reg [⟨some 16, none, .mv (.t 0)⟩, ⟨some 17, none, .callc n_lex_number [(.t 16)]⟩, ⟨some 18, none, .ext (.t 17) 0⟩, ⟨some 19, none, .ext (.t 17) 1⟩, ⟨some 20, none, .ext (.t 17) 2⟩, ⟨none, none, .st 4 (.t 2) (.t 18)⟩, ⟨some 3, none, .tk (.t 19)⟩, ⟨some 4, none, .tk (.t 20)⟩])
                (.ret))
              (.seq (.reg [⟨some 22, none, .mv (.t 0)⟩, ⟨some 23, none, .ixs (.t 22) (.c (.int .i64 0))⟩, ⟨some 24, none, .ic .eql (.t 23) (.c (.int .u8 34))⟩, ⟨some 21, none, .tk (.t 24)⟩])
                (.cond (.t 21)
                  (.seq (.reg [⟨some 25, none, .mv (.t 0)⟩, ⟨some 26, none, .callc n_lex_text [(.t 25)]⟩, ⟨some 27, none, .ext (.t 26) 0⟩, ⟨some 28, none, .ext (.t 26) 1⟩, ⟨some 29, none, .ext (.t 26) 2⟩, ⟨none, none, .st 4 (.t 2) (.t 27)⟩, ⟨some 3, none, .tk (.t 28)⟩, ⟨some 4, none, .tk (.t 29)⟩])
                    (.ret))
                  (.skip))))))))
    (.seq (.reg [⟨some 30, none, .mv (.t 0)⟩, ⟨some 31, none, .callc n_lex_sign [(.t 30)]⟩, ⟨some 32, none, .ext (.t 31) 0⟩, ⟨some 33, none, .ext (.t 31) 1⟩, ⟨some 34, none, .ext (.t 31) 2⟩, ⟨none, none, .st 4 (.t 2) (.t 32)⟩, ⟨some 3, none, .tk (.t 33)⟩, ⟨some 4, none, .tk (.t 34)⟩])
    (.ret)))) }

-- (*flotsam/parse.parser).named
def c_pparse_parser_named : AFunc :=
  { np := 3, res := [.t 6, .t 7], body := (
    .seq (.reg [⟨some 6, none, .tk (.c (.str []))⟩, ⟨some 7, none, .tk (.c (.bool false))⟩])
    (.seq (.reg [⟨some 11, none, .mv (.t 0)⟩, ⟨some 12, none, .nck (.t 11)⟩, ⟨some 13, none, .fa 0 (.t 12)⟩, ⟨some 14, none, .call n_pparse_words_head [(.t 13)]⟩, ⟨some 8, none, .alloc [.int .i64 0, .str [], .int .i64 0, .int .i64 0]⟩, ⟨none, none, .st 4 (.t 8) (.t 14)⟩])
    (.seq (.seq (.reg [⟨some 16, none, .mv (.t 0)⟩, ⟨some 17, none, .nck (.t 16)⟩, ⟨some 18, none, .fa 0 (.t 17)⟩, ⟨some 19, none, .mv (.t 1)⟩, ⟨some 20, none, .bsl 1 [.str []] 1 [(0, 1, (.t 19))] false⟩, ⟨some 21, none, .call n_pparse_words_takes [(.t 18), (.t 20)]⟩, ⟨some 15, none, .mv (.t 21)⟩, ⟨some 22, none, .ext (.t 15) 0⟩, ⟨some 23, none, .ext (.t 15) 1⟩, ⟨some 9, none, .tk (.t 22)⟩, ⟨some 10, none, .tk (.t 23)⟩])
      (.seq (.reg [⟨some 24, none, .mv (.t 10)⟩, ⟨some 25, none, .notb (.t 24)⟩])
      (.cond (.t 25)
        (.seq (.reg [⟨some 6, none, .tk (.c (.str []))⟩, ⟨some 7, none, .tk (.c (.bool false))⟩])
          (.ret))
        (.skip))))
    (.seq (.seq (.reg [⟨some 26, none, .mv (.t 2)⟩, ⟨some 27, none, .ic .eql (.t 26) (.c (.int .i64 16))⟩])
      (.cond (.t 27)
        (.drw [[], [], [], [], []] [⟨some 28, none, .mv (.t 0)⟩, ⟨some 29, none, .nck (.t 28)⟩, ⟨some 30, none, .fa 0 (.t 29)⟩, ⟨some 31, none, .ld (some 4) (.t 8)⟩, ⟨some 32, none, .call n_pparse_words_fail [(.t 30), (.c (.int .i64 14)), (.t 31)]⟩])
        (.skip)))
    (.seq (.reg [⟨some 33, none, .mv (.t 0)⟩, ⟨some 34, none, .nck (.t 33)⟩, ⟨some 35, none, .fa 0 (.t 34)⟩, ⟨some 36, none, .call n_pparse_words_of [(.t 35), (.c (.int .i64 1))]⟩, ⟨some 37, none, .fld none 1 (.t 36)⟩, ⟨some 6, none, .tk (.t 37)⟩, ⟨some 7, none, .tk (.c (.bool true))⟩])
    (.ret)))))) }

-- (*flotsam/parse.parser).block
def b_pparse_parser_block_0 : AC :=
  .seq (.seq (.reg [⟨some 12, none, .mv (.t 0)⟩, ⟨some 13, none, .nck (.t 12)⟩, ⟨some 14, none, .fa 0 (.t 13)⟩, ⟨some 15, none, .fa 1 (.t 14)⟩, ⟨some 16, none, .ld (some 2) (.t 15)⟩, ⟨some 17, none, .bld [.int .i64 0, .int .i64 0] []⟩, ⟨some 18, none, .eqa false [.int .i64, .int .i64] (.t 16) (.t 17)⟩])
    (.cond (.t 18)
      (.skip)
      (.exit 0)))
  (.block 1 (.seq (.seq (.reg [⟨some 20, none, .mv (.t 0)⟩, ⟨some 21, none, .nck (.t 20)⟩, ⟨some 22, none, .fa 0 (.t 21)⟩, ⟨some 23, none, .bsl 1 [.str []] 1 [(0, 1, (.c (.str [125])))] false⟩, ⟨some 24, none, .call n_pparse_words_takes [(.t 22), (.t 23)]⟩, ⟨some 19, none, .mv (.t 24)⟩, ⟨some 25, none, .ext (.t 19) 0⟩, ⟨some 26, none, .ext (.t 19) 1⟩, ⟨some 6, none, .tk (.t 25)⟩, ⟨some 7, none, .tk (.t 26)⟩])
      (.seq (.reg [⟨some 27, none, .mv (.t 7)⟩])
      (.cond (.t 27)
        (.exit 0)
        (.skip))))
    (.reg [⟨some 28, none, .tk (.t 5)⟩, ⟨some 29, none, .mv (.t 0)⟩, ⟨some 30, none, .mv (.t 1)⟩, ⟨some 31, none, .call n_pparse_parser_stmt [(.t 29), (.t 30)]⟩, ⟨some 32, none, .bsl 7 [.int .i64 0, .str [], .int .i64 0, .sl 4 [], .sl 7 [], .sl 7 [], .bool false] 1 [(0, 7, (.t 31))] false⟩, ⟨some 33, none, .app 7 112 (.t 28) (.t 32) false⟩, ⟨some 5, none, .tk (.t 33)⟩])))

def l_pparse_parser_block_0 : AC :=
  .loop [0, 1, 5] b_pparse_parser_block_0

def r_pparse_parser_block_0 : AC :=
  .seq (.reg [⟨some 34, none, .tk (.t 5)⟩, ⟨some 4, none, .tk (.t 34)⟩])
  (.ret)

def c_pparse_parser_block : AFunc :=
  { np := 2, res := [.t 4], body := (
    .seq (.reg [⟨some 4, none, .tk (.c (.own 7 []))⟩])
    (.seq (.reg [⟨some 5, none, .tk (.c (.own 7 []))⟩])
    (.seq (.reg [⟨some 8, none, .mv (.t 0)⟩, ⟨some 9, none, .nck (.t 8)⟩, ⟨some 10, none, .fa 0 (.t 9)⟩, ⟨some 11, none, .call n_pparse_words_wants [(.t 10), (.c (.str [123]))]⟩])
    (.seq (.block 0 (l_pparse_parser_block_0)) r_pparse_parser_block_0)))) }

-- (*flotsam/parse.words).wants
def c_pparse_words_wants : AFunc :=
  { np := 2, res := [], body := (
    .seq (.reg [⟨some 7, none, .mv (.t 0)⟩, ⟨some 8, none, .mv (.t 1)⟩, ⟨some 9, none, .bsl 1 [.str []] 1 [(0, 1, (.t 8))] false⟩, ⟨some 10, none, .call n_pparse_words_takes [(.t 7), (.t 9)]⟩, ⟨some 6, none, .mv (.t 10)⟩, ⟨some 11, none, .ext (.t 6) 0⟩, ⟨some 12, none, .ext (.t 6) 1⟩, ⟨some 4, none, .tk (.t 11)⟩, ⟨some 5, none, .tk (.t 12)⟩])
    (.seq (.reg [⟨some 13, none, .mv (.t 5)⟩, ⟨some 14, none, .notb (.t 13)⟩])
    (.cond (.t 14)
      (.reg [⟨some 15, none, .mv (.t 0)⟩, ⟨some 16, none, .mv (.t 0)⟩, ⟨some 17, none, .call n_pparse_words_head [(.t 16)]⟩, ⟨some 18, none, .call n_pparse_words_fail [(.t 15), (.c (.int .i64 12)), (.t 17)]⟩])
      (.skip)))) }

-- (*flotsam/parse.words).takes
def c_pparse_words_takes : AFunc :=
  { np := 2, res := [.t 4, .t 5], body := (
    .seq (.reg [⟨some 4, none, .tk (.c (.str []))⟩, ⟨some 5, none, .tk (.c (.bool false))⟩])
    (.seq (.reg [⟨some 9, none, .mv (.t 0)⟩, ⟨some 10, none, .mv (.t 1)⟩, ⟨some 11, none, .call n_pparse_words_sees [(.t 9), (.t 10)]⟩, ⟨some 8, none, .mv (.t 11)⟩, ⟨some 12, none, .ext (.t 8) 0⟩, ⟨some 13, none, .ext (.t 8) 1⟩, ⟨some 6, none, .tk (.t 12)⟩, ⟨some 7, none, .tk (.t 13)⟩])
    (.seq (.seq (.reg [⟨some 14, none, .mv (.t 7)⟩])
      (.cond (.t 14)
        (.reg [⟨some 15, none, .mv (.t 0)⟩, ⟨some 16, none, .call n_pparse_words_skip [(.t 15)]⟩])
        (.skip)))
    (.seq (.reg [⟨some 17, none, .mv (.t 6)⟩, ⟨some 18, none, .mv (.t 7)⟩, ⟨some 4, none, .tk (.t 17)⟩, ⟨some 5, none, .tk (.t 18)⟩])
    (.ret))))) }

-- (*flotsam/parse.words).of
def c_pparse_words_of : AFunc :=
  { np := 2, res := [.cell 4 (some 4)], body := (
    .seq (.reg [⟨some 4, none, .alloc [.int .i64 0, .str [], .int .i64 0, .int .i64 0]⟩])
    (.seq (.seq (.reg [⟨some 6, none, .mv (.t 0)⟩, ⟨some 7, none, .call n_pparse_words_head [(.t 6)]⟩, ⟨some 5, none, .alloc [.int .i64 0, .str [], .int .i64 0, .int .i64 0]⟩, ⟨none, none, .st 4 (.t 5) (.t 7)⟩])
      (.seq (.reg [⟨some 8, none, .fa 0 (.t 5)⟩, ⟨some 9, none, .ld none (.t 8)⟩, ⟨some 10, none, .mv (.t 1)⟩, ⟨some 11, none, .ic .neq (.t 9) (.t 10)⟩])
      (.cond (.t 11)
        (.seq (.reg [⟨some 12, none, .mv (.t 0)⟩, ⟨some 13, none, .ld (some 4) (.t 5)⟩, ⟨some 14, none, .call n_pparse_words_fail [(.t 12), (.c (.int .i64 12)), (.t 13)]⟩])
          (.seq (.reg [⟨some 15, none, .bld [.int .i64 0, .str [], .int .i64 0, .int .i64 0] []⟩, ⟨none, none, .st 4 (.t 4) (.t 15)⟩])
          (.ret)))
        (.skip))))
    (.seq (.reg [⟨some 16, none, .mv (.t 0)⟩, ⟨some 17, none, .call n_pparse_words_skip [(.t 16)]⟩, ⟨none, none, .st 4 (.t 4) (.t 17)⟩])
    (.ret)))) }

-- flotsam/flotsamref16.SameStmt
def b_flotsamref16_SameStmt_0 : AC :=
  .seq (.seq (.reg [⟨some 41, none, .mv (.t 5)⟩, ⟨some 42, none, .fa 3 (.t 2)⟩, ⟨some 43, none, .ld none (.t 42)⟩, ⟨some 44, none, .len false (.t 43)⟩, ⟨some 45, none, .ic .lss (.t 41) (.t 44)⟩])
    (.cond (.t 45)
      (.skip)
      (.exit 0)))
  (.seq (.block 1 (.seq (.drw [[], [], [], [], [], [], [], [], [], [], [], []] [⟨some 48, none, .fa 3 (.t 2)⟩, ⟨some 49, none, .ld none (.t 48)⟩, ⟨some 50, none, .mv (.t 5)⟩, ⟨some 51, none, .ixa 4 none (.t 49) (.t 50)⟩, ⟨some 52, none, .ld (some 4) (.t 51)⟩, ⟨some 53, none, .fa 3 (.t 3)⟩, ⟨some 54, none, .ld none (.t 53)⟩, ⟨some 55, none, .mv (.t 5)⟩, ⟨some 56, none, .ixa 4 none (.t 54) (.t 55)⟩, ⟨some 57, none, .ld (some 4) (.t 56)⟩, ⟨some 58, none, .callc n_flotsamref16_SameExpr [(.t 52), (.t 57)]⟩, ⟨some 59, none, .notb (.t 58)⟩])
      (.cond (.t 59)
        (.seq (.reg [⟨some 4, none, .tk (.c (.bool false))⟩])
          (.ret))
        (.skip))))
  (.reg [⟨some 46, none, .mv (.t 5)⟩, ⟨some 47, none, .ia .add .i64 (.t 46) (.c (.int .i64 1))⟩, ⟨some 5, none, .tk (.t 47)⟩]))

def l_flotsamref16_SameStmt_0 : AC :=
  .loop [2, 3, 5] b_flotsamref16_SameStmt_0

def r_flotsamref16_SameStmt_0 : AC :=
  .seq (.reg [⟨some 60, none, .fa 4 (.t 2)⟩, ⟨some 61, none, .ld none (.t 60)⟩, ⟨some 62, none, .fa 4 (.t 3)⟩, ⟨some 63, none, .ld none (.t 62)⟩, ⟨some 64, none, .callc n_flotsamref16_SameStmts [(.t 61), (.t 63)]⟩, ⟨some 65, none, .mv (.t 64)⟩, ⟨some 66, (some (65, true)), .fa 5 (.t 2)⟩, ⟨some 67, (some (65, true)), .ld none (.t 66)⟩, ⟨some 68, (some (65, true)), .fa 5 (.t 3)⟩, ⟨some 69, (some (65, true)), .ld none (.t 68)⟩, ⟨some 70, (some (65, true)), .callc n_flotsamref16_SameStmts [(.t 67), (.t 69)]⟩, ⟨some 71, none, .pick (.t 65) (.t 70) (.c (.bool false))⟩, ⟨some 4, none, .tk (.t 71)⟩])
  (.ret)

def c_flotsamref16_SameStmt : AFunc :=
  { np := 2, res := [.t 4], body := (
    .seq (.reg [⟨some 2, none, .box (.t 0)⟩, ⟨some 3, none, .box (.t 1)⟩, ⟨some 4, none, .tk (.c (.bool false))⟩])
    (.seq (.seq (.reg [⟨some 6, none, .fa 0 (.t 2)⟩, ⟨some 7, none, .ld none (.t 6)⟩, ⟨some 8, none, .fa 0 (.t 3)⟩, ⟨some 9, none, .ld none (.t 8)⟩, ⟨some 10, none, .ic .neq (.t 7) (.t 9)⟩, ⟨some 11, none, .mv (.t 10)⟩, ⟨some 12, (some (11, false)), .fa 1 (.t 2)⟩, ⟨some 13, (some (11, false)), .ld none (.t 12)⟩, ⟨some 14, (some (11, false)), .fa 1 (.t 3)⟩, ⟨some 15, (some (11, false)), .ld none (.t 14)⟩, ⟨some 16, (some (11, false)), .sop .neq (.t 13) (.t 15)⟩, ⟨some 17, none, .pick (.t 11) (.c (.bool true)) (.t 16)⟩, ⟨some 18, none, .mv (.t 17)⟩, ⟨some 19, (some (18, false)), .fa 2 (.t 2)⟩, ⟨some 20, (some (18, false)), .ld none (.t 19)⟩, ⟨some 21, (some (18, false)), .fa 2 (.t 3)⟩, ⟨some 22, (some (18, false)), .ld none (.t 21)⟩, ⟨some 23, (some (18, false)), .ic .neq (.t 20) (.t 22)⟩, ⟨some 24, none, .pick (.t 18) (.c (.bool true)) (.t 23)⟩, ⟨some 25, none, .mv (.t 24)⟩, ⟨some 26, (some (25, false)), .fa 6 (.t 2)⟩, ⟨some 27, (some (25, false)), .ld none (.t 26)⟩, ⟨some 28, (some (25, false)), .fa 6 (.t 3)⟩, ⟨some 29, (some (25, false)), .ld none (.t 28)⟩, ⟨some 30, (some (25, false)), .eqb true (.t 27) (.t 29)⟩, ⟨some 31, none, .pick (.t 25) (.c (.bool true)) (.t 30)⟩, ⟨some 32, none, .mv (.t 31)⟩, ⟨some 33, (some (32, false)), .fa 3 (.t 2)⟩, ⟨some 34, (some (32, false)), .ld none (.t 33)⟩, ⟨some 35, (some (32, false)), .len false (.t 34)⟩, ⟨some 36, (some (32, false)), .fa 3 (.t 3)⟩, ⟨some 37, (some (32, false)), .ld none (.t 36)⟩, ⟨some 38, (some (32, false)), .len false (.t 37)⟩, ⟨some 39, (some (32, false)), .ic .neq (.t 35) (.t 38)⟩, ⟨some 40, none, .pick (.t 32) (.c (.bool true)) (.t 39)⟩])
      (.cond (.t 40)
        (.seq (.reg [⟨some 4, none, .tk (.c (.bool false))⟩])
          (.ret))
        (.skip)))
    (.seq (.seq (.reg [⟨some 5, none, .tk (.c (.int .i64 0))⟩])
      (.block 0 (l_flotsamref16_SameStmt_0))) r_flotsamref16_SameStmt_0))) }

-- (*flotsam/parse.words).head
def c_pparse_words_head : AFunc :=
  { np := 1, res := [.cell 2 (some 4)], body := (
    .seq (.reg [⟨some 2, none, .alloc [.int .i64 0, .str [], .int .i64 0, .int .i64 0]⟩])
    (.seq (.reg [⟨some 3, none, .mv (.t 0)⟩, ⟨some 4, none, .nck (.t 3)⟩, ⟨some 5, none, .fa 0 (.t 4)⟩, ⟨some 6, none, .ld none (.t 5)⟩, ⟨some 7, none, .ixa 4 none (.t 6) (.c (.int .i64 0))⟩, ⟨some 8, none, .ld (some 4) (.t 7)⟩, ⟨none, none, .st 4 (.t 2) (.t 8)⟩])
    (.ret))) }

-- (*flotsam/parse.parser).expr
def c_pparse_parser_expr : AFunc :=
  { np := 1, res := [.cell 2 (some 4)], body := (
    .seq (.reg [⟨some 2, none, .alloc [.int .i64 0, .int .i64 0, .str [], .own 4 []]⟩])
    (.seq (.reg [⟨some 3, none, .mv (.t 0)⟩, ⟨some 4, none, .mv (.t 0)⟩, ⟨some 5, none, .mkf (.func n_pparse_parser_both) [(.t 4)] []⟩, ⟨some 6, none, .bsl 1 [.str []] 1 [(0, 1, (.c (.str [111, 114])))] false⟩, ⟨some 7, none, .call n_pparse_parser_chain [(.t 3), (.t 5), (.c (.int .i64 4096)), (.t 6)]⟩, ⟨none, none, .st 4 (.t 2) (.t 7)⟩])
    (.ret))) }

-- (*flotsam/parse.words).sees
def b_pparse_words_sees_0 : AC :=
  .seq (.reg [⟨some 22, none, .ic .lss (.t 21) (.t 20)⟩])
  (.seq (.cond (.t 22)
      (.skip)
      (.exit 0))
  (.seq (.block 1 (.seq (.reg [⟨some 23, none, .ixa 1 none (.t 19) (.t 21)⟩, ⟨some 24, none, .ld none (.t 23)⟩, ⟨some 8, none, .tk (.t 24)⟩])
      (.seq (.reg [⟨some 25, none, .fa 1 (.t 6)⟩, ⟨some 26, none, .ld none (.t 25)⟩, ⟨some 27, none, .mv (.t 8)⟩, ⟨some 28, none, .sop .eql (.t 26) (.t 27)⟩])
      (.cond (.t 28)
        (.seq (.reg [⟨some 29, none, .mv (.t 8)⟩, ⟨some 4, none, .tk (.t 29)⟩, ⟨some 5, none, .tk (.c (.bool true))⟩])
          (.ret))
        (.skip)))))
  (.reg [⟨some 30, none, .ia .add .i64 (.t 21) (.c (.int .i64 1))⟩, ⟨some 21, none, .mv (.t 30)⟩])))

def l_pparse_words_sees_0 : AC :=
  .loop [6, 19, 20, 21] b_pparse_words_sees_0

def r_pparse_words_sees_0 : AC :=
  .seq (.reg [⟨some 4, none, .tk (.c (.str []))⟩, ⟨some 5, none, .tk (.c (.bool false))⟩])
  (.ret)

def c_pparse_words_sees : AFunc :=
  { np := 2, res := [.t 4, .t 5], body := (
    .seq (.reg [⟨some 4, none, .tk (.c (.str []))⟩, ⟨some 5, none, .tk (.c (.bool false))⟩])
    (.seq (.reg [⟨some 9, none, .mv (.t 0)⟩, ⟨some 10, none, .call n_pparse_words_head [(.t 9)]⟩, ⟨some 6, none, .alloc [.int .i64 0, .str [], .int .i64 0, .int .i64 0]⟩, ⟨none, none, .st 4 (.t 6) (.t 10)⟩])
    (.seq (.seq (.reg [⟨some 11, none, .fa 0 (.t 6)⟩, ⟨some 12, none, .ld none (.t 11)⟩, ⟨some 13, none, .ic .neq (.t 12) (.c (.int .i64 4))⟩, ⟨some 14, none, .mv (.t 13)⟩, ⟨some 15, (some (14, true)), .fa 0 (.t 6)⟩, ⟨some 16, (some (14, true)), .ld none (.t 15)⟩, ⟨some 17, (some (14, true)), .ic .neq (.t 16) (.c (.int .i64 5))⟩, ⟨some 18, none, .pick (.t 14) (.t 17) (.c (.bool false))⟩])
      (.cond (.t 18)
        (.seq (.reg [⟨some 4, none, .tk (.c (.str []))⟩, ⟨some 5, none, .tk (.c (.bool false))⟩])
          (.ret))
        (.skip)))
    (.seq (.seq (.reg [⟨some 19, none, .mv (.t 1)⟩, ⟨some 20, none, .len false (.t 19)⟩, ⟨some 21, none, .mv (.c (.int .i64 0))⟩])
      (.block 0 (l_pparse_words_sees_0))) r_pparse_words_sees_0)))) }

-- (*flotsam/parse.words).fail
def c_pparse_words_fail : AFunc :=
  { np := 3, res := [], body := (
    .seq (.reg [⟨some 5, none, .box (.t 2)⟩])
    (.seq (.seq (.reg [⟨some 6, none, .mv (.t 0)⟩, ⟨some 7, none, .nck (.t 6)⟩, ⟨some 8, none, .fa 1 (.t 7)⟩, ⟨some 9, none, .ld (some 2) (.t 8)⟩, ⟨some 10, none, .bld [.int .i64 0, .int .i64 0] []⟩, ⟨some 11, none, .eqa false [.int .i64, .int .i64] (.t 9) (.t 10)⟩])
      (.cond (.t 11)
        (.reg [⟨some 12, none, .mv (.t 0)⟩, ⟨some 13, none, .mv (.t 1)⟩, ⟨some 14, none, .fa 3 (.t 5)⟩, ⟨some 15, none, .ld none (.t 14)⟩, ⟨some 16, none, .bld [.int .i64 0, .int .i64 0] [(0, 1, (.t 13)), (1, 1, (.t 15))]⟩, ⟨some 17, none, .nck (.t 12)⟩, ⟨some 18, none, .fa 1 (.t 17)⟩, ⟨none, none, .st 2 (.t 18) (.t 16)⟩])
        (.skip)))
    (.reg [⟨some 19, none, .mv (.t 0)⟩, ⟨some 20, none, .bld [.int .i64 0, .str [], .int .i64 0, .int .i64 0] []⟩, ⟨some 21, none, .bsl 4 [.int .i64 0, .str [], .int .i64 0, .int .i64 0] 1 [(0, 4, (.t 20))] false⟩, ⟨some 22, none, .nck (.t 19)⟩, ⟨some 23, none, .fa 0 (.t 22)⟩, ⟨none, none, .st 1 (.t 23) (.t 21)⟩]))) }

-- flotsam/parse.deep
def b_parse_deep_0 : AC :=
  .seq (.reg [⟨some 10, none, .ic .lss (.t 9) (.t 8)⟩])
  (.seq (.cond (.t 10)
      (.skip)
      (.exit 0))
  (.seq (.block 1 (.seq (.reg [⟨some 11, none, .ixa 4 none (.t 7) (.t 9)⟩, ⟨some 12, none, .ld (some 4) (.t 11)⟩, ⟨some 5, none, .alloc [.int .i64 0, .int .i64 0, .str [], .own 4 []]⟩, ⟨none, none, .st 4 (.t 5) (.t 12)⟩])
      (.reg [⟨some 13, none, .mv (.t 3)⟩, ⟨some 14, none, .ld (some 4) (.t 5)⟩, ⟨some 15, none, .callc n_parse_deep [(.t 14)]⟩, ⟨some 16, none, .mx true [(.t 13), (.t 15)]⟩, ⟨some 3, none, .tk (.t 16)⟩])))
  (.reg [⟨some 17, none, .ia .add .i64 (.t 9) (.c (.int .i64 1))⟩, ⟨some 9, none, .mv (.t 17)⟩])))

def l_parse_deep_0 : AC :=
  .loop [3, 7, 8, 9] b_parse_deep_0

def r_parse_deep_0 : AC :=
  .seq (.reg [⟨some 18, none, .mv (.t 3)⟩, ⟨some 19, none, .ia .add .i64 (.t 18) (.c (.int .i64 1))⟩, ⟨some 2, none, .tk (.t 19)⟩])
  (.ret)

def c_parse_deep : AFunc :=
  { np := 1, res := [.t 2], body := (
    .seq (.reg [⟨some 1, none, .box (.t 0)⟩, ⟨some 2, none, .tk (.c (.int .i64 0))⟩])
    (.seq (.reg [⟨some 3, none, .tk (.c (.int .i64 0))⟩])
    (.seq (.seq (.reg [⟨some 6, none, .fa 3 (.t 1)⟩, ⟨some 7, none, .ld none (.t 6)⟩, ⟨some 8, none, .len false (.t 7)⟩, ⟨some 9, none, .mv (.c (.int .i64 0))⟩])
      (.block 0 (l_parse_deep_0))) r_parse_deep_0))) }

-- flotsam/view.plain
def c_view_plain : AFunc :=
  { np := 1, res := [.t 2], body := (
    .seq (.reg [⟨some 2, none, .tk (.c (.bool false))⟩])
    (.seq (.reg [⟨some 3, none, .mv (.t 0)⟩, ⟨some 4, none, .ic .geq (.t 3) (.c (.int .u8 32))⟩, ⟨some 5, none, .mv (.t 4)⟩, ⟨some 6, (some (5, true)), .mv (.t 0)⟩, ⟨some 7, (some (5, true)), .ic .leq (.t 6) (.c (.int .u8 126))⟩, ⟨some 8, none, .pick (.t 5) (.t 7) (.c (.bool false))⟩, ⟨some 9, none, .mv (.t 8)⟩, ⟨some 10, (some (9, true)), .mv (.t 0)⟩, ⟨some 11, (some (9, true)), .ic .neq (.t 10) (.c (.int .u8 34))⟩, ⟨some 12, none, .pick (.t 9) (.t 11) (.c (.bool false))⟩, ⟨some 13, none, .mv (.t 12)⟩, ⟨some 14, (some (13, true)), .mv (.t 0)⟩, ⟨some 15, (some (13, true)), .ic .neq (.t 14) (.c (.int .u8 92))⟩, ⟨some 16, none, .pick (.t 13) (.t 15) (.c (.bool false))⟩, ⟨some 2, none, .tk (.t 16)⟩])
    (.ret))) }

-- strings.HasPrefix
def c_strings_HasPrefix : AFunc :=
  { np := 2, res := [.t 4], body := (
    .seq (.reg [⟨some 4, none, .tk (.c (.bool false))⟩])
    (.seq (.reg [⟨some 5, none, .mv (.t 0)⟩, ⟨some 6, none, .mv (.t 1)⟩, ⟨some 7, none, .callc n_internal_stringslite_HasPrefix [(.t 5), (.t 6)]⟩, ⟨some 4, none, .tk (.t 7)⟩])
    (.ret))) }

-- flotsam/lex.begins
def c_lex_begins : AFunc :=
  { np := 2, res := [.t 4], body := (
    .seq (.reg [⟨some 4, none, .tk (.c (.bool false))⟩])
    (.seq (.reg [⟨some 5, none, .mv (.t 0)⟩, ⟨some 6, none, .sop .neq (.t 5) (.c (.str []))⟩, ⟨some 7, none, .mv (.t 6)⟩, ⟨some 8, (some (7, true)), .mv (.t 1)⟩, ⟨some 9, (some (7, true)), .mv (.t 0)⟩, ⟨some 10, (some (7, true)), .ixs (.t 9) (.c (.int .i64 0))⟩, ⟨some 11, (some (7, true)), .conv .i32 (.t 10)⟩, ⟨some 12, (some (7, true)), .callv (.t 8) [(.t 11)]⟩, ⟨some 13, none, .pick (.t 7) (.t 12) (.c (.bool false))⟩, ⟨some 4, none, .tk (.t 13)⟩])
    (.ret))) }

-- flotsam/lex.letter
def c_lex_letter : AFunc :=
  { np := 1, res := [.t 2], body := (
    .seq (.reg [⟨some 2, none, .tk (.c (.bool false))⟩])
    (.seq (.reg [⟨some 3, none, .mv (.t 0)⟩, ⟨some 4, none, .ic .geq (.t 3) (.c (.int .i32 97))⟩, ⟨some 5, none, .mv (.t 4)⟩, ⟨some 6, (some (5, true)), .mv (.t 0)⟩, ⟨some 7, (some (5, true)), .ic .leq (.t 6) (.c (.int .i32 122))⟩, ⟨some 8, none, .pick (.t 5) (.t 7) (.c (.bool false))⟩, ⟨some 2, none, .tk (.t 8)⟩])
    (.ret))) }

-- flotsam/lex.word
def c_lex_word : AFunc :=
  { np := 1, res := [.cell 2 (some 4), .t 3, .t 4], body := (
    .seq (.reg [⟨some 2, none, .alloc [.int .i64 0, .str [], .int .i64 0, .int .i64 0]⟩, ⟨some 3, none, .tk (.c (.int .i64 0))⟩, ⟨some 4, none, .tk (.c (.int .i64 0))⟩])
    (.seq (.reg [⟨some 6, none, .mv (.t 0)⟩, ⟨some 7, none, .callc n_lex_run [(.t 6), (.c (.fn (.func n_lex_inner) [] []))]⟩, ⟨some 5, none, .tk (.t 7)⟩])
    (.seq (.block 0 (.seq (.reg [⟨some 9, none, .mv (.t 5)⟩, ⟨some 10, none, .callc n_lex_Key [(.t 9)]⟩, ⟨some 8, none, .tk (.t 10)⟩])
        (.cond (.t 8)
          (.seq (.reg [⟨some 11, none, .mv (.t 5)⟩, ⟨some 12, none, .bld [.int .i64 0, .str [], .int .i64 0, .int .i64 0] [(0, 1, (.c (.int .i64 4))), (1, 1, (.t 11))]⟩, ⟨some 13, none, .mv (.t 5)⟩, ⟨some 14, none, .len true (.t 13)⟩, ⟨none, none, .st 4 (.t 2) (.t 12)⟩, ⟨some 3, none, .tk (.t 14)⟩, ⟨some 4, none, .tk (.c (.int .i64 0))⟩])
            (.ret))
          (.seq (.reg [⟨some 16, none, .mv (.t 5)⟩, ⟨some 17, none, .callc n_lex_Name [(.t 16)]⟩, ⟨some 15, none, .tk (.t 17)⟩])
            (.cond (.t 15)
              (.seq (.reg [⟨some 18, none, .mv (.t 5)⟩, ⟨some 19, none, .bld [.int .i64 0, .str [], .int .i64 0, .int .i64 0] [(0, 1, (.c (.int .i64 1))), (1, 1, (.t 18))]⟩, ⟨some 20, none, .mv (.t 5)⟩, ⟨some 21, none, .len true (.t 20)⟩, ⟨none, none, .st 4 (.t 2) (.t 19)⟩, ⟨some 3, none, .tk (.t 21)⟩, ⟨some 4, none, .tk (.c (.int .i64 0))⟩])
                (.ret))
              (.skip))))))
    (.seq (.reg [⟨some 22, none, .bld [.int .i64 0, .str [], .int .i64 0, .int .i64 0] []⟩, ⟨none, none, .st 4 (.t 2) (.t 22)⟩, ⟨some 3, none, .tk (.c (.int .i64 0))⟩, ⟨some 4, none, .tk (.c (.int .i64 14))⟩])
    (.ret))))) }

-- flotsam/lex.digit
def c_lex_digit : AFunc :=
  { np := 1, res := [.t 2], body := (
    .seq (.reg [⟨some 2, none, .tk (.c (.bool false))⟩])
    (.seq (.reg [⟨some 3, none, .mv (.t 0)⟩, ⟨some 4, none, .ic .geq (.t 3) (.c (.int .i32 48))⟩, ⟨some 5, none, .mv (.t 4)⟩, ⟨some 6, (some (5, true)), .mv (.t 0)⟩, ⟨some 7, (some (5, true)), .ic .leq (.t 6) (.c (.int .i32 57))⟩, ⟨some 8, none, .pick (.t 5) (.t 7) (.c (.bool false))⟩, ⟨some 2, none, .tk (.t 8)⟩])
    (.ret))) }

-- flotsam/lex.number
def c_lex_number : AFunc :=
  { np := 1, res := [.cell 2 (some 4), .t 3, .t 4], body := (
    .seq (.reg [⟨some 2, none, .alloc [.int .i64 0, .str [], .int .i64 0, .int .i64 0]⟩, ⟨some 3, none, .tk (.c (.int .i64 0))⟩, ⟨some 4, none, .tk (.c (.int .i64 0))⟩])
    (.seq (.reg [⟨some 8, none, .mv (.t 0)⟩, ⟨some 9, none, .callc n_lex_run [(.t 8), (.c (.fn (.func n_lex_digit) [] []))]⟩, ⟨some 5, none, .tk (.t 9)⟩])
    (.seq (.reg [⟨some 11, none, .mv (.t 5)⟩, ⟨some 12, none, .callc n_num_Read [(.t 11)]⟩, ⟨some 10, none, .mv (.t 12)⟩, ⟨some 13, none, .ext (.t 10) 0⟩, ⟨some 14, none, .ext (.t 10) 1⟩, ⟨some 6, none, .tk (.t 13)⟩, ⟨some 7, none, .tk (.t 14)⟩])
    (.seq (.seq (.reg [⟨some 15, none, .mv (.t 7)⟩, ⟨some 16, none, .notb (.t 15)⟩])
      (.cond (.t 16)
        (.seq (.reg [⟨some 17, none, .bld [.int .i64 0, .str [], .int .i64 0, .int .i64 0] []⟩, ⟨none, none, .st 4 (.t 2) (.t 17)⟩, ⟨some 3, none, .tk (.c (.int .i64 0))⟩, ⟨some 4, none, .tk (.c (.int .i64 12))⟩])
          (.ret))
        (.skip)))
    (.seq (.reg [⟨some 18, none, .mv (.t 6)⟩, ⟨some 19, none, .bld [.int .i64 0, .str [], .int .i64 0, .int .i64 0] [(0, 1, (.c (.int .i64 2))), (2, 1, (.t 18))]⟩, ⟨some 20, none, .mv (.t 5)⟩, ⟨some 21, none, .len true (.t 20)⟩, ⟨none, none, .st 4 (.t 2) (.t 19)⟩, ⟨some 3, none, .tk (.t 21)⟩, ⟨some 4, none, .tk (.c (.int .i64 0))⟩])
    (.ret)))))) }

-- flotsam/lex.text
def c_lex_text : AFunc :=
  { np := 1, res := [.cell 2 (some 4), .t 3, .t 4], body := (
    .seq (.reg [⟨some 2, none, .alloc [.int .i64 0, .str [], .int .i64 0, .int .i64 0]⟩, ⟨some 3, none, .tk (.c (.int .i64 0))⟩, ⟨some 4, none, .tk (.c (.int .i64 0))⟩])
    (.seq (.drw [[], [], [], [], [], []] [⟨some 8, none, .mv (.t 0)⟩, ⟨some 9, none, .slc (.t 8) (some (.c (.int .i64 1))) none⟩, ⟨some 10, none, .mv (.t 0)⟩, ⟨some 11, none, .ixs (.t 10) (.c (.int .i64 0))⟩, ⟨some 12, none, .callc n_strings_IndexByte [(.t 9), (.t 11)]⟩, ⟨some 5, none, .tk (.t 12)⟩])
    (.seq (.seq (.reg [⟨some 13, none, .mv (.t 5)⟩, ⟨some 14, none, .ic .lss (.t 13) (.c (.int .i64 0))⟩])
      (.cond (.t 14)
        (.seq (.reg [⟨some 15, none, .bld [.int .i64 0, .str [], .int .i64 0, .int .i64 0] []⟩, ⟨none, none, .st 4 (.t 2) (.t 15)⟩, ⟨some 3, none, .tk (.c (.int .i64 0))⟩, ⟨some 4, none, .tk (.c (.int .i64 12))⟩])
          (.ret))
        (.skip)))
    (.seq (.reg [⟨some 17, none, .mv (.t 0)⟩, ⟨some 18, none, .mv (.t 5)⟩, ⟨some 19, none, .ia .add .i64 (.t 18) (.c (.int .i64 2))⟩, ⟨some 20, none, .slc (.t 17) none (some (.t 19))⟩, ⟨some 21, none, .callc n_view_Unquote [(.t 20)]⟩, ⟨some 16, none, .mv (.t 21)⟩, ⟨some 22, none, .ext (.t 16) 0⟩, ⟨some 23, none, .ext (.t 16) 1⟩, ⟨some 6, none, .tk (.t 22)⟩, ⟨some 7, none, .tk (.t 23)⟩])
    (.seq (.block 0 (.seq (.reg [⟨some 25, none, .mv (.t 7)⟩, ⟨some 26, none, .notb (.t 25)⟩, ⟨some 24, none, .tk (.t 26)⟩])
        (.cond (.t 24)
          (.seq (.reg [⟨some 27, none, .bld [.int .i64 0, .str [], .int .i64 0, .int .i64 0] []⟩, ⟨none, none, .st 4 (.t 2) (.t 27)⟩, ⟨some 3, none, .tk (.c (.int .i64 0))⟩, ⟨some 4, none, .tk (.c (.int .i64 12))⟩])
            (.ret))
          (.seq (.reg [⟨some 29, none, .mv (.t 6)⟩, ⟨some 30, none, .len true (.t 29)⟩, ⟨some 31, none, .ic .gtr (.t 30) (.c (.int .i64 64))⟩, ⟨some 28, none, .tk (.t 31)⟩])
            (.cond (.t 28)
              (.seq (.reg [⟨some 32, none, .bld [.int .i64 0, .str [], .int .i64 0, .int .i64 0] []⟩, ⟨none, none, .st 4 (.t 2) (.t 32)⟩, ⟨some 3, none, .tk (.c (.int .i64 0))⟩, ⟨some 4, none, .tk (.c (.int .i64 14))⟩])
                (.ret))
              (.skip))))))
    (.seq (.reg [⟨some 33, none, .mv (.t 6)⟩, ⟨some 34, none, .bld [.int .i64 0, .str [], .int .i64 0, .int .i64 0] [(0, 1, (.c (.int .i64 3))), (1, 1, (.t 33))]⟩, ⟨some 35, none, .mv (.t 5)⟩, ⟨some 36, none, .ia .add .i64 (.t 35) (.c (.int .i64 2))⟩, ⟨none, none, .st 4 (.t 2) (.t 34)⟩, ⟨some 3, none, .tk (.t 36)⟩, ⟨some 4, none, .tk (.c (.int .i64 0))⟩])
    (.ret))))))) }

-- flotsam/lex.sign
def c_lex_sign : AFunc :=
  { np := 1, res := [.cell 2 (some 4), .t 3, .t 4], body := (
    .seq (.reg [⟨some 2, none, .alloc [.int .i64 0, .str [], .int .i64 0, .int .i64 0]⟩, ⟨some 3, none, .tk (.c (.int .i64 0))⟩, ⟨some 4, none, .tk (.c (.int .i64 0))⟩])
    (.seq (.block 0 (.seq (.reg [⟨some 6, none, .mv (.t 0)⟩, ⟨some 7, none, .callc n_strings_HasPrefix [(.t 6), (.c (.str [61, 61]))]⟩, ⟨some 5, none, .tk (.t 7)⟩])
        (.cond (.t 5)
          (.seq (.reg [⟨some 8, none, .bld [.int .i64 0, .str [], .int .i64 0, .int .i64 0] [(0, 1, (.c (.int .i64 5))), (1, 1, (.c (.str [61, 61])))]⟩, ⟨none, none, .st 4 (.t 2) (.t 8)⟩, ⟨some 3, none, .tk (.c (.int .i64 2))⟩, ⟨some 4, none, .tk (.c (.int .i64 0))⟩])
            (.ret))
          (.seq (.reg [⟨some 10, none, .mv (.t 0)⟩, ⟨some 11, none, .ixs (.t 10) (.c (.int .i64 0))⟩, ⟨some 12, none, .callc n_strings_IndexByte [(.c (.str [123, 125, 40, 41, 59, 44, 58, 43, 45, 60, 61])), (.t 11)]⟩, ⟨some 13, none, .ic .geq (.t 12) (.c (.int .i64 0))⟩, ⟨some 9, none, .tk (.t 13)⟩])
            (.cond (.t 9)
              (.seq (.reg [⟨some 14, none, .mv (.t 0)⟩, ⟨some 15, none, .slc (.t 14) none (some (.c (.int .i64 1)))⟩, ⟨some 16, none, .bld [.int .i64 0, .str [], .int .i64 0, .int .i64 0] [(0, 1, (.c (.int .i64 5))), (1, 1, (.t 15))]⟩, ⟨none, none, .st 4 (.t 2) (.t 16)⟩, ⟨some 3, none, .tk (.c (.int .i64 1))⟩, ⟨some 4, none, .tk (.c (.int .i64 0))⟩])
                (.ret))
              (.skip))))))
    (.seq (.reg [⟨some 17, none, .bld [.int .i64 0, .str [], .int .i64 0, .int .i64 0] []⟩, ⟨none, none, .st 4 (.t 2) (.t 17)⟩, ⟨some 3, none, .tk (.c (.int .i64 0))⟩, ⟨some 4, none, .tk (.c (.int .i64 12))⟩])
    (.ret)))) }

-- (*flotsam/parse.parser).stmt
def c_pparse_parser_stmt : AFunc :=
  { np := 2, res := [.cell 4 (some 7)], body := (
    .seq (.reg [⟨some 4, none, .alloc [.int .i64 0, .str [], .int .i64 0, .own 4 [], .own 7 [], .own 7 [], .bool false]⟩])
    (.seq (.reg [⟨some 11, none, .mv (.t 0)⟩, ⟨some 12, none, .nck (.t 11)⟩, ⟨some 13, none, .fa 0 (.t 12)⟩, ⟨some 14, none, .call n_pparse_words_head [(.t 13)]⟩, ⟨some 5, none, .alloc [.int .i64 0, .str [], .int .i64 0, .int .i64 0]⟩, ⟨none, none, .st 4 (.t 5) (.t 14)⟩])
    (.seq (.reg [⟨some 16, none, .ld (some 4) (.t 5)⟩, ⟨some 17, none, .callc n_parse_simple [(.t 16)]⟩, ⟨some 15, none, .mv (.t 17)⟩, ⟨some 18, none, .ext (.t 15) 0⟩, ⟨some 19, none, .ext (.t 15) 1⟩, ⟨some 6, none, .tk (.t 18)⟩, ⟨some 7, none, .tk (.t 19)⟩])
    (.seq (.reg [⟨some 21, none, .mv (.t 0)⟩, ⟨some 22, none, .nck (.t 21)⟩, ⟨some 23, none, .fa 0 (.t 22)⟩, ⟨some 24, none, .bsl 1 [.str []] 5 [(0, 1, (.c (.str [108, 101, 116]))), (1, 1, (.c (.str [99, 97, 108, 108]))), (2, 1, (.c (.str [105, 102]))), (3, 1, (.c (.str [114, 101, 112, 101, 97, 116]))), (4, 1, (.c (.str [116, 120, 110])))] false⟩, ⟨some 25, none, .call n_pparse_words_sees [(.t 23), (.t 24)]⟩, ⟨some 20, none, .mv (.t 25)⟩, ⟨some 26, none, .ext (.t 20) 0⟩, ⟨some 27, none, .ext (.t 20) 1⟩, ⟨some 8, none, .tk (.t 26)⟩, ⟨some 9, none, .tk (.t 27)⟩])
    (.seq (.seq (.reg [⟨some 28, none, .mv (.t 7)⟩, ⟨some 29, none, .notb (.t 28)⟩, ⟨some 30, none, .mv (.t 29)⟩, ⟨some 31, (some (30, true)), .mv (.t 9)⟩, ⟨some 32, (some (30, true)), .notb (.t 31)⟩, ⟨some 33, none, .pick (.t 30) (.t 32) (.c (.bool false))⟩])
      (.cond (.t 33)
        (.seq (.drw [[], [], [], [], []] [⟨some 34, none, .mv (.t 0)⟩, ⟨some 35, none, .nck (.t 34)⟩, ⟨some 36, none, .fa 0 (.t 35)⟩, ⟨some 37, none, .ld (some 4) (.t 5)⟩, ⟨some 38, none, .call n_pparse_words_fail [(.t 36), (.c (.int .i64 12)), (.t 37)]⟩])
          (.seq (.reg [⟨some 39, none, .bld [.int .i64 0, .str [], .int .i64 0, .sl 4 [], .sl 7 [], .sl 7 [], .bool false] []⟩, ⟨none, none, .st 7 (.t 4) (.t 39)⟩])
          (.ret)))
        (.skip)))
    (.seq (.seq (.reg [⟨some 40, none, .mv (.t 0)⟩, ⟨some 41, none, .nck (.t 40)⟩, ⟨some 42, none, .fa 3 (.t 41)⟩, ⟨some 43, none, .ld none (.t 42)⟩, ⟨some 44, none, .ia .add .i64 (.t 43) (.c (.int .i64 1))⟩, ⟨some 45, none, .nck (.t 40)⟩, ⟨some 46, none, .fa 3 (.t 45)⟩, ⟨none, none, .st 1 (.t 46) (.t 44)⟩])
      (.seq (.reg [⟨some 47, none, .mv (.t 0)⟩, ⟨some 48, none, .nck (.t 47)⟩, ⟨some 49, none, .fa 3 (.t 48)⟩, ⟨some 50, none, .ld none (.t 49)⟩, ⟨some 51, none, .ic .gtr (.t 50) (.c (.int .i64 256))⟩, ⟨some 52, none, .mv (.t 51)⟩, ⟨some 53, (some (52, false)), .mv (.t 1)⟩, ⟨some 54, (some (52, false)), .ic .gtr (.t 53) (.c (.int .i64 8))⟩, ⟨some 55, none, .pick (.t 52) (.c (.bool true)) (.t 54)⟩])
      (.cond (.t 55)
        (.seq (.drw [[], [], [], [], []] [⟨some 56, none, .mv (.t 0)⟩, ⟨some 57, none, .nck (.t 56)⟩, ⟨some 58, none, .fa 0 (.t 57)⟩, ⟨some 59, none, .ld (some 4) (.t 5)⟩, ⟨some 60, none, .call n_pparse_words_fail [(.t 58), (.c (.int .i64 14)), (.t 59)]⟩])
          (.seq (.reg [⟨some 61, none, .bld [.int .i64 0, .str [], .int .i64 0, .sl 4 [], .sl 7 [], .sl 7 [], .bool false] []⟩, ⟨none, none, .st 7 (.t 4) (.t 61)⟩])
          (.ret)))
        (.skip))))
    (.seq (.reg [⟨some 62, none, .mv (.t 0)⟩, ⟨some 63, none, .nck (.t 62)⟩, ⟨some 64, none, .fa 0 (.t 63)⟩, ⟨some 65, none, .call n_pparse_words_skip [(.t 64)]⟩])
    (.seq (.seq (.reg [⟨some 66, none, .mv (.t 8)⟩])
      (.block 0 (.seq (.reg [⟨some 68, none, .sop .eql (.t 66) (.c (.str [108, 101, 116]))⟩, ⟨some 67, none, .tk (.t 68)⟩])
        (.cond (.t 67)
          (.seq (.reg [⟨some 69, none, .mv (.t 0)⟩, ⟨some 70, none, .nck (.t 69)⟩, ⟨some 71, none, .fa 0 (.t 70)⟩, ⟨some 72, none, .call n_pparse_words_of [(.t 71), (.c (.int .i64 1))]⟩, ⟨some 73, none, .fld none 1 (.t 72)⟩, ⟨some 74, none, .bld [.int .i64 0, .str [], .int .i64 0, .sl 4 [], .sl 7 [], .sl 7 [], .bool false] [(0, 1, (.c (.int .i64 12))), (1, 1, (.t 73))]⟩, ⟨some 10, none, .alloc [.int .i64 0, .str [], .int .i64 0, .own 4 [], .own 7 [], .own 7 [], .bool false]⟩, ⟨none, none, .st 7 (.t 10) (.t 74)⟩])
            (.seq (.reg [⟨some 75, none, .mv (.t 0)⟩, ⟨some 76, none, .nck (.t 75)⟩, ⟨some 77, none, .fa 0 (.t 76)⟩, ⟨some 78, none, .call n_pparse_words_wants [(.t 77), (.c (.str [61]))]⟩])
            (.seq (.reg [⟨some 79, none, .mv (.t 0)⟩, ⟨some 80, none, .call n_pparse_parser_exprs [(.t 79), (.c (.int .i64 12))]⟩, ⟨some 81, none, .fa 3 (.t 10)⟩, ⟨none, none, .st 1 (.t 81) (.t 80)⟩])
            (.seq (.reg [⟨some 82, none, .ld (some 7) (.t 10)⟩, ⟨none, none, .st 7 (.t 4) (.t 82)⟩])
            (.ret)))))
          (.seq (.reg [⟨some 84, none, .sop .eql (.t 66) (.c (.str [99, 97, 108, 108]))⟩, ⟨some 83, none, .tk (.t 84)⟩])
            (.cond (.t 83)
              (.seq (.reg [⟨some 85, none, .mv (.t 0)⟩, ⟨some 86, none, .nck (.t 85)⟩, ⟨some 87, none, .fa 0 (.t 86)⟩, ⟨some 88, none, .call n_pparse_words_of [(.t 87), (.c (.int .i64 1))]⟩, ⟨some 89, none, .fld none 1 (.t 88)⟩, ⟨some 90, none, .mv (.t 0)⟩, ⟨some 91, none, .call n_pparse_parser_exprs [(.t 90), (.c (.int .i64 15))]⟩, ⟨some 92, none, .bld [.int .i64 0, .str [], .int .i64 0, .sl 4 [], .sl 7 [], .sl 7 [], .bool false] [(0, 1, (.c (.int .i64 15))), (1, 1, (.t 89)), (3, 1, (.t 91))]⟩, ⟨none, none, .st 7 (.t 4) (.t 92)⟩])
                (.ret))
              (.seq (.reg [⟨some 94, none, .sop .eql (.t 66) (.c (.str [105, 102]))⟩, ⟨some 93, none, .tk (.t 94)⟩])
                (.cond (.t 93)
                  (.seq (.reg [⟨some 95, none, .mv (.t 0)⟩, ⟨some 96, none, .mv (.t 1)⟩, ⟨some 97, none, .call n_pparse_parser_choice [(.t 95), (.t 96)]⟩, ⟨none, none, .st 7 (.t 4) (.t 97)⟩])
                    (.ret))
                  (.seq (.reg [⟨some 99, none, .sop .eql (.t 66) (.c (.str [114, 101, 112, 101, 97, 116]))⟩, ⟨some 98, none, .tk (.t 99)⟩])
                    (.cond (.t 98)
                      (.seq (.reg [⟨some 100, none, .mv (.t 0)⟩, ⟨some 101, none, .mv (.t 1)⟩, ⟨some 102, none, .call n_pparse_parser_loop [(.t 100), (.t 101)]⟩, ⟨none, none, .st 7 (.t 4) (.t 102)⟩])
                        (.ret))
                      (.seq (.reg [⟨some 104, none, .sop .eql (.t 66) (.c (.str [116, 120, 110]))⟩, ⟨some 103, none, .tk (.t 104)⟩])
                        (.cond (.t 103)
                          (.seq (.reg [⟨some 105, none, .mv (.t 0)⟩, ⟨some 106, none, .mv (.t 1)⟩, ⟨some 107, none, .call n_pparse_parser_txn [(.t 105), (.t 106)]⟩, ⟨none, none, .st 7 (.t 4) (.t 107)⟩])
                            (.ret))
                          (.skip)))))))))))))
    (.seq (.reg [⟨some 108, none, .mv (.t 6)⟩, ⟨some 109, none, .mv (.t 0)⟩, ⟨some 110, none, .mv (.t 6)⟩, ⟨some 111, none, .call n_pparse_parser_exprs [(.t 109), (.t 110)]⟩, ⟨some 112, none, .bld [.int .i64 0, .str [], .int .i64 0, .sl 4 [], .sl 7 [], .sl 7 [], .bool false] [(0, 1, (.t 108)), (3, 1, (.t 111))]⟩, ⟨none, none, .st 7 (.t 4) (.t 112)⟩])
    (.ret)))))))))) }

-- (*flotsam/parse.words).skip
def c_pparse_words_skip : AFunc :=
  { np := 1, res := [.cell 2 (some 4)], body := (
    .seq (.reg [⟨some 2, none, .alloc [.int .i64 0, .str [], .int .i64 0, .int .i64 0]⟩])
    (.seq (.reg [⟨some 4, none, .mv (.t 0)⟩, ⟨some 5, none, .nck (.t 4)⟩, ⟨some 6, none, .fa 0 (.t 5)⟩, ⟨some 7, none, .ld none (.t 6)⟩, ⟨some 8, none, .ixa 4 none (.t 7) (.c (.int .i64 0))⟩, ⟨some 9, none, .ld (some 4) (.t 8)⟩, ⟨some 3, none, .alloc [.int .i64 0, .str [], .int .i64 0, .int .i64 0]⟩, ⟨none, none, .st 4 (.t 3) (.t 9)⟩])
    (.seq (.seq (.reg [⟨some 10, none, .mv (.t 0)⟩, ⟨some 11, none, .nck (.t 10)⟩, ⟨some 12, none, .fa 0 (.t 11)⟩, ⟨some 13, none, .ld none (.t 12)⟩, ⟨some 14, none, .len false (.t 13)⟩, ⟨some 15, none, .ic .gtr (.t 14) (.c (.int .i64 1))⟩])
      (.cond (.t 15)
        (.reg [⟨some 16, none, .mv (.t 0)⟩, ⟨some 17, none, .mv (.t 0)⟩, ⟨some 18, none, .nck (.t 17)⟩, ⟨some 19, none, .fa 0 (.t 18)⟩, ⟨some 20, none, .ld none (.t 19)⟩, ⟨some 21, none, .sls 4 (.t 20) (some (.c (.int .i64 1))) none none⟩, ⟨some 22, none, .nck (.t 16)⟩, ⟨some 23, none, .fa 0 (.t 22)⟩, ⟨none, none, .st 1 (.t 23) (.t 21)⟩])
        (.skip)))
    (.seq (.reg [⟨some 24, none, .ld (some 4) (.t 3)⟩, ⟨none, none, .st 4 (.t 2) (.t 24)⟩])
    (.ret))))) }

-- (*flotsam/parse.parser).chain
def b_pparse_parser_chain_0 : AC :=
  .seq (.reg [⟨some 16, none, .ic .lss (.t 15) (.t 14)⟩])
  (.seq (.cond (.t 16)
      (.skip)
      (.exit 0))
  (.seq (.block 1 (.seq (.reg [⟨some 18, none, .mv (.t 0)⟩, ⟨some 19, none, .nck (.t 18)⟩, ⟨some 20, none, .fa 0 (.t 19)⟩, ⟨some 21, none, .mv (.t 3)⟩, ⟨some 22, none, .call n_pparse_words_takes [(.t 20), (.t 21)]⟩, ⟨some 17, none, .mv (.t 22)⟩, ⟨some 23, none, .ext (.t 17) 0⟩, ⟨some 24, none, .ext (.t 17) 1⟩, ⟨some 10, none, .tk (.t 23)⟩, ⟨some 11, none, .tk (.t 24)⟩])
      (.seq (.seq (.reg [⟨some 25, none, .mv (.t 11)⟩, ⟨some 26, none, .notb (.t 25)⟩])
        (.cond (.t 26)
          (.exit 0)
          (.skip)))
      (.drw [[], [], [], [], [], [], [], []] [⟨some 27, none, .mv (.t 10)⟩, ⟨some 28, none, .callc n_parse_kind [(.t 27)]⟩, ⟨some 29, none, .ldq (some 4) (.t 9) (.t 9)⟩, ⟨some 30, none, .mv (.t 1)⟩, ⟨some 31, none, .callvh (.t 30) [] (.t 9)⟩, ⟨some 32, none, .bsl 4 [.int .i64 0, .int .i64 0, .str [], .sl 4 []] 2 [(0, 4, (.t 29)), (4, 4, (.t 31))] false⟩, ⟨some 33, none, .bld [.int .i64 0, .int .i64 0, .str [], .sl 4 []] [(0, 1, (.t 28)), (3, 1, (.t 32))]⟩, ⟨none, none, .st 4 (.t 9) (.t 33)⟩]))))
  (.reg [⟨some 34, none, .ia .add .i64 (.t 15) (.c (.int .i64 1))⟩, ⟨some 15, none, .mv (.t 34)⟩])))

def l_pparse_parser_chain_0 : AC :=
  .loop [0, 1, 3, 8, 9, 14, 15] b_pparse_parser_chain_0

def r_pparse_parser_chain_0 : AC :=
  .seq (.reg [⟨some 35, none, .ld (some 4) (.t 9)⟩, ⟨none, none, .st 4 (.t 8) (.t 35)⟩])
  (.ret)

def c_pparse_parser_chain : AFunc :=
  { np := 4, res := [.cell 8 (some 4)], body := (
    .seq (.reg [⟨some 8, none, .alloc [.int .i64 0, .int .i64 0, .str [], .own 4 []]⟩])
    (.seq (.reg [⟨some 12, none, .mv (.t 1)⟩, ⟨some 13, none, .callv (.t 12) []⟩, ⟨some 9, none, .alloc [.int .i64 0, .int .i64 0, .str [], .own 4 []]⟩, ⟨none, none, .st 4 (.t 9) (.t 13)⟩])
    (.seq (.seq (.reg [⟨some 14, none, .mv (.t 2)⟩, ⟨some 15, none, .mv (.c (.int .i64 0))⟩])
      (.block 0 (l_pparse_parser_chain_0))) r_pparse_parser_chain_0))) }

-- (*flotsam/parse.parser).both
def c_pparse_parser_both : AFunc :=
  { np := 1, res := [.cell 2 (some 4)], body := (
    .seq (.reg [⟨some 2, none, .alloc [.int .i64 0, .int .i64 0, .str [], .own 4 []]⟩])
    (.seq (.reg [⟨some 3, none, .mv (.t 0)⟩, ⟨some 4, none, .mv (.t 0)⟩, ⟨some 5, none, .mkf (.func n_pparse_parser_not) [(.t 4)] []⟩, ⟨some 6, none, .bsl 1 [.str []] 1 [(0, 1, (.c (.str [97, 110, 100])))] false⟩, ⟨some 7, none, .call n_pparse_parser_chain [(.t 3), (.t 5), (.c (.int .i64 4096)), (.t 6)]⟩, ⟨none, none, .st 4 (.t 2) (.t 7)⟩])
    (.ret))) }

-- internal/stringslite.HasPrefix
def c_internal_stringslite_HasPrefix : AFunc :=
  { np := 2, res := [.t 4], body := (
    .seq (.reg [⟨some 4, none, .tk (.c (.bool false))⟩])
    (.seq (.reg [⟨some 5, none, .mv (.t 0)⟩, ⟨some 6, none, .len true (.t 5)⟩, ⟨some 7, none, .mv (.t 1)⟩, ⟨some 8, none, .len true (.t 7)⟩, ⟨some 9, none, .ic .geq (.t 6) (.t 8)⟩, ⟨some 10, none, .mv (.t 9)⟩, ⟨some 11, (some (10, true)), .mv (.t 0)⟩, ⟨some 12, (some (10, true)), .mv (.t 1)⟩, ⟨some 13, (some (10, true)), .len true (.t 12)⟩, ⟨some 14, (some (10, true)), .slc (.t 11) none (some (.t 13))⟩, ⟨some 15, (some (10, true)), .mv (.t 1)⟩, ⟨some 16, (some (10, true)), .sop .eql (.t 14) (.t 15)⟩, ⟨some 17, none, .pick (.t 10) (.t 16) (.c (.bool false))⟩, ⟨some 4, none, .tk (.t 17)⟩])
    (.ret))) }

-- flotsam/lex.inner
def c_lex_inner : AFunc :=
  { np := 1, res := [.t 2], body := (
    .seq (.reg [⟨some 2, none, .tk (.c (.bool false))⟩])
    (.seq (.reg [⟨some 3, none, .mv (.t 0)⟩, ⟨some 4, none, .callc n_lex_letter [(.t 3)]⟩, ⟨some 5, none, .mv (.t 4)⟩, ⟨some 6, (some (5, false)), .mv (.t 0)⟩, ⟨some 7, (some (5, false)), .callc n_lex_digit [(.t 6)]⟩, ⟨some 8, none, .pick (.t 5) (.c (.bool true)) (.t 7)⟩, ⟨some 9, none, .mv (.t 8)⟩, ⟨some 10, (some (9, false)), .mv (.t 0)⟩, ⟨some 11, (some (9, false)), .ic .eql (.t 10) (.c (.int .i32 95))⟩, ⟨some 12, none, .pick (.t 9) (.c (.bool true)) (.t 11)⟩, ⟨some 2, none, .tk (.t 12)⟩])
    (.ret))) }

-- flotsam/lex.Key
def c_lex_Key : AFunc :=
  { np := 1, res := [.t 2], body := (
    .seq (.reg [⟨some 2, none, .tk (.c (.bool false))⟩])
    (.seq (.reg [⟨some 3, none, .mv (.t 0)⟩, ⟨some 4, none, .sop .neq (.t 3) (.c (.str []))⟩, ⟨some 5, none, .mv (.t 4)⟩, ⟨some 6, (some (5, true)), .mv (.t 0)⟩, ⟨some 7, (some (5, true)), .callc n_strings_Contains [(.t 6), (.c (.str [32]))]⟩, ⟨some 8, (some (5, true)), .notb (.t 7)⟩, ⟨some 9, none, .pick (.t 5) (.t 8) (.c (.bool false))⟩, ⟨some 10, none, .mv (.t 9)⟩, ⟨some 11, (some (10, true)), .mv (.t 0)⟩, ⟨some 12, (some (10, true)), .sop .add (.c (.str [32])) (.t 11)⟩, ⟨some 13, (some (10, true)), .sop .add (.t 12) (.c (.str [32]))⟩, ⟨some 14, (some (10, true)), .callc n_strings_Contains [(.c (.str [32, 112, 114, 111, 99, 32, 109, 97, 105, 110, 32, 114, 101, 99, 111, 118, 101, 114, 32, 111, 114, 97, 99, 108, 101, 32, 99, 114, 101, 97, 116, 101, 32, 109, 107, 100, 105, 114, 32, 119, 114, 105, 116, 101, 32, 97, 112, 112, 101, 110, 100, 32, 116, 114, 117, 110, 99, 97, 116, 101, 32, 114, 101, 110, 97, 109, 101, 32, 117, 110, 108, 105, 110, 107, 32, 102, 115, 121, 110, 99, 32, 102, 100, 97, 116, 97, 115, 121, 110, 99, 32, 115, 121, 110, 99, 100, 105, 114, 32, 98, 97, 114, 114, 105, 101, 114, 32, 108, 101, 116, 32, 105, 102, 32, 101, 108, 115, 101, 32, 114, 101, 112, 101, 97, 116, 32, 99, 97, 108, 108, 32, 116, 120, 110, 32, 99, 111, 109, 109, 105, 116, 32, 114, 101, 112, 108, 97, 121, 32, 97, 115, 115, 101, 114, 116, 32, 101, 120, 105, 115, 116, 115, 32, 115, 105, 122, 101, 32, 114, 101, 97, 100, 32, 110, 111, 116, 32, 97, 110, 100, 32, 111, 114, 32, 116, 114, 117, 101, 32, 102, 97, 108, 115, 101, 32])), (.t 13)]⟩, ⟨some 15, none, .pick (.t 10) (.t 14) (.c (.bool false))⟩, ⟨some 2, none, .tk (.t 15)⟩])
    (.ret))) }

-- flotsam/lex.Name
def c_lex_Name : AFunc :=
  { np := 1, res := [.t 2], body := (
    .seq (.reg [⟨some 2, none, .tk (.c (.bool false))⟩])
    (.seq (.reg [⟨some 3, none, .mv (.t 0)⟩, ⟨some 4, none, .callc n_lex_begins [(.t 3), (.c (.fn (.func n_lex_letter) [] []))]⟩, ⟨some 5, none, .mv (.t 4)⟩, ⟨some 6, (some (5, true)), .mv (.t 0)⟩, ⟨some 7, (some (5, true)), .len true (.t 6)⟩, ⟨some 8, (some (5, true)), .ic .leq (.t 7) (.c (.int .i64 8))⟩, ⟨some 9, none, .pick (.t 5) (.t 8) (.c (.bool false))⟩, ⟨some 10, none, .mv (.t 9)⟩, ⟨some 11, (some (10, true)), .mv (.t 0)⟩, ⟨some 12, (some (10, true)), .callc n_lex_run [(.t 11), (.c (.fn (.func n_lex_inner) [] []))]⟩, ⟨some 13, (some (10, true)), .mv (.t 0)⟩, ⟨some 14, (some (10, true)), .sop .eql (.t 12) (.t 13)⟩, ⟨some 15, none, .pick (.t 10) (.t 14) (.c (.bool false))⟩, ⟨some 16, none, .mv (.t 15)⟩, ⟨some 17, (some (16, true)), .mv (.t 0)⟩, ⟨some 18, (some (16, true)), .callc n_lex_Key [(.t 17)]⟩, ⟨some 19, (some (16, true)), .notb (.t 18)⟩, ⟨some 20, none, .pick (.t 16) (.t 19) (.c (.bool false))⟩, ⟨some 2, none, .tk (.t 20)⟩])
    (.ret))) }

-- flotsam/num.Read
def b_num_Read_0 : AC :=
  .seq (.reg [⟨some 28, none, .ic .lss (.t 27) (.t 26)⟩])
  (.seq (.cond (.t 28)
      (.skip)
      (.exit 0))
  (.seq (.block 1 (.seq (.reg [⟨some 29, none, .ixa 1 none (.t 25) (.t 27)⟩, ⟨some 30, none, .ld none (.t 29)⟩, ⟨some 6, none, .tk (.t 30)⟩])
      (.seq (.reg [⟨some 31, none, .mv (.t 6)⟩, ⟨some 32, none, .conv .i64 (.t 31)⟩, ⟨some 33, none, .ia .sub .i64 (.t 32) (.c (.int .i64 48))⟩, ⟨some 7, none, .tk (.t 33)⟩])
      (.seq (.seq (.reg [⟨some 34, none, .mv (.t 7)⟩, ⟨some 35, none, .ic .lss (.t 34) (.c (.int .i64 0))⟩, ⟨some 36, none, .mv (.t 35)⟩, ⟨some 37, (some (36, false)), .mv (.t 7)⟩, ⟨some 38, (some (36, false)), .ic .gtr (.t 37) (.c (.int .i64 9))⟩, ⟨some 39, none, .pick (.t 36) (.c (.bool true)) (.t 38)⟩])
        (.cond (.t 39)
          (.seq (.reg [⟨some 2, none, .tk (.c (.int .i64 0))⟩, ⟨some 3, none, .tk (.c (.bool false))⟩])
            (.ret))
          (.skip)))
      (.reg [⟨some 40, none, .mv (.t 4)⟩, ⟨some 41, none, .ia .mul .i64 (.t 40) (.c (.int .i64 10))⟩, ⟨some 42, none, .mv (.t 7)⟩, ⟨some 43, none, .ia .add .i64 (.t 41) (.t 42)⟩, ⟨some 4, none, .tk (.t 43)⟩])))))
  (.reg [⟨some 44, none, .ia .add .i64 (.t 27) (.c (.int .i64 1))⟩, ⟨some 27, none, .mv (.t 44)⟩])))

def l_num_Read_0 : AC :=
  .loop [4, 25, 26, 27] b_num_Read_0

def r_num_Read_0 : AC :=
  .seq (.seq (.reg [⟨some 45, none, .mv (.t 4)⟩, ⟨some 46, none, .ic .gtr (.t 45) (.c (.int .i64 1000000000000))⟩])
    (.cond (.t 46)
      (.seq (.reg [⟨some 2, none, .tk (.c (.int .i64 0))⟩, ⟨some 3, none, .tk (.c (.bool false))⟩])
        (.ret))
      (.skip)))
  (.seq (.reg [⟨some 47, none, .mv (.t 4)⟩, ⟨some 2, none, .tk (.t 47)⟩, ⟨some 3, none, .tk (.c (.bool true))⟩])
  (.ret))

def c_num_Read : AFunc :=
  { np := 1, res := [.t 2, .t 3], body := (
    .seq (.reg [⟨some 2, none, .tk (.c (.int .i64 0))⟩, ⟨some 3, none, .tk (.c (.bool false))⟩])
    (.seq (.seq (.reg [⟨some 8, none, .mv (.t 0)⟩, ⟨some 9, none, .sop .eql (.t 8) (.c (.str []))⟩, ⟨some 10, none, .mv (.t 9)⟩, ⟨some 11, (some (10, false)), .mv (.t 0)⟩, ⟨some 12, (some (10, false)), .len true (.t 11)⟩, ⟨some 13, (some (10, false)), .ic .gtr (.t 12) (.c (.int .i64 13))⟩, ⟨some 14, none, .pick (.t 10) (.c (.bool true)) (.t 13)⟩, ⟨some 15, none, .mv (.t 14)⟩, ⟨some 16, (some (15, false)), .mv (.t 0)⟩, ⟨some 17, (some (15, false)), .ixs (.t 16) (.c (.int .i64 0))⟩, ⟨some 18, (some (15, false)), .ic .eql (.t 17) (.c (.int .u8 48))⟩, ⟨some 19, (some (15, false)), .mv (.t 18)⟩, ⟨some 20, (some (19, true)), .mv (.t 0)⟩, ⟨some 21, (some (19, true)), .sop .neq (.t 20) (.c (.str [48]))⟩, ⟨some 22, (some (15, false)), .pick (.t 19) (.t 21) (.c (.bool false))⟩, ⟨some 23, none, .pick (.t 15) (.c (.bool true)) (.t 22)⟩])
      (.cond (.t 23)
        (.seq (.reg [⟨some 2, none, .tk (.c (.int .i64 0))⟩, ⟨some 3, none, .tk (.c (.bool false))⟩])
          (.ret))
        (.skip)))
    (.seq (.reg [⟨some 4, none, .tk (.c (.int .i64 0))⟩])
    (.seq (.seq (.reg [⟨some 24, none, .mv (.t 0)⟩, ⟨some 25, none, .s2b (.t 24)⟩, ⟨some 26, none, .len false (.t 25)⟩, ⟨some 27, none, .mv (.c (.int .i64 0))⟩])
      (.block 0 (l_num_Read_0))) r_num_Read_0)))) }

-- flotsam/view.Unquote
def b_view_Unquote_0 : AC :=
  .seq (.seq (.reg [⟨some 25, none, .mv (.t 4)⟩, ⟨some 26, none, .sop .neq (.t 25) (.c (.str []))⟩])
    (.cond (.t 26)
      (.skip)
      (.exit 0)))
  (.block 1 (.seq (.reg [⟨some 27, none, .mv (.t 4)⟩, ⟨some 28, none, .ixs (.t 27) (.c (.int .i64 0))⟩, ⟨some 8, none, .tk (.t 28)⟩])
    (.seq (.reg [⟨some 29, none, .mv (.t 4)⟩, ⟨some 30, none, .slc (.t 29) (some (.c (.int .i64 1))) none⟩, ⟨some 4, none, .tk (.t 30)⟩])
    (.seq (.seq (.reg [⟨some 31, none, .mv (.t 8)⟩, ⟨some 32, none, .ic .eql (.t 31) (.c (.int .u8 92))⟩])
      (.cond (.t 32)
        (.seq (.seq (.reg [⟨some 34, none, .mv (.t 4)⟩, ⟨some 35, none, .callc n_view_pair [(.t 34)]⟩, ⟨some 33, none, .mv (.t 35)⟩, ⟨some 36, none, .ext (.t 33) 0⟩, ⟨some 37, none, .ext (.t 33) 1⟩, ⟨some 8, none, .tk (.t 36)⟩, ⟨some 5, none, .tk (.t 37)⟩])
            (.seq (.reg [⟨some 38, none, .mv (.t 5)⟩, ⟨some 39, none, .notb (.t 38)⟩])
            (.cond (.t 39)
              (.seq (.reg [⟨some 2, none, .tk (.c (.str []))⟩, ⟨some 3, none, .tk (.c (.bool false))⟩])
                (.ret))
              (.skip))))
          (.reg [⟨some 40, none, .mv (.t 4)⟩, ⟨some 41, none, .slc (.t 40) (some (.c (.int .i64 2))) none⟩, ⟨some 4, none, .tk (.t 41)⟩]))
        (.seq (.reg [⟨some 42, none, .mv (.t 8)⟩, ⟨some 43, none, .callc n_view_plain [(.t 42)]⟩, ⟨some 44, none, .notb (.t 43)⟩])
          (.cond (.t 44)
            (.seq (.reg [⟨some 2, none, .tk (.c (.str []))⟩, ⟨some 3, none, .tk (.c (.bool false))⟩])
              (.ret))
            (.skip)))))
    (.reg [⟨some 45, none, .mv (.t 8)⟩, ⟨some 46, none, .call n_pstrings_Builder_WriteByte [(.t 7), (.t 45)]⟩])))))

def l_view_Unquote_0 : AC :=
  .loop [4, 7] b_view_Unquote_0

def r_view_Unquote_0 : AC :=
  .seq (.reg [⟨some 47, none, .call n_pstrings_Builder_String [(.t 7)]⟩, ⟨some 2, none, .tk (.t 47)⟩, ⟨some 3, none, .tk (.c (.bool true))⟩])
  (.ret)

def c_view_Unquote : AFunc :=
  { np := 1, res := [.t 2, .t 3], body := (
    .seq (.reg [⟨some 2, none, .tk (.c (.str []))⟩, ⟨some 3, none, .tk (.c (.bool false))⟩])
    (.seq (.reg [⟨some 10, none, .mv (.t 0)⟩, ⟨some 11, none, .callc n_strings_CutPrefix [(.t 10), (.c (.str [34]))]⟩, ⟨some 9, none, .mv (.t 11)⟩, ⟨some 12, none, .ext (.t 9) 0⟩, ⟨some 13, none, .ext (.t 9) 1⟩, ⟨some 4, none, .tk (.t 12)⟩, ⟨some 5, none, .tk (.t 13)⟩])
    (.seq (.reg [⟨some 15, none, .mv (.t 4)⟩, ⟨some 16, none, .callc n_strings_CutSuffix [(.t 15), (.c (.str [34]))]⟩, ⟨some 14, none, .mv (.t 16)⟩, ⟨some 17, none, .ext (.t 14) 0⟩, ⟨some 18, none, .ext (.t 14) 1⟩, ⟨some 4, none, .tk (.t 17)⟩, ⟨some 6, none, .tk (.t 18)⟩])
    (.seq (.seq (.reg [⟨some 19, none, .mv (.t 5)⟩, ⟨some 20, none, .notb (.t 19)⟩, ⟨some 21, none, .mv (.t 20)⟩, ⟨some 22, (some (21, false)), .mv (.t 6)⟩, ⟨some 23, (some (21, false)), .notb (.t 22)⟩, ⟨some 24, none, .pick (.t 21) (.c (.bool true)) (.t 23)⟩])
      (.cond (.t 24)
        (.seq (.reg [⟨some 2, none, .tk (.c (.str []))⟩, ⟨some 3, none, .tk (.c (.bool false))⟩])
          (.ret))
        (.skip)))
    (.seq (.reg [⟨some 7, none, .allocb bT bE⟩])
    (.seq (.block 0 (l_view_Unquote_0)) r_view_Unquote_0)))))) }

-- flotsam/parse.simple
def c_parse_simple : AFunc :=
  { np := 1, res := [.t 2, .t 3], body := (
    .seq (.reg [⟨some 1, none, .box (.t 0)⟩, ⟨some 2, none, .tk (.c (.int .i64 0))⟩, ⟨some 3, none, .tk (.c (.bool false))⟩])
    (.seq (.seq (.reg [⟨some 4, none, .fa 0 (.t 1)⟩, ⟨some 5, none, .ld none (.t 4)⟩, ⟨some 6, none, .ic .neq (.t 5) (.c (.int .i64 4))⟩])
      (.cond (.t 6)
        (.seq (.reg [⟨some 2, none, .tk (.c (.int .i64 0))⟩, ⟨some 3, none, .tk (.c (.bool false))⟩])
          (.ret))
        (.skip)))
    (.seq (.seq (.reg [⟨some 7, none, .fa 1 (.t 1)⟩, ⟨some 8, none, .ld none (.t 7)⟩])
      (.block 0 (.seq (.reg [⟨some 10, none, .sop .eql (.t 8) (.c (.str [99, 114, 101, 97, 116, 101]))⟩, ⟨some 9, none, .tk (.t 10)⟩])
        (.cond (.t 9)
          (.seq (.reg [⟨some 2, none, .tk (.c (.int .i64 1))⟩, ⟨some 3, none, .tk (.c (.bool true))⟩])
            (.ret))
          (.seq (.reg [⟨some 12, none, .sop .eql (.t 8) (.c (.str [109, 107, 100, 105, 114]))⟩, ⟨some 11, none, .tk (.t 12)⟩])
            (.cond (.t 11)
              (.seq (.reg [⟨some 2, none, .tk (.c (.int .i64 2))⟩, ⟨some 3, none, .tk (.c (.bool true))⟩])
                (.ret))
              (.seq (.reg [⟨some 14, none, .sop .eql (.t 8) (.c (.str [119, 114, 105, 116, 101]))⟩, ⟨some 13, none, .tk (.t 14)⟩])
                (.cond (.t 13)
                  (.seq (.reg [⟨some 2, none, .tk (.c (.int .i64 3))⟩, ⟨some 3, none, .tk (.c (.bool true))⟩])
                    (.ret))
                  (.seq (.reg [⟨some 16, none, .sop .eql (.t 8) (.c (.str [97, 112, 112, 101, 110, 100]))⟩, ⟨some 15, none, .tk (.t 16)⟩])
                    (.cond (.t 15)
                      (.seq (.reg [⟨some 2, none, .tk (.c (.int .i64 4))⟩, ⟨some 3, none, .tk (.c (.bool true))⟩])
                        (.ret))
                      (.seq (.reg [⟨some 18, none, .sop .eql (.t 8) (.c (.str [116, 114, 117, 110, 99, 97, 116, 101]))⟩, ⟨some 17, none, .tk (.t 18)⟩])
                        (.cond (.t 17)
                          (.seq (.reg [⟨some 2, none, .tk (.c (.int .i64 5))⟩, ⟨some 3, none, .tk (.c (.bool true))⟩])
                            (.ret))
                          (.seq (.reg [⟨some 20, none, .sop .eql (.t 8) (.c (.str [114, 101, 110, 97, 109, 101]))⟩, ⟨some 19, none, .tk (.t 20)⟩])
                            (.cond (.t 19)
                              (.seq (.reg [⟨some 2, none, .tk (.c (.int .i64 6))⟩, ⟨some 3, none, .tk (.c (.bool true))⟩])
                                (.ret))
                              (.seq (.reg [⟨some 22, none, .sop .eql (.t 8) (.c (.str [117, 110, 108, 105, 110, 107]))⟩, ⟨some 21, none, .tk (.t 22)⟩])
                                (.cond (.t 21)
                                  (.seq (.reg [⟨some 2, none, .tk (.c (.int .i64 7))⟩, ⟨some 3, none, .tk (.c (.bool true))⟩])
                                    (.ret))
                                  (.seq (.reg [⟨some 24, none, .sop .eql (.t 8) (.c (.str [102, 115, 121, 110, 99]))⟩, ⟨some 23, none, .tk (.t 24)⟩])
                                    (.cond (.t 23)
                                      (.seq (.reg [⟨some 2, none, .tk (.c (.int .i64 8))⟩, ⟨some 3, none, .tk (.c (.bool true))⟩])
                                        (.ret))
                                      (.seq (.reg [⟨some 26, none, .sop .eql (.t 8) (.c (.str [102, 100, 97, 116, 97, 115, 121, 110, 99]))⟩, ⟨some 25, none, .tk (.t 26)⟩])
                                        (.cond (.t 25)
                                          (.seq (.reg [⟨some 2, none, .tk (.c (.int .i64 9))⟩, ⟨some 3, none, .tk (.c (.bool true))⟩])
                                            (.ret))
                                          (.seq (.reg [⟨some 28, none, .sop .eql (.t 8) (.c (.str [115, 121, 110, 99, 100, 105, 114]))⟩, ⟨some 27, none, .tk (.t 28)⟩])
                                            (.cond (.t 27)
                                              (.seq (.reg [⟨some 2, none, .tk (.c (.int .i64 10))⟩, ⟨some 3, none, .tk (.c (.bool true))⟩])
                                                (.ret))
                                              (.seq (.reg [⟨some 30, none, .sop .eql (.t 8) (.c (.str [114, 101, 112, 108, 97, 121]))⟩, ⟨some 29, none, .tk (.t 30)⟩])
                                                (.cond (.t 29)
                                                  (.seq (.reg [⟨some 2, none, .tk (.c (.int .i64 17))⟩, ⟨some 3, none, .tk (.c (.bool true))⟩])
                                                    (.ret))
                                                  (.seq (.reg [⟨some 32, none, .sop .eql (.t 8) (.c (.str [97, 115, 115, 101, 114, 116]))⟩, ⟨some 31, none, .tk (.t 32)⟩])
                                                    (.cond (.t 31)
                                                      (.seq (.reg [⟨some 2, none, .tk (.c (.int .i64 18))⟩, ⟨some 3, none, .tk (.c (.bool true))⟩])
                                                        (.ret))
                                                      (.seq (.reg [⟨some 34, none, .sop .eql (.t 8) (.c (.str [98, 97, 114, 114, 105, 101, 114]))⟩, ⟨some 33, none, .tk (.t 34)⟩])
                                                        (.cond (.t 33)
                                                          (.seq (.reg [⟨some 2, none, .tk (.c (.int .i64 11))⟩, ⟨some 3, none, .tk (.c (.bool true))⟩])
                                                            (.ret))
                                                          (.skip)))))))))))))))))))))))))))))
    (.seq (.reg [⟨some 2, none, .tk (.c (.int .i64 0))⟩, ⟨some 3, none, .tk (.c (.bool false))⟩])
    (.ret))))) }

-- (*flotsam/parse.parser).exprs
def b_pparse_parser_exprs_0 : AC :=
  .seq (.reg [⟨some 17, none, .ic .lss (.t 16) (.t 15)⟩])
  (.seq (.cond (.t 17)
      (.skip)
      (.exit 0))
  (.seq (.block 1 (.seq (.reg [⟨some 18, none, .mv (.t 16)⟩, ⟨some 8, none, .tk (.t 18)⟩])
      (.seq (.reg [⟨some 9, none, .tk (.c (.str [59]))⟩])
      (.seq (.seq (.reg [⟨some 19, none, .mv (.t 8)⟩, ⟨some 20, none, .ia .add .i64 (.t 19) (.c (.int .i64 1))⟩, ⟨some 21, none, .mv (.t 5)⟩, ⟨some 22, none, .ic .lss (.t 20) (.t 21)⟩])
        (.cond (.t 22)
          (.reg [⟨some 9, none, .tk (.c (.str [44]))⟩])
          (.skip)))
      (.seq (.reg [⟨some 23, none, .tk (.t 7)⟩, ⟨some 24, none, .mv (.t 0)⟩, ⟨some 25, none, .mv (.t 9)⟩, ⟨some 26, none, .call n_pparse_parser_whole [(.t 24), (.t 25)]⟩, ⟨some 27, none, .bsl 4 [.int .i64 0, .int .i64 0, .str [], .sl 4 []] 1 [(0, 4, (.t 26))] false⟩, ⟨some 28, none, .app 4 56 (.t 23) (.t 27) false⟩, ⟨some 7, none, .tk (.t 28)⟩])
      (.reg [⟨some 29, none, .mv (.t 0)⟩, ⟨some 30, none, .nck (.t 29)⟩, ⟨some 31, none, .fa 0 (.t 30)⟩, ⟨some 32, none, .mv (.t 9)⟩, ⟨some 33, none, .call n_pparse_words_wants [(.t 31), (.t 32)]⟩]))))))
  (.reg [⟨some 34, none, .ia .add .i64 (.t 16) (.c (.int .i64 1))⟩, ⟨some 16, none, .mv (.t 34)⟩])))

def l_pparse_parser_exprs_0 : AC :=
  .loop [0, 5, 7, 15, 16] b_pparse_parser_exprs_0

def r_pparse_parser_exprs_0 : AC :=
  .seq (.seq (.reg [⟨some 35, none, .mv (.t 5)⟩, ⟨some 36, none, .ic .eql (.t 35) (.c (.int .i64 0))⟩])
    (.cond (.t 36)
      (.reg [⟨some 37, none, .mv (.t 0)⟩, ⟨some 38, none, .nck (.t 37)⟩, ⟨some 39, none, .fa 0 (.t 38)⟩, ⟨some 40, none, .call n_pparse_words_wants [(.t 39), (.c (.str [59]))]⟩])
      (.skip)))
  (.seq (.reg [⟨some 41, none, .tk (.t 7)⟩, ⟨some 4, none, .tk (.t 41)⟩])
  (.ret))

def c_pparse_parser_exprs : AFunc :=
  { np := 2, res := [.t 4], body := (
    .seq (.reg [⟨some 4, none, .tk (.c (.own 4 []))⟩])
    (.seq (.reg [⟨some 11, none, .mv (.t 1)⟩, ⟨some 12, none, .callc n_tree_Exprs [(.t 11)]⟩, ⟨some 10, none, .mv (.t 12)⟩, ⟨some 13, none, .ext (.t 10) 0⟩, ⟨some 14, none, .ext (.t 10) 1⟩, ⟨some 5, none, .tk (.t 13)⟩, ⟨some 6, none, .tk (.t 14)⟩])
    (.seq (.reg [⟨some 7, none, .tk (.c (.own 4 []))⟩])
    (.seq (.seq (.reg [⟨some 15, none, .mv (.t 5)⟩, ⟨some 16, none, .mv (.c (.int .i64 0))⟩])
      (.block 0 (l_pparse_parser_exprs_0))) r_pparse_parser_exprs_0)))) }

-- (*flotsam/parse.parser).choice
def c_pparse_parser_choice : AFunc :=
  { np := 2, res := [.cell 4 (some 7)], body := (
    .seq (.reg [⟨some 4, none, .alloc [.int .i64 0, .str [], .int .i64 0, .own 4 [], .own 7 [], .own 7 [], .bool false]⟩])
    (.seq (.reg [⟨some 8, none, .mv (.t 0)⟩, ⟨some 9, none, .call n_pparse_parser_whole [(.t 8), (.c (.str [123]))]⟩, ⟨some 10, none, .bsl 4 [.int .i64 0, .int .i64 0, .str [], .sl 4 []] 1 [(0, 4, (.t 9))] false⟩, ⟨some 11, none, .bld [.int .i64 0, .str [], .int .i64 0, .sl 4 [], .sl 7 [], .sl 7 [], .bool false] [(0, 1, (.c (.int .i64 13))), (3, 1, (.t 10))]⟩, ⟨some 5, none, .alloc [.int .i64 0, .str [], .int .i64 0, .own 4 [], .own 7 [], .own 7 [], .bool false]⟩, ⟨none, none, .st 7 (.t 5) (.t 11)⟩])
    (.seq (.reg [⟨some 12, none, .mv (.t 0)⟩, ⟨some 13, none, .mv (.t 1)⟩, ⟨some 14, none, .ia .add .i64 (.t 13) (.c (.int .i64 1))⟩, ⟨some 15, none, .call n_pparse_parser_block [(.t 12), (.t 14)]⟩, ⟨some 16, none, .fa 4 (.t 5)⟩, ⟨none, none, .st 1 (.t 16) (.t 15)⟩])
    (.seq (.seq (.reg [⟨some 18, none, .mv (.t 0)⟩, ⟨some 19, none, .nck (.t 18)⟩, ⟨some 20, none, .fa 0 (.t 19)⟩, ⟨some 21, none, .bsl 1 [.str []] 1 [(0, 1, (.c (.str [101, 108, 115, 101])))] false⟩, ⟨some 22, none, .call n_pparse_words_takes [(.t 20), (.t 21)]⟩, ⟨some 17, none, .mv (.t 22)⟩, ⟨some 23, none, .ext (.t 17) 0⟩, ⟨some 24, none, .ext (.t 17) 1⟩, ⟨some 6, none, .tk (.t 23)⟩, ⟨some 7, none, .tk (.t 24)⟩])
      (.seq (.reg [⟨some 25, none, .mv (.t 7)⟩])
      (.cond (.t 25)
        (.reg [⟨some 26, none, .mv (.t 0)⟩, ⟨some 27, none, .mv (.t 1)⟩, ⟨some 28, none, .ia .add .i64 (.t 27) (.c (.int .i64 1))⟩, ⟨some 29, none, .call n_pparse_parser_block [(.t 26), (.t 28)]⟩, ⟨some 30, none, .fa 5 (.t 5)⟩, ⟨none, none, .st 1 (.t 30) (.t 29)⟩])
        (.skip))))
    (.seq (.reg [⟨some 31, none, .ld (some 7) (.t 5)⟩, ⟨none, none, .st 7 (.t 4) (.t 31)⟩])
    (.ret)))))) }

-- (*flotsam/parse.parser).loop
def c_pparse_parser_loop : AFunc :=
  { np := 2, res := [.cell 4 (some 7)], body := (
    .seq (.reg [⟨some 4, none, .alloc [.int .i64 0, .str [], .int .i64 0, .own 4 [], .own 7 [], .own 7 [], .bool false]⟩])
    (.seq (.reg [⟨some 6, none, .mv (.t 0)⟩, ⟨some 7, none, .nck (.t 6)⟩, ⟨some 8, none, .fa 0 (.t 7)⟩, ⟨some 9, none, .call n_pparse_words_of [(.t 8), (.c (.int .i64 2))]⟩, ⟨some 5, none, .alloc [.int .i64 0, .str [], .int .i64 0, .int .i64 0]⟩, ⟨none, none, .st 4 (.t 5) (.t 9)⟩])
    (.seq (.seq (.reg [⟨some 10, none, .fa 2 (.t 5)⟩, ⟨some 11, none, .ld none (.t 10)⟩, ⟨some 12, none, .ic .gtr (.t 11) (.c (.int .i64 16))⟩])
      (.cond (.t 12)
        (.drw [[], [], [], [], []] [⟨some 13, none, .mv (.t 0)⟩, ⟨some 14, none, .nck (.t 13)⟩, ⟨some 15, none, .fa 0 (.t 14)⟩, ⟨some 16, none, .ld (some 4) (.t 5)⟩, ⟨some 17, none, .call n_pparse_words_fail [(.t 15), (.c (.int .i64 14)), (.t 16)]⟩])
        (.skip)))
    (.seq (.drw [[], [], [], [], [], [], [], []] [⟨some 18, none, .fa 2 (.t 5)⟩, ⟨some 19, none, .ldq none (.t 18) (.t 5)⟩, ⟨some 20, none, .mv (.t 0)⟩, ⟨some 21, none, .mv (.t 1)⟩, ⟨some 22, none, .ia .add .i64 (.t 21) (.c (.int .i64 1))⟩, ⟨some 23, none, .callh n_pparse_parser_block [(.t 20), (.t 22)] (.t 5)⟩, ⟨some 24, none, .bld [.int .i64 0, .str [], .int .i64 0, .sl 4 [], .sl 7 [], .sl 7 [], .bool false] [(0, 1, (.c (.int .i64 14))), (2, 1, (.t 19)), (4, 1, (.t 23))]⟩, ⟨none, none, .st 7 (.t 4) (.t 24)⟩])
    (.ret))))) }

-- (*flotsam/parse.parser).txn
def b_pparse_parser_txn_0 : AC :=
  .block 1 (.seq (.seq (.reg [⟨some 17, none, .mv (.t 0)⟩, ⟨some 18, none, .nck (.t 17)⟩, ⟨some 19, none, .fa 0 (.t 18)⟩, ⟨some 20, none, .bsl 1 [.str []] 1 [(0, 1, (.c (.str [119, 114, 105, 116, 101])))] false⟩, ⟨some 21, none, .call n_pparse_words_sees [(.t 19), (.t 20)]⟩, ⟨some 16, none, .mv (.t 21)⟩, ⟨some 22, none, .ext (.t 16) 0⟩, ⟨some 23, none, .ext (.t 16) 1⟩, ⟨some 6, none, .tk (.t 22)⟩, ⟨some 7, none, .tk (.t 23)⟩])
      (.seq (.reg [⟨some 24, none, .mv (.t 7)⟩, ⟨some 25, none, .notb (.t 24)⟩])
      (.cond (.t 25)
        (.exit 0)
        (.skip))))
    (.seq (.seq (.reg [⟨some 26, none, .fa 4 (.t 5)⟩, ⟨some 27, none, .ld none (.t 26)⟩, ⟨some 28, none, .len false (.t 27)⟩, ⟨some 29, none, .ic .eql (.t 28) (.c (.int .i64 8))⟩])
      (.cond (.t 29)
        (.seq (.drw [[], [], [], [], [], [], [], []] [⟨some 30, none, .mv (.t 0)⟩, ⟨some 31, none, .nck (.t 30)⟩, ⟨some 32, none, .fa 0 (.t 31)⟩, ⟨some 33, none, .mv (.t 0)⟩, ⟨some 34, none, .nck (.t 33)⟩, ⟨some 35, none, .fa 0 (.t 34)⟩, ⟨some 36, none, .call n_pparse_words_head [(.t 35)]⟩, ⟨some 37, none, .call n_pparse_words_fail [(.t 32), (.c (.int .i64 14)), (.t 36)]⟩])
          (.exit 0))
        (.skip)))
    (.drw [[], [], [], [], [], [], [], [], [], []] [⟨some 38, none, .fa 4 (.t 5)⟩, ⟨some 39, none, .ldoq (.t 38) (.t 5)⟩, ⟨some 40, none, .mv (.t 0)⟩, ⟨some 41, none, .mv (.t 1)⟩, ⟨some 42, none, .ia .add .i64 (.t 41) (.c (.int .i64 1))⟩, ⟨some 43, none, .callh n_pparse_parser_stmt [(.t 40), (.t 42)] (.t 5)⟩, ⟨some 44, none, .bsl 7 [.int .i64 0, .str [], .int .i64 0, .sl 4 [], .sl 7 [], .sl 7 [], .bool false] 1 [(0, 7, (.t 43))] false⟩, ⟨some 45, none, .app 7 112 (.t 39) (.t 44) false⟩, ⟨some 46, none, .fa 4 (.t 5)⟩, ⟨none, none, .st 1 (.t 46) (.t 45)⟩])))

def l_pparse_parser_txn_0 : AC :=
  .loop [0, 1, 4, 5] b_pparse_parser_txn_0

def r_pparse_parser_txn_0 : AC :=
  .seq (.reg [⟨some 47, none, .mv (.t 0)⟩, ⟨some 48, none, .nck (.t 47)⟩, ⟨some 49, none, .fa 0 (.t 48)⟩, ⟨some 50, none, .call n_pparse_words_wants [(.t 49), (.c (.str [125]))]⟩])
  (.seq (.reg [⟨some 52, none, .mv (.t 0)⟩, ⟨some 53, none, .nck (.t 52)⟩, ⟨some 54, none, .fa 0 (.t 53)⟩, ⟨some 55, none, .bsl 1 [.str []] 1 [(0, 1, (.c (.str [99, 111, 109, 109, 105, 116])))] false⟩, ⟨some 56, none, .call n_pparse_words_takes [(.t 54), (.t 55)]⟩, ⟨some 51, none, .mv (.t 56)⟩, ⟨some 57, none, .ext (.t 51) 0⟩, ⟨some 58, none, .ext (.t 51) 1⟩, ⟨some 59, none, .fa 6 (.t 5)⟩, ⟨none, none, .st 1 (.t 59) (.t 58)⟩])
  (.seq (.reg [⟨some 60, none, .mv (.t 0)⟩, ⟨some 61, none, .nck (.t 60)⟩, ⟨some 62, none, .fa 0 (.t 61)⟩, ⟨some 63, none, .call n_pparse_words_wants [(.t 62), (.c (.str [59]))]⟩])
  (.seq (.reg [⟨some 64, none, .ld (some 7) (.t 5)⟩, ⟨none, none, .st 7 (.t 4) (.t 64)⟩])
  (.ret))))

def c_pparse_parser_txn : AFunc :=
  { np := 2, res := [.cell 4 (some 7)], body := (
    .seq (.reg [⟨some 4, none, .alloc [.int .i64 0, .str [], .int .i64 0, .own 4 [], .own 7 [], .own 7 [], .bool false]⟩])
    (.seq (.reg [⟨some 8, none, .mv (.t 0)⟩, ⟨some 9, none, .call n_pparse_parser_whole [(.t 8), (.c (.str [123]))]⟩, ⟨some 10, none, .bsl 4 [.int .i64 0, .int .i64 0, .str [], .sl 4 []] 1 [(0, 4, (.t 9))] false⟩, ⟨some 11, none, .bld [.int .i64 0, .str [], .int .i64 0, .sl 4 [], .nils 7, .sl 7 [], .bool false] [(0, 1, (.c (.int .i64 16))), (3, 1, (.t 10))]⟩, ⟨some 5, none, .alloc [.int .i64 0, .str [], .int .i64 0, .own 4 [], .own 7 [], .own 7 [], .bool false]⟩, ⟨none, none, .st 7 (.t 5) (.t 11)⟩])
    (.seq (.reg [⟨some 12, none, .mv (.t 0)⟩, ⟨some 13, none, .nck (.t 12)⟩, ⟨some 14, none, .fa 0 (.t 13)⟩, ⟨some 15, none, .call n_pparse_words_wants [(.t 14), (.c (.str [123]))]⟩])
    (.seq (.block 0 (l_pparse_parser_txn_0)) r_pparse_parser_txn_0)))) }

-- flotsam/parse.kind
def c_parse_kind : AFunc :=
  { np := 1, res := [.t 2], body := (
    .seq (.reg [⟨some 2, none, .tk (.c (.int .i64 0))⟩])
    (.seq (.seq (.reg [⟨some 3, none, .mv (.t 0)⟩])
      (.block 0 (.seq (.reg [⟨some 5, none, .sop .eql (.t 3) (.c (.str [101, 120, 105, 115, 116, 115]))⟩, ⟨some 4, none, .tk (.t 5)⟩])
        (.cond (.t 4)
          (.seq (.reg [⟨some 2, none, .tk (.c (.int .i64 5))⟩])
            (.ret))
          (.seq (.reg [⟨some 7, none, .sop .eql (.t 3) (.c (.str [115, 105, 122, 101]))⟩, ⟨some 6, none, .tk (.t 7)⟩])
            (.cond (.t 6)
              (.seq (.reg [⟨some 2, none, .tk (.c (.int .i64 6))⟩])
                (.ret))
              (.seq (.reg [⟨some 9, none, .sop .eql (.t 3) (.c (.str [114, 101, 97, 100]))⟩, ⟨some 8, none, .tk (.t 9)⟩])
                (.cond (.t 8)
                  (.seq (.reg [⟨some 2, none, .tk (.c (.int .i64 7))⟩])
                    (.ret))
                  (.seq (.reg [⟨some 11, none, .sop .eql (.t 3) (.c (.str [110, 111, 116]))⟩, ⟨some 10, none, .tk (.t 11)⟩])
                    (.cond (.t 10)
                      (.seq (.reg [⟨some 2, none, .tk (.c (.int .i64 8))⟩])
                        (.ret))
                      (.seq (.reg [⟨some 13, none, .sop .eql (.t 3) (.c (.str [43]))⟩, ⟨some 12, none, .tk (.t 13)⟩])
                        (.cond (.t 12)
                          (.seq (.reg [⟨some 2, none, .tk (.c (.int .i64 9))⟩])
                            (.ret))
                          (.seq (.reg [⟨some 15, none, .sop .eql (.t 3) (.c (.str [45]))⟩, ⟨some 14, none, .tk (.t 15)⟩])
                            (.cond (.t 14)
                              (.seq (.reg [⟨some 2, none, .tk (.c (.int .i64 10))⟩])
                                (.ret))
                              (.seq (.reg [⟨some 17, none, .sop .eql (.t 3) (.c (.str [61, 61]))⟩, ⟨some 16, none, .tk (.t 17)⟩])
                                (.cond (.t 16)
                                  (.seq (.reg [⟨some 2, none, .tk (.c (.int .i64 11))⟩])
                                    (.ret))
                                  (.seq (.reg [⟨some 19, none, .sop .eql (.t 3) (.c (.str [60]))⟩, ⟨some 18, none, .tk (.t 19)⟩])
                                    (.cond (.t 18)
                                      (.seq (.reg [⟨some 2, none, .tk (.c (.int .i64 12))⟩])
                                        (.ret))
                                      (.seq (.reg [⟨some 21, none, .sop .eql (.t 3) (.c (.str [97, 110, 100]))⟩, ⟨some 20, none, .tk (.t 21)⟩])
                                        (.cond (.t 20)
                                          (.seq (.reg [⟨some 2, none, .tk (.c (.int .i64 13))⟩])
                                            (.ret))
                                          (.skip)))))))))))))))))))))
    (.seq (.reg [⟨some 2, none, .tk (.c (.int .i64 14))⟩])
    (.ret)))) }

-- (*flotsam/parse.parser).not
def c_pparse_parser_not : AFunc :=
  { np := 1, res := [.cell 2 (some 4)], body := (
    .seq (.reg [⟨some 2, none, .alloc [.int .i64 0, .int .i64 0, .str [], .own 4 []]⟩])
    (.seq (.seq (.reg [⟨some 6, none, .mv (.t 0)⟩, ⟨some 7, none, .nck (.t 6)⟩, ⟨some 8, none, .fa 0 (.t 7)⟩, ⟨some 9, none, .bsl 1 [.str []] 1 [(0, 1, (.c (.str [110, 111, 116])))] false⟩, ⟨some 10, none, .call n_pparse_words_takes [(.t 8), (.t 9)]⟩, ⟨some 5, none, .mv (.t 10)⟩, ⟨some 11, none, .ext (.t 5) 0⟩, ⟨some 12, none, .ext (.t 5) 1⟩, ⟨some 3, none, .tk (.t 11)⟩, ⟨some 4, none, .tk (.t 12)⟩])
      (.seq (.reg [⟨some 13, none, .mv (.t 4)⟩])
      (.cond (.t 13)
        (.seq (.reg [⟨some 14, none, .mv (.t 0)⟩, ⟨some 15, none, .call n_pparse_parser_not [(.t 14)]⟩, ⟨some 16, none, .bsl 4 [.int .i64 0, .int .i64 0, .str [], .sl 4 []] 1 [(0, 4, (.t 15))] false⟩, ⟨some 17, none, .bld [.int .i64 0, .int .i64 0, .str [], .sl 4 []] [(0, 1, (.c (.int .i64 8))), (3, 1, (.t 16))]⟩, ⟨none, none, .st 4 (.t 2) (.t 17)⟩])
          (.ret))
        (.skip))))
    (.seq (.reg [⟨some 18, none, .mv (.t 0)⟩, ⟨some 19, none, .call n_pparse_parser_compare [(.t 18)]⟩, ⟨none, none, .st 4 (.t 2) (.t 19)⟩])
    (.ret)))) }

-- strings.CutPrefix
def c_strings_CutPrefix : AFunc :=
  { np := 2, res := [.t 4, .t 5], body := (
    .seq (.reg [⟨some 4, none, .tk (.c (.str []))⟩, ⟨some 5, none, .tk (.c (.bool false))⟩])
    (.seq (.reg [⟨some 6, none, .mv (.t 0)⟩, ⟨some 7, none, .mv (.t 1)⟩, ⟨some 8, none, .callc n_internal_stringslite_CutPrefix [(.t 6), (.t 7)]⟩, ⟨some 9, none, .ext (.t 8) 0⟩, ⟨some 10, none, .ext (.t 8) 1⟩, ⟨some 4, none, .tk (.t 9)⟩, ⟨some 5, none, .tk (.t 10)⟩])
    (.ret))) }

-- strings.CutSuffix
def c_strings_CutSuffix : AFunc :=
  { np := 2, res := [.t 4, .t 5], body := (
    .seq (.reg [⟨some 4, none, .tk (.c (.str []))⟩, ⟨some 5, none, .tk (.c (.bool false))⟩])
    (.seq (.reg [⟨some 6, none, .mv (.t 0)⟩, ⟨some 7, none, .mv (.t 1)⟩, ⟨some 8, none, .callc n_internal_stringslite_CutSuffix [(.t 6), (.t 7)]⟩, ⟨some 9, none, .ext (.t 8) 0⟩, ⟨some 10, none, .ext (.t 8) 1⟩, ⟨some 4, none, .tk (.t 9)⟩, ⟨some 5, none, .tk (.t 10)⟩])
    (.ret))) }

-- flotsam/view.pair
def c_view_pair : AFunc :=
  { np := 1, res := [.t 2, .t 3], body := (
    .seq (.reg [⟨some 2, none, .tk (.c (.int .u8 0))⟩, ⟨some 3, none, .tk (.c (.bool false))⟩])
    (.seq (.seq (.reg [⟨some 7, none, .mv (.t 0)⟩, ⟨some 8, none, .len true (.t 7)⟩, ⟨some 9, none, .ic .lss (.t 8) (.c (.int .i64 2))⟩])
      (.cond (.t 9)
        (.seq (.reg [⟨some 2, none, .tk (.c (.int .u8 0))⟩, ⟨some 3, none, .tk (.c (.bool false))⟩])
          (.ret))
        (.skip)))
    (.seq (.drw [[], [], [], [], [], [], [], []] [⟨some 10, none, .mv (.t 0)⟩, ⟨some 11, none, .ixs (.t 10) (.c (.int .i64 0))⟩, ⟨some 12, none, .callc n_strings_IndexByte [(.c (.str [48, 49, 50, 51, 52, 53, 54, 55, 56, 57, 97, 98, 99, 100, 101, 102])), (.t 11)]⟩, ⟨some 13, none, .mv (.t 0)⟩, ⟨some 14, none, .ixs (.t 13) (.c (.int .i64 1))⟩, ⟨some 15, none, .callc n_strings_IndexByte [(.c (.str [48, 49, 50, 51, 52, 53, 54, 55, 56, 57, 97, 98, 99, 100, 101, 102])), (.t 14)]⟩, ⟨some 4, none, .tk (.t 12)⟩, ⟨some 5, none, .tk (.t 15)⟩])
    (.seq (.seq (.reg [⟨some 16, none, .mv (.t 4)⟩, ⟨some 17, none, .ic .lss (.t 16) (.c (.int .i64 0))⟩, ⟨some 18, none, .mv (.t 17)⟩, ⟨some 19, (some (18, false)), .mv (.t 5)⟩, ⟨some 20, (some (18, false)), .ic .lss (.t 19) (.c (.int .i64 0))⟩, ⟨some 21, none, .pick (.t 18) (.c (.bool true)) (.t 20)⟩])
      (.cond (.t 21)
        (.seq (.reg [⟨some 2, none, .tk (.c (.int .u8 0))⟩, ⟨some 3, none, .tk (.c (.bool false))⟩])
          (.ret))
        (.skip)))
    (.seq (.reg [⟨some 22, none, .mv (.t 4)⟩, ⟨some 23, none, .ia .shl .i64 (.t 22) (.c (.int .u64 4))⟩, ⟨some 24, none, .mv (.t 5)⟩, ⟨some 25, none, .ia .or .i64 (.t 23) (.t 24)⟩, ⟨some 26, none, .conv .u8 (.t 25)⟩, ⟨some 6, none, .tk (.t 26)⟩])
    (.seq (.reg [⟨some 27, none, .mv (.t 6)⟩, ⟨some 28, none, .mv (.t 6)⟩, ⟨some 29, none, .callc n_view_plain [(.t 28)]⟩, ⟨some 30, none, .notb (.t 29)⟩, ⟨some 2, none, .tk (.t 27)⟩, ⟨some 3, none, .tk (.t 30)⟩])
    (.ret))))))) }

-- flotsam/tree.Exprs
def c_tree_Exprs : AFunc :=
  { np := 1, res := [.t 2, .t 3], body := (
    .seq (.reg [⟨some 2, none, .tk (.c (.int .i64 0))⟩, ⟨some 3, none, .tk (.c (.bool false))⟩])
    (.seq (.seq (.reg [⟨some 4, none, .mv (.t 0)⟩])
      (.block 0 (.seq (.seq (.reg [⟨some 6, none, .ic .eql (.t 4) (.c (.int .i64 11))⟩, ⟨some 5, none, .tk (.t 6)⟩])
          (.cond (.t 5)
            (.skip)
            (.seq (.reg [⟨some 7, none, .ic .eql (.t 4) (.c (.int .i64 14))⟩, ⟨some 5, none, .tk (.t 7)⟩])
              (.cond (.t 5)
                (.skip)
                (.reg [⟨some 8, none, .ic .eql (.t 4) (.c (.int .i64 15))⟩, ⟨some 5, none, .tk (.t 8)⟩])))))
        (.cond (.t 5)
          (.seq (.reg [⟨some 2, none, .tk (.c (.int .i64 0))⟩, ⟨some 3, none, .tk (.c (.bool true))⟩])
            (.ret))
          (.seq (.seq (.reg [⟨some 10, none, .ic .eql (.t 4) (.c (.int .i64 4))⟩, ⟨some 9, none, .tk (.t 10)⟩])
              (.cond (.t 9)
                (.skip)
                (.seq (.reg [⟨some 11, none, .ic .eql (.t 4) (.c (.int .i64 5))⟩, ⟨some 9, none, .tk (.t 11)⟩])
                  (.cond (.t 9)
                    (.skip)
                    (.reg [⟨some 12, none, .ic .eql (.t 4) (.c (.int .i64 6))⟩, ⟨some 9, none, .tk (.t 12)⟩])))))
            (.cond (.t 9)
              (.seq (.reg [⟨some 2, none, .tk (.c (.int .i64 2))⟩, ⟨some 3, none, .tk (.c (.bool true))⟩])
                (.ret))
              (.seq (.reg [⟨some 14, none, .ic .eql (.t 4) (.c (.int .i64 3))⟩, ⟨some 13, none, .tk (.t 14)⟩])
                (.cond (.t 13)
                  (.seq (.reg [⟨some 2, none, .tk (.c (.int .i64 3))⟩, ⟨some 3, none, .tk (.c (.bool true))⟩])
                    (.ret))
                  (.skip)))))))))
    (.seq (.seq (.reg [⟨some 15, none, .mv (.t 0)⟩, ⟨some 16, none, .ic .lss (.t 15) (.c (.int .i64 1))⟩, ⟨some 17, none, .mv (.t 16)⟩, ⟨some 18, (some (17, false)), .mv (.t 0)⟩, ⟨some 19, (some (17, false)), .ic .gtr (.t 18) (.c (.int .i64 18))⟩, ⟨some 20, none, .pick (.t 17) (.c (.bool true)) (.t 19)⟩])
      (.cond (.t 20)
        (.seq (.reg [⟨some 2, none, .tk (.c (.int .i64 0))⟩, ⟨some 3, none, .tk (.c (.bool false))⟩])
          (.ret))
        (.skip)))
    (.seq (.reg [⟨some 2, none, .tk (.c (.int .i64 1))⟩, ⟨some 3, none, .tk (.c (.bool true))⟩])
    (.ret))))) }

-- (*flotsam/parse.parser).compare
def c_pparse_parser_compare : AFunc :=
  { np := 1, res := [.cell 2 (some 4)], body := (
    .seq (.reg [⟨some 2, none, .alloc [.int .i64 0, .int .i64 0, .str [], .own 4 []]⟩])
    (.seq (.reg [⟨some 3, none, .mv (.t 0)⟩, ⟨some 4, none, .mv (.t 0)⟩, ⟨some 5, none, .mkf (.func n_pparse_parser_sum) [(.t 4)] []⟩, ⟨some 6, none, .bsl 1 [.str []] 2 [(0, 1, (.c (.str [61, 61]))), (1, 1, (.c (.str [60])))] false⟩, ⟨some 7, none, .call n_pparse_parser_chain [(.t 3), (.t 5), (.c (.int .i64 1)), (.t 6)]⟩, ⟨none, none, .st 4 (.t 2) (.t 7)⟩])
    (.ret))) }

-- internal/stringslite.CutPrefix
def c_internal_stringslite_CutPrefix : AFunc :=
  { np := 2, res := [.t 4, .t 5], body := (
    .seq (.reg [⟨some 4, none, .tk (.c (.str []))⟩, ⟨some 5, none, .tk (.c (.bool false))⟩])
    (.seq (.seq (.reg [⟨some 6, none, .mv (.t 0)⟩, ⟨some 7, none, .mv (.t 1)⟩, ⟨some 8, none, .callc n_internal_stringslite_HasPrefix [(.t 6), (.t 7)]⟩, ⟨some 9, none, .notb (.t 8)⟩])
      (.cond (.t 9)
        (.seq (.reg [⟨some 10, none, .mv (.t 0)⟩, ⟨some 4, none, .tk (.t 10)⟩, ⟨some 5, none, .tk (.c (.bool false))⟩])
          (.ret))
        (.skip)))
    (.seq (.reg [⟨some 11, none, .mv (.t 0)⟩, ⟨some 12, none, .mv (.t 1)⟩, ⟨some 13, none, .len true (.t 12)⟩, ⟨some 14, none, .slc (.t 11) (some (.t 13)) none⟩, ⟨some 4, none, .tk (.t 14)⟩, ⟨some 5, none, .tk (.c (.bool true))⟩])
    (.ret)))) }

-- internal/stringslite.CutSuffix
def c_internal_stringslite_CutSuffix : AFunc :=
  { np := 2, res := [.t 4, .t 5], body := (
    .seq (.reg [⟨some 4, none, .tk (.c (.str []))⟩, ⟨some 5, none, .tk (.c (.bool false))⟩])
    (.seq (.seq (.reg [⟨some 6, none, .mv (.t 0)⟩, ⟨some 7, none, .mv (.t 1)⟩, ⟨some 8, none, .callc n_internal_stringslite_HasSuffix [(.t 6), (.t 7)]⟩, ⟨some 9, none, .notb (.t 8)⟩])
      (.cond (.t 9)
        (.seq (.reg [⟨some 10, none, .mv (.t 0)⟩, ⟨some 4, none, .tk (.t 10)⟩, ⟨some 5, none, .tk (.c (.bool false))⟩])
          (.ret))
        (.skip)))
    (.seq (.reg [⟨some 11, none, .mv (.t 0)⟩, ⟨some 12, none, .mv (.t 0)⟩, ⟨some 13, none, .len true (.t 12)⟩, ⟨some 14, none, .mv (.t 1)⟩, ⟨some 15, none, .len true (.t 14)⟩, ⟨some 16, none, .ia .sub .i64 (.t 13) (.t 15)⟩, ⟨some 17, none, .slc (.t 11) none (some (.t 16))⟩, ⟨some 4, none, .tk (.t 17)⟩, ⟨some 5, none, .tk (.c (.bool true))⟩])
    (.ret)))) }

-- (*flotsam/parse.parser).sum
def c_pparse_parser_sum : AFunc :=
  { np := 1, res := [.cell 2 (some 4)], body := (
    .seq (.reg [⟨some 2, none, .alloc [.int .i64 0, .int .i64 0, .str [], .own 4 []]⟩])
    (.seq (.reg [⟨some 3, none, .mv (.t 0)⟩, ⟨some 4, none, .mv (.t 0)⟩, ⟨some 5, none, .mkf (.func n_pparse_parser_part) [(.t 4)] []⟩, ⟨some 6, none, .bsl 1 [.str []] 2 [(0, 1, (.c (.str [43]))), (1, 1, (.c (.str [45])))] false⟩, ⟨some 7, none, .call n_pparse_parser_chain [(.t 3), (.t 5), (.c (.int .i64 4096)), (.t 6)]⟩, ⟨none, none, .st 4 (.t 2) (.t 7)⟩])
    (.ret))) }

-- internal/stringslite.HasSuffix
def c_internal_stringslite_HasSuffix : AFunc :=
  { np := 2, res := [.t 4], body := (
    .seq (.reg [⟨some 4, none, .tk (.c (.bool false))⟩])
    (.seq (.reg [⟨some 5, none, .mv (.t 0)⟩, ⟨some 6, none, .len true (.t 5)⟩, ⟨some 7, none, .mv (.t 1)⟩, ⟨some 8, none, .len true (.t 7)⟩, ⟨some 9, none, .ic .geq (.t 6) (.t 8)⟩, ⟨some 10, none, .mv (.t 9)⟩, ⟨some 11, (some (10, true)), .mv (.t 0)⟩, ⟨some 12, (some (10, true)), .mv (.t 0)⟩, ⟨some 13, (some (10, true)), .len true (.t 12)⟩, ⟨some 14, (some (10, true)), .mv (.t 1)⟩, ⟨some 15, (some (10, true)), .len true (.t 14)⟩, ⟨some 16, (some (10, true)), .ia .sub .i64 (.t 13) (.t 15)⟩, ⟨some 17, (some (10, true)), .slc (.t 11) (some (.t 16)) none⟩, ⟨some 18, (some (10, true)), .mv (.t 1)⟩, ⟨some 19, (some (10, true)), .sop .eql (.t 17) (.t 18)⟩, ⟨some 20, none, .pick (.t 10) (.t 19) (.c (.bool false))⟩, ⟨some 4, none, .tk (.t 20)⟩])
    (.ret))) }

-- (*flotsam/parse.parser).part
def c_pparse_parser_part : AFunc :=
  { np := 1, res := [.cell 2 (some 4)], body := (
    .seq (.reg [⟨some 2, none, .alloc [.int .i64 0, .int .i64 0, .str [], .own 4 []]⟩])
    (.seq (.reg [⟨some 8, none, .mv (.t 0)⟩, ⟨some 9, none, .nck (.t 8)⟩, ⟨some 10, none, .fa 0 (.t 9)⟩, ⟨some 11, none, .call n_pparse_words_head [(.t 10)]⟩, ⟨some 3, none, .alloc [.int .i64 0, .str [], .int .i64 0, .int .i64 0]⟩, ⟨none, none, .st 4 (.t 3) (.t 11)⟩])
    (.seq (.seq (.reg [⟨some 12, none, .fa 0 (.t 3)⟩, ⟨some 13, none, .ld none (.t 12)⟩])
      (.block 0 (.seq (.reg [⟨some 15, none, .ic .eql (.t 13) (.c (.int .i64 2))⟩, ⟨some 14, none, .tk (.t 15)⟩])
        (.cond (.t 14)
          (.seq (.reg [⟨some 16, none, .mv (.t 0)⟩, ⟨some 17, none, .nck (.t 16)⟩, ⟨some 18, none, .fa 0 (.t 17)⟩, ⟨some 19, none, .call n_pparse_words_skip [(.t 18)]⟩, ⟨some 20, none, .fld none 2 (.t 19)⟩, ⟨some 21, none, .bld [.int .i64 0, .int .i64 0, .str [], .sl 4 []] [(0, 1, (.c (.int .i64 1))), (1, 1, (.t 20))]⟩, ⟨none, none, .st 4 (.t 2) (.t 21)⟩])
            (.ret))
          (.seq (.reg [⟨some 23, none, .ic .eql (.t 13) (.c (.int .i64 3))⟩, ⟨some 22, none, .tk (.t 23)⟩])
            (.cond (.t 22)
              (.seq (.reg [⟨some 24, none, .mv (.t 0)⟩, ⟨some 25, none, .nck (.t 24)⟩, ⟨some 26, none, .fa 0 (.t 25)⟩, ⟨some 27, none, .call n_pparse_words_skip [(.t 26)]⟩, ⟨some 28, none, .fld none 1 (.t 27)⟩, ⟨some 29, none, .bld [.int .i64 0, .int .i64 0, .str [], .sl 4 []] [(0, 1, (.c (.int .i64 2))), (2, 1, (.t 28))]⟩, ⟨none, none, .st 4 (.t 2) (.t 29)⟩])
                (.ret))
              (.seq (.reg [⟨some 31, none, .ic .eql (.t 13) (.c (.int .i64 1))⟩, ⟨some 30, none, .tk (.t 31)⟩])
                (.cond (.t 30)
                  (.seq (.reg [⟨some 32, none, .mv (.t 0)⟩, ⟨some 33, none, .nck (.t 32)⟩, ⟨some 34, none, .fa 0 (.t 33)⟩, ⟨some 35, none, .call n_pparse_words_skip [(.t 34)]⟩, ⟨some 36, none, .fld none 1 (.t 35)⟩, ⟨some 37, none, .bld [.int .i64 0, .int .i64 0, .str [], .sl 4 []] [(0, 1, (.c (.int .i64 4))), (2, 1, (.t 36))]⟩, ⟨none, none, .st 4 (.t 2) (.t 37)⟩])
                    (.ret))
                  (.skip)))))))))
    (.seq (.seq (.reg [⟨some 39, none, .mv (.t 0)⟩, ⟨some 40, none, .nck (.t 39)⟩, ⟨some 41, none, .fa 0 (.t 40)⟩, ⟨some 42, none, .bsl 1 [.str []] 1 [(0, 1, (.c (.str [40])))] false⟩, ⟨some 43, none, .call n_pparse_words_sees [(.t 41), (.t 42)]⟩, ⟨some 38, none, .mv (.t 43)⟩, ⟨some 44, none, .ext (.t 38) 0⟩, ⟨some 45, none, .ext (.t 38) 1⟩, ⟨some 4, none, .tk (.t 44)⟩, ⟨some 5, none, .tk (.t 45)⟩])
      (.seq (.reg [⟨some 46, none, .mv (.t 5)⟩])
      (.cond (.t 46)
        (.seq (.reg [⟨some 47, none, .mv (.t 0)⟩, ⟨some 48, none, .call n_pparse_parser_inner [(.t 47)]⟩, ⟨none, none, .st 4 (.t 2) (.t 48)⟩])
          (.ret))
        (.skip))))
    (.seq (.reg [⟨some 50, none, .mv (.t 0)⟩, ⟨some 51, none, .nck (.t 50)⟩, ⟨some 52, none, .fa 0 (.t 51)⟩, ⟨some 53, none, .bsl 1 [.str []] 5 [(0, 1, (.c (.str [116, 114, 117, 101]))), (1, 1, (.c (.str [102, 97, 108, 115, 101]))), (2, 1, (.c (.str [101, 120, 105, 115, 116, 115]))), (3, 1, (.c (.str [115, 105, 122, 101]))), (4, 1, (.c (.str [114, 101, 97, 100])))] false⟩, ⟨some 54, none, .call n_pparse_words_takes [(.t 52), (.t 53)]⟩, ⟨some 49, none, .mv (.t 54)⟩, ⟨some 55, none, .ext (.t 49) 0⟩, ⟨some 56, none, .ext (.t 49) 1⟩, ⟨some 6, none, .tk (.t 55)⟩, ⟨some 7, none, .tk (.t 56)⟩])
    (.seq (.block 1 (.seq (.reg [⟨some 58, none, .mv (.t 7)⟩, ⟨some 59, none, .notb (.t 58)⟩, ⟨some 57, none, .tk (.t 59)⟩])
        (.cond (.t 57)
          (.seq (.drw [[], [], [], [], []] [⟨some 60, none, .mv (.t 0)⟩, ⟨some 61, none, .nck (.t 60)⟩, ⟨some 62, none, .fa 0 (.t 61)⟩, ⟨some 63, none, .ld (some 4) (.t 3)⟩, ⟨some 64, none, .call n_pparse_words_fail [(.t 62), (.c (.int .i64 12)), (.t 63)]⟩])
            (.seq (.reg [⟨some 65, none, .bld [.int .i64 0, .int .i64 0, .str [], .sl 4 []] []⟩, ⟨none, none, .st 4 (.t 2) (.t 65)⟩])
            (.ret)))
          (.seq (.reg [⟨some 67, none, .mv (.t 6)⟩, ⟨some 68, none, .sop .eql (.t 67) (.c (.str [116, 114, 117, 101]))⟩, ⟨some 66, none, .tk (.t 68)⟩])
            (.cond (.t 66)
              (.seq (.reg [⟨some 69, none, .bld [.int .i64 0, .int .i64 0, .str [], .sl 4 []] [(0, 1, (.c (.int .i64 3))), (1, 1, (.c (.int .i64 1)))]⟩, ⟨none, none, .st 4 (.t 2) (.t 69)⟩])
                (.ret))
              (.seq (.reg [⟨some 71, none, .mv (.t 6)⟩, ⟨some 72, none, .sop .eql (.t 71) (.c (.str [102, 97, 108, 115, 101]))⟩, ⟨some 70, none, .tk (.t 72)⟩])
                (.cond (.t 70)
                  (.seq (.reg [⟨some 73, none, .bld [.int .i64 0, .int .i64 0, .str [], .sl 4 []] [(0, 1, (.c (.int .i64 3)))]⟩, ⟨none, none, .st 4 (.t 2) (.t 73)⟩])
                    (.ret))
                  (.skip))))))))
    (.seq (.reg [⟨some 74, none, .mv (.t 6)⟩, ⟨some 75, none, .callc n_parse_kind [(.t 74)]⟩, ⟨some 76, none, .mv (.t 0)⟩, ⟨some 77, none, .call n_pparse_parser_inner [(.t 76)]⟩, ⟨some 78, none, .bsl 4 [.int .i64 0, .int .i64 0, .str [], .sl 4 []] 1 [(0, 4, (.t 77))] false⟩, ⟨some 79, none, .bld [.int .i64 0, .int .i64 0, .str [], .sl 4 []] [(0, 1, (.t 75)), (3, 1, (.t 78))]⟩, ⟨none, none, .st 4 (.t 2) (.t 79)⟩])
    (.ret)))))))) }

-- (*flotsam/parse.parser).inner
def c_pparse_parser_inner : AFunc :=
  { np := 1, res := [.cell 2 (some 4)], body := (
    .seq (.reg [⟨some 2, none, .alloc [.int .i64 0, .int .i64 0, .str [], .own 4 []]⟩])
    (.seq (.reg [⟨some 4, none, .mv (.t 0)⟩, ⟨some 5, none, .nck (.t 4)⟩, ⟨some 6, none, .fa 0 (.t 5)⟩, ⟨some 7, none, .call n_pparse_words_wants [(.t 6), (.c (.str [40]))]⟩])
    (.seq (.reg [⟨some 8, none, .mv (.t 0)⟩, ⟨some 9, none, .call n_pparse_parser_expr [(.t 8)]⟩, ⟨some 3, none, .alloc [.int .i64 0, .int .i64 0, .str [], .own 4 []]⟩, ⟨none, none, .st 4 (.t 3) (.t 9)⟩])
    (.seq (.reg [⟨some 10, none, .mv (.t 0)⟩, ⟨some 11, none, .nck (.t 10)⟩, ⟨some 12, none, .fa 0 (.t 11)⟩, ⟨some 13, none, .call n_pparse_words_wants [(.t 12), (.c (.str [41]))]⟩])
    (.seq (.reg [⟨some 14, none, .ld (some 4) (.t 3)⟩, ⟨none, none, .st 4 (.t 2) (.t 14)⟩])
    (.ret)))))) }

def tbl : Tbl := Tab.get [(3, c_flotsamlaw17_ParseBlanks), (4, c_flotsamlaw17_knows), (5, c_flotsamlaw17_spaced), (6, c_parse_Program), (7, c_flotsamref16_Same), (8, c_parse_Expr), (9, c_flotsamlaw15_Fault), (10, c_lex_Show), (11, c_lex_Words), (12, c_pparse_parser_program), (13, c_flotsamref16_SameStmts), (14, c_flotsamref16_SameExpr), (15, c_pparse_parser_whole), (16, c_num_Digits), (17, c_view_Quote), (18, c_slices_Equal_api_Word_api_Word), (19, c_lex_skip), (20, c_lex_next), (21, c_pparse_parser_named), (22, c_pparse_parser_block), (23, c_pparse_words_wants), (24, c_pparse_words_takes), (25, c_pparse_words_of), (26, c_flotsamref16_SameStmt), (27, c_pparse_words_head), (28, c_pparse_parser_expr), (29, c_pparse_words_sees), (30, c_pparse_words_fail), (31, c_parse_deep), (33, c_view_plain), (36, c_strings_HasPrefix), (38, c_lex_begins), (39, c_lex_letter), (40, c_lex_word), (41, c_lex_digit), (42, c_lex_number), (43, c_lex_text), (44, c_lex_sign), (45, c_pparse_parser_stmt), (46, c_pparse_words_skip), (47, c_pparse_parser_chain), (48, c_pparse_parser_both), (54, c_internal_stringslite_HasPrefix), (57, c_lex_inner), (58, c_lex_Key), (59, c_lex_Name), (60, c_num_Read), (61, c_view_Unquote), (62, c_parse_simple), (63, c_pparse_parser_exprs), (64, c_pparse_parser_choice), (65, c_pparse_parser_loop), (66, c_pparse_parser_txn), (67, c_parse_kind), (68, c_pparse_parser_not), (77, c_strings_CutPrefix), (78, c_strings_CutSuffix), (79, c_view_pair), (80, c_tree_Exprs), (81, c_pparse_parser_compare), (86, c_internal_stringslite_CutPrefix), (87, c_internal_stringslite_CutSuffix), (88, c_pparse_parser_sum), (93, c_internal_stringslite_HasSuffix), (94, c_pparse_parser_part), (96, c_pparse_parser_inner)]

theorem t_flotsamlaw17_ParseBlanks : tbl n_flotsamlaw17_ParseBlanks = some c_flotsamlaw17_ParseBlanks := by kernel_rfl
theorem t_flotsamlaw17_knows : tbl n_flotsamlaw17_knows = some c_flotsamlaw17_knows := by kernel_rfl
theorem t_flotsamlaw17_spaced : tbl n_flotsamlaw17_spaced = some c_flotsamlaw17_spaced := by kernel_rfl
theorem t_parse_Program : tbl n_parse_Program = some c_parse_Program := by kernel_rfl
theorem t_flotsamref16_Same : tbl n_flotsamref16_Same = some c_flotsamref16_Same := by kernel_rfl
theorem t_parse_Expr : tbl n_parse_Expr = some c_parse_Expr := by kernel_rfl
theorem t_flotsamlaw15_Fault : tbl n_flotsamlaw15_Fault = some c_flotsamlaw15_Fault := by kernel_rfl
theorem t_lex_Show : tbl n_lex_Show = some c_lex_Show := by kernel_rfl
theorem t_lex_Words : tbl n_lex_Words = some c_lex_Words := by kernel_rfl
theorem t_pparse_parser_program : tbl n_pparse_parser_program = some c_pparse_parser_program := by kernel_rfl
theorem t_flotsamref16_SameStmts : tbl n_flotsamref16_SameStmts = some c_flotsamref16_SameStmts := by kernel_rfl
theorem t_flotsamref16_SameExpr : tbl n_flotsamref16_SameExpr = some c_flotsamref16_SameExpr := by kernel_rfl
theorem t_pparse_parser_whole : tbl n_pparse_parser_whole = some c_pparse_parser_whole := by kernel_rfl
theorem t_num_Digits : tbl n_num_Digits = some c_num_Digits := by kernel_rfl
theorem t_view_Quote : tbl n_view_Quote = some c_view_Quote := by kernel_rfl
theorem t_slices_Equal_api_Word_api_Word : tbl n_slices_Equal_api_Word_api_Word = some c_slices_Equal_api_Word_api_Word := by kernel_rfl
theorem t_lex_skip : tbl n_lex_skip = some c_lex_skip := by kernel_rfl
theorem t_lex_next : tbl n_lex_next = some c_lex_next := by kernel_rfl
theorem t_pparse_parser_named : tbl n_pparse_parser_named = some c_pparse_parser_named := by kernel_rfl
theorem t_pparse_parser_block : tbl n_pparse_parser_block = some c_pparse_parser_block := by kernel_rfl
theorem t_pparse_words_wants : tbl n_pparse_words_wants = some c_pparse_words_wants := by kernel_rfl
theorem t_pparse_words_takes : tbl n_pparse_words_takes = some c_pparse_words_takes := by kernel_rfl
theorem t_pparse_words_of : tbl n_pparse_words_of = some c_pparse_words_of := by kernel_rfl
theorem t_flotsamref16_SameStmt : tbl n_flotsamref16_SameStmt = some c_flotsamref16_SameStmt := by kernel_rfl
theorem t_pparse_words_head : tbl n_pparse_words_head = some c_pparse_words_head := by kernel_rfl
theorem t_pparse_parser_expr : tbl n_pparse_parser_expr = some c_pparse_parser_expr := by kernel_rfl
theorem t_pparse_words_sees : tbl n_pparse_words_sees = some c_pparse_words_sees := by kernel_rfl
theorem t_pparse_words_fail : tbl n_pparse_words_fail = some c_pparse_words_fail := by kernel_rfl
theorem t_parse_deep : tbl n_parse_deep = some c_parse_deep := by kernel_rfl
theorem t_view_plain : tbl n_view_plain = some c_view_plain := by kernel_rfl
theorem t_strings_HasPrefix : tbl n_strings_HasPrefix = some c_strings_HasPrefix := by kernel_rfl
theorem t_lex_begins : tbl n_lex_begins = some c_lex_begins := by kernel_rfl
theorem t_lex_letter : tbl n_lex_letter = some c_lex_letter := by kernel_rfl
theorem t_lex_word : tbl n_lex_word = some c_lex_word := by kernel_rfl
theorem t_lex_digit : tbl n_lex_digit = some c_lex_digit := by kernel_rfl
theorem t_lex_number : tbl n_lex_number = some c_lex_number := by kernel_rfl
theorem t_lex_text : tbl n_lex_text = some c_lex_text := by kernel_rfl
theorem t_lex_sign : tbl n_lex_sign = some c_lex_sign := by kernel_rfl
theorem t_pparse_parser_stmt : tbl n_pparse_parser_stmt = some c_pparse_parser_stmt := by kernel_rfl
theorem t_pparse_words_skip : tbl n_pparse_words_skip = some c_pparse_words_skip := by kernel_rfl
theorem t_pparse_parser_chain : tbl n_pparse_parser_chain = some c_pparse_parser_chain := by kernel_rfl
theorem t_pparse_parser_both : tbl n_pparse_parser_both = some c_pparse_parser_both := by kernel_rfl
theorem t_internal_stringslite_HasPrefix : tbl n_internal_stringslite_HasPrefix = some c_internal_stringslite_HasPrefix := by kernel_rfl
theorem t_lex_inner : tbl n_lex_inner = some c_lex_inner := by kernel_rfl
theorem t_lex_Key : tbl n_lex_Key = some c_lex_Key := by kernel_rfl
theorem t_lex_Name : tbl n_lex_Name = some c_lex_Name := by kernel_rfl
theorem t_num_Read : tbl n_num_Read = some c_num_Read := by kernel_rfl
theorem t_view_Unquote : tbl n_view_Unquote = some c_view_Unquote := by kernel_rfl
theorem t_parse_simple : tbl n_parse_simple = some c_parse_simple := by kernel_rfl
theorem t_pparse_parser_exprs : tbl n_pparse_parser_exprs = some c_pparse_parser_exprs := by kernel_rfl
theorem t_pparse_parser_choice : tbl n_pparse_parser_choice = some c_pparse_parser_choice := by kernel_rfl
theorem t_pparse_parser_loop : tbl n_pparse_parser_loop = some c_pparse_parser_loop := by kernel_rfl
theorem t_pparse_parser_txn : tbl n_pparse_parser_txn = some c_pparse_parser_txn := by kernel_rfl
theorem t_parse_kind : tbl n_parse_kind = some c_parse_kind := by kernel_rfl
theorem t_pparse_parser_not : tbl n_pparse_parser_not = some c_pparse_parser_not := by kernel_rfl
theorem t_strings_CutPrefix : tbl n_strings_CutPrefix = some c_strings_CutPrefix := by kernel_rfl
theorem t_strings_CutSuffix : tbl n_strings_CutSuffix = some c_strings_CutSuffix := by kernel_rfl
theorem t_view_pair : tbl n_view_pair = some c_view_pair := by kernel_rfl
theorem t_tree_Exprs : tbl n_tree_Exprs = some c_tree_Exprs := by kernel_rfl
theorem t_pparse_parser_compare : tbl n_pparse_parser_compare = some c_pparse_parser_compare := by kernel_rfl
theorem t_internal_stringslite_CutPrefix : tbl n_internal_stringslite_CutPrefix = some c_internal_stringslite_CutPrefix := by kernel_rfl
theorem t_internal_stringslite_CutSuffix : tbl n_internal_stringslite_CutSuffix = some c_internal_stringslite_CutSuffix := by kernel_rfl
theorem t_pparse_parser_sum : tbl n_pparse_parser_sum = some c_pparse_parser_sum := by kernel_rfl
theorem t_internal_stringslite_HasSuffix : tbl n_internal_stringslite_HasSuffix = some c_internal_stringslite_HasSuffix := by kernel_rfl
theorem t_pparse_parser_part : tbl n_pparse_parser_part = some c_pparse_parser_part := by kernel_rfl
theorem t_pparse_parser_inner : tbl n_pparse_parser_inner = some c_pparse_parser_inner := by kernel_rfl

/-- The functions that are taken as given. -/
def noExt : Ext := fun k => if k = n_strings_Contains then some (xContains) else if k = n_strings_TrimLeft then some (xTrimLeft) else if k = n_strings_IndexByte then some (xIndexByte) else if k = n_pstrings_Builder_WriteByte then some (xWriteByte bT bE) else if k = n_pstrings_Builder_String then some (xString bT bE) else if k = n_lex_run then some (xRun n_lex_letter n_lex_digit n_lex_inner) else none

theorem lt_flotsamlaw17_ParseBlanks : n_flotsamlaw17_ParseBlanks < yBase := Nat.le_of_ble_eq_true rfl
theorem lt_flotsamlaw17_knows : n_flotsamlaw17_knows < yBase := Nat.le_of_ble_eq_true rfl
theorem lt_flotsamlaw17_spaced : n_flotsamlaw17_spaced < yBase := Nat.le_of_ble_eq_true rfl
theorem lt_parse_Program : n_parse_Program < yBase := Nat.le_of_ble_eq_true rfl
theorem lt_flotsamref16_Same : n_flotsamref16_Same < yBase := Nat.le_of_ble_eq_true rfl
theorem lt_parse_Expr : n_parse_Expr < yBase := Nat.le_of_ble_eq_true rfl
theorem lt_flotsamlaw15_Fault : n_flotsamlaw15_Fault < yBase := Nat.le_of_ble_eq_true rfl
theorem lt_lex_Show : n_lex_Show < yBase := Nat.le_of_ble_eq_true rfl
theorem lt_lex_Words : n_lex_Words < yBase := Nat.le_of_ble_eq_true rfl
theorem lt_pparse_parser_program : n_pparse_parser_program < yBase := Nat.le_of_ble_eq_true rfl
theorem lt_flotsamref16_SameStmts : n_flotsamref16_SameStmts < yBase := Nat.le_of_ble_eq_true rfl
theorem lt_flotsamref16_SameExpr : n_flotsamref16_SameExpr < yBase := Nat.le_of_ble_eq_true rfl
theorem lt_pparse_parser_whole : n_pparse_parser_whole < yBase := Nat.le_of_ble_eq_true rfl
theorem lt_num_Digits : n_num_Digits < yBase := Nat.le_of_ble_eq_true rfl
theorem lt_view_Quote : n_view_Quote < yBase := Nat.le_of_ble_eq_true rfl
theorem lt_slices_Equal_api_Word_api_Word : n_slices_Equal_api_Word_api_Word < yBase := Nat.le_of_ble_eq_true rfl
theorem lt_lex_skip : n_lex_skip < yBase := Nat.le_of_ble_eq_true rfl
theorem lt_lex_next : n_lex_next < yBase := Nat.le_of_ble_eq_true rfl
theorem lt_pparse_parser_named : n_pparse_parser_named < yBase := Nat.le_of_ble_eq_true rfl
theorem lt_pparse_parser_block : n_pparse_parser_block < yBase := Nat.le_of_ble_eq_true rfl
theorem lt_pparse_words_wants : n_pparse_words_wants < yBase := Nat.le_of_ble_eq_true rfl
theorem lt_pparse_words_takes : n_pparse_words_takes < yBase := Nat.le_of_ble_eq_true rfl
theorem lt_pparse_words_of : n_pparse_words_of < yBase := Nat.le_of_ble_eq_true rfl
theorem lt_flotsamref16_SameStmt : n_flotsamref16_SameStmt < yBase := Nat.le_of_ble_eq_true rfl
theorem lt_pparse_words_head : n_pparse_words_head < yBase := Nat.le_of_ble_eq_true rfl
theorem lt_pparse_parser_expr : n_pparse_parser_expr < yBase := Nat.le_of_ble_eq_true rfl
theorem lt_pparse_words_sees : n_pparse_words_sees < yBase := Nat.le_of_ble_eq_true rfl
theorem lt_pparse_words_fail : n_pparse_words_fail < yBase := Nat.le_of_ble_eq_true rfl
theorem lt_parse_deep : n_parse_deep < yBase := Nat.le_of_ble_eq_true rfl
theorem lt_pstrings_Builder_WriteByte : n_pstrings_Builder_WriteByte < yBase := Nat.le_of_ble_eq_true rfl
theorem lt_view_plain : n_view_plain < yBase := Nat.le_of_ble_eq_true rfl
theorem lt_pstrings_Builder_String : n_pstrings_Builder_String < yBase := Nat.le_of_ble_eq_true rfl
theorem lt_strings_TrimLeft : n_strings_TrimLeft < yBase := Nat.le_of_ble_eq_true rfl
theorem lt_strings_HasPrefix : n_strings_HasPrefix < yBase := Nat.le_of_ble_eq_true rfl
theorem lt_strings_IndexByte : n_strings_IndexByte < yBase := Nat.le_of_ble_eq_true rfl
theorem lt_lex_begins : n_lex_begins < yBase := Nat.le_of_ble_eq_true rfl
theorem lt_lex_letter : n_lex_letter < yBase := Nat.le_of_ble_eq_true rfl
theorem lt_lex_word : n_lex_word < yBase := Nat.le_of_ble_eq_true rfl
theorem lt_lex_digit : n_lex_digit < yBase := Nat.le_of_ble_eq_true rfl
theorem lt_lex_number : n_lex_number < yBase := Nat.le_of_ble_eq_true rfl
theorem lt_lex_text : n_lex_text < yBase := Nat.le_of_ble_eq_true rfl
theorem lt_lex_sign : n_lex_sign < yBase := Nat.le_of_ble_eq_true rfl
theorem lt_pparse_parser_stmt : n_pparse_parser_stmt < yBase := Nat.le_of_ble_eq_true rfl
theorem lt_pparse_words_skip : n_pparse_words_skip < yBase := Nat.le_of_ble_eq_true rfl
theorem lt_pparse_parser_chain : n_pparse_parser_chain < yBase := Nat.le_of_ble_eq_true rfl
theorem lt_pparse_parser_both : n_pparse_parser_both < yBase := Nat.le_of_ble_eq_true rfl
theorem lt_internal_stringslite_HasPrefix : n_internal_stringslite_HasPrefix < yBase := Nat.le_of_ble_eq_true rfl
theorem lt_lex_run : n_lex_run < yBase := Nat.le_of_ble_eq_true rfl
theorem lt_lex_inner : n_lex_inner < yBase := Nat.le_of_ble_eq_true rfl
theorem lt_lex_Key : n_lex_Key < yBase := Nat.le_of_ble_eq_true rfl
theorem lt_lex_Name : n_lex_Name < yBase := Nat.le_of_ble_eq_true rfl
theorem lt_num_Read : n_num_Read < yBase := Nat.le_of_ble_eq_true rfl
theorem lt_view_Unquote : n_view_Unquote < yBase := Nat.le_of_ble_eq_true rfl
theorem lt_parse_simple : n_parse_simple < yBase := Nat.le_of_ble_eq_true rfl
theorem lt_pparse_parser_exprs : n_pparse_parser_exprs < yBase := Nat.le_of_ble_eq_true rfl
theorem lt_pparse_parser_choice : n_pparse_parser_choice < yBase := Nat.le_of_ble_eq_true rfl
theorem lt_pparse_parser_loop : n_pparse_parser_loop < yBase := Nat.le_of_ble_eq_true rfl
theorem lt_pparse_parser_txn : n_pparse_parser_txn < yBase := Nat.le_of_ble_eq_true rfl
theorem lt_parse_kind : n_parse_kind < yBase := Nat.le_of_ble_eq_true rfl
theorem lt_pparse_parser_not : n_pparse_parser_not < yBase := Nat.le_of_ble_eq_true rfl
theorem lt_strings_Contains : n_strings_Contains < yBase := Nat.le_of_ble_eq_true rfl
theorem lt_strings_CutPrefix : n_strings_CutPrefix < yBase := Nat.le_of_ble_eq_true rfl
theorem lt_strings_CutSuffix : n_strings_CutSuffix < yBase := Nat.le_of_ble_eq_true rfl
theorem lt_view_pair : n_view_pair < yBase := Nat.le_of_ble_eq_true rfl
theorem lt_tree_Exprs : n_tree_Exprs < yBase := Nat.le_of_ble_eq_true rfl
theorem lt_pparse_parser_compare : n_pparse_parser_compare < yBase := Nat.le_of_ble_eq_true rfl
theorem lt_internal_stringslite_CutPrefix : n_internal_stringslite_CutPrefix < yBase := Nat.le_of_ble_eq_true rfl
theorem lt_internal_stringslite_CutSuffix : n_internal_stringslite_CutSuffix < yBase := Nat.le_of_ble_eq_true rfl
theorem lt_pparse_parser_sum : n_pparse_parser_sum < yBase := Nat.le_of_ble_eq_true rfl
theorem lt_internal_stringslite_HasSuffix : n_internal_stringslite_HasSuffix < yBase := Nat.le_of_ble_eq_true rfl
theorem lt_pparse_parser_part : n_pparse_parser_part < yBase := Nat.le_of_ble_eq_true rfl
theorem lt_pparse_parser_inner : n_pparse_parser_inner < yBase := Nat.le_of_ble_eq_true rfl

end Go.AM
