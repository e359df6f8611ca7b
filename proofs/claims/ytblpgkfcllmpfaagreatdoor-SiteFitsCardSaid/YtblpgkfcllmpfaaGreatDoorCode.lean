/-
  The abstract code of the functions, printed by a program (gen.py) out of the loaded program, and each function's place in the table.
-/
import Derived.Test.YtblpgkfcllmpfaaGreatDoorXlib
namespace Go.AM

def n_flotsamlaw25_SiteFits : Nat := 3
def n_flotsamlaw16_Small : Nat := 4
def n_flotsamlaw25_knows : Nat := 5
def n_site_Sites : Nat := 6
def n_site_Fits : Nat := 7
def n_site_Name : Nat := 8
def n_site_Read : Nat := 9
def n_tree_Right : Nat := 10
def n_flotsamref16_Size : Nat := 11
def n_site_At : Nat := 12
def n_site_parts : Nat := 13
def n_site_each : Nat := 14
def n_site_Sites_1 : Nat := 15
def n_site_Sites_2 : Nat := 16
def n_site_fits : Nat := 17
def n_site_lead : Nat := 18
def n_site_words : Nat := 19
def n_site_may : Nat := 20
def n_site_Word : Nat := 21
def n_num_Digits : Nat := 22
def n_strings_Join : Nat := 23
def n_strings_Split : Nat := 24
def n_num_Read : Nat := 25
def n_tree_All : Nat := 26
def n_tree_Right_1 : Nat := 27
def n_lex_Name : Nat := 28
def n_tree_Right_2 : Nat := 29
def n_tree_expr : Nat := 30
def n_tree_Right_3 : Nat := 31
def n_tree_block : Nat := 32
def n_slices_ContainsFunc_api_Proc_api_Proc : Nat := 33
def n_slices_ContainsFunc_api_Oracle_api_Oracle : Nat := 34
def n_slices_ContainsFunc_api_Stmt_api_Stmt : Nat := 35
def n_tree_parts : Nat := 36
def n_flotsamref16_block : Nat := 37
def n_flotsamref16_expr : Nat := 38
def n_tree_Clone : Nat := 39
def n_site_each_1 : Nat := 40
def n_site_each_2 : Nat := 41
def n_site_writes : Nat := 42
def n_site_torn : Nat := 43
def n_site_next : Nat := 44
def n_strings_Fields : Nat := 45
def n_tree_walk : Nat := 50
def n_tree_cloned : Nat := 51
def n_lex_begins : Nat := 52
def n_lex_letter : Nat := 53
def n_lex_run : Nat := 54
def n_lex_inner : Nat := 55
def n_lex_Key : Nat := 56
def n_tree_Parts : Nat := 57
def n_slices_ContainsFunc_api_Expr_api_Expr : Nat := 58
def n_tree_expr_1 : Nat := 59
def n_slices_ContainsFunc_api_Stmt_api_Stmt_x : Nat := 60
def n_tree_block_1 : Nat := 61
def n_tree_stmt : Nat := 62
def n_slices_IndexFunc_api_Proc_api_Proc : Nat := 63
def n_slices_IndexFunc_api_Oracle_api_Oracle : Nat := 64
def n_slices_IndexFunc_api_Stmt_api_Stmt : Nat := 65
def n_tree_each_api_Proc : Nat := 66
def n_tree_Clone_1 : Nat := 67
def n_tree_each_api_Stmt : Nat := 68
def n_tree_each_api_Oracle : Nat := 69
def n_tree_Clone_2 : Nat := 70
def n_tree_clonedExpr : Nat := 71
def n_tree_walk_1 : Nat := 79
def n_tree_each_api_Expr : Nat := 80
def n_lex_digit : Nat := 83
def n_strings_Contains : Nat := 84
def n_slices_IndexFunc_api_Expr_api_Expr : Nat := 85
def n_slices_IndexFunc_api_Stmt_api_Stmt_x : Nat := 86
def n_tree_shape : Nat := 87
def n_tree_stmt_1 : Nat := 88
def n_tree_Exprs : Nat := 97
def n_tree_blocks : Nat := 98
def n_tree_shape_1 : Nat := 99

def q_tree_All_0 : Nat := 2002600
def q_tree_walk_1_0 : Nat := 2007900

-- flotsam/flotsamlaw25.SiteFits
def b_flotsamlaw25_SiteFits_0 : AC :=
  .seq (.seq (.reg [⟨some 60, none, .mv (.t 11)⟩, ⟨some 61, none, .mv (.t 9)⟩, ⟨some 62, none, .ic .lss (.t 60) (.t 61)⟩])
    (.cond (.t 62)
      (.skip)
      (.exit 2)))
  (.seq (.block 3 (.seq (.drw [[], [], [], [], [], []] [⟨some 65, none, .mv (.t 7)⟩, ⟨some 66, none, .mv (.t 11)⟩, ⟨some 67, none, .ixa 11 none (.t 65) (.t 66)⟩, ⟨some 68, none, .ld (some 11) (.t 67)⟩, ⟨some 69, none, .ld (some 11) (.t 10)⟩, ⟨some 70, none, .eqa false [.int .i64, .int .i64, .int .i64, .int .i64, .int .i64, .int .i64, .int .i64, .int .i64, .int .i64, .int .i64, .int .i64] (.t 68) (.t 69)⟩])
      (.cond (.t 70)
        (.seq (.reg [⟨some 6, none, .tk (.c (.bool false))⟩])
          (.ret))
        (.skip))))
  (.reg [⟨some 63, none, .mv (.t 11)⟩, ⟨some 64, none, .ia .add .i64 (.t 63) (.c (.int .i64 1))⟩, ⟨some 11, none, .tk (.t 64)⟩]))

def l_flotsamlaw25_SiteFits_0 : AC :=
  .loop [1, 3, 5, 7, 8, 9, 10, 11] b_flotsamlaw25_SiteFits_0

def r_flotsamlaw25_SiteFits_0 : AC :=
  .seq (.seq (.reg [⟨some 72, none, .ld (some 11) (.t 10)⟩, ⟨some 73, none, .callc n_site_Name [(.t 72)]⟩, ⟨some 71, none, .mv (.t 73)⟩, ⟨some 74, none, .ext (.t 71) 0⟩, ⟨some 75, none, .ext (.t 71) 1⟩, ⟨some 12, none, .tk (.t 74)⟩, ⟨some 13, none, .tk (.t 75)⟩])
    (.seq (.reg [⟨some 76, none, .mv (.t 13)⟩])
    (.cond (.t 76)
      (.seq (.reg [⟨some 78, none, .mv (.t 12)⟩, ⟨some 79, none, .callc n_site_Read [(.t 78)]⟩, ⟨some 77, none, .mv (.t 79)⟩, ⟨some 80, none, .ext (.t 77) 0⟩, ⟨some 81, none, .ext (.t 77) 1⟩, ⟨some 14, none, .alloc [.int .i64 0, .int .i64 0, .int .i64 0, .int .i64 0, .int .i64 0, .int .i64 0, .int .i64 0, .int .i64 0, .int .i64 0, .int .i64 0, .int .i64 0]⟩, ⟨none, none, .st 11 (.t 14) (.t 80)⟩, ⟨some 15, none, .tk (.t 81)⟩])
        (.seq (.reg [⟨some 82, none, .mv (.t 15)⟩, ⟨some 83, none, .notb (.t 82)⟩, ⟨some 84, none, .mv (.t 83)⟩, ⟨some 85, (some (84, false)), .ld (some 11) (.t 14)⟩, ⟨some 86, (some (84, false)), .ld (some 11) (.t 10)⟩, ⟨some 87, (some (84, false)), .eqa true [.int .i64, .int .i64, .int .i64, .int .i64, .int .i64, .int .i64, .int .i64, .int .i64, .int .i64, .int .i64, .int .i64] (.t 85) (.t 86)⟩, ⟨some 88, none, .pick (.t 84) (.c (.bool true)) (.t 87)⟩])
        (.cond (.t 88)
          (.seq (.reg [⟨some 6, none, .tk (.c (.bool false))⟩])
            (.ret))
          (.skip))))
      (.skip))))
  (.reg [⟨some 89, none, .mv (.t 8)⟩, ⟨some 90, none, .mv (.t 89)⟩, ⟨some 91, (some (90, false)), .ld (some 11) (.t 10)⟩, ⟨some 92, (some (90, false)), .ld (some 11) (.t 5)⟩, ⟨some 93, (some (90, false)), .eqa false [.int .i64, .int .i64, .int .i64, .int .i64, .int .i64, .int .i64, .int .i64, .int .i64, .int .i64, .int .i64, .int .i64] (.t 91) (.t 92)⟩, ⟨some 94, none, .pick (.t 90) (.c (.bool true)) (.t 93)⟩, ⟨some 8, none, .tk (.t 94)⟩])

def r_flotsamlaw25_SiteFits_1 : AC :=
  .reg [⟨some 31, none, .mv (.t 9)⟩, ⟨some 32, none, .ia .add .i64 (.t 31) (.c (.int .i64 1))⟩, ⟨some 9, none, .tk (.t 32)⟩]

def b_flotsamlaw25_SiteFits_1 : AC :=
  .seq (.seq (.reg [⟨some 27, none, .mv (.t 9)⟩, ⟨some 28, none, .mv (.t 7)⟩, ⟨some 29, none, .len false (.t 28)⟩, ⟨some 30, none, .ic .lss (.t 27) (.t 29)⟩])
    (.cond (.t 30)
      (.skip)
      (.exit 0)))
  (.seq (.block 1 (.seq (.reg [⟨some 33, none, .mv (.t 7)⟩, ⟨some 34, none, .mv (.t 9)⟩, ⟨some 35, none, .ixa 11 none (.t 33) (.t 34)⟩, ⟨some 36, none, .ld (some 11) (.t 35)⟩, ⟨some 10, none, .alloc [.int .i64 0, .int .i64 0, .int .i64 0, .int .i64 0, .int .i64 0, .int .i64 0, .int .i64 0, .int .i64 0, .int .i64 0, .int .i64 0, .int .i64 0]⟩, ⟨none, none, .st 11 (.t 10) (.t 36)⟩])
      (.seq (.seq (.reg [⟨some 37, none, .fa 0 (.t 10)⟩, ⟨some 38, none, .ld none (.t 37)⟩, ⟨some 39, none, .ic .lss (.t 38) (.c (.int .i64 1))⟩, ⟨some 40, none, .mv (.t 39)⟩, ⟨some 41, (some (40, false)), .fa 0 (.t 10)⟩, ⟨some 42, (some (40, false)), .ld none (.t 41)⟩, ⟨some 43, (some (40, false)), .ic .gtr (.t 42) (.c (.int .i64 8))⟩, ⟨some 44, none, .pick (.t 40) (.c (.bool true)) (.t 43)⟩, ⟨some 45, none, .mv (.t 44)⟩, ⟨some 46, (some (45, false)), .mv (.t 1)⟩, ⟨some 47, (some (45, false)), .fa 0 (.t 10)⟩, ⟨some 48, (some (45, false)), .ld none (.t 47)⟩, ⟨some 49, (some (45, false)), .ia .sub .i64 (.t 48) (.c (.int .i64 1))⟩, ⟨some 50, (some (45, false)), .ia .shr .u16 (.t 46) (.t 49)⟩, ⟨some 51, (some (45, false)), .ia .and .u16 (.t 50) (.c (.int .u16 1))⟩, ⟨some 52, (some (45, false)), .ic .eql (.t 51) (.c (.int .u16 0))⟩, ⟨some 53, none, .pick (.t 45) (.c (.bool true)) (.t 52)⟩, ⟨some 54, none, .mv (.t 53)⟩, ⟨some 55, (some (54, false)), .ld (some 4) (.t 3)⟩, ⟨some 56, (some (54, false)), .ld (some 11) (.t 10)⟩, ⟨some 57, (some (54, false)), .callc n_site_Fits [(.t 55), (.t 56)]⟩, ⟨some 58, (some (54, false)), .notb (.t 57)⟩, ⟨some 59, none, .pick (.t 54) (.c (.bool true)) (.t 58)⟩])
        (.cond (.t 59)
          (.seq (.reg [⟨some 6, none, .tk (.c (.bool false))⟩])
            (.ret))
          (.skip)))
      (.seq (.seq (.reg [⟨some 11, none, .tk (.c (.int .i64 0))⟩])
        (.block 2 (l_flotsamlaw25_SiteFits_0))) r_flotsamlaw25_SiteFits_0)))) r_flotsamlaw25_SiteFits_1)

def l_flotsamlaw25_SiteFits_1 : AC :=
  .loop [1, 3, 5, 7, 8, 9] b_flotsamlaw25_SiteFits_1

def r_flotsamlaw25_SiteFits_2 : AC :=
  .seq (.seq (.reg [⟨some 95, none, .mv (.t 8)⟩])
    (.cond (.t 95)
      (.seq (.reg [⟨some 6, none, .tk (.c (.bool true))⟩])
        (.ret))
      (.skip)))
  (.seq (.seq (.reg [⟨some 96, none, .fa 0 (.t 5)⟩, ⟨some 97, none, .ld none (.t 96)⟩, ⟨some 98, none, .ic .lss (.t 97) (.c (.int .i64 1))⟩, ⟨some 99, none, .mv (.t 98)⟩, ⟨some 100, (some (99, false)), .fa 0 (.t 5)⟩, ⟨some 101, (some (99, false)), .ld none (.t 100)⟩, ⟨some 102, (some (99, false)), .ic .gtr (.t 101) (.c (.int .i64 8))⟩, ⟨some 103, none, .pick (.t 99) (.c (.bool true)) (.t 102)⟩])
    (.cond (.t 103)
      (.seq (.reg [⟨some 104, none, .ld (some 4) (.t 3)⟩, ⟨some 105, none, .ld (some 11) (.t 5)⟩, ⟨some 106, none, .callc n_site_Fits [(.t 104), (.t 105)]⟩, ⟨some 107, none, .notb (.t 106)⟩, ⟨some 6, none, .tk (.t 107)⟩])
        (.ret))
      (.skip)))
  (.seq (.reg [⟨some 108, none, .ld (some 4) (.t 3)⟩, ⟨some 109, none, .callc n_tree_Right [(.t 108)]⟩, ⟨some 110, none, .notb (.t 109)⟩, ⟨some 111, none, .mv (.t 110)⟩, ⟨some 112, (some (111, false)), .ld (some 4) (.t 3)⟩, ⟨some 113, (some (111, false)), .ld (some 11) (.t 5)⟩, ⟨some 114, (some (111, false)), .callc n_site_Fits [(.t 112), (.t 113)]⟩, ⟨some 115, (some (111, false)), .notb (.t 114)⟩, ⟨some 116, none, .pick (.t 111) (.c (.bool true)) (.t 115)⟩, ⟨some 117, none, .mv (.t 116)⟩, ⟨some 118, (some (117, false)), .mv (.t 1)⟩, ⟨some 119, (some (117, false)), .fa 0 (.t 5)⟩, ⟨some 120, (some (117, false)), .ld none (.t 119)⟩, ⟨some 121, (some (117, false)), .ia .sub .i64 (.t 120) (.c (.int .i64 1))⟩, ⟨some 122, (some (117, false)), .ia .shr .u16 (.t 118) (.t 121)⟩, ⟨some 123, (some (117, false)), .ia .and .u16 (.t 122) (.c (.int .u16 1))⟩, ⟨some 124, (some (117, false)), .ic .eql (.t 123) (.c (.int .u16 0))⟩, ⟨some 125, none, .pick (.t 117) (.c (.bool true)) (.t 124)⟩, ⟨some 6, none, .tk (.t 125)⟩])
  (.ret)))

def c_flotsamlaw25_SiteFits : AFunc :=
  { np := 3, res := [.t 6], body := (
    .seq (.reg [⟨some 3, none, .box (.t 0)⟩, ⟨some 5, none, .box (.t 2)⟩, ⟨some 6, none, .tk (.c (.bool false))⟩])
    (.seq (.seq (.reg [⟨some 16, none, .ld (some 4) (.t 3)⟩, ⟨some 17, none, .callc n_flotsamlaw16_Small [(.t 16)]⟩, ⟨some 18, none, .notb (.t 17)⟩, ⟨some 19, none, .mv (.t 18)⟩, ⟨some 20, (some (19, false)), .callc n_flotsamlaw25_knows []⟩, ⟨some 21, (some (19, false)), .notb (.t 20)⟩, ⟨some 22, none, .pick (.t 19) (.c (.bool true)) (.t 21)⟩])
      (.cond (.t 22)
        (.seq (.reg [⟨some 23, none, .callc n_flotsamlaw25_knows []⟩, ⟨some 6, none, .tk (.t 23)⟩])
          (.ret))
        (.skip)))
    (.seq (.reg [⟨some 24, none, .ld (some 4) (.t 3)⟩, ⟨some 25, none, .mv (.t 1)⟩, ⟨some 26, none, .callc n_site_Sites [(.t 24), (.t 25)]⟩, ⟨some 7, none, .tk (.t 26)⟩])
    (.seq (.reg [⟨some 8, none, .tk (.c (.bool false))⟩])
    (.seq (.seq (.reg [⟨some 9, none, .tk (.c (.int .i64 0))⟩])
      (.block 0 (l_flotsamlaw25_SiteFits_1))) r_flotsamlaw25_SiteFits_2))))) }

-- flotsam/flotsamlaw16.Small
def c_flotsamlaw16_Small : AFunc :=
  { np := 1, res := [.t 2], body := (
    .seq (.reg [⟨some 1, none, .box (.t 0)⟩, ⟨some 2, none, .tk (.c (.bool false))⟩])
    (.seq (.reg [⟨some 3, none, .ld (some 4) (.t 1)⟩, ⟨some 4, none, .callc n_flotsamref16_Size [(.t 3), (.c (.int .i64 600))]⟩, ⟨some 5, none, .ic .leq (.t 4) (.c (.int .i64 600))⟩, ⟨some 2, none, .tk (.t 5)⟩])
    (.ret))) }

-- flotsam/flotsamlaw25.knows
def c_flotsamlaw25_knows : AFunc :=
  { np := 0, res := [.t 0], body := (
    .seq (.reg [⟨some 0, none, .tk (.c (.bool false))⟩])
    (.seq (.reg [⟨some 9, none, .bld [.int .i64 0, .str [], .int .i64 0, .sl 4 [], .sl 7 [], .sl 7 [], .bool false] [(0, 1, (.c (.int .i64 11)))]⟩, ⟨some 10, none, .bsl 7 [.int .i64 0, .str [], .int .i64 0, .sl 4 [], .sl 7 [], .sl 7 [], .bool false] 1 [(0, 7, (.t 9))] false⟩, ⟨some 11, none, .bld [.sl 2 [], .sl 7 [], .sl 7 [], .sl 5 []] [(1, 1, (.t 10))]⟩, ⟨some 1, none, .alloc [.own 2 [], .own 7 [], .own 7 [], .own 5 []]⟩, ⟨none, none, .st 4 (.t 1) (.t 11)⟩])
    (.seq (.reg [⟨some 12, none, .ld (some 4) (.t 1)⟩, ⟨some 13, none, .callc n_site_Sites [(.t 12), (.c (.int .u16 255))]⟩, ⟨some 2, none, .tk (.t 13)⟩])
    (.seq (.reg [⟨some 15, none, .bld [.int .i64 0, .int .i64 0, .int .i64 0, .int .i64 0, .int .i64 0, .int .i64 0, .int .i64 0, .int .i64 0, .int .i64 0, .int .i64 0, .int .i64 0] [(0, 1, (.c (.int .i64 4))), (10, 1, (.c (.int .i64 1)))]⟩, ⟨some 16, none, .callc n_site_Name [(.t 15)]⟩, ⟨some 14, none, .mv (.t 16)⟩, ⟨some 17, none, .ext (.t 14) 0⟩, ⟨some 18, none, .ext (.t 14) 1⟩, ⟨some 3, none, .tk (.t 17)⟩, ⟨some 4, none, .tk (.t 18)⟩])
    (.seq (.reg [⟨some 20, none, .callc n_site_Read [(.c (.str [115, 119, 97, 112, 32, 49, 32, 50, 32, 51]))]⟩, ⟨some 19, none, .mv (.t 20)⟩, ⟨some 21, none, .ext (.t 19) 0⟩, ⟨some 22, none, .ext (.t 19) 1⟩, ⟨some 5, none, .alloc [.int .i64 0, .int .i64 0, .int .i64 0, .int .i64 0, .int .i64 0, .int .i64 0, .int .i64 0, .int .i64 0, .int .i64 0, .int .i64 0, .int .i64 0]⟩, ⟨none, none, .st 11 (.t 5) (.t 21)⟩, ⟨some 6, none, .tk (.t 22)⟩])
    (.seq (.reg [⟨some 24, none, .ld (some 4) (.t 1)⟩, ⟨some 25, none, .bld [.int .i64 0, .int .i64 0, .int .i64 0, .int .i64 0, .int .i64 0, .int .i64 0, .int .i64 0, .int .i64 0, .int .i64 0, .int .i64 0, .int .i64 0] [(10, 1, (.c (.int .i64 1)))]⟩, ⟨some 26, none, .callc n_site_At [(.t 24), (.t 25)]⟩, ⟨some 23, none, .mv (.t 26)⟩, ⟨some 27, none, .ext (.t 23) 0⟩, ⟨some 28, none, .ext (.t 23) 1⟩, ⟨some 7, none, .alloc [.int .i64 0, .str [], .int .i64 0, .own 4 [], .own 7 [], .own 7 [], .bool false]⟩, ⟨none, none, .st 7 (.t 7) (.t 27)⟩, ⟨some 8, none, .tk (.t 28)⟩])
    (.seq (.drw [[], [], [], [], [], [], [], [], [], [], [], [], [], [], [], [], [], [], [], [], [], [], [], [], [], [], [], [], [], [], [], [], [], [], [], [], [], [], [], [], [], []] [⟨some 29, none, .mv (.t 2)⟩, ⟨some 30, none, .len false (.t 29)⟩, ⟨some 31, none, .ic .eql (.t 30) (.c (.int .i64 1))⟩, ⟨some 32, none, .mv (.t 31)⟩, ⟨some 33, (some (32, true)), .mv (.t 2)⟩, ⟨some 34, (some (32, true)), .ixa 11 none (.t 33) (.c (.int .i64 0))⟩, ⟨some 35, (some (32, true)), .ld (some 11) (.t 34)⟩, ⟨some 36, (some (32, true)), .bld [.int .i64 0, .int .i64 0, .int .i64 0, .int .i64 0, .int .i64 0, .int .i64 0, .int .i64 0, .int .i64 0, .int .i64 0, .int .i64 0, .int .i64 0] [(0, 1, (.c (.int .i64 4))), (10, 1, (.c (.int .i64 1)))]⟩, ⟨some 37, (some (32, true)), .eqa false [.int .i64, .int .i64, .int .i64, .int .i64, .int .i64, .int .i64, .int .i64, .int .i64, .int .i64, .int .i64, .int .i64] (.t 35) (.t 36)⟩, ⟨some 38, none, .pick (.t 32) (.t 37) (.c (.bool false))⟩, ⟨some 39, none, .mv (.t 38)⟩, ⟨some 40, (some (39, true)), .mv (.t 4)⟩, ⟨some 41, none, .pick (.t 39) (.t 40) (.c (.bool false))⟩, ⟨some 42, none, .mv (.t 41)⟩, ⟨some 43, (some (42, true)), .mv (.t 3)⟩, ⟨some 44, (some (42, true)), .sop .eql (.t 43) (.c (.str [100, 114, 111, 112, 45, 98, 97, 114, 114, 105, 101, 114, 32, 48, 32, 48]))⟩, ⟨some 45, none, .pick (.t 42) (.t 44) (.c (.bool false))⟩, ⟨some 46, none, .mv (.t 45)⟩, ⟨some 47, (some (46, true)), .mv (.t 6)⟩, ⟨some 48, none, .pick (.t 46) (.t 47) (.c (.bool false))⟩, ⟨some 49, none, .mv (.t 48)⟩, ⟨some 50, (some (49, true)), .ld (some 11) (.t 5)⟩, ⟨some 51, (some (49, true)), .bld [.int .i64 0, .int .i64 0, .int .i64 0, .int .i64 0, .int .i64 0, .int .i64 0, .int .i64 0, .int .i64 0] [(0, 1, (.c (.int .i64 2))), (1, 1, (.c (.int .i64 3)))]⟩, ⟨some 52, (some (49, true)), .bld [.int .i64 0, .int .i64 0, .int .i64 0, .int .i64 0, .int .i64 0, .int .i64 0, .int .i64 0, .int .i64 0, .int .i64 0, .int .i64 0, .int .i64 0] [(0, 1, (.c (.int .i64 5))), (1, 1, (.c (.int .i64 1))), (2, 8, (.t 51)), (10, 1, (.c (.int .i64 2)))]⟩, ⟨some 53, (some (49, true)), .eqa false [.int .i64, .int .i64, .int .i64, .int .i64, .int .i64, .int .i64, .int .i64, .int .i64, .int .i64, .int .i64, .int .i64] (.t 50) (.t 52)⟩, ⟨some 54, none, .pick (.t 49) (.t 53) (.c (.bool false))⟩, ⟨some 55, none, .mv (.t 54)⟩, ⟨some 56, (some (55, true)), .mv (.t 8)⟩, ⟨some 57, none, .pick (.t 55) (.t 56) (.c (.bool false))⟩, ⟨some 58, none, .mv (.t 57)⟩, ⟨some 59, (some (58, true)), .fa 0 (.t 7)⟩, ⟨some 60, (some (58, true)), .ld none (.t 59)⟩, ⟨some 61, (some (58, true)), .ic .eql (.t 60) (.c (.int .i64 11))⟩, ⟨some 62, none, .pick (.t 58) (.t 61) (.c (.bool false))⟩, ⟨some 63, none, .mv (.t 62)⟩, ⟨some 64, (some (63, true)), .ld (some 4) (.t 1)⟩, ⟨some 65, (some (63, true)), .mv (.t 2)⟩, ⟨some 66, (some (63, true)), .ixa 11 none (.t 65) (.c (.int .i64 0))⟩, ⟨some 67, (some (63, true)), .ld (some 11) (.t 66)⟩, ⟨some 68, (some (63, true)), .callc n_site_Fits [(.t 64), (.t 67)]⟩, ⟨some 69, none, .pick (.t 63) (.t 68) (.c (.bool false))⟩, ⟨some 0, none, .tk (.t 69)⟩])
    (.ret)))))))) }

-- flotsam/site.Sites
def b_site_Sites_0 : AC :=
  .seq (.reg [⟨some 12, none, .ic .lss (.t 11) (.t 10)⟩])
  (.seq (.cond (.t 12)
      (.skip)
      (.exit 0))
  (.seq (.block 1 (.seq (.reg [⟨some 13, none, .mv (.t 11)⟩, ⟨some 14, none, .ixa 1 none (.t 9) (.t 11)⟩, ⟨some 15, none, .ld none (.t 14)⟩, ⟨some 6, none, .tk (.t 13)⟩, ⟨some 7, none, .tk (.t 15)⟩])
      (.reg [⟨some 16, none, .mv (.t 7)⟩, ⟨some 17, none, .mv (.t 6)⟩, ⟨some 18, none, .bld [.int .i64 0, .int .i64 0, .int .i64 0, .int .i64 0, .int .i64 0, .int .i64 0, .int .i64 0, .int .i64 0, .int .i64 0, .int .i64 0, .int .i64 0] [(1, 1, (.t 17))]⟩, ⟨some 19, none, .mkf (.func n_site_Sites_2) [] [(.t 3), (.t 5)]⟩, ⟨some 20, none, .call n_site_each [(.t 16), (.t 18), (.c (.fn (.func n_site_Sites_1) [] [])), (.t 19)]⟩])))
  (.reg [⟨some 21, none, .ia .add .i64 (.t 11) (.c (.int .i64 1))⟩, ⟨some 11, none, .mv (.t 21)⟩])))

def l_site_Sites_0 : AC :=
  .loop [3, 5, 9, 10, 11] b_site_Sites_0

def r_site_Sites_0 : AC :=
  .seq (.reg [⟨some 22, none, .ld none (.t 5)⟩, ⟨some 4, none, .tk (.t 22)⟩])
  (.ret)

def c_site_Sites : AFunc :=
  { np := 2, res := [.t 4], body := (
    .seq (.reg [⟨some 2, none, .box (.t 0)⟩, ⟨some 3, none, .box (.t 1)⟩, ⟨some 4, none, .tk (.c (.own 11 []))⟩])
    (.seq (.reg [⟨some 5, none, .alloc [.own 11 []]⟩])
    (.seq (.seq (.reg [⟨some 8, none, .ld (some 4) (.t 2)⟩, ⟨some 9, none, .callc n_site_parts [(.t 8)]⟩, ⟨some 10, none, .len false (.t 9)⟩, ⟨some 11, none, .mv (.c (.int .i64 0))⟩])
      (.block 0 (l_site_Sites_0))) r_site_Sites_0))) }

-- flotsam/site.Fits
def c_site_Fits : AFunc :=
  { np := 2, res := [.t 4], body := (
    .seq (.reg [⟨some 2, none, .box (.t 0)⟩, ⟨some 3, none, .box (.t 1)⟩, ⟨some 4, none, .tk (.c (.bool false))⟩])
    (.seq (.drw [[], [], [], [], [], [], []] [⟨some 5, none, .fa 0 (.t 3)⟩, ⟨some 6, none, .ld none (.t 5)⟩, ⟨some 7, none, .ld (some 4) (.t 2)⟩, ⟨some 8, none, .ld (some 11) (.t 3)⟩, ⟨some 9, none, .callc n_site_lead [(.t 7), (.t 8)]⟩, ⟨some 10, none, .callc n_site_fits [(.t 6), (.t 9)]⟩, ⟨some 4, none, .tk (.t 10)⟩])
    (.ret))) }

-- flotsam/site.Name
def b_site_Name_0 : AC :=
  .seq (.reg [⟨some 45, none, .ic .lss (.t 44) (.t 43)⟩])
  (.seq (.cond (.t 45)
      (.skip)
      (.exit 0))
  (.seq (.block 1 (.seq (.reg [⟨some 46, none, .ixa 1 none (.t 42) (.t 44)⟩, ⟨some 47, none, .ld none (.t 46)⟩, ⟨some 6, none, .tk (.t 47)⟩])
      (.seq (.seq (.reg [⟨some 48, none, .mv (.t 6)⟩, ⟨some 49, none, .ic .gtr (.t 48) (.c (.int .i64 511))⟩])
        (.cond (.t 49)
          (.seq (.reg [⟨some 2, none, .tk (.c (.str []))⟩, ⟨some 3, none, .tk (.c (.bool false))⟩])
            (.ret))
          (.skip)))
      (.reg [⟨some 50, none, .tk (.t 4)⟩, ⟨some 51, none, .mv (.t 6)⟩, ⟨some 52, none, .callc n_num_Digits [(.t 51)]⟩, ⟨some 53, none, .bsl 1 [.str []] 1 [(0, 1, (.t 52))] false⟩, ⟨some 54, none, .app 1 16 (.t 50) (.t 53) false⟩, ⟨some 4, none, .tk (.t 54)⟩]))))
  (.reg [⟨some 55, none, .ia .add .i64 (.t 44) (.c (.int .i64 1))⟩, ⟨some 44, none, .mv (.t 55)⟩])))

def l_site_Name_0 : AC :=
  .loop [4, 42, 43, 44] b_site_Name_0

def r_site_Name_0 : AC :=
  .seq (.reg [⟨some 56, none, .mv (.t 4)⟩, ⟨some 57, none, .callc n_strings_Join [(.t 56), (.c (.str [32]))]⟩, ⟨some 2, none, .tk (.t 57)⟩, ⟨some 3, none, .tk (.c (.bool true))⟩])
  (.ret)

def c_site_Name : AFunc :=
  { np := 1, res := [.t 2, .t 3], body := (
    .seq (.reg [⟨some 1, none, .box (.t 0)⟩, ⟨some 2, none, .tk (.c (.str []))⟩, ⟨some 3, none, .tk (.c (.bool false))⟩])
    (.seq (.seq (.drw [[], [], [], [], [], [], [], [], [], [], [], [], [], [], [], [], [], [], [], [], [], [], [], [], []] [⟨some 7, none, .fa 0 (.t 1)⟩, ⟨some 8, none, .ld none (.t 7)⟩, ⟨some 9, none, .ic .lss (.t 8) (.c (.int .i64 1))⟩, ⟨some 10, none, .mv (.t 9)⟩, ⟨some 11, (some (10, false)), .fa 0 (.t 1)⟩, ⟨some 12, (some (10, false)), .ld none (.t 11)⟩, ⟨some 13, (some (10, false)), .callc n_site_words []⟩, ⟨some 14, (some (10, false)), .len false (.t 13)⟩, ⟨some 15, (some (10, false)), .ic .geq (.t 12) (.t 14)⟩, ⟨some 16, none, .pick (.t 10) (.c (.bool true)) (.t 15)⟩, ⟨some 17, none, .mv (.t 16)⟩, ⟨some 18, (some (17, false)), .fa 1 (.t 1)⟩, ⟨some 19, (some (17, false)), .ld none (.t 18)⟩, ⟨some 20, (some (17, false)), .ic .lss (.t 19) (.c (.int .i64 0))⟩, ⟨some 21, none, .pick (.t 17) (.c (.bool true)) (.t 20)⟩, ⟨some 22, none, .mv (.t 21)⟩, ⟨some 23, (some (22, false)), .fa 1 (.t 1)⟩, ⟨some 24, (some (22, false)), .ld none (.t 23)⟩, ⟨some 25, (some (22, false)), .ic .gtr (.t 24) (.c (.int .i64 16))⟩, ⟨some 26, none, .pick (.t 22) (.c (.bool true)) (.t 25)⟩, ⟨some 27, none, .mv (.t 26)⟩, ⟨some 28, (some (27, false)), .ld (some 11) (.t 1)⟩, ⟨some 29, (some (27, false)), .callc n_site_may [(.t 28)]⟩, ⟨some 30, (some (27, false)), .notb (.t 29)⟩, ⟨some 31, none, .pick (.t 27) (.c (.bool true)) (.t 30)⟩])
      (.cond (.t 31)
        (.seq (.reg [⟨some 2, none, .tk (.c (.str []))⟩, ⟨some 3, none, .tk (.c (.bool false))⟩])
          (.ret))
        (.skip)))
    (.seq (.drw [[], [], [], [], [], [], [], []] [⟨some 32, none, .fa 0 (.t 1)⟩, ⟨some 33, none, .ld none (.t 32)⟩, ⟨some 34, none, .callc n_site_Word [(.t 33)]⟩, ⟨some 35, none, .fa 1 (.t 1)⟩, ⟨some 36, none, .ld none (.t 35)⟩, ⟨some 37, none, .callc n_num_Digits [(.t 36)]⟩, ⟨some 38, none, .bsl 1 [.str []] 2 [(0, 1, (.t 34)), (1, 1, (.t 37))] false⟩, ⟨some 4, none, .tk (.t 38)⟩])
    (.seq (.seq (.reg [⟨some 39, none, .fa 2 (.t 1)⟩, ⟨some 40, none, .fa 10 (.t 1)⟩, ⟨some 41, none, .ld none (.t 40)⟩, ⟨some 42, none, .slp 1 8 (.t 39) none (some (.t 41)) none⟩, ⟨some 43, none, .len false (.t 42)⟩, ⟨some 44, none, .mv (.c (.int .i64 0))⟩])
      (.block 0 (l_site_Name_0))) r_site_Name_0)))) }

-- flotsam/site.Read
def b_site_Read_0 : AC :=
  .seq (.reg [⟨some 32, none, .ic .lss (.t 31) (.t 30)⟩])
  (.seq (.cond (.t 32)
      (.skip)
      (.exit 0))
  (.seq (.block 1 (.seq (.reg [⟨some 33, none, .mv (.t 31)⟩, ⟨some 34, none, .ixa 1 none (.t 29) (.t 31)⟩, ⟨some 35, none, .ld none (.t 34)⟩, ⟨some 6, none, .tk (.t 33)⟩, ⟨some 7, none, .tk (.t 35)⟩])
      (.seq (.reg [⟨some 36, none, .mv (.t 7)⟩, ⟨some 37, none, .mv (.t 4)⟩, ⟨some 38, none, .ixa 1 none (.t 37) (.c (.int .i64 0))⟩, ⟨some 39, none, .ld none (.t 38)⟩, ⟨some 40, none, .sop .eql (.t 36) (.t 39)⟩])
      (.cond (.t 40)
        (.reg [⟨some 41, none, .mv (.t 6)⟩, ⟨some 42, none, .fa 0 (.t 5)⟩, ⟨none, none, .st 1 (.t 42) (.t 41)⟩])
        (.skip)))))
  (.reg [⟨some 43, none, .ia .add .i64 (.t 31) (.c (.int .i64 1))⟩, ⟨some 31, none, .mv (.t 43)⟩])))

def l_site_Read_0 : AC :=
  .loop [2, 4, 5, 29, 30, 31] b_site_Read_0

def b_site_Read_1 : AC :=
  .seq (.reg [⟨some 48, none, .ic .lss (.t 47) (.t 46)⟩])
  (.seq (.cond (.t 48)
      (.skip)
      (.exit 2))
  (.seq (.block 3 (.seq (.reg [⟨some 49, none, .mv (.t 47)⟩, ⟨some 50, none, .ixa 1 none (.t 45) (.t 47)⟩, ⟨some 51, none, .ld none (.t 50)⟩, ⟨some 8, none, .tk (.t 49)⟩, ⟨some 9, none, .tk (.t 51)⟩])
      (.seq (.reg [⟨some 53, none, .mv (.t 9)⟩, ⟨some 54, none, .callc n_num_Read [(.t 53)]⟩, ⟨some 52, none, .mv (.t 54)⟩, ⟨some 55, none, .ext (.t 52) 0⟩, ⟨some 56, none, .ext (.t 52) 1⟩, ⟨some 10, none, .tk (.t 55)⟩, ⟨some 11, none, .tk (.t 56)⟩])
      (.block 4 (.seq (.reg [⟨some 63, none, .mv (.t 11)⟩, ⟨some 64, none, .notb (.t 63)⟩, ⟨some 65, none, .mv (.t 64)⟩, ⟨some 66, (some (65, false)), .mv (.t 10)⟩, ⟨some 67, (some (65, false)), .ic .gtr (.t 66) (.c (.int .i64 511))⟩, ⟨some 68, none, .pick (.t 65) (.c (.bool true)) (.t 67)⟩, ⟨some 62, none, .tk (.t 68)⟩])
        (.cond (.t 62)
          (.seq (.reg [⟨some 69, none, .bld [.int .i64 0, .int .i64 0, .int .i64 0, .int .i64 0, .int .i64 0, .int .i64 0, .int .i64 0, .int .i64 0, .int .i64 0, .int .i64 0, .int .i64 0] []⟩, ⟨none, none, .st 11 (.t 2) (.t 69)⟩, ⟨some 3, none, .tk (.c (.bool false))⟩])
            (.ret))
          (.seq (.reg [⟨some 71, none, .mv (.t 8)⟩, ⟨some 72, none, .ic .eql (.t 71) (.c (.int .i64 0))⟩, ⟨some 70, none, .tk (.t 72)⟩])
            (.cond (.t 70)
              (.reg [⟨some 73, none, .mv (.t 10)⟩, ⟨some 74, none, .fa 1 (.t 5)⟩, ⟨none, none, .st 1 (.t 74) (.t 73)⟩])
              (.reg [⟨some 57, none, .mv (.t 8)⟩, ⟨some 58, none, .ia .sub .i64 (.t 57) (.c (.int .i64 1))⟩, ⟨some 59, none, .mv (.t 10)⟩, ⟨some 60, none, .fa 2 (.t 5)⟩, ⟨some 61, none, .ixa 1 (some 8) (.t 60) (.t 58)⟩, ⟨none, none, .st 1 (.t 61) (.t 59)⟩])))))))))
  (.reg [⟨some 75, none, .ia .add .i64 (.t 47) (.c (.int .i64 1))⟩, ⟨some 47, none, .mv (.t 75)⟩])))

def l_site_Read_1 : AC :=
  .loop [2, 5, 45, 46, 47] b_site_Read_1

def r_site_Read_0 : AC :=
  .seq (.seq (.reg [⟨some 77, none, .ld (some 11) (.t 5)⟩, ⟨some 78, none, .callc n_site_Name [(.t 77)]⟩, ⟨some 76, none, .mv (.t 78)⟩, ⟨some 79, none, .ext (.t 76) 0⟩, ⟨some 80, none, .ext (.t 76) 1⟩, ⟨some 12, none, .tk (.t 79)⟩, ⟨some 13, none, .tk (.t 80)⟩])
    (.seq (.reg [⟨some 81, none, .mv (.t 13)⟩, ⟨some 82, none, .notb (.t 81)⟩])
    (.cond (.t 82)
      (.seq (.reg [⟨some 83, none, .bld [.int .i64 0, .int .i64 0, .int .i64 0, .int .i64 0, .int .i64 0, .int .i64 0, .int .i64 0, .int .i64 0, .int .i64 0, .int .i64 0, .int .i64 0] []⟩, ⟨none, none, .st 11 (.t 2) (.t 83)⟩, ⟨some 3, none, .tk (.c (.bool false))⟩])
        (.ret))
      (.skip))))
  (.seq (.reg [⟨some 84, none, .ld (some 11) (.t 5)⟩, ⟨none, none, .st 11 (.t 2) (.t 84)⟩, ⟨some 3, none, .tk (.c (.bool true))⟩])
  (.ret))

def r_site_Read_1 : AC :=
  .seq (.seq (.reg [⟨some 44, none, .mv (.t 4)⟩, ⟨some 45, none, .sls 1 (.t 44) (some (.c (.int .i64 1))) none none⟩, ⟨some 46, none, .len false (.t 45)⟩, ⟨some 47, none, .mv (.c (.int .i64 0))⟩])
    (.block 2 (l_site_Read_1))) r_site_Read_0

def c_site_Read : AFunc :=
  { np := 1, res := [.cell 2 (some 11), .t 3], body := (
    .seq (.reg [⟨some 2, none, .alloc [.int .i64 0, .int .i64 0, .int .i64 0, .int .i64 0, .int .i64 0, .int .i64 0, .int .i64 0, .int .i64 0, .int .i64 0, .int .i64 0, .int .i64 0]⟩, ⟨some 3, none, .tk (.c (.bool false))⟩])
    (.seq (.reg [⟨some 14, none, .mv (.t 0)⟩, ⟨some 15, none, .callc n_strings_Split [(.t 14), (.c (.str [32]))]⟩, ⟨some 4, none, .tk (.t 15)⟩])
    (.seq (.reg [⟨some 16, none, .mv (.t 4)⟩, ⟨some 17, none, .len false (.t 16)⟩, ⟨some 18, none, .ia .sub .i64 (.t 17) (.c (.int .i64 2))⟩, ⟨some 19, none, .bld [.int .i64 0, .int .i64 0, .int .i64 0, .int .i64 0, .int .i64 0, .int .i64 0, .int .i64 0, .int .i64 0, .int .i64 0, .int .i64 0, .int .i64 0] [(10, 1, (.t 18))]⟩, ⟨some 5, none, .alloc [.int .i64 0, .int .i64 0, .int .i64 0, .int .i64 0, .int .i64 0, .int .i64 0, .int .i64 0, .int .i64 0, .int .i64 0, .int .i64 0, .int .i64 0]⟩, ⟨none, none, .st 11 (.t 5) (.t 19)⟩])
    (.seq (.seq (.reg [⟨some 20, none, .fa 10 (.t 5)⟩, ⟨some 21, none, .ld none (.t 20)⟩, ⟨some 22, none, .ic .lss (.t 21) (.c (.int .i64 1))⟩, ⟨some 23, none, .mv (.t 22)⟩, ⟨some 24, (some (23, false)), .fa 10 (.t 5)⟩, ⟨some 25, (some (23, false)), .ld none (.t 24)⟩, ⟨some 26, (some (23, false)), .ic .gtr (.t 25) (.c (.int .i64 8))⟩, ⟨some 27, none, .pick (.t 23) (.c (.bool true)) (.t 26)⟩])
      (.cond (.t 27)
        (.seq (.reg [⟨some 28, none, .bld [.int .i64 0, .int .i64 0, .int .i64 0, .int .i64 0, .int .i64 0, .int .i64 0, .int .i64 0, .int .i64 0, .int .i64 0, .int .i64 0, .int .i64 0] []⟩, ⟨none, none, .st 11 (.t 2) (.t 28)⟩, ⟨some 3, none, .tk (.c (.bool false))⟩])
          (.ret))
        (.skip)))
    (.seq (.seq (.reg [⟨some 29, none, .callc n_site_words []⟩, ⟨some 30, none, .len false (.t 29)⟩, ⟨some 31, none, .mv (.c (.int .i64 0))⟩])
      (.block 0 (l_site_Read_0))) r_site_Read_1))))) }

-- flotsam/tree.Right
def c_tree_Right : AFunc :=
  { np := 1, res := [.t 2], body := (
    .seq (.reg [⟨some 1, none, .box (.t 0)⟩, ⟨some 2, none, .tk (.c (.bool false))⟩])
    (.seq (.seq (.reg [⟨some 6, none, .fa 0 (.t 1)⟩, ⟨some 7, none, .ld none (.t 6)⟩, ⟨some 8, none, .len false (.t 7)⟩, ⟨some 9, none, .ic .gtr (.t 8) (.c (.int .i64 16))⟩, ⟨some 10, none, .mv (.t 9)⟩, ⟨some 11, (some (10, false)), .fa 3 (.t 1)⟩, ⟨some 12, (some (10, false)), .ld none (.t 11)⟩, ⟨some 13, (some (10, false)), .len false (.t 12)⟩, ⟨some 14, (some (10, false)), .ic .gtr (.t 13) (.c (.int .i64 16))⟩, ⟨some 15, none, .pick (.t 10) (.c (.bool true)) (.t 14)⟩, ⟨some 16, none, .mv (.t 15)⟩, ⟨some 17, (some (16, false)), .ld (some 4) (.t 1)⟩, ⟨some 18, (some (16, false)), .callc n_tree_All [(.t 17)]⟩, ⟨some 19, (some (16, false)), .len false (.t 18)⟩, ⟨some 20, (some (16, false)), .ic .gtr (.t 19) (.c (.int .i64 256))⟩, ⟨some 21, none, .pick (.t 16) (.c (.bool true)) (.t 20)⟩])
      (.cond (.t 21)
        (.seq (.reg [⟨some 2, none, .tk (.c (.bool false))⟩])
          (.ret))
        (.skip)))
    (.seq (.reg [⟨some 3, none, .tk (.c (.fn (.func n_tree_Right_1) [] []))⟩])
    (.seq (.reg [⟨some 4, none, .tk (.c (.fn (.func n_tree_Right_2) [] []))⟩])
    (.seq (.reg [⟨some 5, none, .tk (.c (.fn (.func n_tree_Right_3) [] []))⟩])
    (.seq (.reg [⟨some 22, none, .fa 0 (.t 1)⟩, ⟨some 23, none, .ld none (.t 22)⟩, ⟨some 24, none, .mv (.t 3)⟩, ⟨some 25, none, .call n_slices_ContainsFunc_api_Proc_api_Proc [(.t 23), (.t 24)]⟩, ⟨some 26, none, .notb (.t 25)⟩, ⟨some 27, none, .mv (.t 26)⟩, ⟨some 28, (some (27, true)), .fa 3 (.t 1)⟩, ⟨some 29, (some (27, true)), .ld none (.t 28)⟩, ⟨some 30, (some (27, true)), .mv (.t 4)⟩, ⟨some 31, (some (27, true)), .call n_slices_ContainsFunc_api_Oracle_api_Oracle [(.t 29), (.t 30)]⟩, ⟨some 32, (some (27, true)), .notb (.t 31)⟩, ⟨some 33, none, .pick (.t 27) (.t 32) (.c (.bool false))⟩, ⟨some 34, none, .mv (.t 33)⟩, ⟨some 35, (some (34, true)), .ld (some 4) (.t 1)⟩, ⟨some 36, (some (34, true)), .callc n_tree_parts [(.t 35)]⟩, ⟨some 37, (some (34, true)), .mv (.t 5)⟩, ⟨some 38, (some (34, true)), .call n_slices_ContainsFunc_api_Stmt_api_Stmt [(.t 36), (.t 37)]⟩, ⟨some 39, (some (34, true)), .notb (.t 38)⟩, ⟨some 40, none, .pick (.t 34) (.t 39) (.c (.bool false))⟩, ⟨some 2, none, .tk (.t 40)⟩])
    (.ret))))))) }

-- flotsam/flotsamref16.Size
def b_flotsamref16_Size_0 : AC :=
  .seq (.seq (.reg [⟨some 31, none, .mv (.t 6)⟩, ⟨some 32, none, .fa 0 (.t 2)⟩, ⟨some 33, none, .ld none (.t 32)⟩, ⟨some 34, none, .len false (.t 33)⟩, ⟨some 35, none, .ic .lss (.t 31) (.t 34)⟩])
    (.cond (.t 35)
      (.skip)
      (.exit 0)))
  (.seq (.block 1 (.seq (.reg [⟨some 38, none, .mv (.t 5)⟩, ⟨some 39, none, .fa 0 (.t 2)⟩, ⟨some 40, none, .ld none (.t 39)⟩, ⟨some 41, none, .mv (.t 6)⟩, ⟨some 42, none, .ixa 2 none (.t 40) (.t 41)⟩, ⟨some 43, none, .fa 1 (.t 42)⟩, ⟨some 44, none, .ld none (.t 43)⟩, ⟨some 45, none, .mv (.t 1)⟩, ⟨some 46, none, .mv (.t 5)⟩, ⟨some 47, none, .ia .sub .i64 (.t 45) (.t 46)⟩, ⟨some 48, none, .callc n_flotsamref16_block [(.t 44), (.t 47)]⟩, ⟨some 49, none, .ia .add .i64 (.t 38) (.t 48)⟩, ⟨some 5, none, .tk (.t 49)⟩])
      (.seq (.reg [⟨some 50, none, .fa 0 (.t 2)⟩, ⟨some 51, none, .ld none (.t 50)⟩, ⟨some 52, none, .mv (.t 6)⟩, ⟨some 53, none, .ixa 2 none (.t 51) (.t 52)⟩, ⟨some 54, none, .fa 0 (.t 53)⟩, ⟨some 55, none, .ld none (.t 54)⟩, ⟨some 56, none, .len true (.t 55)⟩, ⟨some 57, none, .ic .gtr (.t 56) (.c (.int .i64 300))⟩, ⟨some 58, none, .mv (.t 57)⟩, ⟨some 59, (some (58, false)), .mv (.t 5)⟩, ⟨some 60, (some (58, false)), .mv (.t 1)⟩, ⟨some 61, (some (58, false)), .ic .gtr (.t 59) (.t 60)⟩, ⟨some 62, none, .pick (.t 58) (.c (.bool true)) (.t 61)⟩])
      (.cond (.t 62)
        (.seq (.reg [⟨some 63, none, .mv (.t 1)⟩, ⟨some 64, none, .ia .add .i64 (.t 63) (.c (.int .i64 1))⟩, ⟨some 4, none, .tk (.t 64)⟩])
          (.ret))
        (.skip)))))
  (.reg [⟨some 36, none, .mv (.t 6)⟩, ⟨some 37, none, .ia .add .i64 (.t 36) (.c (.int .i64 1))⟩, ⟨some 6, none, .tk (.t 37)⟩]))

def l_flotsamref16_Size_0 : AC :=
  .loop [1, 2, 5, 6] b_flotsamref16_Size_0

def b_flotsamref16_Size_1 : AC :=
  .seq (.seq (.reg [⟨some 84, none, .mv (.t 7)⟩, ⟨some 85, none, .fa 3 (.t 2)⟩, ⟨some 86, none, .ld none (.t 85)⟩, ⟨some 87, none, .len false (.t 86)⟩, ⟨some 88, none, .ic .lss (.t 84) (.t 87)⟩, ⟨some 89, none, .mv (.t 88)⟩, ⟨some 90, (some (89, true)), .mv (.t 5)⟩, ⟨some 91, (some (89, true)), .mv (.t 1)⟩, ⟨some 92, (some (89, true)), .ic .leq (.t 90) (.t 91)⟩, ⟨some 93, none, .pick (.t 89) (.t 92) (.c (.bool false))⟩])
    (.cond (.t 93)
      (.skip)
      (.exit 2)))
  (.seq (.block 3 (.seq (.reg [⟨some 96, none, .mv (.t 5)⟩, ⟨some 97, none, .fa 3 (.t 2)⟩, ⟨some 98, none, .ld none (.t 97)⟩, ⟨some 99, none, .mv (.t 7)⟩, ⟨some 100, none, .ixa 5 none (.t 98) (.t 99)⟩, ⟨some 101, none, .fa 1 (.t 100)⟩, ⟨some 102, none, .ld (some 4) (.t 101)⟩, ⟨some 103, none, .mv (.t 1)⟩, ⟨some 104, none, .mv (.t 5)⟩, ⟨some 105, none, .ia .sub .i64 (.t 103) (.t 104)⟩, ⟨some 106, none, .callc n_flotsamref16_expr [(.t 102), (.t 105)]⟩, ⟨some 107, none, .ia .add .i64 (.t 96) (.t 106)⟩, ⟨some 5, none, .tk (.t 107)⟩])
      (.seq (.reg [⟨some 108, none, .fa 3 (.t 2)⟩, ⟨some 109, none, .ld none (.t 108)⟩, ⟨some 110, none, .mv (.t 7)⟩, ⟨some 111, none, .ixa 5 none (.t 109) (.t 110)⟩, ⟨some 112, none, .fa 0 (.t 111)⟩, ⟨some 113, none, .ld none (.t 112)⟩, ⟨some 114, none, .len true (.t 113)⟩, ⟨some 115, none, .ic .gtr (.t 114) (.c (.int .i64 300))⟩])
      (.cond (.t 115)
        (.seq (.reg [⟨some 116, none, .mv (.t 1)⟩, ⟨some 117, none, .ia .add .i64 (.t 116) (.c (.int .i64 1))⟩, ⟨some 4, none, .tk (.t 117)⟩])
          (.ret))
        (.skip)))))
  (.reg [⟨some 94, none, .mv (.t 7)⟩, ⟨some 95, none, .ia .add .i64 (.t 94) (.c (.int .i64 1))⟩, ⟨some 7, none, .tk (.t 95)⟩]))

def l_flotsamref16_Size_1 : AC :=
  .loop [1, 2, 5, 7] b_flotsamref16_Size_1

def r_flotsamref16_Size_0 : AC :=
  .seq (.reg [⟨some 118, none, .mv (.t 5)⟩, ⟨some 4, none, .tk (.t 118)⟩])
  (.ret)

def r_flotsamref16_Size_1 : AC :=
  .seq (.reg [⟨some 65, none, .mv (.t 5)⟩, ⟨some 66, none, .fa 1 (.t 2)⟩, ⟨some 67, none, .ld none (.t 66)⟩, ⟨some 68, none, .mv (.t 1)⟩, ⟨some 69, none, .mv (.t 5)⟩, ⟨some 70, none, .ia .sub .i64 (.t 68) (.t 69)⟩, ⟨some 71, none, .callc n_flotsamref16_block [(.t 67), (.t 70)]⟩, ⟨some 72, none, .ia .add .i64 (.t 65) (.t 71)⟩, ⟨some 5, none, .tk (.t 72)⟩])
  (.seq (.seq (.reg [⟨some 73, none, .mv (.t 5)⟩, ⟨some 74, none, .mv (.t 1)⟩, ⟨some 75, none, .ic .leq (.t 73) (.t 74)⟩])
    (.cond (.t 75)
      (.reg [⟨some 76, none, .mv (.t 5)⟩, ⟨some 77, none, .fa 2 (.t 2)⟩, ⟨some 78, none, .ld none (.t 77)⟩, ⟨some 79, none, .mv (.t 1)⟩, ⟨some 80, none, .mv (.t 5)⟩, ⟨some 81, none, .ia .sub .i64 (.t 79) (.t 80)⟩, ⟨some 82, none, .callc n_flotsamref16_block [(.t 78), (.t 81)]⟩, ⟨some 83, none, .ia .add .i64 (.t 76) (.t 82)⟩, ⟨some 5, none, .tk (.t 83)⟩])
      (.skip)))
  (.seq (.seq (.reg [⟨some 7, none, .tk (.c (.int .i64 0))⟩])
    (.block 2 (l_flotsamref16_Size_1))) r_flotsamref16_Size_0))

def c_flotsamref16_Size : AFunc :=
  { np := 2, res := [.t 4], body := (
    .seq (.reg [⟨some 2, none, .box (.t 0)⟩, ⟨some 4, none, .tk (.c (.int .i64 0))⟩])
    (.seq (.reg [⟨some 8, none, .mv (.t 1)⟩, ⟨some 9, none, .mx false [(.t 8), (.c (.int .i64 1000))]⟩, ⟨some 1, none, .tk (.t 9)⟩])
    (.seq (.seq (.reg [⟨some 10, none, .fa 0 (.t 2)⟩, ⟨some 11, none, .ld none (.t 10)⟩, ⟨some 12, none, .len false (.t 11)⟩, ⟨some 13, none, .mv (.t 1)⟩, ⟨some 14, none, .ic .gtr (.t 12) (.t 13)⟩, ⟨some 15, none, .mv (.t 14)⟩, ⟨some 16, (some (15, false)), .fa 3 (.t 2)⟩, ⟨some 17, (some (15, false)), .ld none (.t 16)⟩, ⟨some 18, (some (15, false)), .len false (.t 17)⟩, ⟨some 19, (some (15, false)), .mv (.t 1)⟩, ⟨some 20, (some (15, false)), .ic .gtr (.t 18) (.t 19)⟩, ⟨some 21, none, .pick (.t 15) (.c (.bool true)) (.t 20)⟩])
      (.cond (.t 21)
        (.seq (.reg [⟨some 22, none, .mv (.t 1)⟩, ⟨some 23, none, .ia .add .i64 (.t 22) (.c (.int .i64 1))⟩, ⟨some 4, none, .tk (.t 23)⟩])
          (.ret))
        (.skip)))
    (.seq (.reg [⟨some 24, none, .fa 0 (.t 2)⟩, ⟨some 25, none, .ld none (.t 24)⟩, ⟨some 26, none, .len false (.t 25)⟩, ⟨some 27, none, .fa 3 (.t 2)⟩, ⟨some 28, none, .ld none (.t 27)⟩, ⟨some 29, none, .len false (.t 28)⟩, ⟨some 30, none, .ia .add .i64 (.t 26) (.t 29)⟩, ⟨some 5, none, .tk (.t 30)⟩])
    (.seq (.seq (.reg [⟨some 6, none, .tk (.c (.int .i64 0))⟩])
      (.block 0 (l_flotsamref16_Size_0))) r_flotsamref16_Size_1))))) }

-- flotsam/site.At
def c_site_At : AFunc :=
  { np := 2, res := [.cell 4 (some 7), .t 5], body := (
    .seq (.reg [⟨some 2, none, .box (.t 0)⟩, ⟨some 3, none, .box (.t 1)⟩, ⟨some 4, none, .alloc [.int .i64 0, .str [], .int .i64 0, .own 4 [], .own 7 [], .own 7 [], .bool false]⟩, ⟨some 5, none, .tk (.c (.bool false))⟩])
    (.seq (.reg [⟨some 7, none, .ld (some 4) (.t 2)⟩, ⟨some 8, none, .ld (some 11) (.t 3)⟩, ⟨some 9, none, .callc n_site_lead [(.t 7), (.t 8)]⟩, ⟨some 6, none, .tk (.t 9)⟩])
    (.seq (.seq (.reg [⟨some 10, none, .mv (.t 6)⟩, ⟨some 11, none, .len false (.t 10)⟩, ⟨some 12, none, .ic .eql (.t 11) (.c (.int .i64 0))⟩])
      (.cond (.t 12)
        (.seq (.reg [⟨some 13, none, .bld [.int .i64 0, .str [], .int .i64 0, .sl 4 [], .sl 7 [], .sl 7 [], .bool false] []⟩, ⟨none, none, .st 7 (.t 4) (.t 13)⟩, ⟨some 5, none, .tk (.c (.bool false))⟩])
          (.ret))
        (.skip)))
    (.seq (.reg [⟨some 14, none, .mv (.t 6)⟩, ⟨some 15, none, .sls 7 (.t 14) none (some (.c (.int .i64 1))) none⟩, ⟨some 16, none, .bld [.sl 2 [], .sl 7 [], .sl 7 [], .sl 5 []] [(1, 1, (.t 15))]⟩, ⟨some 17, none, .callc n_tree_Clone [(.t 16)]⟩, ⟨some 18, none, .fld none 1 (.t 17)⟩, ⟨some 19, none, .ixa 7 none (.t 18) (.c (.int .i64 0))⟩, ⟨some 20, none, .ld (some 7) (.t 19)⟩, ⟨none, none, .st 7 (.t 4) (.t 20)⟩, ⟨some 5, none, .tk (.c (.bool true))⟩])
    (.ret))))) }

-- flotsam/site.parts
def b_site_parts_0 : AC :=
  .seq (.reg [⟨some 13, none, .ic .lss (.t 12) (.t 11)⟩])
  (.seq (.cond (.t 13)
      (.skip)
      (.exit 0))
  (.seq (.block 1 (.seq (.reg [⟨some 14, none, .ixa 2 none (.t 10) (.t 12)⟩, ⟨some 15, none, .ld (some 2) (.t 14)⟩, ⟨some 5, none, .alloc [.str [], .own 7 []]⟩, ⟨none, none, .st 2 (.t 5) (.t 15)⟩])
      (.reg [⟨some 16, none, .tk (.t 3)⟩, ⟨some 17, none, .fa 1 (.t 5)⟩, ⟨some 18, none, .ld none (.t 17)⟩, ⟨some 19, none, .bsl 1 [.sl 7 []] 1 [(0, 1, (.t 18))] false⟩, ⟨some 20, none, .app 1 24 (.t 16) (.t 19) false⟩, ⟨some 3, none, .tk (.t 20)⟩])))
  (.reg [⟨some 21, none, .ia .add .i64 (.t 12) (.c (.int .i64 1))⟩, ⟨some 12, none, .mv (.t 21)⟩])))

def l_site_parts_0 : AC :=
  .loop [3, 10, 11, 12] b_site_parts_0

def r_site_parts_0 : AC :=
  .seq (.reg [⟨some 22, none, .tk (.t 3)⟩, ⟨some 2, none, .tk (.t 22)⟩])
  (.ret)

def c_site_parts : AFunc :=
  { np := 1, res := [.t 2], body := (
    .seq (.reg [⟨some 1, none, .box (.t 0)⟩, ⟨some 2, none, .tk (.c (.own 1 []))⟩])
    (.seq (.reg [⟨some 6, none, .fa 1 (.t 1)⟩, ⟨some 7, none, .ld none (.t 6)⟩, ⟨some 8, none, .bsl 1 [.sl 7 []] 1 [(0, 1, (.t 7))] false⟩, ⟨some 3, none, .tk (.t 8)⟩])
    (.seq (.seq (.reg [⟨some 9, none, .fa 0 (.t 1)⟩, ⟨some 10, none, .ld none (.t 9)⟩, ⟨some 11, none, .len false (.t 10)⟩, ⟨some 12, none, .mv (.c (.int .i64 0))⟩])
      (.block 0 (l_site_parts_0))) r_site_parts_0))) }

-- flotsam/site.each
def b_site_each_0 : AC :=
  .seq (.reg [⟨some 23, none, .ic .lss (.t 22) (.t 21)⟩])
  (.seq (.cond (.t 23)
      (.skip)
      (.exit 0))
  (.seq (.block 1 (.seq (.reg [⟨some 24, none, .mv (.t 22)⟩, ⟨some 25, none, .ixa 7 none (.t 20) (.t 22)⟩, ⟨some 26, none, .ld (some 7) (.t 25)⟩, ⟨some 10, none, .alloc [.int .i64 0, .str [], .int .i64 0, .own 4 [], .own 7 [], .own 7 [], .bool false]⟩, ⟨some 9, none, .tk (.t 24)⟩, ⟨none, none, .st 7 (.t 10) (.t 26)⟩])
      (.seq (.reg [⟨some 27, none, .mv (.t 8)⟩, ⟨some 28, none, .mv (.t 2)⟩, ⟨some 29, none, .mv (.t 9)⟩, ⟨some 30, none, .callv (.t 28) [(.t 29)]⟩, ⟨some 31, none, .fa 2 (.t 5)⟩, ⟨some 32, none, .ixa 1 (some 8) (.t 31) (.t 27)⟩, ⟨none, none, .st 1 (.t 32) (.t 30)⟩])
      (.seq (.drw [[], [], [], [], [], []] [⟨some 33, none, .mv (.t 3)⟩, ⟨some 34, none, .ld (some 11) (.t 5)⟩, ⟨some 35, none, .mv (.t 0)⟩, ⟨some 36, none, .mv (.t 9)⟩, ⟨some 37, none, .sls 7 (.t 35) (some (.t 36)) none none⟩, ⟨some 38, none, .callv (.t 33) [(.t 34), (.t 37)]⟩])
      (.seq (.reg [⟨some 39, none, .fa 4 (.t 10)⟩, ⟨some 40, none, .ld none (.t 39)⟩, ⟨some 41, none, .ld (some 11) (.t 5)⟩, ⟨some 42, none, .mv (.t 3)⟩, ⟨some 43, none, .call n_site_each [(.t 40), (.t 41), (.c (.fn (.func n_site_each_1) [] [])), (.t 42)]⟩])
      (.reg [⟨some 44, none, .fa 5 (.t 10)⟩, ⟨some 45, none, .ld none (.t 44)⟩, ⟨some 46, none, .ld (some 11) (.t 5)⟩, ⟨some 47, none, .mv (.t 3)⟩, ⟨some 48, none, .call n_site_each [(.t 45), (.t 46), (.c (.fn (.func n_site_each_2) [] [])), (.t 47)]⟩]))))))
  (.reg [⟨some 49, none, .ia .add .i64 (.t 22) (.c (.int .i64 1))⟩, ⟨some 22, none, .mv (.t 49)⟩])))

def l_site_each_0 : AC :=
  .loop [0, 2, 3, 5, 8, 20, 21, 22] b_site_each_0

def c_site_each : AFunc :=
  { np := 4, res := [], body := (
    .seq (.reg [⟨some 5, none, .box (.t 1)⟩])
    (.seq (.seq (.reg [⟨some 11, none, .fa 10 (.t 5)⟩, ⟨some 12, none, .ld none (.t 11)⟩, ⟨some 13, none, .ic .eql (.t 12) (.c (.int .i64 8))⟩])
      (.cond (.t 13)
        (.ret)
        (.skip)))
    (.seq (.reg [⟨some 14, none, .fa 10 (.t 5)⟩, ⟨some 15, none, .ld none (.t 14)⟩, ⟨some 8, none, .tk (.t 15)⟩])
    (.seq (.reg [⟨some 16, none, .fa 10 (.t 5)⟩, ⟨some 17, none, .ld none (.t 16)⟩, ⟨some 18, none, .ia .add .i64 (.t 17) (.c (.int .i64 1))⟩, ⟨some 19, none, .fa 10 (.t 5)⟩, ⟨none, none, .st 1 (.t 19) (.t 18)⟩])
    (.seq (.reg [⟨some 20, none, .mv (.t 0)⟩, ⟨some 21, none, .len false (.t 20)⟩, ⟨some 22, none, .mv (.c (.int .i64 0))⟩])
    (.block 0 (l_site_each_0))))))) }

-- flotsam/site.Sites$1
def c_site_Sites_1 : AFunc :=
  { np := 1, res := [.t 2], body := (
    .seq (.reg [⟨some 2, none, .tk (.c (.int .i64 0))⟩])
    (.seq (.reg [⟨some 3, none, .mv (.t 0)⟩, ⟨some 2, none, .tk (.t 3)⟩])
    (.ret))) }

-- flotsam/site.Sites$2
def b_site_Sites_2_0 : AC :=
  .seq (.seq (.reg [⟨some 8, none, .mv (.t 6)⟩, ⟨some 9, none, .ic .neq (.t 8) (.c (.int .u16 0))⟩])
    (.cond (.t 9)
      (.skip)
      (.exit 0)))
  (.seq (.block 1 (.seq (.reg [⟨some 12, none, .fa 0 (.t 4)⟩, ⟨some 13, none, .ld none (.t 12)⟩, ⟨some 14, none, .ia .add .i64 (.t 13) (.c (.int .i64 1))⟩, ⟨some 15, none, .fa 0 (.t 4)⟩, ⟨none, none, .st 1 (.t 15) (.t 14)⟩])
      (.seq (.reg [⟨some 16, none, .mv (.t 6)⟩, ⟨some 17, none, .ia .and .u16 (.t 16) (.c (.int .u16 1))⟩, ⟨some 18, none, .ic .eql (.t 17) (.c (.int .u16 1))⟩, ⟨some 19, none, .mv (.t 18)⟩, ⟨some 20, (some (19, true)), .fa 0 (.t 4)⟩, ⟨some 21, (some (19, true)), .ld none (.t 20)⟩, ⟨some 22, (some (19, true)), .mv (.t 1)⟩, ⟨some 23, (some (19, true)), .callc n_site_fits [(.t 21), (.t 22)]⟩, ⟨some 24, none, .pick (.t 19) (.t 23) (.c (.bool false))⟩])
      (.cond (.t 24)
        (.reg [⟨some 25, none, .ldo (.t 3)⟩, ⟨some 26, none, .ld (some 11) (.t 4)⟩, ⟨some 27, none, .bsl 11 [.int .i64 0, .int .i64 0, .int .i64 0, .int .i64 0, .int .i64 0, .int .i64 0, .int .i64 0, .int .i64 0, .int .i64 0, .int .i64 0, .int .i64 0] 1 [(0, 11, (.t 26))] false⟩, ⟨some 28, none, .app 11 88 (.t 25) (.t 27) false⟩, ⟨none, none, .st 1 (.t 3) (.t 28)⟩])
        (.skip)))))
  (.reg [⟨some 10, none, .mv (.t 6)⟩, ⟨some 11, none, .ia .shr .u16 (.t 10) (.c (.int .u64 1))⟩, ⟨some 6, none, .tk (.t 11)⟩]))

def l_site_Sites_2_0 : AC :=
  .loop [1, 3, 4, 6] b_site_Sites_2_0

def c_site_Sites_2 : AFunc :=
  { np := 4, res := [], body := (
    .seq (.reg [⟨some 4, none, .box (.t 0)⟩])
    (.seq (.reg [⟨some 7, none, .ld none (.t 2)⟩, ⟨some 6, none, .tk (.t 7)⟩])
    (.block 0 (l_site_Sites_2_0)))) }

-- flotsam/site.fits
def c_site_fits : AFunc :=
  { np := 2, res := [.t 4], body := (
    .seq (.reg [⟨some 4, none, .tk (.c (.bool false))⟩])
    (.seq (.seq (.reg [⟨some 6, none, .mv (.t 1)⟩, ⟨some 7, none, .len false (.t 6)⟩, ⟨some 8, none, .ic .eql (.t 7) (.c (.int .i64 0))⟩])
      (.cond (.t 8)
        (.seq (.reg [⟨some 4, none, .tk (.c (.bool false))⟩])
          (.ret))
        (.skip)))
    (.seq (.seq (.reg [⟨some 9, none, .mv (.t 1)⟩, ⟨some 10, none, .ixa 7 none (.t 9) (.c (.int .i64 0))⟩, ⟨some 11, none, .ld (some 7) (.t 10)⟩, ⟨some 5, none, .alloc [.int .i64 0, .str [], .int .i64 0, .own 4 [], .own 7 [], .own 7 [], .bool false]⟩, ⟨none, none, .st 7 (.t 5) (.t 11)⟩])
      (.seq (.reg [⟨some 12, none, .mv (.t 0)⟩])
      (.block 0 (.seq (.reg [⟨some 14, none, .ic .eql (.t 12) (.c (.int .i64 1))⟩, ⟨some 13, none, .tk (.t 14)⟩])
        (.cond (.t 13)
          (.seq (.reg [⟨some 15, none, .fa 0 (.t 5)⟩, ⟨some 16, none, .ld none (.t 15)⟩, ⟨some 17, none, .ic .eql (.t 16) (.c (.int .i64 8))⟩, ⟨some 18, none, .mv (.t 17)⟩, ⟨some 19, (some (18, false)), .fa 0 (.t 5)⟩, ⟨some 20, (some (18, false)), .ld none (.t 19)⟩, ⟨some 21, (some (18, false)), .ic .eql (.t 20) (.c (.int .i64 9))⟩, ⟨some 22, none, .pick (.t 18) (.c (.bool true)) (.t 21)⟩, ⟨some 4, none, .tk (.t 22)⟩])
            (.ret))
          (.seq (.reg [⟨some 24, none, .ic .eql (.t 12) (.c (.int .i64 2))⟩, ⟨some 23, none, .tk (.t 24)⟩])
            (.cond (.t 23)
              (.seq (.reg [⟨some 25, none, .fa 0 (.t 5)⟩, ⟨some 26, none, .ld none (.t 25)⟩, ⟨some 27, none, .ic .eql (.t 26) (.c (.int .i64 8))⟩, ⟨some 4, none, .tk (.t 27)⟩])
                (.ret))
              (.seq (.reg [⟨some 29, none, .ic .eql (.t 12) (.c (.int .i64 3))⟩, ⟨some 28, none, .tk (.t 29)⟩])
                (.cond (.t 28)
                  (.seq (.reg [⟨some 30, none, .fa 0 (.t 5)⟩, ⟨some 31, none, .ld none (.t 30)⟩, ⟨some 32, none, .ic .eql (.t 31) (.c (.int .i64 10))⟩, ⟨some 4, none, .tk (.t 32)⟩])
                    (.ret))
                  (.seq (.reg [⟨some 34, none, .ic .eql (.t 12) (.c (.int .i64 4))⟩, ⟨some 33, none, .tk (.t 34)⟩])
                    (.cond (.t 33)
                      (.seq (.reg [⟨some 35, none, .fa 0 (.t 5)⟩, ⟨some 36, none, .ld none (.t 35)⟩, ⟨some 37, none, .ic .eql (.t 36) (.c (.int .i64 11))⟩, ⟨some 4, none, .tk (.t 37)⟩])
                        (.ret))
                      (.seq (.reg [⟨some 39, none, .ic .eql (.t 12) (.c (.int .i64 5))⟩, ⟨some 38, none, .tk (.t 39)⟩])
                        (.cond (.t 38)
                          (.seq (.reg [⟨some 40, none, .ld (some 7) (.t 5)⟩, ⟨some 41, none, .callc n_site_writes [(.t 40)]⟩, ⟨some 42, none, .mv (.t 41)⟩, ⟨some 43, (some (42, true)), .mv (.t 1)⟩, ⟨some 44, (some (42, true)), .len false (.t 43)⟩, ⟨some 45, (some (42, true)), .ic .gtr (.t 44) (.c (.int .i64 1))⟩, ⟨some 46, none, .pick (.t 42) (.t 45) (.c (.bool false))⟩, ⟨some 47, none, .mv (.t 46)⟩, ⟨some 48, (some (47, true)), .mv (.t 1)⟩, ⟨some 49, (some (47, true)), .ixa 7 none (.t 48) (.c (.int .i64 1))⟩, ⟨some 50, (some (47, true)), .ld (some 7) (.t 49)⟩, ⟨some 51, (some (47, true)), .callc n_site_writes [(.t 50)]⟩, ⟨some 52, none, .pick (.t 47) (.t 51) (.c (.bool false))⟩, ⟨some 4, none, .tk (.t 52)⟩])
                            (.ret))
                          (.seq (.reg [⟨some 54, none, .ic .eql (.t 12) (.c (.int .i64 6))⟩, ⟨some 53, none, .tk (.t 54)⟩])
                            (.cond (.t 53)
                              (.seq (.reg [⟨some 55, none, .fa 0 (.t 5)⟩, ⟨some 56, none, .ld none (.t 55)⟩, ⟨some 57, none, .ic .eql (.t 56) (.c (.int .i64 16))⟩, ⟨some 58, none, .mv (.t 57)⟩, ⟨some 59, (some (58, true)), .fa 6 (.t 5)⟩, ⟨some 60, (some (58, true)), .ld none (.t 59)⟩, ⟨some 61, none, .pick (.t 58) (.t 60) (.c (.bool false))⟩, ⟨some 4, none, .tk (.t 61)⟩])
                                (.ret))
                              (.seq (.reg [⟨some 63, none, .ic .eql (.t 12) (.c (.int .i64 7))⟩, ⟨some 62, none, .tk (.t 63)⟩])
                                (.cond (.t 62)
                                  (.seq (.reg [⟨some 64, none, .ld (some 7) (.t 5)⟩, ⟨some 65, none, .callc n_site_torn [(.t 64)]⟩, ⟨some 4, none, .tk (.t 65)⟩])
                                    (.ret))
                                  (.seq (.reg [⟨some 67, none, .ic .eql (.t 12) (.c (.int .i64 8))⟩, ⟨some 66, none, .tk (.t 67)⟩])
                                    (.cond (.t 66)
                                      (.seq (.reg [⟨some 68, none, .ld (some 7) (.t 5)⟩, ⟨some 69, none, .callc n_site_writes [(.t 68)]⟩, ⟨some 4, none, .tk (.t 69)⟩])
                                        (.ret))
                                      (.skip))))))))))))))))))))
    (.seq (.reg [⟨some 4, none, .tk (.c (.bool false))⟩])
    (.ret))))) }

-- flotsam/site.lead
def b_site_lead_0 : AC :=
  .seq (.reg [⟨some 41, none, .ic .lss (.t 40) (.t 39)⟩])
  (.seq (.cond (.t 41)
      (.skip)
      (.exit 0))
  (.seq (.block 1 (.seq (.reg [⟨some 42, none, .ixa 1 none (.t 38) (.t 40)⟩, ⟨some 43, none, .ld none (.t 42)⟩, ⟨some 9, none, .tk (.t 43)⟩])
      (.seq (.seq (.reg [⟨some 44, none, .mv (.t 7)⟩, ⟨some 45, none, .mv (.t 6)⟩, ⟨some 46, none, .len false (.t 45)⟩, ⟨some 47, none, .ic .geq (.t 44) (.t 46)⟩])
        (.cond (.t 47)
          (.seq (.reg [⟨some 4, none, .tk (.c (.own 7 []))⟩])
            (.ret))
          (.skip)))
      (.reg [⟨some 49, none, .mv (.t 6)⟩, ⟨some 50, none, .mv (.t 7)⟩, ⟨some 51, none, .ixa 7 none (.t 49) (.t 50)⟩, ⟨some 52, none, .ld (some 7) (.t 51)⟩, ⟨some 53, none, .mv (.t 9)⟩, ⟨some 54, none, .callc n_site_next [(.t 52), (.t 53)]⟩, ⟨some 48, none, .mv (.t 54)⟩, ⟨some 55, none, .ext (.t 48) 0⟩, ⟨some 56, none, .ext (.t 48) 1⟩, ⟨some 6, none, .tk (.t 55)⟩, ⟨some 7, none, .tk (.t 56)⟩]))))
  (.reg [⟨some 57, none, .ia .add .i64 (.t 40) (.c (.int .i64 1))⟩, ⟨some 40, none, .mv (.t 57)⟩])))

def l_site_lead_0 : AC :=
  .loop [6, 7, 38, 39, 40] b_site_lead_0

def r_site_lead_0 : AC :=
  .seq (.reg [⟨some 58, none, .mv (.t 6)⟩, ⟨some 59, none, .mv (.t 7)⟩, ⟨some 60, none, .mv (.t 6)⟩, ⟨some 61, none, .len false (.t 60)⟩, ⟨some 62, none, .mx false [(.t 59), (.t 61)]⟩, ⟨some 63, none, .sls 7 (.t 58) (some (.t 62)) none none⟩, ⟨some 4, none, .tk (.t 63)⟩])
  (.ret)

def c_site_lead : AFunc :=
  { np := 2, res := [.t 4], body := (
    .seq (.reg [⟨some 2, none, .box (.t 0)⟩, ⟨some 3, none, .box (.t 1)⟩, ⟨some 4, none, .tk (.c (.own 7 []))⟩])
    (.seq (.reg [⟨some 10, none, .ld (some 4) (.t 2)⟩, ⟨some 11, none, .callc n_site_parts [(.t 10)]⟩, ⟨some 5, none, .tk (.t 11)⟩])
    (.seq (.seq (.reg [⟨some 12, none, .fa 1 (.t 3)⟩, ⟨some 13, none, .ld none (.t 12)⟩, ⟨some 14, none, .ic .lss (.t 13) (.c (.int .i64 0))⟩, ⟨some 15, none, .mv (.t 14)⟩, ⟨some 16, (some (15, false)), .fa 1 (.t 3)⟩, ⟨some 17, (some (15, false)), .ld none (.t 16)⟩, ⟨some 18, (some (15, false)), .mv (.t 5)⟩, ⟨some 19, (some (15, false)), .len false (.t 18)⟩, ⟨some 20, (some (15, false)), .ic .geq (.t 17) (.t 19)⟩, ⟨some 21, none, .pick (.t 15) (.c (.bool true)) (.t 20)⟩, ⟨some 22, none, .mv (.t 21)⟩, ⟨some 23, (some (22, false)), .ld (some 11) (.t 3)⟩, ⟨some 24, (some (22, false)), .callc n_site_may [(.t 23)]⟩, ⟨some 25, (some (22, false)), .notb (.t 24)⟩, ⟨some 26, none, .pick (.t 22) (.c (.bool true)) (.t 25)⟩])
      (.cond (.t 26)
        (.seq (.reg [⟨some 4, none, .tk (.c (.own 7 []))⟩])
          (.ret))
        (.skip)))
    (.seq (.drw [[], [], [], [], [], [], [], [], [], []] [⟨some 27, none, .mv (.t 5)⟩, ⟨some 28, none, .fa 1 (.t 3)⟩, ⟨some 29, none, .ld none (.t 28)⟩, ⟨some 30, none, .ixa 1 none (.t 27) (.t 29)⟩, ⟨some 31, none, .ld none (.t 30)⟩, ⟨some 32, none, .fa 2 (.t 3)⟩, ⟨some 33, none, .ixa 1 (some 8) (.t 32) (.c (.int .i64 0))⟩, ⟨some 34, none, .ld none (.t 33)⟩, ⟨some 6, none, .tk (.t 31)⟩, ⟨some 7, none, .tk (.t 34)⟩])
    (.seq (.seq (.reg [⟨some 35, none, .fa 2 (.t 3)⟩, ⟨some 36, none, .fa 10 (.t 3)⟩, ⟨some 37, none, .ld none (.t 36)⟩, ⟨some 38, none, .slp 1 8 (.t 35) (some (.c (.int .i64 1))) (some (.t 37)) none⟩, ⟨some 39, none, .len false (.t 38)⟩, ⟨some 40, none, .mv (.c (.int .i64 0))⟩])
      (.block 0 (l_site_lead_0))) r_site_lead_0))))) }

-- flotsam/site.words
def c_site_words : AFunc :=
  { np := 0, res := [.t 0], body := (
    .seq (.reg [⟨some 0, none, .tk (.c (.own 1 []))⟩])
    (.seq (.reg [⟨some 1, none, .callc n_strings_Fields [(.c (.str [63, 32, 100, 114, 111, 112, 45, 115, 121, 110, 99, 32, 119, 101, 97, 107, 45, 115, 121, 110, 99, 32, 100, 114, 111, 112, 45, 100, 105, 114, 32, 100, 114, 111, 112, 45, 98, 97, 114, 114, 105, 101, 114, 32, 115, 119, 97, 112, 32, 110, 111, 45, 99, 111, 109, 109, 105, 116, 32, 116, 101, 97, 114, 32, 100, 114, 111, 112, 45, 119, 114, 105, 116, 101]))]⟩, ⟨some 0, none, .tk (.t 1)⟩])
    (.ret))) }

-- flotsam/site.may
def b_site_may_0 : AC :=
  .seq (.reg [⟨some 17, none, .ic .lss (.t 16) (.c (.int .i64 8))⟩])
  (.seq (.cond (.t 17)
      (.skip)
      (.exit 0))
  (.seq (.block 1 (.seq (.reg [⟨some 18, none, .ixv none 1 8 (.t 15) (.t 16)⟩, ⟨some 4, none, .tk (.t 18)⟩])
      (.seq (.reg [⟨some 19, none, .mv (.t 4)⟩, ⟨some 20, none, .ic .lss (.t 19) (.c (.int .i64 0))⟩])
      (.cond (.t 20)
        (.seq (.reg [⟨some 2, none, .tk (.c (.bool false))⟩])
          (.ret))
        (.skip)))))
  (.reg [⟨some 21, none, .ia .add .i64 (.t 16) (.c (.int .i64 1))⟩, ⟨some 16, none, .mv (.t 21)⟩])))

def l_site_may_0 : AC :=
  .loop [1, 15, 16] b_site_may_0

def r_site_may_0 : AC :=
  .seq (.reg [⟨some 22, none, .ld (some 11) (.t 1)⟩, ⟨some 5, none, .alloc [.int .i64 0, .int .i64 0, .int .i64 0, .int .i64 0, .int .i64 0, .int .i64 0, .int .i64 0, .int .i64 0, .int .i64 0, .int .i64 0, .int .i64 0]⟩, ⟨none, none, .st 11 (.t 5) (.t 22)⟩])
  (.seq (.reg [⟨some 23, none, .fa 2 (.t 5)⟩, ⟨some 24, none, .fa 10 (.t 1)⟩, ⟨some 25, none, .ld none (.t 24)⟩, ⟨some 26, none, .slp 1 8 (.t 23) (some (.t 25)) none none⟩, ⟨none, none, .clr 1 [.int .i64 0] (.t 26)⟩])
  (.seq (.reg [⟨some 27, none, .fa 2 (.t 5)⟩, ⟨some 28, none, .ld (some 8) (.t 27)⟩, ⟨some 29, none, .fa 2 (.t 1)⟩, ⟨some 30, none, .ld (some 8) (.t 29)⟩, ⟨some 31, none, .eqa false [.int .i64, .int .i64, .int .i64, .int .i64, .int .i64, .int .i64, .int .i64, .int .i64] (.t 28) (.t 30)⟩, ⟨some 2, none, .tk (.t 31)⟩])
  (.ret)))

def c_site_may : AFunc :=
  { np := 1, res := [.t 2], body := (
    .seq (.reg [⟨some 1, none, .box (.t 0)⟩, ⟨some 2, none, .tk (.c (.bool false))⟩])
    (.seq (.seq (.reg [⟨some 6, none, .fa 10 (.t 1)⟩, ⟨some 7, none, .ld none (.t 6)⟩, ⟨some 8, none, .ic .lss (.t 7) (.c (.int .i64 1))⟩, ⟨some 9, none, .mv (.t 8)⟩, ⟨some 10, (some (9, false)), .fa 10 (.t 1)⟩, ⟨some 11, (some (9, false)), .ld none (.t 10)⟩, ⟨some 12, (some (9, false)), .ic .gtr (.t 11) (.c (.int .i64 8))⟩, ⟨some 13, none, .pick (.t 9) (.c (.bool true)) (.t 12)⟩])
      (.cond (.t 13)
        (.seq (.reg [⟨some 2, none, .tk (.c (.bool false))⟩])
          (.ret))
        (.skip)))
    (.seq (.seq (.reg [⟨some 14, none, .fa 2 (.t 1)⟩, ⟨some 15, none, .ld (some 8) (.t 14)⟩, ⟨some 16, none, .mv (.c (.int .i64 0))⟩])
      (.block 0 (l_site_may_0))) r_site_may_0))) }

-- flotsam/site.Word
def c_site_Word : AFunc :=
  { np := 1, res := [.t 2], body := (
    .seq (.reg [⟨some 2, none, .tk (.c (.str []))⟩])
    (.seq (.reg [⟨some 4, none, .callc n_site_words []⟩, ⟨some 3, none, .tk (.t 4)⟩])
    (.seq (.seq (.reg [⟨some 5, none, .mv (.t 0)⟩, ⟨some 6, none, .ic .lss (.t 5) (.c (.int .i64 0))⟩, ⟨some 7, none, .mv (.t 6)⟩, ⟨some 8, (some (7, false)), .mv (.t 0)⟩, ⟨some 9, (some (7, false)), .mv (.t 3)⟩, ⟨some 10, (some (7, false)), .len false (.t 9)⟩, ⟨some 11, (some (7, false)), .ic .geq (.t 8) (.t 10)⟩, ⟨some 12, none, .pick (.t 7) (.c (.bool true)) (.t 11)⟩])
      (.cond (.t 12)
        (.seq (.reg [⟨some 13, none, .mv (.t 3)⟩, ⟨some 14, none, .ixa 1 none (.t 13) (.c (.int .i64 0))⟩, ⟨some 15, none, .ld none (.t 14)⟩, ⟨some 2, none, .tk (.t 15)⟩])
          (.ret))
        (.skip)))
    (.seq (.reg [⟨some 16, none, .mv (.t 3)⟩, ⟨some 17, none, .mv (.t 0)⟩, ⟨some 18, none, .ixa 1 none (.t 16) (.t 17)⟩, ⟨some 19, none, .ld none (.t 18)⟩, ⟨some 2, none, .tk (.t 19)⟩])
    (.ret))))) }

-- flotsam/num.Digits
def b_num_Digits_0 : AC :=
  .block 1 (.seq (.reg [⟨some 12, none, .mv (.t 4)⟩, ⟨some 13, none, .ia .sub .i64 (.t 12) (.c (.int .i64 1))⟩, ⟨some 4, none, .tk (.t 13)⟩])
    (.seq (.reg [⟨some 14, none, .mv (.t 4)⟩, ⟨some 15, none, .mv (.t 5)⟩, ⟨some 16, none, .ia .rem .u64 (.t 15) (.c (.int .u64 10))⟩, ⟨some 17, none, .ia .add .u64 (.c (.int .u64 48)) (.t 16)⟩, ⟨some 18, none, .conv .u8 (.t 17)⟩, ⟨some 19, none, .ixa 1 (some 20) (.t 3) (.t 14)⟩, ⟨none, none, .st 1 (.t 19) (.t 18)⟩])
    (.seq (.reg [⟨some 20, none, .mv (.t 5)⟩, ⟨some 21, none, .ia .quo .u64 (.t 20) (.c (.int .u64 10))⟩, ⟨some 5, none, .tk (.t 21)⟩])
    (.seq (.reg [⟨some 22, none, .mv (.t 5)⟩, ⟨some 23, none, .ic .eql (.t 22) (.c (.int .u64 0))⟩])
    (.cond (.t 23)
      (.exit 0)
      (.skip))))))

def l_num_Digits_0 : AC :=
  .loop [0, 3, 4, 5] b_num_Digits_0

def r_num_Digits_0 : AC :=
  .seq (.seq (.reg [⟨some 24, none, .mv (.t 0)⟩, ⟨some 25, none, .ic .lss (.t 24) (.c (.int .i64 0))⟩])
    (.cond (.t 25)
      (.seq (.reg [⟨some 26, none, .mv (.t 4)⟩, ⟨some 27, none, .ia .sub .i64 (.t 26) (.c (.int .i64 1))⟩, ⟨some 4, none, .tk (.t 27)⟩])
        (.reg [⟨some 28, none, .mv (.t 4)⟩, ⟨some 29, none, .ixa 1 (some 20) (.t 3) (.t 28)⟩, ⟨none, none, .st 1 (.t 29) (.c (.int .u8 45))⟩]))
      (.skip)))
  (.seq (.reg [⟨some 30, none, .mv (.t 4)⟩, ⟨some 31, none, .slp 1 20 (.t 3) (some (.t 30)) none none⟩, ⟨some 32, none, .b2s (.t 31)⟩, ⟨some 2, none, .tk (.t 32)⟩])
  (.ret))

def c_num_Digits : AFunc :=
  { np := 1, res := [.t 2], body := (
    .seq (.reg [⟨some 2, none, .tk (.c (.str []))⟩])
    (.seq (.reg [⟨some 3, none, .alloc [.int .u8 0, .int .u8 0, .int .u8 0, .int .u8 0, .int .u8 0, .int .u8 0, .int .u8 0, .int .u8 0, .int .u8 0, .int .u8 0, .int .u8 0, .int .u8 0, .int .u8 0, .int .u8 0, .int .u8 0, .int .u8 0, .int .u8 0, .int .u8 0, .int .u8 0, .int .u8 0]⟩])
    (.seq (.reg [⟨some 4, none, .tk (.c (.int .i64 20))⟩])
    (.seq (.reg [⟨some 6, none, .mv (.t 0)⟩, ⟨some 7, none, .conv .u64 (.t 6)⟩, ⟨some 5, none, .tk (.t 7)⟩])
    (.seq (.seq (.reg [⟨some 8, none, .mv (.t 0)⟩, ⟨some 9, none, .ic .lss (.t 8) (.c (.int .i64 0))⟩])
      (.cond (.t 9)
        (.reg [⟨some 10, none, .mv (.t 5)⟩, ⟨some 11, none, .neg .u64 (.t 10)⟩, ⟨some 5, none, .tk (.t 11)⟩])
        (.skip)))
    (.seq (.block 0 (l_num_Digits_0)) r_num_Digits_0)))))) }

-- flotsam/num.Read
def b_num_Read_0 : AC :=
  .seq (.reg [⟨some 28, none, .ic .lss (.t 27) (.t 26)⟩])
  (.seq (.cond (.t 28)
      (.skip)
      (.exit 0))
  (.seq (.block 1 (.seq (.reg [⟨some 29, none, .ixa 1 none (.t 25) (.t 27)⟩, ⟨some 30, none, .ld none (.t 29)⟩, ⟨some 6, none, .tk (.t 30)⟩])
      (.seq (.reg [⟨some 31, none, .mv (.t 6)⟩, ⟨some 32, none, .conv .i64 (.t 31)⟩, ⟨some 33, none, .ia .sub .i64 (.t 32) (.c (.int .i64 48))⟩, ⟨some 7, none, .tk (.t 33)⟩])
      (.seq (.seq (.reg [⟨some 34, none, .mv (.t 7)⟩, ⟨some 35, none, .ic .lss (.t 34) (.c (.int .i64 0))⟩, ⟨some 36, none, .mv (.t 35)⟩, ⟨some 37, (some (36, false)), .mv (.t 7)⟩, ⟨some 38, (some (36, false)), .ic .gtr (.t 37) (.c (.int .i64 9))⟩, ⟨some 39, none, .pick (.t 36) (.c (.bool true)) (.t 38)⟩])
        (.cond (.t 39)
          (.seq (.reg [⟨some 2, none, .tk (.c (.int .i64 0))⟩, ⟨some 3, none, .tk (.c (.bool false))⟩])
            (.ret))
          (.skip)))
      (.reg [⟨some 40, none, .mv (.t 4)⟩, ⟨some 41, none, .ia .mul .i64 (.t 40) (.c (.int .i64 10))⟩, ⟨some 42, none, .mv (.t 7)⟩, ⟨some 43, none, .ia .add .i64 (.t 41) (.t 42)⟩, ⟨some 4, none, .tk (.t 43)⟩])))))
  (.reg [⟨some 44, none, .ia .add .i64 (.t 27) (.c (.int .i64 1))⟩, ⟨some 27, none, .mv (.t 44)⟩])))

def l_num_Read_0 : AC :=
  .loop [4, 25, 26, 27] b_num_Read_0

def r_num_Read_0 : AC :=
  .seq (.seq (.reg [⟨some 45, none, .mv (.t 4)⟩, ⟨some 46, none, .ic .gtr (.t 45) (.c (.int .i64 1000000000000))⟩])
    (.cond (.t 46)
      (.seq (.reg [⟨some 2, none, .tk (.c (.int .i64 0))⟩, ⟨some 3, none, .tk (.c (.bool false))⟩])
        (.ret))
      (.skip)))
  (.seq (.reg [⟨some 47, none, .mv (.t 4)⟩, ⟨some 2, none, .tk (.t 47)⟩, ⟨some 3, none, .tk (.c (.bool true))⟩])
  (.ret))

def c_num_Read : AFunc :=
  { np := 1, res := [.t 2, .t 3], body := (
    .seq (.reg [⟨some 2, none, .tk (.c (.int .i64 0))⟩, ⟨some 3, none, .tk (.c (.bool false))⟩])
    (.seq (.seq (.reg [⟨some 8, none, .mv (.t 0)⟩, ⟨some 9, none, .sop .eql (.t 8) (.c (.str []))⟩, ⟨some 10, none, .mv (.t 9)⟩, ⟨some 11, (some (10, false)), .mv (.t 0)⟩, ⟨some 12, (some (10, false)), .len true (.t 11)⟩, ⟨some 13, (some (10, false)), .ic .gtr (.t 12) (.c (.int .i64 13))⟩, ⟨some 14, none, .pick (.t 10) (.c (.bool true)) (.t 13)⟩, ⟨some 15, none, .mv (.t 14)⟩, ⟨some 16, (some (15, false)), .mv (.t 0)⟩, ⟨some 17, (some (15, false)), .ixs (.t 16) (.c (.int .i64 0))⟩, ⟨some 18, (some (15, false)), .ic .eql (.t 17) (.c (.int .u8 48))⟩, ⟨some 19, (some (15, false)), .mv (.t 18)⟩, ⟨some 20, (some (19, true)), .mv (.t 0)⟩, ⟨some 21, (some (19, true)), .sop .neq (.t 20) (.c (.str [48]))⟩, ⟨some 22, (some (15, false)), .pick (.t 19) (.t 21) (.c (.bool false))⟩, ⟨some 23, none, .pick (.t 15) (.c (.bool true)) (.t 22)⟩])
      (.cond (.t 23)
        (.seq (.reg [⟨some 2, none, .tk (.c (.int .i64 0))⟩, ⟨some 3, none, .tk (.c (.bool false))⟩])
          (.ret))
        (.skip)))
    (.seq (.reg [⟨some 4, none, .tk (.c (.int .i64 0))⟩])
    (.seq (.seq (.reg [⟨some 24, none, .mv (.t 0)⟩, ⟨some 25, none, .s2b (.t 24)⟩, ⟨some 26, none, .len false (.t 25)⟩, ⟨some 27, none, .mv (.c (.int .i64 0))⟩])
      (.block 0 (l_num_Read_0))) r_num_Read_0)))) }

-- flotsam/tree.All
def a_tree_All_0 : AC :=
  .reg [⟨some 6, none, .alloc [.int .i64 0, .str [], .int .i64 0, .own 4 [], .own 7 [], .own 7 [], .bool false]⟩, ⟨none, none, .st 7 (.t 6) (.t 16)⟩]

def y_tree_All_0 : AC :=
  .block 3 (.drw [[], [], [], [], [], [], [], [], []] [⟨some 17, none, .ldo (.t 3)⟩, ⟨some 18, none, .ld (some 7) (.t 6)⟩, ⟨some 19, none, .callc n_tree_cloned [(.t 18)]⟩, ⟨some 20, none, .len false (.t 17)⟩, ⟨some 21, none, .bsl 7 [.int .i64 0, .str [], .int .i64 0, .sl 4 [], .sl 7 [], .sl 7 [], .bool false] 1 [(0, 7, (.c (.agg [.int .i64 0, .str [], .int .i64 0, .sl 4 [], .sl 7 [], .sl 7 [], .bool false])))] false⟩, ⟨some 22, none, .apz 7 112 (.t 17) (.t 21)⟩, ⟨some 23, none, .ixa 7 none (.t 22) (.t 20)⟩, ⟨none, none, .st 7 (.t 23) (.t 19)⟩, ⟨none, none, .stf (.t 3) (.t 22)⟩])

def r_tree_All_0 : AC :=
  .reg [⟨some 24, none, .ia .add .i64 (.t 10) (.c (.int .i64 1))⟩, ⟨some 10, none, .mv (.t 24)⟩]

def b_tree_All_0 : AC :=
  .seq (.reg [⟨some 11, none, .ic .lss (.t 10) (.t 9)⟩])
  (.seq (.cond (.t 11)
      (.skip)
      (.exit 0))
  (.seq (.block 1 (.seq (.reg [⟨some 12, none, .ixa 1 none (.t 8) (.t 10)⟩, ⟨some 13, none, .ld none (.t 12)⟩, ⟨some 5, none, .tk (.t 13)⟩])
      (.seq (.reg [⟨some 14, none, .mv (.t 5)⟩, ⟨some 15, none, .call n_tree_walk [(.t 14)]⟩])
      (.block 2 (.rfn (.t 15) [3] q_tree_All_0 [16] a_tree_All_0 y_tree_All_0))))) r_tree_All_0))

def l_tree_All_0 : AC :=
  .loop [3, 8, 9, 10] b_tree_All_0

def r_tree_All_1 : AC :=
  .seq (.reg [⟨some 25, none, .ld none (.t 3)⟩, ⟨some 2, none, .tk (.t 25)⟩])
  (.ret)

def c_tree_All : AFunc :=
  { np := 1, res := [.t 2], body := (
    .seq (.reg [⟨some 1, none, .box (.t 0)⟩, ⟨some 2, none, .tk (.c (.own 7 []))⟩])
    (.seq (.reg [⟨some 3, none, .alloc [.own 7 []]⟩])
    (.seq (.seq (.reg [⟨some 7, none, .ld (some 4) (.t 1)⟩, ⟨some 8, none, .callc n_tree_parts [(.t 7)]⟩, ⟨some 9, none, .len false (.t 8)⟩, ⟨some 10, none, .mv (.c (.int .i64 0))⟩])
      (.block 0 (l_tree_All_0))) r_tree_All_1))) }

-- flotsam/tree.Right$1
def c_tree_Right_1 : AFunc :=
  { np := 1, res := [.t 2], body := (
    .seq (.reg [⟨some 1, none, .box (.t 0)⟩, ⟨some 2, none, .tk (.c (.bool false))⟩])
    (.seq (.reg [⟨some 3, none, .fa 0 (.t 1)⟩, ⟨some 4, none, .ld none (.t 3)⟩, ⟨some 5, none, .callc n_lex_Name [(.t 4)]⟩, ⟨some 6, none, .notb (.t 5)⟩, ⟨some 2, none, .tk (.t 6)⟩])
    (.ret))) }

-- flotsam/lex.Name
def c_lex_Name : AFunc :=
  { np := 1, res := [.t 2], body := (
    .seq (.reg [⟨some 2, none, .tk (.c (.bool false))⟩])
    (.seq (.reg [⟨some 3, none, .mv (.t 0)⟩, ⟨some 4, none, .callc n_lex_begins [(.t 3), (.c (.fn (.func n_lex_letter) [] []))]⟩, ⟨some 5, none, .mv (.t 4)⟩, ⟨some 6, (some (5, true)), .mv (.t 0)⟩, ⟨some 7, (some (5, true)), .len true (.t 6)⟩, ⟨some 8, (some (5, true)), .ic .leq (.t 7) (.c (.int .i64 8))⟩, ⟨some 9, none, .pick (.t 5) (.t 8) (.c (.bool false))⟩, ⟨some 10, none, .mv (.t 9)⟩, ⟨some 11, (some (10, true)), .mv (.t 0)⟩, ⟨some 12, (some (10, true)), .callc n_lex_run [(.t 11), (.c (.fn (.func n_lex_inner) [] []))]⟩, ⟨some 13, (some (10, true)), .mv (.t 0)⟩, ⟨some 14, (some (10, true)), .sop .eql (.t 12) (.t 13)⟩, ⟨some 15, none, .pick (.t 10) (.t 14) (.c (.bool false))⟩, ⟨some 16, none, .mv (.t 15)⟩, ⟨some 17, (some (16, true)), .mv (.t 0)⟩, ⟨some 18, (some (16, true)), .callc n_lex_Key [(.t 17)]⟩, ⟨some 19, (some (16, true)), .notb (.t 18)⟩, ⟨some 20, none, .pick (.t 16) (.t 19) (.c (.bool false))⟩, ⟨some 2, none, .tk (.t 20)⟩])
    (.ret))) }

-- flotsam/tree.Right$2
def c_tree_Right_2 : AFunc :=
  { np := 1, res := [.t 2], body := (
    .seq (.reg [⟨some 1, none, .box (.t 0)⟩, ⟨some 2, none, .tk (.c (.bool false))⟩])
    (.seq (.reg [⟨some 3, none, .fa 0 (.t 1)⟩, ⟨some 4, none, .ld none (.t 3)⟩, ⟨some 5, none, .callc n_lex_Name [(.t 4)]⟩, ⟨some 6, none, .notb (.t 5)⟩, ⟨some 7, none, .mv (.t 6)⟩, ⟨some 8, (some (7, false)), .fa 1 (.t 1)⟩, ⟨some 9, (some (7, false)), .ld (some 4) (.t 8)⟩, ⟨some 10, (some (7, false)), .callc n_tree_expr [(.t 9), (.c (.int .i64 8))]⟩, ⟨some 11, (some (7, false)), .notb (.t 10)⟩, ⟨some 12, none, .pick (.t 7) (.c (.bool true)) (.t 11)⟩, ⟨some 2, none, .tk (.t 12)⟩])
    (.ret))) }

-- flotsam/tree.expr
def c_tree_expr : AFunc :=
  { np := 2, res := [.t 4], body := (
    .seq (.reg [⟨some 2, none, .box (.t 0)⟩, ⟨some 3, none, .box (.t 1)⟩, ⟨some 4, none, .tk (.c (.bool false))⟩])
    (.seq (.reg [⟨some 9, none, .fa 0 (.t 2)⟩, ⟨some 10, none, .ld none (.t 9)⟩, ⟨some 11, none, .callc n_tree_Parts [(.t 10)]⟩, ⟨some 8, none, .mv (.t 11)⟩, ⟨some 12, none, .ext (.t 8) 0⟩, ⟨some 13, none, .ext (.t 8) 1⟩, ⟨some 5, none, .tk (.t 12)⟩, ⟨some 6, none, .tk (.t 13)⟩])
    (.seq (.seq (.reg [⟨some 14, none, .mv (.t 6)⟩, ⟨some 15, none, .notb (.t 14)⟩, ⟨some 16, none, .mv (.t 15)⟩, ⟨some 17, (some (16, false)), .ld none (.t 3)⟩, ⟨some 18, (some (16, false)), .ic .eql (.t 17) (.c (.int .i64 0))⟩, ⟨some 19, none, .pick (.t 16) (.c (.bool true)) (.t 18)⟩, ⟨some 20, none, .mv (.t 19)⟩, ⟨some 21, (some (20, false)), .fa 3 (.t 2)⟩, ⟨some 22, (some (20, false)), .ld none (.t 21)⟩, ⟨some 23, (some (20, false)), .len false (.t 22)⟩, ⟨some 24, (some (20, false)), .mv (.t 5)⟩, ⟨some 25, (some (20, false)), .ic .neq (.t 23) (.t 24)⟩, ⟨some 26, none, .pick (.t 20) (.c (.bool true)) (.t 25)⟩])
      (.cond (.t 26)
        (.seq (.reg [⟨some 4, none, .tk (.c (.bool false))⟩])
          (.ret))
        (.skip)))
    (.seq (.seq (.reg [⟨some 27, none, .fa 0 (.t 2)⟩, ⟨some 28, none, .ld none (.t 27)⟩, ⟨some 29, none, .fa 1 (.t 2)⟩, ⟨some 30, none, .ld none (.t 29)⟩, ⟨some 31, none, .fa 2 (.t 2)⟩, ⟨some 32, none, .ld none (.t 31)⟩, ⟨some 33, none, .bld [.int .i64 0, .int .i64 0, .str [], .sl 4 []] [(0, 1, (.t 28)), (1, 1, (.t 30)), (2, 1, (.t 32))]⟩, ⟨some 7, none, .alloc [.int .i64 0, .int .i64 0, .str [], .own 4 []]⟩, ⟨none, none, .st 4 (.t 7) (.t 33)⟩])
      (.seq (.reg [⟨some 34, none, .fa 0 (.t 7)⟩, ⟨some 35, none, .ld none (.t 34)⟩])
      (.block 0 (.seq (.reg [⟨some 45, none, .ic .eql (.t 35) (.c (.int .i64 1))⟩, ⟨some 44, none, .tk (.t 45)⟩])
        (.cond (.t 44)
          (.reg [⟨some 46, none, .fa 1 (.t 7)⟩, ⟨some 47, none, .ld none (.t 46)⟩, ⟨some 48, none, .ic .geq (.t 47) (.c (.int .i64 0))⟩, ⟨some 49, none, .mv (.t 48)⟩, ⟨some 50, (some (49, true)), .fa 1 (.t 7)⟩, ⟨some 51, (some (49, true)), .ld none (.t 50)⟩, ⟨some 52, (some (49, true)), .ic .leq (.t 51) (.c (.int .i64 1000000000000))⟩, ⟨some 53, none, .pick (.t 49) (.t 52) (.c (.bool false))⟩, ⟨some 54, none, .mv (.t 53)⟩, ⟨some 55, (some (54, true)), .fa 2 (.t 7)⟩, ⟨some 56, (some (54, true)), .ld none (.t 55)⟩, ⟨some 57, (some (54, true)), .sop .eql (.t 56) (.c (.str []))⟩, ⟨some 58, none, .pick (.t 54) (.t 57) (.c (.bool false))⟩, ⟨some 6, none, .tk (.t 58)⟩])
          (.seq (.reg [⟨some 60, none, .ic .eql (.t 35) (.c (.int .i64 3))⟩, ⟨some 59, none, .tk (.t 60)⟩])
            (.cond (.t 59)
              (.reg [⟨some 61, none, .fa 1 (.t 7)⟩, ⟨some 62, none, .ld none (.t 61)⟩, ⟨some 63, none, .ia .shr .i64 (.t 62) (.c (.int .u64 1))⟩, ⟨some 64, none, .ic .eql (.t 63) (.c (.int .i64 0))⟩, ⟨some 65, none, .mv (.t 64)⟩, ⟨some 66, (some (65, true)), .fa 2 (.t 7)⟩, ⟨some 67, (some (65, true)), .ld none (.t 66)⟩, ⟨some 68, (some (65, true)), .sop .eql (.t 67) (.c (.str []))⟩, ⟨some 69, none, .pick (.t 65) (.t 68) (.c (.bool false))⟩, ⟨some 6, none, .tk (.t 69)⟩])
              (.seq (.reg [⟨some 71, none, .ic .eql (.t 35) (.c (.int .i64 2))⟩, ⟨some 70, none, .tk (.t 71)⟩])
                (.cond (.t 70)
                  (.reg [⟨some 72, none, .fa 2 (.t 7)⟩, ⟨some 73, none, .ld none (.t 72)⟩, ⟨some 74, none, .len true (.t 73)⟩, ⟨some 75, none, .ic .leq (.t 74) (.c (.int .i64 64))⟩, ⟨some 76, none, .mv (.t 75)⟩, ⟨some 77, (some (76, true)), .fa 1 (.t 7)⟩, ⟨some 78, (some (76, true)), .ld none (.t 77)⟩, ⟨some 79, (some (76, true)), .ic .eql (.t 78) (.c (.int .i64 0))⟩, ⟨some 80, none, .pick (.t 76) (.t 79) (.c (.bool false))⟩, ⟨some 6, none, .tk (.t 80)⟩])
                  (.seq (.reg [⟨some 82, none, .ic .eql (.t 35) (.c (.int .i64 4))⟩, ⟨some 81, none, .tk (.t 82)⟩])
                    (.cond (.t 81)
                      (.reg [⟨some 83, none, .fa 2 (.t 7)⟩, ⟨some 84, none, .ld none (.t 83)⟩, ⟨some 85, none, .callc n_lex_Name [(.t 84)]⟩, ⟨some 86, none, .mv (.t 85)⟩, ⟨some 87, (some (86, true)), .fa 1 (.t 7)⟩, ⟨some 88, (some (86, true)), .ld none (.t 87)⟩, ⟨some 89, (some (86, true)), .ic .eql (.t 88) (.c (.int .i64 0))⟩, ⟨some 90, none, .pick (.t 86) (.t 89) (.c (.bool false))⟩, ⟨some 6, none, .tk (.t 90)⟩])
                      (.reg [⟨some 36, none, .fa 2 (.t 7)⟩, ⟨some 37, none, .ld none (.t 36)⟩, ⟨some 38, none, .sop .eql (.t 37) (.c (.str []))⟩, ⟨some 39, none, .mv (.t 38)⟩, ⟨some 40, (some (39, true)), .fa 1 (.t 7)⟩, ⟨some 41, (some (39, true)), .ld none (.t 40)⟩, ⟨some 42, (some (39, true)), .ic .eql (.t 41) (.c (.int .i64 0))⟩, ⟨some 43, none, .pick (.t 39) (.t 42) (.c (.bool false))⟩, ⟨some 6, none, .tk (.t 43)⟩]))))))))))))
    (.seq (.reg [⟨some 91, none, .mv (.t 6)⟩, ⟨some 92, none, .mv (.t 91)⟩, ⟨some 93, (some (92, true)), .fa 3 (.t 2)⟩, ⟨some 94, (some (92, true)), .ld none (.t 93)⟩, ⟨some 95, (some (92, true)), .mkf (.func n_tree_expr_1) [] [(.t 3)]⟩, ⟨some 96, (some (92, true)), .call n_slices_ContainsFunc_api_Expr_api_Expr [(.t 94), (.t 95)]⟩, ⟨some 97, (some (92, true)), .notb (.t 96)⟩, ⟨some 98, none, .pick (.t 92) (.t 97) (.c (.bool false))⟩, ⟨some 4, none, .tk (.t 98)⟩])
    (.ret)))))) }

-- flotsam/tree.Right$3
def c_tree_Right_3 : AFunc :=
  { np := 1, res := [.t 2], body := (
    .seq (.reg [⟨some 2, none, .tk (.c (.bool false))⟩])
    (.seq (.reg [⟨some 3, none, .mv (.t 0)⟩, ⟨some 4, none, .callc n_tree_block [(.t 3), (.c (.int .i64 1))]⟩, ⟨some 5, none, .notb (.t 4)⟩, ⟨some 2, none, .tk (.t 5)⟩])
    (.ret))) }

-- flotsam/tree.block
def c_tree_block : AFunc :=
  { np := 2, res := [.t 4], body := (
    .seq (.reg [⟨some 3, none, .box (.t 1)⟩, ⟨some 4, none, .tk (.c (.bool false))⟩])
    (.seq (.reg [⟨some 5, none, .mv (.t 0)⟩, ⟨some 6, none, .mkf (.func n_tree_block_1) [] [(.t 3)]⟩, ⟨some 7, none, .call n_slices_ContainsFunc_api_Stmt_api_Stmt_x [(.t 5), (.t 6)]⟩, ⟨some 8, none, .notb (.t 7)⟩, ⟨some 4, none, .tk (.t 8)⟩])
    (.ret))) }

-- slices.ContainsFunc[[]flotsam/api.Proc,flotsam/api.Proc]
def c_slices_ContainsFunc_api_Proc_api_Proc : AFunc :=
  { np := 2, res := [.t 4], body := (
    .seq (.reg [⟨some 4, none, .tk (.c (.bool false))⟩])
    (.seq (.reg [⟨some 5, none, .mv (.t 0)⟩, ⟨some 6, none, .mv (.t 1)⟩, ⟨some 7, none, .call n_slices_IndexFunc_api_Proc_api_Proc [(.t 5), (.t 6)]⟩, ⟨some 8, none, .ic .geq (.t 7) (.c (.int .i64 0))⟩, ⟨some 4, none, .tk (.t 8)⟩])
    (.ret))) }

-- slices.ContainsFunc[[]flotsam/api.Oracle,flotsam/api.Oracle]
def c_slices_ContainsFunc_api_Oracle_api_Oracle : AFunc :=
  { np := 2, res := [.t 4], body := (
    .seq (.reg [⟨some 4, none, .tk (.c (.bool false))⟩])
    (.seq (.reg [⟨some 5, none, .mv (.t 0)⟩, ⟨some 6, none, .mv (.t 1)⟩, ⟨some 7, none, .call n_slices_IndexFunc_api_Oracle_api_Oracle [(.t 5), (.t 6)]⟩, ⟨some 8, none, .ic .geq (.t 7) (.c (.int .i64 0))⟩, ⟨some 4, none, .tk (.t 8)⟩])
    (.ret))) }

-- slices.ContainsFunc[[][]flotsam/api.Stmt,[]flotsam/api.Stmt]
def c_slices_ContainsFunc_api_Stmt_api_Stmt : AFunc :=
  { np := 2, res := [.t 4], body := (
    .seq (.reg [⟨some 4, none, .tk (.c (.bool false))⟩])
    (.seq (.reg [⟨some 5, none, .mv (.t 0)⟩, ⟨some 6, none, .mv (.t 1)⟩, ⟨some 7, none, .call n_slices_IndexFunc_api_Stmt_api_Stmt [(.t 5), (.t 6)]⟩, ⟨some 8, none, .ic .geq (.t 7) (.c (.int .i64 0))⟩, ⟨some 4, none, .tk (.t 8)⟩])
    (.ret))) }

-- flotsam/tree.parts
def b_tree_parts_0 : AC :=
  .seq (.reg [⟨some 10, none, .ic .lss (.t 9) (.t 8)⟩])
  (.seq (.cond (.t 10)
      (.skip)
      (.exit 0))
  (.seq (.block 1 (.seq (.reg [⟨some 11, none, .ixa 2 none (.t 7) (.t 9)⟩, ⟨some 12, none, .ld (some 2) (.t 11)⟩, ⟨some 5, none, .alloc [.str [], .own 7 []]⟩, ⟨none, none, .st 2 (.t 5) (.t 12)⟩])
      (.reg [⟨some 13, none, .tk (.t 3)⟩, ⟨some 14, none, .fa 1 (.t 5)⟩, ⟨some 15, none, .ld none (.t 14)⟩, ⟨some 16, none, .bsl 1 [.sl 7 []] 1 [(0, 1, (.t 15))] false⟩, ⟨some 17, none, .app 1 24 (.t 13) (.t 16) false⟩, ⟨some 3, none, .tk (.t 17)⟩])))
  (.reg [⟨some 18, none, .ia .add .i64 (.t 9) (.c (.int .i64 1))⟩, ⟨some 9, none, .mv (.t 18)⟩])))

def l_tree_parts_0 : AC :=
  .loop [1, 3, 7, 8, 9] b_tree_parts_0

def r_tree_parts_0 : AC :=
  .seq (.reg [⟨some 19, none, .tk (.t 3)⟩, ⟨some 20, none, .fa 1 (.t 1)⟩, ⟨some 21, none, .ld none (.t 20)⟩, ⟨some 22, none, .fa 2 (.t 1)⟩, ⟨some 23, none, .ld none (.t 22)⟩, ⟨some 24, none, .bsl 1 [.sl 7 []] 2 [(0, 1, (.t 21)), (1, 1, (.t 23))] false⟩, ⟨some 25, none, .app 1 24 (.t 19) (.t 24) false⟩, ⟨some 2, none, .tk (.t 25)⟩])
  (.ret)

def c_tree_parts : AFunc :=
  { np := 1, res := [.t 2], body := (
    .seq (.reg [⟨some 1, none, .box (.t 0)⟩, ⟨some 2, none, .tk (.c (.own 1 []))⟩])
    (.seq (.reg [⟨some 3, none, .tk (.c (.own 1 []))⟩])
    (.seq (.seq (.reg [⟨some 6, none, .fa 0 (.t 1)⟩, ⟨some 7, none, .ld none (.t 6)⟩, ⟨some 8, none, .len false (.t 7)⟩, ⟨some 9, none, .mv (.c (.int .i64 0))⟩])
      (.block 0 (l_tree_parts_0))) r_tree_parts_0))) }

-- flotsam/flotsamref16.block
def b_flotsamref16_block_0 : AC :=
  .seq (.seq (.reg [⟨some 30, none, .mv (.t 7)⟩, ⟨some 31, none, .mv (.t 0)⟩, ⟨some 32, none, .mv (.t 6)⟩, ⟨some 33, none, .ixa 7 none (.t 31) (.t 32)⟩, ⟨some 34, none, .fa 3 (.t 33)⟩, ⟨some 35, none, .ld none (.t 34)⟩, ⟨some 36, none, .len false (.t 35)⟩, ⟨some 37, none, .ic .lss (.t 30) (.t 36)⟩])
    (.cond (.t 37)
      (.skip)
      (.exit 2)))
  (.seq (.block 3 (.seq (.reg [⟨some 40, none, .mv (.t 5)⟩, ⟨some 41, none, .mv (.t 0)⟩, ⟨some 42, none, .mv (.t 6)⟩, ⟨some 43, none, .ixa 7 none (.t 41) (.t 42)⟩, ⟨some 44, none, .fa 3 (.t 43)⟩, ⟨some 45, none, .ld none (.t 44)⟩, ⟨some 46, none, .mv (.t 7)⟩, ⟨some 47, none, .ixa 4 none (.t 45) (.t 46)⟩, ⟨some 48, none, .ld (some 4) (.t 47)⟩, ⟨some 49, none, .mv (.t 1)⟩, ⟨some 50, none, .mv (.t 5)⟩, ⟨some 51, none, .ia .sub .i64 (.t 49) (.t 50)⟩, ⟨some 52, none, .callc n_flotsamref16_expr [(.t 48), (.t 51)]⟩, ⟨some 53, none, .ia .add .i64 (.t 40) (.t 52)⟩, ⟨some 5, none, .tk (.t 53)⟩])
      (.seq (.reg [⟨some 54, none, .mv (.t 5)⟩, ⟨some 55, none, .mv (.t 1)⟩, ⟨some 56, none, .ic .gtr (.t 54) (.t 55)⟩])
      (.cond (.t 56)
        (.seq (.reg [⟨some 57, none, .mv (.t 1)⟩, ⟨some 58, none, .ia .add .i64 (.t 57) (.c (.int .i64 1))⟩, ⟨some 4, none, .tk (.t 58)⟩])
          (.ret))
        (.skip)))))
  (.reg [⟨some 38, none, .mv (.t 7)⟩, ⟨some 39, none, .ia .add .i64 (.t 38) (.c (.int .i64 1))⟩, ⟨some 7, none, .tk (.t 39)⟩]))

def l_flotsamref16_block_0 : AC :=
  .loop [0, 1, 5, 6, 7] b_flotsamref16_block_0

def r_flotsamref16_block_0 : AC :=
  .seq (.reg [⟨some 59, none, .mv (.t 5)⟩, ⟨some 60, none, .mv (.t 0)⟩, ⟨some 61, none, .mv (.t 6)⟩, ⟨some 62, none, .ixa 7 none (.t 60) (.t 61)⟩, ⟨some 63, none, .fa 4 (.t 62)⟩, ⟨some 64, none, .ld none (.t 63)⟩, ⟨some 65, none, .mv (.t 1)⟩, ⟨some 66, none, .mv (.t 5)⟩, ⟨some 67, none, .ia .sub .i64 (.t 65) (.t 66)⟩, ⟨some 68, none, .callc n_flotsamref16_block [(.t 64), (.t 67)]⟩, ⟨some 69, none, .ia .add .i64 (.t 59) (.t 68)⟩, ⟨some 5, none, .tk (.t 69)⟩])
  (.seq (.seq (.reg [⟨some 70, none, .mv (.t 5)⟩, ⟨some 71, none, .mv (.t 1)⟩, ⟨some 72, none, .ic .gtr (.t 70) (.t 71)⟩])
    (.cond (.t 72)
      (.seq (.reg [⟨some 73, none, .mv (.t 1)⟩, ⟨some 74, none, .ia .add .i64 (.t 73) (.c (.int .i64 1))⟩, ⟨some 4, none, .tk (.t 74)⟩])
        (.ret))
      (.skip)))
  (.seq (.reg [⟨some 75, none, .mv (.t 5)⟩, ⟨some 76, none, .mv (.t 0)⟩, ⟨some 77, none, .mv (.t 6)⟩, ⟨some 78, none, .ixa 7 none (.t 76) (.t 77)⟩, ⟨some 79, none, .fa 5 (.t 78)⟩, ⟨some 80, none, .ld none (.t 79)⟩, ⟨some 81, none, .mv (.t 1)⟩, ⟨some 82, none, .mv (.t 5)⟩, ⟨some 83, none, .ia .sub .i64 (.t 81) (.t 82)⟩, ⟨some 84, none, .callc n_flotsamref16_block [(.t 80), (.t 83)]⟩, ⟨some 85, none, .ia .add .i64 (.t 75) (.t 84)⟩, ⟨some 5, none, .tk (.t 85)⟩])
  (.seq (.reg [⟨some 86, none, .mv (.t 5)⟩, ⟨some 87, none, .mv (.t 1)⟩, ⟨some 88, none, .ic .gtr (.t 86) (.t 87)⟩])
  (.cond (.t 88)
    (.seq (.reg [⟨some 89, none, .mv (.t 1)⟩, ⟨some 90, none, .ia .add .i64 (.t 89) (.c (.int .i64 1))⟩, ⟨some 4, none, .tk (.t 90)⟩])
      (.ret))
    (.skip)))))

def r_flotsamref16_block_1 : AC :=
  .reg [⟨some 12, none, .mv (.t 6)⟩, ⟨some 13, none, .ia .add .i64 (.t 12) (.c (.int .i64 1))⟩, ⟨some 6, none, .tk (.t 13)⟩]

def b_flotsamref16_block_1 : AC :=
  .seq (.seq (.reg [⟨some 8, none, .mv (.t 6)⟩, ⟨some 9, none, .mv (.t 0)⟩, ⟨some 10, none, .len false (.t 9)⟩, ⟨some 11, none, .ic .lss (.t 8) (.t 10)⟩])
    (.cond (.t 11)
      (.skip)
      (.exit 0)))
  (.seq (.block 1 (.seq (.reg [⟨some 14, none, .mv (.t 5)⟩, ⟨some 15, none, .ia .add .i64 (.t 14) (.c (.int .i64 1))⟩, ⟨some 5, none, .tk (.t 15)⟩])
      (.seq (.seq (.reg [⟨some 16, none, .mv (.t 5)⟩, ⟨some 17, none, .mv (.t 1)⟩, ⟨some 18, none, .ic .gtr (.t 16) (.t 17)⟩, ⟨some 19, none, .mv (.t 18)⟩, ⟨some 20, (some (19, false)), .mv (.t 0)⟩, ⟨some 21, (some (19, false)), .mv (.t 6)⟩, ⟨some 22, (some (19, false)), .ixa 7 none (.t 20) (.t 21)⟩, ⟨some 23, (some (19, false)), .fa 1 (.t 22)⟩, ⟨some 24, (some (19, false)), .ld none (.t 23)⟩, ⟨some 25, (some (19, false)), .len true (.t 24)⟩, ⟨some 26, (some (19, false)), .ic .gtr (.t 25) (.c (.int .i64 300))⟩, ⟨some 27, none, .pick (.t 19) (.c (.bool true)) (.t 26)⟩])
        (.cond (.t 27)
          (.seq (.reg [⟨some 28, none, .mv (.t 1)⟩, ⟨some 29, none, .ia .add .i64 (.t 28) (.c (.int .i64 1))⟩, ⟨some 4, none, .tk (.t 29)⟩])
            (.ret))
          (.skip)))
      (.seq (.seq (.reg [⟨some 7, none, .tk (.c (.int .i64 0))⟩])
        (.block 2 (l_flotsamref16_block_0))) r_flotsamref16_block_0)))) r_flotsamref16_block_1)

def l_flotsamref16_block_1 : AC :=
  .loop [0, 1, 5, 6] b_flotsamref16_block_1

def r_flotsamref16_block_2 : AC :=
  .seq (.reg [⟨some 91, none, .mv (.t 5)⟩, ⟨some 4, none, .tk (.t 91)⟩])
  (.ret)

def c_flotsamref16_block : AFunc :=
  { np := 2, res := [.t 4], body := (
    .seq (.reg [⟨some 4, none, .tk (.c (.int .i64 0))⟩])
    (.seq (.reg [⟨some 5, none, .tk (.c (.int .i64 0))⟩])
    (.seq (.seq (.reg [⟨some 6, none, .tk (.c (.int .i64 0))⟩])
      (.block 0 (l_flotsamref16_block_1))) r_flotsamref16_block_2))) }

-- flotsam/flotsamref16.expr
def b_flotsamref16_expr_0 : AC :=
  .seq (.seq (.reg [⟨some 17, none, .mv (.t 6)⟩, ⟨some 18, none, .fa 3 (.t 2)⟩, ⟨some 19, none, .ld none (.t 18)⟩, ⟨some 20, none, .len false (.t 19)⟩, ⟨some 21, none, .ic .lss (.t 17) (.t 20)⟩])
    (.cond (.t 21)
      (.skip)
      (.exit 0)))
  (.seq (.block 1 (.seq (.reg [⟨some 24, none, .mv (.t 5)⟩, ⟨some 25, none, .fa 3 (.t 2)⟩, ⟨some 26, none, .ld none (.t 25)⟩, ⟨some 27, none, .mv (.t 6)⟩, ⟨some 28, none, .ixa 4 none (.t 26) (.t 27)⟩, ⟨some 29, none, .ld (some 4) (.t 28)⟩, ⟨some 30, none, .mv (.t 1)⟩, ⟨some 31, none, .mv (.t 5)⟩, ⟨some 32, none, .ia .sub .i64 (.t 30) (.t 31)⟩, ⟨some 33, none, .callc n_flotsamref16_expr [(.t 29), (.t 32)]⟩, ⟨some 34, none, .ia .add .i64 (.t 24) (.t 33)⟩, ⟨some 5, none, .tk (.t 34)⟩])
      (.seq (.reg [⟨some 35, none, .mv (.t 5)⟩, ⟨some 36, none, .mv (.t 1)⟩, ⟨some 37, none, .ic .gtr (.t 35) (.t 36)⟩])
      (.cond (.t 37)
        (.seq (.reg [⟨some 38, none, .mv (.t 1)⟩, ⟨some 39, none, .ia .add .i64 (.t 38) (.c (.int .i64 1))⟩, ⟨some 4, none, .tk (.t 39)⟩])
          (.ret))
        (.skip)))))
  (.reg [⟨some 22, none, .mv (.t 6)⟩, ⟨some 23, none, .ia .add .i64 (.t 22) (.c (.int .i64 1))⟩, ⟨some 6, none, .tk (.t 23)⟩]))

def l_flotsamref16_expr_0 : AC :=
  .loop [1, 2, 5, 6] b_flotsamref16_expr_0

def r_flotsamref16_expr_0 : AC :=
  .seq (.reg [⟨some 40, none, .mv (.t 5)⟩, ⟨some 4, none, .tk (.t 40)⟩])
  (.ret)

def c_flotsamref16_expr : AFunc :=
  { np := 2, res := [.t 4], body := (
    .seq (.reg [⟨some 2, none, .box (.t 0)⟩, ⟨some 4, none, .tk (.c (.int .i64 0))⟩])
    (.seq (.seq (.reg [⟨some 7, none, .mv (.t 1)⟩, ⟨some 8, none, .ic .lss (.t 7) (.c (.int .i64 1))⟩, ⟨some 9, none, .mv (.t 8)⟩, ⟨some 10, (some (9, false)), .fa 2 (.t 2)⟩, ⟨some 11, (some (9, false)), .ld none (.t 10)⟩, ⟨some 12, (some (9, false)), .len true (.t 11)⟩, ⟨some 13, (some (9, false)), .ic .gtr (.t 12) (.c (.int .i64 300))⟩, ⟨some 14, none, .pick (.t 9) (.c (.bool true)) (.t 13)⟩])
      (.cond (.t 14)
        (.seq (.reg [⟨some 15, none, .mv (.t 1)⟩, ⟨some 16, none, .ia .add .i64 (.t 15) (.c (.int .i64 1))⟩, ⟨some 4, none, .tk (.t 16)⟩])
          (.ret))
        (.skip)))
    (.seq (.reg [⟨some 5, none, .tk (.c (.int .i64 1))⟩])
    (.seq (.seq (.reg [⟨some 6, none, .tk (.c (.int .i64 0))⟩])
      (.block 0 (l_flotsamref16_expr_0))) r_flotsamref16_expr_0)))) }

-- flotsam/tree.Clone
def c_tree_Clone : AFunc :=
  { np := 1, res := [.cell 2 (some 4)], body := (
    .seq (.reg [⟨some 1, none, .box (.t 0)⟩, ⟨some 2, none, .alloc [.own 2 [], .own 7 [], .own 7 [], .own 5 []]⟩])
    (.seq (.drw [[], [], [], [], [], [], [], [], [], [], [], [], [], []] [⟨some 3, none, .fa 0 (.t 1)⟩, ⟨some 4, none, .ld none (.t 3)⟩, ⟨some 5, none, .callc n_tree_each_api_Proc [(.t 4), (.c (.fn (.func n_tree_Clone_1) [] []))]⟩, ⟨some 6, none, .fa 1 (.t 1)⟩, ⟨some 7, none, .ld none (.t 6)⟩, ⟨some 8, none, .callc n_tree_each_api_Stmt [(.t 7), (.c (.fn (.func n_tree_cloned) [] []))]⟩, ⟨some 9, none, .fa 2 (.t 1)⟩, ⟨some 10, none, .ld none (.t 9)⟩, ⟨some 11, none, .callc n_tree_each_api_Stmt [(.t 10), (.c (.fn (.func n_tree_cloned) [] []))]⟩, ⟨some 12, none, .fa 3 (.t 1)⟩, ⟨some 13, none, .ld none (.t 12)⟩, ⟨some 14, none, .callc n_tree_each_api_Oracle [(.t 13), (.c (.fn (.func n_tree_Clone_2) [] []))]⟩, ⟨some 15, none, .bld [.sl 2 [], .sl 7 [], .sl 7 [], .sl 5 []] [(0, 1, (.t 5)), (1, 1, (.t 8)), (2, 1, (.t 11)), (3, 1, (.t 14))]⟩, ⟨none, none, .st 4 (.t 2) (.t 15)⟩])
    (.ret))) }

-- flotsam/site.each$1
def c_site_each_1 : AFunc :=
  { np := 1, res := [.t 2], body := (
    .seq (.reg [⟨some 2, none, .tk (.c (.int .i64 0))⟩])
    (.seq (.reg [⟨some 3, none, .mv (.t 0)⟩, ⟨some 4, none, .ia .shl .i64 (.t 3) (.c (.int .u64 1))⟩, ⟨some 2, none, .tk (.t 4)⟩])
    (.ret))) }

-- flotsam/site.each$2
def c_site_each_2 : AFunc :=
  { np := 1, res := [.t 2], body := (
    .seq (.reg [⟨some 2, none, .tk (.c (.int .i64 0))⟩])
    (.seq (.reg [⟨some 3, none, .mv (.t 0)⟩, ⟨some 4, none, .ia .shl .i64 (.t 3) (.c (.int .u64 1))⟩, ⟨some 5, none, .ia .or .i64 (.t 4) (.c (.int .i64 1))⟩, ⟨some 2, none, .tk (.t 5)⟩])
    (.ret))) }

-- flotsam/site.writes
def c_site_writes : AFunc :=
  { np := 1, res := [.t 2], body := (
    .seq (.reg [⟨some 1, none, .box (.t 0)⟩, ⟨some 2, none, .tk (.c (.bool false))⟩])
    (.seq (.reg [⟨some 3, none, .fa 0 (.t 1)⟩, ⟨some 4, none, .ld none (.t 3)⟩, ⟨some 5, none, .ic .eql (.t 4) (.c (.int .i64 3))⟩, ⟨some 6, none, .mv (.t 5)⟩, ⟨some 7, (some (6, false)), .fa 0 (.t 1)⟩, ⟨some 8, (some (6, false)), .ld none (.t 7)⟩, ⟨some 9, (some (6, false)), .ic .eql (.t 8) (.c (.int .i64 4))⟩, ⟨some 10, none, .pick (.t 6) (.c (.bool true)) (.t 9)⟩, ⟨some 2, none, .tk (.t 10)⟩])
    (.ret))) }

-- flotsam/site.torn
def c_site_torn : AFunc :=
  { np := 1, res := [.t 2], body := (
    .seq (.reg [⟨some 1, none, .box (.t 0)⟩, ⟨some 2, none, .tk (.c (.bool false))⟩])
    (.seq (.seq (.reg [⟨some 4, none, .ld (some 7) (.t 1)⟩, ⟨some 5, none, .callc n_site_writes [(.t 4)]⟩, ⟨some 6, none, .notb (.t 5)⟩, ⟨some 7, none, .mv (.t 6)⟩, ⟨some 8, (some (7, false)), .fa 3 (.t 1)⟩, ⟨some 9, (some (7, false)), .ld none (.t 8)⟩, ⟨some 10, (some (7, false)), .len false (.t 9)⟩, ⟨some 11, (some (7, false)), .ic .eql (.t 10) (.c (.int .i64 0))⟩, ⟨some 12, none, .pick (.t 7) (.c (.bool true)) (.t 11)⟩])
      (.cond (.t 12)
        (.seq (.reg [⟨some 2, none, .tk (.c (.bool false))⟩])
          (.ret))
        (.skip)))
    (.seq (.reg [⟨some 13, none, .fa 3 (.t 1)⟩, ⟨some 14, none, .ld none (.t 13)⟩, ⟨some 15, none, .fa 3 (.t 1)⟩, ⟨some 16, none, .ld none (.t 15)⟩, ⟨some 17, none, .len false (.t 16)⟩, ⟨some 18, none, .ia .sub .i64 (.t 17) (.c (.int .i64 1))⟩, ⟨some 19, none, .ixa 4 none (.t 14) (.t 18)⟩, ⟨some 20, none, .ld (some 4) (.t 19)⟩, ⟨some 3, none, .alloc [.int .i64 0, .int .i64 0, .str [], .own 4 []]⟩, ⟨none, none, .st 4 (.t 3) (.t 20)⟩])
    (.seq (.reg [⟨some 21, none, .fa 0 (.t 3)⟩, ⟨some 22, none, .ld none (.t 21)⟩, ⟨some 23, none, .ic .eql (.t 22) (.c (.int .i64 2))⟩, ⟨some 24, none, .mv (.t 23)⟩, ⟨some 25, (some (24, true)), .fa 2 (.t 3)⟩, ⟨some 26, (some (24, true)), .ld none (.t 25)⟩, ⟨some 27, (some (24, true)), .len true (.t 26)⟩, ⟨some 28, (some (24, true)), .ic .gtr (.t 27) (.c (.int .i64 1))⟩, ⟨some 29, none, .pick (.t 24) (.t 28) (.c (.bool false))⟩, ⟨some 2, none, .tk (.t 29)⟩])
    (.ret))))) }

-- flotsam/site.next
def c_site_next : AFunc :=
  { np := 2, res := [.t 4, .t 5], body := (
    .seq (.reg [⟨some 2, none, .box (.t 0)⟩, ⟨some 4, none, .tk (.c (.own 7 []))⟩, ⟨some 5, none, .tk (.c (.int .i64 0))⟩])
    (.seq (.seq (.reg [⟨some 6, none, .mv (.t 1)⟩, ⟨some 7, none, .ia .and .i64 (.t 6) (.c (.int .i64 1))⟩, ⟨some 8, none, .ic .eql (.t 7) (.c (.int .i64 1))⟩])
      (.cond (.t 8)
        (.seq (.reg [⟨some 9, none, .fa 5 (.t 2)⟩, ⟨some 10, none, .ld none (.t 9)⟩, ⟨some 11, none, .mv (.t 1)⟩, ⟨some 12, none, .ia .shr .i64 (.t 11) (.c (.int .u64 1))⟩, ⟨some 4, none, .tk (.t 10)⟩, ⟨some 5, none, .tk (.t 12)⟩])
          (.ret))
        (.skip)))
    (.seq (.reg [⟨some 13, none, .fa 4 (.t 2)⟩, ⟨some 14, none, .ld none (.t 13)⟩, ⟨some 15, none, .mv (.t 1)⟩, ⟨some 16, none, .ia .shr .i64 (.t 15) (.c (.int .u64 1))⟩, ⟨some 4, none, .tk (.t 14)⟩, ⟨some 5, none, .tk (.t 16)⟩])
    (.ret)))) }

-- flotsam/tree.walk
def c_tree_walk : AFunc :=
  { np := 1, res := [.t 2], body := (
    .seq (.reg [⟨some 1, none, .box (.t 0)⟩, ⟨some 2, none, .tk (.c (.nilf))⟩])
    (.seq (.reg [⟨some 3, none, .mkf (.func n_tree_walk_1) [] [(.t 1)]⟩, ⟨some 2, none, .tk (.t 3)⟩])
    (.ret))) }

-- flotsam/tree.cloned
def c_tree_cloned : AFunc :=
  { np := 1, res := [.cell 2 (some 7)], body := (
    .seq (.reg [⟨some 1, none, .box (.t 0)⟩, ⟨some 2, none, .alloc [.int .i64 0, .str [], .int .i64 0, .own 4 [], .own 7 [], .own 7 [], .bool false]⟩])
    (.seq (.reg [⟨some 3, none, .fa 3 (.t 1)⟩, ⟨some 4, none, .ld none (.t 3)⟩, ⟨some 5, none, .callc n_tree_each_api_Expr [(.t 4), (.c (.fn (.func n_tree_clonedExpr) [] []))]⟩, ⟨some 6, none, .fa 3 (.t 1)⟩, ⟨none, none, .st 1 (.t 6) (.t 5)⟩])
    (.seq (.reg [⟨some 7, none, .fa 4 (.t 1)⟩, ⟨some 8, none, .ld none (.t 7)⟩, ⟨some 9, none, .callc n_tree_each_api_Stmt [(.t 8), (.c (.fn (.func n_tree_cloned) [] []))]⟩, ⟨some 10, none, .fa 4 (.t 1)⟩, ⟨none, none, .st 1 (.t 10) (.t 9)⟩])
    (.seq (.reg [⟨some 11, none, .fa 5 (.t 1)⟩, ⟨some 12, none, .ld none (.t 11)⟩, ⟨some 13, none, .callc n_tree_each_api_Stmt [(.t 12), (.c (.fn (.func n_tree_cloned) [] []))]⟩, ⟨some 14, none, .fa 5 (.t 1)⟩, ⟨none, none, .st 1 (.t 14) (.t 13)⟩])
    (.seq (.reg [⟨some 15, none, .ld (some 7) (.t 1)⟩, ⟨none, none, .st 7 (.t 2) (.t 15)⟩])
    (.ret)))))) }

-- flotsam/lex.begins
def c_lex_begins : AFunc :=
  { np := 2, res := [.t 4], body := (
    .seq (.reg [⟨some 4, none, .tk (.c (.bool false))⟩])
    (.seq (.reg [⟨some 5, none, .mv (.t 0)⟩, ⟨some 6, none, .sop .neq (.t 5) (.c (.str []))⟩, ⟨some 7, none, .mv (.t 6)⟩, ⟨some 8, (some (7, true)), .mv (.t 1)⟩, ⟨some 9, (some (7, true)), .mv (.t 0)⟩, ⟨some 10, (some (7, true)), .ixs (.t 9) (.c (.int .i64 0))⟩, ⟨some 11, (some (7, true)), .conv .i32 (.t 10)⟩, ⟨some 12, (some (7, true)), .callv (.t 8) [(.t 11)]⟩, ⟨some 13, none, .pick (.t 7) (.t 12) (.c (.bool false))⟩, ⟨some 4, none, .tk (.t 13)⟩])
    (.ret))) }

-- flotsam/lex.letter
def c_lex_letter : AFunc :=
  { np := 1, res := [.t 2], body := (
    .seq (.reg [⟨some 2, none, .tk (.c (.bool false))⟩])
    (.seq (.reg [⟨some 3, none, .mv (.t 0)⟩, ⟨some 4, none, .ic .geq (.t 3) (.c (.int .i32 97))⟩, ⟨some 5, none, .mv (.t 4)⟩, ⟨some 6, (some (5, true)), .mv (.t 0)⟩, ⟨some 7, (some (5, true)), .ic .leq (.t 6) (.c (.int .i32 122))⟩, ⟨some 8, none, .pick (.t 5) (.t 7) (.c (.bool false))⟩, ⟨some 2, none, .tk (.t 8)⟩])
    (.ret))) }

-- flotsam/lex.inner
def c_lex_inner : AFunc :=
  { np := 1, res := [.t 2], body := (
    .seq (.reg [⟨some 2, none, .tk (.c (.bool false))⟩])
    (.seq (.reg [⟨some 3, none, .mv (.t 0)⟩, ⟨some 4, none, .callc n_lex_letter [(.t 3)]⟩, ⟨some 5, none, .mv (.t 4)⟩, ⟨some 6, (some (5, false)), .mv (.t 0)⟩, ⟨some 7, (some (5, false)), .callc n_lex_digit [(.t 6)]⟩, ⟨some 8, none, .pick (.t 5) (.c (.bool true)) (.t 7)⟩, ⟨some 9, none, .mv (.t 8)⟩, ⟨some 10, (some (9, false)), .mv (.t 0)⟩, ⟨some 11, (some (9, false)), .ic .eql (.t 10) (.c (.int .i32 95))⟩, ⟨some 12, none, .pick (.t 9) (.c (.bool true)) (.t 11)⟩, ⟨some 2, none, .tk (.t 12)⟩])
    (.ret))) }

-- flotsam/lex.Key
def c_lex_Key : AFunc :=
  { np := 1, res := [.t 2], body := (
    .seq (.reg [⟨some 2, none, .tk (.c (.bool false))⟩])
    (.seq (.reg [⟨some 3, none, .mv (.t 0)⟩, ⟨some 4, none, .sop .neq (.t 3) (.c (.str []))⟩, ⟨some 5, none, .mv (.t 4)⟩, ⟨some 6, (some (5, true)), .mv (.t 0)⟩, ⟨some 7, (some (5, true)), .callc n_strings_Contains [(.t 6), (.c (.str [32]))]⟩, ⟨some 8, (some (5, true)), .notb (.t 7)⟩, ⟨some 9, none, .pick (.t 5) (.t 8) (.c (.bool false))⟩, ⟨some 10, none, .mv (.t 9)⟩, ⟨some 11, (some (10, true)), .mv (.t 0)⟩, ⟨some 12, (some (10, true)), .sop .add (.c (.str [32])) (.t 11)⟩, ⟨some 13, (some (10, true)), .sop .add (.t 12) (.c (.str [32]))⟩, ⟨some 14, (some (10, true)), .callc n_strings_Contains [(.c (.str [32, 112, 114, 111, 99, 32, 109, 97, 105, 110, 32, 114, 101, 99, 111, 118, 101, 114, 32, 111, 114, 97, 99, 108, 101, 32, 99, 114, 101, 97, 116, 101, 32, 109, 107, 100, 105, 114, 32, 119, 114, 105, 116, 101, 32, 97, 112, 112, 101, 110, 100, 32, 116, 114, 117, 110, 99, 97, 116, 101, 32, 114, 101, 110, 97, 109, 101, 32, 117, 110, 108, 105, 110, 107, 32, 102, 115, 121, 110, 99, 32, 102, 100, 97, 116, 97, 115, 121, 110, 99, 32, 115, 121, 110, 99, 100, 105, 114, 32, 98, 97, 114, 114, 105, 101, 114, 32, 108, 101, 116, 32, 105, 102, 32, 101, 108, 115, 101, 32, 114, 101, 112, 101, 97, 116, 32, 99, 97, 108, 108, 32, 116, 120, 110, 32, 99, 111, 109, 109, 105, 116, 32, 114, 101, 112, 108, 97, 121, 32, 97, 115, 115, 101, 114, 116, 32, 101, 120, 105, 115, 116, 115, 32, 115, 105, 122, 101, 32, 114, 101, 97, 100, 32, 110, 111, 116, 32, 97, 110, 100, 32, 111, 114, 32, 116, 114, 117, 101, 32, 102, 97, 108, 115, 101, 32])), (.t 13)]⟩, ⟨some 15, none, .pick (.t 10) (.t 14) (.c (.bool false))⟩, ⟨some 2, none, .tk (.t 15)⟩])
    (.ret))) }

-- flotsam/tree.Parts
def c_tree_Parts : AFunc :=
  { np := 1, res := [.t 2, .t 3], body := (
    .seq (.reg [⟨some 2, none, .tk (.c (.int .i64 0))⟩, ⟨some 3, none, .tk (.c (.bool false))⟩])
    (.seq (.block 0 (.seq (.reg [⟨some 5, none, .mv (.t 0)⟩, ⟨some 6, none, .ic .lss (.t 5) (.c (.int .i64 1))⟩, ⟨some 7, none, .mv (.t 6)⟩, ⟨some 8, (some (7, false)), .mv (.t 0)⟩, ⟨some 9, (some (7, false)), .ic .gtr (.t 8) (.c (.int .i64 14))⟩, ⟨some 10, none, .pick (.t 7) (.c (.bool true)) (.t 9)⟩, ⟨some 4, none, .tk (.t 10)⟩])
        (.cond (.t 4)
          (.seq (.reg [⟨some 2, none, .tk (.c (.int .i64 0))⟩, ⟨some 3, none, .tk (.c (.bool false))⟩])
            (.ret))
          (.seq (.reg [⟨some 12, none, .mv (.t 0)⟩, ⟨some 13, none, .ic .leq (.t 12) (.c (.int .i64 4))⟩, ⟨some 11, none, .tk (.t 13)⟩])
            (.cond (.t 11)
              (.seq (.reg [⟨some 2, none, .tk (.c (.int .i64 0))⟩, ⟨some 3, none, .tk (.c (.bool true))⟩])
                (.ret))
              (.seq (.reg [⟨some 15, none, .mv (.t 0)⟩, ⟨some 16, none, .ic .leq (.t 15) (.c (.int .i64 8))⟩, ⟨some 14, none, .tk (.t 16)⟩])
                (.cond (.t 14)
                  (.seq (.reg [⟨some 2, none, .tk (.c (.int .i64 1))⟩, ⟨some 3, none, .tk (.c (.bool true))⟩])
                    (.ret))
                  (.skip))))))))
    (.seq (.reg [⟨some 2, none, .tk (.c (.int .i64 2))⟩, ⟨some 3, none, .tk (.c (.bool true))⟩])
    (.ret)))) }

-- slices.ContainsFunc[[]flotsam/api.Expr,flotsam/api.Expr]
def c_slices_ContainsFunc_api_Expr_api_Expr : AFunc :=
  { np := 2, res := [.t 4], body := (
    .seq (.reg [⟨some 4, none, .tk (.c (.bool false))⟩])
    (.seq (.reg [⟨some 5, none, .mv (.t 0)⟩, ⟨some 6, none, .mv (.t 1)⟩, ⟨some 7, none, .call n_slices_IndexFunc_api_Expr_api_Expr [(.t 5), (.t 6)]⟩, ⟨some 8, none, .ic .geq (.t 7) (.c (.int .i64 0))⟩, ⟨some 4, none, .tk (.t 8)⟩])
    (.ret))) }

-- flotsam/tree.expr$1
def c_tree_expr_1 : AFunc :=
  { np := 2, res := [.t 3], body := (
    .seq (.reg [⟨some 2, none, .box (.t 0)⟩, ⟨some 3, none, .tk (.c (.bool false))⟩])
    (.seq (.reg [⟨some 4, none, .ld (some 4) (.t 2)⟩, ⟨some 5, none, .ld none (.t 1)⟩, ⟨some 6, none, .ia .sub .i64 (.t 5) (.c (.int .i64 1))⟩, ⟨some 7, none, .callc n_tree_expr [(.t 4), (.t 6)]⟩, ⟨some 8, none, .notb (.t 7)⟩, ⟨some 3, none, .tk (.t 8)⟩])
    (.ret))) }

-- slices.ContainsFunc[[]flotsam/api.Stmt,flotsam/api.Stmt]
def c_slices_ContainsFunc_api_Stmt_api_Stmt_x : AFunc :=
  { np := 2, res := [.t 4], body := (
    .seq (.reg [⟨some 4, none, .tk (.c (.bool false))⟩])
    (.seq (.reg [⟨some 5, none, .mv (.t 0)⟩, ⟨some 6, none, .mv (.t 1)⟩, ⟨some 7, none, .call n_slices_IndexFunc_api_Stmt_api_Stmt_x [(.t 5), (.t 6)]⟩, ⟨some 8, none, .ic .geq (.t 7) (.c (.int .i64 0))⟩, ⟨some 4, none, .tk (.t 8)⟩])
    (.ret))) }

-- flotsam/tree.block$1
def c_tree_block_1 : AFunc :=
  { np := 2, res := [.t 3], body := (
    .seq (.reg [⟨some 2, none, .box (.t 0)⟩, ⟨some 3, none, .tk (.c (.bool false))⟩])
    (.seq (.reg [⟨some 4, none, .ld (some 7) (.t 2)⟩, ⟨some 5, none, .ld none (.t 1)⟩, ⟨some 6, none, .callc n_tree_stmt [(.t 4), (.t 5)]⟩, ⟨some 7, none, .notb (.t 6)⟩, ⟨some 3, none, .tk (.t 7)⟩])
    (.ret))) }

-- flotsam/tree.stmt
def c_tree_stmt : AFunc :=
  { np := 2, res := [.t 4], body := (
    .seq (.reg [⟨some 2, none, .box (.t 0)⟩, ⟨some 4, none, .tk (.c (.bool false))⟩])
    (.seq (.seq (.reg [⟨some 6, none, .mv (.t 1)⟩, ⟨some 7, none, .ic .gtr (.t 6) (.c (.int .i64 8))⟩, ⟨some 8, none, .mv (.t 7)⟩, ⟨some 9, (some (8, false)), .ld (some 7) (.t 2)⟩, ⟨some 10, (some (8, false)), .callc n_tree_shape [(.t 9)]⟩, ⟨some 11, (some (8, false)), .notb (.t 10)⟩, ⟨some 12, none, .pick (.t 8) (.c (.bool true)) (.t 11)⟩])
      (.cond (.t 12)
        (.seq (.reg [⟨some 4, none, .tk (.c (.bool false))⟩])
          (.ret))
        (.skip)))
    (.seq (.seq (.reg [⟨some 13, none, .fa 0 (.t 2)⟩, ⟨some 14, none, .ld none (.t 13)⟩, ⟨some 15, none, .ic .eql (.t 14) (.c (.int .i64 16))⟩])
      (.cond (.t 15)
        (.seq (.reg [⟨some 5, none, .tk (.c (.fn (.func n_tree_stmt_1) [] []))⟩])
          (.seq (.reg [⟨some 16, none, .fa 4 (.t 2)⟩, ⟨some 17, none, .ld none (.t 16)⟩, ⟨some 18, none, .len false (.t 17)⟩, ⟨some 19, none, .ic .gtr (.t 18) (.c (.int .i64 8))⟩, ⟨some 20, none, .mv (.t 19)⟩, ⟨some 21, (some (20, false)), .fa 4 (.t 2)⟩, ⟨some 22, (some (20, false)), .ld none (.t 21)⟩, ⟨some 23, (some (20, false)), .mv (.t 5)⟩, ⟨some 24, (some (20, false)), .call n_slices_ContainsFunc_api_Stmt_api_Stmt_x [(.t 22), (.t 23)]⟩, ⟨some 25, none, .pick (.t 20) (.c (.bool true)) (.t 24)⟩])
          (.cond (.t 25)
            (.seq (.reg [⟨some 4, none, .tk (.c (.bool false))⟩])
              (.ret))
            (.skip))))
        (.skip)))
    (.seq (.reg [⟨some 26, none, .fa 4 (.t 2)⟩, ⟨some 27, none, .ld none (.t 26)⟩, ⟨some 28, none, .mv (.t 1)⟩, ⟨some 29, none, .ia .add .i64 (.t 28) (.c (.int .i64 1))⟩, ⟨some 30, none, .callc n_tree_block [(.t 27), (.t 29)]⟩, ⟨some 31, none, .mv (.t 30)⟩, ⟨some 32, (some (31, true)), .fa 5 (.t 2)⟩, ⟨some 33, (some (31, true)), .ld none (.t 32)⟩, ⟨some 34, (some (31, true)), .mv (.t 1)⟩, ⟨some 35, (some (31, true)), .ia .add .i64 (.t 34) (.c (.int .i64 1))⟩, ⟨some 36, (some (31, true)), .callc n_tree_block [(.t 33), (.t 35)]⟩, ⟨some 37, none, .pick (.t 31) (.t 36) (.c (.bool false))⟩, ⟨some 4, none, .tk (.t 37)⟩])
    (.ret))))) }

-- slices.IndexFunc[[]flotsam/api.Proc,flotsam/api.Proc]
def b_slices_IndexFunc_api_Proc_api_Proc_0 : AC :=
  .seq (.reg [⟨some 9, none, .ic .lss (.t 8) (.t 7)⟩])
  (.seq (.cond (.t 9)
      (.skip)
      (.exit 0))
  (.seq (.block 1 (.seq (.reg [⟨some 10, none, .mv (.t 8)⟩, ⟨some 5, none, .tk (.t 10)⟩])
      (.seq (.reg [⟨some 11, none, .mv (.t 1)⟩, ⟨some 12, none, .mv (.t 0)⟩, ⟨some 13, none, .mv (.t 5)⟩, ⟨some 14, none, .ixa 2 none (.t 12) (.t 13)⟩, ⟨some 15, none, .ld (some 2) (.t 14)⟩, ⟨some 16, none, .callv (.t 11) [(.t 15)]⟩])
      (.cond (.t 16)
        (.seq (.reg [⟨some 17, none, .mv (.t 5)⟩, ⟨some 4, none, .tk (.t 17)⟩])
          (.ret))
        (.skip)))))
  (.reg [⟨some 18, none, .ia .add .i64 (.t 8) (.c (.int .i64 1))⟩, ⟨some 8, none, .mv (.t 18)⟩])))

def l_slices_IndexFunc_api_Proc_api_Proc_0 : AC :=
  .loop [0, 1, 7, 8] b_slices_IndexFunc_api_Proc_api_Proc_0

def r_slices_IndexFunc_api_Proc_api_Proc_0 : AC :=
  .seq (.reg [⟨some 4, none, .tk (.c (.int .i64 (-1)))⟩])
  (.ret)

def c_slices_IndexFunc_api_Proc_api_Proc : AFunc :=
  { np := 2, res := [.t 4], body := (
    .seq (.reg [⟨some 4, none, .tk (.c (.int .i64 0))⟩])
    (.seq (.seq (.reg [⟨some 6, none, .mv (.t 0)⟩, ⟨some 7, none, .len false (.t 6)⟩, ⟨some 8, none, .mv (.c (.int .i64 0))⟩])
      (.block 0 (l_slices_IndexFunc_api_Proc_api_Proc_0))) r_slices_IndexFunc_api_Proc_api_Proc_0)) }

-- slices.IndexFunc[[]flotsam/api.Oracle,flotsam/api.Oracle]
def b_slices_IndexFunc_api_Oracle_api_Oracle_0 : AC :=
  .seq (.reg [⟨some 9, none, .ic .lss (.t 8) (.t 7)⟩])
  (.seq (.cond (.t 9)
      (.skip)
      (.exit 0))
  (.seq (.block 1 (.seq (.reg [⟨some 10, none, .mv (.t 8)⟩, ⟨some 5, none, .tk (.t 10)⟩])
      (.seq (.reg [⟨some 11, none, .mv (.t 1)⟩, ⟨some 12, none, .mv (.t 0)⟩, ⟨some 13, none, .mv (.t 5)⟩, ⟨some 14, none, .ixa 5 none (.t 12) (.t 13)⟩, ⟨some 15, none, .ld (some 5) (.t 14)⟩, ⟨some 16, none, .callv (.t 11) [(.t 15)]⟩])
      (.cond (.t 16)
        (.seq (.reg [⟨some 17, none, .mv (.t 5)⟩, ⟨some 4, none, .tk (.t 17)⟩])
          (.ret))
        (.skip)))))
  (.reg [⟨some 18, none, .ia .add .i64 (.t 8) (.c (.int .i64 1))⟩, ⟨some 8, none, .mv (.t 18)⟩])))

def l_slices_IndexFunc_api_Oracle_api_Oracle_0 : AC :=
  .loop [0, 1, 7, 8] b_slices_IndexFunc_api_Oracle_api_Oracle_0

def r_slices_IndexFunc_api_Oracle_api_Oracle_0 : AC :=
  .seq (.reg [⟨some 4, none, .tk (.c (.int .i64 (-1)))⟩])
  (.ret)

def c_slices_IndexFunc_api_Oracle_api_Oracle : AFunc :=
  { np := 2, res := [.t 4], body := (
    .seq (.reg [⟨some 4, none, .tk (.c (.int .i64 0))⟩])
    (.seq (.seq (.reg [⟨some 6, none, .mv (.t 0)⟩, ⟨some 7, none, .len false (.t 6)⟩, ⟨some 8, none, .mv (.c (.int .i64 0))⟩])
      (.block 0 (l_slices_IndexFunc_api_Oracle_api_Oracle_0))) r_slices_IndexFunc_api_Oracle_api_Oracle_0)) }

-- slices.IndexFunc[[][]flotsam/api.Stmt,[]flotsam/api.Stmt]
def b_slices_IndexFunc_api_Stmt_api_Stmt_0 : AC :=
  .seq (.reg [⟨some 9, none, .ic .lss (.t 8) (.t 7)⟩])
  (.seq (.cond (.t 9)
      (.skip)
      (.exit 0))
  (.seq (.block 1 (.seq (.reg [⟨some 10, none, .mv (.t 8)⟩, ⟨some 5, none, .tk (.t 10)⟩])
      (.seq (.reg [⟨some 11, none, .mv (.t 1)⟩, ⟨some 12, none, .mv (.t 0)⟩, ⟨some 13, none, .mv (.t 5)⟩, ⟨some 14, none, .ixa 1 none (.t 12) (.t 13)⟩, ⟨some 15, none, .ld none (.t 14)⟩, ⟨some 16, none, .callv (.t 11) [(.t 15)]⟩])
      (.cond (.t 16)
        (.seq (.reg [⟨some 17, none, .mv (.t 5)⟩, ⟨some 4, none, .tk (.t 17)⟩])
          (.ret))
        (.skip)))))
  (.reg [⟨some 18, none, .ia .add .i64 (.t 8) (.c (.int .i64 1))⟩, ⟨some 8, none, .mv (.t 18)⟩])))

def l_slices_IndexFunc_api_Stmt_api_Stmt_0 : AC :=
  .loop [0, 1, 7, 8] b_slices_IndexFunc_api_Stmt_api_Stmt_0

def r_slices_IndexFunc_api_Stmt_api_Stmt_0 : AC :=
  .seq (.reg [⟨some 4, none, .tk (.c (.int .i64 (-1)))⟩])
  (.ret)

def c_slices_IndexFunc_api_Stmt_api_Stmt : AFunc :=
  { np := 2, res := [.t 4], body := (
    .seq (.reg [⟨some 4, none, .tk (.c (.int .i64 0))⟩])
    (.seq (.seq (.reg [⟨some 6, none, .mv (.t 0)⟩, ⟨some 7, none, .len false (.t 6)⟩, ⟨some 8, none, .mv (.c (.int .i64 0))⟩])
      (.block 0 (l_slices_IndexFunc_api_Stmt_api_Stmt_0))) r_slices_IndexFunc_api_Stmt_api_Stmt_0)) }

-- flotsam/tree.each[flotsam/api.Proc]
def b_tree_each_api_Proc_0 : AC :=
  .seq (.reg [⟨some 11, none, .ic .lss (.t 10) (.t 9)⟩])
  (.seq (.cond (.t 11)
      (.skip)
      (.exit 0))
  (.seq (.block 1 (.seq (.reg [⟨some 12, none, .ixa 2 none (.t 8) (.t 10)⟩, ⟨some 13, none, .ld (some 2) (.t 12)⟩, ⟨some 7, none, .alloc [.str [], .own 7 []]⟩, ⟨none, none, .st 2 (.t 7) (.t 13)⟩])
      (.reg [⟨some 14, none, .tk (.t 5)⟩, ⟨some 15, none, .mv (.t 1)⟩, ⟨some 16, none, .ld (some 2) (.t 7)⟩, ⟨some 17, none, .callv (.t 15) [(.t 16)]⟩, ⟨some 18, none, .bsl 2 [.str [], .sl 7 []] 1 [(0, 2, (.t 17))] false⟩, ⟨some 19, none, .app 2 40 (.t 14) (.t 18) false⟩, ⟨some 5, none, .tk (.t 19)⟩])))
  (.reg [⟨some 20, none, .ia .add .i64 (.t 10) (.c (.int .i64 1))⟩, ⟨some 10, none, .mv (.t 20)⟩])))

def l_tree_each_api_Proc_0 : AC :=
  .loop [1, 5, 8, 9, 10] b_tree_each_api_Proc_0

def r_tree_each_api_Proc_0 : AC :=
  .seq (.reg [⟨some 21, none, .tk (.t 5)⟩, ⟨some 4, none, .tk (.t 21)⟩])
  (.ret)

def c_tree_each_api_Proc : AFunc :=
  { np := 2, res := [.t 4], body := (
    .seq (.reg [⟨some 4, none, .tk (.c (.own 2 []))⟩])
    (.seq (.reg [⟨some 5, none, .tk (.c (.own 2 []))⟩])
    (.seq (.seq (.reg [⟨some 8, none, .mv (.t 0)⟩, ⟨some 9, none, .len false (.t 8)⟩, ⟨some 10, none, .mv (.c (.int .i64 0))⟩])
      (.block 0 (l_tree_each_api_Proc_0))) r_tree_each_api_Proc_0))) }

-- flotsam/tree.Clone$1
def c_tree_Clone_1 : AFunc :=
  { np := 1, res := [.cell 2 (some 2)], body := (
    .seq (.reg [⟨some 1, none, .box (.t 0)⟩, ⟨some 2, none, .alloc [.str [], .own 7 []]⟩])
    (.seq (.drw [[], [], [], [], [], [], []] [⟨some 3, none, .fa 0 (.t 1)⟩, ⟨some 4, none, .ld none (.t 3)⟩, ⟨some 5, none, .fa 1 (.t 1)⟩, ⟨some 6, none, .ld none (.t 5)⟩, ⟨some 7, none, .callc n_tree_each_api_Stmt [(.t 6), (.c (.fn (.func n_tree_cloned) [] []))]⟩, ⟨some 8, none, .bld [.str [], .sl 7 []] [(0, 1, (.t 4)), (1, 1, (.t 7))]⟩, ⟨none, none, .st 2 (.t 2) (.t 8)⟩])
    (.ret))) }

-- flotsam/tree.each[flotsam/api.Stmt]
def b_tree_each_api_Stmt_0 : AC :=
  .seq (.reg [⟨some 11, none, .ic .lss (.t 10) (.t 9)⟩])
  (.seq (.cond (.t 11)
      (.skip)
      (.exit 0))
  (.seq (.block 1 (.seq (.reg [⟨some 12, none, .ixa 7 none (.t 8) (.t 10)⟩, ⟨some 13, none, .ld (some 7) (.t 12)⟩, ⟨some 7, none, .alloc [.int .i64 0, .str [], .int .i64 0, .own 4 [], .own 7 [], .own 7 [], .bool false]⟩, ⟨none, none, .st 7 (.t 7) (.t 13)⟩])
      (.reg [⟨some 14, none, .tk (.t 5)⟩, ⟨some 15, none, .mv (.t 1)⟩, ⟨some 16, none, .ld (some 7) (.t 7)⟩, ⟨some 17, none, .callv (.t 15) [(.t 16)]⟩, ⟨some 18, none, .bsl 7 [.int .i64 0, .str [], .int .i64 0, .sl 4 [], .sl 7 [], .sl 7 [], .bool false] 1 [(0, 7, (.t 17))] false⟩, ⟨some 19, none, .app 7 112 (.t 14) (.t 18) false⟩, ⟨some 5, none, .tk (.t 19)⟩])))
  (.reg [⟨some 20, none, .ia .add .i64 (.t 10) (.c (.int .i64 1))⟩, ⟨some 10, none, .mv (.t 20)⟩])))

def l_tree_each_api_Stmt_0 : AC :=
  .loop [1, 5, 8, 9, 10] b_tree_each_api_Stmt_0

def r_tree_each_api_Stmt_0 : AC :=
  .seq (.reg [⟨some 21, none, .tk (.t 5)⟩, ⟨some 4, none, .tk (.t 21)⟩])
  (.ret)

def c_tree_each_api_Stmt : AFunc :=
  { np := 2, res := [.t 4], body := (
    .seq (.reg [⟨some 4, none, .tk (.c (.own 7 []))⟩])
    (.seq (.reg [⟨some 5, none, .tk (.c (.own 7 []))⟩])
    (.seq (.seq (.reg [⟨some 8, none, .mv (.t 0)⟩, ⟨some 9, none, .len false (.t 8)⟩, ⟨some 10, none, .mv (.c (.int .i64 0))⟩])
      (.block 0 (l_tree_each_api_Stmt_0))) r_tree_each_api_Stmt_0))) }

-- flotsam/tree.each[flotsam/api.Oracle]
def b_tree_each_api_Oracle_0 : AC :=
  .seq (.reg [⟨some 11, none, .ic .lss (.t 10) (.t 9)⟩])
  (.seq (.cond (.t 11)
      (.skip)
      (.exit 0))
  (.seq (.block 1 (.seq (.reg [⟨some 12, none, .ixa 5 none (.t 8) (.t 10)⟩, ⟨some 13, none, .ld (some 5) (.t 12)⟩, ⟨some 7, none, .alloc [.str [], .int .i64 0, .int .i64 0, .str [], .own 4 []]⟩, ⟨none, none, .st 5 (.t 7) (.t 13)⟩])
      (.reg [⟨some 14, none, .tk (.t 5)⟩, ⟨some 15, none, .mv (.t 1)⟩, ⟨some 16, none, .ld (some 5) (.t 7)⟩, ⟨some 17, none, .callv (.t 15) [(.t 16)]⟩, ⟨some 18, none, .bsl 5 [.str [], .int .i64 0, .int .i64 0, .str [], .sl 4 []] 1 [(0, 5, (.t 17))] false⟩, ⟨some 19, none, .app 5 72 (.t 14) (.t 18) false⟩, ⟨some 5, none, .tk (.t 19)⟩])))
  (.reg [⟨some 20, none, .ia .add .i64 (.t 10) (.c (.int .i64 1))⟩, ⟨some 10, none, .mv (.t 20)⟩])))

def l_tree_each_api_Oracle_0 : AC :=
  .loop [1, 5, 8, 9, 10] b_tree_each_api_Oracle_0

def r_tree_each_api_Oracle_0 : AC :=
  .seq (.reg [⟨some 21, none, .tk (.t 5)⟩, ⟨some 4, none, .tk (.t 21)⟩])
  (.ret)

def c_tree_each_api_Oracle : AFunc :=
  { np := 2, res := [.t 4], body := (
    .seq (.reg [⟨some 4, none, .tk (.c (.own 5 []))⟩])
    (.seq (.reg [⟨some 5, none, .tk (.c (.own 5 []))⟩])
    (.seq (.seq (.reg [⟨some 8, none, .mv (.t 0)⟩, ⟨some 9, none, .len false (.t 8)⟩, ⟨some 10, none, .mv (.c (.int .i64 0))⟩])
      (.block 0 (l_tree_each_api_Oracle_0))) r_tree_each_api_Oracle_0))) }

-- flotsam/tree.Clone$2
def c_tree_Clone_2 : AFunc :=
  { np := 1, res := [.cell 2 (some 5)], body := (
    .seq (.reg [⟨some 1, none, .box (.t 0)⟩, ⟨some 2, none, .alloc [.str [], .int .i64 0, .int .i64 0, .str [], .own 4 []]⟩])
    (.seq (.drw [[], [], [], [], [], [], []] [⟨some 3, none, .fa 0 (.t 1)⟩, ⟨some 4, none, .ld none (.t 3)⟩, ⟨some 5, none, .fa 1 (.t 1)⟩, ⟨some 6, none, .ld (some 4) (.t 5)⟩, ⟨some 7, none, .callc n_tree_clonedExpr [(.t 6)]⟩, ⟨some 8, none, .bld [.str [], .int .i64 0, .int .i64 0, .str [], .sl 4 []] [(0, 1, (.t 4)), (1, 4, (.t 7))]⟩, ⟨none, none, .st 5 (.t 2) (.t 8)⟩])
    (.ret))) }

-- flotsam/tree.clonedExpr
def c_tree_clonedExpr : AFunc :=
  { np := 1, res := [.cell 2 (some 4)], body := (
    .seq (.reg [⟨some 1, none, .box (.t 0)⟩, ⟨some 2, none, .alloc [.int .i64 0, .int .i64 0, .str [], .own 4 []]⟩])
    (.seq (.reg [⟨some 3, none, .fa 3 (.t 1)⟩, ⟨some 4, none, .ld none (.t 3)⟩, ⟨some 5, none, .callc n_tree_each_api_Expr [(.t 4), (.c (.fn (.func n_tree_clonedExpr) [] []))]⟩, ⟨some 6, none, .fa 3 (.t 1)⟩, ⟨none, none, .st 1 (.t 6) (.t 5)⟩])
    (.seq (.reg [⟨some 7, none, .ld (some 4) (.t 1)⟩, ⟨none, none, .st 4 (.t 2) (.t 7)⟩])
    (.ret)))) }

-- flotsam/tree.walk$1
def a_tree_walk_1_0 : AC :=
  .reg [⟨some 7, none, .alloc [.int .i64 0, .str [], .int .i64 0, .own 4 [], .own 7 [], .own 7 [], .bool false]⟩, ⟨none, none, .st 7 (.t 7) (.t 30)⟩]

def y_tree_walk_1_0 : AC :=
  .block 5 (.seq (.reg [⟨some 31, none, .ld none (.t 2)⟩, ⟨some 32, none, .ld (some 7) (.t 7)⟩, ⟨some 33, none, .callv (.t 31) [(.t 32)]⟩, ⟨some 34, none, .notb (.t 33)⟩])
    (.cond (.t 34)
      (.ret)
      (.skip)))

def r_tree_walk_1_0 : AC :=
  .reg [⟨some 35, none, .ia .add .i64 (.t 24) (.c (.int .i64 1))⟩, ⟨some 24, none, .mv (.t 35)⟩]

def b_tree_walk_1_0 : AC :=
  .seq (.reg [⟨some 25, none, .ic .lss (.t 24) (.t 23)⟩])
  (.seq (.cond (.t 25)
      (.skip)
      (.exit 2))
  (.seq (.block 3 (.seq (.reg [⟨some 26, none, .ixa 1 none (.t 22) (.t 24)⟩, ⟨some 27, none, .ld none (.t 26)⟩, ⟨some 6, none, .tk (.t 27)⟩])
      (.seq (.reg [⟨some 28, none, .mv (.t 6)⟩, ⟨some 29, none, .call n_tree_walk [(.t 28)]⟩])
      (.block 4 (.rfn (.t 29) [2] q_tree_walk_1_0 [30] a_tree_walk_1_0 y_tree_walk_1_0))))) r_tree_walk_1_0))

def l_tree_walk_1_0 : AC :=
  .loop [2, 8, 9, 10, 22, 23, 24] b_tree_walk_1_0

def r_tree_walk_1_1 : AC :=
  .reg [⟨some 36, none, .ia .add .i64 (.t 10) (.c (.int .i64 1))⟩, ⟨some 10, none, .mv (.t 36)⟩]

def b_tree_walk_1_1 : AC :=
  .seq (.reg [⟨some 11, none, .ic .lss (.t 10) (.t 9)⟩])
  (.seq (.cond (.t 11)
      (.skip)
      (.exit 0))
  (.seq (.block 1 (.seq (.reg [⟨some 12, none, .ixa 7 none (.t 8) (.t 10)⟩, ⟨some 13, none, .ld (some 7) (.t 12)⟩, ⟨some 4, none, .alloc [.int .i64 0, .str [], .int .i64 0, .own 4 [], .own 7 [], .own 7 [], .bool false]⟩, ⟨none, none, .st 7 (.t 4) (.t 13)⟩])
      (.seq (.seq (.reg [⟨some 14, none, .ld none (.t 2)⟩, ⟨some 15, none, .ld (some 7) (.t 4)⟩, ⟨some 16, none, .callv (.t 14) [(.t 15)]⟩, ⟨some 17, none, .notb (.t 16)⟩])
        (.cond (.t 17)
          (.ret)
          (.skip)))
      (.seq (.reg [⟨some 18, none, .fa 4 (.t 4)⟩, ⟨some 19, none, .ld none (.t 18)⟩, ⟨some 20, none, .fa 5 (.t 4)⟩, ⟨some 21, none, .ld none (.t 20)⟩, ⟨some 22, none, .bsl 1 [.sl 7 []] 2 [(0, 1, (.t 19)), (1, 1, (.t 21))] false⟩, ⟨some 23, none, .len false (.t 22)⟩, ⟨some 24, none, .mv (.c (.int .i64 0))⟩])
      (.block 2 (l_tree_walk_1_0)))))) r_tree_walk_1_1))

def l_tree_walk_1_1 : AC :=
  .loop [2, 8, 9, 10] b_tree_walk_1_1

def c_tree_walk_1 : AFunc :=
  { np := 2, res := [], body := (
    .seq (.reg [⟨some 2, none, .box (.t 0)⟩])
    (.seq (.reg [⟨some 8, none, .ld none (.t 1)⟩, ⟨some 9, none, .len false (.t 8)⟩, ⟨some 10, none, .mv (.c (.int .i64 0))⟩])
    (.block 0 (l_tree_walk_1_1)))) }

-- flotsam/tree.each[flotsam/api.Expr]
def b_tree_each_api_Expr_0 : AC :=
  .seq (.reg [⟨some 11, none, .ic .lss (.t 10) (.t 9)⟩])
  (.seq (.cond (.t 11)
      (.skip)
      (.exit 0))
  (.seq (.block 1 (.seq (.reg [⟨some 12, none, .ixa 4 none (.t 8) (.t 10)⟩, ⟨some 13, none, .ld (some 4) (.t 12)⟩, ⟨some 7, none, .alloc [.int .i64 0, .int .i64 0, .str [], .own 4 []]⟩, ⟨none, none, .st 4 (.t 7) (.t 13)⟩])
      (.reg [⟨some 14, none, .tk (.t 5)⟩, ⟨some 15, none, .mv (.t 1)⟩, ⟨some 16, none, .ld (some 4) (.t 7)⟩, ⟨some 17, none, .callv (.t 15) [(.t 16)]⟩, ⟨some 18, none, .bsl 4 [.int .i64 0, .int .i64 0, .str [], .sl 4 []] 1 [(0, 4, (.t 17))] false⟩, ⟨some 19, none, .app 4 56 (.t 14) (.t 18) false⟩, ⟨some 5, none, .tk (.t 19)⟩])))
  (.reg [⟨some 20, none, .ia .add .i64 (.t 10) (.c (.int .i64 1))⟩, ⟨some 10, none, .mv (.t 20)⟩])))

def l_tree_each_api_Expr_0 : AC :=
  .loop [1, 5, 8, 9, 10] b_tree_each_api_Expr_0

def r_tree_each_api_Expr_0 : AC :=
  .seq (.reg [⟨some 21, none, .tk (.t 5)⟩, ⟨some 4, none, .tk (.t 21)⟩])
  (.ret)

def c_tree_each_api_Expr : AFunc :=
  { np := 2, res := [.t 4], body := (
    .seq (.reg [⟨some 4, none, .tk (.c (.own 4 []))⟩])
    (.seq (.reg [⟨some 5, none, .tk (.c (.own 4 []))⟩])
    (.seq (.seq (.reg [⟨some 8, none, .mv (.t 0)⟩, ⟨some 9, none, .len false (.t 8)⟩, ⟨some 10, none, .mv (.c (.int .i64 0))⟩])
      (.block 0 (l_tree_each_api_Expr_0))) r_tree_each_api_Expr_0))) }

-- flotsam/lex.digit
def c_lex_digit : AFunc :=
  { np := 1, res := [.t 2], body := (
    .seq (.reg [⟨some 2, none, .tk (.c (.bool false))⟩])
    (.seq (.reg [⟨some 3, none, .mv (.t 0)⟩, ⟨some 4, none, .ic .geq (.t 3) (.c (.int .i32 48))⟩, ⟨some 5, none, .mv (.t 4)⟩, ⟨some 6, (some (5, true)), .mv (.t 0)⟩, ⟨some 7, (some (5, true)), .ic .leq (.t 6) (.c (.int .i32 57))⟩, ⟨some 8, none, .pick (.t 5) (.t 7) (.c (.bool false))⟩, ⟨some 2, none, .tk (.t 8)⟩])
    (.ret))) }

-- slices.IndexFunc[[]flotsam/api.Expr,flotsam/api.Expr]
def b_slices_IndexFunc_api_Expr_api_Expr_0 : AC :=
  .seq (.reg [⟨some 9, none, .ic .lss (.t 8) (.t 7)⟩])
  (.seq (.cond (.t 9)
      (.skip)
      (.exit 0))
  (.seq (.block 1 (.seq (.reg [⟨some 10, none, .mv (.t 8)⟩, ⟨some 5, none, .tk (.t 10)⟩])
      (.seq (.reg [⟨some 11, none, .mv (.t 1)⟩, ⟨some 12, none, .mv (.t 0)⟩, ⟨some 13, none, .mv (.t 5)⟩, ⟨some 14, none, .ixa 4 none (.t 12) (.t 13)⟩, ⟨some 15, none, .ld (some 4) (.t 14)⟩, ⟨some 16, none, .callv (.t 11) [(.t 15)]⟩])
      (.cond (.t 16)
        (.seq (.reg [⟨some 17, none, .mv (.t 5)⟩, ⟨some 4, none, .tk (.t 17)⟩])
          (.ret))
        (.skip)))))
  (.reg [⟨some 18, none, .ia .add .i64 (.t 8) (.c (.int .i64 1))⟩, ⟨some 8, none, .mv (.t 18)⟩])))

def l_slices_IndexFunc_api_Expr_api_Expr_0 : AC :=
  .loop [0, 1, 7, 8] b_slices_IndexFunc_api_Expr_api_Expr_0

def r_slices_IndexFunc_api_Expr_api_Expr_0 : AC :=
  .seq (.reg [⟨some 4, none, .tk (.c (.int .i64 (-1)))⟩])
  (.ret)

def c_slices_IndexFunc_api_Expr_api_Expr : AFunc :=
  { np := 2, res := [.t 4], body := (
    .seq (.reg [⟨some 4, none, .tk (.c (.int .i64 0))⟩])
    (.seq (.seq (.reg [⟨some 6, none, .mv (.t 0)⟩, ⟨some 7, none, .len false (.t 6)⟩, ⟨some 8, none, .mv (.c (.int .i64 0))⟩])
      (.block 0 (l_slices_IndexFunc_api_Expr_api_Expr_0))) r_slices_IndexFunc_api_Expr_api_Expr_0)) }

-- slices.IndexFunc[[]flotsam/api.Stmt,flotsam/api.Stmt]
def b_slices_IndexFunc_api_Stmt_api_Stmt_x_0 : AC :=
  .seq (.reg [⟨some 9, none, .ic .lss (.t 8) (.t 7)⟩])
  (.seq (.cond (.t 9)
      (.skip)
      (.exit 0))
  (.seq (.block 1 (.seq (.reg [⟨some 10, none, .mv (.t 8)⟩, ⟨some 5, none, .tk (.t 10)⟩])
      (.seq (.reg [⟨some 11, none, .mv (.t 1)⟩, ⟨some 12, none, .mv (.t 0)⟩, ⟨some 13, none, .mv (.t 5)⟩, ⟨some 14, none, .ixa 7 none (.t 12) (.t 13)⟩, ⟨some 15, none, .ld (some 7) (.t 14)⟩, ⟨some 16, none, .callv (.t 11) [(.t 15)]⟩])
      (.cond (.t 16)
        (.seq (.reg [⟨some 17, none, .mv (.t 5)⟩, ⟨some 4, none, .tk (.t 17)⟩])
          (.ret))
        (.skip)))))
  (.reg [⟨some 18, none, .ia .add .i64 (.t 8) (.c (.int .i64 1))⟩, ⟨some 8, none, .mv (.t 18)⟩])))

def l_slices_IndexFunc_api_Stmt_api_Stmt_x_0 : AC :=
  .loop [0, 1, 7, 8] b_slices_IndexFunc_api_Stmt_api_Stmt_x_0

def r_slices_IndexFunc_api_Stmt_api_Stmt_x_0 : AC :=
  .seq (.reg [⟨some 4, none, .tk (.c (.int .i64 (-1)))⟩])
  (.ret)

def c_slices_IndexFunc_api_Stmt_api_Stmt_x : AFunc :=
  { np := 2, res := [.t 4], body := (
    .seq (.reg [⟨some 4, none, .tk (.c (.int .i64 0))⟩])
    (.seq (.seq (.reg [⟨some 6, none, .mv (.t 0)⟩, ⟨some 7, none, .len false (.t 6)⟩, ⟨some 8, none, .mv (.c (.int .i64 0))⟩])
      (.block 0 (l_slices_IndexFunc_api_Stmt_api_Stmt_x_0))) r_slices_IndexFunc_api_Stmt_api_Stmt_x_0)) }

-- flotsam/tree.shape
def c_tree_shape : AFunc :=
  { np := 1, res := [.t 2], body := (
    .seq (.reg [⟨some 1, none, .box (.t 0)⟩, ⟨some 2, none, .tk (.c (.bool false))⟩])
    (.seq (.reg [⟨some 9, none, .fa 0 (.t 1)⟩, ⟨some 10, none, .ld none (.t 9)⟩, ⟨some 11, none, .callc n_tree_Exprs [(.t 10)]⟩, ⟨some 8, none, .mv (.t 11)⟩, ⟨some 12, none, .ext (.t 8) 0⟩, ⟨some 13, none, .ext (.t 8) 1⟩, ⟨some 3, none, .tk (.t 12)⟩, ⟨some 4, none, .tk (.t 13)⟩])
    (.seq (.reg [⟨some 15, none, .fa 0 (.t 1)⟩, ⟨some 16, none, .ld none (.t 15)⟩, ⟨some 17, none, .callc n_tree_blocks [(.t 16)]⟩, ⟨some 14, none, .mv (.t 17)⟩, ⟨some 18, none, .ext (.t 14) 0⟩, ⟨some 19, none, .ext (.t 14) 1⟩, ⟨some 5, none, .tk (.t 18)⟩, ⟨some 6, none, .tk (.t 19)⟩])
    (.seq (.reg [⟨some 20, none, .fa 0 (.t 1)⟩, ⟨some 21, none, .ld none (.t 20)⟩, ⟨some 22, none, .ic .eql (.t 21) (.c (.int .i64 12))⟩, ⟨some 23, none, .mv (.t 22)⟩, ⟨some 24, (some (23, false)), .fa 0 (.t 1)⟩, ⟨some 25, (some (23, false)), .ld none (.t 24)⟩, ⟨some 26, (some (23, false)), .ic .eql (.t 25) (.c (.int .i64 15))⟩, ⟨some 27, none, .pick (.t 23) (.c (.bool true)) (.t 26)⟩, ⟨some 7, none, .tk (.t 27)⟩])
    (.seq (.block 0 (.seq (.reg [⟨some 29, none, .mv (.t 4)⟩, ⟨some 30, none, .notb (.t 29)⟩, ⟨some 31, none, .mv (.t 30)⟩, ⟨some 32, (some (31, false)), .fa 3 (.t 1)⟩, ⟨some 33, (some (31, false)), .ld none (.t 32)⟩, ⟨some 34, (some (31, false)), .len false (.t 33)⟩, ⟨some 35, (some (31, false)), .mv (.t 3)⟩, ⟨some 36, (some (31, false)), .ic .neq (.t 34) (.t 35)⟩, ⟨some 37, none, .pick (.t 31) (.c (.bool true)) (.t 36)⟩, ⟨some 38, none, .mv (.t 37)⟩, ⟨some 39, (some (38, false)), .mv (.t 7)⟩, ⟨some 40, (some (38, false)), .fa 1 (.t 1)⟩, ⟨some 41, (some (38, false)), .ld none (.t 40)⟩, ⟨some 42, (some (38, false)), .sop .neq (.t 41) (.c (.str []))⟩, ⟨some 43, (some (38, false)), .eqb true (.t 39) (.t 42)⟩, ⟨some 44, none, .pick (.t 38) (.c (.bool true)) (.t 43)⟩, ⟨some 45, none, .mv (.t 44)⟩, ⟨some 46, (some (45, false)), .mv (.t 7)⟩, ⟨some 47, (some (45, false)), .mv (.t 46)⟩, ⟨some 48, (some (47, true)), .fa 1 (.t 1)⟩, ⟨some 49, (some (47, true)), .ld none (.t 48)⟩, ⟨some 50, (some (47, true)), .callc n_lex_Name [(.t 49)]⟩, ⟨some 51, (some (47, true)), .notb (.t 50)⟩, ⟨some 52, (some (45, false)), .pick (.t 47) (.t 51) (.c (.bool false))⟩, ⟨some 53, none, .pick (.t 45) (.c (.bool true)) (.t 52)⟩, ⟨some 28, none, .tk (.t 53)⟩])
        (.cond (.t 28)
          (.seq (.reg [⟨some 2, none, .tk (.c (.bool false))⟩])
            (.ret))
          (.seq (.reg [⟨some 55, none, .fa 2 (.t 1)⟩, ⟨some 56, none, .ld none (.t 55)⟩, ⟨some 57, none, .ic .neq (.t 56) (.c (.int .i64 0))⟩, ⟨some 58, none, .mv (.t 57)⟩, ⟨some 59, (some (58, true)), .fa 0 (.t 1)⟩, ⟨some 60, (some (58, true)), .ld none (.t 59)⟩, ⟨some 61, (some (58, true)), .ic .neq (.t 60) (.c (.int .i64 14))⟩, ⟨some 62, none, .pick (.t 58) (.t 61) (.c (.bool false))⟩, ⟨some 63, none, .mv (.t 62)⟩, ⟨some 64, (some (63, false)), .fa 2 (.t 1)⟩, ⟨some 65, (some (63, false)), .ld none (.t 64)⟩, ⟨some 66, (some (63, false)), .ic .lss (.t 65) (.c (.int .i64 0))⟩, ⟨some 67, none, .pick (.t 63) (.c (.bool true)) (.t 66)⟩, ⟨some 68, none, .mv (.t 67)⟩, ⟨some 69, (some (68, false)), .fa 2 (.t 1)⟩, ⟨some 70, (some (68, false)), .ld none (.t 69)⟩, ⟨some 71, (some (68, false)), .ic .gtr (.t 70) (.c (.int .i64 16))⟩, ⟨some 72, none, .pick (.t 68) (.c (.bool true)) (.t 71)⟩, ⟨some 54, none, .tk (.t 72)⟩])
            (.cond (.t 54)
              (.seq (.reg [⟨some 2, none, .tk (.c (.bool false))⟩])
                (.ret))
              (.seq (.reg [⟨some 74, none, .fa 6 (.t 1)⟩, ⟨some 75, none, .ld none (.t 74)⟩, ⟨some 76, none, .mv (.t 75)⟩, ⟨some 77, (some (76, true)), .fa 0 (.t 1)⟩, ⟨some 78, (some (76, true)), .ld none (.t 77)⟩, ⟨some 79, (some (76, true)), .ic .neq (.t 78) (.c (.int .i64 16))⟩, ⟨some 80, none, .pick (.t 76) (.t 79) (.c (.bool false))⟩, ⟨some 81, none, .mv (.t 80)⟩, ⟨some 82, (some (81, false)), .mv (.t 5)⟩, ⟨some 83, (some (81, false)), .notb (.t 82)⟩, ⟨some 84, (some (81, false)), .mv (.t 83)⟩, ⟨some 85, (some (84, true)), .fa 4 (.t 1)⟩, ⟨some 86, (some (84, true)), .ld none (.t 85)⟩, ⟨some 87, (some (84, true)), .len false (.t 86)⟩, ⟨some 88, (some (84, true)), .ic .gtr (.t 87) (.c (.int .i64 0))⟩, ⟨some 89, (some (81, false)), .pick (.t 84) (.t 88) (.c (.bool false))⟩, ⟨some 90, none, .pick (.t 81) (.c (.bool true)) (.t 89)⟩, ⟨some 91, none, .mv (.t 90)⟩, ⟨some 92, (some (91, false)), .mv (.t 6)⟩, ⟨some 93, (some (91, false)), .notb (.t 92)⟩, ⟨some 94, (some (91, false)), .mv (.t 93)⟩, ⟨some 95, (some (94, true)), .fa 5 (.t 1)⟩, ⟨some 96, (some (94, true)), .ld none (.t 95)⟩, ⟨some 97, (some (94, true)), .len false (.t 96)⟩, ⟨some 98, (some (94, true)), .ic .gtr (.t 97) (.c (.int .i64 0))⟩, ⟨some 99, (some (91, false)), .pick (.t 94) (.t 98) (.c (.bool false))⟩, ⟨some 100, none, .pick (.t 91) (.c (.bool true)) (.t 99)⟩, ⟨some 73, none, .tk (.t 100)⟩])
                (.cond (.t 73)
                  (.seq (.reg [⟨some 2, none, .tk (.c (.bool false))⟩])
                    (.ret))
                  (.skip))))))))
    (.seq (.reg [⟨some 101, none, .fa 3 (.t 1)⟩, ⟨some 102, none, .ld none (.t 101)⟩, ⟨some 103, none, .callc n_slices_ContainsFunc_api_Expr_api_Expr [(.t 102), (.c (.fn (.func n_tree_shape_1) [] []))]⟩, ⟨some 104, none, .notb (.t 103)⟩, ⟨some 2, none, .tk (.t 104)⟩])
    (.ret))))))) }

-- flotsam/tree.stmt$1
def c_tree_stmt_1 : AFunc :=
  { np := 1, res := [.t 2], body := (
    .seq (.reg [⟨some 1, none, .box (.t 0)⟩, ⟨some 2, none, .tk (.c (.bool false))⟩])
    (.seq (.reg [⟨some 3, none, .fa 0 (.t 1)⟩, ⟨some 4, none, .ld none (.t 3)⟩, ⟨some 5, none, .ic .neq (.t 4) (.c (.int .i64 3))⟩, ⟨some 2, none, .tk (.t 5)⟩])
    (.ret))) }

-- flotsam/tree.Exprs
def c_tree_Exprs : AFunc :=
  { np := 1, res := [.t 2, .t 3], body := (
    .seq (.reg [⟨some 2, none, .tk (.c (.int .i64 0))⟩, ⟨some 3, none, .tk (.c (.bool false))⟩])
    (.seq (.seq (.reg [⟨some 4, none, .mv (.t 0)⟩])
      (.block 0 (.seq (.seq (.reg [⟨some 6, none, .ic .eql (.t 4) (.c (.int .i64 11))⟩, ⟨some 5, none, .tk (.t 6)⟩])
          (.cond (.t 5)
            (.skip)
            (.seq (.reg [⟨some 7, none, .ic .eql (.t 4) (.c (.int .i64 14))⟩, ⟨some 5, none, .tk (.t 7)⟩])
              (.cond (.t 5)
                (.skip)
                (.reg [⟨some 8, none, .ic .eql (.t 4) (.c (.int .i64 15))⟩, ⟨some 5, none, .tk (.t 8)⟩])))))
        (.cond (.t 5)
          (.seq (.reg [⟨some 2, none, .tk (.c (.int .i64 0))⟩, ⟨some 3, none, .tk (.c (.bool true))⟩])
            (.ret))
          (.seq (.seq (.reg [⟨some 10, none, .ic .eql (.t 4) (.c (.int .i64 4))⟩, ⟨some 9, none, .tk (.t 10)⟩])
              (.cond (.t 9)
                (.skip)
                (.seq (.reg [⟨some 11, none, .ic .eql (.t 4) (.c (.int .i64 5))⟩, ⟨some 9, none, .tk (.t 11)⟩])
                  (.cond (.t 9)
                    (.skip)
                    (.reg [⟨some 12, none, .ic .eql (.t 4) (.c (.int .i64 6))⟩, ⟨some 9, none, .tk (.t 12)⟩])))))
            (.cond (.t 9)
              (.seq (.reg [⟨some 2, none, .tk (.c (.int .i64 2))⟩, ⟨some 3, none, .tk (.c (.bool true))⟩])
                (.ret))
              (.seq (.reg [⟨some 14, none, .ic .eql (.t 4) (.c (.int .i64 3))⟩, ⟨some 13, none, .tk (.t 14)⟩])
                (.cond (.t 13)
                  (.seq (.reg [⟨some 2, none, .tk (.c (.int .i64 3))⟩, ⟨some 3, none, .tk (.c (.bool true))⟩])
                    (.ret))
                  (.skip)))))))))
    (.seq (.seq (.reg [⟨some 15, none, .mv (.t 0)⟩, ⟨some 16, none, .ic .lss (.t 15) (.c (.int .i64 1))⟩, ⟨some 17, none, .mv (.t 16)⟩, ⟨some 18, (some (17, false)), .mv (.t 0)⟩, ⟨some 19, (some (17, false)), .ic .gtr (.t 18) (.c (.int .i64 18))⟩, ⟨some 20, none, .pick (.t 17) (.c (.bool true)) (.t 19)⟩])
      (.cond (.t 20)
        (.seq (.reg [⟨some 2, none, .tk (.c (.int .i64 0))⟩, ⟨some 3, none, .tk (.c (.bool false))⟩])
          (.ret))
        (.skip)))
    (.seq (.reg [⟨some 2, none, .tk (.c (.int .i64 1))⟩, ⟨some 3, none, .tk (.c (.bool true))⟩])
    (.ret))))) }

-- flotsam/tree.blocks
def c_tree_blocks : AFunc :=
  { np := 1, res := [.t 2, .t 3], body := (
    .seq (.reg [⟨some 2, none, .tk (.c (.bool false))⟩, ⟨some 3, none, .tk (.c (.bool false))⟩])
    (.seq (.reg [⟨some 4, none, .mv (.t 0)⟩, ⟨some 5, none, .ic .eql (.t 4) (.c (.int .i64 13))⟩, ⟨some 6, none, .mv (.t 5)⟩, ⟨some 7, (some (6, false)), .mv (.t 0)⟩, ⟨some 8, (some (6, false)), .ic .eql (.t 7) (.c (.int .i64 14))⟩, ⟨some 9, none, .pick (.t 6) (.c (.bool true)) (.t 8)⟩, ⟨some 10, none, .mv (.t 9)⟩, ⟨some 11, (some (10, false)), .mv (.t 0)⟩, ⟨some 12, (some (10, false)), .ic .eql (.t 11) (.c (.int .i64 16))⟩, ⟨some 13, none, .pick (.t 10) (.c (.bool true)) (.t 12)⟩, ⟨some 14, none, .mv (.t 0)⟩, ⟨some 15, none, .ic .eql (.t 14) (.c (.int .i64 13))⟩, ⟨some 2, none, .tk (.t 13)⟩, ⟨some 3, none, .tk (.t 15)⟩])
    (.ret))) }

-- flotsam/tree.shape$1
def c_tree_shape_1 : AFunc :=
  { np := 1, res := [.t 2], body := (
    .seq (.reg [⟨some 1, none, .box (.t 0)⟩, ⟨some 2, none, .tk (.c (.bool false))⟩])
    (.seq (.reg [⟨some 3, none, .ld (some 4) (.t 1)⟩, ⟨some 4, none, .callc n_tree_expr [(.t 3), (.c (.int .i64 8))]⟩, ⟨some 5, none, .notb (.t 4)⟩, ⟨some 2, none, .tk (.t 5)⟩])
    (.ret))) }

def tbl : Tbl := Tab.get [(3, c_flotsamlaw25_SiteFits), (4, c_flotsamlaw16_Small), (5, c_flotsamlaw25_knows), (6, c_site_Sites), (7, c_site_Fits), (8, c_site_Name), (9, c_site_Read), (10, c_tree_Right), (11, c_flotsamref16_Size), (12, c_site_At), (13, c_site_parts), (14, c_site_each), (15, c_site_Sites_1), (16, c_site_Sites_2), (17, c_site_fits), (18, c_site_lead), (19, c_site_words), (20, c_site_may), (21, c_site_Word), (22, c_num_Digits), (25, c_num_Read), (26, c_tree_All), (27, c_tree_Right_1), (28, c_lex_Name), (29, c_tree_Right_2), (30, c_tree_expr), (31, c_tree_Right_3), (32, c_tree_block), (33, c_slices_ContainsFunc_api_Proc_api_Proc), (34, c_slices_ContainsFunc_api_Oracle_api_Oracle), (35, c_slices_ContainsFunc_api_Stmt_api_Stmt), (36, c_tree_parts), (37, c_flotsamref16_block), (38, c_flotsamref16_expr), (39, c_tree_Clone), (40, c_site_each_1), (41, c_site_each_2), (42, c_site_writes), (43, c_site_torn), (44, c_site_next), (50, c_tree_walk), (51, c_tree_cloned), (52, c_lex_begins), (53, c_lex_letter), (55, c_lex_inner), (56, c_lex_Key), (57, c_tree_Parts), (58, c_slices_ContainsFunc_api_Expr_api_Expr), (59, c_tree_expr_1), (60, c_slices_ContainsFunc_api_Stmt_api_Stmt_x), (61, c_tree_block_1), (62, c_tree_stmt), (63, c_slices_IndexFunc_api_Proc_api_Proc), (64, c_slices_IndexFunc_api_Oracle_api_Oracle), (65, c_slices_IndexFunc_api_Stmt_api_Stmt), (66, c_tree_each_api_Proc), (67, c_tree_Clone_1), (68, c_tree_each_api_Stmt), (69, c_tree_each_api_Oracle), (70, c_tree_Clone_2), (71, c_tree_clonedExpr), (79, c_tree_walk_1), (80, c_tree_each_api_Expr), (83, c_lex_digit), (85, c_slices_IndexFunc_api_Expr_api_Expr), (86, c_slices_IndexFunc_api_Stmt_api_Stmt_x), (87, c_tree_shape), (88, c_tree_stmt_1), (97, c_tree_Exprs), (98, c_tree_blocks), (99, c_tree_shape_1), (2002600, ⟨0, .seq a_tree_All_0 y_tree_All_0, []⟩), (2007900, ⟨0, .seq a_tree_walk_1_0 y_tree_walk_1_0, []⟩)]

theorem t_flotsamlaw25_SiteFits : tbl n_flotsamlaw25_SiteFits = some c_flotsamlaw25_SiteFits := by kernel_rfl
theorem t_flotsamlaw16_Small : tbl n_flotsamlaw16_Small = some c_flotsamlaw16_Small := by kernel_rfl
theorem t_flotsamlaw25_knows : tbl n_flotsamlaw25_knows = some c_flotsamlaw25_knows := by kernel_rfl
theorem t_site_Sites : tbl n_site_Sites = some c_site_Sites := by kernel_rfl
theorem t_site_Fits : tbl n_site_Fits = some c_site_Fits := by kernel_rfl
theorem t_site_Name : tbl n_site_Name = some c_site_Name := by kernel_rfl
theorem t_site_Read : tbl n_site_Read = some c_site_Read := by kernel_rfl
theorem t_tree_Right : tbl n_tree_Right = some c_tree_Right := by kernel_rfl
theorem t_flotsamref16_Size : tbl n_flotsamref16_Size = some c_flotsamref16_Size := by kernel_rfl
theorem t_site_At : tbl n_site_At = some c_site_At := by kernel_rfl
theorem t_site_parts : tbl n_site_parts = some c_site_parts := by kernel_rfl
theorem t_site_each : tbl n_site_each = some c_site_each := by kernel_rfl
theorem t_site_Sites_1 : tbl n_site_Sites_1 = some c_site_Sites_1 := by kernel_rfl
theorem t_site_Sites_2 : tbl n_site_Sites_2 = some c_site_Sites_2 := by kernel_rfl
theorem t_site_fits : tbl n_site_fits = some c_site_fits := by kernel_rfl
theorem t_site_lead : tbl n_site_lead = some c_site_lead := by kernel_rfl
theorem t_site_words : tbl n_site_words = some c_site_words := by kernel_rfl
theorem t_site_may : tbl n_site_may = some c_site_may := by kernel_rfl
theorem t_site_Word : tbl n_site_Word = some c_site_Word := by kernel_rfl
theorem t_num_Digits : tbl n_num_Digits = some c_num_Digits := by kernel_rfl
theorem t_num_Read : tbl n_num_Read = some c_num_Read := by kernel_rfl
theorem t_tree_All : tbl n_tree_All = some c_tree_All := by kernel_rfl
theorem t_tree_Right_1 : tbl n_tree_Right_1 = some c_tree_Right_1 := by kernel_rfl
theorem t_lex_Name : tbl n_lex_Name = some c_lex_Name := by kernel_rfl
theorem t_tree_Right_2 : tbl n_tree_Right_2 = some c_tree_Right_2 := by kernel_rfl
theorem t_tree_expr : tbl n_tree_expr = some c_tree_expr := by kernel_rfl
theorem t_tree_Right_3 : tbl n_tree_Right_3 = some c_tree_Right_3 := by kernel_rfl
theorem t_tree_block : tbl n_tree_block = some c_tree_block := by kernel_rfl
theorem t_slices_ContainsFunc_api_Proc_api_Proc : tbl n_slices_ContainsFunc_api_Proc_api_Proc = some c_slices_ContainsFunc_api_Proc_api_Proc := by kernel_rfl
theorem t_slices_ContainsFunc_api_Oracle_api_Oracle : tbl n_slices_ContainsFunc_api_Oracle_api_Oracle = some c_slices_ContainsFunc_api_Oracle_api_Oracle := by kernel_rfl
theorem t_slices_ContainsFunc_api_Stmt_api_Stmt : tbl n_slices_ContainsFunc_api_Stmt_api_Stmt = some c_slices_ContainsFunc_api_Stmt_api_Stmt := by kernel_rfl
theorem t_tree_parts : tbl n_tree_parts = some c_tree_parts := by kernel_rfl
theorem t_flotsamref16_block : tbl n_flotsamref16_block = some c_flotsamref16_block := by kernel_rfl
theorem t_flotsamref16_expr : tbl n_flotsamref16_expr = some c_flotsamref16_expr := by kernel_rfl
theorem t_tree_Clone : tbl n_tree_Clone = some c_tree_Clone := by kernel_rfl
theorem t_site_each_1 : tbl n_site_each_1 = some c_site_each_1 := by kernel_rfl
theorem t_site_each_2 : tbl n_site_each_2 = some c_site_each_2 := by kernel_rfl
theorem t_site_writes : tbl n_site_writes = some c_site_writes := by kernel_rfl
theorem t_site_torn : tbl n_site_torn = some c_site_torn := by kernel_rfl
theorem t_site_next : tbl n_site_next = some c_site_next := by kernel_rfl
theorem t_tree_walk : tbl n_tree_walk = some c_tree_walk := by kernel_rfl
theorem t_tree_cloned : tbl n_tree_cloned = some c_tree_cloned := by kernel_rfl
theorem t_lex_begins : tbl n_lex_begins = some c_lex_begins := by kernel_rfl
theorem t_lex_letter : tbl n_lex_letter = some c_lex_letter := by kernel_rfl
theorem t_lex_inner : tbl n_lex_inner = some c_lex_inner := by kernel_rfl
theorem t_lex_Key : tbl n_lex_Key = some c_lex_Key := by kernel_rfl
theorem t_tree_Parts : tbl n_tree_Parts = some c_tree_Parts := by kernel_rfl
theorem t_slices_ContainsFunc_api_Expr_api_Expr : tbl n_slices_ContainsFunc_api_Expr_api_Expr = some c_slices_ContainsFunc_api_Expr_api_Expr := by kernel_rfl
theorem t_tree_expr_1 : tbl n_tree_expr_1 = some c_tree_expr_1 := by kernel_rfl
theorem t_slices_ContainsFunc_api_Stmt_api_Stmt_x : tbl n_slices_ContainsFunc_api_Stmt_api_Stmt_x = some c_slices_ContainsFunc_api_Stmt_api_Stmt_x := by kernel_rfl
theorem t_tree_block_1 : tbl n_tree_block_1 = some c_tree_block_1 := by kernel_rfl
theorem t_tree_stmt : tbl n_tree_stmt = some c_tree_stmt := by kernel_rfl
theorem t_slices_IndexFunc_api_Proc_api_Proc : tbl n_slices_IndexFunc_api_Proc_api_Proc = some c_slices_IndexFunc_api_Proc_api_Proc := by kernel_rfl
theorem t_slices_IndexFunc_api_Oracle_api_Oracle : tbl n_slices_IndexFunc_api_Oracle_api_Oracle = some c_slices_IndexFunc_api_Oracle_api_Oracle := by kernel_rfl
theorem t_slices_IndexFunc_api_Stmt_api_Stmt : tbl n_slices_IndexFunc_api_Stmt_api_Stmt = some c_slices_IndexFunc_api_Stmt_api_Stmt := by kernel_rfl
theorem t_tree_each_api_Proc : tbl n_tree_each_api_Proc = some c_tree_each_api_Proc := by kernel_rfl
theorem t_tree_Clone_1 : tbl n_tree_Clone_1 = some c_tree_Clone_1 := by kernel_rfl
theorem t_tree_each_api_Stmt : tbl n_tree_each_api_Stmt = some c_tree_each_api_Stmt := by kernel_rfl
theorem t_tree_each_api_Oracle : tbl n_tree_each_api_Oracle = some c_tree_each_api_Oracle := by kernel_rfl
theorem t_tree_Clone_2 : tbl n_tree_Clone_2 = some c_tree_Clone_2 := by kernel_rfl
theorem t_tree_clonedExpr : tbl n_tree_clonedExpr = some c_tree_clonedExpr := by kernel_rfl
theorem t_tree_walk_1 : tbl n_tree_walk_1 = some c_tree_walk_1 := by kernel_rfl
theorem t_tree_each_api_Expr : tbl n_tree_each_api_Expr = some c_tree_each_api_Expr := by kernel_rfl
theorem t_lex_digit : tbl n_lex_digit = some c_lex_digit := by kernel_rfl
theorem t_slices_IndexFunc_api_Expr_api_Expr : tbl n_slices_IndexFunc_api_Expr_api_Expr = some c_slices_IndexFunc_api_Expr_api_Expr := by kernel_rfl
theorem t_slices_IndexFunc_api_Stmt_api_Stmt_x : tbl n_slices_IndexFunc_api_Stmt_api_Stmt_x = some c_slices_IndexFunc_api_Stmt_api_Stmt_x := by kernel_rfl
theorem t_tree_shape : tbl n_tree_shape = some c_tree_shape := by kernel_rfl
theorem t_tree_stmt_1 : tbl n_tree_stmt_1 = some c_tree_stmt_1 := by kernel_rfl
theorem t_tree_Exprs : tbl n_tree_Exprs = some c_tree_Exprs := by kernel_rfl
theorem t_tree_blocks : tbl n_tree_blocks = some c_tree_blocks := by kernel_rfl
theorem t_tree_shape_1 : tbl n_tree_shape_1 = some c_tree_shape_1 := by kernel_rfl
theorem u_tree_All_0 : tbl q_tree_All_0 = some ⟨0, .seq a_tree_All_0 y_tree_All_0, []⟩ := by kernel_rfl
theorem u_tree_walk_1_0 : tbl q_tree_walk_1_0 = some ⟨0, .seq a_tree_walk_1_0 y_tree_walk_1_0, []⟩ := by kernel_rfl

/-- The functions that are taken as given. -/
def noExt : Ext := fun k => if k = n_strings_Contains then some (xContains) else if k = n_strings_Split then some (xSplit) else if k = n_strings_Join then some (xJoin) else if k = n_strings_Fields then some (xFields) else if k = n_lex_run then some (xRun n_lex_letter n_lex_digit n_lex_inner) else none

theorem lt_flotsamlaw25_SiteFits : n_flotsamlaw25_SiteFits < yBase := Nat.le_of_ble_eq_true rfl
theorem lt_flotsamlaw16_Small : n_flotsamlaw16_Small < yBase := Nat.le_of_ble_eq_true rfl
theorem lt_flotsamlaw25_knows : n_flotsamlaw25_knows < yBase := Nat.le_of_ble_eq_true rfl
theorem lt_site_Sites : n_site_Sites < yBase := Nat.le_of_ble_eq_true rfl
theorem lt_site_Fits : n_site_Fits < yBase := Nat.le_of_ble_eq_true rfl
theorem lt_site_Name : n_site_Name < yBase := Nat.le_of_ble_eq_true rfl
theorem lt_site_Read : n_site_Read < yBase := Nat.le_of_ble_eq_true rfl
theorem lt_tree_Right : n_tree_Right < yBase := Nat.le_of_ble_eq_true rfl
theorem lt_flotsamref16_Size : n_flotsamref16_Size < yBase := Nat.le_of_ble_eq_true rfl
theorem lt_site_At : n_site_At < yBase := Nat.le_of_ble_eq_true rfl
theorem lt_site_parts : n_site_parts < yBase := Nat.le_of_ble_eq_true rfl
theorem lt_site_each : n_site_each < yBase := Nat.le_of_ble_eq_true rfl
theorem lt_site_Sites_1 : n_site_Sites_1 < yBase := Nat.le_of_ble_eq_true rfl
theorem lt_site_Sites_2 : n_site_Sites_2 < yBase := Nat.le_of_ble_eq_true rfl
theorem lt_site_fits : n_site_fits < yBase := Nat.le_of_ble_eq_true rfl
theorem lt_site_lead : n_site_lead < yBase := Nat.le_of_ble_eq_true rfl
theorem lt_site_words : n_site_words < yBase := Nat.le_of_ble_eq_true rfl
theorem lt_site_may : n_site_may < yBase := Nat.le_of_ble_eq_true rfl
theorem lt_site_Word : n_site_Word < yBase := Nat.le_of_ble_eq_true rfl
theorem lt_num_Digits : n_num_Digits < yBase := Nat.le_of_ble_eq_true rfl
theorem lt_strings_Join : n_strings_Join < yBase := Nat.le_of_ble_eq_true rfl
theorem lt_strings_Split : n_strings_Split < yBase := Nat.le_of_ble_eq_true rfl
theorem lt_num_Read : n_num_Read < yBase := Nat.le_of_ble_eq_true rfl
theorem lt_tree_All : n_tree_All < yBase := Nat.le_of_ble_eq_true rfl
theorem lt_tree_Right_1 : n_tree_Right_1 < yBase := Nat.le_of_ble_eq_true rfl
theorem lt_lex_Name : n_lex_Name < yBase := Nat.le_of_ble_eq_true rfl
theorem lt_tree_Right_2 : n_tree_Right_2 < yBase := Nat.le_of_ble_eq_true rfl
theorem lt_tree_expr : n_tree_expr < yBase := Nat.le_of_ble_eq_true rfl
theorem lt_tree_Right_3 : n_tree_Right_3 < yBase := Nat.le_of_ble_eq_true rfl
theorem lt_tree_block : n_tree_block < yBase := Nat.le_of_ble_eq_true rfl
theorem lt_slices_ContainsFunc_api_Proc_api_Proc : n_slices_ContainsFunc_api_Proc_api_Proc < yBase := Nat.le_of_ble_eq_true rfl
theorem lt_slices_ContainsFunc_api_Oracle_api_Oracle : n_slices_ContainsFunc_api_Oracle_api_Oracle < yBase := Nat.le_of_ble_eq_true rfl
theorem lt_slices_ContainsFunc_api_Stmt_api_Stmt : n_slices_ContainsFunc_api_Stmt_api_Stmt < yBase := Nat.le_of_ble_eq_true rfl
theorem lt_tree_parts : n_tree_parts < yBase := Nat.le_of_ble_eq_true rfl
theorem lt_flotsamref16_block : n_flotsamref16_block < yBase := Nat.le_of_ble_eq_true rfl
theorem lt_flotsamref16_expr : n_flotsamref16_expr < yBase := Nat.le_of_ble_eq_true rfl
theorem lt_tree_Clone : n_tree_Clone < yBase := Nat.le_of_ble_eq_true rfl
theorem lt_site_each_1 : n_site_each_1 < yBase := Nat.le_of_ble_eq_true rfl
theorem lt_site_each_2 : n_site_each_2 < yBase := Nat.le_of_ble_eq_true rfl
theorem lt_site_writes : n_site_writes < yBase := Nat.le_of_ble_eq_true rfl
theorem lt_site_torn : n_site_torn < yBase := Nat.le_of_ble_eq_true rfl
theorem lt_site_next : n_site_next < yBase := Nat.le_of_ble_eq_true rfl
theorem lt_strings_Fields : n_strings_Fields < yBase := Nat.le_of_ble_eq_true rfl
theorem lt_tree_walk : n_tree_walk < yBase := Nat.le_of_ble_eq_true rfl
theorem lt_tree_cloned : n_tree_cloned < yBase := Nat.le_of_ble_eq_true rfl
theorem lt_lex_begins : n_lex_begins < yBase := Nat.le_of_ble_eq_true rfl
theorem lt_lex_letter : n_lex_letter < yBase := Nat.le_of_ble_eq_true rfl
theorem lt_lex_run : n_lex_run < yBase := Nat.le_of_ble_eq_true rfl
theorem lt_lex_inner : n_lex_inner < yBase := Nat.le_of_ble_eq_true rfl
theorem lt_lex_Key : n_lex_Key < yBase := Nat.le_of_ble_eq_true rfl
theorem lt_tree_Parts : n_tree_Parts < yBase := Nat.le_of_ble_eq_true rfl
theorem lt_slices_ContainsFunc_api_Expr_api_Expr : n_slices_ContainsFunc_api_Expr_api_Expr < yBase := Nat.le_of_ble_eq_true rfl
theorem lt_tree_expr_1 : n_tree_expr_1 < yBase := Nat.le_of_ble_eq_true rfl
theorem lt_slices_ContainsFunc_api_Stmt_api_Stmt_x : n_slices_ContainsFunc_api_Stmt_api_Stmt_x < yBase := Nat.le_of_ble_eq_true rfl
theorem lt_tree_block_1 : n_tree_block_1 < yBase := Nat.le_of_ble_eq_true rfl
theorem lt_tree_stmt : n_tree_stmt < yBase := Nat.le_of_ble_eq_true rfl
theorem lt_slices_IndexFunc_api_Proc_api_Proc : n_slices_IndexFunc_api_Proc_api_Proc < yBase := Nat.le_of_ble_eq_true rfl
theorem lt_slices_IndexFunc_api_Oracle_api_Oracle : n_slices_IndexFunc_api_Oracle_api_Oracle < yBase := Nat.le_of_ble_eq_true rfl
theorem lt_slices_IndexFunc_api_Stmt_api_Stmt : n_slices_IndexFunc_api_Stmt_api_Stmt < yBase := Nat.le_of_ble_eq_true rfl
theorem lt_tree_each_api_Proc : n_tree_each_api_Proc < yBase := Nat.le_of_ble_eq_true rfl
theorem lt_tree_Clone_1 : n_tree_Clone_1 < yBase := Nat.le_of_ble_eq_true rfl
theorem lt_tree_each_api_Stmt : n_tree_each_api_Stmt < yBase := Nat.le_of_ble_eq_true rfl
theorem lt_tree_each_api_Oracle : n_tree_each_api_Oracle < yBase := Nat.le_of_ble_eq_true rfl
theorem lt_tree_Clone_2 : n_tree_Clone_2 < yBase := Nat.le_of_ble_eq_true rfl
theorem lt_tree_clonedExpr : n_tree_clonedExpr < yBase := Nat.le_of_ble_eq_true rfl
theorem lt_tree_walk_1 : n_tree_walk_1 < yBase := Nat.le_of_ble_eq_true rfl
theorem lt_tree_each_api_Expr : n_tree_each_api_Expr < yBase := Nat.le_of_ble_eq_true rfl
theorem lt_lex_digit : n_lex_digit < yBase := Nat.le_of_ble_eq_true rfl
theorem lt_strings_Contains : n_strings_Contains < yBase := Nat.le_of_ble_eq_true rfl
theorem lt_slices_IndexFunc_api_Expr_api_Expr : n_slices_IndexFunc_api_Expr_api_Expr < yBase := Nat.le_of_ble_eq_true rfl
theorem lt_slices_IndexFunc_api_Stmt_api_Stmt_x : n_slices_IndexFunc_api_Stmt_api_Stmt_x < yBase := Nat.le_of_ble_eq_true rfl
theorem lt_tree_shape : n_tree_shape < yBase := Nat.le_of_ble_eq_true rfl
theorem lt_tree_stmt_1 : n_tree_stmt_1 < yBase := Nat.le_of_ble_eq_true rfl
theorem lt_tree_Exprs : n_tree_Exprs < yBase := Nat.le_of_ble_eq_true rfl
theorem lt_tree_blocks : n_tree_blocks < yBase := Nat.le_of_ble_eq_true rfl
theorem lt_tree_shape_1 : n_tree_shape_1 < yBase := Nat.le_of_ble_eq_true rfl

end Go.AM
