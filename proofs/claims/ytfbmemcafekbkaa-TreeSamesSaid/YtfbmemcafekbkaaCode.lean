/-
  The abstract code of the functions, printed by a program (gen.py) out of the loaded program, and each function's place in the table.
-/
import Derived.Test.YtfbmemcafekbkaaXlib
namespace Go.AM

abbrev bT : Nat := 0
abbrev bP : Nat := 0
abbrev bE : Nat := 5
def n_flotsamlaw16_Small : Nat := 5
def n_flotsamlaw16_knows : Nat := 6
def n_tree_Clone : Nat := 7
def n_flotsamref16_Copy : Nat := 8
def n_tree_Same : Nat := 9
def n_flotsamref16_Same : Nat := 10
def n_flotsamlaw16_wipe : Nat := 11
def n_flotsamlaw16_wipeExprs : Nat := 12
def n_tree_All : Nat := 13
def n_tree_Count : Nat := 14
def n_flotsamref16_SameStmts : Nat := 16
def n_flotsamref16_Size : Nat := 17
def n_tree_Exprs : Nat := 18
def n_tree_Parts : Nat := 19
def n_tree_Right : Nat := 20
def n_tree_each_api_Proc : Nat := 21
def n_tree_Clone_1 : Nat := 22
def n_tree_each_api_Stmt : Nat := 23
def n_tree_cloned : Nat := 24
def n_tree_each_api_Oracle : Nat := 25
def n_tree_Clone_2 : Nat := 26
def n_tree_clonedExpr : Nat := 27
def n_flotsamref16_CopyStmts : Nat := 28
def n_flotsamref16_CopyExpr : Nat := 29
def n_tree_Same_1 : Nat := 30
def n_tree_lists_api_Stmt : Nat := 31
def n_tree_statements : Nat := 32
def n_tree_Same_2 : Nat := 33
def n_tree_expressions : Nat := 34
def n_tree_lists_api_Proc : Nat := 35
def n_tree_lists_api_Oracle : Nat := 36
def n_flotsamref16_SameExpr : Nat := 37
def n_tree_parts : Nat := 38
def n_tree_walk : Nat := 39
def n_flotsamref16_SameStmt : Nat := 40
def n_flotsamref16_block : Nat := 41
def n_flotsamref16_expr : Nat := 42
def n_tree_Right_1 : Nat := 43
def n_lex_Name : Nat := 44
def n_tree_Right_2 : Nat := 45
def n_tree_expr : Nat := 46
def n_tree_Right_3 : Nat := 47
def n_tree_block : Nat := 48
def n_slices_ContainsFunc_api_Proc_api_Proc : Nat := 49
def n_slices_ContainsFunc_api_Oracle_api_Oracle : Nat := 50
def n_slices_ContainsFunc_api_Stmt_api_Stmt : Nat := 51
def n_tree_each_api_Expr : Nat := 52
def n_slices_EqualFunc_api_Stmt_api_Stmt_api_Stmt_api_Stmt : Nat := 53
def n_slices_EqualFunc_api_Expr_api_Expr_api_Expr_api_Expr : Nat := 54
def n_slices_EqualFunc_api_Proc_api_Proc_api_Proc_api_Proc : Nat := 55
def n_slices_EqualFunc_api_Oracle_api_Oracle_api_Oracle_api_Oracle : Nat := 56
def n_tree_walk_1 : Nat := 57
def n_lex_begins : Nat := 58
def n_lex_letter : Nat := 59
def n_lex_run : Nat := 60
def n_lex_inner : Nat := 61
def n_lex_Key : Nat := 62
def n_slices_ContainsFunc_api_Expr_api_Expr : Nat := 63
def n_tree_expr_1 : Nat := 64
def n_slices_ContainsFunc_api_Stmt_api_Stmt_x : Nat := 65
def n_tree_block_1 : Nat := 66
def n_tree_stmt : Nat := 67
def n_slices_IndexFunc_api_Proc_api_Proc : Nat := 68
def n_slices_IndexFunc_api_Oracle_api_Oracle : Nat := 69
def n_slices_IndexFunc_api_Stmt_api_Stmt : Nat := 70
def n_lex_digit : Nat := 73
def n_strings_Contains : Nat := 74
def n_slices_IndexFunc_api_Expr_api_Expr : Nat := 75
def n_slices_IndexFunc_api_Stmt_api_Stmt_x : Nat := 76
def n_tree_shape : Nat := 77
def n_tree_stmt_1 : Nat := 78
def n_tree_blocks : Nat := 81
def n_tree_shape_1 : Nat := 82

def q_tree_All_0 : Nat := 2001300
def q_tree_Count_0 : Nat := 2001400
def q_tree_walk_1_0 : Nat := 2005700

-- flotsam/flotsamlaw16.Small
def c_flotsamlaw16_Small : AFunc :=
  { np := 1, res := [.t 2], body := (
    .seq (.reg [⟨some 1, none, .box (.t 0)⟩, ⟨some 2, none, .tk (.c (.bool false))⟩])
    (.seq (.reg [⟨some 3, none, .ld (some 4) (.t 1)⟩, ⟨some 4, none, .callc n_flotsamref16_Size [(.t 3), (.c (.int .i64 600))]⟩, ⟨some 5, none, .ic .leq (.t 4) (.c (.int .i64 600))⟩, ⟨some 2, none, .tk (.t 5)⟩])
    (.ret))) }

-- flotsam/flotsamlaw16.knows
def c_flotsamlaw16_knows : AFunc :=
  { np := 0, res := [.t 0], body := (
    .seq (.reg [⟨some 0, none, .tk (.c (.bool false))⟩])
    (.seq (.reg [⟨some 8, none, .bld [.int .i64 0, .str [], .int .i64 0, .sl 4 [], .sl 7 [], .sl 7 [], .bool false] [(0, 1, (.c (.int .i64 11)))]⟩, ⟨some 1, none, .alloc [.int .i64 0, .str [], .int .i64 0, .own 4 [], .own 7 [], .own 7 [], .bool false]⟩, ⟨none, none, .st 7 (.t 1) (.t 8)⟩])
    (.seq (.reg [⟨some 9, none, .bld [.int .i64 0, .int .i64 0, .str [], .sl 4 []] [(0, 1, (.c (.int .i64 3))), (1, 1, (.c (.int .i64 1)))]⟩, ⟨some 10, none, .bsl 4 [.int .i64 0, .int .i64 0, .str [], .sl 4 []] 1 [(0, 4, (.t 9))] false⟩, ⟨some 11, none, .ld (some 7) (.t 1)⟩, ⟨some 12, none, .bsl 7 [.int .i64 0, .str [], .int .i64 0, .sl 4 [], .sl 7 [], .sl 7 [], .bool false] 1 [(0, 7, (.t 11))] false⟩, ⟨some 13, none, .bld [.int .i64 0, .str [], .int .i64 0, .sl 4 [], .sl 7 [], .sl 7 [], .bool false] [(0, 1, (.c (.int .i64 13))), (3, 1, (.t 10)), (4, 1, (.t 12))]⟩, ⟨some 14, none, .bsl 7 [.int .i64 0, .str [], .int .i64 0, .sl 4 [], .sl 7 [], .sl 7 [], .bool false] 1 [(0, 7, (.t 13))] false⟩, ⟨some 15, none, .ld (some 7) (.t 1)⟩, ⟨some 16, none, .bsl 7 [.int .i64 0, .str [], .int .i64 0, .sl 4 [], .sl 7 [], .sl 7 [], .bool false] 1 [(0, 7, (.t 15))] false⟩, ⟨some 17, none, .bld [.sl 2 [], .sl 7 [], .sl 7 [], .sl 5 []] [(1, 1, (.t 14)), (2, 1, (.t 16))]⟩, ⟨some 2, none, .alloc [.own 2 [], .own 7 [], .own 7 [], .own 5 []]⟩, ⟨none, none, .st 4 (.t 2) (.t 17)⟩])
    (.seq (.reg [⟨some 19, none, .callc n_tree_Exprs [(.c (.int .i64 3))]⟩, ⟨some 18, none, .mv (.t 19)⟩, ⟨some 20, none, .ext (.t 18) 0⟩, ⟨some 21, none, .ext (.t 18) 1⟩, ⟨some 3, none, .tk (.t 20)⟩, ⟨some 4, none, .tk (.t 21)⟩])
    (.seq (.reg [⟨some 23, none, .callc n_tree_Parts [(.c (.int .i64 9))]⟩, ⟨some 22, none, .mv (.t 23)⟩, ⟨some 24, none, .ext (.t 22) 0⟩, ⟨some 25, none, .ext (.t 22) 1⟩, ⟨some 5, none, .tk (.t 24)⟩, ⟨some 6, none, .tk (.t 25)⟩])
    (.seq (.reg [⟨some 26, none, .ld (some 4) (.t 2)⟩, ⟨some 27, none, .callc n_tree_All [(.t 26)]⟩, ⟨some 7, none, .tk (.t 27)⟩])
    (.seq (.drw [[], [], [], [], [], [], [], [], [], [], [], [], [], [], [], [], [], [], [], [], [], [], [], [], [], [], [], [], [], [], [], [], [], [], [], [], [], [], [], [], [], [], [], [], [], [], []] [⟨some 28, none, .mv (.t 3)⟩, ⟨some 29, none, .ic .eql (.t 28) (.c (.int .i64 3))⟩, ⟨some 30, none, .mv (.t 29)⟩, ⟨some 31, (some (30, true)), .mv (.t 4)⟩, ⟨some 32, none, .pick (.t 30) (.t 31) (.c (.bool false))⟩, ⟨some 33, none, .mv (.t 32)⟩, ⟨some 34, (some (33, true)), .mv (.t 5)⟩, ⟨some 35, (some (33, true)), .ic .eql (.t 34) (.c (.int .i64 2))⟩, ⟨some 36, none, .pick (.t 33) (.t 35) (.c (.bool false))⟩, ⟨some 37, none, .mv (.t 36)⟩, ⟨some 38, (some (37, true)), .mv (.t 6)⟩, ⟨some 39, none, .pick (.t 37) (.t 38) (.c (.bool false))⟩, ⟨some 40, none, .mv (.t 39)⟩, ⟨some 41, (some (40, true)), .mv (.t 7)⟩, ⟨some 42, (some (40, true)), .len false (.t 41)⟩, ⟨some 43, (some (40, true)), .ic .eql (.t 42) (.c (.int .i64 3))⟩, ⟨some 44, none, .pick (.t 40) (.t 43) (.c (.bool false))⟩, ⟨some 45, none, .mv (.t 44)⟩, ⟨some 46, (some (45, true)), .mv (.t 7)⟩, ⟨some 47, (some (45, true)), .ixa 7 none (.t 46) (.c (.int .i64 1))⟩, ⟨some 48, (some (45, true)), .fa 0 (.t 47)⟩, ⟨some 49, (some (45, true)), .ld none (.t 48)⟩, ⟨some 50, (some (45, true)), .ic .eql (.t 49) (.c (.int .i64 11))⟩, ⟨some 51, none, .pick (.t 45) (.t 50) (.c (.bool false))⟩, ⟨some 52, none, .mv (.t 51)⟩, ⟨some 53, (some (52, true)), .fa 1 (.t 2)⟩, ⟨some 54, (some (52, true)), .ld none (.t 53)⟩, ⟨some 55, (some (52, true)), .callc n_tree_Count [(.t 54)]⟩, ⟨some 56, (some (52, true)), .ic .eql (.t 55) (.c (.int .i64 2))⟩, ⟨some 57, none, .pick (.t 52) (.t 56) (.c (.bool false))⟩, ⟨some 58, none, .mv (.t 57)⟩, ⟨some 59, (some (58, true)), .ld (some 4) (.t 2)⟩, ⟨some 60, (some (58, true)), .callc n_tree_Right [(.t 59)]⟩, ⟨some 61, none, .pick (.t 58) (.t 60) (.c (.bool false))⟩, ⟨some 62, none, .mv (.t 61)⟩, ⟨some 63, (some (62, true)), .ld (some 4) (.t 2)⟩, ⟨some 64, (some (62, true)), .ld (some 4) (.t 2)⟩, ⟨some 65, (some (62, true)), .callc n_tree_Clone [(.t 64)]⟩, ⟨some 66, (some (62, true)), .callc n_tree_Same [(.t 63), (.t 65)]⟩, ⟨some 67, none, .pick (.t 62) (.t 66) (.c (.bool false))⟩, ⟨some 68, none, .mv (.t 67)⟩, ⟨some 69, (some (68, true)), .ld (some 4) (.t 2)⟩, ⟨some 70, (some (68, true)), .bld [.sl 2 [], .sl 7 [], .sl 7 [], .sl 5 []] []⟩, ⟨some 71, (some (68, true)), .callc n_tree_Same [(.t 69), (.t 70)]⟩, ⟨some 72, (some (68, true)), .notb (.t 71)⟩, ⟨some 73, none, .pick (.t 68) (.t 72) (.c (.bool false))⟩, ⟨some 0, none, .tk (.t 73)⟩])
    (.ret)))))))) }

-- flotsam/tree.Clone
def c_tree_Clone : AFunc :=
  { np := 1, res := [.cell 2 (some 4)], body := (
    .seq (.reg [⟨some 1, none, .box (.t 0)⟩, ⟨some 2, none, .alloc [.own 2 [], .own 7 [], .own 7 [], .own 5 []]⟩])
    (.seq (.drw [[], [], [], [], [], [], [], [], [], [], [], [], [], []] [⟨some 3, none, .fa 0 (.t 1)⟩, ⟨some 4, none, .ld none (.t 3)⟩, ⟨some 5, none, .callc n_tree_each_api_Proc [(.t 4), (.c (.fn (.func n_tree_Clone_1) [] []))]⟩, ⟨some 6, none, .fa 1 (.t 1)⟩, ⟨some 7, none, .ld none (.t 6)⟩, ⟨some 8, none, .callc n_tree_each_api_Stmt [(.t 7), (.c (.fn (.func n_tree_cloned) [] []))]⟩, ⟨some 9, none, .fa 2 (.t 1)⟩, ⟨some 10, none, .ld none (.t 9)⟩, ⟨some 11, none, .callc n_tree_each_api_Stmt [(.t 10), (.c (.fn (.func n_tree_cloned) [] []))]⟩, ⟨some 12, none, .fa 3 (.t 1)⟩, ⟨some 13, none, .ld none (.t 12)⟩, ⟨some 14, none, .callc n_tree_each_api_Oracle [(.t 13), (.c (.fn (.func n_tree_Clone_2) [] []))]⟩, ⟨some 15, none, .bld [.sl 2 [], .sl 7 [], .sl 7 [], .sl 5 []] [(0, 1, (.t 5)), (1, 1, (.t 8)), (2, 1, (.t 11)), (3, 1, (.t 14))]⟩, ⟨none, none, .st 4 (.t 2) (.t 15)⟩])
    (.ret))) }

-- flotsam/flotsamref16.Copy
def b_flotsamref16_Copy_0 : AC :=
  .seq (.seq (.reg [⟨some 6, none, .mv (.t 4)⟩, ⟨some 7, none, .fa 0 (.t 1)⟩, ⟨some 8, none, .ld none (.t 7)⟩, ⟨some 9, none, .len false (.t 8)⟩, ⟨some 10, none, .ic .lss (.t 6) (.t 9)⟩])
    (.cond (.t 10)
      (.skip)
      (.exit 0)))
  (.seq (.block 1 (.drw [[], [], [], [], [], [], [], [], [], [], [], [], [], [], [], [], [], [], [], []] [⟨some 13, none, .fa 0 (.t 3)⟩, ⟨some 14, none, .ldo (.t 13)⟩, ⟨some 15, none, .fa 0 (.t 1)⟩, ⟨some 16, none, .ld none (.t 15)⟩, ⟨some 17, none, .mv (.t 4)⟩, ⟨some 18, none, .ixa 2 none (.t 16) (.t 17)⟩, ⟨some 19, none, .fa 0 (.t 18)⟩, ⟨some 20, none, .ld none (.t 19)⟩, ⟨some 21, none, .fa 0 (.t 1)⟩, ⟨some 22, none, .ld none (.t 21)⟩, ⟨some 23, none, .mv (.t 4)⟩, ⟨some 24, none, .ixa 2 none (.t 22) (.t 23)⟩, ⟨some 25, none, .fa 1 (.t 24)⟩, ⟨some 26, none, .ld none (.t 25)⟩, ⟨some 27, none, .callc n_flotsamref16_CopyStmts [(.t 26)]⟩, ⟨some 28, none, .bld [.str [], .sl 7 []] [(0, 1, (.t 20)), (1, 1, (.t 27))]⟩, ⟨some 29, none, .bsl 2 [.str [], .sl 7 []] 1 [(0, 2, (.t 28))] false⟩, ⟨some 30, none, .app 2 40 (.t 14) (.t 29) false⟩, ⟨some 31, none, .fa 0 (.t 3)⟩, ⟨none, none, .st 1 (.t 31) (.t 30)⟩]))
  (.reg [⟨some 11, none, .mv (.t 4)⟩, ⟨some 12, none, .ia .add .i64 (.t 11) (.c (.int .i64 1))⟩, ⟨some 4, none, .tk (.t 12)⟩]))

def l_flotsamref16_Copy_0 : AC :=
  .loop [1, 2, 3, 4] b_flotsamref16_Copy_0

def b_flotsamref16_Copy_1 : AC :=
  .seq (.seq (.reg [⟨some 40, none, .mv (.t 5)⟩, ⟨some 41, none, .fa 3 (.t 1)⟩, ⟨some 42, none, .ld none (.t 41)⟩, ⟨some 43, none, .len false (.t 42)⟩, ⟨some 44, none, .ic .lss (.t 40) (.t 43)⟩])
    (.cond (.t 44)
      (.skip)
      (.exit 2)))
  (.seq (.block 3 (.drw [[], [], [], [], [], [], [], [], [], [], [], [], [], [], [], [], [], [], [], []] [⟨some 47, none, .fa 3 (.t 3)⟩, ⟨some 48, none, .ldo (.t 47)⟩, ⟨some 49, none, .fa 3 (.t 1)⟩, ⟨some 50, none, .ld none (.t 49)⟩, ⟨some 51, none, .mv (.t 5)⟩, ⟨some 52, none, .ixa 5 none (.t 50) (.t 51)⟩, ⟨some 53, none, .fa 0 (.t 52)⟩, ⟨some 54, none, .ld none (.t 53)⟩, ⟨some 55, none, .fa 3 (.t 1)⟩, ⟨some 56, none, .ld none (.t 55)⟩, ⟨some 57, none, .mv (.t 5)⟩, ⟨some 58, none, .ixa 5 none (.t 56) (.t 57)⟩, ⟨some 59, none, .fa 1 (.t 58)⟩, ⟨some 60, none, .ld (some 4) (.t 59)⟩, ⟨some 61, none, .callc n_flotsamref16_CopyExpr [(.t 60)]⟩, ⟨some 62, none, .bld [.str [], .int .i64 0, .int .i64 0, .str [], .sl 4 []] [(0, 1, (.t 54)), (1, 4, (.t 61))]⟩, ⟨some 63, none, .bsl 5 [.str [], .int .i64 0, .int .i64 0, .str [], .sl 4 []] 1 [(0, 5, (.t 62))] false⟩, ⟨some 64, none, .app 5 72 (.t 48) (.t 63) false⟩, ⟨some 65, none, .fa 3 (.t 3)⟩, ⟨none, none, .st 1 (.t 65) (.t 64)⟩]))
  (.reg [⟨some 45, none, .mv (.t 5)⟩, ⟨some 46, none, .ia .add .i64 (.t 45) (.c (.int .i64 1))⟩, ⟨some 5, none, .tk (.t 46)⟩]))

def l_flotsamref16_Copy_1 : AC :=
  .loop [1, 2, 3, 5] b_flotsamref16_Copy_1

def r_flotsamref16_Copy_0 : AC :=
  .seq (.reg [⟨some 66, none, .ld (some 4) (.t 3)⟩, ⟨none, none, .st 4 (.t 2) (.t 66)⟩])
  (.ret)

def r_flotsamref16_Copy_1 : AC :=
  .seq (.reg [⟨some 32, none, .fa 1 (.t 1)⟩, ⟨some 33, none, .ld none (.t 32)⟩, ⟨some 34, none, .callc n_flotsamref16_CopyStmts [(.t 33)]⟩, ⟨some 35, none, .fa 1 (.t 3)⟩, ⟨none, none, .st 1 (.t 35) (.t 34)⟩])
  (.seq (.reg [⟨some 36, none, .fa 2 (.t 1)⟩, ⟨some 37, none, .ld none (.t 36)⟩, ⟨some 38, none, .callc n_flotsamref16_CopyStmts [(.t 37)]⟩, ⟨some 39, none, .fa 2 (.t 3)⟩, ⟨none, none, .st 1 (.t 39) (.t 38)⟩])
  (.seq (.seq (.reg [⟨some 5, none, .tk (.c (.int .i64 0))⟩])
    (.block 2 (l_flotsamref16_Copy_1))) r_flotsamref16_Copy_0))

def c_flotsamref16_Copy : AFunc :=
  { np := 1, res := [.cell 2 (some 4)], body := (
    .seq (.reg [⟨some 1, none, .box (.t 0)⟩, ⟨some 2, none, .alloc [.own 2 [], .own 7 [], .own 7 [], .own 5 []]⟩])
    (.seq (.reg [⟨some 3, none, .alloc [.own 2 [], .own 7 [], .own 7 [], .own 5 []]⟩])
    (.seq (.seq (.reg [⟨some 4, none, .tk (.c (.int .i64 0))⟩])
      (.block 0 (l_flotsamref16_Copy_0))) r_flotsamref16_Copy_1))) }

-- flotsam/tree.Same
def c_tree_Same : AFunc :=
  { np := 2, res := [.t 4], body := (
    .seq (.reg [⟨some 2, none, .box (.t 0)⟩, ⟨some 3, none, .box (.t 1)⟩, ⟨some 4, none, .tk (.c (.bool false))⟩])
    (.seq (.reg [⟨some 5, none, .tk (.c (.fn (.func n_tree_Same_1) [] []))⟩])
    (.seq (.reg [⟨some 6, none, .tk (.c (.fn (.func n_tree_Same_2) [] []))⟩])
    (.seq (.reg [⟨some 7, none, .fa 0 (.t 2)⟩, ⟨some 8, none, .ld none (.t 7)⟩, ⟨some 9, none, .fa 0 (.t 3)⟩, ⟨some 10, none, .ld none (.t 9)⟩, ⟨some 11, none, .mv (.t 5)⟩, ⟨some 12, none, .call n_tree_lists_api_Proc [(.t 8), (.t 10), (.t 11)]⟩, ⟨some 13, none, .mv (.t 12)⟩, ⟨some 14, (some (13, true)), .fa 1 (.t 2)⟩, ⟨some 15, (some (13, true)), .ld none (.t 14)⟩, ⟨some 16, (some (13, true)), .fa 1 (.t 3)⟩, ⟨some 17, (some (13, true)), .ld none (.t 16)⟩, ⟨some 18, (some (13, true)), .callc n_tree_lists_api_Stmt [(.t 15), (.t 17), (.c (.fn (.func n_tree_statements) [] []))]⟩, ⟨some 19, none, .pick (.t 13) (.t 18) (.c (.bool false))⟩, ⟨some 20, none, .mv (.t 19)⟩, ⟨some 21, (some (20, true)), .fa 2 (.t 2)⟩, ⟨some 22, (some (20, true)), .ld none (.t 21)⟩, ⟨some 23, (some (20, true)), .fa 2 (.t 3)⟩, ⟨some 24, (some (20, true)), .ld none (.t 23)⟩, ⟨some 25, (some (20, true)), .callc n_tree_lists_api_Stmt [(.t 22), (.t 24), (.c (.fn (.func n_tree_statements) [] []))]⟩, ⟨some 26, none, .pick (.t 20) (.t 25) (.c (.bool false))⟩, ⟨some 27, none, .mv (.t 26)⟩, ⟨some 28, (some (27, true)), .fa 3 (.t 2)⟩, ⟨some 29, (some (27, true)), .ld none (.t 28)⟩, ⟨some 30, (some (27, true)), .fa 3 (.t 3)⟩, ⟨some 31, (some (27, true)), .ld none (.t 30)⟩, ⟨some 32, (some (27, true)), .mv (.t 6)⟩, ⟨some 33, (some (27, true)), .call n_tree_lists_api_Oracle [(.t 29), (.t 31), (.t 32)]⟩, ⟨some 34, none, .pick (.t 27) (.t 33) (.c (.bool false))⟩, ⟨some 4, none, .tk (.t 34)⟩])
    (.ret))))) }

-- flotsam/flotsamref16.Same
def b_flotsamref16_Same_0 : AC :=
  .seq (.seq (.reg [⟨some 39, none, .mv (.t 5)⟩, ⟨some 40, none, .fa 0 (.t 2)⟩, ⟨some 41, none, .ld none (.t 40)⟩, ⟨some 42, none, .len false (.t 41)⟩, ⟨some 43, none, .ic .lss (.t 39) (.t 42)⟩])
    (.cond (.t 43)
      (.skip)
      (.exit 0)))
  (.seq (.block 1 (.seq (.drw [[], [], [], [], [], [], [], [], [], [], [], [], [], [], [], [], [], [], [], [], [], [], [], [], [], [], [], [], []] [⟨some 46, none, .fa 0 (.t 2)⟩, ⟨some 47, none, .ld none (.t 46)⟩, ⟨some 48, none, .mv (.t 5)⟩, ⟨some 49, none, .ixa 2 none (.t 47) (.t 48)⟩, ⟨some 50, none, .fa 0 (.t 49)⟩, ⟨some 51, none, .ld none (.t 50)⟩, ⟨some 52, none, .fa 0 (.t 3)⟩, ⟨some 53, none, .ld none (.t 52)⟩, ⟨some 54, none, .mv (.t 5)⟩, ⟨some 55, none, .ixa 2 none (.t 53) (.t 54)⟩, ⟨some 56, none, .fa 0 (.t 55)⟩, ⟨some 57, none, .ld none (.t 56)⟩, ⟨some 58, none, .sop .neq (.t 51) (.t 57)⟩, ⟨some 59, none, .mv (.t 58)⟩, ⟨some 60, (some (59, false)), .fa 0 (.t 2)⟩, ⟨some 61, (some (59, false)), .ld none (.t 60)⟩, ⟨some 62, (some (59, false)), .mv (.t 5)⟩, ⟨some 63, (some (59, false)), .ixa 2 none (.t 61) (.t 62)⟩, ⟨some 64, (some (59, false)), .fa 1 (.t 63)⟩, ⟨some 65, (some (59, false)), .ld none (.t 64)⟩, ⟨some 66, (some (59, false)), .fa 0 (.t 3)⟩, ⟨some 67, (some (59, false)), .ld none (.t 66)⟩, ⟨some 68, (some (59, false)), .mv (.t 5)⟩, ⟨some 69, (some (59, false)), .ixa 2 none (.t 67) (.t 68)⟩, ⟨some 70, (some (59, false)), .fa 1 (.t 69)⟩, ⟨some 71, (some (59, false)), .ld none (.t 70)⟩, ⟨some 72, (some (59, false)), .callc n_flotsamref16_SameStmts [(.t 65), (.t 71)]⟩, ⟨some 73, (some (59, false)), .notb (.t 72)⟩, ⟨some 74, none, .pick (.t 59) (.c (.bool true)) (.t 73)⟩])
      (.cond (.t 74)
        (.seq (.reg [⟨some 4, none, .tk (.c (.bool false))⟩])
          (.ret))
        (.skip))))
  (.reg [⟨some 44, none, .mv (.t 5)⟩, ⟨some 45, none, .ia .add .i64 (.t 44) (.c (.int .i64 1))⟩, ⟨some 5, none, .tk (.t 45)⟩]))

def l_flotsamref16_Same_0 : AC :=
  .loop [2, 3, 5] b_flotsamref16_Same_0

def b_flotsamref16_Same_1 : AC :=
  .seq (.seq (.reg [⟨some 75, none, .mv (.t 6)⟩, ⟨some 76, none, .fa 3 (.t 2)⟩, ⟨some 77, none, .ld none (.t 76)⟩, ⟨some 78, none, .len false (.t 77)⟩, ⟨some 79, none, .ic .lss (.t 75) (.t 78)⟩])
    (.cond (.t 79)
      (.skip)
      (.exit 2)))
  (.seq (.block 3 (.seq (.drw [[], [], [], [], [], [], [], [], [], [], [], [], [], [], [], [], [], [], [], [], [], [], [], [], [], [], [], [], []] [⟨some 82, none, .fa 3 (.t 2)⟩, ⟨some 83, none, .ld none (.t 82)⟩, ⟨some 84, none, .mv (.t 6)⟩, ⟨some 85, none, .ixa 5 none (.t 83) (.t 84)⟩, ⟨some 86, none, .fa 0 (.t 85)⟩, ⟨some 87, none, .ld none (.t 86)⟩, ⟨some 88, none, .fa 3 (.t 3)⟩, ⟨some 89, none, .ld none (.t 88)⟩, ⟨some 90, none, .mv (.t 6)⟩, ⟨some 91, none, .ixa 5 none (.t 89) (.t 90)⟩, ⟨some 92, none, .fa 0 (.t 91)⟩, ⟨some 93, none, .ld none (.t 92)⟩, ⟨some 94, none, .sop .neq (.t 87) (.t 93)⟩, ⟨some 95, none, .mv (.t 94)⟩, ⟨some 96, (some (95, false)), .fa 3 (.t 2)⟩, ⟨some 97, (some (95, false)), .ld none (.t 96)⟩, ⟨some 98, (some (95, false)), .mv (.t 6)⟩, ⟨some 99, (some (95, false)), .ixa 5 none (.t 97) (.t 98)⟩, ⟨some 100, (some (95, false)), .fa 1 (.t 99)⟩, ⟨some 101, (some (95, false)), .ld (some 4) (.t 100)⟩, ⟨some 102, (some (95, false)), .fa 3 (.t 3)⟩, ⟨some 103, (some (95, false)), .ld none (.t 102)⟩, ⟨some 104, (some (95, false)), .mv (.t 6)⟩, ⟨some 105, (some (95, false)), .ixa 5 none (.t 103) (.t 104)⟩, ⟨some 106, (some (95, false)), .fa 1 (.t 105)⟩, ⟨some 107, (some (95, false)), .ld (some 4) (.t 106)⟩, ⟨some 108, (some (95, false)), .callc n_flotsamref16_SameExpr [(.t 101), (.t 107)]⟩, ⟨some 109, (some (95, false)), .notb (.t 108)⟩, ⟨some 110, none, .pick (.t 95) (.c (.bool true)) (.t 109)⟩])
      (.cond (.t 110)
        (.seq (.reg [⟨some 4, none, .tk (.c (.bool false))⟩])
          (.ret))
        (.skip))))
  (.reg [⟨some 80, none, .mv (.t 6)⟩, ⟨some 81, none, .ia .add .i64 (.t 80) (.c (.int .i64 1))⟩, ⟨some 6, none, .tk (.t 81)⟩]))

def l_flotsamref16_Same_1 : AC :=
  .loop [2, 3, 6] b_flotsamref16_Same_1

def r_flotsamref16_Same_0 : AC :=
  .seq (.reg [⟨some 4, none, .tk (.c (.bool true))⟩])
  (.ret)

def r_flotsamref16_Same_1 : AC :=
  .seq (.seq (.reg [⟨some 6, none, .tk (.c (.int .i64 0))⟩])
    (.block 2 (l_flotsamref16_Same_1))) r_flotsamref16_Same_0

def c_flotsamref16_Same : AFunc :=
  { np := 2, res := [.t 4], body := (
    .seq (.reg [⟨some 2, none, .box (.t 0)⟩, ⟨some 3, none, .box (.t 1)⟩, ⟨some 4, none, .tk (.c (.bool false))⟩])
    (.seq (.seq (.reg [⟨some 7, none, .fa 0 (.t 2)⟩, ⟨some 8, none, .ld none (.t 7)⟩, ⟨some 9, none, .len false (.t 8)⟩, ⟨some 10, none, .fa 0 (.t 3)⟩, ⟨some 11, none, .ld none (.t 10)⟩, ⟨some 12, none, .len false (.t 11)⟩, ⟨some 13, none, .ic .neq (.t 9) (.t 12)⟩, ⟨some 14, none, .mv (.t 13)⟩, ⟨some 15, (some (14, false)), .fa 3 (.t 2)⟩, ⟨some 16, (some (14, false)), .ld none (.t 15)⟩, ⟨some 17, (some (14, false)), .len false (.t 16)⟩, ⟨some 18, (some (14, false)), .fa 3 (.t 3)⟩, ⟨some 19, (some (14, false)), .ld none (.t 18)⟩, ⟨some 20, (some (14, false)), .len false (.t 19)⟩, ⟨some 21, (some (14, false)), .ic .neq (.t 17) (.t 20)⟩, ⟨some 22, none, .pick (.t 14) (.c (.bool true)) (.t 21)⟩, ⟨some 23, none, .mv (.t 22)⟩, ⟨some 24, (some (23, false)), .fa 1 (.t 2)⟩, ⟨some 25, (some (23, false)), .ld none (.t 24)⟩, ⟨some 26, (some (23, false)), .fa 1 (.t 3)⟩, ⟨some 27, (some (23, false)), .ld none (.t 26)⟩, ⟨some 28, (some (23, false)), .callc n_flotsamref16_SameStmts [(.t 25), (.t 27)]⟩, ⟨some 29, (some (23, false)), .notb (.t 28)⟩, ⟨some 30, none, .pick (.t 23) (.c (.bool true)) (.t 29)⟩, ⟨some 31, none, .mv (.t 30)⟩, ⟨some 32, (some (31, false)), .fa 2 (.t 2)⟩, ⟨some 33, (some (31, false)), .ld none (.t 32)⟩, ⟨some 34, (some (31, false)), .fa 2 (.t 3)⟩, ⟨some 35, (some (31, false)), .ld none (.t 34)⟩, ⟨some 36, (some (31, false)), .callc n_flotsamref16_SameStmts [(.t 33), (.t 35)]⟩, ⟨some 37, (some (31, false)), .notb (.t 36)⟩, ⟨some 38, none, .pick (.t 31) (.c (.bool true)) (.t 37)⟩])
      (.cond (.t 38)
        (.seq (.reg [⟨some 4, none, .tk (.c (.bool false))⟩])
          (.ret))
        (.skip)))
    (.seq (.seq (.reg [⟨some 5, none, .tk (.c (.int .i64 0))⟩])
      (.block 0 (l_flotsamref16_Same_0))) r_flotsamref16_Same_1))) }

-- flotsam/tree.All
def a_tree_All_0 : AC :=
  .reg [⟨some 6, none, .alloc [.int .i64 0, .str [], .int .i64 0, .own 4 [], .own 7 [], .own 7 [], .bool false]⟩, ⟨none, none, .st 7 (.t 6) (.t 16)⟩]

def y_tree_All_0 : AC :=
  .block 3 (.drw [[], [], [], [], [], [], [], [], []] [⟨some 17, none, .ldo (.t 3)⟩, ⟨some 18, none, .ld (some 7) (.t 6)⟩, ⟨some 19, none, .callc n_tree_cloned [(.t 18)]⟩, ⟨some 20, none, .len false (.t 17)⟩, ⟨some 21, none, .bsl 7 [.int .i64 0, .str [], .int .i64 0, .sl 4 [], .sl 7 [], .sl 7 [], .bool false] 1 [(0, 7, (.c (.agg [.int .i64 0, .str [], .int .i64 0, .sl 4 [], .sl 7 [], .sl 7 [], .bool false])))] false⟩, ⟨some 22, none, .apz 7 112 (.t 17) (.t 21)⟩, ⟨some 23, none, .ixa 7 none (.t 22) (.t 20)⟩, ⟨none, none, .st 7 (.t 23) (.t 19)⟩, ⟨none, none, .stf (.t 3) (.t 22)⟩])

def r_tree_All_0 : AC :=
  .reg [⟨some 24, none, .ia .add .i64 (.t 10) (.c (.int .i64 1))⟩, ⟨some 10, none, .mv (.t 24)⟩]

def b_tree_All_0 : AC :=
  .seq (.reg [⟨some 11, none, .ic .lss (.t 10) (.t 9)⟩])
  (.seq (.cond (.t 11)
      (.skip)
      (.exit 0))
  (.seq (.block 1 (.seq (.reg [⟨some 12, none, .ixa 1 none (.t 8) (.t 10)⟩, ⟨some 13, none, .ld none (.t 12)⟩, ⟨some 5, none, .tk (.t 13)⟩])
      (.seq (.reg [⟨some 14, none, .mv (.t 5)⟩, ⟨some 15, none, .call n_tree_walk [(.t 14)]⟩])
      (.block 2 (.rfn (.t 15) [3] q_tree_All_0 [16] a_tree_All_0 y_tree_All_0))))) r_tree_All_0))

def l_tree_All_0 : AC :=
  .loop [3, 8, 9, 10] b_tree_All_0

def r_tree_All_1 : AC :=
  .seq (.reg [⟨some 25, none, .ld none (.t 3)⟩, ⟨some 2, none, .tk (.t 25)⟩])
  (.ret)

def c_tree_All : AFunc :=
  { np := 1, res := [.t 2], body := (
    .seq (.reg [⟨some 1, none, .box (.t 0)⟩, ⟨some 2, none, .tk (.c (.own 7 []))⟩])
    (.seq (.reg [⟨some 3, none, .alloc [.own 7 []]⟩])
    (.seq (.seq (.reg [⟨some 7, none, .ld (some 4) (.t 1)⟩, ⟨some 8, none, .callc n_tree_parts [(.t 7)]⟩, ⟨some 9, none, .len false (.t 8)⟩, ⟨some 10, none, .mv (.c (.int .i64 0))⟩])
      (.block 0 (l_tree_All_0))) r_tree_All_1))) }

-- flotsam/tree.Count
def a_tree_Count_0 : AC :=
  .skip

def y_tree_Count_0 : AC :=
  .block 1 (.reg [⟨some 7, none, .ld none (.t 3)⟩, ⟨some 8, none, .ia .add .i64 (.t 7) (.c (.int .i64 1))⟩, ⟨none, none, .st 1 (.t 3) (.t 8)⟩])

def r_tree_Count_0 : AC :=
  .seq (.reg [⟨some 9, none, .ld none (.t 3)⟩, ⟨some 2, none, .tk (.t 9)⟩])
  (.ret)

def c_tree_Count : AFunc :=
  { np := 1, res := [.t 2], body := (
    .seq (.reg [⟨some 2, none, .tk (.c (.int .i64 0))⟩])
    (.seq (.reg [⟨some 3, none, .alloc [.int .i64 0]⟩, ⟨none, none, .st 1 (.t 3) (.c (.int .i64 0))⟩])
    (.seq (.seq (.reg [⟨some 4, none, .mv (.t 0)⟩, ⟨some 5, none, .call n_tree_walk [(.t 4)]⟩])
      (.block 0 (.rfn (.t 5) [3] q_tree_Count_0 [6] a_tree_Count_0 y_tree_Count_0))) r_tree_Count_0))) }

-- flotsam/flotsamref16.SameStmts
def b_flotsamref16_SameStmts_0 : AC :=
  .seq (.seq (.reg [⟨some 11, none, .mv (.t 5)⟩, ⟨some 12, none, .mv (.t 0)⟩, ⟨some 13, none, .len false (.t 12)⟩, ⟨some 14, none, .ic .lss (.t 11) (.t 13)⟩])
    (.cond (.t 14)
      (.skip)
      (.exit 0)))
  (.seq (.block 1 (.seq (.drw [[], [], [], [], [], [], [], [], [], []] [⟨some 17, none, .mv (.t 0)⟩, ⟨some 18, none, .mv (.t 5)⟩, ⟨some 19, none, .ixa 7 none (.t 17) (.t 18)⟩, ⟨some 20, none, .ld (some 7) (.t 19)⟩, ⟨some 21, none, .mv (.t 1)⟩, ⟨some 22, none, .mv (.t 5)⟩, ⟨some 23, none, .ixa 7 none (.t 21) (.t 22)⟩, ⟨some 24, none, .ld (some 7) (.t 23)⟩, ⟨some 25, none, .callc n_flotsamref16_SameStmt [(.t 20), (.t 24)]⟩, ⟨some 26, none, .notb (.t 25)⟩])
      (.cond (.t 26)
        (.seq (.reg [⟨some 4, none, .tk (.c (.bool false))⟩])
          (.ret))
        (.skip))))
  (.reg [⟨some 15, none, .mv (.t 5)⟩, ⟨some 16, none, .ia .add .i64 (.t 15) (.c (.int .i64 1))⟩, ⟨some 5, none, .tk (.t 16)⟩]))

def l_flotsamref16_SameStmts_0 : AC :=
  .loop [0, 1, 5] b_flotsamref16_SameStmts_0

def r_flotsamref16_SameStmts_0 : AC :=
  .seq (.reg [⟨some 4, none, .tk (.c (.bool true))⟩])
  (.ret)

def c_flotsamref16_SameStmts : AFunc :=
  { np := 2, res := [.t 4], body := (
    .seq (.reg [⟨some 4, none, .tk (.c (.bool false))⟩])
    (.seq (.seq (.reg [⟨some 6, none, .mv (.t 0)⟩, ⟨some 7, none, .len false (.t 6)⟩, ⟨some 8, none, .mv (.t 1)⟩, ⟨some 9, none, .len false (.t 8)⟩, ⟨some 10, none, .ic .neq (.t 7) (.t 9)⟩])
      (.cond (.t 10)
        (.seq (.reg [⟨some 4, none, .tk (.c (.bool false))⟩])
          (.ret))
        (.skip)))
    (.seq (.seq (.reg [⟨some 5, none, .tk (.c (.int .i64 0))⟩])
      (.block 0 (l_flotsamref16_SameStmts_0))) r_flotsamref16_SameStmts_0))) }

-- flotsam/flotsamref16.Size
def b_flotsamref16_Size_0 : AC :=
  .seq (.seq (.reg [⟨some 31, none, .mv (.t 6)⟩, ⟨some 32, none, .fa 0 (.t 2)⟩, ⟨some 33, none, .ld none (.t 32)⟩, ⟨some 34, none, .len false (.t 33)⟩, ⟨some 35, none, .ic .lss (.t 31) (.t 34)⟩])
    (.cond (.t 35)
      (.skip)
      (.exit 0)))
  (.seq (.block 1 (.seq (.reg [⟨some 38, none, .mv (.t 5)⟩, ⟨some 39, none, .fa 0 (.t 2)⟩, ⟨some 40, none, .ld none (.t 39)⟩, ⟨some 41, none, .mv (.t 6)⟩, ⟨some 42, none, .ixa 2 none (.t 40) (.t 41)⟩, ⟨some 43, none, .fa 1 (.t 42)⟩, ⟨some 44, none, .ld none (.t 43)⟩, ⟨some 45, none, .mv (.t 1)⟩, ⟨some 46, none, .mv (.t 5)⟩, ⟨some 47, none, .ia .sub .i64 (.t 45) (.t 46)⟩, ⟨some 48, none, .callc n_flotsamref16_block [(.t 44), (.t 47)]⟩, ⟨some 49, none, .ia .add .i64 (.t 38) (.t 48)⟩, ⟨some 5, none, .tk (.t 49)⟩])
      (.seq (.reg [⟨some 50, none, .fa 0 (.t 2)⟩, ⟨some 51, none, .ld none (.t 50)⟩, ⟨some 52, none, .mv (.t 6)⟩, ⟨some 53, none, .ixa 2 none (.t 51) (.t 52)⟩, ⟨some 54, none, .fa 0 (.t 53)⟩, ⟨some 55, none, .ld none (.t 54)⟩, ⟨some 56, none, .len true (.t 55)⟩, ⟨some 57, none, .ic .gtr (.t 56) (.c (.int .i64 300))⟩, ⟨some 58, none, .mv (.t 57)⟩, ⟨some 59, (some (58, false)), .mv (.t 5)⟩, ⟨some 60, (some (58, false)), .mv (.t 1)⟩, ⟨some 61, (some (58, false)), .ic .gtr (.t 59) (.t 60)⟩, ⟨some 62, none, .pick (.t 58) (.c (.bool true)) (.t 61)⟩])
      (.cond (.t 62)
        (.seq (.reg [⟨some 63, none, .mv (.t 1)⟩, ⟨some 64, none, .ia .add .i64 (.t 63) (.c (.int .i64 1))⟩, ⟨some 4, none, .tk (.t 64)⟩])
          (.ret))
        (.skip)))))
  (.reg [⟨some 36, none, .mv (.t 6)⟩, ⟨some 37, none, .ia .add .i64 (.t 36) (.c (.int .i64 1))⟩, ⟨some 6, none, .tk (.t 37)⟩]))

def l_flotsamref16_Size_0 : AC :=
  .loop [1, 2, 5, 6] b_flotsamref16_Size_0

def b_flotsamref16_Size_1 : AC :=
  .seq (.seq (.reg [⟨some 84, none, .mv (.t 7)⟩, ⟨some 85, none, .fa 3 (.t 2)⟩, ⟨some 86, none, .ld none (.t 85)⟩, ⟨some 87, none, .len false (.t 86)⟩, ⟨some 88, none, .ic .lss (.t 84) (.t 87)⟩, ⟨some 89, none, .mv (.t 88)⟩, ⟨some 90, (some (89, true)), .mv (.t 5)⟩, ⟨some 91, (some (89, true)), .mv (.t 1)⟩, ⟨some 92, (some (89, true)), .ic .leq (.t 90) (.t 91)⟩, ⟨some 93, none, .pick (.t 89) (.t 92) (.c (.bool false))⟩])
    (.cond (.t 93)
      (.skip)
      (.exit 2)))
  (.seq (.block 3 (.seq (.reg [⟨some 96, none, .mv (.t 5)⟩, ⟨some 97, none, .fa 3 (.t 2)⟩, ⟨some 98, none, .ld none (.t 97)⟩, ⟨some 99, none, .mv (.t 7)⟩, ⟨some 100, none, .ixa 5 none (.t 98) (.t 99)⟩, ⟨some 101, none, .fa 1 (.t 100)⟩, ⟨some 102, none, .ld (some 4) (.t 101)⟩, ⟨some 103, none, .mv (.t 1)⟩, ⟨some 104, none, .mv (.t 5)⟩, ⟨some 105, none, .ia .sub .i64 (.t 103) (.t 104)⟩, ⟨some 106, none, .callc n_flotsamref16_expr [(.t 102), (.t 105)]⟩, ⟨some 107, none, .ia .add .i64 (.t 96) (.t 106)⟩, ⟨some 5, none, .tk (.t 107)⟩])
      (.seq (.reg [⟨some 108, none, .fa 3 (.t 2)⟩, ⟨some 109, none, .ld none (.t 108)⟩, ⟨some 110, none, .mv (.t 7)⟩, ⟨some 111, none, .ixa 5 none (.t 109) (.t 110)⟩, ⟨some 112, none, .fa 0 (.t 111)⟩, ⟨some 113, none, .ld none (.t 112)⟩, ⟨some 114, none, .len true (.t 113)⟩, ⟨some 115, none, .ic .gtr (.t 114) (.c (.int .i64 300))⟩])
      (.cond (.t 115)
        (.seq (.reg [⟨some 116, none, .mv (.t 1)⟩, ⟨some 117, none, .ia .add .i64 (.t 116) (.c (.int .i64 1))⟩, ⟨some 4, none, .tk (.t 117)⟩])
          (.ret))
        (.skip)))))
  (.reg [⟨some 94, none, .mv (.t 7)⟩, ⟨some 95, none, .ia .add .i64 (.t 94) (.c (.int .i64 1))⟩, ⟨some 7, none, .tk (.t 95)⟩]))

def l_flotsamref16_Size_1 : AC :=
  .loop [1, 2, 5, 7] b_flotsamref16_Size_1

def r_flotsamref16_Size_0 : AC :=
  .seq (.reg [⟨some 118, none, .mv (.t 5)⟩, ⟨some 4, none, .tk (.t 118)⟩])
  (.ret)

def r_flotsamref16_Size_1 : AC :=
  .seq (.reg [⟨some 65, none, .mv (.t 5)⟩, ⟨some 66, none, .fa 1 (.t 2)⟩, ⟨some 67, none, .ld none (.t 66)⟩, ⟨some 68, none, .mv (.t 1)⟩, ⟨some 69, none, .mv (.t 5)⟩, ⟨some 70, none, .ia .sub .i64 (.t 68) (.t 69)⟩, ⟨some 71, none, .callc n_flotsamref16_block [(.t 67), (.t 70)]⟩, ⟨some 72, none, .ia .add .i64 (.t 65) (.t 71)⟩, ⟨some 5, none, .tk (.t 72)⟩])
  (.seq (.seq (.reg [⟨some 73, none, .mv (.t 5)⟩, ⟨some 74, none, .mv (.t 1)⟩, ⟨some 75, none, .ic .leq (.t 73) (.t 74)⟩])
    (.cond (.t 75)
      (.reg [⟨some 76, none, .mv (.t 5)⟩, ⟨some 77, none, .fa 2 (.t 2)⟩, ⟨some 78, none, .ld none (.t 77)⟩, ⟨some 79, none, .mv (.t 1)⟩, ⟨some 80, none, .mv (.t 5)⟩, ⟨some 81, none, .ia .sub .i64 (.t 79) (.t 80)⟩, ⟨some 82, none, .callc n_flotsamref16_block [(.t 78), (.t 81)]⟩, ⟨some 83, none, .ia .add .i64 (.t 76) (.t 82)⟩, ⟨some 5, none, .tk (.t 83)⟩])
      (.skip)))
  (.seq (.seq (.reg [⟨some 7, none, .tk (.c (.int .i64 0))⟩])
    (.block 2 (l_flotsamref16_Size_1))) r_flotsamref16_Size_0))

def c_flotsamref16_Size : AFunc :=
  { np := 2, res := [.t 4], body := (
    .seq (.reg [⟨some 2, none, .box (.t 0)⟩, ⟨some 4, none, .tk (.c (.int .i64 0))⟩])
    (.seq (.reg [⟨some 8, none, .mv (.t 1)⟩, ⟨some 9, none, .mx false [(.t 8), (.c (.int .i64 1000))]⟩, ⟨some 1, none, .tk (.t 9)⟩])
    (.seq (.seq (.reg [⟨some 10, none, .fa 0 (.t 2)⟩, ⟨some 11, none, .ld none (.t 10)⟩, ⟨some 12, none, .len false (.t 11)⟩, ⟨some 13, none, .mv (.t 1)⟩, ⟨some 14, none, .ic .gtr (.t 12) (.t 13)⟩, ⟨some 15, none, .mv (.t 14)⟩, ⟨some 16, (some (15, false)), .fa 3 (.t 2)⟩, ⟨some 17, (some (15, false)), .ld none (.t 16)⟩, ⟨some 18, (some (15, false)), .len false (.t 17)⟩, ⟨some 19, (some (15, false)), .mv (.t 1)⟩, ⟨some 20, (some (15, false)), .ic .gtr (.t 18) (.t 19)⟩, ⟨some 21, none, .pick (.t 15) (.c (.bool true)) (.t 20)⟩])
      (.cond (.t 21)
        (.seq (.reg [⟨some 22, none, .mv (.t 1)⟩, ⟨some 23, none, .ia .add .i64 (.t 22) (.c (.int .i64 1))⟩, ⟨some 4, none, .tk (.t 23)⟩])
          (.ret))
        (.skip)))
    (.seq (.reg [⟨some 24, none, .fa 0 (.t 2)⟩, ⟨some 25, none, .ld none (.t 24)⟩, ⟨some 26, none, .len false (.t 25)⟩, ⟨some 27, none, .fa 3 (.t 2)⟩, ⟨some 28, none, .ld none (.t 27)⟩, ⟨some 29, none, .len false (.t 28)⟩, ⟨some 30, none, .ia .add .i64 (.t 26) (.t 29)⟩, ⟨some 5, none, .tk (.t 30)⟩])
    (.seq (.seq (.reg [⟨some 6, none, .tk (.c (.int .i64 0))⟩])
      (.block 0 (l_flotsamref16_Size_0))) r_flotsamref16_Size_1))))) }

-- flotsam/tree.Exprs
def c_tree_Exprs : AFunc :=
  { np := 1, res := [.t 2, .t 3], body := (
    .seq (.reg [⟨some 2, none, .tk (.c (.int .i64 0))⟩, ⟨some 3, none, .tk (.c (.bool false))⟩])
    (.seq (.seq (.reg [⟨some 4, none, .mv (.t 0)⟩])
      (.block 0 (.seq (.seq (.reg [⟨some 6, none, .ic .eql (.t 4) (.c (.int .i64 11))⟩, ⟨some 5, none, .tk (.t 6)⟩])
          (.cond (.t 5)
            (.skip)
            (.seq (.reg [⟨some 7, none, .ic .eql (.t 4) (.c (.int .i64 14))⟩, ⟨some 5, none, .tk (.t 7)⟩])
              (.cond (.t 5)
                (.skip)
                (.reg [⟨some 8, none, .ic .eql (.t 4) (.c (.int .i64 15))⟩, ⟨some 5, none, .tk (.t 8)⟩])))))
        (.cond (.t 5)
          (.seq (.reg [⟨some 2, none, .tk (.c (.int .i64 0))⟩, ⟨some 3, none, .tk (.c (.bool true))⟩])
            (.ret))
          (.seq (.seq (.reg [⟨some 10, none, .ic .eql (.t 4) (.c (.int .i64 4))⟩, ⟨some 9, none, .tk (.t 10)⟩])
              (.cond (.t 9)
                (.skip)
                (.seq (.reg [⟨some 11, none, .ic .eql (.t 4) (.c (.int .i64 5))⟩, ⟨some 9, none, .tk (.t 11)⟩])
                  (.cond (.t 9)
                    (.skip)
                    (.reg [⟨some 12, none, .ic .eql (.t 4) (.c (.int .i64 6))⟩, ⟨some 9, none, .tk (.t 12)⟩])))))
            (.cond (.t 9)
              (.seq (.reg [⟨some 2, none, .tk (.c (.int .i64 2))⟩, ⟨some 3, none, .tk (.c (.bool true))⟩])
                (.ret))
              (.seq (.reg [⟨some 14, none, .ic .eql (.t 4) (.c (.int .i64 3))⟩, ⟨some 13, none, .tk (.t 14)⟩])
                (.cond (.t 13)
                  (.seq (.reg [⟨some 2, none, .tk (.c (.int .i64 3))⟩, ⟨some 3, none, .tk (.c (.bool true))⟩])
                    (.ret))
                  (.skip)))))))))
    (.seq (.seq (.reg [⟨some 15, none, .mv (.t 0)⟩, ⟨some 16, none, .ic .lss (.t 15) (.c (.int .i64 1))⟩, ⟨some 17, none, .mv (.t 16)⟩, ⟨some 18, (some (17, false)), .mv (.t 0)⟩, ⟨some 19, (some (17, false)), .ic .gtr (.t 18) (.c (.int .i64 18))⟩, ⟨some 20, none, .pick (.t 17) (.c (.bool true)) (.t 19)⟩])
      (.cond (.t 20)
        (.seq (.reg [⟨some 2, none, .tk (.c (.int .i64 0))⟩, ⟨some 3, none, .tk (.c (.bool false))⟩])
          (.ret))
        (.skip)))
    (.seq (.reg [⟨some 2, none, .tk (.c (.int .i64 1))⟩, ⟨some 3, none, .tk (.c (.bool true))⟩])
    (.ret))))) }

-- flotsam/tree.Parts
def c_tree_Parts : AFunc :=
  { np := 1, res := [.t 2, .t 3], body := (
    .seq (.reg [⟨some 2, none, .tk (.c (.int .i64 0))⟩, ⟨some 3, none, .tk (.c (.bool false))⟩])
    (.seq (.block 0 (.seq (.reg [⟨some 5, none, .mv (.t 0)⟩, ⟨some 6, none, .ic .lss (.t 5) (.c (.int .i64 1))⟩, ⟨some 7, none, .mv (.t 6)⟩, ⟨some 8, (some (7, false)), .mv (.t 0)⟩, ⟨some 9, (some (7, false)), .ic .gtr (.t 8) (.c (.int .i64 14))⟩, ⟨some 10, none, .pick (.t 7) (.c (.bool true)) (.t 9)⟩, ⟨some 4, none, .tk (.t 10)⟩])
        (.cond (.t 4)
          (.seq (.reg [⟨some 2, none, .tk (.c (.int .i64 0))⟩, ⟨some 3, none, .tk (.c (.bool false))⟩])
            (.ret))
          (.seq (.reg [⟨some 12, none, .mv (.t 0)⟩, ⟨some 13, none, .ic .leq (.t 12) (.c (.int .i64 4))⟩, ⟨some 11, none, .tk (.t 13)⟩])
            (.cond (.t 11)
              (.seq (.reg [⟨some 2, none, .tk (.c (.int .i64 0))⟩, ⟨some 3, none, .tk (.c (.bool true))⟩])
                (.ret))
              (.seq (.reg [⟨some 15, none, .mv (.t 0)⟩, ⟨some 16, none, .ic .leq (.t 15) (.c (.int .i64 8))⟩, ⟨some 14, none, .tk (.t 16)⟩])
                (.cond (.t 14)
                  (.seq (.reg [⟨some 2, none, .tk (.c (.int .i64 1))⟩, ⟨some 3, none, .tk (.c (.bool true))⟩])
                    (.ret))
                  (.skip))))))))
    (.seq (.reg [⟨some 2, none, .tk (.c (.int .i64 2))⟩, ⟨some 3, none, .tk (.c (.bool true))⟩])
    (.ret)))) }

-- flotsam/tree.Right
def c_tree_Right : AFunc :=
  { np := 1, res := [.t 2], body := (
    .seq (.reg [⟨some 1, none, .box (.t 0)⟩, ⟨some 2, none, .tk (.c (.bool false))⟩])
    (.seq (.seq (.reg [⟨some 6, none, .fa 0 (.t 1)⟩, ⟨some 7, none, .ld none (.t 6)⟩, ⟨some 8, none, .len false (.t 7)⟩, ⟨some 9, none, .ic .gtr (.t 8) (.c (.int .i64 16))⟩, ⟨some 10, none, .mv (.t 9)⟩, ⟨some 11, (some (10, false)), .fa 3 (.t 1)⟩, ⟨some 12, (some (10, false)), .ld none (.t 11)⟩, ⟨some 13, (some (10, false)), .len false (.t 12)⟩, ⟨some 14, (some (10, false)), .ic .gtr (.t 13) (.c (.int .i64 16))⟩, ⟨some 15, none, .pick (.t 10) (.c (.bool true)) (.t 14)⟩, ⟨some 16, none, .mv (.t 15)⟩, ⟨some 17, (some (16, false)), .ld (some 4) (.t 1)⟩, ⟨some 18, (some (16, false)), .callc n_tree_All [(.t 17)]⟩, ⟨some 19, (some (16, false)), .len false (.t 18)⟩, ⟨some 20, (some (16, false)), .ic .gtr (.t 19) (.c (.int .i64 256))⟩, ⟨some 21, none, .pick (.t 16) (.c (.bool true)) (.t 20)⟩])
      (.cond (.t 21)
        (.seq (.reg [⟨some 2, none, .tk (.c (.bool false))⟩])
          (.ret))
        (.skip)))
    (.seq (.reg [⟨some 3, none, .tk (.c (.fn (.func n_tree_Right_1) [] []))⟩])
    (.seq (.reg [⟨some 4, none, .tk (.c (.fn (.func n_tree_Right_2) [] []))⟩])
    (.seq (.reg [⟨some 5, none, .tk (.c (.fn (.func n_tree_Right_3) [] []))⟩])
    (.seq (.reg [⟨some 22, none, .fa 0 (.t 1)⟩, ⟨some 23, none, .ld none (.t 22)⟩, ⟨some 24, none, .mv (.t 3)⟩, ⟨some 25, none, .call n_slices_ContainsFunc_api_Proc_api_Proc [(.t 23), (.t 24)]⟩, ⟨some 26, none, .notb (.t 25)⟩, ⟨some 27, none, .mv (.t 26)⟩, ⟨some 28, (some (27, true)), .fa 3 (.t 1)⟩, ⟨some 29, (some (27, true)), .ld none (.t 28)⟩, ⟨some 30, (some (27, true)), .mv (.t 4)⟩, ⟨some 31, (some (27, true)), .call n_slices_ContainsFunc_api_Oracle_api_Oracle [(.t 29), (.t 30)]⟩, ⟨some 32, (some (27, true)), .notb (.t 31)⟩, ⟨some 33, none, .pick (.t 27) (.t 32) (.c (.bool false))⟩, ⟨some 34, none, .mv (.t 33)⟩, ⟨some 35, (some (34, true)), .ld (some 4) (.t 1)⟩, ⟨some 36, (some (34, true)), .callc n_tree_parts [(.t 35)]⟩, ⟨some 37, (some (34, true)), .mv (.t 5)⟩, ⟨some 38, (some (34, true)), .call n_slices_ContainsFunc_api_Stmt_api_Stmt [(.t 36), (.t 37)]⟩, ⟨some 39, (some (34, true)), .notb (.t 38)⟩, ⟨some 40, none, .pick (.t 34) (.t 39) (.c (.bool false))⟩, ⟨some 2, none, .tk (.t 40)⟩])
    (.ret))))))) }

-- flotsam/tree.each[flotsam/api.Proc]
def b_tree_each_api_Proc_0 : AC :=
  .seq (.reg [⟨some 11, none, .ic .lss (.t 10) (.t 9)⟩])
  (.seq (.cond (.t 11)
      (.skip)
      (.exit 0))
  (.seq (.block 1 (.seq (.reg [⟨some 12, none, .ixa 2 none (.t 8) (.t 10)⟩, ⟨some 13, none, .ld (some 2) (.t 12)⟩, ⟨some 7, none, .alloc [.str [], .own 7 []]⟩, ⟨none, none, .st 2 (.t 7) (.t 13)⟩])
      (.reg [⟨some 14, none, .tk (.t 5)⟩, ⟨some 15, none, .mv (.t 1)⟩, ⟨some 16, none, .ld (some 2) (.t 7)⟩, ⟨some 17, none, .callv (.t 15) [(.t 16)]⟩, ⟨some 18, none, .bsl 2 [.str [], .sl 7 []] 1 [(0, 2, (.t 17))] false⟩, ⟨some 19, none, .app 2 40 (.t 14) (.t 18) false⟩, ⟨some 5, none, .tk (.t 19)⟩])))
  (.reg [⟨some 20, none, .ia .add .i64 (.t 10) (.c (.int .i64 1))⟩, ⟨some 10, none, .mv (.t 20)⟩])))

def l_tree_each_api_Proc_0 : AC :=
  .loop [1, 5, 8, 9, 10] b_tree_each_api_Proc_0

def r_tree_each_api_Proc_0 : AC :=
  .seq (.reg [⟨some 21, none, .tk (.t 5)⟩, ⟨some 4, none, .tk (.t 21)⟩])
  (.ret)

def c_tree_each_api_Proc : AFunc :=
  { np := 2, res := [.t 4], body := (
    .seq (.reg [⟨some 4, none, .tk (.c (.own 2 []))⟩])
    (.seq (.reg [⟨some 5, none, .tk (.c (.own 2 []))⟩])
    (.seq (.seq (.reg [⟨some 8, none, .mv (.t 0)⟩, ⟨some 9, none, .len false (.t 8)⟩, ⟨some 10, none, .mv (.c (.int .i64 0))⟩])
      (.block 0 (l_tree_each_api_Proc_0))) r_tree_each_api_Proc_0))) }

-- flotsam/tree.Clone$1
def c_tree_Clone_1 : AFunc :=
  { np := 1, res := [.cell 2 (some 2)], body := (
    .seq (.reg [⟨some 1, none, .box (.t 0)⟩, ⟨some 2, none, .alloc [.str [], .own 7 []]⟩])
    (.seq (.drw [[], [], [], [], [], [], []] [⟨some 3, none, .fa 0 (.t 1)⟩, ⟨some 4, none, .ld none (.t 3)⟩, ⟨some 5, none, .fa 1 (.t 1)⟩, ⟨some 6, none, .ld none (.t 5)⟩, ⟨some 7, none, .callc n_tree_each_api_Stmt [(.t 6), (.c (.fn (.func n_tree_cloned) [] []))]⟩, ⟨some 8, none, .bld [.str [], .sl 7 []] [(0, 1, (.t 4)), (1, 1, (.t 7))]⟩, ⟨none, none, .st 2 (.t 2) (.t 8)⟩])
    (.ret))) }

-- flotsam/tree.each[flotsam/api.Stmt]
def b_tree_each_api_Stmt_0 : AC :=
  .seq (.reg [⟨some 11, none, .ic .lss (.t 10) (.t 9)⟩])
  (.seq (.cond (.t 11)
      (.skip)
      (.exit 0))
  (.seq (.block 1 (.seq (.reg [⟨some 12, none, .ixa 7 none (.t 8) (.t 10)⟩, ⟨some 13, none, .ld (some 7) (.t 12)⟩, ⟨some 7, none, .alloc [.int .i64 0, .str [], .int .i64 0, .own 4 [], .own 7 [], .own 7 [], .bool false]⟩, ⟨none, none, .st 7 (.t 7) (.t 13)⟩])
      (.reg [⟨some 14, none, .tk (.t 5)⟩, ⟨some 15, none, .mv (.t 1)⟩, ⟨some 16, none, .ld (some 7) (.t 7)⟩, ⟨some 17, none, .callv (.t 15) [(.t 16)]⟩, ⟨some 18, none, .bsl 7 [.int .i64 0, .str [], .int .i64 0, .sl 4 [], .sl 7 [], .sl 7 [], .bool false] 1 [(0, 7, (.t 17))] false⟩, ⟨some 19, none, .app 7 112 (.t 14) (.t 18) false⟩, ⟨some 5, none, .tk (.t 19)⟩])))
  (.reg [⟨some 20, none, .ia .add .i64 (.t 10) (.c (.int .i64 1))⟩, ⟨some 10, none, .mv (.t 20)⟩])))

def l_tree_each_api_Stmt_0 : AC :=
  .loop [1, 5, 8, 9, 10] b_tree_each_api_Stmt_0

def r_tree_each_api_Stmt_0 : AC :=
  .seq (.reg [⟨some 21, none, .tk (.t 5)⟩, ⟨some 4, none, .tk (.t 21)⟩])
  (.ret)

def c_tree_each_api_Stmt : AFunc :=
  { np := 2, res := [.t 4], body := (
    .seq (.reg [⟨some 4, none, .tk (.c (.own 7 []))⟩])
    (.seq (.reg [⟨some 5, none, .tk (.c (.own 7 []))⟩])
    (.seq (.seq (.reg [⟨some 8, none, .mv (.t 0)⟩, ⟨some 9, none, .len false (.t 8)⟩, ⟨some 10, none, .mv (.c (.int .i64 0))⟩])
      (.block 0 (l_tree_each_api_Stmt_0))) r_tree_each_api_Stmt_0))) }

-- flotsam/tree.cloned
def c_tree_cloned : AFunc :=
  { np := 1, res := [.cell 2 (some 7)], body := (
    .seq (.reg [⟨some 1, none, .box (.t 0)⟩, ⟨some 2, none, .alloc [.int .i64 0, .str [], .int .i64 0, .own 4 [], .own 7 [], .own 7 [], .bool false]⟩])
    (.seq (.reg [⟨some 3, none, .fa 3 (.t 1)⟩, ⟨some 4, none, .ld none (.t 3)⟩, ⟨some 5, none, .callc n_tree_each_api_Expr [(.t 4), (.c (.fn (.func n_tree_clonedExpr) [] []))]⟩, ⟨some 6, none, .fa 3 (.t 1)⟩, ⟨none, none, .st 1 (.t 6) (.t 5)⟩])
    (.seq (.reg [⟨some 7, none, .fa 4 (.t 1)⟩, ⟨some 8, none, .ld none (.t 7)⟩, ⟨some 9, none, .callc n_tree_each_api_Stmt [(.t 8), (.c (.fn (.func n_tree_cloned) [] []))]⟩, ⟨some 10, none, .fa 4 (.t 1)⟩, ⟨none, none, .st 1 (.t 10) (.t 9)⟩])
    (.seq (.reg [⟨some 11, none, .fa 5 (.t 1)⟩, ⟨some 12, none, .ld none (.t 11)⟩, ⟨some 13, none, .callc n_tree_each_api_Stmt [(.t 12), (.c (.fn (.func n_tree_cloned) [] []))]⟩, ⟨some 14, none, .fa 5 (.t 1)⟩, ⟨none, none, .st 1 (.t 14) (.t 13)⟩])
    (.seq (.reg [⟨some 15, none, .ld (some 7) (.t 1)⟩, ⟨none, none, .st 7 (.t 2) (.t 15)⟩])
    (.ret)))))) }

-- flotsam/tree.each[flotsam/api.Oracle]
def b_tree_each_api_Oracle_0 : AC :=
  .seq (.reg [⟨some 11, none, .ic .lss (.t 10) (.t 9)⟩])
  (.seq (.cond (.t 11)
      (.skip)
      (.exit 0))
  (.seq (.block 1 (.seq (.reg [⟨some 12, none, .ixa 5 none (.t 8) (.t 10)⟩, ⟨some 13, none, .ld (some 5) (.t 12)⟩, ⟨some 7, none, .alloc [.str [], .int .i64 0, .int .i64 0, .str [], .own 4 []]⟩, ⟨none, none, .st 5 (.t 7) (.t 13)⟩])
      (.reg [⟨some 14, none, .tk (.t 5)⟩, ⟨some 15, none, .mv (.t 1)⟩, ⟨some 16, none, .ld (some 5) (.t 7)⟩, ⟨some 17, none, .callv (.t 15) [(.t 16)]⟩, ⟨some 18, none, .bsl 5 [.str [], .int .i64 0, .int .i64 0, .str [], .sl 4 []] 1 [(0, 5, (.t 17))] false⟩, ⟨some 19, none, .app 5 72 (.t 14) (.t 18) false⟩, ⟨some 5, none, .tk (.t 19)⟩])))
  (.reg [⟨some 20, none, .ia .add .i64 (.t 10) (.c (.int .i64 1))⟩, ⟨some 10, none, .mv (.t 20)⟩])))

def l_tree_each_api_Oracle_0 : AC :=
  .loop [1, 5, 8, 9, 10] b_tree_each_api_Oracle_0

def r_tree_each_api_Oracle_0 : AC :=
  .seq (.reg [⟨some 21, none, .tk (.t 5)⟩, ⟨some 4, none, .tk (.t 21)⟩])
  (.ret)

def c_tree_each_api_Oracle : AFunc :=
  { np := 2, res := [.t 4], body := (
    .seq (.reg [⟨some 4, none, .tk (.c (.own 5 []))⟩])
    (.seq (.reg [⟨some 5, none, .tk (.c (.own 5 []))⟩])
    (.seq (.seq (.reg [⟨some 8, none, .mv (.t 0)⟩, ⟨some 9, none, .len false (.t 8)⟩, ⟨some 10, none, .mv (.c (.int .i64 0))⟩])
      (.block 0 (l_tree_each_api_Oracle_0))) r_tree_each_api_Oracle_0))) }

-- flotsam/tree.Clone$2
def c_tree_Clone_2 : AFunc :=
  { np := 1, res := [.cell 2 (some 5)], body := (
    .seq (.reg [⟨some 1, none, .box (.t 0)⟩, ⟨some 2, none, .alloc [.str [], .int .i64 0, .int .i64 0, .str [], .own 4 []]⟩])
    (.seq (.drw [[], [], [], [], [], [], []] [⟨some 3, none, .fa 0 (.t 1)⟩, ⟨some 4, none, .ld none (.t 3)⟩, ⟨some 5, none, .fa 1 (.t 1)⟩, ⟨some 6, none, .ld (some 4) (.t 5)⟩, ⟨some 7, none, .callc n_tree_clonedExpr [(.t 6)]⟩, ⟨some 8, none, .bld [.str [], .int .i64 0, .int .i64 0, .str [], .sl 4 []] [(0, 1, (.t 4)), (1, 4, (.t 7))]⟩, ⟨none, none, .st 5 (.t 2) (.t 8)⟩])
    (.ret))) }

-- flotsam/tree.clonedExpr
def c_tree_clonedExpr : AFunc :=
  { np := 1, res := [.cell 2 (some 4)], body := (
    .seq (.reg [⟨some 1, none, .box (.t 0)⟩, ⟨some 2, none, .alloc [.int .i64 0, .int .i64 0, .str [], .own 4 []]⟩])
    (.seq (.reg [⟨some 3, none, .fa 3 (.t 1)⟩, ⟨some 4, none, .ld none (.t 3)⟩, ⟨some 5, none, .callc n_tree_each_api_Expr [(.t 4), (.c (.fn (.func n_tree_clonedExpr) [] []))]⟩, ⟨some 6, none, .fa 3 (.t 1)⟩, ⟨none, none, .st 1 (.t 6) (.t 5)⟩])
    (.seq (.reg [⟨some 7, none, .ld (some 4) (.t 1)⟩, ⟨none, none, .st 4 (.t 2) (.t 7)⟩])
    (.ret)))) }

-- flotsam/flotsamref16.CopyStmts
def b_flotsamref16_CopyStmts_0 : AC :=
  .seq (.seq (.reg [⟨some 18, none, .mv (.t 7)⟩, ⟨some 19, none, .fa 3 (.t 5)⟩, ⟨some 20, none, .ld none (.t 19)⟩, ⟨some 21, none, .len false (.t 20)⟩, ⟨some 22, none, .ic .lss (.t 18) (.t 21)⟩])
    (.cond (.t 22)
      (.skip)
      (.exit 2)))
  (.seq (.block 3 (.reg [⟨some 25, none, .tk (.t 6)⟩, ⟨some 26, none, .fa 3 (.t 5)⟩, ⟨some 27, none, .ld none (.t 26)⟩, ⟨some 28, none, .mv (.t 7)⟩, ⟨some 29, none, .ixa 4 none (.t 27) (.t 28)⟩, ⟨some 30, none, .ld (some 4) (.t 29)⟩, ⟨some 31, none, .callc n_flotsamref16_CopyExpr [(.t 30)]⟩, ⟨some 32, none, .bsl 4 [.int .i64 0, .int .i64 0, .str [], .sl 4 []] 1 [(0, 4, (.t 31))] false⟩, ⟨some 33, none, .app 4 56 (.t 25) (.t 32) false⟩, ⟨some 6, none, .tk (.t 33)⟩]))
  (.reg [⟨some 23, none, .mv (.t 7)⟩, ⟨some 24, none, .ia .add .i64 (.t 23) (.c (.int .i64 1))⟩, ⟨some 7, none, .tk (.t 24)⟩]))

def l_flotsamref16_CopyStmts_0 : AC :=
  .loop [0, 3, 4, 5, 6, 7] b_flotsamref16_CopyStmts_0

def r_flotsamref16_CopyStmts_0 : AC :=
  .seq (.reg [⟨some 34, none, .tk (.t 6)⟩, ⟨some 35, none, .fa 3 (.t 5)⟩, ⟨none, none, .st 1 (.t 35) (.t 34)⟩])
  (.seq (.reg [⟨some 36, none, .fa 4 (.t 5)⟩, ⟨some 37, none, .ld none (.t 36)⟩, ⟨some 38, none, .callc n_flotsamref16_CopyStmts [(.t 37)]⟩, ⟨some 39, none, .fa 4 (.t 5)⟩, ⟨none, none, .st 1 (.t 39) (.t 38)⟩])
  (.seq (.reg [⟨some 40, none, .fa 5 (.t 5)⟩, ⟨some 41, none, .ld none (.t 40)⟩, ⟨some 42, none, .callc n_flotsamref16_CopyStmts [(.t 41)]⟩, ⟨some 43, none, .fa 5 (.t 5)⟩, ⟨none, none, .st 1 (.t 43) (.t 42)⟩])
  (.reg [⟨some 44, none, .tk (.t 3)⟩, ⟨some 45, none, .ld (some 7) (.t 5)⟩, ⟨some 46, none, .bsl 7 [.int .i64 0, .str [], .int .i64 0, .sl 4 [], .sl 7 [], .sl 7 [], .bool false] 1 [(0, 7, (.t 45))] false⟩, ⟨some 47, none, .app 7 112 (.t 44) (.t 46) false⟩, ⟨some 3, none, .tk (.t 47)⟩])))

def r_flotsamref16_CopyStmts_1 : AC :=
  .reg [⟨some 12, none, .mv (.t 4)⟩, ⟨some 13, none, .ia .add .i64 (.t 12) (.c (.int .i64 1))⟩, ⟨some 4, none, .tk (.t 13)⟩]

def b_flotsamref16_CopyStmts_1 : AC :=
  .seq (.seq (.reg [⟨some 8, none, .mv (.t 4)⟩, ⟨some 9, none, .mv (.t 0)⟩, ⟨some 10, none, .len false (.t 9)⟩, ⟨some 11, none, .ic .lss (.t 8) (.t 10)⟩])
    (.cond (.t 11)
      (.skip)
      (.exit 0)))
  (.seq (.block 1 (.seq (.reg [⟨some 14, none, .mv (.t 0)⟩, ⟨some 15, none, .mv (.t 4)⟩, ⟨some 16, none, .ixa 7 none (.t 14) (.t 15)⟩, ⟨some 17, none, .ld (some 7) (.t 16)⟩, ⟨some 5, none, .alloc [.int .i64 0, .str [], .int .i64 0, .own 4 [], .own 7 [], .own 7 [], .bool false]⟩, ⟨none, none, .st 7 (.t 5) (.t 17)⟩])
      (.seq (.reg [⟨some 6, none, .tk (.c (.own 4 []))⟩])
      (.seq (.seq (.reg [⟨some 7, none, .tk (.c (.int .i64 0))⟩])
        (.block 2 (l_flotsamref16_CopyStmts_0))) r_flotsamref16_CopyStmts_0)))) r_flotsamref16_CopyStmts_1)

def l_flotsamref16_CopyStmts_1 : AC :=
  .loop [0, 3, 4] b_flotsamref16_CopyStmts_1

def r_flotsamref16_CopyStmts_2 : AC :=
  .seq (.reg [⟨some 48, none, .tk (.t 3)⟩, ⟨some 2, none, .tk (.t 48)⟩])
  (.ret)

def c_flotsamref16_CopyStmts : AFunc :=
  { np := 1, res := [.t 2], body := (
    .seq (.reg [⟨some 2, none, .tk (.c (.own 7 []))⟩])
    (.seq (.reg [⟨some 3, none, .tk (.c (.own 7 []))⟩])
    (.seq (.seq (.reg [⟨some 4, none, .tk (.c (.int .i64 0))⟩])
      (.block 0 (l_flotsamref16_CopyStmts_1))) r_flotsamref16_CopyStmts_2))) }

-- flotsam/flotsamref16.CopyExpr
def b_flotsamref16_CopyExpr_0 : AC :=
  .seq (.seq (.reg [⟨some 5, none, .mv (.t 4)⟩, ⟨some 6, none, .fa 3 (.t 1)⟩, ⟨some 7, none, .ld none (.t 6)⟩, ⟨some 8, none, .len false (.t 7)⟩, ⟨some 9, none, .ic .lss (.t 5) (.t 8)⟩])
    (.cond (.t 9)
      (.skip)
      (.exit 0)))
  (.seq (.block 1 (.reg [⟨some 12, none, .tk (.t 3)⟩, ⟨some 13, none, .fa 3 (.t 1)⟩, ⟨some 14, none, .ld none (.t 13)⟩, ⟨some 15, none, .mv (.t 4)⟩, ⟨some 16, none, .ixa 4 none (.t 14) (.t 15)⟩, ⟨some 17, none, .ld (some 4) (.t 16)⟩, ⟨some 18, none, .callc n_flotsamref16_CopyExpr [(.t 17)]⟩, ⟨some 19, none, .bsl 4 [.int .i64 0, .int .i64 0, .str [], .sl 4 []] 1 [(0, 4, (.t 18))] false⟩, ⟨some 20, none, .app 4 56 (.t 12) (.t 19) false⟩, ⟨some 3, none, .tk (.t 20)⟩]))
  (.reg [⟨some 10, none, .mv (.t 4)⟩, ⟨some 11, none, .ia .add .i64 (.t 10) (.c (.int .i64 1))⟩, ⟨some 4, none, .tk (.t 11)⟩]))

def l_flotsamref16_CopyExpr_0 : AC :=
  .loop [1, 2, 3, 4] b_flotsamref16_CopyExpr_0

def r_flotsamref16_CopyExpr_0 : AC :=
  .seq (.reg [⟨some 21, none, .tk (.t 3)⟩, ⟨some 22, none, .fa 3 (.t 1)⟩, ⟨none, none, .st 1 (.t 22) (.t 21)⟩])
  (.seq (.reg [⟨some 23, none, .ld (some 4) (.t 1)⟩, ⟨none, none, .st 4 (.t 2) (.t 23)⟩])
  (.ret))

def c_flotsamref16_CopyExpr : AFunc :=
  { np := 1, res := [.cell 2 (some 4)], body := (
    .seq (.reg [⟨some 1, none, .box (.t 0)⟩, ⟨some 2, none, .alloc [.int .i64 0, .int .i64 0, .str [], .own 4 []]⟩])
    (.seq (.reg [⟨some 3, none, .tk (.c (.own 4 []))⟩])
    (.seq (.seq (.reg [⟨some 4, none, .tk (.c (.int .i64 0))⟩])
      (.block 0 (l_flotsamref16_CopyExpr_0))) r_flotsamref16_CopyExpr_0))) }

-- flotsam/tree.Same$1
def c_tree_Same_1 : AFunc :=
  { np := 2, res := [.t 4], body := (
    .seq (.reg [⟨some 2, none, .box (.t 0)⟩, ⟨some 3, none, .box (.t 1)⟩, ⟨some 4, none, .tk (.c (.bool false))⟩])
    (.seq (.reg [⟨some 5, none, .fa 0 (.t 2)⟩, ⟨some 6, none, .ld none (.t 5)⟩, ⟨some 7, none, .fa 0 (.t 3)⟩, ⟨some 8, none, .ld none (.t 7)⟩, ⟨some 9, none, .sop .eql (.t 6) (.t 8)⟩, ⟨some 10, none, .mv (.t 9)⟩, ⟨some 11, (some (10, true)), .fa 1 (.t 2)⟩, ⟨some 12, (some (10, true)), .ld none (.t 11)⟩, ⟨some 13, (some (10, true)), .fa 1 (.t 3)⟩, ⟨some 14, (some (10, true)), .ld none (.t 13)⟩, ⟨some 15, (some (10, true)), .callc n_tree_lists_api_Stmt [(.t 12), (.t 14), (.c (.fn (.func n_tree_statements) [] []))]⟩, ⟨some 16, none, .pick (.t 10) (.t 15) (.c (.bool false))⟩, ⟨some 4, none, .tk (.t 16)⟩])
    (.ret))) }

-- flotsam/tree.lists[flotsam/api.Stmt]
def c_tree_lists_api_Stmt : AFunc :=
  { np := 3, res := [.t 6], body := (
    .seq (.reg [⟨some 6, none, .tk (.c (.bool false))⟩])
    (.seq (.reg [⟨some 7, none, .mv (.t 0)⟩, ⟨some 8, none, .len false (.t 7)⟩, ⟨some 9, none, .mv (.t 1)⟩, ⟨some 10, none, .len false (.t 9)⟩, ⟨some 11, none, .ic .eql (.t 8) (.t 10)⟩, ⟨some 12, none, .mv (.t 11)⟩, ⟨some 13, (some (12, true)), .mv (.t 0)⟩, ⟨some 14, (some (12, true)), .mv (.t 1)⟩, ⟨some 15, (some (12, true)), .mv (.t 2)⟩, ⟨some 16, (some (12, true)), .call n_slices_EqualFunc_api_Stmt_api_Stmt_api_Stmt_api_Stmt [(.t 13), (.t 14), (.t 15)]⟩, ⟨some 17, none, .pick (.t 12) (.t 16) (.c (.bool false))⟩, ⟨some 6, none, .tk (.t 17)⟩])
    (.ret))) }

-- flotsam/tree.statements
def c_tree_statements : AFunc :=
  { np := 2, res := [.t 4], body := (
    .seq (.reg [⟨some 2, none, .box (.t 0)⟩, ⟨some 3, none, .box (.t 1)⟩, ⟨some 4, none, .tk (.c (.bool false))⟩])
    (.seq (.reg [⟨some 5, none, .fa 0 (.t 2)⟩, ⟨some 6, none, .ld none (.t 5)⟩, ⟨some 7, none, .fa 0 (.t 3)⟩, ⟨some 8, none, .ld none (.t 7)⟩, ⟨some 9, none, .ic .eql (.t 6) (.t 8)⟩, ⟨some 10, none, .mv (.t 9)⟩, ⟨some 11, (some (10, true)), .fa 2 (.t 2)⟩, ⟨some 12, (some (10, true)), .ld none (.t 11)⟩, ⟨some 13, (some (10, true)), .fa 2 (.t 3)⟩, ⟨some 14, (some (10, true)), .ld none (.t 13)⟩, ⟨some 15, (some (10, true)), .ic .eql (.t 12) (.t 14)⟩, ⟨some 16, none, .pick (.t 10) (.t 15) (.c (.bool false))⟩, ⟨some 17, none, .mv (.t 16)⟩, ⟨some 18, (some (17, true)), .fa 1 (.t 2)⟩, ⟨some 19, (some (17, true)), .ld none (.t 18)⟩, ⟨some 20, (some (17, true)), .fa 1 (.t 3)⟩, ⟨some 21, (some (17, true)), .ld none (.t 20)⟩, ⟨some 22, (some (17, true)), .sop .eql (.t 19) (.t 21)⟩, ⟨some 23, none, .pick (.t 17) (.t 22) (.c (.bool false))⟩, ⟨some 24, none, .mv (.t 23)⟩, ⟨some 25, (some (24, true)), .fa 6 (.t 2)⟩, ⟨some 26, (some (24, true)), .ld none (.t 25)⟩, ⟨some 27, (some (24, true)), .fa 6 (.t 3)⟩, ⟨some 28, (some (24, true)), .ld none (.t 27)⟩, ⟨some 29, (some (24, true)), .eqb false (.t 26) (.t 28)⟩, ⟨some 30, none, .pick (.t 24) (.t 29) (.c (.bool false))⟩, ⟨some 31, none, .mv (.t 30)⟩, ⟨some 32, (some (31, true)), .fa 3 (.t 2)⟩, ⟨some 33, (some (31, true)), .ld none (.t 32)⟩, ⟨some 34, (some (31, true)), .fa 3 (.t 3)⟩, ⟨some 35, (some (31, true)), .ld none (.t 34)⟩, ⟨some 36, (some (31, true)), .callc n_slices_EqualFunc_api_Expr_api_Expr_api_Expr_api_Expr [(.t 33), (.t 35), (.c (.fn (.func n_tree_expressions) [] []))]⟩, ⟨some 37, none, .pick (.t 31) (.t 36) (.c (.bool false))⟩, ⟨some 38, none, .mv (.t 37)⟩, ⟨some 39, (some (38, true)), .fa 4 (.t 2)⟩, ⟨some 40, (some (38, true)), .ld none (.t 39)⟩, ⟨some 41, (some (38, true)), .fa 4 (.t 3)⟩, ⟨some 42, (some (38, true)), .ld none (.t 41)⟩, ⟨some 43, (some (38, true)), .callc n_tree_lists_api_Stmt [(.t 40), (.t 42), (.c (.fn (.func n_tree_statements) [] []))]⟩, ⟨some 44, none, .pick (.t 38) (.t 43) (.c (.bool false))⟩, ⟨some 45, none, .mv (.t 44)⟩, ⟨some 46, (some (45, true)), .fa 5 (.t 2)⟩, ⟨some 47, (some (45, true)), .ld none (.t 46)⟩, ⟨some 48, (some (45, true)), .fa 5 (.t 3)⟩, ⟨some 49, (some (45, true)), .ld none (.t 48)⟩, ⟨some 50, (some (45, true)), .callc n_tree_lists_api_Stmt [(.t 47), (.t 49), (.c (.fn (.func n_tree_statements) [] []))]⟩, ⟨some 51, none, .pick (.t 45) (.t 50) (.c (.bool false))⟩, ⟨some 4, none, .tk (.t 51)⟩])
    (.ret))) }

-- flotsam/tree.Same$2
def c_tree_Same_2 : AFunc :=
  { np := 2, res := [.t 4], body := (
    .seq (.reg [⟨some 2, none, .box (.t 0)⟩, ⟨some 3, none, .box (.t 1)⟩, ⟨some 4, none, .tk (.c (.bool false))⟩])
    (.seq (.reg [⟨some 5, none, .fa 0 (.t 2)⟩, ⟨some 6, none, .ld none (.t 5)⟩, ⟨some 7, none, .fa 0 (.t 3)⟩, ⟨some 8, none, .ld none (.t 7)⟩, ⟨some 9, none, .sop .eql (.t 6) (.t 8)⟩, ⟨some 10, none, .mv (.t 9)⟩, ⟨some 11, (some (10, true)), .fa 1 (.t 2)⟩, ⟨some 12, (some (10, true)), .ld (some 4) (.t 11)⟩, ⟨some 13, (some (10, true)), .fa 1 (.t 3)⟩, ⟨some 14, (some (10, true)), .ld (some 4) (.t 13)⟩, ⟨some 15, (some (10, true)), .callc n_tree_expressions [(.t 12), (.t 14)]⟩, ⟨some 16, none, .pick (.t 10) (.t 15) (.c (.bool false))⟩, ⟨some 4, none, .tk (.t 16)⟩])
    (.ret))) }

-- flotsam/tree.expressions
def c_tree_expressions : AFunc :=
  { np := 2, res := [.t 4], body := (
    .seq (.reg [⟨some 2, none, .box (.t 0)⟩, ⟨some 3, none, .box (.t 1)⟩, ⟨some 4, none, .tk (.c (.bool false))⟩])
    (.seq (.reg [⟨some 5, none, .fa 0 (.t 2)⟩, ⟨some 6, none, .ld none (.t 5)⟩, ⟨some 7, none, .fa 0 (.t 3)⟩, ⟨some 8, none, .ld none (.t 7)⟩, ⟨some 9, none, .ic .eql (.t 6) (.t 8)⟩, ⟨some 10, none, .mv (.t 9)⟩, ⟨some 11, (some (10, true)), .fa 1 (.t 2)⟩, ⟨some 12, (some (10, true)), .ld none (.t 11)⟩, ⟨some 13, (some (10, true)), .fa 1 (.t 3)⟩, ⟨some 14, (some (10, true)), .ld none (.t 13)⟩, ⟨some 15, (some (10, true)), .ic .eql (.t 12) (.t 14)⟩, ⟨some 16, none, .pick (.t 10) (.t 15) (.c (.bool false))⟩, ⟨some 17, none, .mv (.t 16)⟩, ⟨some 18, (some (17, true)), .fa 2 (.t 2)⟩, ⟨some 19, (some (17, true)), .ld none (.t 18)⟩, ⟨some 20, (some (17, true)), .fa 2 (.t 3)⟩, ⟨some 21, (some (17, true)), .ld none (.t 20)⟩, ⟨some 22, (some (17, true)), .sop .eql (.t 19) (.t 21)⟩, ⟨some 23, none, .pick (.t 17) (.t 22) (.c (.bool false))⟩, ⟨some 24, none, .mv (.t 23)⟩, ⟨some 25, (some (24, true)), .fa 3 (.t 2)⟩, ⟨some 26, (some (24, true)), .ld none (.t 25)⟩, ⟨some 27, (some (24, true)), .fa 3 (.t 3)⟩, ⟨some 28, (some (24, true)), .ld none (.t 27)⟩, ⟨some 29, (some (24, true)), .callc n_slices_EqualFunc_api_Expr_api_Expr_api_Expr_api_Expr [(.t 26), (.t 28), (.c (.fn (.func n_tree_expressions) [] []))]⟩, ⟨some 30, none, .pick (.t 24) (.t 29) (.c (.bool false))⟩, ⟨some 4, none, .tk (.t 30)⟩])
    (.ret))) }

-- flotsam/tree.lists[flotsam/api.Proc]
def c_tree_lists_api_Proc : AFunc :=
  { np := 3, res := [.t 6], body := (
    .seq (.reg [⟨some 6, none, .tk (.c (.bool false))⟩])
    (.seq (.reg [⟨some 7, none, .mv (.t 0)⟩, ⟨some 8, none, .len false (.t 7)⟩, ⟨some 9, none, .mv (.t 1)⟩, ⟨some 10, none, .len false (.t 9)⟩, ⟨some 11, none, .ic .eql (.t 8) (.t 10)⟩, ⟨some 12, none, .mv (.t 11)⟩, ⟨some 13, (some (12, true)), .mv (.t 0)⟩, ⟨some 14, (some (12, true)), .mv (.t 1)⟩, ⟨some 15, (some (12, true)), .mv (.t 2)⟩, ⟨some 16, (some (12, true)), .call n_slices_EqualFunc_api_Proc_api_Proc_api_Proc_api_Proc [(.t 13), (.t 14), (.t 15)]⟩, ⟨some 17, none, .pick (.t 12) (.t 16) (.c (.bool false))⟩, ⟨some 6, none, .tk (.t 17)⟩])
    (.ret))) }

-- flotsam/tree.lists[flotsam/api.Oracle]
def c_tree_lists_api_Oracle : AFunc :=
  { np := 3, res := [.t 6], body := (
    .seq (.reg [⟨some 6, none, .tk (.c (.bool false))⟩])
    (.seq (.reg [⟨some 7, none, .mv (.t 0)⟩, ⟨some 8, none, .len false (.t 7)⟩, ⟨some 9, none, .mv (.t 1)⟩, ⟨some 10, none, .len false (.t 9)⟩, ⟨some 11, none, .ic .eql (.t 8) (.t 10)⟩, ⟨some 12, none, .mv (.t 11)⟩, ⟨some 13, (some (12, true)), .mv (.t 0)⟩, ⟨some 14, (some (12, true)), .mv (.t 1)⟩, ⟨some 15, (some (12, true)), .mv (.t 2)⟩, ⟨some 16, (some (12, true)), .call n_slices_EqualFunc_api_Oracle_api_Oracle_api_Oracle_api_Oracle [(.t 13), (.t 14), (.t 15)]⟩, ⟨some 17, none, .pick (.t 12) (.t 16) (.c (.bool false))⟩, ⟨some 6, none, .tk (.t 17)⟩])
    (.ret))) }

-- flotsam/flotsamref16.SameExpr
def b_flotsamref16_SameExpr_0 : AC :=
  .seq (.seq (.reg [⟨some 34, none, .mv (.t 5)⟩, ⟨some 35, none, .fa 3 (.t 2)⟩, ⟨some 36, none, .ld none (.t 35)⟩, ⟨some 37, none, .len false (.t 36)⟩, ⟨some 38, none, .ic .lss (.t 34) (.t 37)⟩])
    (.cond (.t 38)
      (.skip)
      (.exit 0)))
  (.seq (.block 1 (.seq (.drw [[], [], [], [], [], [], [], [], [], [], [], []] [⟨some 41, none, .fa 3 (.t 2)⟩, ⟨some 42, none, .ld none (.t 41)⟩, ⟨some 43, none, .mv (.t 5)⟩, ⟨some 44, none, .ixa 4 none (.t 42) (.t 43)⟩, ⟨some 45, none, .ld (some 4) (.t 44)⟩, ⟨some 46, none, .fa 3 (.t 3)⟩, ⟨some 47, none, .ld none (.t 46)⟩, ⟨some 48, none, .mv (.t 5)⟩, ⟨some 49, none, .ixa 4 none (.t 47) (.t 48)⟩, ⟨some 50, none, .ld (some 4) (.t 49)⟩, ⟨some 51, none, .callc n_flotsamref16_SameExpr [(.t 45), (.t 50)]⟩, ⟨some 52, none, .notb (.t 51)⟩])
      (.cond (.t 52)
        (.seq (.reg [⟨some 4, none, .tk (.c (.bool false))⟩])
          (.ret))
        (.skip))))
  (.reg [⟨some 39, none, .mv (.t 5)⟩, ⟨some 40, none, .ia .add .i64 (.t 39) (.c (.int .i64 1))⟩, ⟨some 5, none, .tk (.t 40)⟩]))

def l_flotsamref16_SameExpr_0 : AC :=
  .loop [2, 3, 5] b_flotsamref16_SameExpr_0

def r_flotsamref16_SameExpr_0 : AC :=
  .seq (.reg [⟨some 4, none, .tk (.c (.bool true))⟩])
  (.ret)

def c_flotsamref16_SameExpr : AFunc :=
  { np := 2, res := [.t 4], body := (
    .seq (.reg [⟨some 2, none, .box (.t 0)⟩, ⟨some 3, none, .box (.t 1)⟩, ⟨some 4, none, .tk (.c (.bool false))⟩])
    (.seq (.seq (.reg [⟨some 6, none, .fa 0 (.t 2)⟩, ⟨some 7, none, .ld none (.t 6)⟩, ⟨some 8, none, .fa 0 (.t 3)⟩, ⟨some 9, none, .ld none (.t 8)⟩, ⟨some 10, none, .ic .neq (.t 7) (.t 9)⟩, ⟨some 11, none, .mv (.t 10)⟩, ⟨some 12, (some (11, false)), .fa 1 (.t 2)⟩, ⟨some 13, (some (11, false)), .ld none (.t 12)⟩, ⟨some 14, (some (11, false)), .fa 1 (.t 3)⟩, ⟨some 15, (some (11, false)), .ld none (.t 14)⟩, ⟨some 16, (some (11, false)), .ic .neq (.t 13) (.t 15)⟩, ⟨some 17, none, .pick (.t 11) (.c (.bool true)) (.t 16)⟩, ⟨some 18, none, .mv (.t 17)⟩, ⟨some 19, (some (18, false)), .fa 2 (.t 2)⟩, ⟨some 20, (some (18, false)), .ld none (.t 19)⟩, ⟨some 21, (some (18, false)), .fa 2 (.t 3)⟩, ⟨some 22, (some (18, false)), .ld none (.t 21)⟩, ⟨some 23, (some (18, false)), .sop .neq (.t 20) (.t 22)⟩, ⟨some 24, none, .pick (.t 18) (.c (.bool true)) (.t 23)⟩, ⟨some 25, none, .mv (.t 24)⟩, ⟨some 26, (some (25, false)), .fa 3 (.t 2)⟩, ⟨some 27, (some (25, false)), .ld none (.t 26)⟩, ⟨some 28, (some (25, false)), .len false (.t 27)⟩, ⟨some 29, (some (25, false)), .fa 3 (.t 3)⟩, ⟨some 30, (some (25, false)), .ld none (.t 29)⟩, ⟨some 31, (some (25, false)), .len false (.t 30)⟩, ⟨some 32, (some (25, false)), .ic .neq (.t 28) (.t 31)⟩, ⟨some 33, none, .pick (.t 25) (.c (.bool true)) (.t 32)⟩])
      (.cond (.t 33)
        (.seq (.reg [⟨some 4, none, .tk (.c (.bool false))⟩])
          (.ret))
        (.skip)))
    (.seq (.seq (.reg [⟨some 5, none, .tk (.c (.int .i64 0))⟩])
      (.block 0 (l_flotsamref16_SameExpr_0))) r_flotsamref16_SameExpr_0))) }

-- flotsam/tree.parts
def b_tree_parts_0 : AC :=
  .seq (.reg [⟨some 10, none, .ic .lss (.t 9) (.t 8)⟩])
  (.seq (.cond (.t 10)
      (.skip)
      (.exit 0))
  (.seq (.block 1 (.seq (.reg [⟨some 11, none, .ixa 2 none (.t 7) (.t 9)⟩, ⟨some 12, none, .ld (some 2) (.t 11)⟩, ⟨some 5, none, .alloc [.str [], .own 7 []]⟩, ⟨none, none, .st 2 (.t 5) (.t 12)⟩])
      (.reg [⟨some 13, none, .tk (.t 3)⟩, ⟨some 14, none, .fa 1 (.t 5)⟩, ⟨some 15, none, .ld none (.t 14)⟩, ⟨some 16, none, .bsl 1 [.sl 7 []] 1 [(0, 1, (.t 15))] false⟩, ⟨some 17, none, .app 1 24 (.t 13) (.t 16) false⟩, ⟨some 3, none, .tk (.t 17)⟩])))
  (.reg [⟨some 18, none, .ia .add .i64 (.t 9) (.c (.int .i64 1))⟩, ⟨some 9, none, .mv (.t 18)⟩])))

def l_tree_parts_0 : AC :=
  .loop [1, 3, 7, 8, 9] b_tree_parts_0

def r_tree_parts_0 : AC :=
  .seq (.reg [⟨some 19, none, .tk (.t 3)⟩, ⟨some 20, none, .fa 1 (.t 1)⟩, ⟨some 21, none, .ld none (.t 20)⟩, ⟨some 22, none, .fa 2 (.t 1)⟩, ⟨some 23, none, .ld none (.t 22)⟩, ⟨some 24, none, .bsl 1 [.sl 7 []] 2 [(0, 1, (.t 21)), (1, 1, (.t 23))] false⟩, ⟨some 25, none, .app 1 24 (.t 19) (.t 24) false⟩, ⟨some 2, none, .tk (.t 25)⟩])
  (.ret)

def c_tree_parts : AFunc :=
  { np := 1, res := [.t 2], body := (
    .seq (.reg [⟨some 1, none, .box (.t 0)⟩, ⟨some 2, none, .tk (.c (.own 1 []))⟩])
    (.seq (.reg [⟨some 3, none, .tk (.c (.own 1 []))⟩])
    (.seq (.seq (.reg [⟨some 6, none, .fa 0 (.t 1)⟩, ⟨some 7, none, .ld none (.t 6)⟩, ⟨some 8, none, .len false (.t 7)⟩, ⟨some 9, none, .mv (.c (.int .i64 0))⟩])
      (.block 0 (l_tree_parts_0))) r_tree_parts_0))) }

-- flotsam/tree.walk
def c_tree_walk : AFunc :=
  { np := 1, res := [.t 2], body := (
    .seq (.reg [⟨some 1, none, .box (.t 0)⟩, ⟨some 2, none, .tk (.c (.nilf))⟩])
    (.seq (.reg [⟨some 3, none, .mkf (.func n_tree_walk_1) [] [(.t 1)]⟩, ⟨some 2, none, .tk (.t 3)⟩])
    (.ret))) }

-- flotsam/flotsamref16.SameStmt
def b_flotsamref16_SameStmt_0 : AC :=
  .seq (.seq (.reg [⟨some 41, none, .mv (.t 5)⟩, ⟨some 42, none, .fa 3 (.t 2)⟩, ⟨some 43, none, .ld none (.t 42)⟩, ⟨some 44, none, .len false (.t 43)⟩, ⟨some 45, none, .ic .lss (.t 41) (.t 44)⟩])
    (.cond (.t 45)
      (.skip)
      (.exit 0)))
  (.seq (.block 1 (.seq (.drw [[], [], [], [], [], [], [], [], [], [], [], []] [⟨some 48, none, .fa 3 (.t 2)⟩, ⟨some 49, none, .ld none (.t 48)⟩, ⟨some 50, none, .mv (.t 5)⟩, ⟨some 51, none, .ixa 4 none (.t 49) (.t 50)⟩, ⟨some 52, none, .ld (some 4) (.t 51)⟩, ⟨some 53, none, .fa 3 (.t 3)⟩, ⟨some 54, none, .ld none (.t 53)⟩, ⟨some 55, none, .mv (.t 5)⟩, ⟨some 56, none, .ixa 4 none (.t 54) (.t 55)⟩, ⟨some 57, none, .ld (some 4) (.t 56)⟩, ⟨some 58, none, .callc n_flotsamref16_SameExpr [(.t 52), (.t 57)]⟩, ⟨some 59, none, .notb (.t 58)⟩])
      (.cond (.t 59)
        (.seq (.reg [⟨some 4, none, .tk (.c (.bool false))⟩])
          (.ret))
        (.skip))))
  (.reg [⟨some 46, none, .mv (.t 5)⟩, ⟨some 47, none, .ia .add .i64 (.t 46) (.c (.int .i64 1))⟩, ⟨some 5, none, .tk (.t 47)⟩]))

def l_flotsamref16_SameStmt_0 : AC :=
  .loop [2, 3, 5] b_flotsamref16_SameStmt_0

def r_flotsamref16_SameStmt_0 : AC :=
  .seq (.reg [⟨some 60, none, .fa 4 (.t 2)⟩, ⟨some 61, none, .ld none (.t 60)⟩, ⟨some 62, none, .fa 4 (.t 3)⟩, ⟨some 63, none, .ld none (.t 62)⟩, ⟨some 64, none, .callc n_flotsamref16_SameStmts [(.t 61), (.t 63)]⟩, ⟨some 65, none, .mv (.t 64)⟩, ⟨some 66, (some (65, true)), .fa 5 (.t 2)⟩, ⟨some 67, (some (65, true)), .ld none (.t 66)⟩, ⟨some 68, (some (65, true)), .fa 5 (.t 3)⟩, ⟨some 69, (some (65, true)), .ld none (.t 68)⟩, ⟨some 70, (some (65, true)), .callc n_flotsamref16_SameStmts [(.t 67), (.t 69)]⟩, ⟨some 71, none, .pick (.t 65) (.t 70) (.c (.bool false))⟩, ⟨some 4, none, .tk (.t 71)⟩])
  (.ret)

def c_flotsamref16_SameStmt : AFunc :=
  { np := 2, res := [.t 4], body := (
    .seq (.reg [⟨some 2, none, .box (.t 0)⟩, ⟨some 3, none, .box (.t 1)⟩, ⟨some 4, none, .tk (.c (.bool false))⟩])
    (.seq (.seq (.reg [⟨some 6, none, .fa 0 (.t 2)⟩, ⟨some 7, none, .ld none (.t 6)⟩, ⟨some 8, none, .fa 0 (.t 3)⟩, ⟨some 9, none, .ld none (.t 8)⟩, ⟨some 10, none, .ic .neq (.t 7) (.t 9)⟩, ⟨some 11, none, .mv (.t 10)⟩, ⟨some 12, (some (11, false)), .fa 1 (.t 2)⟩, ⟨some 13, (some (11, false)), .ld none (.t 12)⟩, ⟨some 14, (some (11, false)), .fa 1 (.t 3)⟩, ⟨some 15, (some (11, false)), .ld none (.t 14)⟩, ⟨some 16, (some (11, false)), .sop .neq (.t 13) (.t 15)⟩, ⟨some 17, none, .pick (.t 11) (.c (.bool true)) (.t 16)⟩, ⟨some 18, none, .mv (.t 17)⟩, ⟨some 19, (some (18, false)), .fa 2 (.t 2)⟩, ⟨some 20, (some (18, false)), .ld none (.t 19)⟩, ⟨some 21, (some (18, false)), .fa 2 (.t 3)⟩, ⟨some 22, (some (18, false)), .ld none (.t 21)⟩, ⟨some 23, (some (18, false)), .ic .neq (.t 20) (.t 22)⟩, ⟨some 24, none, .pick (.t 18) (.c (.bool true)) (.t 23)⟩, ⟨some 25, none, .mv (.t 24)⟩, ⟨some 26, (some (25, false)), .fa 6 (.t 2)⟩, ⟨some 27, (some (25, false)), .ld none (.t 26)⟩, ⟨some 28, (some (25, false)), .fa 6 (.t 3)⟩, ⟨some 29, (some (25, false)), .ld none (.t 28)⟩, ⟨some 30, (some (25, false)), .eqb true (.t 27) (.t 29)⟩, ⟨some 31, none, .pick (.t 25) (.c (.bool true)) (.t 30)⟩, ⟨some 32, none, .mv (.t 31)⟩, ⟨some 33, (some (32, false)), .fa 3 (.t 2)⟩, ⟨some 34, (some (32, false)), .ld none (.t 33)⟩, ⟨some 35, (some (32, false)), .len false (.t 34)⟩, ⟨some 36, (some (32, false)), .fa 3 (.t 3)⟩, ⟨some 37, (some (32, false)), .ld none (.t 36)⟩, ⟨some 38, (some (32, false)), .len false (.t 37)⟩, ⟨some 39, (some (32, false)), .ic .neq (.t 35) (.t 38)⟩, ⟨some 40, none, .pick (.t 32) (.c (.bool true)) (.t 39)⟩])
      (.cond (.t 40)
        (.seq (.reg [⟨some 4, none, .tk (.c (.bool false))⟩])
          (.ret))
        (.skip)))
    (.seq (.seq (.reg [⟨some 5, none, .tk (.c (.int .i64 0))⟩])
      (.block 0 (l_flotsamref16_SameStmt_0))) r_flotsamref16_SameStmt_0))) }

-- flotsam/flotsamref16.block
def b_flotsamref16_block_0 : AC :=
  .seq (.seq (.reg [⟨some 30, none, .mv (.t 7)⟩, ⟨some 31, none, .mv (.t 0)⟩, ⟨some 32, none, .mv (.t 6)⟩, ⟨some 33, none, .ixa 7 none (.t 31) (.t 32)⟩, ⟨some 34, none, .fa 3 (.t 33)⟩, ⟨some 35, none, .ld none (.t 34)⟩, ⟨some 36, none, .len false (.t 35)⟩, ⟨some 37, none, .ic .lss (.t 30) (.t 36)⟩])
    (.cond (.t 37)
      (.skip)
      (.exit 2)))
  (.seq (.block 3 (.seq (.reg [⟨some 40, none, .mv (.t 5)⟩, ⟨some 41, none, .mv (.t 0)⟩, ⟨some 42, none, .mv (.t 6)⟩, ⟨some 43, none, .ixa 7 none (.t 41) (.t 42)⟩, ⟨some 44, none, .fa 3 (.t 43)⟩, ⟨some 45, none, .ld none (.t 44)⟩, ⟨some 46, none, .mv (.t 7)⟩, ⟨some 47, none, .ixa 4 none (.t 45) (.t 46)⟩, ⟨some 48, none, .ld (some 4) (.t 47)⟩, ⟨some 49, none, .mv (.t 1)⟩, ⟨some 50, none, .mv (.t 5)⟩, ⟨some 51, none, .ia .sub .i64 (.t 49) (.t 50)⟩, ⟨some 52, none, .callc n_flotsamref16_expr [(.t 48), (.t 51)]⟩, ⟨some 53, none, .ia .add .i64 (.t 40) (.t 52)⟩, ⟨some 5, none, .tk (.t 53)⟩])
      (.seq (.reg [⟨some 54, none, .mv (.t 5)⟩, ⟨some 55, none, .mv (.t 1)⟩, ⟨some 56, none, .ic .gtr (.t 54) (.t 55)⟩])
      (.cond (.t 56)
        (.seq (.reg [⟨some 57, none, .mv (.t 1)⟩, ⟨some 58, none, .ia .add .i64 (.t 57) (.c (.int .i64 1))⟩, ⟨some 4, none, .tk (.t 58)⟩])
          (.ret))
        (.skip)))))
  (.reg [⟨some 38, none, .mv (.t 7)⟩, ⟨some 39, none, .ia .add .i64 (.t 38) (.c (.int .i64 1))⟩, ⟨some 7, none, .tk (.t 39)⟩]))

def l_flotsamref16_block_0 : AC :=
  .loop [0, 1, 5, 6, 7] b_flotsamref16_block_0

def r_flotsamref16_block_0 : AC :=
  .seq (.reg [⟨some 59, none, .mv (.t 5)⟩, ⟨some 60, none, .mv (.t 0)⟩, ⟨some 61, none, .mv (.t 6)⟩, ⟨some 62, none, .ixa 7 none (.t 60) (.t 61)⟩, ⟨some 63, none, .fa 4 (.t 62)⟩, ⟨some 64, none, .ld none (.t 63)⟩, ⟨some 65, none, .mv (.t 1)⟩, ⟨some 66, none, .mv (.t 5)⟩, ⟨some 67, none, .ia .sub .i64 (.t 65) (.t 66)⟩, ⟨some 68, none, .callc n_flotsamref16_block [(.t 64), (.t 67)]⟩, ⟨some 69, none, .ia .add .i64 (.t 59) (.t 68)⟩, ⟨some 5, none, .tk (.t 69)⟩])
  (.seq (.seq (.reg [⟨some 70, none, .mv (.t 5)⟩, ⟨some 71, none, .mv (.t 1)⟩, ⟨some 72, none, .ic .gtr (.t 70) (.t 71)⟩])
    (.cond (.t 72)
      (.seq (.reg [⟨some 73, none, .mv (.t 1)⟩, ⟨some 74, none, .ia .add .i64 (.t 73) (.c (.int .i64 1))⟩, ⟨some 4, none, .tk (.t 74)⟩])
        (.ret))
      (.skip)))
  (.seq (.reg [⟨some 75, none, .mv (.t 5)⟩, ⟨some 76, none, .mv (.t 0)⟩, ⟨some 77, none, .mv (.t 6)⟩, ⟨some 78, none, .ixa 7 none (.t 76) (.t 77)⟩, ⟨some 79, none, .fa 5 (.t 78)⟩, ⟨some 80, none, .ld none (.t 79)⟩, ⟨some 81, none, .mv (.t 1)⟩, ⟨some 82, none, .mv (.t 5)⟩, ⟨some 83, none, .ia .sub .i64 (.t 81) (.t 82)⟩, ⟨some 84, none, .callc n_flotsamref16_block [(.t 80), (.t 83)]⟩, ⟨some 85, none, .ia .add .i64 (.t 75) (.t 84)⟩, ⟨some 5, none, .tk (.t 85)⟩])
  (.seq (.reg [⟨some 86, none, .mv (.t 5)⟩, ⟨some 87, none, .mv (.t 1)⟩, ⟨some 88, none, .ic .gtr (.t 86) (.t 87)⟩])
  (.cond (.t 88)
    (.seq (.reg [⟨some 89, none, .mv (.t 1)⟩, ⟨some 90, none, .ia .add .i64 (.t 89) (.c (.int .i64 1))⟩, ⟨some 4, none, .tk (.t 90)⟩])
      (.ret))
    (.skip)))))

def r_flotsamref16_block_1 : AC :=
  .reg [⟨some 12, none, .mv (.t 6)⟩, ⟨some 13, none, .ia .add .i64 (.t 12) (.c (.int .i64 1))⟩, ⟨some 6, none, .tk (.t 13)⟩]

def b_flotsamref16_block_1 : AC :=
  .seq (.seq (.reg [⟨some 8, none, .mv (.t 6)⟩, ⟨some 9, none, .mv (.t 0)⟩, ⟨some 10, none, .len false (.t 9)⟩, ⟨some 11, none, .ic .lss (.t 8) (.t 10)⟩])
    (.cond (.t 11)
      (.skip)
      (.exit 0)))
  (.seq (.block 1 (.seq (.reg [⟨some 14, none, .mv (.t 5)⟩, ⟨some 15, none, .ia .add .i64 (.t 14) (.c (.int .i64 1))⟩, ⟨some 5, none, .tk (.t 15)⟩])
      (.seq (.seq (.reg [⟨some 16, none, .mv (.t 5)⟩, ⟨some 17, none, .mv (.t 1)⟩, ⟨some 18, none, .ic .gtr (.t 16) (.t 17)⟩, ⟨some 19, none, .mv (.t 18)⟩, ⟨some 20, (some (19, false)), .mv (.t 0)⟩, ⟨some 21, (some (19, false)), .mv (.t 6)⟩, ⟨some 22, (some (19, false)), .ixa 7 none (.t 20) (.t 21)⟩, ⟨some 23, (some (19, false)), .fa 1 (.t 22)⟩, ⟨some 24, (some (19, false)), .ld none (.t 23)⟩, ⟨some 25, (some (19, false)), .len true (.t 24)⟩, ⟨some 26, (some (19, false)), .ic .gtr (.t 25) (.c (.int .i64 300))⟩, ⟨some 27, none, .pick (.t 19) (.c (.bool true)) (.t 26)⟩])
        (.cond (.t 27)
          (.seq (.reg [⟨some 28, none, .mv (.t 1)⟩, ⟨some 29, none, .ia .add .i64 (.t 28) (.c (.int .i64 1))⟩, ⟨some 4, none, .tk (.t 29)⟩])
            (.ret))
          (.skip)))
      (.seq (.seq (.reg [⟨some 7, none, .tk (.c (.int .i64 0))⟩])
        (.block 2 (l_flotsamref16_block_0))) r_flotsamref16_block_0)))) r_flotsamref16_block_1)

def l_flotsamref16_block_1 : AC :=
  .loop [0, 1, 5, 6] b_flotsamref16_block_1

def r_flotsamref16_block_2 : AC :=
  .seq (.reg [⟨some 91, none, .mv (.t 5)⟩, ⟨some 4, none, .tk (.t 91)⟩])
  (.ret)

def c_flotsamref16_block : AFunc :=
  { np := 2, res := [.t 4], body := (
    .seq (.reg [⟨some 4, none, .tk (.c (.int .i64 0))⟩])
    (.seq (.reg [⟨some 5, none, .tk (.c (.int .i64 0))⟩])
    (.seq (.seq (.reg [⟨some 6, none, .tk (.c (.int .i64 0))⟩])
      (.block 0 (l_flotsamref16_block_1))) r_flotsamref16_block_2))) }

-- flotsam/flotsamref16.expr
def b_flotsamref16_expr_0 : AC :=
  .seq (.seq (.reg [⟨some 17, none, .mv (.t 6)⟩, ⟨some 18, none, .fa 3 (.t 2)⟩, ⟨some 19, none, .ld none (.t 18)⟩, ⟨some 20, none, .len false (.t 19)⟩, ⟨some 21, none, .ic .lss (.t 17) (.t 20)⟩])
    (.cond (.t 21)
      (.skip)
      (.exit 0)))
  (.seq (.block 1 (.seq (.reg [⟨some 24, none, .mv (.t 5)⟩, ⟨some 25, none, .fa 3 (.t 2)⟩, ⟨some 26, none, .ld none (.t 25)⟩, ⟨some 27, none, .mv (.t 6)⟩, ⟨some 28, none, .ixa 4 none (.t 26) (.t 27)⟩, ⟨some 29, none, .ld (some 4) (.t 28)⟩, ⟨some 30, none, .mv (.t 1)⟩, ⟨some 31, none, .mv (.t 5)⟩, ⟨some 32, none, .ia .sub .i64 (.t 30) (.t 31)⟩, ⟨some 33, none, .callc n_flotsamref16_expr [(.t 29), (.t 32)]⟩, ⟨some 34, none, .ia .add .i64 (.t 24) (.t 33)⟩, ⟨some 5, none, .tk (.t 34)⟩])
      (.seq (.reg [⟨some 35, none, .mv (.t 5)⟩, ⟨some 36, none, .mv (.t 1)⟩, ⟨some 37, none, .ic .gtr (.t 35) (.t 36)⟩])
      (.cond (.t 37)
        (.seq (.reg [⟨some 38, none, .mv (.t 1)⟩, ⟨some 39, none, .ia .add .i64 (.t 38) (.c (.int .i64 1))⟩, ⟨some 4, none, .tk (.t 39)⟩])
          (.ret))
        (.skip)))))
  (.reg [⟨some 22, none, .mv (.t 6)⟩, ⟨some 23, none, .ia .add .i64 (.t 22) (.c (.int .i64 1))⟩, ⟨some 6, none, .tk (.t 23)⟩]))

def l_flotsamref16_expr_0 : AC :=
  .loop [1, 2, 5, 6] b_flotsamref16_expr_0

def r_flotsamref16_expr_0 : AC :=
  .seq (.reg [⟨some 40, none, .mv (.t 5)⟩, ⟨some 4, none, .tk (.t 40)⟩])
  (.ret)

def c_flotsamref16_expr : AFunc :=
  { np := 2, res := [.t 4], body := (
    .seq (.reg [⟨some 2, none, .box (.t 0)⟩, ⟨some 4, none, .tk (.c (.int .i64 0))⟩])
    (.seq (.seq (.reg [⟨some 7, none, .mv (.t 1)⟩, ⟨some 8, none, .ic .lss (.t 7) (.c (.int .i64 1))⟩, ⟨some 9, none, .mv (.t 8)⟩, ⟨some 10, (some (9, false)), .fa 2 (.t 2)⟩, ⟨some 11, (some (9, false)), .ld none (.t 10)⟩, ⟨some 12, (some (9, false)), .len true (.t 11)⟩, ⟨some 13, (some (9, false)), .ic .gtr (.t 12) (.c (.int .i64 300))⟩, ⟨some 14, none, .pick (.t 9) (.c (.bool true)) (.t 13)⟩])
      (.cond (.t 14)
        (.seq (.reg [⟨some 15, none, .mv (.t 1)⟩, ⟨some 16, none, .ia .add .i64 (.t 15) (.c (.int .i64 1))⟩, ⟨some 4, none, .tk (.t 16)⟩])
          (.ret))
        (.skip)))
    (.seq (.reg [⟨some 5, none, .tk (.c (.int .i64 1))⟩])
    (.seq (.seq (.reg [⟨some 6, none, .tk (.c (.int .i64 0))⟩])
      (.block 0 (l_flotsamref16_expr_0))) r_flotsamref16_expr_0)))) }

-- flotsam/tree.Right$1
def c_tree_Right_1 : AFunc :=
  { np := 1, res := [.t 2], body := (
    .seq (.reg [⟨some 1, none, .box (.t 0)⟩, ⟨some 2, none, .tk (.c (.bool false))⟩])
    (.seq (.reg [⟨some 3, none, .fa 0 (.t 1)⟩, ⟨some 4, none, .ld none (.t 3)⟩, ⟨some 5, none, .callc n_lex_Name [(.t 4)]⟩, ⟨some 6, none, .notb (.t 5)⟩, ⟨some 2, none, .tk (.t 6)⟩])
    (.ret))) }

-- flotsam/lex.Name
def c_lex_Name : AFunc :=
  { np := 1, res := [.t 2], body := (
    .seq (.reg [⟨some 2, none, .tk (.c (.bool false))⟩])
    (.seq (.reg [⟨some 3, none, .mv (.t 0)⟩, ⟨some 4, none, .callc n_lex_begins [(.t 3), (.c (.fn (.func n_lex_letter) [] []))]⟩, ⟨some 5, none, .mv (.t 4)⟩, ⟨some 6, (some (5, true)), .mv (.t 0)⟩, ⟨some 7, (some (5, true)), .len true (.t 6)⟩, ⟨some 8, (some (5, true)), .ic .leq (.t 7) (.c (.int .i64 8))⟩, ⟨some 9, none, .pick (.t 5) (.t 8) (.c (.bool false))⟩, ⟨some 10, none, .mv (.t 9)⟩, ⟨some 11, (some (10, true)), .mv (.t 0)⟩, ⟨some 12, (some (10, true)), .callc n_lex_run [(.t 11), (.c (.fn (.func n_lex_inner) [] []))]⟩, ⟨some 13, (some (10, true)), .mv (.t 0)⟩, ⟨some 14, (some (10, true)), .sop .eql (.t 12) (.t 13)⟩, ⟨some 15, none, .pick (.t 10) (.t 14) (.c (.bool false))⟩, ⟨some 16, none, .mv (.t 15)⟩, ⟨some 17, (some (16, true)), .mv (.t 0)⟩, ⟨some 18, (some (16, true)), .callc n_lex_Key [(.t 17)]⟩, ⟨some 19, (some (16, true)), .notb (.t 18)⟩, ⟨some 20, none, .pick (.t 16) (.t 19) (.c (.bool false))⟩, ⟨some 2, none, .tk (.t 20)⟩])
    (.ret))) }

-- flotsam/tree.Right$2
def c_tree_Right_2 : AFunc :=
  { np := 1, res := [.t 2], body := (
    .seq (.reg [⟨some 1, none, .box (.t 0)⟩, ⟨some 2, none, .tk (.c (.bool false))⟩])
    (.seq (.reg [⟨some 3, none, .fa 0 (.t 1)⟩, ⟨some 4, none, .ld none (.t 3)⟩, ⟨some 5, none, .callc n_lex_Name [(.t 4)]⟩, ⟨some 6, none, .notb (.t 5)⟩, ⟨some 7, none, .mv (.t 6)⟩, ⟨some 8, (some (7, false)), .fa 1 (.t 1)⟩, ⟨some 9, (some (7, false)), .ld (some 4) (.t 8)⟩, ⟨some 10, (some (7, false)), .callc n_tree_expr [(.t 9), (.c (.int .i64 8))]⟩, ⟨some 11, (some (7, false)), .notb (.t 10)⟩, ⟨some 12, none, .pick (.t 7) (.c (.bool true)) (.t 11)⟩, ⟨some 2, none, .tk (.t 12)⟩])
    (.ret))) }

-- flotsam/tree.expr
def c_tree_expr : AFunc :=
  { np := 2, res := [.t 4], body := (
    .seq (.reg [⟨some 2, none, .box (.t 0)⟩, ⟨some 3, none, .box (.t 1)⟩, ⟨some 4, none, .tk (.c (.bool false))⟩])
    (.seq (.reg [⟨some 9, none, .fa 0 (.t 2)⟩, ⟨some 10, none, .ld none (.t 9)⟩, ⟨some 11, none, .callc n_tree_Parts [(.t 10)]⟩, ⟨some 8, none, .mv (.t 11)⟩, ⟨some 12, none, .ext (.t 8) 0⟩, ⟨some 13, none, .ext (.t 8) 1⟩, ⟨some 5, none, .tk (.t 12)⟩, ⟨some 6, none, .tk (.t 13)⟩])
    (.seq (.seq (.reg [⟨some 14, none, .mv (.t 6)⟩, ⟨some 15, none, .notb (.t 14)⟩, ⟨some 16, none, .mv (.t 15)⟩, ⟨some 17, (some (16, false)), .ld none (.t 3)⟩, ⟨some 18, (some (16, false)), .ic .eql (.t 17) (.c (.int .i64 0))⟩, ⟨some 19, none, .pick (.t 16) (.c (.bool true)) (.t 18)⟩, ⟨some 20, none, .mv (.t 19)⟩, ⟨some 21, (some (20, false)), .fa 3 (.t 2)⟩, ⟨some 22, (some (20, false)), .ld none (.t 21)⟩, ⟨some 23, (some (20, false)), .len false (.t 22)⟩, ⟨some 24, (some (20, false)), .mv (.t 5)⟩, ⟨some 25, (some (20, false)), .ic .neq (.t 23) (.t 24)⟩, ⟨some 26, none, .pick (.t 20) (.c (.bool true)) (.t 25)⟩])
      (.cond (.t 26)
        (.seq (.reg [⟨some 4, none, .tk (.c (.bool false))⟩])
          (.ret))
        (.skip)))
    (.seq (.seq (.reg [⟨some 27, none, .fa 0 (.t 2)⟩, ⟨some 28, none, .ld none (.t 27)⟩, ⟨some 29, none, .fa 1 (.t 2)⟩, ⟨some 30, none, .ld none (.t 29)⟩, ⟨some 31, none, .fa 2 (.t 2)⟩, ⟨some 32, none, .ld none (.t 31)⟩, ⟨some 33, none, .bld [.int .i64 0, .int .i64 0, .str [], .sl 4 []] [(0, 1, (.t 28)), (1, 1, (.t 30)), (2, 1, (.t 32))]⟩, ⟨some 7, none, .alloc [.int .i64 0, .int .i64 0, .str [], .own 4 []]⟩, ⟨none, none, .st 4 (.t 7) (.t 33)⟩])
      (.seq (.reg [⟨some 34, none, .fa 0 (.t 7)⟩, ⟨some 35, none, .ld none (.t 34)⟩])
      (.block 0 (.seq (.reg [⟨some 45, none, .ic .eql (.t 35) (.c (.int .i64 1))⟩, ⟨some 44, none, .tk (.t 45)⟩])
        (.cond (.t 44)
          (.reg [⟨some 46, none, .fa 1 (.t 7)⟩, ⟨some 47, none, .ld none (.t 46)⟩, ⟨some 48, none, .ic .geq (.t 47) (.c (.int .i64 0))⟩, ⟨some 49, none, .mv (.t 48)⟩, ⟨some 50, (some (49, true)), .fa 1 (.t 7)⟩, ⟨some 51, (some (49, true)), .ld none (.t 50)⟩, ⟨some 52, (some (49, true)), .ic .leq (.t 51) (.c (.int .i64 1000000000000))⟩, ⟨some 53, none, .pick (.t 49) (.t 52) (.c (.bool false))⟩, ⟨some 54, none, .mv (.t 53)⟩, ⟨some 55, (some (54, true)), .fa 2 (.t 7)⟩, ⟨some 56, (some (54, true)), .ld none (.t 55)⟩, ⟨some 57, (some (54, true)), .sop .eql (.t 56) (.c (.str []))⟩, ⟨some 58, none, .pick (.t 54) (.t 57) (.c (.bool false))⟩, ⟨some 6, none, .tk (.t 58)⟩])
          (.seq (.reg [⟨some 60, none, .ic .eql (.t 35) (.c (.int .i64 3))⟩, ⟨some 59, none, .tk (.t 60)⟩])
            (.cond (.t 59)
              (.reg [⟨some 61, none, .fa 1 (.t 7)⟩, ⟨some 62, none, .ld none (.t 61)⟩, ⟨some 63, none, .ia .shr .i64 (.t 62) (.c (.int .u64 1))⟩, ⟨some 64, none, .ic .eql (.t 63) (.c (.int .i64 0))⟩, ⟨some 65, none, .mv (.t 64)⟩, ⟨some 66, (some (65, true)), .fa 2 (.t 7)⟩, ⟨some 67, (some (65, true)), .ld none (.t 66)⟩, ⟨some 68, (some (65, true)), .sop .eql (.t 67) (.c (.str []))⟩, ⟨some 69, none, .pick (.t 65) (.t 68) (.c (.bool false))⟩, ⟨some 6, none, .tk (.t 69)⟩])
              (.seq (.reg [⟨some 71, none, .ic .eql (.t 35) (.c (.int .i64 2))⟩, ⟨some 70, none, .tk (.t 71)⟩])
                (.cond (.t 70)
                  (.reg [⟨some 72, none, .fa 2 (.t 7)⟩, ⟨some 73, none, .ld none (.t 72)⟩, ⟨some 74, none, .len true (.t 73)⟩, ⟨some 75, none, .ic .leq (.t 74) (.c (.int .i64 64))⟩, ⟨some 76, none, .mv (.t 75)⟩, ⟨some 77, (some (76, true)), .fa 1 (.t 7)⟩, ⟨some 78, (some (76, true)), .ld none (.t 77)⟩, ⟨some 79, (some (76, true)), .ic .eql (.t 78) (.c (.int .i64 0))⟩, ⟨some 80, none, .pick (.t 76) (.t 79) (.c (.bool false))⟩, ⟨some 6, none, .tk (.t 80)⟩])
                  (.seq (.reg [⟨some 82, none, .ic .eql (.t 35) (.c (.int .i64 4))⟩, ⟨some 81, none, .tk (.t 82)⟩])
                    (.cond (.t 81)
                      (.reg [⟨some 83, none, .fa 2 (.t 7)⟩, ⟨some 84, none, .ld none (.t 83)⟩, ⟨some 85, none, .callc n_lex_Name [(.t 84)]⟩, ⟨some 86, none, .mv (.t 85)⟩, ⟨some 87, (some (86, true)), .fa 1 (.t 7)⟩, ⟨some 88, (some (86, true)), .ld none (.t 87)⟩, ⟨some 89, (some (86, true)), .ic .eql (.t 88) (.c (.int .i64 0))⟩, ⟨some 90, none, .pick (.t 86) (.t 89) (.c (.bool false))⟩, ⟨some 6, none, .tk (.t 90)⟩])
                      (.reg [⟨some 36, none, .fa 2 (.t 7)⟩, ⟨some 37, none, .ld none (.t 36)⟩, ⟨some 38, none, .sop .eql (.t 37) (.c (.str []))⟩, ⟨some 39, none, .mv (.t 38)⟩, ⟨some 40, (some (39, true)), .fa 1 (.t 7)⟩, ⟨some 41, (some (39, true)), .ld none (.t 40)⟩, ⟨some 42, (some (39, true)), .ic .eql (.t 41) (.c (.int .i64 0))⟩, ⟨some 43, none, .pick (.t 39) (.t 42) (.c (.bool false))⟩, ⟨some 6, none, .tk (.t 43)⟩]))))))))))))
    (.seq (.reg [⟨some 91, none, .mv (.t 6)⟩, ⟨some 92, none, .mv (.t 91)⟩, ⟨some 93, (some (92, true)), .fa 3 (.t 2)⟩, ⟨some 94, (some (92, true)), .ld none (.t 93)⟩, ⟨some 95, (some (92, true)), .mkf (.func n_tree_expr_1) [] [(.t 3)]⟩, ⟨some 96, (some (92, true)), .call n_slices_ContainsFunc_api_Expr_api_Expr [(.t 94), (.t 95)]⟩, ⟨some 97, (some (92, true)), .notb (.t 96)⟩, ⟨some 98, none, .pick (.t 92) (.t 97) (.c (.bool false))⟩, ⟨some 4, none, .tk (.t 98)⟩])
    (.ret)))))) }

-- flotsam/tree.Right$3
def c_tree_Right_3 : AFunc :=
  { np := 1, res := [.t 2], body := (
    .seq (.reg [⟨some 2, none, .tk (.c (.bool false))⟩])
    (.seq (.reg [⟨some 3, none, .mv (.t 0)⟩, ⟨some 4, none, .callc n_tree_block [(.t 3), (.c (.int .i64 1))]⟩, ⟨some 5, none, .notb (.t 4)⟩, ⟨some 2, none, .tk (.t 5)⟩])
    (.ret))) }

-- flotsam/tree.block
def c_tree_block : AFunc :=
  { np := 2, res := [.t 4], body := (
    .seq (.reg [⟨some 3, none, .box (.t 1)⟩, ⟨some 4, none, .tk (.c (.bool false))⟩])
    (.seq (.reg [⟨some 5, none, .mv (.t 0)⟩, ⟨some 6, none, .mkf (.func n_tree_block_1) [] [(.t 3)]⟩, ⟨some 7, none, .call n_slices_ContainsFunc_api_Stmt_api_Stmt_x [(.t 5), (.t 6)]⟩, ⟨some 8, none, .notb (.t 7)⟩, ⟨some 4, none, .tk (.t 8)⟩])
    (.ret))) }

-- slices.ContainsFunc[[]flotsam/api.Proc,flotsam/api.Proc]
def c_slices_ContainsFunc_api_Proc_api_Proc : AFunc :=
  { np := 2, res := [.t 4], body := (
    .seq (.reg [⟨some 4, none, .tk (.c (.bool false))⟩])
    (.seq (.reg [⟨some 5, none, .mv (.t 0)⟩, ⟨some 6, none, .mv (.t 1)⟩, ⟨some 7, none, .call n_slices_IndexFunc_api_Proc_api_Proc [(.t 5), (.t 6)]⟩, ⟨some 8, none, .ic .geq (.t 7) (.c (.int .i64 0))⟩, ⟨some 4, none, .tk (.t 8)⟩])
    (.ret))) }

-- slices.ContainsFunc[[]flotsam/api.Oracle,flotsam/api.Oracle]
def c_slices_ContainsFunc_api_Oracle_api_Oracle : AFunc :=
  { np := 2, res := [.t 4], body := (
    .seq (.reg [⟨some 4, none, .tk (.c (.bool false))⟩])
    (.seq (.reg [⟨some 5, none, .mv (.t 0)⟩, ⟨some 6, none, .mv (.t 1)⟩, ⟨some 7, none, .call n_slices_IndexFunc_api_Oracle_api_Oracle [(.t 5), (.t 6)]⟩, ⟨some 8, none, .ic .geq (.t 7) (.c (.int .i64 0))⟩, ⟨some 4, none, .tk (.t 8)⟩])
    (.ret))) }

-- slices.ContainsFunc[[][]flotsam/api.Stmt,[]flotsam/api.Stmt]
def c_slices_ContainsFunc_api_Stmt_api_Stmt : AFunc :=
  { np := 2, res := [.t 4], body := (
    .seq (.reg [⟨some 4, none, .tk (.c (.bool false))⟩])
    (.seq (.reg [⟨some 5, none, .mv (.t 0)⟩, ⟨some 6, none, .mv (.t 1)⟩, ⟨some 7, none, .call n_slices_IndexFunc_api_Stmt_api_Stmt [(.t 5), (.t 6)]⟩, ⟨some 8, none, .ic .geq (.t 7) (.c (.int .i64 0))⟩, ⟨some 4, none, .tk (.t 8)⟩])
    (.ret))) }

-- flotsam/tree.each[flotsam/api.Expr]
def b_tree_each_api_Expr_0 : AC :=
  .seq (.reg [⟨some 11, none, .ic .lss (.t 10) (.t 9)⟩])
  (.seq (.cond (.t 11)
      (.skip)
      (.exit 0))
  (.seq (.block 1 (.seq (.reg [⟨some 12, none, .ixa 4 none (.t 8) (.t 10)⟩, ⟨some 13, none, .ld (some 4) (.t 12)⟩, ⟨some 7, none, .alloc [.int .i64 0, .int .i64 0, .str [], .own 4 []]⟩, ⟨none, none, .st 4 (.t 7) (.t 13)⟩])
      (.reg [⟨some 14, none, .tk (.t 5)⟩, ⟨some 15, none, .mv (.t 1)⟩, ⟨some 16, none, .ld (some 4) (.t 7)⟩, ⟨some 17, none, .callv (.t 15) [(.t 16)]⟩, ⟨some 18, none, .bsl 4 [.int .i64 0, .int .i64 0, .str [], .sl 4 []] 1 [(0, 4, (.t 17))] false⟩, ⟨some 19, none, .app 4 56 (.t 14) (.t 18) false⟩, ⟨some 5, none, .tk (.t 19)⟩])))
  (.reg [⟨some 20, none, .ia .add .i64 (.t 10) (.c (.int .i64 1))⟩, ⟨some 10, none, .mv (.t 20)⟩])))

def l_tree_each_api_Expr_0 : AC :=
  .loop [1, 5, 8, 9, 10] b_tree_each_api_Expr_0

def r_tree_each_api_Expr_0 : AC :=
  .seq (.reg [⟨some 21, none, .tk (.t 5)⟩, ⟨some 4, none, .tk (.t 21)⟩])
  (.ret)

def c_tree_each_api_Expr : AFunc :=
  { np := 2, res := [.t 4], body := (
    .seq (.reg [⟨some 4, none, .tk (.c (.own 4 []))⟩])
    (.seq (.reg [⟨some 5, none, .tk (.c (.own 4 []))⟩])
    (.seq (.seq (.reg [⟨some 8, none, .mv (.t 0)⟩, ⟨some 9, none, .len false (.t 8)⟩, ⟨some 10, none, .mv (.c (.int .i64 0))⟩])
      (.block 0 (l_tree_each_api_Expr_0))) r_tree_each_api_Expr_0))) }

-- slices.EqualFunc[[]flotsam/api.Stmt,[]flotsam/api.Stmt,flotsam/api.Stmt,flotsam/api.Stmt]
def b_slices_EqualFunc_api_Stmt_api_Stmt_api_Stmt_api_Stmt_0 : AC :=
  .seq (.reg [⟨some 18, none, .ic .lss (.t 17) (.t 16)⟩])
  (.seq (.cond (.t 18)
      (.skip)
      (.exit 0))
  (.seq (.block 1 (.seq (.reg [⟨some 19, none, .mv (.t 17)⟩, ⟨some 20, none, .ixa 7 none (.t 15) (.t 17)⟩, ⟨some 21, none, .ld (some 7) (.t 20)⟩, ⟨some 8, none, .alloc [.int .i64 0, .str [], .int .i64 0, .own 4 [], .own 7 [], .own 7 [], .bool false]⟩, ⟨some 7, none, .tk (.t 19)⟩, ⟨none, none, .st 7 (.t 8) (.t 21)⟩])
      (.seq (.reg [⟨some 22, none, .mv (.t 1)⟩, ⟨some 23, none, .mv (.t 7)⟩, ⟨some 24, none, .ixa 7 none (.t 22) (.t 23)⟩, ⟨some 25, none, .ld (some 7) (.t 24)⟩, ⟨some 9, none, .alloc [.int .i64 0, .str [], .int .i64 0, .own 4 [], .own 7 [], .own 7 [], .bool false]⟩, ⟨none, none, .st 7 (.t 9) (.t 25)⟩])
      (.seq (.reg [⟨some 26, none, .mv (.t 2)⟩, ⟨some 27, none, .ld (some 7) (.t 8)⟩, ⟨some 28, none, .ld (some 7) (.t 9)⟩, ⟨some 29, none, .callv (.t 26) [(.t 27), (.t 28)]⟩, ⟨some 30, none, .notb (.t 29)⟩])
      (.cond (.t 30)
        (.seq (.reg [⟨some 6, none, .tk (.c (.bool false))⟩])
          (.ret))
        (.skip))))))
  (.reg [⟨some 31, none, .ia .add .i64 (.t 17) (.c (.int .i64 1))⟩, ⟨some 17, none, .mv (.t 31)⟩])))

def l_slices_EqualFunc_api_Stmt_api_Stmt_api_Stmt_api_Stmt_0 : AC :=
  .loop [1, 2, 15, 16, 17] b_slices_EqualFunc_api_Stmt_api_Stmt_api_Stmt_api_Stmt_0

def r_slices_EqualFunc_api_Stmt_api_Stmt_api_Stmt_api_Stmt_0 : AC :=
  .seq (.reg [⟨some 6, none, .tk (.c (.bool true))⟩])
  (.ret)

def c_slices_EqualFunc_api_Stmt_api_Stmt_api_Stmt_api_Stmt : AFunc :=
  { np := 3, res := [.t 6], body := (
    .seq (.reg [⟨some 6, none, .tk (.c (.bool false))⟩])
    (.seq (.seq (.reg [⟨some 10, none, .mv (.t 0)⟩, ⟨some 11, none, .len false (.t 10)⟩, ⟨some 12, none, .mv (.t 1)⟩, ⟨some 13, none, .len false (.t 12)⟩, ⟨some 14, none, .ic .neq (.t 11) (.t 13)⟩])
      (.cond (.t 14)
        (.seq (.reg [⟨some 6, none, .tk (.c (.bool false))⟩])
          (.ret))
        (.skip)))
    (.seq (.seq (.reg [⟨some 15, none, .mv (.t 0)⟩, ⟨some 16, none, .len false (.t 15)⟩, ⟨some 17, none, .mv (.c (.int .i64 0))⟩])
      (.block 0 (l_slices_EqualFunc_api_Stmt_api_Stmt_api_Stmt_api_Stmt_0))) r_slices_EqualFunc_api_Stmt_api_Stmt_api_Stmt_api_Stmt_0))) }

-- slices.EqualFunc[[]flotsam/api.Expr,[]flotsam/api.Expr,flotsam/api.Expr,flotsam/api.Expr]
def b_slices_EqualFunc_api_Expr_api_Expr_api_Expr_api_Expr_0 : AC :=
  .seq (.reg [⟨some 18, none, .ic .lss (.t 17) (.t 16)⟩])
  (.seq (.cond (.t 18)
      (.skip)
      (.exit 0))
  (.seq (.block 1 (.seq (.reg [⟨some 19, none, .mv (.t 17)⟩, ⟨some 20, none, .ixa 4 none (.t 15) (.t 17)⟩, ⟨some 21, none, .ld (some 4) (.t 20)⟩, ⟨some 8, none, .alloc [.int .i64 0, .int .i64 0, .str [], .own 4 []]⟩, ⟨some 7, none, .tk (.t 19)⟩, ⟨none, none, .st 4 (.t 8) (.t 21)⟩])
      (.seq (.reg [⟨some 22, none, .mv (.t 1)⟩, ⟨some 23, none, .mv (.t 7)⟩, ⟨some 24, none, .ixa 4 none (.t 22) (.t 23)⟩, ⟨some 25, none, .ld (some 4) (.t 24)⟩, ⟨some 9, none, .alloc [.int .i64 0, .int .i64 0, .str [], .own 4 []]⟩, ⟨none, none, .st 4 (.t 9) (.t 25)⟩])
      (.seq (.reg [⟨some 26, none, .mv (.t 2)⟩, ⟨some 27, none, .ld (some 4) (.t 8)⟩, ⟨some 28, none, .ld (some 4) (.t 9)⟩, ⟨some 29, none, .callv (.t 26) [(.t 27), (.t 28)]⟩, ⟨some 30, none, .notb (.t 29)⟩])
      (.cond (.t 30)
        (.seq (.reg [⟨some 6, none, .tk (.c (.bool false))⟩])
          (.ret))
        (.skip))))))
  (.reg [⟨some 31, none, .ia .add .i64 (.t 17) (.c (.int .i64 1))⟩, ⟨some 17, none, .mv (.t 31)⟩])))

def l_slices_EqualFunc_api_Expr_api_Expr_api_Expr_api_Expr_0 : AC :=
  .loop [1, 2, 15, 16, 17] b_slices_EqualFunc_api_Expr_api_Expr_api_Expr_api_Expr_0

def r_slices_EqualFunc_api_Expr_api_Expr_api_Expr_api_Expr_0 : AC :=
  .seq (.reg [⟨some 6, none, .tk (.c (.bool true))⟩])
  (.ret)

def c_slices_EqualFunc_api_Expr_api_Expr_api_Expr_api_Expr : AFunc :=
  { np := 3, res := [.t 6], body := (
    .seq (.reg [⟨some 6, none, .tk (.c (.bool false))⟩])
    (.seq (.seq (.reg [⟨some 10, none, .mv (.t 0)⟩, ⟨some 11, none, .len false (.t 10)⟩, ⟨some 12, none, .mv (.t 1)⟩, ⟨some 13, none, .len false (.t 12)⟩, ⟨some 14, none, .ic .neq (.t 11) (.t 13)⟩])
      (.cond (.t 14)
        (.seq (.reg [⟨some 6, none, .tk (.c (.bool false))⟩])
          (.ret))
        (.skip)))
    (.seq (.seq (.reg [⟨some 15, none, .mv (.t 0)⟩, ⟨some 16, none, .len false (.t 15)⟩, ⟨some 17, none, .mv (.c (.int .i64 0))⟩])
      (.block 0 (l_slices_EqualFunc_api_Expr_api_Expr_api_Expr_api_Expr_0))) r_slices_EqualFunc_api_Expr_api_Expr_api_Expr_api_Expr_0))) }

-- slices.EqualFunc[[]flotsam/api.Proc,[]flotsam/api.Proc,flotsam/api.Proc,flotsam/api.Proc]
def b_slices_EqualFunc_api_Proc_api_Proc_api_Proc_api_Proc_0 : AC :=
  .seq (.reg [⟨some 18, none, .ic .lss (.t 17) (.t 16)⟩])
  (.seq (.cond (.t 18)
      (.skip)
      (.exit 0))
  (.seq (.block 1 (.seq (.reg [⟨some 19, none, .mv (.t 17)⟩, ⟨some 20, none, .ixa 2 none (.t 15) (.t 17)⟩, ⟨some 21, none, .ld (some 2) (.t 20)⟩, ⟨some 8, none, .alloc [.str [], .own 7 []]⟩, ⟨some 7, none, .tk (.t 19)⟩, ⟨none, none, .st 2 (.t 8) (.t 21)⟩])
      (.seq (.reg [⟨some 22, none, .mv (.t 1)⟩, ⟨some 23, none, .mv (.t 7)⟩, ⟨some 24, none, .ixa 2 none (.t 22) (.t 23)⟩, ⟨some 25, none, .ld (some 2) (.t 24)⟩, ⟨some 9, none, .alloc [.str [], .own 7 []]⟩, ⟨none, none, .st 2 (.t 9) (.t 25)⟩])
      (.seq (.reg [⟨some 26, none, .mv (.t 2)⟩, ⟨some 27, none, .ld (some 2) (.t 8)⟩, ⟨some 28, none, .ld (some 2) (.t 9)⟩, ⟨some 29, none, .callv (.t 26) [(.t 27), (.t 28)]⟩, ⟨some 30, none, .notb (.t 29)⟩])
      (.cond (.t 30)
        (.seq (.reg [⟨some 6, none, .tk (.c (.bool false))⟩])
          (.ret))
        (.skip))))))
  (.reg [⟨some 31, none, .ia .add .i64 (.t 17) (.c (.int .i64 1))⟩, ⟨some 17, none, .mv (.t 31)⟩])))

def l_slices_EqualFunc_api_Proc_api_Proc_api_Proc_api_Proc_0 : AC :=
  .loop [1, 2, 15, 16, 17] b_slices_EqualFunc_api_Proc_api_Proc_api_Proc_api_Proc_0

def r_slices_EqualFunc_api_Proc_api_Proc_api_Proc_api_Proc_0 : AC :=
  .seq (.reg [⟨some 6, none, .tk (.c (.bool true))⟩])
  (.ret)

def c_slices_EqualFunc_api_Proc_api_Proc_api_Proc_api_Proc : AFunc :=
  { np := 3, res := [.t 6], body := (
    .seq (.reg [⟨some 6, none, .tk (.c (.bool false))⟩])
    (.seq (.seq (.reg [⟨some 10, none, .mv (.t 0)⟩, ⟨some 11, none, .len false (.t 10)⟩, ⟨some 12, none, .mv (.t 1)⟩, ⟨some 13, none, .len false (.t 12)⟩, ⟨some 14, none, .ic .neq (.t 11) (.t 13)⟩])
      (.cond (.t 14)
        (.seq (.reg [⟨some 6, none, .tk (.c (.bool false))⟩])
          (.ret))
        (.skip)))
    (.seq (.seq (.reg [⟨some 15, none, .mv (.t 0)⟩, ⟨some 16, none, .len false (.t 15)⟩, ⟨some 17, none, .mv (.c (.int .i64 0))⟩])
      (.block 0 (l_slices_EqualFunc_api_Proc_api_Proc_api_Proc_api_Proc_0))) r_slices_EqualFunc_api_Proc_api_Proc_api_Proc_api_Proc_0))) }

-- slices.EqualFunc[[]flotsam/api.Oracle,[]flotsam/api.Oracle,flotsam/api.Oracle,flotsam/api.Oracle]
def b_slices_EqualFunc_api_Oracle_api_Oracle_api_Oracle_api_Oracle_0 : AC :=
  .seq (.reg [⟨some 18, none, .ic .lss (.t 17) (.t 16)⟩])
  (.seq (.cond (.t 18)
      (.skip)
      (.exit 0))
  (.seq (.block 1 (.seq (.reg [⟨some 19, none, .mv (.t 17)⟩, ⟨some 20, none, .ixa 5 none (.t 15) (.t 17)⟩, ⟨some 21, none, .ld (some 5) (.t 20)⟩, ⟨some 8, none, .alloc [.str [], .int .i64 0, .int .i64 0, .str [], .own 4 []]⟩, ⟨some 7, none, .tk (.t 19)⟩, ⟨none, none, .st 5 (.t 8) (.t 21)⟩])
      (.seq (.reg [⟨some 22, none, .mv (.t 1)⟩, ⟨some 23, none, .mv (.t 7)⟩, ⟨some 24, none, .ixa 5 none (.t 22) (.t 23)⟩, ⟨some 25, none, .ld (some 5) (.t 24)⟩, ⟨some 9, none, .alloc [.str [], .int .i64 0, .int .i64 0, .str [], .own 4 []]⟩, ⟨none, none, .st 5 (.t 9) (.t 25)⟩])
      (.seq (.reg [⟨some 26, none, .mv (.t 2)⟩, ⟨some 27, none, .ld (some 5) (.t 8)⟩, ⟨some 28, none, .ld (some 5) (.t 9)⟩, ⟨some 29, none, .callv (.t 26) [(.t 27), (.t 28)]⟩, ⟨some 30, none, .notb (.t 29)⟩])
      (.cond (.t 30)
        (.seq (.reg [⟨some 6, none, .tk (.c (.bool false))⟩])
          (.ret))
        (.skip))))))
  (.reg [⟨some 31, none, .ia .add .i64 (.t 17) (.c (.int .i64 1))⟩, ⟨some 17, none, .mv (.t 31)⟩])))

def l_slices_EqualFunc_api_Oracle_api_Oracle_api_Oracle_api_Oracle_0 : AC :=
  .loop [1, 2, 15, 16, 17] b_slices_EqualFunc_api_Oracle_api_Oracle_api_Oracle_api_Oracle_0

def r_slices_EqualFunc_api_Oracle_api_Oracle_api_Oracle_api_Oracle_0 : AC :=
  .seq (.reg [⟨some 6, none, .tk (.c (.bool true))⟩])
  (.ret)

def c_slices_EqualFunc_api_Oracle_api_Oracle_api_Oracle_api_Oracle : AFunc :=
  { np := 3, res := [.t 6], body := (
    .seq (.reg [⟨some 6, none, .tk (.c (.bool false))⟩])
    (.seq (.seq (.reg [⟨some 10, none, .mv (.t 0)⟩, ⟨some 11, none, .len false (.t 10)⟩, ⟨some 12, none, .mv (.t 1)⟩, ⟨some 13, none, .len false (.t 12)⟩, ⟨some 14, none, .ic .neq (.t 11) (.t 13)⟩])
      (.cond (.t 14)
        (.seq (.reg [⟨some 6, none, .tk (.c (.bool false))⟩])
          (.ret))
        (.skip)))
    (.seq (.seq (.reg [⟨some 15, none, .mv (.t 0)⟩, ⟨some 16, none, .len false (.t 15)⟩, ⟨some 17, none, .mv (.c (.int .i64 0))⟩])
      (.block 0 (l_slices_EqualFunc_api_Oracle_api_Oracle_api_Oracle_api_Oracle_0))) r_slices_EqualFunc_api_Oracle_api_Oracle_api_Oracle_api_Oracle_0))) }

-- flotsam/tree.walk$1
def a_tree_walk_1_0 : AC :=
  .reg [⟨some 7, none, .alloc [.int .i64 0, .str [], .int .i64 0, .own 4 [], .own 7 [], .own 7 [], .bool false]⟩, ⟨none, none, .st 7 (.t 7) (.t 30)⟩]

def y_tree_walk_1_0 : AC :=
  .block 5 (.seq (.reg [⟨some 31, none, .ld none (.t 2)⟩, ⟨some 32, none, .ld (some 7) (.t 7)⟩, ⟨some 33, none, .callv (.t 31) [(.t 32)]⟩, ⟨some 34, none, .notb (.t 33)⟩])
    (.cond (.t 34)
      (.ret)
      (.skip)))

def r_tree_walk_1_0 : AC :=
  .reg [⟨some 35, none, .ia .add .i64 (.t 24) (.c (.int .i64 1))⟩, ⟨some 24, none, .mv (.t 35)⟩]

def b_tree_walk_1_0 : AC :=
  .seq (.reg [⟨some 25, none, .ic .lss (.t 24) (.t 23)⟩])
  (.seq (.cond (.t 25)
      (.skip)
      (.exit 2))
  (.seq (.block 3 (.seq (.reg [⟨some 26, none, .ixa 1 none (.t 22) (.t 24)⟩, ⟨some 27, none, .ld none (.t 26)⟩, ⟨some 6, none, .tk (.t 27)⟩])
      (.seq (.reg [⟨some 28, none, .mv (.t 6)⟩, ⟨some 29, none, .call n_tree_walk [(.t 28)]⟩])
      (.block 4 (.rfn (.t 29) [2] q_tree_walk_1_0 [30] a_tree_walk_1_0 y_tree_walk_1_0))))) r_tree_walk_1_0))

def l_tree_walk_1_0 : AC :=
  .loop [2, 8, 9, 10, 22, 23, 24] b_tree_walk_1_0

def r_tree_walk_1_1 : AC :=
  .reg [⟨some 36, none, .ia .add .i64 (.t 10) (.c (.int .i64 1))⟩, ⟨some 10, none, .mv (.t 36)⟩]

def b_tree_walk_1_1 : AC :=
  .seq (.reg [⟨some 11, none, .ic .lss (.t 10) (.t 9)⟩])
  (.seq (.cond (.t 11)
      (.skip)
      (.exit 0))
  (.seq (.block 1 (.seq (.reg [⟨some 12, none, .ixa 7 none (.t 8) (.t 10)⟩, ⟨some 13, none, .ld (some 7) (.t 12)⟩, ⟨some 4, none, .alloc [.int .i64 0, .str [], .int .i64 0, .own 4 [], .own 7 [], .own 7 [], .bool false]⟩, ⟨none, none, .st 7 (.t 4) (.t 13)⟩])
      (.seq (.seq (.reg [⟨some 14, none, .ld none (.t 2)⟩, ⟨some 15, none, .ld (some 7) (.t 4)⟩, ⟨some 16, none, .callv (.t 14) [(.t 15)]⟩, ⟨some 17, none, .notb (.t 16)⟩])
        (.cond (.t 17)
          (.ret)
          (.skip)))
      (.seq (.reg [⟨some 18, none, .fa 4 (.t 4)⟩, ⟨some 19, none, .ld none (.t 18)⟩, ⟨some 20, none, .fa 5 (.t 4)⟩, ⟨some 21, none, .ld none (.t 20)⟩, ⟨some 22, none, .bsl 1 [.sl 7 []] 2 [(0, 1, (.t 19)), (1, 1, (.t 21))] false⟩, ⟨some 23, none, .len false (.t 22)⟩, ⟨some 24, none, .mv (.c (.int .i64 0))⟩])
      (.block 2 (l_tree_walk_1_0)))))) r_tree_walk_1_1))

def l_tree_walk_1_1 : AC :=
  .loop [2, 8, 9, 10] b_tree_walk_1_1

def c_tree_walk_1 : AFunc :=
  { np := 2, res := [], body := (
    .seq (.reg [⟨some 2, none, .box (.t 0)⟩])
    (.seq (.reg [⟨some 8, none, .ld none (.t 1)⟩, ⟨some 9, none, .len false (.t 8)⟩, ⟨some 10, none, .mv (.c (.int .i64 0))⟩])
    (.block 0 (l_tree_walk_1_1)))) }

-- flotsam/lex.begins
def c_lex_begins : AFunc :=
  { np := 2, res := [.t 4], body := (
    .seq (.reg [⟨some 4, none, .tk (.c (.bool false))⟩])
    (.seq (.reg [⟨some 5, none, .mv (.t 0)⟩, ⟨some 6, none, .sop .neq (.t 5) (.c (.str []))⟩, ⟨some 7, none, .mv (.t 6)⟩, ⟨some 8, (some (7, true)), .mv (.t 1)⟩, ⟨some 9, (some (7, true)), .mv (.t 0)⟩, ⟨some 10, (some (7, true)), .ixs (.t 9) (.c (.int .i64 0))⟩, ⟨some 11, (some (7, true)), .conv .i32 (.t 10)⟩, ⟨some 12, (some (7, true)), .callv (.t 8) [(.t 11)]⟩, ⟨some 13, none, .pick (.t 7) (.t 12) (.c (.bool false))⟩, ⟨some 4, none, .tk (.t 13)⟩])
    (.ret))) }

-- flotsam/lex.letter
def c_lex_letter : AFunc :=
  { np := 1, res := [.t 2], body := (
    .seq (.reg [⟨some 2, none, .tk (.c (.bool false))⟩])
    (.seq (.reg [⟨some 3, none, .mv (.t 0)⟩, ⟨some 4, none, .ic .geq (.t 3) (.c (.int .i32 97))⟩, ⟨some 5, none, .mv (.t 4)⟩, ⟨some 6, (some (5, true)), .mv (.t 0)⟩, ⟨some 7, (some (5, true)), .ic .leq (.t 6) (.c (.int .i32 122))⟩, ⟨some 8, none, .pick (.t 5) (.t 7) (.c (.bool false))⟩, ⟨some 2, none, .tk (.t 8)⟩])
    (.ret))) }

-- flotsam/lex.inner
def c_lex_inner : AFunc :=
  { np := 1, res := [.t 2], body := (
    .seq (.reg [⟨some 2, none, .tk (.c (.bool false))⟩])
    (.seq (.reg [⟨some 3, none, .mv (.t 0)⟩, ⟨some 4, none, .callc n_lex_letter [(.t 3)]⟩, ⟨some 5, none, .mv (.t 4)⟩, ⟨some 6, (some (5, false)), .mv (.t 0)⟩, ⟨some 7, (some (5, false)), .callc n_lex_digit [(.t 6)]⟩, ⟨some 8, none, .pick (.t 5) (.c (.bool true)) (.t 7)⟩, ⟨some 9, none, .mv (.t 8)⟩, ⟨some 10, (some (9, false)), .mv (.t 0)⟩, ⟨some 11, (some (9, false)), .ic .eql (.t 10) (.c (.int .i32 95))⟩, ⟨some 12, none, .pick (.t 9) (.c (.bool true)) (.t 11)⟩, ⟨some 2, none, .tk (.t 12)⟩])
    (.ret))) }

-- flotsam/lex.Key
def c_lex_Key : AFunc :=
  { np := 1, res := [.t 2], body := (
    .seq (.reg [⟨some 2, none, .tk (.c (.bool false))⟩])
    (.seq (.reg [⟨some 3, none, .mv (.t 0)⟩, ⟨some 4, none, .sop .neq (.t 3) (.c (.str []))⟩, ⟨some 5, none, .mv (.t 4)⟩, ⟨some 6, (some (5, true)), .mv (.t 0)⟩, ⟨some 7, (some (5, true)), .callc n_strings_Contains [(.t 6), (.c (.str [32]))]⟩, ⟨some 8, (some (5, true)), .notb (.t 7)⟩, ⟨some 9, none, .pick (.t 5) (.t 8) (.c (.bool false))⟩, ⟨some 10, none, .mv (.t 9)⟩, ⟨some 11, (some (10, true)), .mv (.t 0)⟩, ⟨some 12, (some (10, true)), .sop .add (.c (.str [32])) (.t 11)⟩, ⟨some 13, (some (10, true)), .sop .add (.t 12) (.c (.str [32]))⟩, ⟨some 14, (some (10, true)), .callc n_strings_Contains [(.c (.str [32, 112, 114, 111, 99, 32, 109, 97, 105, 110, 32, 114, 101, 99, 111, 118, 101, 114, 32, 111, 114, 97, 99, 108, 101, 32, 99, 114, 101, 97, 116, 101, 32, 109, 107, 100, 105, 114, 32, 119, 114, 105, 116, 101, 32, 97, 112, 112, 101, 110, 100, 32, 116, 114, 117, 110, 99, 97, 116, 101, 32, 114, 101, 110, 97, 109, 101, 32, 117, 110, 108, 105, 110, 107, 32, 102, 115, 121, 110, 99, 32, 102, 100, 97, 116, 97, 115, 121, 110, 99, 32, 115, 121, 110, 99, 100, 105, 114, 32, 98, 97, 114, 114, 105, 101, 114, 32, 108, 101, 116, 32, 105, 102, 32, 101, 108, 115, 101, 32, 114, 101, 112, 101, 97, 116, 32, 99, 97, 108, 108, 32, 116, 120, 110, 32, 99, 111, 109, 109, 105, 116, 32, 114, 101, 112, 108, 97, 121, 32, 97, 115, 115, 101, 114, 116, 32, 101, 120, 105, 115, 116, 115, 32, 115, 105, 122, 101, 32, 114, 101, 97, 100, 32, 110, 111, 116, 32, 97, 110, 100, 32, 111, 114, 32, 116, 114, 117, 101, 32, 102, 97, 108, 115, 101, 32])), (.t 13)]⟩, ⟨some 15, none, .pick (.t 10) (.t 14) (.c (.bool false))⟩, ⟨some 2, none, .tk (.t 15)⟩])
    (.ret))) }

-- slices.ContainsFunc[[]flotsam/api.Expr,flotsam/api.Expr]
def c_slices_ContainsFunc_api_Expr_api_Expr : AFunc :=
  { np := 2, res := [.t 4], body := (
    .seq (.reg [⟨some 4, none, .tk (.c (.bool false))⟩])
    (.seq (.reg [⟨some 5, none, .mv (.t 0)⟩, ⟨some 6, none, .mv (.t 1)⟩, ⟨some 7, none, .call n_slices_IndexFunc_api_Expr_api_Expr [(.t 5), (.t 6)]⟩, ⟨some 8, none, .ic .geq (.t 7) (.c (.int .i64 0))⟩, ⟨some 4, none, .tk (.t 8)⟩])
    (.ret))) }

-- flotsam/tree.expr$1
def c_tree_expr_1 : AFunc :=
  { np := 2, res := [.t 3], body := (
    .seq (.reg [⟨some 2, none, .box (.t 0)⟩, ⟨some 3, none, .tk (.c (.bool false))⟩])
    (.seq (.reg [⟨some 4, none, .ld (some 4) (.t 2)⟩, ⟨some 5, none, .ld none (.t 1)⟩, ⟨some 6, none, .ia .sub .i64 (.t 5) (.c (.int .i64 1))⟩, ⟨some 7, none, .callc n_tree_expr [(.t 4), (.t 6)]⟩, ⟨some 8, none, .notb (.t 7)⟩, ⟨some 3, none, .tk (.t 8)⟩])
    (.ret))) }

-- slices.ContainsFunc[[]flotsam/api.Stmt,flotsam/api.Stmt]
def c_slices_ContainsFunc_api_Stmt_api_Stmt_x : AFunc :=
  { np := 2, res := [.t 4], body := (
    .seq (.reg [⟨some 4, none, .tk (.c (.bool false))⟩])
    (.seq (.reg [⟨some 5, none, .mv (.t 0)⟩, ⟨some 6, none, .mv (.t 1)⟩, ⟨some 7, none, .call n_slices_IndexFunc_api_Stmt_api_Stmt_x [(.t 5), (.t 6)]⟩, ⟨some 8, none, .ic .geq (.t 7) (.c (.int .i64 0))⟩, ⟨some 4, none, .tk (.t 8)⟩])
    (.ret))) }

-- flotsam/tree.block$1
def c_tree_block_1 : AFunc :=
  { np := 2, res := [.t 3], body := (
    .seq (.reg [⟨some 2, none, .box (.t 0)⟩, ⟨some 3, none, .tk (.c (.bool false))⟩])
    (.seq (.reg [⟨some 4, none, .ld (some 7) (.t 2)⟩, ⟨some 5, none, .ld none (.t 1)⟩, ⟨some 6, none, .callc n_tree_stmt [(.t 4), (.t 5)]⟩, ⟨some 7, none, .notb (.t 6)⟩, ⟨some 3, none, .tk (.t 7)⟩])
    (.ret))) }

-- flotsam/tree.stmt
def c_tree_stmt : AFunc :=
  { np := 2, res := [.t 4], body := (
    .seq (.reg [⟨some 2, none, .box (.t 0)⟩, ⟨some 4, none, .tk (.c (.bool false))⟩])
    (.seq (.seq (.reg [⟨some 6, none, .mv (.t 1)⟩, ⟨some 7, none, .ic .gtr (.t 6) (.c (.int .i64 8))⟩, ⟨some 8, none, .mv (.t 7)⟩, ⟨some 9, (some (8, false)), .ld (some 7) (.t 2)⟩, ⟨some 10, (some (8, false)), .callc n_tree_shape [(.t 9)]⟩, ⟨some 11, (some (8, false)), .notb (.t 10)⟩, ⟨some 12, none, .pick (.t 8) (.c (.bool true)) (.t 11)⟩])
      (.cond (.t 12)
        (.seq (.reg [⟨some 4, none, .tk (.c (.bool false))⟩])
          (.ret))
        (.skip)))
    (.seq (.seq (.reg [⟨some 13, none, .fa 0 (.t 2)⟩, ⟨some 14, none, .ld none (.t 13)⟩, ⟨some 15, none, .ic .eql (.t 14) (.c (.int .i64 16))⟩])
      (.cond (.t 15)
        (.seq (.reg [⟨some 5, none, .tk (.c (.fn (.func n_tree_stmt_1) [] []))⟩])
          (.seq (.reg [⟨some 16, none, .fa 4 (.t 2)⟩, ⟨some 17, none, .ld none (.t 16)⟩, ⟨some 18, none, .len false (.t 17)⟩, ⟨some 19, none, .ic .gtr (.t 18) (.c (.int .i64 8))⟩, ⟨some 20, none, .mv (.t 19)⟩, ⟨some 21, (some (20, false)), .fa 4 (.t 2)⟩, ⟨some 22, (some (20, false)), .ld none (.t 21)⟩, ⟨some 23, (some (20, false)), .mv (.t 5)⟩, ⟨some 24, (some (20, false)), .call n_slices_ContainsFunc_api_Stmt_api_Stmt_x [(.t 22), (.t 23)]⟩, ⟨some 25, none, .pick (.t 20) (.c (.bool true)) (.t 24)⟩])
          (.cond (.t 25)
            (.seq (.reg [⟨some 4, none, .tk (.c (.bool false))⟩])
              (.ret))
            (.skip))))
        (.skip)))
    (.seq (.reg [⟨some 26, none, .fa 4 (.t 2)⟩, ⟨some 27, none, .ld none (.t 26)⟩, ⟨some 28, none, .mv (.t 1)⟩, ⟨some 29, none, .ia .add .i64 (.t 28) (.c (.int .i64 1))⟩, ⟨some 30, none, .callc n_tree_block [(.t 27), (.t 29)]⟩, ⟨some 31, none, .mv (.t 30)⟩, ⟨some 32, (some (31, true)), .fa 5 (.t 2)⟩, ⟨some 33, (some (31, true)), .ld none (.t 32)⟩, ⟨some 34, (some (31, true)), .mv (.t 1)⟩, ⟨some 35, (some (31, true)), .ia .add .i64 (.t 34) (.c (.int .i64 1))⟩, ⟨some 36, (some (31, true)), .callc n_tree_block [(.t 33), (.t 35)]⟩, ⟨some 37, none, .pick (.t 31) (.t 36) (.c (.bool false))⟩, ⟨some 4, none, .tk (.t 37)⟩])
    (.ret))))) }

-- slices.IndexFunc[[]flotsam/api.Proc,flotsam/api.Proc]
def b_slices_IndexFunc_api_Proc_api_Proc_0 : AC :=
  .seq (.reg [⟨some 9, none, .ic .lss (.t 8) (.t 7)⟩])
  (.seq (.cond (.t 9)
      (.skip)
      (.exit 0))
  (.seq (.block 1 (.seq (.reg [⟨some 10, none, .mv (.t 8)⟩, ⟨some 5, none, .tk (.t 10)⟩])
      (.seq (.reg [⟨some 11, none, .mv (.t 1)⟩, ⟨some 12, none, .mv (.t 0)⟩, ⟨some 13, none, .mv (.t 5)⟩, ⟨some 14, none, .ixa 2 none (.t 12) (.t 13)⟩, ⟨some 15, none, .ld (some 2) (.t 14)⟩, ⟨some 16, none, .callv (.t 11) [(.t 15)]⟩])
      (.cond (.t 16)
        (.seq (.reg [⟨some 17, none, .mv (.t 5)⟩, ⟨some 4, none, .tk (.t 17)⟩])
          (.ret))
        (.skip)))))
  (.reg [⟨some 18, none, .ia .add .i64 (.t 8) (.c (.int .i64 1))⟩, ⟨some 8, none, .mv (.t 18)⟩])))

def l_slices_IndexFunc_api_Proc_api_Proc_0 : AC :=
  .loop [0, 1, 7, 8] b_slices_IndexFunc_api_Proc_api_Proc_0

def r_slices_IndexFunc_api_Proc_api_Proc_0 : AC :=
  .seq (.reg [⟨some 4, none, .tk (.c (.int .i64 (-1)))⟩])
  (.ret)

def c_slices_IndexFunc_api_Proc_api_Proc : AFunc :=
  { np := 2, res := [.t 4], body := (
    .seq (.reg [⟨some 4, none, .tk (.c (.int .i64 0))⟩])
    (.seq (.seq (.reg [⟨some 6, none, .mv (.t 0)⟩, ⟨some 7, none, .len false (.t 6)⟩, ⟨some 8, none, .mv (.c (.int .i64 0))⟩])
      (.block 0 (l_slices_IndexFunc_api_Proc_api_Proc_0))) r_slices_IndexFunc_api_Proc_api_Proc_0)) }

-- slices.IndexFunc[[]flotsam/api.Oracle,flotsam/api.Oracle]
def b_slices_IndexFunc_api_Oracle_api_Oracle_0 : AC :=
  .seq (.reg [⟨some 9, none, .ic .lss (.t 8) (.t 7)⟩])
  (.seq (.cond (.t 9)
      (.skip)
      (.exit 0))
  (.seq (.block 1 (.seq (.reg [⟨some 10, none, .mv (.t 8)⟩, ⟨some 5, none, .tk (.t 10)⟩])
      (.seq (.reg [⟨some 11, none, .mv (.t 1)⟩, ⟨some 12, none, .mv (.t 0)⟩, ⟨some 13, none, .mv (.t 5)⟩, ⟨some 14, none, .ixa 5 none (.t 12) (.t 13)⟩, ⟨some 15, none, .ld (some 5) (.t 14)⟩, ⟨some 16, none, .callv (.t 11) [(.t 15)]⟩])
      (.cond (.t 16)
        (.seq (.reg [⟨some 17, none, .mv (.t 5)⟩, ⟨some 4, none, .tk (.t 17)⟩])
          (.ret))
        (.skip)))))
  (.reg [⟨some 18, none, .ia .add .i64 (.t 8) (.c (.int .i64 1))⟩, ⟨some 8, none, .mv (.t 18)⟩])))

def l_slices_IndexFunc_api_Oracle_api_Oracle_0 : AC :=
  .loop [0, 1, 7, 8] b_slices_IndexFunc_api_Oracle_api_Oracle_0

def r_slices_IndexFunc_api_Oracle_api_Oracle_0 : AC :=
  .seq (.reg [⟨some 4, none, .tk (.c (.int .i64 (-1)))⟩])
  (.ret)

def c_slices_IndexFunc_api_Oracle_api_Oracle : AFunc :=
  { np := 2, res := [.t 4], body := (
    .seq (.reg [⟨some 4, none, .tk (.c (.int .i64 0))⟩])
    (.seq (.seq (.reg [⟨some 6, none, .mv (.t 0)⟩, ⟨some 7, none, .len false (.t 6)⟩, ⟨some 8, none, .mv (.c (.int .i64 0))⟩])
      (.block 0 (l_slices_IndexFunc_api_Oracle_api_Oracle_0))) r_slices_IndexFunc_api_Oracle_api_Oracle_0)) }

-- slices.IndexFunc[[][]flotsam/api.Stmt,[]flotsam/api.Stmt]
def b_slices_IndexFunc_api_Stmt_api_Stmt_0 : AC :=
  .seq (.reg [⟨some 9, none, .ic .lss (.t 8) (.t 7)⟩])
  (.seq (.cond (.t 9)
      (.skip)
      (.exit 0))
  (.seq (.block 1 (.seq (.reg [⟨some 10, none, .mv (.t 8)⟩, ⟨some 5, none, .tk (.t 10)⟩])
      (.seq (.reg [⟨some 11, none, .mv (.t 1)⟩, ⟨some 12, none, .mv (.t 0)⟩, ⟨some 13, none, .mv (.t 5)⟩, ⟨some 14, none, .ixa 1 none (.t 12) (.t 13)⟩, ⟨some 15, none, .ld none (.t 14)⟩, ⟨some 16, none, .callv (.t 11) [(.t 15)]⟩])
      (.cond (.t 16)
        (.seq (.reg [⟨some 17, none, .mv (.t 5)⟩, ⟨some 4, none, .tk (.t 17)⟩])
          (.ret))
        (.skip)))))
  (.reg [⟨some 18, none, .ia .add .i64 (.t 8) (.c (.int .i64 1))⟩, ⟨some 8, none, .mv (.t 18)⟩])))

def l_slices_IndexFunc_api_Stmt_api_Stmt_0 : AC :=
  .loop [0, 1, 7, 8] b_slices_IndexFunc_api_Stmt_api_Stmt_0

def r_slices_IndexFunc_api_Stmt_api_Stmt_0 : AC :=
  .seq (.reg [⟨some 4, none, .tk (.c (.int .i64 (-1)))⟩])
  (.ret)

def c_slices_IndexFunc_api_Stmt_api_Stmt : AFunc :=
  { np := 2, res := [.t 4], body := (
    .seq (.reg [⟨some 4, none, .tk (.c (.int .i64 0))⟩])
    (.seq (.seq (.reg [⟨some 6, none, .mv (.t 0)⟩, ⟨some 7, none, .len false (.t 6)⟩, ⟨some 8, none, .mv (.c (.int .i64 0))⟩])
      (.block 0 (l_slices_IndexFunc_api_Stmt_api_Stmt_0))) r_slices_IndexFunc_api_Stmt_api_Stmt_0)) }

-- flotsam/lex.digit
def c_lex_digit : AFunc :=
  { np := 1, res := [.t 2], body := (
    .seq (.reg [⟨some 2, none, .tk (.c (.bool false))⟩])
    (.seq (.reg [⟨some 3, none, .mv (.t 0)⟩, ⟨some 4, none, .ic .geq (.t 3) (.c (.int .i32 48))⟩, ⟨some 5, none, .mv (.t 4)⟩, ⟨some 6, (some (5, true)), .mv (.t 0)⟩, ⟨some 7, (some (5, true)), .ic .leq (.t 6) (.c (.int .i32 57))⟩, ⟨some 8, none, .pick (.t 5) (.t 7) (.c (.bool false))⟩, ⟨some 2, none, .tk (.t 8)⟩])
    (.ret))) }

-- slices.IndexFunc[[]flotsam/api.Expr,flotsam/api.Expr]
def b_slices_IndexFunc_api_Expr_api_Expr_0 : AC :=
  .seq (.reg [⟨some 9, none, .ic .lss (.t 8) (.t 7)⟩])
  (.seq (.cond (.t 9)
      (.skip)
      (.exit 0))
  (.seq (.block 1 (.seq (.reg [⟨some 10, none, .mv (.t 8)⟩, ⟨some 5, none, .tk (.t 10)⟩])
      (.seq (.reg [⟨some 11, none, .mv (.t 1)⟩, ⟨some 12, none, .mv (.t 0)⟩, ⟨some 13, none, .mv (.t 5)⟩, ⟨some 14, none, .ixa 4 none (.t 12) (.t 13)⟩, ⟨some 15, none, .ld (some 4) (.t 14)⟩, ⟨some 16, none, .callv (.t 11) [(.t 15)]⟩])
      (.cond (.t 16)
        (.seq (.reg [⟨some 17, none, .mv (.t 5)⟩, ⟨some 4, none, .tk (.t 17)⟩])
          (.ret))
        (.skip)))))
  (.reg [⟨some 18, none, .ia .add .i64 (.t 8) (.c (.int .i64 1))⟩, ⟨some 8, none, .mv (.t 18)⟩])))

def l_slices_IndexFunc_api_Expr_api_Expr_0 : AC :=
  .loop [0, 1, 7, 8] b_slices_IndexFunc_api_Expr_api_Expr_0

def r_slices_IndexFunc_api_Expr_api_Expr_0 : AC :=
  .seq (.reg [⟨some 4, none, .tk (.c (.int .i64 (-1)))⟩])
  (.ret)

def c_slices_IndexFunc_api_Expr_api_Expr : AFunc :=
  { np := 2, res := [.t 4], body := (
    .seq (.reg [⟨some 4, none, .tk (.c (.int .i64 0))⟩])
    (.seq (.seq (.reg [⟨some 6, none, .mv (.t 0)⟩, ⟨some 7, none, .len false (.t 6)⟩, ⟨some 8, none, .mv (.c (.int .i64 0))⟩])
      (.block 0 (l_slices_IndexFunc_api_Expr_api_Expr_0))) r_slices_IndexFunc_api_Expr_api_Expr_0)) }

-- slices.IndexFunc[[]flotsam/api.Stmt,flotsam/api.Stmt]
def b_slices_IndexFunc_api_Stmt_api_Stmt_x_0 : AC :=
  .seq (.reg [⟨some 9, none, .ic .lss (.t 8) (.t 7)⟩])
  (.seq (.cond (.t 9)
      (.skip)
      (.exit 0))
  (.seq (.block 1 (.seq (.reg [⟨some 10, none, .mv (.t 8)⟩, ⟨some 5, none, .tk (.t 10)⟩])
      (.seq (.reg [⟨some 11, none, .mv (.t 1)⟩, ⟨some 12, none, .mv (.t 0)⟩, ⟨some 13, none, .mv (.t 5)⟩, ⟨some 14, none, .ixa 7 none (.t 12) (.t 13)⟩, ⟨some 15, none, .ld (some 7) (.t 14)⟩, ⟨some 16, none, .callv (.t 11) [(.t 15)]⟩])
      (.cond (.t 16)
        (.seq (.reg [⟨some 17, none, .mv (.t 5)⟩, ⟨some 4, none, .tk (.t 17)⟩])
          (.ret))
        (.skip)))))
  (.reg [⟨some 18, none, .ia .add .i64 (.t 8) (.c (.int .i64 1))⟩, ⟨some 8, none, .mv (.t 18)⟩])))

def l_slices_IndexFunc_api_Stmt_api_Stmt_x_0 : AC :=
  .loop [0, 1, 7, 8] b_slices_IndexFunc_api_Stmt_api_Stmt_x_0

def r_slices_IndexFunc_api_Stmt_api_Stmt_x_0 : AC :=
  .seq (.reg [⟨some 4, none, .tk (.c (.int .i64 (-1)))⟩])
  (.ret)

def c_slices_IndexFunc_api_Stmt_api_Stmt_x : AFunc :=
  { np := 2, res := [.t 4], body := (
    .seq (.reg [⟨some 4, none, .tk (.c (.int .i64 0))⟩])
    (.seq (.seq (.reg [⟨some 6, none, .mv (.t 0)⟩, ⟨some 7, none, .len false (.t 6)⟩, ⟨some 8, none, .mv (.c (.int .i64 0))⟩])
      (.block 0 (l_slices_IndexFunc_api_Stmt_api_Stmt_x_0))) r_slices_IndexFunc_api_Stmt_api_Stmt_x_0)) }

-- flotsam/tree.shape
def c_tree_shape : AFunc :=
  { np := 1, res := [.t 2], body := (
    .seq (.reg [⟨some 1, none, .box (.t 0)⟩, ⟨some 2, none, .tk (.c (.bool false))⟩])
    (.seq (.reg [⟨some 9, none, .fa 0 (.t 1)⟩, ⟨some 10, none, .ld none (.t 9)⟩, ⟨some 11, none, .callc n_tree_Exprs [(.t 10)]⟩, ⟨some 8, none, .mv (.t 11)⟩, ⟨some 12, none, .ext (.t 8) 0⟩, ⟨some 13, none, .ext (.t 8) 1⟩, ⟨some 3, none, .tk (.t 12)⟩, ⟨some 4, none, .tk (.t 13)⟩])
    (.seq (.reg [⟨some 15, none, .fa 0 (.t 1)⟩, ⟨some 16, none, .ld none (.t 15)⟩, ⟨some 17, none, .callc n_tree_blocks [(.t 16)]⟩, ⟨some 14, none, .mv (.t 17)⟩, ⟨some 18, none, .ext (.t 14) 0⟩, ⟨some 19, none, .ext (.t 14) 1⟩, ⟨some 5, none, .tk (.t 18)⟩, ⟨some 6, none, .tk (.t 19)⟩])
    (.seq (.reg [⟨some 20, none, .fa 0 (.t 1)⟩, ⟨some 21, none, .ld none (.t 20)⟩, ⟨some 22, none, .ic .eql (.t 21) (.c (.int .i64 12))⟩, ⟨some 23, none, .mv (.t 22)⟩, ⟨some 24, (some (23, false)), .fa 0 (.t 1)⟩, ⟨some 25, (some (23, false)), .ld none (.t 24)⟩, ⟨some 26, (some (23, false)), .ic .eql (.t 25) (.c (.int .i64 15))⟩, ⟨some 27, none, .pick (.t 23) (.c (.bool true)) (.t 26)⟩, ⟨some 7, none, .tk (.t 27)⟩])
    (.seq (.block 0 (.seq (.reg [⟨some 29, none, .mv (.t 4)⟩, ⟨some 30, none, .notb (.t 29)⟩, ⟨some 31, none, .mv (.t 30)⟩, ⟨some 32, (some (31, false)), .fa 3 (.t 1)⟩, ⟨some 33, (some (31, false)), .ld none (.t 32)⟩, ⟨some 34, (some (31, false)), .len false (.t 33)⟩, ⟨some 35, (some (31, false)), .mv (.t 3)⟩, ⟨some 36, (some (31, false)), .ic .neq (.t 34) (.t 35)⟩, ⟨some 37, none, .pick (.t 31) (.c (.bool true)) (.t 36)⟩, ⟨some 38, none, .mv (.t 37)⟩, ⟨some 39, (some (38, false)), .mv (.t 7)⟩, ⟨some 40, (some (38, false)), .fa 1 (.t 1)⟩, ⟨some 41, (some (38, false)), .ld none (.t 40)⟩, ⟨some 42, (some (38, false)), .sop .neq (.t 41) (.c (.str []))⟩, ⟨some 43, (some (38, false)), .eqb true (.t 39) (.t 42)⟩, ⟨some 44, none, .pick (.t 38) (.c (.bool true)) (.t 43)⟩, ⟨some 45, none, .mv (.t 44)⟩, ⟨some 46, (some (45, false)), .mv (.t 7)⟩, ⟨some 47, (some (45, false)), .mv (.t 46)⟩, ⟨some 48, (some (47, true)), .fa 1 (.t 1)⟩, ⟨some 49, (some (47, true)), .ld none (.t 48)⟩, ⟨some 50, (some (47, true)), .callc n_lex_Name [(.t 49)]⟩, ⟨some 51, (some (47, true)), .notb (.t 50)⟩, ⟨some 52, (some (45, false)), .pick (.t 47) (.t 51) (.c (.bool false))⟩, ⟨some 53, none, .pick (.t 45) (.c (.bool true)) (.t 52)⟩, ⟨some 28, none, .tk (.t 53)⟩])
        (.cond (.t 28)
          (.seq (.reg [⟨some 2, none, .tk (.c (.bool false))⟩])
            (.ret))
          (.seq (.reg [⟨some 55, none, .fa 2 (.t 1)⟩, ⟨some 56, none, .ld none (.t 55)⟩, ⟨some 57, none, .ic .neq (.t 56) (.c (.int .i64 0))⟩, ⟨some 58, none, .mv (.t 57)⟩, ⟨some 59, (some (58, true)), .fa 0 (.t 1)⟩, ⟨some 60, (some (58, true)), .ld none (.t 59)⟩, ⟨some 61, (some (58, true)), .ic .neq (.t 60) (.c (.int .i64 14))⟩, ⟨some 62, none, .pick (.t 58) (.t 61) (.c (.bool false))⟩, ⟨some 63, none, .mv (.t 62)⟩, ⟨some 64, (some (63, false)), .fa 2 (.t 1)⟩, ⟨some 65, (some (63, false)), .ld none (.t 64)⟩, ⟨some 66, (some (63, false)), .ic .lss (.t 65) (.c (.int .i64 0))⟩, ⟨some 67, none, .pick (.t 63) (.c (.bool true)) (.t 66)⟩, ⟨some 68, none, .mv (.t 67)⟩, ⟨some 69, (some (68, false)), .fa 2 (.t 1)⟩, ⟨some 70, (some (68, false)), .ld none (.t 69)⟩, ⟨some 71, (some (68, false)), .ic .gtr (.t 70) (.c (.int .i64 16))⟩, ⟨some 72, none, .pick (.t 68) (.c (.bool true)) (.t 71)⟩, ⟨some 54, none, .tk (.t 72)⟩])
            (.cond (.t 54)
              (.seq (.reg [⟨some 2, none, .tk (.c (.bool false))⟩])
                (.ret))
              (.seq (.reg [⟨some 74, none, .fa 6 (.t 1)⟩, ⟨some 75, none, .ld none (.t 74)⟩, ⟨some 76, none, .mv (.t 75)⟩, ⟨some 77, (some (76, true)), .fa 0 (.t 1)⟩, ⟨some 78, (some (76, true)), .ld none (.t 77)⟩, ⟨some 79, (some (76, true)), .ic .neq (.t 78) (.c (.int .i64 16))⟩, ⟨some 80, none, .pick (.t 76) (.t 79) (.c (.bool false))⟩, ⟨some 81, none, .mv (.t 80)⟩, ⟨some 82, (some (81, false)), .mv (.t 5)⟩, ⟨some 83, (some (81, false)), .notb (.t 82)⟩, ⟨some 84, (some (81, false)), .mv (.t 83)⟩, ⟨some 85, (some (84, true)), .fa 4 (.t 1)⟩, ⟨some 86, (some (84, true)), .ld none (.t 85)⟩, ⟨some 87, (some (84, true)), .len false (.t 86)⟩, ⟨some 88, (some (84, true)), .ic .gtr (.t 87) (.c (.int .i64 0))⟩, ⟨some 89, (some (81, false)), .pick (.t 84) (.t 88) (.c (.bool false))⟩, ⟨some 90, none, .pick (.t 81) (.c (.bool true)) (.t 89)⟩, ⟨some 91, none, .mv (.t 90)⟩, ⟨some 92, (some (91, false)), .mv (.t 6)⟩, ⟨some 93, (some (91, false)), .notb (.t 92)⟩, ⟨some 94, (some (91, false)), .mv (.t 93)⟩, ⟨some 95, (some (94, true)), .fa 5 (.t 1)⟩, ⟨some 96, (some (94, true)), .ld none (.t 95)⟩, ⟨some 97, (some (94, true)), .len false (.t 96)⟩, ⟨some 98, (some (94, true)), .ic .gtr (.t 97) (.c (.int .i64 0))⟩, ⟨some 99, (some (91, false)), .pick (.t 94) (.t 98) (.c (.bool false))⟩, ⟨some 100, none, .pick (.t 91) (.c (.bool true)) (.t 99)⟩, ⟨some 73, none, .tk (.t 100)⟩])
                (.cond (.t 73)
                  (.seq (.reg [⟨some 2, none, .tk (.c (.bool false))⟩])
                    (.ret))
                  (.skip))))))))
    (.seq (.reg [⟨some 101, none, .fa 3 (.t 1)⟩, ⟨some 102, none, .ld none (.t 101)⟩, ⟨some 103, none, .callc n_slices_ContainsFunc_api_Expr_api_Expr [(.t 102), (.c (.fn (.func n_tree_shape_1) [] []))]⟩, ⟨some 104, none, .notb (.t 103)⟩, ⟨some 2, none, .tk (.t 104)⟩])
    (.ret))))))) }

-- flotsam/tree.stmt$1
def c_tree_stmt_1 : AFunc :=
  { np := 1, res := [.t 2], body := (
    .seq (.reg [⟨some 1, none, .box (.t 0)⟩, ⟨some 2, none, .tk (.c (.bool false))⟩])
    (.seq (.reg [⟨some 3, none, .fa 0 (.t 1)⟩, ⟨some 4, none, .ld none (.t 3)⟩, ⟨some 5, none, .ic .neq (.t 4) (.c (.int .i64 3))⟩, ⟨some 2, none, .tk (.t 5)⟩])
    (.ret))) }

-- flotsam/tree.blocks
def c_tree_blocks : AFunc :=
  { np := 1, res := [.t 2, .t 3], body := (
    .seq (.reg [⟨some 2, none, .tk (.c (.bool false))⟩, ⟨some 3, none, .tk (.c (.bool false))⟩])
    (.seq (.reg [⟨some 4, none, .mv (.t 0)⟩, ⟨some 5, none, .ic .eql (.t 4) (.c (.int .i64 13))⟩, ⟨some 6, none, .mv (.t 5)⟩, ⟨some 7, (some (6, false)), .mv (.t 0)⟩, ⟨some 8, (some (6, false)), .ic .eql (.t 7) (.c (.int .i64 14))⟩, ⟨some 9, none, .pick (.t 6) (.c (.bool true)) (.t 8)⟩, ⟨some 10, none, .mv (.t 9)⟩, ⟨some 11, (some (10, false)), .mv (.t 0)⟩, ⟨some 12, (some (10, false)), .ic .eql (.t 11) (.c (.int .i64 16))⟩, ⟨some 13, none, .pick (.t 10) (.c (.bool true)) (.t 12)⟩, ⟨some 14, none, .mv (.t 0)⟩, ⟨some 15, none, .ic .eql (.t 14) (.c (.int .i64 13))⟩, ⟨some 2, none, .tk (.t 13)⟩, ⟨some 3, none, .tk (.t 15)⟩])
    (.ret))) }

-- flotsam/tree.shape$1
def c_tree_shape_1 : AFunc :=
  { np := 1, res := [.t 2], body := (
    .seq (.reg [⟨some 1, none, .box (.t 0)⟩, ⟨some 2, none, .tk (.c (.bool false))⟩])
    (.seq (.reg [⟨some 3, none, .ld (some 4) (.t 1)⟩, ⟨some 4, none, .callc n_tree_expr [(.t 3), (.c (.int .i64 8))]⟩, ⟨some 5, none, .notb (.t 4)⟩, ⟨some 2, none, .tk (.t 5)⟩])
    (.ret))) }

-- the wide form of flotsam/tree.Clone
def c_tree_Clone_w : AFunc :=
  { np := 1, res := [.cell 2 (some 4)], body := (
    .seq (.reg [⟨some 1, none, .box (.t 0)⟩, ⟨some 2, none, .alloc [.own 2 [], .own 7 [], .own 7 [], .own 5 []]⟩])
    (.seq (.drw [[], [], [], [], [], [], [], [], [2], [], [], [2, 5], [], []] [⟨some 3, none, .fa 0 (.t 1)⟩, ⟨some 4, none, .ld none (.t 3)⟩, ⟨some 5, none, .callx (wNo n_tree_each_api_Proc) [(.t 4), (.c (.fn (.func n_tree_Clone_1) [] []))]⟩, ⟨some 6, none, .fa 1 (.t 1)⟩, ⟨some 7, none, .ld none (.t 6)⟩, ⟨some 8, none, .callx (wNo n_tree_each_api_Stmt) [(.t 7), (.c (.fn (.func n_tree_cloned) [] []))]⟩, ⟨some 9, none, .fa 2 (.t 1)⟩, ⟨some 10, none, .ld none (.t 9)⟩, ⟨some 11, none, .callx (wNo n_tree_each_api_Stmt) [(.t 10), (.c (.fn (.func n_tree_cloned) [] []))]⟩, ⟨some 12, none, .fa 3 (.t 1)⟩, ⟨some 13, none, .ld none (.t 12)⟩, ⟨some 14, none, .callx (wNo n_tree_each_api_Oracle) [(.t 13), (.c (.fn (.func n_tree_Clone_2) [] []))]⟩, ⟨some 15, none, .bld [.sl 2 [], .sl 7 [], .sl 7 [], .sl 5 []] [(0, 1, (.t 5)), (1, 1, (.t 8)), (2, 1, (.t 11)), (3, 1, (.t 14))]⟩, ⟨none, none, .stw 4 (.t 2) (.t 15)⟩])
    (.ret))) }

-- the wide form of flotsam/flotsamlaw16.wipe
def b_flotsamlaw16_wipe_w_0 : AC :=
  .seq (.seq (.reg [⟨some 3, none, .mv (.t 2)⟩, ⟨some 4, none, .mv (.t 0)⟩, ⟨some 5, none, .len false (.t 4)⟩, ⟨some 6, none, .ic .lss (.t 3) (.t 5)⟩])
    (.cond (.t 6)
      (.skip)
      (.exit 0)))
  (.seq (.block 1 (.seq (.reg [⟨some 9, none, .mv (.t 0)⟩, ⟨some 10, none, .mv (.t 2)⟩, ⟨some 11, none, .ixa 7 none (.t 9) (.t 10)⟩, ⟨some 12, none, .fa 3 (.t 11)⟩, ⟨some 13, none, .ld none (.t 12)⟩, ⟨some 14, none, .callk n_flotsamlaw16_wipeExprs [(.t 13)]⟩])
      (.seq (.reg [⟨some 15, none, .mv (.t 0)⟩, ⟨some 16, none, .mv (.t 2)⟩, ⟨some 17, none, .ixa 7 none (.t 15) (.t 16)⟩, ⟨some 18, none, .fa 4 (.t 17)⟩, ⟨some 19, none, .ld none (.t 18)⟩, ⟨some 20, none, .callk n_flotsamlaw16_wipe [(.t 19)]⟩])
      (.seq (.reg [⟨some 21, none, .mv (.t 0)⟩, ⟨some 22, none, .mv (.t 2)⟩, ⟨some 23, none, .ixa 7 none (.t 21) (.t 22)⟩, ⟨some 24, none, .fa 5 (.t 23)⟩, ⟨some 25, none, .ld none (.t 24)⟩, ⟨some 26, none, .callk n_flotsamlaw16_wipe [(.t 25)]⟩])
      (.reg [⟨some 27, none, .mv (.t 0)⟩, ⟨some 28, none, .mv (.t 2)⟩, ⟨some 29, none, .bld [.int .i64 0, .str [], .int .i64 0, .sl 4 [], .sl 7 [], .sl 7 [], .bool false] [(0, 1, (.c (.int .i64 99)))]⟩, ⟨some 30, none, .ixa 7 none (.t 27) (.t 28)⟩, ⟨none, none, .stw 7 (.t 30) (.t 29)⟩])))))
  (.reg [⟨some 7, none, .mv (.t 2)⟩, ⟨some 8, none, .ia .add .i64 (.t 7) (.c (.int .i64 1))⟩, ⟨some 2, none, .tk (.t 8)⟩]))

def l_flotsamlaw16_wipe_w_0 : AC :=
  .loop [0, 2] b_flotsamlaw16_wipe_w_0

def c_flotsamlaw16_wipe_w : AFunc :=
  { np := 1, res := [], body := (
    .seq (.reg [⟨some 2, none, .tk (.c (.int .i64 0))⟩])
    (.block 0 (l_flotsamlaw16_wipe_w_0))) }

-- the wide form of flotsam/flotsamlaw16.wipeExprs
def b_flotsamlaw16_wipeExprs_w_0 : AC :=
  .seq (.seq (.reg [⟨some 3, none, .mv (.t 2)⟩, ⟨some 4, none, .mv (.t 0)⟩, ⟨some 5, none, .len false (.t 4)⟩, ⟨some 6, none, .ic .lss (.t 3) (.t 5)⟩])
    (.cond (.t 6)
      (.skip)
      (.exit 0)))
  (.seq (.block 1 (.seq (.reg [⟨some 9, none, .mv (.t 0)⟩, ⟨some 10, none, .mv (.t 2)⟩, ⟨some 11, none, .ixa 4 none (.t 9) (.t 10)⟩, ⟨some 12, none, .fa 3 (.t 11)⟩, ⟨some 13, none, .ld none (.t 12)⟩, ⟨some 14, none, .callk n_flotsamlaw16_wipeExprs [(.t 13)]⟩])
      (.reg [⟨some 15, none, .mv (.t 0)⟩, ⟨some 16, none, .mv (.t 2)⟩, ⟨some 17, none, .bld [.int .i64 0, .int .i64 0, .str [], .sl 4 []] [(0, 1, (.c (.int .i64 99)))]⟩, ⟨some 18, none, .ixa 4 none (.t 15) (.t 16)⟩, ⟨none, none, .stw 4 (.t 18) (.t 17)⟩])))
  (.reg [⟨some 7, none, .mv (.t 2)⟩, ⟨some 8, none, .ia .add .i64 (.t 7) (.c (.int .i64 1))⟩, ⟨some 2, none, .tk (.t 8)⟩]))

def l_flotsamlaw16_wipeExprs_w_0 : AC :=
  .loop [0, 2] b_flotsamlaw16_wipeExprs_w_0

def c_flotsamlaw16_wipeExprs_w : AFunc :=
  { np := 1, res := [], body := (
    .seq (.reg [⟨some 2, none, .tk (.c (.int .i64 0))⟩])
    (.block 0 (l_flotsamlaw16_wipeExprs_w_0))) }

-- the wide form of flotsam/tree.each[flotsam/api.Proc]
def b_tree_each_api_Proc_w_0 : AC :=
  .seq (.reg [⟨some 11, none, .ic .lss (.t 10) (.t 9)⟩])
  (.seq (.cond (.t 11)
      (.skip)
      (.exit 0))
  (.seq (.block 1 (.seq (.reg [⟨some 12, none, .ixa 2 none (.t 8) (.t 10)⟩, ⟨some 13, none, .ld (some 2) (.t 12)⟩, ⟨some 7, none, .alloc [.str [], .nils 7]⟩, ⟨none, none, .stw 2 (.t 7) (.t 13)⟩])
      (.reg [⟨some 14, none, .tk (.t 5)⟩, ⟨some 15, none, .mv (.t 1)⟩, ⟨some 16, none, .ld (some 2) (.t 7)⟩, ⟨some 17, none, .callvk (.t 15) [(.t 16)]⟩, ⟨some 18, none, .bsl 2 [.str [], .sl 7 []] 1 [(0, 2, (.t 17))] true⟩, ⟨some 19, none, .apm 2 40 (.t 14) (.t 18)⟩, ⟨some 5, none, .tk (.t 19)⟩])))
  (.reg [⟨some 20, none, .ia .add .i64 (.t 10) (.c (.int .i64 1))⟩, ⟨some 10, none, .mv (.t 20)⟩])))

def l_tree_each_api_Proc_w_0 : AC :=
  .loop [1, 5, 8, 9, 10] b_tree_each_api_Proc_w_0

def r_tree_each_api_Proc_w_0 : AC :=
  .seq (.reg [⟨some 21, none, .tk (.t 5)⟩, ⟨some 4, none, .tk (.t 21)⟩])
  (.ret)

def c_tree_each_api_Proc_w : AFunc :=
  { np := 2, res := [.t 4], body := (
    .seq (.reg [⟨some 4, none, .tk (.c (.nils 2))⟩])
    (.seq (.reg [⟨some 5, none, .tk (.c (.nils 2))⟩])
    (.seq (.seq (.reg [⟨some 8, none, .tk (.t 0)⟩, ⟨some 9, none, .len false (.t 8)⟩, ⟨some 10, none, .mv (.c (.int .i64 0))⟩])
      (.block 0 (l_tree_each_api_Proc_w_0))) r_tree_each_api_Proc_w_0))) }

-- the wide form of flotsam/tree.Clone$1
def c_tree_Clone_1_w : AFunc :=
  { np := 1, res := [.cell 2 (some 2)], body := (
    .seq (.reg [⟨some 1, none, .box (.t 0)⟩, ⟨some 2, none, .alloc [.str [], .own 7 []]⟩])
    (.seq (.drw [[], [], [], [], [], [], []] [⟨some 3, none, .fa 0 (.t 1)⟩, ⟨some 4, none, .ld none (.t 3)⟩, ⟨some 5, none, .fa 1 (.t 1)⟩, ⟨some 6, none, .ld none (.t 5)⟩, ⟨some 7, none, .callx (wNo n_tree_each_api_Stmt) [(.t 6), (.c (.fn (.func n_tree_cloned) [] []))]⟩, ⟨some 8, none, .bld [.str [], .sl 7 []] [(0, 1, (.t 4)), (1, 1, (.t 7))]⟩, ⟨none, none, .stw 2 (.t 2) (.t 8)⟩])
    (.ret))) }

-- the wide form of flotsam/tree.each[flotsam/api.Stmt]
def b_tree_each_api_Stmt_w_0 : AC :=
  .seq (.reg [⟨some 11, none, .ic .lss (.t 10) (.t 9)⟩])
  (.seq (.cond (.t 11)
      (.skip)
      (.exit 0))
  (.seq (.block 1 (.seq (.reg [⟨some 12, none, .ixa 7 none (.t 8) (.t 10)⟩, ⟨some 13, none, .ld (some 7) (.t 12)⟩, ⟨some 7, none, .alloc [.int .i64 0, .str [], .int .i64 0, .nils 4, .nils 7, .nils 7, .bool false]⟩, ⟨none, none, .stw 7 (.t 7) (.t 13)⟩])
      (.reg [⟨some 14, none, .tk (.t 5)⟩, ⟨some 15, none, .mv (.t 1)⟩, ⟨some 16, none, .ld (some 7) (.t 7)⟩, ⟨some 17, none, .callvk (.t 15) [(.t 16)]⟩, ⟨some 18, none, .bsl 7 [.int .i64 0, .str [], .int .i64 0, .sl 4 [], .sl 7 [], .sl 7 [], .bool false] 1 [(0, 7, (.t 17))] true⟩, ⟨some 19, none, .apm 7 112 (.t 14) (.t 18)⟩, ⟨some 5, none, .tk (.t 19)⟩])))
  (.reg [⟨some 20, none, .ia .add .i64 (.t 10) (.c (.int .i64 1))⟩, ⟨some 10, none, .mv (.t 20)⟩])))

def l_tree_each_api_Stmt_w_0 : AC :=
  .loop [1, 5, 8, 9, 10] b_tree_each_api_Stmt_w_0

def r_tree_each_api_Stmt_w_0 : AC :=
  .seq (.reg [⟨some 21, none, .tk (.t 5)⟩, ⟨some 4, none, .tk (.t 21)⟩])
  (.ret)

def c_tree_each_api_Stmt_w : AFunc :=
  { np := 2, res := [.t 4], body := (
    .seq (.reg [⟨some 4, none, .tk (.c (.nils 7))⟩])
    (.seq (.reg [⟨some 5, none, .tk (.c (.nils 7))⟩])
    (.seq (.seq (.reg [⟨some 8, none, .tk (.t 0)⟩, ⟨some 9, none, .len false (.t 8)⟩, ⟨some 10, none, .mv (.c (.int .i64 0))⟩])
      (.block 0 (l_tree_each_api_Stmt_w_0))) r_tree_each_api_Stmt_w_0))) }

-- the wide form of flotsam/tree.cloned
def c_tree_cloned_w : AFunc :=
  { np := 1, res := [.cell 2 (some 7)], body := (
    .seq (.reg [⟨some 1, none, .box (.t 0)⟩, ⟨some 2, none, .alloc [.int .i64 0, .str [], .int .i64 0, .own 4 [], .own 7 [], .own 7 [], .bool false]⟩])
    (.seq (.reg [⟨some 3, none, .fa 3 (.t 1)⟩, ⟨some 4, none, .ld none (.t 3)⟩, ⟨some 5, none, .callx (wNo n_tree_each_api_Expr) [(.t 4), (.c (.fn (.func n_tree_clonedExpr) [] []))]⟩, ⟨some 6, none, .fa 3 (.t 1)⟩, ⟨none, none, .stw 1 (.t 6) (.t 5)⟩])
    (.seq (.reg [⟨some 7, none, .fa 4 (.t 1)⟩, ⟨some 8, none, .ld none (.t 7)⟩, ⟨some 9, none, .callx (wNo n_tree_each_api_Stmt) [(.t 8), (.c (.fn (.func n_tree_cloned) [] []))]⟩, ⟨some 10, none, .fa 4 (.t 1)⟩, ⟨none, none, .stw 1 (.t 10) (.t 9)⟩])
    (.seq (.reg [⟨some 11, none, .fa 5 (.t 1)⟩, ⟨some 12, none, .ld none (.t 11)⟩, ⟨some 13, none, .callx (wNo n_tree_each_api_Stmt) [(.t 12), (.c (.fn (.func n_tree_cloned) [] []))]⟩, ⟨some 14, none, .fa 5 (.t 1)⟩, ⟨none, none, .stw 1 (.t 14) (.t 13)⟩])
    (.seq (.reg [⟨some 15, none, .ld (some 7) (.t 1)⟩, ⟨none, none, .stw 7 (.t 2) (.t 15)⟩])
    (.ret)))))) }

-- the wide form of flotsam/tree.each[flotsam/api.Oracle]
def b_tree_each_api_Oracle_w_0 : AC :=
  .seq (.reg [⟨some 11, none, .ic .lss (.t 10) (.t 9)⟩])
  (.seq (.cond (.t 11)
      (.skip)
      (.exit 0))
  (.seq (.block 1 (.seq (.reg [⟨some 12, none, .ixa 5 none (.t 8) (.t 10)⟩, ⟨some 13, none, .ld (some 5) (.t 12)⟩, ⟨some 7, none, .alloc [.str [], .int .i64 0, .int .i64 0, .str [], .nils 4]⟩, ⟨none, none, .stw 5 (.t 7) (.t 13)⟩])
      (.reg [⟨some 14, none, .tk (.t 5)⟩, ⟨some 15, none, .mv (.t 1)⟩, ⟨some 16, none, .ld (some 5) (.t 7)⟩, ⟨some 17, none, .callvk (.t 15) [(.t 16)]⟩, ⟨some 18, none, .bsl 5 [.str [], .int .i64 0, .int .i64 0, .str [], .sl 4 []] 1 [(0, 5, (.t 17))] true⟩, ⟨some 19, none, .apm 5 72 (.t 14) (.t 18)⟩, ⟨some 5, none, .tk (.t 19)⟩])))
  (.reg [⟨some 20, none, .ia .add .i64 (.t 10) (.c (.int .i64 1))⟩, ⟨some 10, none, .mv (.t 20)⟩])))

def l_tree_each_api_Oracle_w_0 : AC :=
  .loop [1, 5, 8, 9, 10] b_tree_each_api_Oracle_w_0

def r_tree_each_api_Oracle_w_0 : AC :=
  .seq (.reg [⟨some 21, none, .tk (.t 5)⟩, ⟨some 4, none, .tk (.t 21)⟩])
  (.ret)

def c_tree_each_api_Oracle_w : AFunc :=
  { np := 2, res := [.t 4], body := (
    .seq (.reg [⟨some 4, none, .tk (.c (.nils 5))⟩])
    (.seq (.reg [⟨some 5, none, .tk (.c (.nils 5))⟩])
    (.seq (.seq (.reg [⟨some 8, none, .tk (.t 0)⟩, ⟨some 9, none, .len false (.t 8)⟩, ⟨some 10, none, .mv (.c (.int .i64 0))⟩])
      (.block 0 (l_tree_each_api_Oracle_w_0))) r_tree_each_api_Oracle_w_0))) }

-- the wide form of flotsam/tree.Clone$2
def c_tree_Clone_2_w : AFunc :=
  { np := 1, res := [.cell 2 (some 5)], body := (
    .seq (.reg [⟨some 1, none, .box (.t 0)⟩, ⟨some 2, none, .alloc [.str [], .int .i64 0, .int .i64 0, .str [], .own 4 []]⟩])
    (.seq (.drw [[], [], [], [], [], [], []] [⟨some 3, none, .fa 0 (.t 1)⟩, ⟨some 4, none, .ld none (.t 3)⟩, ⟨some 5, none, .fa 1 (.t 1)⟩, ⟨some 6, none, .ld (some 4) (.t 5)⟩, ⟨some 7, none, .callx (wNo n_tree_clonedExpr) [(.t 6)]⟩, ⟨some 8, none, .bld [.str [], .int .i64 0, .int .i64 0, .str [], .sl 4 []] [(0, 1, (.t 4)), (1, 4, (.t 7))]⟩, ⟨none, none, .stw 5 (.t 2) (.t 8)⟩])
    (.ret))) }

-- the wide form of flotsam/tree.clonedExpr
def c_tree_clonedExpr_w : AFunc :=
  { np := 1, res := [.cell 2 (some 4)], body := (
    .seq (.reg [⟨some 1, none, .box (.t 0)⟩, ⟨some 2, none, .alloc [.int .i64 0, .int .i64 0, .str [], .own 4 []]⟩])
    (.seq (.reg [⟨some 3, none, .fa 3 (.t 1)⟩, ⟨some 4, none, .ld none (.t 3)⟩, ⟨some 5, none, .callx (wNo n_tree_each_api_Expr) [(.t 4), (.c (.fn (.func n_tree_clonedExpr) [] []))]⟩, ⟨some 6, none, .fa 3 (.t 1)⟩, ⟨none, none, .stw 1 (.t 6) (.t 5)⟩])
    (.seq (.reg [⟨some 7, none, .ld (some 4) (.t 1)⟩, ⟨none, none, .stw 4 (.t 2) (.t 7)⟩])
    (.ret)))) }

-- the wide form of flotsam/tree.each[flotsam/api.Expr]
def b_tree_each_api_Expr_w_0 : AC :=
  .seq (.reg [⟨some 11, none, .ic .lss (.t 10) (.t 9)⟩])
  (.seq (.cond (.t 11)
      (.skip)
      (.exit 0))
  (.seq (.block 1 (.seq (.reg [⟨some 12, none, .ixa 4 none (.t 8) (.t 10)⟩, ⟨some 13, none, .ld (some 4) (.t 12)⟩, ⟨some 7, none, .alloc [.int .i64 0, .int .i64 0, .str [], .nils 4]⟩, ⟨none, none, .stw 4 (.t 7) (.t 13)⟩])
      (.reg [⟨some 14, none, .tk (.t 5)⟩, ⟨some 15, none, .mv (.t 1)⟩, ⟨some 16, none, .ld (some 4) (.t 7)⟩, ⟨some 17, none, .callvk (.t 15) [(.t 16)]⟩, ⟨some 18, none, .bsl 4 [.int .i64 0, .int .i64 0, .str [], .sl 4 []] 1 [(0, 4, (.t 17))] true⟩, ⟨some 19, none, .apm 4 56 (.t 14) (.t 18)⟩, ⟨some 5, none, .tk (.t 19)⟩])))
  (.reg [⟨some 20, none, .ia .add .i64 (.t 10) (.c (.int .i64 1))⟩, ⟨some 10, none, .mv (.t 20)⟩])))

def l_tree_each_api_Expr_w_0 : AC :=
  .loop [1, 5, 8, 9, 10] b_tree_each_api_Expr_w_0

def r_tree_each_api_Expr_w_0 : AC :=
  .seq (.reg [⟨some 21, none, .tk (.t 5)⟩, ⟨some 4, none, .tk (.t 21)⟩])
  (.ret)

def c_tree_each_api_Expr_w : AFunc :=
  { np := 2, res := [.t 4], body := (
    .seq (.reg [⟨some 4, none, .tk (.c (.nils 4))⟩])
    (.seq (.reg [⟨some 5, none, .tk (.c (.nils 4))⟩])
    (.seq (.seq (.reg [⟨some 8, none, .tk (.t 0)⟩, ⟨some 9, none, .len false (.t 8)⟩, ⟨some 10, none, .mv (.c (.int .i64 0))⟩])
      (.block 0 (l_tree_each_api_Expr_w_0))) r_tree_each_api_Expr_w_0))) }

def tbl : Tbl := Tab.get [(5, c_flotsamlaw16_Small), (6, c_flotsamlaw16_knows), (7, c_tree_Clone), (8, c_flotsamref16_Copy), (9, c_tree_Same), (10, c_flotsamref16_Same), (13, c_tree_All), (14, c_tree_Count), (16, c_flotsamref16_SameStmts), (17, c_flotsamref16_Size), (18, c_tree_Exprs), (19, c_tree_Parts), (20, c_tree_Right), (21, c_tree_each_api_Proc), (22, c_tree_Clone_1), (23, c_tree_each_api_Stmt), (24, c_tree_cloned), (25, c_tree_each_api_Oracle), (26, c_tree_Clone_2), (27, c_tree_clonedExpr), (28, c_flotsamref16_CopyStmts), (29, c_flotsamref16_CopyExpr), (30, c_tree_Same_1), (31, c_tree_lists_api_Stmt), (32, c_tree_statements), (33, c_tree_Same_2), (34, c_tree_expressions), (35, c_tree_lists_api_Proc), (36, c_tree_lists_api_Oracle), (37, c_flotsamref16_SameExpr), (38, c_tree_parts), (39, c_tree_walk), (40, c_flotsamref16_SameStmt), (41, c_flotsamref16_block), (42, c_flotsamref16_expr), (43, c_tree_Right_1), (44, c_lex_Name), (45, c_tree_Right_2), (46, c_tree_expr), (47, c_tree_Right_3), (48, c_tree_block), (49, c_slices_ContainsFunc_api_Proc_api_Proc), (50, c_slices_ContainsFunc_api_Oracle_api_Oracle), (51, c_slices_ContainsFunc_api_Stmt_api_Stmt), (52, c_tree_each_api_Expr), (53, c_slices_EqualFunc_api_Stmt_api_Stmt_api_Stmt_api_Stmt), (54, c_slices_EqualFunc_api_Expr_api_Expr_api_Expr_api_Expr), (55, c_slices_EqualFunc_api_Proc_api_Proc_api_Proc_api_Proc), (56, c_slices_EqualFunc_api_Oracle_api_Oracle_api_Oracle_api_Oracle), (57, c_tree_walk_1), (58, c_lex_begins), (59, c_lex_letter), (61, c_lex_inner), (62, c_lex_Key), (63, c_slices_ContainsFunc_api_Expr_api_Expr), (64, c_tree_expr_1), (65, c_slices_ContainsFunc_api_Stmt_api_Stmt_x), (66, c_tree_block_1), (67, c_tree_stmt), (68, c_slices_IndexFunc_api_Proc_api_Proc), (69, c_slices_IndexFunc_api_Oracle_api_Oracle), (70, c_slices_IndexFunc_api_Stmt_api_Stmt), (73, c_lex_digit), (75, c_slices_IndexFunc_api_Expr_api_Expr), (76, c_slices_IndexFunc_api_Stmt_api_Stmt_x), (77, c_tree_shape), (78, c_tree_stmt_1), (81, c_tree_blocks), (82, c_tree_shape_1), (3000007, c_tree_Clone_w), (3000011, c_flotsamlaw16_wipe_w), (3000012, c_flotsamlaw16_wipeExprs_w), (3000021, c_tree_each_api_Proc_w), (3000022, c_tree_Clone_1_w), (3000023, c_tree_each_api_Stmt_w), (3000024, c_tree_cloned_w), (3000025, c_tree_each_api_Oracle_w), (3000026, c_tree_Clone_2_w), (3000027, c_tree_clonedExpr_w), (3000052, c_tree_each_api_Expr_w), (2001300, ⟨0, .seq a_tree_All_0 y_tree_All_0, []⟩), (2001400, ⟨0, .seq a_tree_Count_0 y_tree_Count_0, []⟩), (2005700, ⟨0, .seq a_tree_walk_1_0 y_tree_walk_1_0, []⟩)]

theorem t_flotsamlaw16_Small : tbl n_flotsamlaw16_Small = some c_flotsamlaw16_Small := by kernel_rfl
theorem t_flotsamlaw16_knows : tbl n_flotsamlaw16_knows = some c_flotsamlaw16_knows := by kernel_rfl
theorem t_tree_Clone : tbl n_tree_Clone = some c_tree_Clone := by kernel_rfl
theorem t_flotsamref16_Copy : tbl n_flotsamref16_Copy = some c_flotsamref16_Copy := by kernel_rfl
theorem t_tree_Same : tbl n_tree_Same = some c_tree_Same := by kernel_rfl
theorem t_flotsamref16_Same : tbl n_flotsamref16_Same = some c_flotsamref16_Same := by kernel_rfl
theorem t_tree_All : tbl n_tree_All = some c_tree_All := by kernel_rfl
theorem t_tree_Count : tbl n_tree_Count = some c_tree_Count := by kernel_rfl
theorem t_flotsamref16_SameStmts : tbl n_flotsamref16_SameStmts = some c_flotsamref16_SameStmts := by kernel_rfl
theorem t_flotsamref16_Size : tbl n_flotsamref16_Size = some c_flotsamref16_Size := by kernel_rfl
theorem t_tree_Exprs : tbl n_tree_Exprs = some c_tree_Exprs := by kernel_rfl
theorem t_tree_Parts : tbl n_tree_Parts = some c_tree_Parts := by kernel_rfl
theorem t_tree_Right : tbl n_tree_Right = some c_tree_Right := by kernel_rfl
theorem t_tree_each_api_Proc : tbl n_tree_each_api_Proc = some c_tree_each_api_Proc := by kernel_rfl
theorem t_tree_Clone_1 : tbl n_tree_Clone_1 = some c_tree_Clone_1 := by kernel_rfl
theorem t_tree_each_api_Stmt : tbl n_tree_each_api_Stmt = some c_tree_each_api_Stmt := by kernel_rfl
theorem t_tree_cloned : tbl n_tree_cloned = some c_tree_cloned := by kernel_rfl
theorem t_tree_each_api_Oracle : tbl n_tree_each_api_Oracle = some c_tree_each_api_Oracle := by kernel_rfl
theorem t_tree_Clone_2 : tbl n_tree_Clone_2 = some c_tree_Clone_2 := by kernel_rfl
theorem t_tree_clonedExpr : tbl n_tree_clonedExpr = some c_tree_clonedExpr := by kernel_rfl
theorem t_flotsamref16_CopyStmts : tbl n_flotsamref16_CopyStmts = some c_flotsamref16_CopyStmts := by kernel_rfl
theorem t_flotsamref16_CopyExpr : tbl n_flotsamref16_CopyExpr = some c_flotsamref16_CopyExpr := by kernel_rfl
theorem t_tree_Same_1 : tbl n_tree_Same_1 = some c_tree_Same_1 := by kernel_rfl
theorem t_tree_lists_api_Stmt : tbl n_tree_lists_api_Stmt = some c_tree_lists_api_Stmt := by kernel_rfl
theorem t_tree_statements : tbl n_tree_statements = some c_tree_statements := by kernel_rfl
theorem t_tree_Same_2 : tbl n_tree_Same_2 = some c_tree_Same_2 := by kernel_rfl
theorem t_tree_expressions : tbl n_tree_expressions = some c_tree_expressions := by kernel_rfl
theorem t_tree_lists_api_Proc : tbl n_tree_lists_api_Proc = some c_tree_lists_api_Proc := by kernel_rfl
theorem t_tree_lists_api_Oracle : tbl n_tree_lists_api_Oracle = some c_tree_lists_api_Oracle := by kernel_rfl
theorem t_flotsamref16_SameExpr : tbl n_flotsamref16_SameExpr = some c_flotsamref16_SameExpr := by kernel_rfl
theorem t_tree_parts : tbl n_tree_parts = some c_tree_parts := by kernel_rfl
theorem t_tree_walk : tbl n_tree_walk = some c_tree_walk := by kernel_rfl
theorem t_flotsamref16_SameStmt : tbl n_flotsamref16_SameStmt = some c_flotsamref16_SameStmt := by kernel_rfl
theorem t_flotsamref16_block : tbl n_flotsamref16_block = some c_flotsamref16_block := by kernel_rfl
theorem t_flotsamref16_expr : tbl n_flotsamref16_expr = some c_flotsamref16_expr := by kernel_rfl
theorem t_tree_Right_1 : tbl n_tree_Right_1 = some c_tree_Right_1 := by kernel_rfl
theorem t_lex_Name : tbl n_lex_Name = some c_lex_Name := by kernel_rfl
theorem t_tree_Right_2 : tbl n_tree_Right_2 = some c_tree_Right_2 := by kernel_rfl
theorem t_tree_expr : tbl n_tree_expr = some c_tree_expr := by kernel_rfl
theorem t_tree_Right_3 : tbl n_tree_Right_3 = some c_tree_Right_3 := by kernel_rfl
theorem t_tree_block : tbl n_tree_block = some c_tree_block := by kernel_rfl
theorem t_slices_ContainsFunc_api_Proc_api_Proc : tbl n_slices_ContainsFunc_api_Proc_api_Proc = some c_slices_ContainsFunc_api_Proc_api_Proc := by kernel_rfl
theorem t_slices_ContainsFunc_api_Oracle_api_Oracle : tbl n_slices_ContainsFunc_api_Oracle_api_Oracle = some c_slices_ContainsFunc_api_Oracle_api_Oracle := by kernel_rfl
theorem t_slices_ContainsFunc_api_Stmt_api_Stmt : tbl n_slices_ContainsFunc_api_Stmt_api_Stmt = some c_slices_ContainsFunc_api_Stmt_api_Stmt := by kernel_rfl
theorem t_tree_each_api_Expr : tbl n_tree_each_api_Expr = some c_tree_each_api_Expr := by kernel_rfl
theorem t_slices_EqualFunc_api_Stmt_api_Stmt_api_Stmt_api_Stmt : tbl n_slices_EqualFunc_api_Stmt_api_Stmt_api_Stmt_api_Stmt = some c_slices_EqualFunc_api_Stmt_api_Stmt_api_Stmt_api_Stmt := by kernel_rfl
theorem t_slices_EqualFunc_api_Expr_api_Expr_api_Expr_api_Expr : tbl n_slices_EqualFunc_api_Expr_api_Expr_api_Expr_api_Expr = some c_slices_EqualFunc_api_Expr_api_Expr_api_Expr_api_Expr := by kernel_rfl
theorem t_slices_EqualFunc_api_Proc_api_Proc_api_Proc_api_Proc : tbl n_slices_EqualFunc_api_Proc_api_Proc_api_Proc_api_Proc = some c_slices_EqualFunc_api_Proc_api_Proc_api_Proc_api_Proc := by kernel_rfl
theorem t_slices_EqualFunc_api_Oracle_api_Oracle_api_Oracle_api_Oracle : tbl n_slices_EqualFunc_api_Oracle_api_Oracle_api_Oracle_api_Oracle = some c_slices_EqualFunc_api_Oracle_api_Oracle_api_Oracle_api_Oracle := by kernel_rfl
theorem t_tree_walk_1 : tbl n_tree_walk_1 = some c_tree_walk_1 := by kernel_rfl
theorem t_lex_begins : tbl n_lex_begins = some c_lex_begins := by kernel_rfl
theorem t_lex_letter : tbl n_lex_letter = some c_lex_letter := by kernel_rfl
theorem t_lex_inner : tbl n_lex_inner = some c_lex_inner := by kernel_rfl
theorem t_lex_Key : tbl n_lex_Key = some c_lex_Key := by kernel_rfl
theorem t_slices_ContainsFunc_api_Expr_api_Expr : tbl n_slices_ContainsFunc_api_Expr_api_Expr = some c_slices_ContainsFunc_api_Expr_api_Expr := by kernel_rfl
theorem t_tree_expr_1 : tbl n_tree_expr_1 = some c_tree_expr_1 := by kernel_rfl
theorem t_slices_ContainsFunc_api_Stmt_api_Stmt_x : tbl n_slices_ContainsFunc_api_Stmt_api_Stmt_x = some c_slices_ContainsFunc_api_Stmt_api_Stmt_x := by kernel_rfl
theorem t_tree_block_1 : tbl n_tree_block_1 = some c_tree_block_1 := by kernel_rfl
theorem t_tree_stmt : tbl n_tree_stmt = some c_tree_stmt := by kernel_rfl
theorem t_slices_IndexFunc_api_Proc_api_Proc : tbl n_slices_IndexFunc_api_Proc_api_Proc = some c_slices_IndexFunc_api_Proc_api_Proc := by kernel_rfl
theorem t_slices_IndexFunc_api_Oracle_api_Oracle : tbl n_slices_IndexFunc_api_Oracle_api_Oracle = some c_slices_IndexFunc_api_Oracle_api_Oracle := by kernel_rfl
theorem t_slices_IndexFunc_api_Stmt_api_Stmt : tbl n_slices_IndexFunc_api_Stmt_api_Stmt = some c_slices_IndexFunc_api_Stmt_api_Stmt := by kernel_rfl
theorem t_lex_digit : tbl n_lex_digit = some c_lex_digit := by kernel_rfl
theorem t_slices_IndexFunc_api_Expr_api_Expr : tbl n_slices_IndexFunc_api_Expr_api_Expr = some c_slices_IndexFunc_api_Expr_api_Expr := by kernel_rfl
theorem t_slices_IndexFunc_api_Stmt_api_Stmt_x : tbl n_slices_IndexFunc_api_Stmt_api_Stmt_x = some c_slices_IndexFunc_api_Stmt_api_Stmt_x := by kernel_rfl
theorem t_tree_shape : tbl n_tree_shape = some c_tree_shape := by kernel_rfl
theorem t_tree_stmt_1 : tbl n_tree_stmt_1 = some c_tree_stmt_1 := by kernel_rfl
theorem t_tree_blocks : tbl n_tree_blocks = some c_tree_blocks := by kernel_rfl
theorem t_tree_shape_1 : tbl n_tree_shape_1 = some c_tree_shape_1 := by kernel_rfl
theorem tw_tree_Clone : tbl (wTab n_tree_Clone) = some c_tree_Clone_w := by kernel_rfl
theorem tw_flotsamlaw16_wipe : tbl (wTab n_flotsamlaw16_wipe) = some c_flotsamlaw16_wipe_w := by kernel_rfl
theorem tw_flotsamlaw16_wipeExprs : tbl (wTab n_flotsamlaw16_wipeExprs) = some c_flotsamlaw16_wipeExprs_w := by kernel_rfl
theorem tw_tree_each_api_Proc : tbl (wTab n_tree_each_api_Proc) = some c_tree_each_api_Proc_w := by kernel_rfl
theorem tw_tree_Clone_1 : tbl (wTab n_tree_Clone_1) = some c_tree_Clone_1_w := by kernel_rfl
theorem tw_tree_each_api_Stmt : tbl (wTab n_tree_each_api_Stmt) = some c_tree_each_api_Stmt_w := by kernel_rfl
theorem tw_tree_cloned : tbl (wTab n_tree_cloned) = some c_tree_cloned_w := by kernel_rfl
theorem tw_tree_each_api_Oracle : tbl (wTab n_tree_each_api_Oracle) = some c_tree_each_api_Oracle_w := by kernel_rfl
theorem tw_tree_Clone_2 : tbl (wTab n_tree_Clone_2) = some c_tree_Clone_2_w := by kernel_rfl
theorem tw_tree_clonedExpr : tbl (wTab n_tree_clonedExpr) = some c_tree_clonedExpr_w := by kernel_rfl
theorem tw_tree_each_api_Expr : tbl (wTab n_tree_each_api_Expr) = some c_tree_each_api_Expr_w := by kernel_rfl
theorem u_tree_All_0 : tbl q_tree_All_0 = some ⟨0, .seq a_tree_All_0 y_tree_All_0, []⟩ := by kernel_rfl
theorem u_tree_Count_0 : tbl q_tree_Count_0 = some ⟨0, .seq a_tree_Count_0 y_tree_Count_0, []⟩ := by kernel_rfl
theorem u_tree_walk_1_0 : tbl q_tree_walk_1_0 = some ⟨0, .seq a_tree_walk_1_0 y_tree_walk_1_0, []⟩ := by kernel_rfl

/-- The functions that are taken as given. -/
def noExt : Ext := fun k => if k = n_strings_Contains then some (xContains) else if k = n_lex_run then some (xRun n_lex_letter n_lex_digit n_lex_inner) else none

theorem lt_flotsamlaw16_Small : n_flotsamlaw16_Small < yBase := Nat.le_of_ble_eq_true rfl
theorem lt_flotsamlaw16_knows : n_flotsamlaw16_knows < yBase := Nat.le_of_ble_eq_true rfl
theorem lt_tree_Clone : n_tree_Clone < yBase := Nat.le_of_ble_eq_true rfl
theorem lt_flotsamref16_Copy : n_flotsamref16_Copy < yBase := Nat.le_of_ble_eq_true rfl
theorem lt_tree_Same : n_tree_Same < yBase := Nat.le_of_ble_eq_true rfl
theorem lt_flotsamref16_Same : n_flotsamref16_Same < yBase := Nat.le_of_ble_eq_true rfl
theorem lt_flotsamlaw16_wipe : n_flotsamlaw16_wipe < yBase := Nat.le_of_ble_eq_true rfl
theorem lt_flotsamlaw16_wipeExprs : n_flotsamlaw16_wipeExprs < yBase := Nat.le_of_ble_eq_true rfl
theorem lt_tree_All : n_tree_All < yBase := Nat.le_of_ble_eq_true rfl
theorem lt_tree_Count : n_tree_Count < yBase := Nat.le_of_ble_eq_true rfl
theorem lt_flotsamref16_SameStmts : n_flotsamref16_SameStmts < yBase := Nat.le_of_ble_eq_true rfl
theorem lt_flotsamref16_Size : n_flotsamref16_Size < yBase := Nat.le_of_ble_eq_true rfl
theorem lt_tree_Exprs : n_tree_Exprs < yBase := Nat.le_of_ble_eq_true rfl
theorem lt_tree_Parts : n_tree_Parts < yBase := Nat.le_of_ble_eq_true rfl
theorem lt_tree_Right : n_tree_Right < yBase := Nat.le_of_ble_eq_true rfl
theorem lt_tree_each_api_Proc : n_tree_each_api_Proc < yBase := Nat.le_of_ble_eq_true rfl
theorem lt_tree_Clone_1 : n_tree_Clone_1 < yBase := Nat.le_of_ble_eq_true rfl
theorem lt_tree_each_api_Stmt : n_tree_each_api_Stmt < yBase := Nat.le_of_ble_eq_true rfl
theorem lt_tree_cloned : n_tree_cloned < yBase := Nat.le_of_ble_eq_true rfl
theorem lt_tree_each_api_Oracle : n_tree_each_api_Oracle < yBase := Nat.le_of_ble_eq_true rfl
theorem lt_tree_Clone_2 : n_tree_Clone_2 < yBase := Nat.le_of_ble_eq_true rfl
theorem lt_tree_clonedExpr : n_tree_clonedExpr < yBase := Nat.le_of_ble_eq_true rfl
theorem lt_flotsamref16_CopyStmts : n_flotsamref16_CopyStmts < yBase := Nat.le_of_ble_eq_true rfl
theorem lt_flotsamref16_CopyExpr : n_flotsamref16_CopyExpr < yBase := Nat.le_of_ble_eq_true rfl
theorem lt_tree_Same_1 : n_tree_Same_1 < yBase := Nat.le_of_ble_eq_true rfl
theorem lt_tree_lists_api_Stmt : n_tree_lists_api_Stmt < yBase := Nat.le_of_ble_eq_true rfl
theorem lt_tree_statements : n_tree_statements < yBase := Nat.le_of_ble_eq_true rfl
theorem lt_tree_Same_2 : n_tree_Same_2 < yBase := Nat.le_of_ble_eq_true rfl
theorem lt_tree_expressions : n_tree_expressions < yBase := Nat.le_of_ble_eq_true rfl
theorem lt_tree_lists_api_Proc : n_tree_lists_api_Proc < yBase := Nat.le_of_ble_eq_true rfl
theorem lt_tree_lists_api_Oracle : n_tree_lists_api_Oracle < yBase := Nat.le_of_ble_eq_true rfl
theorem lt_flotsamref16_SameExpr : n_flotsamref16_SameExpr < yBase := Nat.le_of_ble_eq_true rfl
theorem lt_tree_parts : n_tree_parts < yBase := Nat.le_of_ble_eq_true rfl
theorem lt_tree_walk : n_tree_walk < yBase := Nat.le_of_ble_eq_true rfl
theorem lt_flotsamref16_SameStmt : n_flotsamref16_SameStmt < yBase := Nat.le_of_ble_eq_true rfl
theorem lt_flotsamref16_block : n_flotsamref16_block < yBase := Nat.le_of_ble_eq_true rfl
theorem lt_flotsamref16_expr : n_flotsamref16_expr < yBase := Nat.le_of_ble_eq_true rfl
theorem lt_tree_Right_1 : n_tree_Right_1 < yBase := Nat.le_of_ble_eq_true rfl
theorem lt_lex_Name : n_lex_Name < yBase := Nat.le_of_ble_eq_true rfl
theorem lt_tree_Right_2 : n_tree_Right_2 < yBase := Nat.le_of_ble_eq_true rfl
theorem lt_tree_expr : n_tree_expr < yBase := Nat.le_of_ble_eq_true rfl
theorem lt_tree_Right_3 : n_tree_Right_3 < yBase := Nat.le_of_ble_eq_true rfl
theorem lt_tree_block : n_tree_block < yBase := Nat.le_of_ble_eq_true rfl
theorem lt_slices_ContainsFunc_api_Proc_api_Proc : n_slices_ContainsFunc_api_Proc_api_Proc < yBase := Nat.le_of_ble_eq_true rfl
theorem lt_slices_ContainsFunc_api_Oracle_api_Oracle : n_slices_ContainsFunc_api_Oracle_api_Oracle < yBase := Nat.le_of_ble_eq_true rfl
theorem lt_slices_ContainsFunc_api_Stmt_api_Stmt : n_slices_ContainsFunc_api_Stmt_api_Stmt < yBase := Nat.le_of_ble_eq_true rfl
theorem lt_tree_each_api_Expr : n_tree_each_api_Expr < yBase := Nat.le_of_ble_eq_true rfl
theorem lt_slices_EqualFunc_api_Stmt_api_Stmt_api_Stmt_api_Stmt : n_slices_EqualFunc_api_Stmt_api_Stmt_api_Stmt_api_Stmt < yBase := Nat.le_of_ble_eq_true rfl
theorem lt_slices_EqualFunc_api_Expr_api_Expr_api_Expr_api_Expr : n_slices_EqualFunc_api_Expr_api_Expr_api_Expr_api_Expr < yBase := Nat.le_of_ble_eq_true rfl
theorem lt_slices_EqualFunc_api_Proc_api_Proc_api_Proc_api_Proc : n_slices_EqualFunc_api_Proc_api_Proc_api_Proc_api_Proc < yBase := Nat.le_of_ble_eq_true rfl
theorem lt_slices_EqualFunc_api_Oracle_api_Oracle_api_Oracle_api_Oracle : n_slices_EqualFunc_api_Oracle_api_Oracle_api_Oracle_api_Oracle < yBase := Nat.le_of_ble_eq_true rfl
theorem lt_tree_walk_1 : n_tree_walk_1 < yBase := Nat.le_of_ble_eq_true rfl
theorem lt_lex_begins : n_lex_begins < yBase := Nat.le_of_ble_eq_true rfl
theorem lt_lex_letter : n_lex_letter < yBase := Nat.le_of_ble_eq_true rfl
theorem lt_lex_run : n_lex_run < yBase := Nat.le_of_ble_eq_true rfl
theorem lt_lex_inner : n_lex_inner < yBase := Nat.le_of_ble_eq_true rfl
theorem lt_lex_Key : n_lex_Key < yBase := Nat.le_of_ble_eq_true rfl
theorem lt_slices_ContainsFunc_api_Expr_api_Expr : n_slices_ContainsFunc_api_Expr_api_Expr < yBase := Nat.le_of_ble_eq_true rfl
theorem lt_tree_expr_1 : n_tree_expr_1 < yBase := Nat.le_of_ble_eq_true rfl
theorem lt_slices_ContainsFunc_api_Stmt_api_Stmt_x : n_slices_ContainsFunc_api_Stmt_api_Stmt_x < yBase := Nat.le_of_ble_eq_true rfl
theorem lt_tree_block_1 : n_tree_block_1 < yBase := Nat.le_of_ble_eq_true rfl
theorem lt_tree_stmt : n_tree_stmt < yBase := Nat.le_of_ble_eq_true rfl
theorem lt_slices_IndexFunc_api_Proc_api_Proc : n_slices_IndexFunc_api_Proc_api_Proc < yBase := Nat.le_of_ble_eq_true rfl
theorem lt_slices_IndexFunc_api_Oracle_api_Oracle : n_slices_IndexFunc_api_Oracle_api_Oracle < yBase := Nat.le_of_ble_eq_true rfl
theorem lt_slices_IndexFunc_api_Stmt_api_Stmt : n_slices_IndexFunc_api_Stmt_api_Stmt < yBase := Nat.le_of_ble_eq_true rfl
theorem lt_lex_digit : n_lex_digit < yBase := Nat.le_of_ble_eq_true rfl
theorem lt_strings_Contains : n_strings_Contains < yBase := Nat.le_of_ble_eq_true rfl
theorem lt_slices_IndexFunc_api_Expr_api_Expr : n_slices_IndexFunc_api_Expr_api_Expr < yBase := Nat.le_of_ble_eq_true rfl
theorem lt_slices_IndexFunc_api_Stmt_api_Stmt_x : n_slices_IndexFunc_api_Stmt_api_Stmt_x < yBase := Nat.le_of_ble_eq_true rfl
theorem lt_tree_shape : n_tree_shape < yBase := Nat.le_of_ble_eq_true rfl
theorem lt_tree_stmt_1 : n_tree_stmt_1 < yBase := Nat.le_of_ble_eq_true rfl
theorem lt_tree_blocks : n_tree_blocks < yBase := Nat.le_of_ble_eq_true rfl
theorem lt_tree_shape_1 : n_tree_shape_1 < yBase := Nat.le_of_ble_eq_true rfl

end Go.AM
