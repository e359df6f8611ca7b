/-
 The abstract code of the functions, printed by a program (gen.py) out of the loaded program, and each function's place in the table.
-/
import Derived.Test.YtehbmajjoolcnaaGreatXlib
namespace Go.AM
theorem ltB {n : Nat} (h : Nat.ble (n + 1) yBase = true) : n < yBase := Nat.le_of_ble_eq_true h
abbrev kI (n : Int) : AX := .c (.int .i64 n)
@[simp] theorem kI_eq (n : Int) : kI n = .c (.int .i64 n) := rfl
abbrev kS (n : List UInt8) : AX := .c (.str n)
@[simp] theorem kS_eq (n : List UInt8) : kS n = .c (.str n) := rfl
abbrev iZ : V := .int .i64 0
@[simp] theorem iZ_eq : iZ = .int .i64 0 := rfl
abbrev kT : AX := .c (.bool true)
@[simp] theorem kT_eq : kT = .c (.bool true) := rfl
abbrev kF : AX := .c (.bool false)
@[simp] theorem kF_eq : kF = .c (.bool false) := rfl
abbrev dO (d : Nat) (p : AOp) : AOper := ⟨some d, none, p⟩
@[simp] theorem dO_eq (d : Nat) (p : AOp) : dO d p = ⟨some d, none, p⟩ := rfl
abbrev bT : Nat := 0
abbrev bP : Nat := 0
abbrev bE : Nat := 5
def n_flotsamlaw20_BoundTells : Nat := 3
def n_l16_Small : Nat := 4
def n_flotsamlaw20_knows : Nat := 5
def n_bound_Steps : Nat := 6
def n_r20_Steps : Nat := 7
def n_bound_Calls : Nat := 8
def n_r20_Calls : Nat := 9
def n_flotsamlaw04_Ints : Nat := 10
def n_l15_Fault : Nat := 11
def n_bound_Check : Nat := 12
def n_r20_Check : Nat := 13
def n_r16_Size : Nat := 14
def n_bound_fine : Nat := 15
def n_bound_known_steps : Nat := 16
def n_r19_Check : Nat := 17
def n_r20_steps : Nat := 18
def n_bound_known_deep : Nat := 19
def n_r20_calls : Nat := 20
def n_types_Check : Nat := 21
def n_tree_All : Nat := 22
def n_tree_Count : Nat := 23
def n_r16_Count : Nat := 24
def n_r16_block : Nat := 25
def n_r16_expr : Nat := 26
def n_r16_Right : Nat := 27
def n_r19_has : Nat := 28
def n_r19_block : Nat := 29
def n_r19_Type : Nat := 30
def n_tree_Right : Nat := 31
def n_ptypes_checker_fail : Nat := 32
def n_ptypes_checker_block : Nat := 33
def n_tree_parts : Nat := 34
def n_tree_walk : Nat := 35
def n_tree_cloned : Nat := 36
def n_r16_All : Nat := 37
def n_r15_Name : Nat := 38
def n_r16_Block : Nat := 39
def n_r16_Expr : Nat := 40
def n_r19_stmt : Nat := 41
def n_r19_kind : Nat := 42
def n_r19_want : Nat := 43
def n_tree_Right_1 : Nat := 44
def n_lex_Name : Nat := 45
def n_tree_Right_2 : Nat := 46
def n_tree_expr : Nat := 47
def n_tree_Right_3 : Nat := 48
def n_tree_block : Nat := 49
def n_sC_Proc_api_Proc : Nat := 50
def n_sC_Oracle_api_Oracle : Nat := 51
def n_sC_Stmt_api_Stmt : Nat := 52
def n_ptypes_checker_exprs : Nat := 53
def n_ptypes_checker_let : Nat := 54
def n_tree_walk_1 : Nat := 55
def n_tree_each_api_Expr : Nat := 56
def n_tree_clonedExpr : Nat := 57
def n_tree_each_api_Stmt : Nat := 58
def n_r16_list : Nat := 59
def n_r15_letter : Nat := 60
def n_r15_Key : Nat := 61
def n_r15_inner : Nat := 62
def n_r16_Stmt : Nat := 63
def n_r16_Parts : Nat := 64
def n_r19_wants : Nat := 65
def n_lex_begins : Nat := 66
def n_lex_letter : Nat := 67
def n_lex_run : Nat := 68
def n_lex_inner : Nat := 69
def n_lex_Key : Nat := 70
def n_tree_Parts : Nat := 71
def n_sC_Expr_api_Expr : Nat := 72
def n_tree_expr_1 : Nat := 73
def n_sC_Stmt_api_Stmt_x : Nat := 74
def n_tree_block_1 : Nat := 75
def n_tree_stmt : Nat := 76
def n_sI_Proc_api_Proc : Nat := 77
def n_sI_Oracle_api_Oracle : Nat := 78
def n_sI_Stmt_api_Stmt : Nat := 79
def n_types_of : Nat := 80
def n_types_scope_kind : Nat := 81
def n_types_wants : Nat := 82
def n_r15_digit : Nat := 83
def n_r16_Exprs : Nat := 84
def n_lex_digit : Nat := 87
def n_strings_Contains : Nat := 88
def n_sI_Expr_api_Expr : Nat := 89
def n_sI_Stmt_api_Stmt_x : Nat := 90
def n_tree_shape : Nat := 91
def n_tree_stmt_1 : Nat := 92
def n_types_is : Nat := 93
def n_tree_Exprs : Nat := 96
def n_tree_blocks : Nat := 97
def n_tree_shape_1 : Nat := 98
def q_tree_All_0 : Nat := 2002200
def q_tree_Count_0 : Nat := 2002300
def q_tree_walk_1_0 : Nat := 2005500
def c_flotsamlaw20_BoundTells : AFunc :=
 { np := 1, res := [.t 2], body := (
 .seq (.reg [dO 1 (.box (.t 0)), dO 2 (.tk kF)])
 (.seq (.seq (.reg [dO 13 (.ld (some 4) (.t 1)), dO 14 (.callc n_l16_Small [.t 13]), dO 15 (.notb (.t 14)), dO 16 (.mv (.t 15)), ⟨some 17, (some (16, false)), .callc n_flotsamlaw20_knows []⟩, ⟨some 18, (some (16, false)), .notb (.t 17)⟩, dO 19 (.pick (.t 16) kT (.t 18))])
 (.cond (.t 19)
 (.seq (.reg [dO 20 (.callc n_flotsamlaw20_knows []), dO 2 (.tk (.t 20))])
 (.ret))
 (.skip)))
 (.seq (.reg [dO 22 (.ld (some 4) (.t 1)), dO 23 (.callc n_bound_Steps [.t 22]), dO 21 (.mv (.t 23)), dO 24 (.ext (.t 21) 0), dO 25 (.ext (.t 21) 1), dO 26 (.ext (.t 21) 2), dO 3 (.tk (.t 24)), dO 4 (.tk (.t 25)), dO 5 (.tk (.t 26))])
 (.seq (.reg [dO 28 (.ld (some 4) (.t 1)), dO 29 (.callc n_r20_Steps [.t 28]), dO 27 (.mv (.t 29)), dO 30 (.ext (.t 27) 0), dO 31 (.ext (.t 27) 1), dO 32 (.ext (.t 27) 2), dO 6 (.tk (.t 30)), dO 7 (.tk (.t 31)), dO 8 (.tk (.t 32))])
 (.seq (.reg [dO 34 (.ld (some 4) (.t 1)), dO 35 (.callc n_bound_Calls [.t 34]), dO 33 (.mv (.t 35)), dO 36 (.ext (.t 33) 0), dO 37 (.ext (.t 33) 1), dO 9 (.tk (.t 36)), dO 10 (.tk (.t 37))])
 (.seq (.reg [dO 39 (.ld (some 4) (.t 1)), dO 40 (.callc n_r20_Calls [.t 39]), dO 38 (.mv (.t 40)), dO 41 (.ext (.t 38) 0), dO 42 (.ext (.t 38) 1), dO 11 (.tk (.t 41)), dO 12 (.tk (.t 42))])
 (.seq (.drw [[], [], [], [], [], [], [], [], [], [], [], [], [], [], [], [], [], [], [], [], [], [], [], [], [], [], [], [], [], [], []] [dO 43 (.mv (.t 3)), dO 44 (.mv (.t 6)), dO 45 (.ic .eql (.t 43) (.t 44)), dO 46 (.mv (.t 45)), ⟨some 47, (some (46, true)), .mv (.t 4)⟩, ⟨some 48, (some (46, true)), .mv (.t 7)⟩, ⟨some 49, (some (46, true)), .ic .eql (.t 47) (.t 48)⟩, dO 50 (.pick (.t 46) (.t 49) kF), dO 51 (.mv (.t 50)), ⟨some 52, (some (51, true)), .mv (.t 5)⟩, ⟨some 53, (some (51, true)), .mv (.t 8)⟩, ⟨some 54, (some (51, true)), .eqb false (.t 52) (.t 53)⟩, dO 55 (.pick (.t 51) (.t 54) kF), dO 56 (.mv (.t 55)), ⟨some 57, (some (56, true)), .mv (.t 9)⟩, ⟨some 58, (some (56, true)), .mv (.t 11)⟩, ⟨some 59, (some (56, true)), .callc n_flotsamlaw04_Ints [.t 57, .t 58]⟩, dO 60 (.pick (.t 56) (.t 59) kF), dO 61 (.mv (.t 60)), ⟨some 62, (some (61, true)), .mv (.t 10)⟩, ⟨some 63, (some (61, true)), .mv (.t 12)⟩, ⟨some 64, (some (61, true)), .eqb false (.t 62) (.t 63)⟩, dO 65 (.pick (.t 61) (.t 64) kF), dO 66 (.mv (.t 65)), ⟨some 67, (some (66, true)), .ld (some 4) (.t 1)⟩, ⟨some 68, (some (66, true)), .callc n_bound_Check [.t 67]⟩, ⟨some 69, (some (66, true)), .ld (some 4) (.t 1)⟩, ⟨some 70, (some (66, true)), .callc n_r20_Check [.t 69]⟩, ⟨some 71, (some (66, true)), .callc n_l15_Fault [.t 68, .t 70]⟩, dO 72 (.pick (.t 66) (.t 71) kF), dO 2 (.tk (.t 72))])
 (.ret)))))))) }
def c_l16_Small : AFunc :=
 { np := 1, res := [.t 2], body := (
 .seq (.reg [dO 1 (.box (.t 0)), dO 2 (.tk kF)])
 (.seq (.reg [dO 3 (.ld (some 4) (.t 1)), dO 4 (.callc n_r16_Size [.t 3, kI 600]), dO 5 (.ic .leq (.t 4) (kI 600)), dO 2 (.tk (.t 5))])
 (.ret))) }
def c_flotsamlaw20_knows : AFunc :=
 { np := 0, res := [.t 0], body := (
 .seq (.reg [dO 0 (.tk kF)])
 (.seq (.reg [dO 7 (.bld [.str [], .sl 7 []] [(0, 1, kS [102])]), dO 8 (.bsl 2 [.str [], .sl 7 []] 1 [(0, 2, .t 7)] false), dO 9 (.bld [iZ, .str [], iZ, .sl 4 [], .sl 7 [], .sl 7 [], .bool false] [(0, 1, kI 11)]), dO 10 (.bsl 7 [iZ, .str [], iZ, .sl 4 [], .sl 7 [], .sl 7 [], .bool false] 1 [(0, 7, .t 9)] false), dO 11 (.bld [iZ, .str [], iZ, .sl 4 [], .sl 7 [], .sl 7 [], .bool false] [(0, 1, kI 14), (2, 1, kI 3), (4, 1, .t 10)]), dO 12 (.bsl 7 [iZ, .str [], iZ, .sl 4 [], .sl 7 [], .sl 7 [], .bool false] 1 [(0, 7, .t 11)] false), dO 13 (.bld [.sl 2 [], .sl 7 [], .sl 7 [], .sl 5 []] [(0, 1, .t 8), (1, 1, .t 12)]), dO 1 (.alloc [.own 2 [], .own 7 [], .own 7 [], .own 5 []]), ⟨none, none, .st 4 (.t 1) (.t 13)⟩])
 (.seq (.reg [dO 15 (.ld (some 4) (.t 1)), dO 16 (.callc n_bound_Steps [.t 15]), dO 14 (.mv (.t 16)), dO 17 (.ext (.t 14) 0), dO 18 (.ext (.t 14) 1), dO 19 (.ext (.t 14) 2), dO 2 (.tk (.t 17)), dO 3 (.tk (.t 18)), dO 4 (.tk (.t 19))])
 (.seq (.reg [dO 21 (.ld (some 4) (.t 1)), dO 22 (.callc n_bound_Calls [.t 21]), dO 20 (.mv (.t 22)), dO 23 (.ext (.t 20) 0), dO 24 (.ext (.t 20) 1), dO 5 (.tk (.t 23)), dO 6 (.tk (.t 24))])
 (.seq (.reg [dO 25 (.mv (.t 2)), dO 26 (.ic .eql (.t 25) (kI 4)), dO 27 (.mv (.t 26)), ⟨some 28, (some (27, true)), .mv (.t 3)⟩, ⟨some 29, (some (27, true)), .ic .eql (.t 28) (kI 0)⟩, dO 30 (.pick (.t 27) (.t 29) kF), dO 31 (.mv (.t 30)), ⟨some 32, (some (31, true)), .mv (.t 4)⟩, dO 33 (.pick (.t 31) (.t 32) kF), dO 34 (.mv (.t 33)), ⟨some 35, (some (34, true)), .mv (.t 6)⟩, dO 36 (.pick (.t 34) (.t 35) kF), dO 37 (.mv (.t 36)), ⟨some 38, (some (37, true)), .mv (.t 5)⟩, ⟨some 39, (some (37, true)), .bsl 1 [iZ] 1 [(0, 1, kI 1)] false⟩, ⟨some 40, (some (37, true)), .callc n_flotsamlaw04_Ints [.t 38, .t 39]⟩, dO 41 (.pick (.t 37) (.t 40) kF), dO 0 (.tk (.t 41))])
 (.ret)))))) }
def b_bound_Steps_0 : AC :=
 .seq (.reg [dO 16 (.ic .lss (.t 15) (.t 14))])
 (.seq (.cond (.t 16)
 (.skip)
 (.exit 0))
 (.seq (.block 1 (.seq (.reg [dO 17 (.ixa 2 none (.t 13) (.t 15)), dO 18 (.ld (some 2) (.t 17)), dO 7 (.alloc [.str [], .own 7 []]), ⟨none, none, .st 2 (.t 7) (.t 18)⟩])
 (.drw [[], [], [], [], [], [], [], []] [dO 19 (.mv (.t 5)), dO 20 (.fa 0 (.t 7)), dO 21 (.ld none (.t 20)), dO 22 (.mv (.t 5)), dO 23 (.fa 1 (.t 7)), dO 24 (.ld none (.t 23)), dO 25 (.callr n_bound_known_steps [.t 22, .t 24]), ⟨none, none, .mst false [.str] (.t 19) (.t 21) (.t 25)⟩])))
 (.reg [dO 26 (.ia .add .i64 (.t 15) (kI 1)), dO 15 (.mv (.t 26))])))
def l_bound_Steps_0 : AC :=
 .loop [1, 5, 13, 14, 15] b_bound_Steps_0
def r_bound_Steps_0 : AC :=
 .seq (.drw [[], [], [], [], [], [], [], [], [], [], []] [dO 27 (.mv (.t 5)), dO 28 (.fa 1 (.t 1)), dO 29 (.ld none (.t 28)), dO 30 (.callr n_bound_known_steps [.t 27, .t 29]), dO 31 (.mv (.t 5)), dO 32 (.fa 2 (.t 1)), dO 33 (.ld none (.t 32)), dO 34 (.callr n_bound_known_steps [.t 31, .t 33]), dO 2 (.tk (.t 30)), dO 3 (.tk (.t 34)), dO 4 (.tk kT)])
 (.ret)
def c_bound_Steps : AFunc :=
 { np := 1, res := [.t 2, .t 3, .t 4], body := (
 .seq (.reg [dO 1 (.box (.t 0)), dO 2 (.tk (kI 0)), dO 3 (.tk (kI 0)), dO 4 (.tk kF)])
 (.seq (.seq (.reg [dO 8 (.ld (some 4) (.t 1)), dO 9 (.callc n_bound_fine [.t 8]), dO 10 (.notb (.t 9))])
 (.cond (.t 10)
 (.seq (.reg [dO 2 (.tk (kI 0)), dO 3 (.tk (kI 0)), dO 4 (.tk kF)])
 (.ret))
 (.skip)))
 (.seq (.reg [dO 11 (.mkm false [.str]), dO 5 (.tk (.t 11))])
 (.seq (.seq (.reg [dO 12 (.fa 0 (.t 1)), dO 13 (.ld none (.t 12)), dO 14 (.len false (.t 13)), dO 15 (.mv (kI 0))])
 (.block 0 (l_bound_Steps_0))) r_bound_Steps_0)))) }
def b_r20_Steps_0 : AC :=
 .seq (.seq (.reg [dO 14 (.mv (.t 7)), dO 15 (.fa 0 (.t 1)), dO 16 (.ld none (.t 15)), dO 17 (.len false (.t 16)), dO 18 (.ic .lss (.t 14) (.t 17))])
 (.cond (.t 18)
 (.skip)
 (.exit 0)))
 (.seq (.block 1 (.seq (.drw [[], [], [], [], [], [], [], [], [], []] [dO 21 (.fa 0 (.t 1)), dO 22 (.ld none (.t 21)), dO 23 (.mv (.t 7)), dO 24 (.ixa 2 none (.t 22) (.t 23)), dO 25 (.fa 1 (.t 24)), dO 26 (.ld none (.t 25)), dO 27 (.ld (some 4) (.t 1)), dO 28 (.mv (.t 6)), dO 29 (.callc n_r20_steps [.t 26, .t 27, .t 28]), dO 8 (.tk (.t 29))])
 (.reg [dO 30 (.tk (.t 6)), dO 31 (.mv (.t 8)), dO 32 (.bsl 1 [iZ] 1 [(0, 1, .t 31)] false), dO 33 (.app 1 8 (.t 30) (.t 32) false), dO 6 (.tk (.t 33))])))
 (.reg [dO 19 (.mv (.t 7)), dO 20 (.ia .add .i64 (.t 19) (kI 1)), dO 7 (.tk (.t 20))]))
def l_r20_Steps_0 : AC :=
 .loop [1, 6, 7] b_r20_Steps_0
def r_r20_Steps_0 : AC :=
 .seq (.drw [[], [], [], [], [], [], [], [], [], [], [], [], []] [dO 34 (.fa 1 (.t 1)), dO 35 (.ld none (.t 34)), dO 36 (.ld (some 4) (.t 1)), dO 37 (.mv (.t 6)), dO 38 (.callc n_r20_steps [.t 35, .t 36, .t 37]), dO 39 (.fa 2 (.t 1)), dO 40 (.ld none (.t 39)), dO 41 (.ld (some 4) (.t 1)), dO 42 (.mv (.t 6)), dO 43 (.callc n_r20_steps [.t 40, .t 41, .t 42]), dO 2 (.tk (.t 38)), dO 3 (.tk (.t 43)), dO 4 (.tk kT)])
 (.ret)
def c_r20_Steps : AFunc :=
 { np := 1, res := [.t 2, .t 3, .t 4], body := (
 .seq (.reg [dO 1 (.box (.t 0)), dO 2 (.tk (kI 0)), dO 3 (.tk (kI 0)), dO 4 (.tk kF)])
 (.seq (.seq (.reg [dO 9 (.ld (some 4) (.t 1)), dO 10 (.callc n_r19_Check [.t 9]), dO 5 (.alloc [iZ, iZ]), ⟨none, none, .st 2 (.t 5) (.t 10)⟩])
 (.seq (.reg [dO 11 (.fa 0 (.t 5)), dO 12 (.ld none (.t 11)), dO 13 (.ic .neq (.t 12) (kI 0))])
 (.cond (.t 13)
 (.seq (.reg [dO 2 (.tk (kI 0)), dO 3 (.tk (kI 0)), dO 4 (.tk kF)])
 (.ret))
 (.skip))))
 (.seq (.reg [dO 6 (.tk (.c (.own 1 [])))])
 (.seq (.seq (.reg [dO 7 (.tk (kI 0))])
 (.block 0 (l_r20_Steps_0))) r_r20_Steps_0)))) }
def b_bound_Calls_0 : AC :=
 .seq (.reg [dO 17 (.ic .lss (.t 16) (.t 15))])
 (.seq (.cond (.t 17)
 (.skip)
 (.exit 0))
 (.seq (.block 1 (.seq (.reg [dO 18 (.ixa 2 none (.t 14) (.t 16)), dO 19 (.ld (some 2) (.t 18)), dO 7 (.alloc [.str [], .own 7 []]), ⟨none, none, .st 2 (.t 7) (.t 19)⟩])
 (.seq (.reg [dO 20 (.mv (.t 4)), dO 21 (.fa 1 (.t 7)), dO 22 (.ld none (.t 21)), dO 23 (.call n_bound_known_deep [.t 20, .t 22]), dO 24 (.ia .add .i64 (.t 23) (kI 1)), dO 8 (.tk (.t 24))])
 (.seq (.reg [dO 25 (.mv (.t 4)), dO 26 (.fa 0 (.t 7)), dO 27 (.ld none (.t 26)), dO 28 (.mv (.t 8)), ⟨none, none, .mst false [.str] (.t 25) (.t 27) (.t 28)⟩])
 (.reg [dO 29 (.tk (.t 5)), dO 30 (.mv (.t 8)), dO 31 (.bsl 1 [iZ] 1 [(0, 1, .t 30)] false), dO 32 (.app 1 8 (.t 29) (.t 31) false), dO 5 (.tk (.t 32))])))))
 (.reg [dO 33 (.ia .add .i64 (.t 16) (kI 1)), dO 16 (.mv (.t 33))])))
def l_bound_Calls_0 : AC :=
 .loop [4, 5, 14, 15, 16] b_bound_Calls_0
def r_bound_Calls_0 : AC :=
 .seq (.reg [dO 34 (.tk (.t 5)), dO 2 (.tk (.t 34)), dO 3 (.tk kT)])
 (.ret)
def c_bound_Calls : AFunc :=
 { np := 1, res := [.t 2, .t 3], body := (
 .seq (.reg [dO 1 (.box (.t 0)), dO 2 (.tk (.c (.own 1 []))), dO 3 (.tk kF)])
 (.seq (.seq (.reg [dO 9 (.ld (some 4) (.t 1)), dO 10 (.callc n_bound_fine [.t 9]), dO 11 (.notb (.t 10))])
 (.cond (.t 11)
 (.seq (.reg [dO 2 (.tk (.c (.own 1 []))), dO 3 (.tk kF)])
 (.ret))
 (.skip)))
 (.seq (.reg [dO 12 (.mkm false [.str]), dO 4 (.tk (.t 12))])
 (.seq (.reg [dO 5 (.tk (.c (.own 1 [])))])
 (.seq (.seq (.reg [dO 13 (.fa 0 (.t 1)), dO 14 (.ld none (.t 13)), dO 15 (.len false (.t 14)), dO 16 (.mv (kI 0))])
 (.block 0 (l_bound_Calls_0))) r_bound_Calls_0))))) }
def b_r20_Calls_0 : AC :=
 .seq (.seq (.reg [dO 21 (.mv (.t 8)), dO 22 (.mv (.t 6)), dO 23 (.ic .lss (.t 21) (.t 22))])
 (.cond (.t 23)
 (.skip)
 (.exit 2)))
 (.seq (.block 3 (.seq (.drw [[], [], [], [], [], [], [], [], [], [], [], [], []] [dO 26 (.fa 0 (.t 1)), dO 27 (.ld none (.t 26)), dO 28 (.mv (.t 6)), dO 29 (.ixa 2 none (.t 27) (.t 28)), dO 30 (.fa 1 (.t 29)), dO 31 (.ld none (.t 30)), dO 32 (.fa 0 (.t 1)), dO 33 (.ld none (.t 32)), dO 34 (.mv (.t 8)), dO 35 (.ixa 2 none (.t 33) (.t 34)), dO 36 (.fa 0 (.t 35)), dO 37 (.ld none (.t 36)), dO 38 (.callc n_r20_calls [.t 31, .t 37])])
 (.cond (.t 38)
 (.reg [dO 39 (.mv (.t 7)), dO 40 (.mv (.t 5)), dO 41 (.mv (.t 8)), dO 42 (.ixa 1 none (.t 40) (.t 41)), dO 43 (.ld none (.t 42)), dO 44 (.ia .add .i64 (.t 43) (kI 1)), dO 45 (.mx true [.t 39, .t 44]), dO 7 (.tk (.t 45))])
 (.skip))))
 (.reg [dO 24 (.mv (.t 8)), dO 25 (.ia .add .i64 (.t 24) (kI 1)), dO 8 (.tk (.t 25))]))
def l_r20_Calls_0 : AC :=
 .loop [1, 5, 6, 7, 8] b_r20_Calls_0
def r_r20_Calls_0 : AC :=
 .reg [dO 46 (.tk (.t 5)), dO 47 (.mv (.t 7)), dO 48 (.bsl 1 [iZ] 1 [(0, 1, .t 47)] false), dO 49 (.app 1 8 (.t 46) (.t 48) false), dO 5 (.tk (.t 49))]
def r_r20_Calls_1 : AC :=
 .reg [dO 19 (.mv (.t 6)), dO 20 (.ia .add .i64 (.t 19) (kI 1)), dO 6 (.tk (.t 20))]
def b_r20_Calls_1 : AC :=
 .seq (.seq (.reg [dO 14 (.mv (.t 6)), dO 15 (.fa 0 (.t 1)), dO 16 (.ld none (.t 15)), dO 17 (.len false (.t 16)), dO 18 (.ic .lss (.t 14) (.t 17))])
 (.cond (.t 18)
 (.skip)
 (.exit 0)))
 (.seq (.block 1 (.seq (.reg [dO 7 (.tk (kI 1))])
 (.seq (.seq (.reg [dO 8 (.tk (kI 0))])
 (.block 2 (l_r20_Calls_0))) r_r20_Calls_0))) r_r20_Calls_1)
def l_r20_Calls_1 : AC :=
 .loop [1, 5, 6] b_r20_Calls_1
def r_r20_Calls_2 : AC :=
 .seq (.reg [dO 50 (.tk (.t 5)), dO 2 (.tk (.t 50)), dO 3 (.tk kT)])
 (.ret)
def c_r20_Calls : AFunc :=
 { np := 1, res := [.t 2, .t 3], body := (
 .seq (.reg [dO 1 (.box (.t 0)), dO 2 (.tk (.c (.own 1 []))), dO 3 (.tk kF)])
 (.seq (.seq (.reg [dO 9 (.ld (some 4) (.t 1)), dO 10 (.callc n_r19_Check [.t 9]), dO 4 (.alloc [iZ, iZ]), ⟨none, none, .st 2 (.t 4) (.t 10)⟩])
 (.seq (.reg [dO 11 (.fa 0 (.t 4)), dO 12 (.ld none (.t 11)), dO 13 (.ic .neq (.t 12) (kI 0))])
 (.cond (.t 13)
 (.seq (.reg [dO 2 (.tk (.c (.own 1 []))), dO 3 (.tk kF)])
 (.ret))
 (.skip))))
 (.seq (.reg [dO 5 (.tk (.c (.own 1 [])))])
 (.seq (.seq (.reg [dO 6 (.tk (kI 0))])
 (.block 0 (l_r20_Calls_1))) r_r20_Calls_2)))) }
def b_flotsamlaw04_Ints_0 : AC :=
 .seq (.seq (.reg [dO 11 (.mv (.t 5)), dO 12 (.mv (.t 0)), dO 13 (.len false (.t 12)), dO 14 (.ic .lss (.t 11) (.t 13))])
 (.cond (.t 14)
 (.skip)
 (.exit 0)))
 (.seq (.block 1 (.seq (.drw [[], [], [], [], [], [], [], [], []] [dO 17 (.mv (.t 0)), dO 18 (.mv (.t 5)), dO 19 (.ixa 1 none (.t 17) (.t 18)), dO 20 (.ld none (.t 19)), dO 21 (.mv (.t 1)), dO 22 (.mv (.t 5)), dO 23 (.ixa 1 none (.t 21) (.t 22)), dO 24 (.ld none (.t 23)), dO 25 (.ic .neq (.t 20) (.t 24))])
 (.cond (.t 25)
 (.seq (.reg [dO 4 (.tk kF)])
 (.ret))
 (.skip))))
 (.reg [dO 15 (.mv (.t 5)), dO 16 (.ia .add .i64 (.t 15) (kI 1)), dO 5 (.tk (.t 16))]))
def l_flotsamlaw04_Ints_0 : AC :=
 .loop [0, 1, 5] b_flotsamlaw04_Ints_0
def r_flotsamlaw04_Ints_0 : AC :=
 .seq (.reg [dO 4 (.tk kT)])
 (.ret)
def c_flotsamlaw04_Ints : AFunc :=
 { np := 2, res := [.t 4], body := (
 .seq (.reg [dO 4 (.tk kF)])
 (.seq (.seq (.reg [dO 6 (.mv (.t 0)), dO 7 (.len false (.t 6)), dO 8 (.mv (.t 1)), dO 9 (.len false (.t 8)), dO 10 (.ic .neq (.t 7) (.t 9))])
 (.cond (.t 10)
 (.seq (.reg [dO 4 (.tk kF)])
 (.ret))
 (.skip)))
 (.seq (.seq (.reg [dO 5 (.tk (kI 0))])
 (.block 0 (l_flotsamlaw04_Ints_0))) r_flotsamlaw04_Ints_0))) }
def c_l15_Fault : AFunc :=
 { np := 2, res := [.t 4], body := (
 .seq (.reg [dO 2 (.box (.t 0)), dO 3 (.box (.t 1)), dO 4 (.tk kF)])
 (.seq (.reg [dO 5 (.fa 0 (.t 2)), dO 6 (.ld none (.t 5)), dO 7 (.fa 0 (.t 3)), dO 8 (.ld none (.t 7)), dO 9 (.ic .eql (.t 6) (.t 8)), dO 10 (.mv (.t 9)), ⟨some 11, (some (10, true)), .fa 1 (.t 2)⟩, ⟨some 12, (some (10, true)), .ld none (.t 11)⟩, ⟨some 13, (some (10, true)), .fa 1 (.t 3)⟩, ⟨some 14, (some (10, true)), .ld none (.t 13)⟩, ⟨some 15, (some (10, true)), .ic .eql (.t 12) (.t 14)⟩, dO 16 (.pick (.t 10) (.t 15) kF), dO 4 (.tk (.t 16))])
 (.ret))) }
def c_bound_Check : AFunc :=
 { np := 1, res := [.cell 2 (some 2)], body := (
 .seq (.reg [dO 1 (.box (.t 0)), dO 2 (.alloc [iZ, iZ])])
 (.seq (.seq (.reg [dO 8 (.ld (some 4) (.t 1)), dO 9 (.callck n_types_Check [.t 8]), dO 3 (.alloc [iZ, iZ]), ⟨none, none, .st 2 (.t 3) (.t 9)⟩])
 (.seq (.reg [dO 10 (.ld (some 2) (.t 3)), dO 11 (.bld [iZ, iZ] []), dO 12 (.eqa true [.int .i64, .int .i64] (.t 10) (.t 11))])
 (.cond (.t 12)
 (.seq (.reg [dO 13 (.ld (some 2) (.t 3)), ⟨none, none, .st 2 (.t 2) (.t 13)⟩])
 (.ret))
 (.skip))))
 (.seq (.reg [dO 14 (.fa 0 (.t 1)), dO 15 (.ld none (.t 14)), dO 16 (.bld [.sl 2 [], .sl 7 [], .sl 7 [], .sl 5 []] [(0, 1, .t 15)]), dO 17 (.callc n_tree_All [.t 16]), dO 18 (.len false (.t 17)), dO 4 (.tk (.t 18))])
 (.seq (.seq (.reg [dO 20 (.ld (some 4) (.t 1)), dO 21 (.callc n_bound_Steps [.t 20]), dO 19 (.mv (.t 21)), dO 22 (.ext (.t 19) 0), dO 23 (.ext (.t 19) 1), dO 24 (.ext (.t 19) 2), dO 5 (.tk (.t 22)), dO 6 (.tk (.t 23)), dO 7 (.tk (.t 24))])
 (.block 0 (.seq (.reg [dO 26 (.mv (.t 5)), dO 27 (.ic .eql (kI 65537) (.t 26)), dO 25 (.tk (.t 27))])
 (.cond (.t 25)
 (.seq (.reg [dO 28 (.mv (.t 4)), dO 29 (.bld [iZ, iZ] [(0, 1, kI 13), (1, 1, .t 28)]), ⟨none, none, .st 2 (.t 2) (.t 29)⟩])
 (.ret))
 (.seq (.reg [dO 31 (.mv (.t 6)), dO 32 (.ic .eql (kI 65537) (.t 31)), dO 30 (.tk (.t 32))])
 (.cond (.t 30)
 (.seq (.reg [dO 33 (.mv (.t 4)), dO 34 (.fa 1 (.t 1)), dO 35 (.ld none (.t 34)), dO 36 (.callc n_tree_Count [.t 35]), dO 37 (.ia .add .i64 (.t 33) (.t 36)), dO 38 (.bld [iZ, iZ] [(0, 1, kI 13), (1, 1, .t 37)]), ⟨none, none, .st 2 (.t 2) (.t 38)⟩])
 (.ret))
 (.skip)))))))
 (.seq (.reg [dO 39 (.bld [iZ, iZ] []), ⟨none, none, .st 2 (.t 2) (.t 39)⟩])
 (.ret)))))) }
def b_r20_Check_0 : AC :=
 .seq (.seq (.reg [dO 21 (.mv (.t 8)), dO 22 (.fa 0 (.t 1)), dO 23 (.ld none (.t 22)), dO 24 (.len false (.t 23)), dO 25 (.ic .lss (.t 21) (.t 24))])
 (.cond (.t 25)
 (.skip)
 (.exit 0)))
 (.seq (.block 1 (.reg [dO 28 (.mv (.t 7)), dO 29 (.fa 0 (.t 1)), dO 30 (.ld none (.t 29)), dO 31 (.mv (.t 8)), dO 32 (.ixa 2 none (.t 30) (.t 31)), dO 33 (.fa 1 (.t 32)), dO 34 (.ld none (.t 33)), dO 35 (.callc n_r16_Count [.t 34]), dO 36 (.ia .add .i64 (.t 28) (.t 35)), dO 7 (.tk (.t 36))]))
 (.reg [dO 26 (.mv (.t 8)), dO 27 (.ia .add .i64 (.t 26) (kI 1)), dO 8 (.tk (.t 27))]))
def l_r20_Check_0 : AC :=
 .loop [1, 2, 4, 5, 7, 8] b_r20_Check_0
def r_r20_Check_0 : AC :=
 .seq (.seq (.reg [dO 37 (.mv (.t 4)), dO 38 (.ic .eql (.t 37) (kI 65537))])
 (.cond (.t 38)
 (.seq (.reg [dO 39 (.mv (.t 7)), dO 40 (.bld [iZ, iZ] [(0, 1, kI 13), (1, 1, .t 39)]), ⟨none, none, .st 2 (.t 2) (.t 40)⟩])
 (.ret))
 (.skip)))
 (.seq (.seq (.reg [dO 41 (.mv (.t 5)), dO 42 (.ic .eql (.t 41) (kI 65537))])
 (.cond (.t 42)
 (.seq (.reg [dO 43 (.mv (.t 7)), dO 44 (.fa 1 (.t 1)), dO 45 (.ld none (.t 44)), dO 46 (.callc n_r16_Count [.t 45]), dO 47 (.ia .add .i64 (.t 43) (.t 46)), dO 48 (.bld [iZ, iZ] [(0, 1, kI 13), (1, 1, .t 47)]), ⟨none, none, .st 2 (.t 2) (.t 48)⟩])
 (.ret))
 (.skip)))
 (.seq (.reg [dO 49 (.bld [iZ, iZ] []), ⟨none, none, .st 2 (.t 2) (.t 49)⟩])
 (.ret)))
def c_r20_Check : AFunc :=
 { np := 1, res := [.cell 2 (some 2)], body := (
 .seq (.reg [dO 1 (.box (.t 0)), dO 2 (.alloc [iZ, iZ])])
 (.seq (.seq (.reg [dO 9 (.ld (some 4) (.t 1)), dO 10 (.callc n_r19_Check [.t 9]), dO 3 (.alloc [iZ, iZ]), ⟨none, none, .st 2 (.t 3) (.t 10)⟩])
 (.seq (.reg [dO 11 (.fa 0 (.t 3)), dO 12 (.ld none (.t 11)), dO 13 (.ic .neq (.t 12) (kI 0))])
 (.cond (.t 13)
 (.seq (.reg [dO 14 (.ld (some 2) (.t 3)), ⟨none, none, .st 2 (.t 2) (.t 14)⟩])
 (.ret))
 (.skip))))
 (.seq (.reg [dO 16 (.ld (some 4) (.t 1)), dO 17 (.callc n_r20_Steps [.t 16]), dO 15 (.mv (.t 17)), dO 18 (.ext (.t 15) 0), dO 19 (.ext (.t 15) 1), dO 20 (.ext (.t 15) 2), dO 4 (.tk (.t 18)), dO 5 (.tk (.t 19)), dO 6 (.tk (.t 20))])
 (.seq (.reg [dO 7 (.tk (kI 0))])
 (.seq (.seq (.reg [dO 8 (.tk (kI 0))])
 (.block 0 (l_r20_Check_0))) r_r20_Check_0))))) }
def b_r16_Size_0 : AC :=
 .seq (.seq (.reg [dO 31 (.mv (.t 6)), dO 32 (.fa 0 (.t 2)), dO 33 (.ld none (.t 32)), dO 34 (.len false (.t 33)), dO 35 (.ic .lss (.t 31) (.t 34))])
 (.cond (.t 35)
 (.skip)
 (.exit 0)))
 (.seq (.block 1 (.seq (.reg [dO 38 (.mv (.t 5)), dO 39 (.fa 0 (.t 2)), dO 40 (.ld none (.t 39)), dO 41 (.mv (.t 6)), dO 42 (.ixa 2 none (.t 40) (.t 41)), dO 43 (.fa 1 (.t 42)), dO 44 (.ld none (.t 43)), dO 45 (.mv (.t 1)), dO 46 (.mv (.t 5)), dO 47 (.ia .sub .i64 (.t 45) (.t 46)), dO 48 (.callc n_r16_block [.t 44, .t 47]), dO 49 (.ia .add .i64 (.t 38) (.t 48)), dO 5 (.tk (.t 49))])
 (.seq (.reg [dO 50 (.fa 0 (.t 2)), dO 51 (.ld none (.t 50)), dO 52 (.mv (.t 6)), dO 53 (.ixa 2 none (.t 51) (.t 52)), dO 54 (.fa 0 (.t 53)), dO 55 (.ld none (.t 54)), dO 56 (.len true (.t 55)), dO 57 (.ic .gtr (.t 56) (kI 300)), dO 58 (.mv (.t 57)), ⟨some 59, (some (58, false)), .mv (.t 5)⟩, ⟨some 60, (some (58, false)), .mv (.t 1)⟩, ⟨some 61, (some (58, false)), .ic .gtr (.t 59) (.t 60)⟩, dO 62 (.pick (.t 58) kT (.t 61))])
 (.cond (.t 62)
 (.seq (.reg [dO 63 (.mv (.t 1)), dO 64 (.ia .add .i64 (.t 63) (kI 1)), dO 4 (.tk (.t 64))])
 (.ret))
 (.skip)))))
 (.reg [dO 36 (.mv (.t 6)), dO 37 (.ia .add .i64 (.t 36) (kI 1)), dO 6 (.tk (.t 37))]))
def l_r16_Size_0 : AC :=
 .loop [1, 2, 5, 6] b_r16_Size_0
def b_r16_Size_1 : AC :=
 .seq (.seq (.reg [dO 84 (.mv (.t 7)), dO 85 (.fa 3 (.t 2)), dO 86 (.ld none (.t 85)), dO 87 (.len false (.t 86)), dO 88 (.ic .lss (.t 84) (.t 87)), dO 89 (.mv (.t 88)), ⟨some 90, (some (89, true)), .mv (.t 5)⟩, ⟨some 91, (some (89, true)), .mv (.t 1)⟩, ⟨some 92, (some (89, true)), .ic .leq (.t 90) (.t 91)⟩, dO 93 (.pick (.t 89) (.t 92) kF)])
 (.cond (.t 93)
 (.skip)
 (.exit 2)))
 (.seq (.block 3 (.seq (.reg [dO 96 (.mv (.t 5)), dO 97 (.fa 3 (.t 2)), dO 98 (.ld none (.t 97)), dO 99 (.mv (.t 7)), dO 100 (.ixa 5 none (.t 98) (.t 99)), dO 101 (.fa 1 (.t 100)), dO 102 (.ld (some 4) (.t 101)), dO 103 (.mv (.t 1)), dO 104 (.mv (.t 5)), dO 105 (.ia .sub .i64 (.t 103) (.t 104)), dO 106 (.callc n_r16_expr [.t 102, .t 105]), dO 107 (.ia .add .i64 (.t 96) (.t 106)), dO 5 (.tk (.t 107))])
 (.seq (.reg [dO 108 (.fa 3 (.t 2)), dO 109 (.ld none (.t 108)), dO 110 (.mv (.t 7)), dO 111 (.ixa 5 none (.t 109) (.t 110)), dO 112 (.fa 0 (.t 111)), dO 113 (.ld none (.t 112)), dO 114 (.len true (.t 113)), dO 115 (.ic .gtr (.t 114) (kI 300))])
 (.cond (.t 115)
 (.seq (.reg [dO 116 (.mv (.t 1)), dO 117 (.ia .add .i64 (.t 116) (kI 1)), dO 4 (.tk (.t 117))])
 (.ret))
 (.skip)))))
 (.reg [dO 94 (.mv (.t 7)), dO 95 (.ia .add .i64 (.t 94) (kI 1)), dO 7 (.tk (.t 95))]))
def l_r16_Size_1 : AC :=
 .loop [1, 2, 5, 7] b_r16_Size_1
def r_r16_Size_0 : AC :=
 .seq (.reg [dO 118 (.mv (.t 5)), dO 4 (.tk (.t 118))])
 (.ret)
def r_r16_Size_1 : AC :=
 .seq (.reg [dO 65 (.mv (.t 5)), dO 66 (.fa 1 (.t 2)), dO 67 (.ld none (.t 66)), dO 68 (.mv (.t 1)), dO 69 (.mv (.t 5)), dO 70 (.ia .sub .i64 (.t 68) (.t 69)), dO 71 (.callc n_r16_block [.t 67, .t 70]), dO 72 (.ia .add .i64 (.t 65) (.t 71)), dO 5 (.tk (.t 72))])
 (.seq (.seq (.reg [dO 73 (.mv (.t 5)), dO 74 (.mv (.t 1)), dO 75 (.ic .leq (.t 73) (.t 74))])
 (.cond (.t 75)
 (.reg [dO 76 (.mv (.t 5)), dO 77 (.fa 2 (.t 2)), dO 78 (.ld none (.t 77)), dO 79 (.mv (.t 1)), dO 80 (.mv (.t 5)), dO 81 (.ia .sub .i64 (.t 79) (.t 80)), dO 82 (.callc n_r16_block [.t 78, .t 81]), dO 83 (.ia .add .i64 (.t 76) (.t 82)), dO 5 (.tk (.t 83))])
 (.skip)))
 (.seq (.seq (.reg [dO 7 (.tk (kI 0))])
 (.block 2 (l_r16_Size_1))) r_r16_Size_0))
def c_r16_Size : AFunc :=
 { np := 2, res := [.t 4], body := (
 .seq (.reg [dO 2 (.box (.t 0)), dO 4 (.tk (kI 0))])
 (.seq (.reg [dO 8 (.mv (.t 1)), dO 9 (.mx false [.t 8, kI 1000]), dO 1 (.tk (.t 9))])
 (.seq (.seq (.reg [dO 10 (.fa 0 (.t 2)), dO 11 (.ld none (.t 10)), dO 12 (.len false (.t 11)), dO 13 (.mv (.t 1)), dO 14 (.ic .gtr (.t 12) (.t 13)), dO 15 (.mv (.t 14)), ⟨some 16, (some (15, false)), .fa 3 (.t 2)⟩, ⟨some 17, (some (15, false)), .ld none (.t 16)⟩, ⟨some 18, (some (15, false)), .len false (.t 17)⟩, ⟨some 19, (some (15, false)), .mv (.t 1)⟩, ⟨some 20, (some (15, false)), .ic .gtr (.t 18) (.t 19)⟩, dO 21 (.pick (.t 15) kT (.t 20))])
 (.cond (.t 21)
 (.seq (.reg [dO 22 (.mv (.t 1)), dO 23 (.ia .add .i64 (.t 22) (kI 1)), dO 4 (.tk (.t 23))])
 (.ret))
 (.skip)))
 (.seq (.reg [dO 24 (.fa 0 (.t 2)), dO 25 (.ld none (.t 24)), dO 26 (.len false (.t 25)), dO 27 (.fa 3 (.t 2)), dO 28 (.ld none (.t 27)), dO 29 (.len false (.t 28)), dO 30 (.ia .add .i64 (.t 26) (.t 29)), dO 5 (.tk (.t 30))])
 (.seq (.seq (.reg [dO 6 (.tk (kI 0))])
 (.block 0 (l_r16_Size_0))) r_r16_Size_1))))) }
def c_bound_fine : AFunc :=
 { np := 1, res := [.t 2], body := (
 .seq (.reg [dO 1 (.box (.t 0)), dO 2 (.tk kF)])
 (.seq (.reg [dO 3 (.ld (some 4) (.t 1)), dO 4 (.callck n_types_Check [.t 3]), dO 5 (.bld [iZ, iZ] []), dO 6 (.eqa false [.int .i64, .int .i64] (.t 4) (.t 5)), dO 2 (.tk (.t 6))])
 (.ret))) }
def b_bound_known_steps_0 : AC :=
 .seq (.reg [dO 11 (.ic .lss (.t 10) (.t 9))])
 (.seq (.cond (.t 11)
 (.skip)
 (.exit 0))
 (.seq (.block 1 (.seq (.reg [dO 12 (.ixa 7 none (.t 8) (.t 10)), dO 13 (.ld (some 7) (.t 12)), dO 7 (.alloc [iZ, .str [], iZ, .own 4 [], .own 7 [], .own 7 [], .bool false]), ⟨none, none, .st 7 (.t 7) (.t 13)⟩])
 (.seq (.reg [dO 14 (.mv (.t 5)), dO 15 (.ia .add .i64 (.t 14) (kI 1)), dO 5 (.tk (.t 15))])
 (.seq (.seq (.reg [dO 16 (.fa 0 (.t 7)), dO 17 (.ld none (.t 16))])
 (.block 2 (.seq (.reg [dO 19 (.ic .eql (.t 17) (kI 14)), dO 18 (.tk (.t 19))])
 (.cond (.t 18)
 (.drw [[], [], [], [], [], [], [], [], [], []] [dO 20 (.mv (.t 5)), dO 21 (.fa 2 (.t 7)), dO 22 (.ld none (.t 21)), dO 23 (.mv (.t 0)), dO 24 (.fa 4 (.t 7)), dO 25 (.ld none (.t 24)), dO 26 (.callr n_bound_known_steps [.t 23, .t 25]), dO 27 (.ia .mul .i64 (.t 22) (.t 26)), dO 28 (.ia .add .i64 (.t 20) (.t 27)), dO 5 (.tk (.t 28))])
 (.seq (.reg [dO 30 (.ic .eql (.t 17) (kI 13)), dO 29 (.tk (.t 30))])
 (.cond (.t 29)
 (.drw [[], [], [], [], [], [], [], [], [], [], [], []] [dO 31 (.mv (.t 5)), dO 32 (.mv (.t 0)), dO 33 (.fa 4 (.t 7)), dO 34 (.ld none (.t 33)), dO 35 (.callr n_bound_known_steps [.t 32, .t 34]), dO 36 (.mv (.t 0)), dO 37 (.fa 5 (.t 7)), dO 38 (.ld none (.t 37)), dO 39 (.callr n_bound_known_steps [.t 36, .t 38]), dO 40 (.mx true [.t 35, .t 39]), dO 41 (.ia .add .i64 (.t 31) (.t 40)), dO 5 (.tk (.t 41))])
 (.seq (.reg [dO 43 (.ic .eql (.t 17) (kI 16)), dO 42 (.tk (.t 43))])
 (.cond (.t 42)
 (.reg [dO 44 (.mv (.t 5)), dO 45 (.fa 4 (.t 7)), dO 46 (.ld none (.t 45)), dO 47 (.len false (.t 46)), dO 48 (.ia .add .i64 (.t 44) (.t 47)), dO 5 (.tk (.t 48))])
 (.seq (.reg [dO 50 (.ic .eql (.t 17) (kI 15)), dO 49 (.tk (.t 50))])
 (.cond (.t 49)
 (.reg [dO 51 (.mv (.t 5)), dO 52 (.mv (.t 0)), dO 53 (.fa 1 (.t 7)), dO 54 (.ld none (.t 53)), dO 55 (.mlk false (.int .i64 0) false [.str] (.t 52) (.t 54)), dO 56 (.ia .add .i64 (.t 51) (.t 55)), dO 5 (.tk (.t 56))])
 (.skip)))))))))))
 (.reg [dO 57 (.mv (.t 5)), dO 58 (.mx false [.t 57, kI 65537]), dO 5 (.tk (.t 58))])))))
 (.reg [dO 59 (.ia .add .i64 (.t 10) (kI 1)), dO 10 (.mv (.t 59))])))
def l_bound_known_steps_0 : AC :=
 .loop [0, 5, 8, 9, 10] b_bound_known_steps_0
def r_bound_known_steps_0 : AC :=
 .seq (.reg [dO 60 (.mv (.t 5)), dO 4 (.tk (.t 60))])
 (.ret)
def c_bound_known_steps : AFunc :=
 { np := 2, res := [.t 4], body := (
 .seq (.reg [dO 4 (.tk (kI 0))])
 (.seq (.reg [dO 5 (.tk (kI 0))])
 (.seq (.seq (.reg [dO 8 (.mv (.t 1)), dO 9 (.len false (.t 8)), dO 10 (.mv (kI 0))])
 (.block 0 (l_bound_known_steps_0))) r_bound_known_steps_0))) }
def b_r19_Check_0 : AC :=
 .seq (.seq (.reg [dO 17 (.mv (.t 5)), dO 18 (.fa 0 (.t 1)), dO 19 (.ld none (.t 18)), dO 20 (.len false (.t 19)), dO 21 (.ic .lss (.t 17) (.t 20))])
 (.cond (.t 21)
 (.skip)
 (.exit 0)))
 (.seq (.block 1 (.seq (.seq (.reg [dO 24 (.mv (.t 4)), dO 25 (.fa 0 (.t 1)), dO 26 (.ld none (.t 25)), dO 27 (.mv (.t 5)), dO 28 (.ixa 2 none (.t 26) (.t 27)), dO 29 (.fa 0 (.t 28)), dO 30 (.ld none (.t 29)), dO 31 (.callc n_r19_has [.t 24, .t 30])])
 (.cond (.t 31)
 (.seq (.reg [dO 32 (.mv (.t 3)), dO 33 (.bld [iZ, iZ] [(0, 1, kI 9), (1, 1, .t 32)]), ⟨none, none, .st 2 (.t 2) (.t 33)⟩])
 (.ret))
 (.skip)))
 (.seq (.seq (.reg [dO 34 (.fa 0 (.t 1)), dO 35 (.ld none (.t 34)), dO 36 (.mv (.t 5)), dO 37 (.ixa 2 none (.t 35) (.t 36)), dO 38 (.fa 1 (.t 37)), dO 39 (.ld none (.t 38)), dO 40 (.mv (.t 3)), dO 41 (.mv (.t 4)), dO 42 (.callc n_r19_block [.t 39, .t 40, (.c (.own 2 [])), .t 41]), dO 6 (.alloc [iZ, iZ]), ⟨none, none, .st 2 (.t 6) (.t 42)⟩])
 (.seq (.reg [dO 43 (.fa 0 (.t 6)), dO 44 (.ld none (.t 43)), dO 45 (.ic .neq (.t 44) (kI 0))])
 (.cond (.t 45)
 (.seq (.reg [dO 46 (.ld (some 2) (.t 6)), ⟨none, none, .st 2 (.t 2) (.t 46)⟩])
 (.ret))
 (.skip))))
 (.seq (.reg [dO 47 (.tk (.t 4)), dO 48 (.fa 0 (.t 1)), dO 49 (.ld none (.t 48)), dO 50 (.mv (.t 5)), dO 51 (.ixa 2 none (.t 49) (.t 50)), dO 52 (.fa 0 (.t 51)), dO 53 (.ld none (.t 52)), dO 54 (.bsl 1 [.str []] 1 [(0, 1, .t 53)] false), dO 55 (.app 1 16 (.t 47) (.t 54) false), dO 4 (.tk (.t 55))])
 (.reg [dO 56 (.mv (.t 3)), dO 57 (.fa 0 (.t 1)), dO 58 (.ld none (.t 57)), dO 59 (.mv (.t 5)), dO 60 (.ixa 2 none (.t 58) (.t 59)), dO 61 (.fa 1 (.t 60)), dO 62 (.ld none (.t 61)), dO 63 (.callc n_r16_Count [.t 62]), dO 64 (.ia .add .i64 (.t 56) (.t 63)), dO 3 (.tk (.t 64))])))))
 (.reg [dO 22 (.mv (.t 5)), dO 23 (.ia .add .i64 (.t 22) (kI 1)), dO 5 (.tk (.t 23))]))
def l_r19_Check_0 : AC :=
 .loop [1, 2, 3, 4, 5] b_r19_Check_0
def b_r19_Check_1 : AC :=
 .seq (.seq (.reg [dO 93 (.mv (.t 10)), dO 94 (.fa 3 (.t 1)), dO 95 (.ld none (.t 94)), dO 96 (.len false (.t 95)), dO 97 (.ic .lss (.t 93) (.t 96))])
 (.cond (.t 97)
 (.skip)
 (.exit 2)))
 (.seq (.block 3 (.seq (.seq (.reg [dO 100 (.mv (.t 9)), dO 101 (.fa 3 (.t 1)), dO 102 (.ld none (.t 101)), dO 103 (.mv (.t 10)), dO 104 (.ixa 5 none (.t 102) (.t 103)), dO 105 (.fa 0 (.t 104)), dO 106 (.ld none (.t 105)), dO 107 (.callc n_r19_has [.t 100, .t 106])])
 (.cond (.t 107)
 (.seq (.reg [dO 108 (.mv (.t 3)), dO 109 (.mv (.t 10)), dO 110 (.ia .add .i64 (.t 108) (.t 109)), dO 111 (.bld [iZ, iZ] [(0, 1, kI 9), (1, 1, .t 110)]), ⟨none, none, .st 2 (.t 2) (.t 111)⟩])
 (.ret))
 (.skip)))
 (.seq (.reg [dO 113 (.fa 3 (.t 1)), dO 114 (.ld none (.t 113)), dO 115 (.mv (.t 10)), dO 116 (.ixa 5 none (.t 114) (.t 115)), dO 117 (.fa 1 (.t 116)), dO 118 (.ld (some 4) (.t 117)), dO 119 (.callc n_r19_Type [.t 118, (.c (.own 2 []))]), dO 112 (.mv (.t 119)), dO 120 (.ext (.t 112) 0), dO 121 (.ext (.t 112) 1), dO 11 (.tk (.t 120)), dO 12 (.tk (.t 121))])
 (.seq (.seq (.reg [dO 122 (.mv (.t 12)), dO 123 (.ic .neq (.t 122) (kI 0))])
 (.cond (.t 123)
 (.seq (.reg [dO 124 (.mv (.t 12)), dO 125 (.mv (.t 3)), dO 126 (.mv (.t 10)), dO 127 (.ia .add .i64 (.t 125) (.t 126)), dO 128 (.bld [iZ, iZ] [(0, 1, .t 124), (1, 1, .t 127)]), ⟨none, none, .st 2 (.t 2) (.t 128)⟩])
 (.ret))
 (.skip)))
 (.seq (.seq (.reg [dO 129 (.mv (.t 11)), dO 130 (.ic .neq (.t 129) (kI 3))])
 (.cond (.t 130)
 (.seq (.reg [dO 131 (.mv (.t 3)), dO 132 (.mv (.t 10)), dO 133 (.ia .add .i64 (.t 131) (.t 132)), dO 134 (.bld [iZ, iZ] [(0, 1, kI 11), (1, 1, .t 133)]), ⟨none, none, .st 2 (.t 2) (.t 134)⟩])
 (.ret))
 (.skip)))
 (.reg [dO 135 (.tk (.t 9)), dO 136 (.fa 3 (.t 1)), dO 137 (.ld none (.t 136)), dO 138 (.mv (.t 10)), dO 139 (.ixa 5 none (.t 137) (.t 138)), dO 140 (.fa 0 (.t 139)), dO 141 (.ld none (.t 140)), dO 142 (.bsl 1 [.str []] 1 [(0, 1, .t 141)] false), dO 143 (.app 1 16 (.t 135) (.t 142) false), dO 9 (.tk (.t 143))]))))))
 (.reg [dO 98 (.mv (.t 10)), dO 99 (.ia .add .i64 (.t 98) (kI 1)), dO 10 (.tk (.t 99))]))
def l_r19_Check_1 : AC :=
 .loop [1, 2, 3, 9, 10] b_r19_Check_1
def r_r19_Check_0 : AC :=
 .seq (.reg [dO 144 (.bld [iZ, iZ] []), ⟨none, none, .st 2 (.t 2) (.t 144)⟩])
 (.ret)
def r_r19_Check_1 : AC :=
 .seq (.seq (.reg [dO 65 (.fa 1 (.t 1)), dO 66 (.ld none (.t 65)), dO 67 (.mv (.t 3)), dO 68 (.mv (.t 4)), dO 69 (.callc n_r19_block [.t 66, .t 67, (.c (.own 2 [])), .t 68]), dO 7 (.alloc [iZ, iZ]), ⟨none, none, .st 2 (.t 7) (.t 69)⟩])
 (.seq (.reg [dO 70 (.fa 0 (.t 7)), dO 71 (.ld none (.t 70)), dO 72 (.ic .neq (.t 71) (kI 0))])
 (.cond (.t 72)
 (.seq (.reg [dO 73 (.ld (some 2) (.t 7)), ⟨none, none, .st 2 (.t 2) (.t 73)⟩])
 (.ret))
 (.skip))))
 (.seq (.reg [dO 74 (.mv (.t 3)), dO 75 (.fa 1 (.t 1)), dO 76 (.ld none (.t 75)), dO 77 (.callc n_r16_Count [.t 76]), dO 78 (.ia .add .i64 (.t 74) (.t 77)), dO 3 (.tk (.t 78))])
 (.seq (.seq (.reg [dO 79 (.fa 2 (.t 1)), dO 80 (.ld none (.t 79)), dO 81 (.mv (.t 3)), dO 82 (.mv (.t 4)), dO 83 (.callc n_r19_block [.t 80, .t 81, (.c (.own 2 [])), .t 82]), dO 8 (.alloc [iZ, iZ]), ⟨none, none, .st 2 (.t 8) (.t 83)⟩])
 (.seq (.reg [dO 84 (.fa 0 (.t 8)), dO 85 (.ld none (.t 84)), dO 86 (.ic .neq (.t 85) (kI 0))])
 (.cond (.t 86)
 (.seq (.reg [dO 87 (.ld (some 2) (.t 8)), ⟨none, none, .st 2 (.t 2) (.t 87)⟩])
 (.ret))
 (.skip))))
 (.seq (.reg [dO 88 (.mv (.t 3)), dO 89 (.fa 2 (.t 1)), dO 90 (.ld none (.t 89)), dO 91 (.callc n_r16_Count [.t 90]), dO 92 (.ia .add .i64 (.t 88) (.t 91)), dO 3 (.tk (.t 92))])
 (.seq (.reg [dO 9 (.tk (.c (.own 1 [])))])
 (.seq (.seq (.reg [dO 10 (.tk (kI 0))])
 (.block 2 (l_r19_Check_1))) r_r19_Check_0)))))
def c_r19_Check : AFunc :=
 { np := 1, res := [.cell 2 (some 2)], body := (
 .seq (.reg [dO 1 (.box (.t 0)), dO 2 (.alloc [iZ, iZ])])
 (.seq (.seq (.reg [dO 13 (.ld (some 4) (.t 1)), dO 14 (.callc n_r16_Right [.t 13]), dO 15 (.notb (.t 14))])
 (.cond (.t 15)
 (.seq (.reg [dO 16 (.bld [iZ, iZ] [(0, 1, kI 8)]), ⟨none, none, .st 2 (.t 2) (.t 16)⟩])
 (.ret))
 (.skip)))
 (.seq (.reg [dO 3 (.tk (kI 0))])
 (.seq (.reg [dO 4 (.tk (.c (.own 1 [])))])
 (.seq (.seq (.reg [dO 5 (.tk (kI 0))])
 (.block 0 (l_r19_Check_0))) r_r19_Check_1))))) }
def b_r20_steps_0 : AC :=
 .seq (.seq (.reg [dO 61 (.mv (.t 10)), dO 62 (.mv (.t 2)), dO 63 (.len false (.t 62)), dO 64 (.ic .lss (.t 61) (.t 63))])
 (.cond (.t 64)
 (.skip)
 (.exit 3)))
 (.seq (.block 4 (.seq (.drw [[], [], [], [], [], [], [], [], []] [dO 67 (.fa 0 (.t 4)), dO 68 (.ld none (.t 67)), dO 69 (.mv (.t 10)), dO 70 (.ixa 2 none (.t 68) (.t 69)), dO 71 (.fa 0 (.t 70)), dO 72 (.ld none (.t 71)), dO 73 (.fa 1 (.t 9)), dO 74 (.ld none (.t 73)), dO 75 (.sop .eql (.t 72) (.t 74))])
 (.cond (.t 75)
 (.reg [dO 76 (.mv (.t 7)), dO 77 (.mv (.t 2)), dO 78 (.mv (.t 10)), dO 79 (.ixa 1 none (.t 77) (.t 78)), dO 80 (.ld none (.t 79)), dO 81 (.ia .add .i64 (.t 76) (.t 80)), dO 7 (.tk (.t 81))])
 (.skip))))
 (.reg [dO 65 (.mv (.t 10)), dO 66 (.ia .add .i64 (.t 65) (kI 1)), dO 10 (.tk (.t 66))]))
def l_r20_steps_0 : AC :=
 .loop [0, 2, 4, 7, 8, 9, 10] b_r20_steps_0
def r_r20_steps_0 : AC :=
 .reg [dO 82 (.mv (.t 7)), dO 83 (.mx false [.t 82, kI 65537]), dO 7 (.tk (.t 83))]
def r_r20_steps_1 : AC :=
 .reg [dO 15 (.mv (.t 8)), dO 16 (.ia .add .i64 (.t 15) (kI 1)), dO 8 (.tk (.t 16))]
def b_r20_steps_1 : AC :=
 .seq (.seq (.reg [dO 11 (.mv (.t 8)), dO 12 (.mv (.t 0)), dO 13 (.len false (.t 12)), dO 14 (.ic .lss (.t 11) (.t 13))])
 (.cond (.t 14)
 (.skip)
 (.exit 0)))
 (.seq (.block 1 (.seq (.reg [dO 17 (.mv (.t 7)), dO 18 (.ia .add .i64 (.t 17) (kI 1)), dO 7 (.tk (.t 18))])
 (.seq (.reg [dO 19 (.mv (.t 0)), dO 20 (.mv (.t 8)), dO 21 (.ixa 7 none (.t 19) (.t 20)), dO 22 (.ld (some 7) (.t 21)), dO 9 (.alloc [iZ, .str [], iZ, .own 4 [], .own 7 [], .own 7 [], .bool false]), ⟨none, none, .st 7 (.t 9) (.t 22)⟩])
 (.seq (.seq (.reg [dO 23 (.fa 0 (.t 9)), dO 24 (.ld none (.t 23))])
 (.block 2 (.seq (.reg [dO 26 (.ic .eql (.t 24) (kI 14)), dO 25 (.tk (.t 26))])
 (.cond (.t 25)
 (.drw [[], [], [], [], [], [], [], [], [], [], []] [dO 27 (.mv (.t 7)), dO 28 (.fa 2 (.t 9)), dO 29 (.ld none (.t 28)), dO 30 (.fa 4 (.t 9)), dO 31 (.ld none (.t 30)), dO 32 (.ld (some 4) (.t 4)), dO 33 (.mv (.t 2)), dO 34 (.callc n_r20_steps [.t 31, .t 32, .t 33]), dO 35 (.ia .mul .i64 (.t 29) (.t 34)), dO 36 (.ia .add .i64 (.t 27) (.t 35)), dO 7 (.tk (.t 36))])
 (.seq (.reg [dO 38 (.ic .eql (.t 24) (kI 13)), dO 37 (.tk (.t 38))])
 (.cond (.t 37)
 (.drw [[], [], [], [], [], [], [], [], [], [], [], [], [], []] [dO 39 (.mv (.t 7)), dO 40 (.fa 4 (.t 9)), dO 41 (.ld none (.t 40)), dO 42 (.ld (some 4) (.t 4)), dO 43 (.mv (.t 2)), dO 44 (.callc n_r20_steps [.t 41, .t 42, .t 43]), dO 45 (.fa 5 (.t 9)), dO 46 (.ld none (.t 45)), dO 47 (.ld (some 4) (.t 4)), dO 48 (.mv (.t 2)), dO 49 (.callc n_r20_steps [.t 46, .t 47, .t 48]), dO 50 (.mx true [.t 44, .t 49]), dO 51 (.ia .add .i64 (.t 39) (.t 50)), dO 7 (.tk (.t 51))])
 (.seq (.reg [dO 53 (.ic .eql (.t 24) (kI 16)), dO 52 (.tk (.t 53))])
 (.cond (.t 52)
 (.reg [dO 54 (.mv (.t 7)), dO 55 (.fa 4 (.t 9)), dO 56 (.ld none (.t 55)), dO 57 (.len false (.t 56)), dO 58 (.ia .add .i64 (.t 54) (.t 57)), dO 7 (.tk (.t 58))])
 (.seq (.reg [dO 60 (.ic .eql (.t 24) (kI 15)), dO 59 (.tk (.t 60))])
 (.cond (.t 59)
 (.seq (.reg [dO 10 (.tk (kI 0))])
 (.block 3 (l_r20_steps_0)))
 (.skip))))))))))) r_r20_steps_0)))) r_r20_steps_1)
def l_r20_steps_1 : AC :=
 .loop [0, 2, 4, 7, 8] b_r20_steps_1
def r_r20_steps_2 : AC :=
 .seq (.reg [dO 84 (.mv (.t 7)), dO 6 (.tk (.t 84))])
 (.ret)
def c_r20_steps : AFunc :=
 { np := 3, res := [.t 6], body := (
 .seq (.reg [dO 4 (.box (.t 1)), dO 6 (.tk (kI 0))])
 (.seq (.reg [dO 7 (.tk (kI 0))])
 (.seq (.seq (.reg [dO 8 (.tk (kI 0))])
 (.block 0 (l_r20_steps_1))) r_r20_steps_2))) }
def b_bound_known_deep_0 : AC :=
 .seq (.reg [dO 13 (.ic .lss (.t 12) (.t 11))])
 (.seq (.cond (.t 13)
 (.skip)
 (.exit 0))
 (.seq (.block 1 (.seq (.reg [dO 14 (.ixa 7 none (.t 10) (.t 12)), dO 15 (.ld (some 7) (.t 14)), dO 7 (.alloc [iZ, .str [], iZ, .own 4 [], .own 7 [], .own 7 [], .bool false]), ⟨none, none, .st 7 (.t 7) (.t 15)⟩])
 (.seq (.reg [dO 16 (.fa 0 (.t 7)), dO 17 (.ld none (.t 16)), dO 18 (.ic .eql (.t 17) (kI 15))])
 (.cond (.t 18)
 (.reg [dO 19 (.mv (.t 5)), dO 20 (.mv (.t 0)), dO 21 (.fa 1 (.t 7)), dO 22 (.ld none (.t 21)), dO 23 (.mlk false (.int .i64 0) false [.str] (.t 20) (.t 22)), dO 24 (.mx true [.t 19, .t 23]), dO 5 (.tk (.t 24))])
 (.skip)))))
 (.reg [dO 25 (.ia .add .i64 (.t 12) (kI 1)), dO 12 (.mv (.t 25))])))
def l_bound_known_deep_0 : AC :=
 .loop [0, 5, 10, 11, 12] b_bound_known_deep_0
def r_bound_known_deep_0 : AC :=
 .seq (.reg [dO 26 (.mv (.t 5)), dO 4 (.tk (.t 26))])
 (.ret)
def c_bound_known_deep : AFunc :=
 { np := 2, res := [.t 4], body := (
 .seq (.reg [dO 4 (.tk (kI 0))])
 (.seq (.reg [dO 5 (.tk (kI 0))])
 (.seq (.seq (.reg [dO 8 (.mv (.t 1)), dO 9 (.bld [.sl 2 [], .sl 7 [], .sl 7 [], .sl 5 []] [(1, 1, .t 8)]), dO 10 (.callc n_tree_All [.t 9]), dO 11 (.len false (.t 10)), dO 12 (.mv (kI 0))])
 (.block 0 (l_bound_known_deep_0))) r_bound_known_deep_0))) }
def b_r20_calls_0 : AC :=
 .seq (.seq (.reg [dO 6 (.mv (.t 5)), dO 7 (.mv (.t 0)), dO 8 (.len false (.t 7)), dO 9 (.ic .lss (.t 6) (.t 8))])
 (.cond (.t 9)
 (.skip)
 (.exit 0)))
 (.seq (.block 1 (.seq (.reg [dO 12 (.mv (.t 0)), dO 13 (.mv (.t 5)), dO 14 (.ixa 7 none (.t 12) (.t 13)), dO 15 (.fa 0 (.t 14)), dO 16 (.ld none (.t 15)), dO 17 (.ic .eql (.t 16) (kI 15)), dO 18 (.mv (.t 17)), ⟨some 19, (some (18, true)), .mv (.t 0)⟩, ⟨some 20, (some (18, true)), .mv (.t 5)⟩, ⟨some 21, (some (18, true)), .ixa 7 none (.t 19) (.t 20)⟩, ⟨some 22, (some (18, true)), .fa 1 (.t 21)⟩, ⟨some 23, (some (18, true)), .ld none (.t 22)⟩, ⟨some 24, (some (18, true)), .mv (.t 1)⟩, ⟨some 25, (some (18, true)), .sop .eql (.t 23) (.t 24)⟩, dO 26 (.pick (.t 18) (.t 25) kF), dO 27 (.mv (.t 26)), ⟨some 28, (some (27, false)), .mv (.t 0)⟩, ⟨some 29, (some (27, false)), .mv (.t 5)⟩, ⟨some 30, (some (27, false)), .ixa 7 none (.t 28) (.t 29)⟩, ⟨some 31, (some (27, false)), .fa 4 (.t 30)⟩, ⟨some 32, (some (27, false)), .ld none (.t 31)⟩, ⟨some 33, (some (27, false)), .mv (.t 1)⟩, ⟨some 34, (some (27, false)), .callc n_r20_calls [.t 32, .t 33]⟩, dO 35 (.pick (.t 27) kT (.t 34)), dO 36 (.mv (.t 35)), ⟨some 37, (some (36, false)), .mv (.t 0)⟩, ⟨some 38, (some (36, false)), .mv (.t 5)⟩, ⟨some 39, (some (36, false)), .ixa 7 none (.t 37) (.t 38)⟩, ⟨some 40, (some (36, false)), .fa 5 (.t 39)⟩, ⟨some 41, (some (36, false)), .ld none (.t 40)⟩, ⟨some 42, (some (36, false)), .mv (.t 1)⟩, ⟨some 43, (some (36, false)), .callc n_r20_calls [.t 41, .t 42]⟩, dO 44 (.pick (.t 36) kT (.t 43))])
 (.cond (.t 44)
 (.seq (.reg [dO 4 (.tk kT)])
 (.ret))
 (.skip))))
 (.reg [dO 10 (.mv (.t 5)), dO 11 (.ia .add .i64 (.t 10) (kI 1)), dO 5 (.tk (.t 11))]))
def l_r20_calls_0 : AC :=
 .loop [0, 1, 5] b_r20_calls_0
def r_r20_calls_0 : AC :=
 .seq (.reg [dO 4 (.tk kF)])
 (.ret)
def c_r20_calls : AFunc :=
 { np := 2, res := [.t 4], body := (
 .seq (.reg [dO 4 (.tk kF)])
 (.seq (.seq (.reg [dO 5 (.tk (kI 0))])
 (.block 0 (l_r20_calls_0))) r_r20_calls_0)) }
def a_tree_All_0 : AC :=
 .reg [dO 6 (.alloc [iZ, .str [], iZ, .own 4 [], .own 7 [], .own 7 [], .bool false]), ⟨none, none, .st 7 (.t 6) (.t 16)⟩]
def y_tree_All_0 : AC :=
 .block 3 (.drw [[], [], [], [], [], [], [], [], []] [dO 17 (.ldo (.t 3)), dO 18 (.ld (some 7) (.t 6)), dO 19 (.callc n_tree_cloned [.t 18]), dO 20 (.len false (.t 17)), dO 21 (.bsl 7 [iZ, .str [], iZ, .sl 4 [], .sl 7 [], .sl 7 [], .bool false] 1 [(0, 7, (.c (.agg [iZ, .str [], iZ, .sl 4 [], .sl 7 [], .sl 7 [], .bool false])))] false), dO 22 (.apz 7 112 (.t 17) (.t 21)), dO 23 (.ixa 7 none (.t 22) (.t 20)), ⟨none, none, .st 7 (.t 23) (.t 19)⟩, ⟨none, none, .stf (.t 3) (.t 22)⟩])
def r_tree_All_0 : AC :=
 .reg [dO 24 (.ia .add .i64 (.t 10) (kI 1)), dO 10 (.mv (.t 24))]
def b_tree_All_0 : AC :=
 .seq (.reg [dO 11 (.ic .lss (.t 10) (.t 9))])
 (.seq (.cond (.t 11)
 (.skip)
 (.exit 0))
 (.seq (.block 1 (.seq (.reg [dO 12 (.ixa 1 none (.t 8) (.t 10)), dO 13 (.ld none (.t 12)), dO 5 (.tk (.t 13))])
 (.seq (.reg [dO 14 (.mv (.t 5)), dO 15 (.call n_tree_walk [.t 14])])
 (.block 2 (.rfn (.t 15) [3] q_tree_All_0 [16] a_tree_All_0 y_tree_All_0))))) r_tree_All_0))
def l_tree_All_0 : AC :=
 .loop [3, 8, 9, 10] b_tree_All_0
def r_tree_All_1 : AC :=
 .seq (.reg [dO 25 (.ld none (.t 3)), dO 2 (.tk (.t 25))])
 (.ret)
def c_tree_All : AFunc :=
 { np := 1, res := [.t 2], body := (
 .seq (.reg [dO 1 (.box (.t 0)), dO 2 (.tk (.c (.own 7 [])))])
 (.seq (.reg [dO 3 (.alloc [.own 7 []])])
 (.seq (.seq (.reg [dO 7 (.ld (some 4) (.t 1)), dO 8 (.callc n_tree_parts [.t 7]), dO 9 (.len false (.t 8)), dO 10 (.mv (kI 0))])
 (.block 0 (l_tree_All_0))) r_tree_All_1))) }
def a_tree_Count_0 : AC :=
 .skip
def y_tree_Count_0 : AC :=
 .block 1 (.reg [dO 7 (.ld none (.t 3)), dO 8 (.ia .add .i64 (.t 7) (kI 1)), ⟨none, none, .st 1 (.t 3) (.t 8)⟩])
def r_tree_Count_0 : AC :=
 .seq (.reg [dO 9 (.ld none (.t 3)), dO 2 (.tk (.t 9))])
 (.ret)
def c_tree_Count : AFunc :=
 { np := 1, res := [.t 2], body := (
 .seq (.reg [dO 2 (.tk (kI 0))])
 (.seq (.reg [dO 3 (.alloc [iZ]), ⟨none, none, .st 1 (.t 3) (kI 0)⟩])
 (.seq (.seq (.reg [dO 4 (.mv (.t 0)), dO 5 (.call n_tree_walk [.t 4])])
 (.block 0 (.rfn (.t 5) [3] q_tree_Count_0 [6] a_tree_Count_0 y_tree_Count_0))) r_tree_Count_0))) }
def b_r16_Count_0 : AC :=
 .seq (.seq (.reg [dO 7 (.mv (.t 4)), dO 8 (.mv (.t 0)), dO 9 (.len false (.t 8)), dO 10 (.ic .lss (.t 7) (.t 9))])
 (.cond (.t 10)
 (.skip)
 (.exit 0)))
 (.seq (.block 1 (.drw [[], [], [], [], [], [], [], [], [], [], [], [], [], [], [], []] [dO 13 (.mv (.t 3)), dO 14 (.mv (.t 0)), dO 15 (.mv (.t 4)), dO 16 (.ixa 7 none (.t 14) (.t 15)), dO 17 (.fa 4 (.t 16)), dO 18 (.ld none (.t 17)), dO 19 (.callc n_r16_Count [.t 18]), dO 20 (.ia .add .i64 (.t 13) (.t 19)), dO 21 (.mv (.t 0)), dO 22 (.mv (.t 4)), dO 23 (.ixa 7 none (.t 21) (.t 22)), dO 24 (.fa 5 (.t 23)), dO 25 (.ld none (.t 24)), dO 26 (.callc n_r16_Count [.t 25]), dO 27 (.ia .add .i64 (.t 20) (.t 26)), dO 3 (.tk (.t 27))]))
 (.reg [dO 11 (.mv (.t 4)), dO 12 (.ia .add .i64 (.t 11) (kI 1)), dO 4 (.tk (.t 12))]))
def l_r16_Count_0 : AC :=
 .loop [0, 3, 4] b_r16_Count_0
def r_r16_Count_0 : AC :=
 .seq (.reg [dO 28 (.mv (.t 3)), dO 2 (.tk (.t 28))])
 (.ret)
def c_r16_Count : AFunc :=
 { np := 1, res := [.t 2], body := (
 .seq (.reg [dO 2 (.tk (kI 0))])
 (.seq (.reg [dO 5 (.mv (.t 0)), dO 6 (.len false (.t 5)), dO 3 (.tk (.t 6))])
 (.seq (.seq (.reg [dO 4 (.tk (kI 0))])
 (.block 0 (l_r16_Count_0))) r_r16_Count_0))) }
def b_r16_block_0 : AC :=
 .seq (.seq (.reg [dO 30 (.mv (.t 7)), dO 31 (.mv (.t 0)), dO 32 (.mv (.t 6)), dO 33 (.ixa 7 none (.t 31) (.t 32)), dO 34 (.fa 3 (.t 33)), dO 35 (.ld none (.t 34)), dO 36 (.len false (.t 35)), dO 37 (.ic .lss (.t 30) (.t 36))])
 (.cond (.t 37)
 (.skip)
 (.exit 2)))
 (.seq (.block 3 (.seq (.reg [dO 40 (.mv (.t 5)), dO 41 (.mv (.t 0)), dO 42 (.mv (.t 6)), dO 43 (.ixa 7 none (.t 41) (.t 42)), dO 44 (.fa 3 (.t 43)), dO 45 (.ld none (.t 44)), dO 46 (.mv (.t 7)), dO 47 (.ixa 4 none (.t 45) (.t 46)), dO 48 (.ld (some 4) (.t 47)), dO 49 (.mv (.t 1)), dO 50 (.mv (.t 5)), dO 51 (.ia .sub .i64 (.t 49) (.t 50)), dO 52 (.callc n_r16_expr [.t 48, .t 51]), dO 53 (.ia .add .i64 (.t 40) (.t 52)), dO 5 (.tk (.t 53))])
 (.seq (.reg [dO 54 (.mv (.t 5)), dO 55 (.mv (.t 1)), dO 56 (.ic .gtr (.t 54) (.t 55))])
 (.cond (.t 56)
 (.seq (.reg [dO 57 (.mv (.t 1)), dO 58 (.ia .add .i64 (.t 57) (kI 1)), dO 4 (.tk (.t 58))])
 (.ret))
 (.skip)))))
 (.reg [dO 38 (.mv (.t 7)), dO 39 (.ia .add .i64 (.t 38) (kI 1)), dO 7 (.tk (.t 39))]))
def l_r16_block_0 : AC :=
 .loop [0, 1, 5, 6, 7] b_r16_block_0
def r_r16_block_0 : AC :=
 .seq (.reg [dO 59 (.mv (.t 5)), dO 60 (.mv (.t 0)), dO 61 (.mv (.t 6)), dO 62 (.ixa 7 none (.t 60) (.t 61)), dO 63 (.fa 4 (.t 62)), dO 64 (.ld none (.t 63)), dO 65 (.mv (.t 1)), dO 66 (.mv (.t 5)), dO 67 (.ia .sub .i64 (.t 65) (.t 66)), dO 68 (.callc n_r16_block [.t 64, .t 67]), dO 69 (.ia .add .i64 (.t 59) (.t 68)), dO 5 (.tk (.t 69))])
 (.seq (.seq (.reg [dO 70 (.mv (.t 5)), dO 71 (.mv (.t 1)), dO 72 (.ic .gtr (.t 70) (.t 71))])
 (.cond (.t 72)
 (.seq (.reg [dO 73 (.mv (.t 1)), dO 74 (.ia .add .i64 (.t 73) (kI 1)), dO 4 (.tk (.t 74))])
 (.ret))
 (.skip)))
 (.seq (.reg [dO 75 (.mv (.t 5)), dO 76 (.mv (.t 0)), dO 77 (.mv (.t 6)), dO 78 (.ixa 7 none (.t 76) (.t 77)), dO 79 (.fa 5 (.t 78)), dO 80 (.ld none (.t 79)), dO 81 (.mv (.t 1)), dO 82 (.mv (.t 5)), dO 83 (.ia .sub .i64 (.t 81) (.t 82)), dO 84 (.callc n_r16_block [.t 80, .t 83]), dO 85 (.ia .add .i64 (.t 75) (.t 84)), dO 5 (.tk (.t 85))])
 (.seq (.reg [dO 86 (.mv (.t 5)), dO 87 (.mv (.t 1)), dO 88 (.ic .gtr (.t 86) (.t 87))])
 (.cond (.t 88)
 (.seq (.reg [dO 89 (.mv (.t 1)), dO 90 (.ia .add .i64 (.t 89) (kI 1)), dO 4 (.tk (.t 90))])
 (.ret))
 (.skip)))))
def r_r16_block_1 : AC :=
 .reg [dO 12 (.mv (.t 6)), dO 13 (.ia .add .i64 (.t 12) (kI 1)), dO 6 (.tk (.t 13))]
def b_r16_block_1 : AC :=
 .seq (.seq (.reg [dO 8 (.mv (.t 6)), dO 9 (.mv (.t 0)), dO 10 (.len false (.t 9)), dO 11 (.ic .lss (.t 8) (.t 10))])
 (.cond (.t 11)
 (.skip)
 (.exit 0)))
 (.seq (.block 1 (.seq (.reg [dO 14 (.mv (.t 5)), dO 15 (.ia .add .i64 (.t 14) (kI 1)), dO 5 (.tk (.t 15))])
 (.seq (.seq (.reg [dO 16 (.mv (.t 5)), dO 17 (.mv (.t 1)), dO 18 (.ic .gtr (.t 16) (.t 17)), dO 19 (.mv (.t 18)), ⟨some 20, (some (19, false)), .mv (.t 0)⟩, ⟨some 21, (some (19, false)), .mv (.t 6)⟩, ⟨some 22, (some (19, false)), .ixa 7 none (.t 20) (.t 21)⟩, ⟨some 23, (some (19, false)), .fa 1 (.t 22)⟩, ⟨some 24, (some (19, false)), .ld none (.t 23)⟩, ⟨some 25, (some (19, false)), .len true (.t 24)⟩, ⟨some 26, (some (19, false)), .ic .gtr (.t 25) (kI 300)⟩, dO 27 (.pick (.t 19) kT (.t 26))])
 (.cond (.t 27)
 (.seq (.reg [dO 28 (.mv (.t 1)), dO 29 (.ia .add .i64 (.t 28) (kI 1)), dO 4 (.tk (.t 29))])
 (.ret))
 (.skip)))
 (.seq (.seq (.reg [dO 7 (.tk (kI 0))])
 (.block 2 (l_r16_block_0))) r_r16_block_0)))) r_r16_block_1)
def l_r16_block_1 : AC :=
 .loop [0, 1, 5, 6] b_r16_block_1
def r_r16_block_2 : AC :=
 .seq (.reg [dO 91 (.mv (.t 5)), dO 4 (.tk (.t 91))])
 (.ret)
def c_r16_block : AFunc :=
 { np := 2, res := [.t 4], body := (
 .seq (.reg [dO 4 (.tk (kI 0))])
 (.seq (.reg [dO 5 (.tk (kI 0))])
 (.seq (.seq (.reg [dO 6 (.tk (kI 0))])
 (.block 0 (l_r16_block_1))) r_r16_block_2))) }
def b_r16_expr_0 : AC :=
 .seq (.seq (.reg [dO 17 (.mv (.t 6)), dO 18 (.fa 3 (.t 2)), dO 19 (.ld none (.t 18)), dO 20 (.len false (.t 19)), dO 21 (.ic .lss (.t 17) (.t 20))])
 (.cond (.t 21)
 (.skip)
 (.exit 0)))
 (.seq (.block 1 (.seq (.reg [dO 24 (.mv (.t 5)), dO 25 (.fa 3 (.t 2)), dO 26 (.ld none (.t 25)), dO 27 (.mv (.t 6)), dO 28 (.ixa 4 none (.t 26) (.t 27)), dO 29 (.ld (some 4) (.t 28)), dO 30 (.mv (.t 1)), dO 31 (.mv (.t 5)), dO 32 (.ia .sub .i64 (.t 30) (.t 31)), dO 33 (.callc n_r16_expr [.t 29, .t 32]), dO 34 (.ia .add .i64 (.t 24) (.t 33)), dO 5 (.tk (.t 34))])
 (.seq (.reg [dO 35 (.mv (.t 5)), dO 36 (.mv (.t 1)), dO 37 (.ic .gtr (.t 35) (.t 36))])
 (.cond (.t 37)
 (.seq (.reg [dO 38 (.mv (.t 1)), dO 39 (.ia .add .i64 (.t 38) (kI 1)), dO 4 (.tk (.t 39))])
 (.ret))
 (.skip)))))
 (.reg [dO 22 (.mv (.t 6)), dO 23 (.ia .add .i64 (.t 22) (kI 1)), dO 6 (.tk (.t 23))]))
def l_r16_expr_0 : AC :=
 .loop [1, 2, 5, 6] b_r16_expr_0
def r_r16_expr_0 : AC :=
 .seq (.reg [dO 40 (.mv (.t 5)), dO 4 (.tk (.t 40))])
 (.ret)
def c_r16_expr : AFunc :=
 { np := 2, res := [.t 4], body := (
 .seq (.reg [dO 2 (.box (.t 0)), dO 4 (.tk (kI 0))])
 (.seq (.seq (.reg [dO 7 (.mv (.t 1)), dO 8 (.ic .lss (.t 7) (kI 1)), dO 9 (.mv (.t 8)), ⟨some 10, (some (9, false)), .fa 2 (.t 2)⟩, ⟨some 11, (some (9, false)), .ld none (.t 10)⟩, ⟨some 12, (some (9, false)), .len true (.t 11)⟩, ⟨some 13, (some (9, false)), .ic .gtr (.t 12) (kI 300)⟩, dO 14 (.pick (.t 9) kT (.t 13))])
 (.cond (.t 14)
 (.seq (.reg [dO 15 (.mv (.t 1)), dO 16 (.ia .add .i64 (.t 15) (kI 1)), dO 4 (.tk (.t 16))])
 (.ret))
 (.skip)))
 (.seq (.reg [dO 5 (.tk (kI 1))])
 (.seq (.seq (.reg [dO 6 (.tk (kI 0))])
 (.block 0 (l_r16_expr_0))) r_r16_expr_0)))) }
def b_r16_Right_0 : AC :=
 .seq (.seq (.reg [dO 21 (.mv (.t 3)), dO 22 (.fa 0 (.t 1)), dO 23 (.ld none (.t 22)), dO 24 (.len false (.t 23)), dO 25 (.ic .lss (.t 21) (.t 24))])
 (.cond (.t 25)
 (.skip)
 (.exit 0)))
 (.seq (.block 1 (.seq (.reg [dO 28 (.fa 0 (.t 1)), dO 29 (.ld none (.t 28)), dO 30 (.mv (.t 3)), dO 31 (.ixa 2 none (.t 29) (.t 30)), dO 32 (.fa 0 (.t 31)), dO 33 (.ld none (.t 32)), dO 34 (.callc n_r15_Name [.t 33]), dO 35 (.notb (.t 34)), dO 36 (.mv (.t 35)), ⟨some 37, (some (36, false)), .fa 0 (.t 1)⟩, ⟨some 38, (some (36, false)), .ld none (.t 37)⟩, ⟨some 39, (some (36, false)), .mv (.t 3)⟩, ⟨some 40, (some (36, false)), .ixa 2 none (.t 38) (.t 39)⟩, ⟨some 41, (some (36, false)), .fa 1 (.t 40)⟩, ⟨some 42, (some (36, false)), .ld none (.t 41)⟩, ⟨some 43, (some (36, false)), .callc n_r16_Block [.t 42, kI 1]⟩, ⟨some 44, (some (36, false)), .notb (.t 43)⟩, dO 45 (.pick (.t 36) kT (.t 44))])
 (.cond (.t 45)
 (.seq (.reg [dO 2 (.tk kF)])
 (.ret))
 (.skip))))
 (.reg [dO 26 (.mv (.t 3)), dO 27 (.ia .add .i64 (.t 26) (kI 1)), dO 3 (.tk (.t 27))]))
def l_r16_Right_0 : AC :=
 .loop [1, 3] b_r16_Right_0
def b_r16_Right_1 : AC :=
 .seq (.seq (.reg [dO 46 (.mv (.t 4)), dO 47 (.fa 3 (.t 1)), dO 48 (.ld none (.t 47)), dO 49 (.len false (.t 48)), dO 50 (.ic .lss (.t 46) (.t 49))])
 (.cond (.t 50)
 (.skip)
 (.exit 2)))
 (.seq (.block 3 (.seq (.reg [dO 53 (.fa 3 (.t 1)), dO 54 (.ld none (.t 53)), dO 55 (.mv (.t 4)), dO 56 (.ixa 5 none (.t 54) (.t 55)), dO 57 (.fa 0 (.t 56)), dO 58 (.ld none (.t 57)), dO 59 (.callc n_r15_Name [.t 58]), dO 60 (.notb (.t 59)), dO 61 (.mv (.t 60)), ⟨some 62, (some (61, false)), .fa 3 (.t 1)⟩, ⟨some 63, (some (61, false)), .ld none (.t 62)⟩, ⟨some 64, (some (61, false)), .mv (.t 4)⟩, ⟨some 65, (some (61, false)), .ixa 5 none (.t 63) (.t 64)⟩, ⟨some 66, (some (61, false)), .fa 1 (.t 65)⟩, ⟨some 67, (some (61, false)), .ld (some 4) (.t 66)⟩, ⟨some 68, (some (61, false)), .callc n_r16_Expr [.t 67, kI 8]⟩, ⟨some 69, (some (61, false)), .notb (.t 68)⟩, dO 70 (.pick (.t 61) kT (.t 69))])
 (.cond (.t 70)
 (.seq (.reg [dO 2 (.tk kF)])
 (.ret))
 (.skip))))
 (.reg [dO 51 (.mv (.t 4)), dO 52 (.ia .add .i64 (.t 51) (kI 1)), dO 4 (.tk (.t 52))]))
def l_r16_Right_1 : AC :=
 .loop [1, 4] b_r16_Right_1
def r_r16_Right_0 : AC :=
 .seq (.reg [dO 71 (.fa 1 (.t 1)), dO 72 (.ld none (.t 71)), dO 73 (.callc n_r16_Block [.t 72, kI 1]), dO 74 (.mv (.t 73)), ⟨some 75, (some (74, true)), .fa 2 (.t 1)⟩, ⟨some 76, (some (74, true)), .ld none (.t 75)⟩, ⟨some 77, (some (74, true)), .callc n_r16_Block [.t 76, kI 1]⟩, dO 78 (.pick (.t 74) (.t 77) kF), dO 2 (.tk (.t 78))])
 (.ret)
def r_r16_Right_1 : AC :=
 .seq (.seq (.reg [dO 4 (.tk (kI 0))])
 (.block 2 (l_r16_Right_1))) r_r16_Right_0
def c_r16_Right : AFunc :=
 { np := 1, res := [.t 2], body := (
 .seq (.reg [dO 1 (.box (.t 0)), dO 2 (.tk kF)])
 (.seq (.seq (.reg [dO 5 (.fa 0 (.t 1)), dO 6 (.ld none (.t 5)), dO 7 (.len false (.t 6)), dO 8 (.ic .gtr (.t 7) (kI 16)), dO 9 (.mv (.t 8)), ⟨some 10, (some (9, false)), .fa 3 (.t 1)⟩, ⟨some 11, (some (9, false)), .ld none (.t 10)⟩, ⟨some 12, (some (9, false)), .len false (.t 11)⟩, ⟨some 13, (some (9, false)), .ic .gtr (.t 12) (kI 16)⟩, dO 14 (.pick (.t 9) kT (.t 13)), dO 15 (.mv (.t 14)), ⟨some 16, (some (15, false)), .ld (some 4) (.t 1)⟩, ⟨some 17, (some (15, false)), .callc n_r16_All [.t 16]⟩, ⟨some 18, (some (15, false)), .len false (.t 17)⟩, ⟨some 19, (some (15, false)), .ic .gtr (.t 18) (kI 256)⟩, dO 20 (.pick (.t 15) kT (.t 19))])
 (.cond (.t 20)
 (.seq (.reg [dO 2 (.tk kF)])
 (.ret))
 (.skip)))
 (.seq (.seq (.reg [dO 3 (.tk (kI 0))])
 (.block 0 (l_r16_Right_0))) r_r16_Right_1))) }
def b_r19_has_0 : AC :=
 .seq (.seq (.reg [dO 6 (.mv (.t 5)), dO 7 (.mv (.t 0)), dO 8 (.len false (.t 7)), dO 9 (.ic .lss (.t 6) (.t 8))])
 (.cond (.t 9)
 (.skip)
 (.exit 0)))
 (.seq (.block 1 (.seq (.reg [dO 12 (.mv (.t 0)), dO 13 (.mv (.t 5)), dO 14 (.ixa 1 none (.t 12) (.t 13)), dO 15 (.ld none (.t 14)), dO 16 (.mv (.t 1)), dO 17 (.sop .eql (.t 15) (.t 16))])
 (.cond (.t 17)
 (.seq (.reg [dO 4 (.tk kT)])
 (.ret))
 (.skip))))
 (.reg [dO 10 (.mv (.t 5)), dO 11 (.ia .add .i64 (.t 10) (kI 1)), dO 5 (.tk (.t 11))]))
def l_r19_has_0 : AC :=
 .loop [0, 1, 5] b_r19_has_0
def r_r19_has_0 : AC :=
 .seq (.reg [dO 4 (.tk kF)])
 (.ret)
def c_r19_has : AFunc :=
 { np := 2, res := [.t 4], body := (
 .seq (.reg [dO 4 (.tk kF)])
 (.seq (.seq (.reg [dO 5 (.tk (kI 0))])
 (.block 0 (l_r19_has_0))) r_r19_has_0)) }
def b_r19_block_0 : AC :=
 .seq (.seq (.reg [dO 12 (.mv (.t 9)), dO 13 (.mv (.t 0)), dO 14 (.len false (.t 13)), dO 15 (.ic .lss (.t 12) (.t 14))])
 (.cond (.t 15)
 (.skip)
 (.exit 0)))
 (.seq (.block 1 (.seq (.reg [dO 19 (.mv (.t 0)), dO 20 (.mv (.t 9)), dO 21 (.ixa 7 none (.t 19) (.t 20)), dO 22 (.ld (some 7) (.t 21)), dO 23 (.mv (.t 1)), dO 24 (.mv (.t 2)), dO 25 (.mv (.t 3)), dO 26 (.callc n_r19_stmt [.t 22, .t 23, .t 24, .t 25]), dO 18 (.mv (.t 26)), dO 27 (.ext (.t 18) 0), dO 28 (.ext (.t 18) 1), dO 11 (.alloc [iZ, iZ]), dO 10 (.tk (.t 27)), ⟨none, none, .st 2 (.t 11) (.t 28)⟩])
 (.seq (.seq (.reg [dO 29 (.fa 0 (.t 11)), dO 30 (.ld none (.t 29)), dO 31 (.ic .neq (.t 30) (kI 0))])
 (.cond (.t 31)
 (.seq (.reg [dO 32 (.ld (some 2) (.t 11)), ⟨none, none, .st 2 (.t 8) (.t 32)⟩])
 (.ret))
 (.skip)))
 (.seq (.reg [dO 33 (.tk (.t 10)), dO 2 (.tk (.t 33))])
 (.drw [[], [], [], [], [], [], [], [], [], [], [], [], [], [], [], [], []] [dO 34 (.mv (.t 1)), dO 35 (.ia .add .i64 (.t 34) (kI 1)), dO 36 (.mv (.t 0)), dO 37 (.mv (.t 9)), dO 38 (.ixa 7 none (.t 36) (.t 37)), dO 39 (.fa 4 (.t 38)), dO 40 (.ld none (.t 39)), dO 41 (.callc n_r16_Count [.t 40]), dO 42 (.ia .add .i64 (.t 35) (.t 41)), dO 43 (.mv (.t 0)), dO 44 (.mv (.t 9)), dO 45 (.ixa 7 none (.t 43) (.t 44)), dO 46 (.fa 5 (.t 45)), dO 47 (.ld none (.t 46)), dO 48 (.callc n_r16_Count [.t 47]), dO 49 (.ia .add .i64 (.t 42) (.t 48)), dO 1 (.tk (.t 49))])))))
 (.reg [dO 16 (.mv (.t 9)), dO 17 (.ia .add .i64 (.t 16) (kI 1)), dO 9 (.tk (.t 17))]))
def l_r19_block_0 : AC :=
 .loop [0, 1, 2, 3, 8, 9] b_r19_block_0
def r_r19_block_0 : AC :=
 .seq (.reg [dO 50 (.bld [iZ, iZ] []), ⟨none, none, .st 2 (.t 8) (.t 50)⟩])
 (.ret)
def c_r19_block : AFunc :=
 { np := 4, res := [.cell 8 (some 2)], body := (
 .seq (.reg [dO 8 (.alloc [iZ, iZ])])
 (.seq (.seq (.reg [dO 9 (.tk (kI 0))])
 (.block 0 (l_r19_block_0))) r_r19_block_0)) }
def b_r19_Type_0 : AC :=
 .seq (.seq (.reg [dO 12 (.mv (.t 7)), dO 13 (.fa 3 (.t 2)), dO 14 (.ld none (.t 13)), dO 15 (.len false (.t 14)), dO 16 (.ic .lss (.t 12) (.t 15))])
 (.cond (.t 16)
 (.skip)
 (.exit 0)))
 (.seq (.block 1 (.seq (.reg [dO 20 (.fa 3 (.t 2)), dO 21 (.ld none (.t 20)), dO 22 (.mv (.t 7)), dO 23 (.ixa 4 none (.t 21) (.t 22)), dO 24 (.ld (some 4) (.t 23)), dO 25 (.mv (.t 1)), dO 26 (.callc n_r19_Type [.t 24, .t 25]), dO 19 (.mv (.t 26)), dO 27 (.ext (.t 19) 0), dO 28 (.ext (.t 19) 1), dO 8 (.tk (.t 27)), dO 9 (.tk (.t 28))])
 (.seq (.seq (.reg [dO 29 (.mv (.t 9)), dO 30 (.ic .neq (.t 29) (kI 0))])
 (.cond (.t 30)
 (.seq (.reg [dO 31 (.mv (.t 9)), dO 4 (.tk (kI 0)), dO 5 (.tk (.t 31))])
 (.ret))
 (.skip)))
 (.reg [dO 32 (.mv (.t 7)), dO 33 (.mv (.t 8)), dO 34 (.ixa 1 (some 2) (.t 6) (.t 32)), ⟨none, none, .st 1 (.t 34) (.t 33)⟩]))))
 (.reg [dO 17 (.mv (.t 7)), dO 18 (.ia .add .i64 (.t 17) (kI 1)), dO 7 (.tk (.t 18))]))
def l_r19_Type_0 : AC :=
 .loop [1, 2, 6, 7] b_r19_Type_0
def r_r19_Type_0 : AC :=
 .seq (.drw [[], [], [], [], [], []] [dO 35 (.ixa 1 (some 2) (.t 6) (kI 0)), dO 36 (.ld none (.t 35)), dO 37 (.ixa 1 (some 2) (.t 6) (kI 1)), dO 38 (.ld none (.t 37)), dO 10 (.tk (.t 36)), dO 11 (.tk (.t 38))])
 (.seq (.seq (.reg [dO 39 (.fa 0 (.t 2)), dO 40 (.ld none (.t 39))])
 (.block 2 (.seq (.reg [dO 42 (.ic .eql (.t 40) (kI 1)), dO 41 (.tk (.t 42))])
 (.cond (.t 41)
 (.seq (.reg [dO 4 (.tk (kI 1)), dO 5 (.tk (kI 0))])
 (.ret))
 (.seq (.reg [dO 44 (.ic .eql (.t 40) (kI 2)), dO 43 (.tk (.t 44))])
 (.cond (.t 43)
 (.seq (.reg [dO 4 (.tk (kI 2)), dO 5 (.tk (kI 0))])
 (.ret))
 (.seq (.reg [dO 46 (.ic .eql (.t 40) (kI 3)), dO 45 (.tk (.t 46))])
 (.cond (.t 45)
 (.seq (.reg [dO 4 (.tk (kI 3)), dO 5 (.tk (kI 0))])
 (.ret))
 (.seq (.reg [dO 48 (.ic .eql (.t 40) (kI 4)), dO 47 (.tk (.t 48))])
 (.cond (.t 47)
 (.seq (.seq (.reg [dO 49 (.mv (.t 1)), dO 50 (.fa 2 (.t 2)), dO 51 (.ld none (.t 50)), dO 52 (.callc n_r19_kind [.t 49, .t 51]), dO 53 (.ic .eql (.t 52) (kI 0))])
 (.cond (.t 53)
 (.seq (.reg [dO 4 (.tk (kI 0)), dO 5 (.tk (kI 9))])
 (.ret))
 (.skip)))
 (.seq (.reg [dO 54 (.mv (.t 1)), dO 55 (.fa 2 (.t 2)), dO 56 (.ld none (.t 55)), dO 57 (.callc n_r19_kind [.t 54, .t 56]), dO 4 (.tk (.t 57)), dO 5 (.tk (kI 0))])
 (.ret)))
 (.seq (.reg [dO 59 (.ic .eql (.t 40) (kI 5)), dO 58 (.tk (.t 59))])
 (.cond (.t 58)
 (.seq (.reg [dO 60 (.mv (.t 10)), dO 61 (.ic .eql (.t 60) (kI 2)), dO 62 (.callc n_r19_want [.t 61, kI 3]), dO 63 (.ext (.t 62) 0), dO 64 (.ext (.t 62) 1), dO 4 (.tk (.t 63)), dO 5 (.tk (.t 64))])
 (.ret))
 (.seq (.reg [dO 66 (.ic .eql (.t 40) (kI 6)), dO 65 (.tk (.t 66))])
 (.cond (.t 65)
 (.seq (.reg [dO 67 (.mv (.t 10)), dO 68 (.ic .eql (.t 67) (kI 2)), dO 69 (.callc n_r19_want [.t 68, kI 1]), dO 70 (.ext (.t 69) 0), dO 71 (.ext (.t 69) 1), dO 4 (.tk (.t 70)), dO 5 (.tk (.t 71))])
 (.ret))
 (.seq (.reg [dO 73 (.ic .eql (.t 40) (kI 7)), dO 72 (.tk (.t 73))])
 (.cond (.t 72)
 (.seq (.reg [dO 74 (.mv (.t 10)), dO 75 (.ic .eql (.t 74) (kI 2)), dO 76 (.callc n_r19_want [.t 75, kI 2]), dO 77 (.ext (.t 76) 0), dO 78 (.ext (.t 76) 1), dO 4 (.tk (.t 77)), dO 5 (.tk (.t 78))])
 (.ret))
 (.seq (.reg [dO 80 (.ic .eql (.t 40) (kI 8)), dO 79 (.tk (.t 80))])
 (.cond (.t 79)
 (.seq (.reg [dO 81 (.mv (.t 10)), dO 82 (.ic .eql (.t 81) (kI 3)), dO 83 (.callc n_r19_want [.t 82, kI 3]), dO 84 (.ext (.t 83) 0), dO 85 (.ext (.t 83) 1), dO 4 (.tk (.t 84)), dO 5 (.tk (.t 85))])
 (.ret))
 (.seq (.reg [dO 87 (.ic .eql (.t 40) (kI 9)), dO 86 (.tk (.t 87))])
 (.cond (.t 86)
 (.seq (.reg [dO 88 (.mv (.t 10)), dO 89 (.mv (.t 11)), dO 90 (.ic .eql (.t 88) (.t 89)), dO 91 (.mv (.t 90)), ⟨some 92, (some (91, true)), .mv (.t 10)⟩, ⟨some 93, (some (91, true)), .ic .neq (.t 92) (kI 3)⟩, dO 94 (.pick (.t 91) (.t 93) kF), dO 95 (.mv (.t 10)), dO 96 (.callc n_r19_want [.t 94, .t 95]), dO 97 (.ext (.t 96) 0), dO 98 (.ext (.t 96) 1), dO 4 (.tk (.t 97)), dO 5 (.tk (.t 98))])
 (.ret))
 (.seq (.reg [dO 100 (.ic .eql (.t 40) (kI 10)), dO 99 (.tk (.t 100))])
 (.cond (.t 99)
 (.seq (.reg [dO 101 (.mv (.t 10)), dO 102 (.ic .eql (.t 101) (kI 1)), dO 103 (.mv (.t 102)), ⟨some 104, (some (103, true)), .mv (.t 11)⟩, ⟨some 105, (some (103, true)), .ic .eql (.t 104) (kI 1)⟩, dO 106 (.pick (.t 103) (.t 105) kF), dO 107 (.callc n_r19_want [.t 106, kI 1]), dO 108 (.ext (.t 107) 0), dO 109 (.ext (.t 107) 1), dO 4 (.tk (.t 108)), dO 5 (.tk (.t 109))])
 (.ret))
 (.seq (.reg [dO 111 (.ic .eql (.t 40) (kI 11)), dO 110 (.tk (.t 111))])
 (.cond (.t 110)
 (.seq (.reg [dO 112 (.mv (.t 10)), dO 113 (.mv (.t 11)), dO 114 (.ic .eql (.t 112) (.t 113)), dO 115 (.callc n_r19_want [.t 114, kI 3]), dO 116 (.ext (.t 115) 0), dO 117 (.ext (.t 115) 1), dO 4 (.tk (.t 116)), dO 5 (.tk (.t 117))])
 (.ret))
 (.seq (.reg [dO 119 (.ic .eql (.t 40) (kI 12)), dO 118 (.tk (.t 119))])
 (.cond (.t 118)
 (.seq (.reg [dO 120 (.mv (.t 10)), dO 121 (.mv (.t 11)), dO 122 (.ic .eql (.t 120) (.t 121)), dO 123 (.mv (.t 122)), ⟨some 124, (some (123, true)), .mv (.t 10)⟩, ⟨some 125, (some (123, true)), .ic .neq (.t 124) (kI 3)⟩, dO 126 (.pick (.t 123) (.t 125) kF), dO 127 (.callc n_r19_want [.t 126, kI 3]), dO 128 (.ext (.t 127) 0), dO 129 (.ext (.t 127) 1), dO 4 (.tk (.t 128)), dO 5 (.tk (.t 129))])
 (.ret))
 (.skip)))))))))))))))))))))))))))
 (.seq (.reg [dO 130 (.mv (.t 10)), dO 131 (.ic .eql (.t 130) (kI 3)), dO 132 (.mv (.t 131)), ⟨some 133, (some (132, true)), .mv (.t 11)⟩, ⟨some 134, (some (132, true)), .ic .eql (.t 133) (kI 3)⟩, dO 135 (.pick (.t 132) (.t 134) kF), dO 136 (.callc n_r19_want [.t 135, kI 3]), dO 137 (.ext (.t 136) 0), dO 138 (.ext (.t 136) 1), dO 4 (.tk (.t 137)), dO 5 (.tk (.t 138))])
 (.ret)))
def c_r19_Type : AFunc :=
 { np := 2, res := [.t 4, .t 5], body := (
 .seq (.reg [dO 2 (.box (.t 0)), dO 4 (.tk (kI 0)), dO 5 (.tk (kI 0))])
 (.seq (.reg [dO 6 (.alloc [iZ, iZ])])
 (.seq (.seq (.reg [dO 7 (.tk (kI 0))])
 (.block 0 (l_r19_Type_0))) r_r19_Type_0))) }
def c_tree_Right : AFunc :=
 { np := 1, res := [.t 2], body := (
 .seq (.reg [dO 1 (.box (.t 0)), dO 2 (.tk kF)])
 (.seq (.seq (.reg [dO 6 (.fa 0 (.t 1)), dO 7 (.ld none (.t 6)), dO 8 (.len false (.t 7)), dO 9 (.ic .gtr (.t 8) (kI 16)), dO 10 (.mv (.t 9)), ⟨some 11, (some (10, false)), .fa 3 (.t 1)⟩, ⟨some 12, (some (10, false)), .ld none (.t 11)⟩, ⟨some 13, (some (10, false)), .len false (.t 12)⟩, ⟨some 14, (some (10, false)), .ic .gtr (.t 13) (kI 16)⟩, dO 15 (.pick (.t 10) kT (.t 14)), dO 16 (.mv (.t 15)), ⟨some 17, (some (16, false)), .ld (some 4) (.t 1)⟩, ⟨some 18, (some (16, false)), .callc n_tree_All [.t 17]⟩, ⟨some 19, (some (16, false)), .len false (.t 18)⟩, ⟨some 20, (some (16, false)), .ic .gtr (.t 19) (kI 256)⟩, dO 21 (.pick (.t 16) kT (.t 20))])
 (.cond (.t 21)
 (.seq (.reg [dO 2 (.tk kF)])
 (.ret))
 (.skip)))
 (.seq (.reg [dO 3 (.tk (.c (.fn (.func n_tree_Right_1) [] [])))])
 (.seq (.reg [dO 4 (.tk (.c (.fn (.func n_tree_Right_2) [] [])))])
 (.seq (.reg [dO 5 (.tk (.c (.fn (.func n_tree_Right_3) [] [])))])
 (.seq (.reg [dO 22 (.fa 0 (.t 1)), dO 23 (.ld none (.t 22)), dO 24 (.mv (.t 3)), dO 25 (.call n_sC_Proc_api_Proc [.t 23, .t 24]), dO 26 (.notb (.t 25)), dO 27 (.mv (.t 26)), ⟨some 28, (some (27, true)), .fa 3 (.t 1)⟩, ⟨some 29, (some (27, true)), .ld none (.t 28)⟩, ⟨some 30, (some (27, true)), .mv (.t 4)⟩, ⟨some 31, (some (27, true)), .call n_sC_Oracle_api_Oracle [.t 29, .t 30]⟩, ⟨some 32, (some (27, true)), .notb (.t 31)⟩, dO 33 (.pick (.t 27) (.t 32) kF), dO 34 (.mv (.t 33)), ⟨some 35, (some (34, true)), .ld (some 4) (.t 1)⟩, ⟨some 36, (some (34, true)), .callc n_tree_parts [.t 35]⟩, ⟨some 37, (some (34, true)), .mv (.t 5)⟩, ⟨some 38, (some (34, true)), .call n_sC_Stmt_api_Stmt [.t 36, .t 37]⟩, ⟨some 39, (some (34, true)), .notb (.t 38)⟩, dO 40 (.pick (.t 34) (.t 39) kF), dO 2 (.tk (.t 40))])
 (.ret))))))) }
def c_ptypes_checker_fail : AFunc :=
 { np := 3, res := [], body := (
 .seq (.reg [dO 6 (.mv (.t 0)), dO 7 (.nck (.t 6)), dO 8 (.fa 3 (.t 7)), dO 9 (.ld (some 2) (.t 8)), dO 10 (.bld [iZ, iZ] []), dO 11 (.eqa false [.int .i64, .int .i64] (.t 9) (.t 10))])
 (.cond (.t 11)
 (.reg [dO 12 (.mv (.t 0)), dO 13 (.mv (.t 1)), dO 14 (.mv (.t 2)), dO 15 (.bld [iZ, iZ] [(0, 1, .t 13), (1, 1, .t 14)]), dO 16 (.nck (.t 12)), dO 17 (.fa 3 (.t 16)), ⟨none, none, .st 2 (.t 17) (.t 15)⟩])
 (.skip))) }
def b_tree_parts_0 : AC :=
 .seq (.reg [dO 10 (.ic .lss (.t 9) (.t 8))])
 (.seq (.cond (.t 10)
 (.skip)
 (.exit 0))
 (.seq (.block 1 (.seq (.reg [dO 11 (.ixa 2 none (.t 7) (.t 9)), dO 12 (.ld (some 2) (.t 11)), dO 5 (.alloc [.str [], .own 7 []]), ⟨none, none, .st 2 (.t 5) (.t 12)⟩])
 (.reg [dO 13 (.tk (.t 3)), dO 14 (.fa 1 (.t 5)), dO 15 (.ld none (.t 14)), dO 16 (.bsl 1 [.sl 7 []] 1 [(0, 1, .t 15)] false), dO 17 (.app 1 24 (.t 13) (.t 16) false), dO 3 (.tk (.t 17))])))
 (.reg [dO 18 (.ia .add .i64 (.t 9) (kI 1)), dO 9 (.mv (.t 18))])))
def l_tree_parts_0 : AC :=
 .loop [1, 3, 7, 8, 9] b_tree_parts_0
def r_tree_parts_0 : AC :=
 .seq (.reg [dO 19 (.tk (.t 3)), dO 20 (.fa 1 (.t 1)), dO 21 (.ld none (.t 20)), dO 22 (.fa 2 (.t 1)), dO 23 (.ld none (.t 22)), dO 24 (.bsl 1 [.sl 7 []] 2 [(0, 1, .t 21), (1, 1, .t 23)] false), dO 25 (.app 1 24 (.t 19) (.t 24) false), dO 2 (.tk (.t 25))])
 (.ret)
def c_tree_parts : AFunc :=
 { np := 1, res := [.t 2], body := (
 .seq (.reg [dO 1 (.box (.t 0)), dO 2 (.tk (.c (.own 1 [])))])
 (.seq (.reg [dO 3 (.tk (.c (.own 1 [])))])
 (.seq (.seq (.reg [dO 6 (.fa 0 (.t 1)), dO 7 (.ld none (.t 6)), dO 8 (.len false (.t 7)), dO 9 (.mv (kI 0))])
 (.block 0 (l_tree_parts_0))) r_tree_parts_0))) }
def c_tree_walk : AFunc :=
 { np := 1, res := [.t 2], body := (
 .seq (.reg [dO 1 (.box (.t 0)), dO 2 (.tk (.c (.nilf)))])
 (.seq (.reg [dO 3 (.mkf (.func n_tree_walk_1) [] [.t 1]), dO 2 (.tk (.t 3))])
 (.ret))) }
def c_tree_cloned : AFunc :=
 { np := 1, res := [.cell 2 (some 7)], body := (
 .seq (.reg [dO 1 (.box (.t 0)), dO 2 (.alloc [iZ, .str [], iZ, .own 4 [], .own 7 [], .own 7 [], .bool false])])
 (.seq (.reg [dO 3 (.fa 3 (.t 1)), dO 4 (.ld none (.t 3)), dO 5 (.callc n_tree_each_api_Expr [.t 4, (.c (.fn (.func n_tree_clonedExpr) [] []))]), dO 6 (.fa 3 (.t 1)), ⟨none, none, .st 1 (.t 6) (.t 5)⟩])
 (.seq (.reg [dO 7 (.fa 4 (.t 1)), dO 8 (.ld none (.t 7)), dO 9 (.callc n_tree_each_api_Stmt [.t 8, (.c (.fn (.func n_tree_cloned) [] []))]), dO 10 (.fa 4 (.t 1)), ⟨none, none, .st 1 (.t 10) (.t 9)⟩])
 (.seq (.reg [dO 11 (.fa 5 (.t 1)), dO 12 (.ld none (.t 11)), dO 13 (.callc n_tree_each_api_Stmt [.t 12, (.c (.fn (.func n_tree_cloned) [] []))]), dO 14 (.fa 5 (.t 1)), ⟨none, none, .st 1 (.t 14) (.t 13)⟩])
 (.seq (.reg [dO 15 (.ld (some 7) (.t 1)), ⟨none, none, .st 7 (.t 2) (.t 15)⟩])
 (.ret)))))) }
def b_r16_All_0 : AC :=
 .seq (.seq (.reg [dO 5 (.mv (.t 4)), dO 6 (.fa 0 (.t 1)), dO 7 (.ld none (.t 6)), dO 8 (.len false (.t 7)), dO 9 (.ic .lss (.t 5) (.t 8))])
 (.cond (.t 9)
 (.skip)
 (.exit 0)))
 (.seq (.block 1 (.reg [dO 12 (.fa 0 (.t 1)), dO 13 (.ld none (.t 12)), dO 14 (.mv (.t 4)), dO 15 (.ixa 2 none (.t 13) (.t 14)), dO 16 (.fa 1 (.t 15)), dO 17 (.ld none (.t 16)), dO 18 (.tk (.t 3)), dO 19 (.call n_r16_list [.t 17, .t 18]), dO 3 (.tk (.t 19))]))
 (.reg [dO 10 (.mv (.t 4)), dO 11 (.ia .add .i64 (.t 10) (kI 1)), dO 4 (.tk (.t 11))]))
def l_r16_All_0 : AC :=
 .loop [1, 3, 4] b_r16_All_0
def r_r16_All_0 : AC :=
 .seq (.reg [dO 20 (.fa 1 (.t 1)), dO 21 (.ld none (.t 20)), dO 22 (.tk (.t 3)), dO 23 (.call n_r16_list [.t 21, .t 22]), dO 3 (.tk (.t 23))])
 (.seq (.reg [dO 24 (.fa 2 (.t 1)), dO 25 (.ld none (.t 24)), dO 26 (.tk (.t 3)), dO 27 (.call n_r16_list [.t 25, .t 26]), dO 2 (.tk (.t 27))])
 (.ret))
def c_r16_All : AFunc :=
 { np := 1, res := [.t 2], body := (
 .seq (.reg [dO 1 (.box (.t 0)), dO 2 (.tk (.c (.own 7 [])))])
 (.seq (.reg [dO 3 (.tk (.c (.own 7 [])))])
 (.seq (.seq (.reg [dO 4 (.tk (kI 0))])
 (.block 0 (l_r16_All_0))) r_r16_All_0))) }
def b_r15_Name_0 : AC :=
 .seq (.seq (.reg [dO 22 (.mv (.t 3)), dO 23 (.mv (.t 0)), dO 24 (.len true (.t 23)), dO 25 (.ic .lss (.t 22) (.t 24))])
 (.cond (.t 25)
 (.skip)
 (.exit 0)))
 (.seq (.block 1 (.seq (.reg [dO 28 (.mv (.t 0)), dO 29 (.mv (.t 3)), dO 30 (.ixs (.t 28) (.t 29)), dO 31 (.callc n_r15_inner [.t 30]), dO 32 (.notb (.t 31))])
 (.cond (.t 32)
 (.seq (.reg [dO 2 (.tk kF)])
 (.ret))
 (.skip))))
 (.reg [dO 26 (.mv (.t 3)), dO 27 (.ia .add .i64 (.t 26) (kI 1)), dO 3 (.tk (.t 27))]))
def l_r15_Name_0 : AC :=
 .loop [0, 3] b_r15_Name_0
def r_r15_Name_0 : AC :=
 .seq (.reg [dO 2 (.tk kT)])
 (.ret)
def c_r15_Name : AFunc :=
 { np := 1, res := [.t 2], body := (
 .seq (.reg [dO 2 (.tk kF)])
 (.seq (.seq (.reg [dO 4 (.mv (.t 0)), dO 5 (.len true (.t 4)), dO 6 (.ic .lss (.t 5) (kI 1)), dO 7 (.mv (.t 6)), ⟨some 8, (some (7, false)), .mv (.t 0)⟩, ⟨some 9, (some (7, false)), .len true (.t 8)⟩, ⟨some 10, (some (7, false)), .ic .gtr (.t 9) (kI 8)⟩, dO 11 (.pick (.t 7) kT (.t 10)), dO 12 (.mv (.t 11)), ⟨some 13, (some (12, false)), .mv (.t 0)⟩, ⟨some 14, (some (12, false)), .ixs (.t 13) (kI 0)⟩, ⟨some 15, (some (12, false)), .callc n_r15_letter [.t 14]⟩, ⟨some 16, (some (12, false)), .notb (.t 15)⟩, dO 17 (.pick (.t 12) kT (.t 16)), dO 18 (.mv (.t 17)), ⟨some 19, (some (18, false)), .mv (.t 0)⟩, ⟨some 20, (some (18, false)), .callc n_r15_Key [.t 19]⟩, dO 21 (.pick (.t 18) kT (.t 20))])
 (.cond (.t 21)
 (.seq (.reg [dO 2 (.tk kF)])
 (.ret))
 (.skip)))
 (.seq (.seq (.reg [dO 3 (.tk (kI 0))])
 (.block 0 (l_r15_Name_0))) r_r15_Name_0))) }
def b_r16_Block_0 : AC :=
 .seq (.seq (.reg [dO 6 (.mv (.t 5)), dO 7 (.mv (.t 0)), dO 8 (.len false (.t 7)), dO 9 (.ic .lss (.t 6) (.t 8))])
 (.cond (.t 9)
 (.skip)
 (.exit 0)))
 (.seq (.block 1 (.seq (.reg [dO 12 (.mv (.t 0)), dO 13 (.mv (.t 5)), dO 14 (.ixa 7 none (.t 12) (.t 13)), dO 15 (.ld (some 7) (.t 14)), dO 16 (.mv (.t 1)), dO 17 (.callc n_r16_Stmt [.t 15, .t 16]), dO 18 (.notb (.t 17))])
 (.cond (.t 18)
 (.seq (.reg [dO 4 (.tk kF)])
 (.ret))
 (.skip))))
 (.reg [dO 10 (.mv (.t 5)), dO 11 (.ia .add .i64 (.t 10) (kI 1)), dO 5 (.tk (.t 11))]))
def l_r16_Block_0 : AC :=
 .loop [0, 1, 5] b_r16_Block_0
def r_r16_Block_0 : AC :=
 .seq (.reg [dO 4 (.tk kT)])
 (.ret)
def c_r16_Block : AFunc :=
 { np := 2, res := [.t 4], body := (
 .seq (.reg [dO 4 (.tk kF)])
 (.seq (.seq (.reg [dO 5 (.tk (kI 0))])
 (.block 0 (l_r16_Block_0))) r_r16_Block_0)) }
def b_r16_Expr_0 : AC :=
 .seq (.seq (.reg [dO 105 (.mv (.t 7)), dO 106 (.mv (.t 5)), dO 107 (.ic .lss (.t 105) (.t 106))])
 (.cond (.t 107)
 (.skip)
 (.exit 0)))
 (.seq (.block 1 (.seq (.reg [dO 110 (.fa 3 (.t 2)), dO 111 (.ld none (.t 110)), dO 112 (.mv (.t 7)), dO 113 (.ixa 4 none (.t 111) (.t 112)), dO 114 (.ld (some 4) (.t 113)), dO 115 (.mv (.t 1)), dO 116 (.ia .sub .i64 (.t 115) (kI 1)), dO 117 (.callc n_r16_Expr [.t 114, .t 116]), dO 118 (.notb (.t 117))])
 (.cond (.t 118)
 (.seq (.reg [dO 4 (.tk kF)])
 (.ret))
 (.skip))))
 (.reg [dO 108 (.mv (.t 7)), dO 109 (.ia .add .i64 (.t 108) (kI 1)), dO 7 (.tk (.t 109))]))
def l_r16_Expr_0 : AC :=
 .loop [1, 2, 5, 7] b_r16_Expr_0
def r_r16_Expr_0 : AC :=
 .seq (.reg [dO 4 (.tk kT)])
 (.ret)
def c_r16_Expr : AFunc :=
 { np := 2, res := [.t 4], body := (
 .seq (.reg [dO 2 (.box (.t 0)), dO 4 (.tk kF)])
 (.seq (.reg [dO 9 (.fa 0 (.t 2)), dO 10 (.ld none (.t 9)), dO 11 (.callc n_r16_Parts [.t 10]), dO 8 (.mv (.t 11)), dO 12 (.ext (.t 8) 0), dO 13 (.ext (.t 8) 1), dO 5 (.tk (.t 12)), dO 6 (.tk (.t 13))])
 (.seq (.seq (.reg [dO 14 (.mv (.t 6)), dO 15 (.notb (.t 14)), dO 16 (.mv (.t 15)), ⟨some 17, (some (16, false)), .mv (.t 1)⟩, ⟨some 18, (some (16, false)), .ic .lss (.t 17) (kI 1)⟩, dO 19 (.pick (.t 16) kT (.t 18)), dO 20 (.mv (.t 19)), ⟨some 21, (some (20, false)), .fa 3 (.t 2)⟩, ⟨some 22, (some (20, false)), .ld none (.t 21)⟩, ⟨some 23, (some (20, false)), .len false (.t 22)⟩, ⟨some 24, (some (20, false)), .mv (.t 5)⟩, ⟨some 25, (some (20, false)), .ic .neq (.t 23) (.t 24)⟩, dO 26 (.pick (.t 20) kT (.t 25))])
 (.cond (.t 26)
 (.seq (.reg [dO 4 (.tk kF)])
 (.ret))
 (.skip)))
 (.seq (.seq (.reg [dO 27 (.fa 0 (.t 2)), dO 28 (.ld none (.t 27)), dO 29 (.ic .eql (.t 28) (kI 1)), dO 30 (.mv (.t 29)), ⟨some 31, (some (30, true)), .fa 1 (.t 2)⟩, ⟨some 32, (some (30, true)), .ld none (.t 31)⟩, ⟨some 33, (some (30, true)), .ic .lss (.t 32) (kI 0)⟩, ⟨some 34, (some (30, true)), .mv (.t 33)⟩, ⟨some 35, (some (34, false)), .fa 1 (.t 2)⟩, ⟨some 36, (some (34, false)), .ld none (.t 35)⟩, ⟨some 37, (some (34, false)), .ic .gtr (.t 36) (kI 1000000000000)⟩, ⟨some 38, (some (30, true)), .pick (.t 34) kT (.t 37)⟩, dO 39 (.pick (.t 30) (.t 38) kF), dO 40 (.mv (.t 39)), ⟨some 41, (some (40, false)), .fa 0 (.t 2)⟩, ⟨some 42, (some (40, false)), .ld none (.t 41)⟩, ⟨some 43, (some (40, false)), .ic .eql (.t 42) (kI 3)⟩, ⟨some 44, (some (40, false)), .mv (.t 43)⟩, ⟨some 45, (some (44, true)), .fa 1 (.t 2)⟩, ⟨some 46, (some (44, true)), .ld none (.t 45)⟩, ⟨some 47, (some (44, true)), .ic .neq (.t 46) (kI 0)⟩, ⟨some 48, (some (40, false)), .pick (.t 44) (.t 47) kF⟩, ⟨some 49, (some (40, false)), .mv (.t 48)⟩, ⟨some 50, (some (49, true)), .fa 1 (.t 2)⟩, ⟨some 51, (some (49, true)), .ld none (.t 50)⟩, ⟨some 52, (some (49, true)), .ic .neq (.t 51) (kI 1)⟩, ⟨some 53, (some (40, false)), .pick (.t 49) (.t 52) kF⟩, dO 54 (.pick (.t 40) kT (.t 53)), dO 55 (.mv (.t 54)), ⟨some 56, (some (55, false)), .fa 0 (.t 2)⟩, ⟨some 57, (some (55, false)), .ld none (.t 56)⟩, ⟨some 58, (some (55, false)), .ic .neq (.t 57) (kI 1)⟩, ⟨some 59, (some (55, false)), .mv (.t 58)⟩, ⟨some 60, (some (59, true)), .fa 0 (.t 2)⟩, ⟨some 61, (some (59, true)), .ld none (.t 60)⟩, ⟨some 62, (some (59, true)), .ic .neq (.t 61) (kI 3)⟩, ⟨some 63, (some (55, false)), .pick (.t 59) (.t 62) kF⟩, ⟨some 64, (some (55, false)), .mv (.t 63)⟩, ⟨some 65, (some (64, true)), .fa 1 (.t 2)⟩, ⟨some 66, (some (64, true)), .ld none (.t 65)⟩, ⟨some 67, (some (64, true)), .ic .neq (.t 66) (kI 0)⟩, ⟨some 68, (some (55, false)), .pick (.t 64) (.t 67) kF⟩, dO 69 (.pick (.t 55) kT (.t 68))])
 (.cond (.t 69)
 (.seq (.reg [dO 4 (.tk kF)])
 (.ret))
 (.skip)))
 (.seq (.seq (.reg [dO 70 (.fa 0 (.t 2)), dO 71 (.ld none (.t 70)), dO 72 (.ic .eql (.t 71) (kI 2)), dO 73 (.mv (.t 72)), ⟨some 74, (some (73, true)), .fa 2 (.t 2)⟩, ⟨some 75, (some (73, true)), .ld none (.t 74)⟩, ⟨some 76, (some (73, true)), .len true (.t 75)⟩, ⟨some 77, (some (73, true)), .ic .gtr (.t 76) (kI 64)⟩, dO 78 (.pick (.t 73) (.t 77) kF), dO 79 (.mv (.t 78)), ⟨some 80, (some (79, false)), .fa 0 (.t 2)⟩, ⟨some 81, (some (79, false)), .ld none (.t 80)⟩, ⟨some 82, (some (79, false)), .ic .eql (.t 81) (kI 4)⟩, ⟨some 83, (some (79, false)), .mv (.t 82)⟩, ⟨some 84, (some (83, true)), .fa 2 (.t 2)⟩, ⟨some 85, (some (83, true)), .ld none (.t 84)⟩, ⟨some 86, (some (83, true)), .callc n_r15_Name [.t 85]⟩, ⟨some 87, (some (83, true)), .notb (.t 86)⟩, ⟨some 88, (some (79, false)), .pick (.t 83) (.t 87) kF⟩, dO 89 (.pick (.t 79) kT (.t 88)), dO 90 (.mv (.t 89)), ⟨some 91, (some (90, false)), .fa 0 (.t 2)⟩, ⟨some 92, (some (90, false)), .ld none (.t 91)⟩, ⟨some 93, (some (90, false)), .ic .neq (.t 92) (kI 2)⟩, ⟨some 94, (some (90, false)), .mv (.t 93)⟩, ⟨some 95, (some (94, true)), .fa 0 (.t 2)⟩, ⟨some 96, (some (94, true)), .ld none (.t 95)⟩, ⟨some 97, (some (94, true)), .ic .neq (.t 96) (kI 4)⟩, ⟨some 98, (some (90, false)), .pick (.t 94) (.t 97) kF⟩, ⟨some 99, (some (90, false)), .mv (.t 98)⟩, ⟨some 100, (some (99, true)), .fa 2 (.t 2)⟩, ⟨some 101, (some (99, true)), .ld none (.t 100)⟩, ⟨some 102, (some (99, true)), .sop .neq (.t 101) (kS [])⟩, ⟨some 103, (some (90, false)), .pick (.t 99) (.t 102) kF⟩, dO 104 (.pick (.t 90) kT (.t 103))])
 (.cond (.t 104)
 (.seq (.reg [dO 4 (.tk kF)])
 (.ret))
 (.skip)))
 (.seq (.seq (.reg [dO 7 (.tk (kI 0))])
 (.block 0 (l_r16_Expr_0))) r_r16_Expr_0)))))) }
def b_r19_stmt_0 : AC :=
 .seq (.seq (.reg [dO 17 (.mv (.t 11)), dO 18 (.fa 3 (.t 4)), dO 19 (.ld none (.t 18)), dO 20 (.len false (.t 19)), dO 21 (.ic .lss (.t 17) (.t 20))])
 (.cond (.t 21)
 (.skip)
 (.exit 0)))
 (.seq (.block 1 (.seq (.reg [dO 25 (.fa 3 (.t 4)), dO 26 (.ld none (.t 25)), dO 27 (.mv (.t 11)), dO 28 (.ixa 4 none (.t 26) (.t 27)), dO 29 (.ld (some 4) (.t 28)), dO 30 (.mv (.t 2)), dO 31 (.callc n_r19_Type [.t 29, .t 30]), dO 24 (.mv (.t 31)), dO 32 (.ext (.t 24) 0), dO 33 (.ext (.t 24) 1), dO 12 (.tk (.t 32)), dO 13 (.tk (.t 33))])
 (.seq (.seq (.reg [dO 34 (.mv (.t 13)), dO 35 (.ic .neq (.t 34) (kI 0))])
 (.cond (.t 35)
 (.seq (.reg [dO 36 (.mv (.t 13)), dO 37 (.mv (.t 1)), dO 38 (.bld [iZ, iZ] [(0, 1, .t 36), (1, 1, .t 37)]), dO 8 (.tk (.c (.own 2 []))), ⟨none, none, .st 2 (.t 9) (.t 38)⟩])
 (.ret))
 (.skip)))
 (.seq (.seq (.reg [dO 39 (.fa 0 (.t 4)), dO 40 (.ld none (.t 39)), dO 41 (.mv (.t 11)), dO 42 (.callc n_r19_wants [.t 40, .t 41]), dO 14 (.tk (.t 42))])
 (.seq (.reg [dO 43 (.mv (.t 14)), dO 44 (.ic .neq (.t 43) (kI 0)), dO 45 (.mv (.t 44)), ⟨some 46, (some (45, true)), .mv (.t 14)⟩, ⟨some 47, (some (45, true)), .mv (.t 12)⟩, ⟨some 48, (some (45, true)), .ic .neq (.t 46) (.t 47)⟩, dO 49 (.pick (.t 45) (.t 48) kF)])
 (.cond (.t 49)
 (.seq (.reg [dO 50 (.mv (.t 1)), dO 51 (.bld [iZ, iZ] [(0, 1, kI 11), (1, 1, .t 50)]), dO 8 (.tk (.c (.own 2 []))), ⟨none, none, .st 2 (.t 9) (.t 51)⟩])
 (.ret))
 (.skip))))
 (.reg [dO 52 (.mv (.t 12)), dO 10 (.tk (.t 52))])))))
 (.reg [dO 22 (.mv (.t 11)), dO 23 (.ia .add .i64 (.t 22) (kI 1)), dO 11 (.tk (.t 23))]))
def l_r19_stmt_0 : AC :=
 .loop [1, 2, 3, 4, 9, 10, 11] b_r19_stmt_0
def r_r19_stmt_0 : AC :=
 .seq (.seq (.reg [dO 53 (.fa 0 (.t 4)), dO 54 (.ld none (.t 53)), dO 55 (.ic .eql (.t 54) (kI 12))])
 (.cond (.t 55)
 (.seq (.reg [dO 56 (.mv (.t 2)), dO 57 (.fa 1 (.t 4)), dO 58 (.ld none (.t 57)), dO 59 (.callc n_r19_kind [.t 56, .t 58]), dO 15 (.tk (.t 59))])
 (.seq (.seq (.reg [dO 60 (.mv (.t 15)), dO 61 (.ic .neq (.t 60) (kI 0)), dO 62 (.mv (.t 61)), ⟨some 63, (some (62, true)), .mv (.t 15)⟩, ⟨some 64, (some (62, true)), .mv (.t 10)⟩, ⟨some 65, (some (62, true)), .ic .neq (.t 63) (.t 64)⟩, dO 66 (.pick (.t 62) (.t 65) kF)])
 (.cond (.t 66)
 (.seq (.reg [dO 67 (.mv (.t 1)), dO 68 (.bld [iZ, iZ] [(0, 1, kI 11), (1, 1, .t 67)]), dO 8 (.tk (.c (.own 2 []))), ⟨none, none, .st 2 (.t 9) (.t 68)⟩])
 (.ret))
 (.skip)))
 (.seq (.drw [[], [], [], [], [], [], [], [], [], [], [], []] [dO 69 (.bsl 2 [.str [], iZ] 0 [] false), dO 70 (.mv (.t 2)), dO 71 (.app 2 24 (.t 69) (.t 70) false), dO 72 (.fa 1 (.t 4)), dO 73 (.ld none (.t 72)), dO 74 (.mv (.t 10)), dO 75 (.bld [.str [], iZ] [(0, 1, .t 73), (1, 1, .t 74)]), dO 76 (.bsl 2 [.str [], iZ] 1 [(0, 2, .t 75)] false), dO 77 (.app 2 24 (.t 71) (.t 76) false), dO 78 (.bld [iZ, iZ] []), dO 8 (.tk (.t 77)), ⟨none, none, .st 2 (.t 9) (.t 78)⟩])
 (.ret))))
 (.skip)))
 (.seq (.seq (.reg [dO 79 (.fa 0 (.t 4)), dO 80 (.ld none (.t 79)), dO 81 (.ic .eql (.t 80) (kI 15)), dO 82 (.mv (.t 81)), ⟨some 83, (some (82, true)), .mv (.t 3)⟩, ⟨some 84, (some (82, true)), .fa 1 (.t 4)⟩, ⟨some 85, (some (82, true)), .ld none (.t 84)⟩, ⟨some 86, (some (82, true)), .callc n_r19_has [.t 83, .t 85]⟩, ⟨some 87, (some (82, true)), .notb (.t 86)⟩, dO 88 (.pick (.t 82) (.t 87) kF)])
 (.cond (.t 88)
 (.seq (.reg [dO 89 (.mv (.t 1)), dO 90 (.bld [iZ, iZ] [(0, 1, kI 9), (1, 1, .t 89)]), dO 8 (.tk (.c (.own 2 []))), ⟨none, none, .st 2 (.t 9) (.t 90)⟩])
 (.ret))
 (.skip)))
 (.seq (.seq (.reg [dO 91 (.fa 4 (.t 4)), dO 92 (.ld none (.t 91)), dO 93 (.mv (.t 1)), dO 94 (.ia .add .i64 (.t 93) (kI 1)), dO 95 (.mv (.t 2)), dO 96 (.mv (.t 3)), dO 97 (.callc n_r19_block [.t 92, .t 94, .t 95, .t 96]), dO 16 (.alloc [iZ, iZ]), ⟨none, none, .st 2 (.t 16) (.t 97)⟩])
 (.seq (.reg [dO 98 (.fa 0 (.t 16)), dO 99 (.ld none (.t 98)), dO 100 (.ic .neq (.t 99) (kI 0))])
 (.cond (.t 100)
 (.seq (.drw [[], [], []] [dO 101 (.ld (some 2) (.t 16)), dO 8 (.tk (.c (.own 2 []))), ⟨none, none, .st 2 (.t 9) (.t 101)⟩])
 (.ret))
 (.skip))))
 (.seq (.drw [[], [], [], [], [], [], [], [], [], [], [], [], [], []] [dO 102 (.tk (.t 2)), dO 103 (.fa 5 (.t 4)), dO 104 (.ld none (.t 103)), dO 105 (.mv (.t 1)), dO 106 (.ia .add .i64 (.t 105) (kI 1)), dO 107 (.fa 4 (.t 4)), dO 108 (.ld none (.t 107)), dO 109 (.callc n_r16_Count [.t 108]), dO 110 (.ia .add .i64 (.t 106) (.t 109)), dO 111 (.mv (.t 2)), dO 112 (.mv (.t 3)), dO 113 (.callc n_r19_block [.t 104, .t 110, .t 111, .t 112]), dO 8 (.tk (.t 102)), ⟨none, none, .st 2 (.t 9) (.t 113)⟩])
 (.ret))))
def c_r19_stmt : AFunc :=
 { np := 4, res := [.t 8, .cell 9 (some 2)], body := (
 .seq (.reg [dO 4 (.box (.t 0)), dO 8 (.tk (.c (.own 2 []))), dO 9 (.alloc [iZ, iZ])])
 (.seq (.reg [dO 10 (.tk (kI 0))])
 (.seq (.seq (.reg [dO 11 (.tk (kI 0))])
 (.block 0 (l_r19_stmt_0))) r_r19_stmt_0))) }
def b_r19_kind_0 : AC :=
 .seq (.seq (.reg [dO 6 (.mv (.t 5)), dO 7 (.mv (.t 0)), dO 8 (.len false (.t 7)), dO 9 (.ic .lss (.t 6) (.t 8))])
 (.cond (.t 9)
 (.skip)
 (.exit 0)))
 (.seq (.block 1 (.seq (.reg [dO 12 (.mv (.t 0)), dO 13 (.mv (.t 5)), dO 14 (.ixa 2 none (.t 12) (.t 13)), dO 15 (.fa 0 (.t 14)), dO 16 (.ld none (.t 15)), dO 17 (.mv (.t 1)), dO 18 (.sop .eql (.t 16) (.t 17))])
 (.cond (.t 18)
 (.seq (.reg [dO 19 (.mv (.t 0)), dO 20 (.mv (.t 5)), dO 21 (.ixa 2 none (.t 19) (.t 20)), dO 22 (.fa 1 (.t 21)), dO 23 (.ld none (.t 22)), dO 4 (.tk (.t 23))])
 (.ret))
 (.skip))))
 (.reg [dO 10 (.mv (.t 5)), dO 11 (.ia .add .i64 (.t 10) (kI 1)), dO 5 (.tk (.t 11))]))
def l_r19_kind_0 : AC :=
 .loop [0, 1, 5] b_r19_kind_0
def r_r19_kind_0 : AC :=
 .seq (.reg [dO 4 (.tk (kI 0))])
 (.ret)
def c_r19_kind : AFunc :=
 { np := 2, res := [.t 4], body := (
 .seq (.reg [dO 4 (.tk (kI 0))])
 (.seq (.seq (.reg [dO 5 (.tk (kI 0))])
 (.block 0 (l_r19_kind_0))) r_r19_kind_0)) }
def c_r19_want : AFunc :=
 { np := 2, res := [.t 4, .t 5], body := (
 .seq (.reg [dO 4 (.tk (kI 0)), dO 5 (.tk (kI 0))])
 (.seq (.seq (.reg [dO 6 (.mv (.t 0)), dO 7 (.notb (.t 6))])
 (.cond (.t 7)
 (.seq (.reg [dO 4 (.tk (kI 0)), dO 5 (.tk (kI 11))])
 (.ret))
 (.skip)))
 (.seq (.reg [dO 8 (.mv (.t 1)), dO 4 (.tk (.t 8)), dO 5 (.tk (kI 0))])
 (.ret)))) }
def c_tree_Right_1 : AFunc :=
 { np := 1, res := [.t 2], body := (
 .seq (.reg [dO 1 (.box (.t 0)), dO 2 (.tk kF)])
 (.seq (.reg [dO 3 (.fa 0 (.t 1)), dO 4 (.ld none (.t 3)), dO 5 (.callc n_lex_Name [.t 4]), dO 6 (.notb (.t 5)), dO 2 (.tk (.t 6))])
 (.ret))) }
def c_lex_Name : AFunc :=
 { np := 1, res := [.t 2], body := (
 .seq (.reg [dO 2 (.tk kF)])
 (.seq (.reg [dO 3 (.mv (.t 0)), dO 4 (.callc n_lex_begins [.t 3, (.c (.fn (.func n_lex_letter) [] []))]), dO 5 (.mv (.t 4)), ⟨some 6, (some (5, true)), .mv (.t 0)⟩, ⟨some 7, (some (5, true)), .len true (.t 6)⟩, ⟨some 8, (some (5, true)), .ic .leq (.t 7) (kI 8)⟩, dO 9 (.pick (.t 5) (.t 8) kF), dO 10 (.mv (.t 9)), ⟨some 11, (some (10, true)), .mv (.t 0)⟩, ⟨some 12, (some (10, true)), .callc n_lex_run [.t 11, (.c (.fn (.func n_lex_inner) [] []))]⟩, ⟨some 13, (some (10, true)), .mv (.t 0)⟩, ⟨some 14, (some (10, true)), .sop .eql (.t 12) (.t 13)⟩, dO 15 (.pick (.t 10) (.t 14) kF), dO 16 (.mv (.t 15)), ⟨some 17, (some (16, true)), .mv (.t 0)⟩, ⟨some 18, (some (16, true)), .callc n_lex_Key [.t 17]⟩, ⟨some 19, (some (16, true)), .notb (.t 18)⟩, dO 20 (.pick (.t 16) (.t 19) kF), dO 2 (.tk (.t 20))])
 (.ret))) }
def c_tree_Right_2 : AFunc :=
 { np := 1, res := [.t 2], body := (
 .seq (.reg [dO 1 (.box (.t 0)), dO 2 (.tk kF)])
 (.seq (.reg [dO 3 (.fa 0 (.t 1)), dO 4 (.ld none (.t 3)), dO 5 (.callc n_lex_Name [.t 4]), dO 6 (.notb (.t 5)), dO 7 (.mv (.t 6)), ⟨some 8, (some (7, false)), .fa 1 (.t 1)⟩, ⟨some 9, (some (7, false)), .ld (some 4) (.t 8)⟩, ⟨some 10, (some (7, false)), .callc n_tree_expr [.t 9, kI 8]⟩, ⟨some 11, (some (7, false)), .notb (.t 10)⟩, dO 12 (.pick (.t 7) kT (.t 11)), dO 2 (.tk (.t 12))])
 (.ret))) }
def c_tree_expr : AFunc :=
 { np := 2, res := [.t 4], body := (
 .seq (.reg [dO 2 (.box (.t 0)), dO 3 (.box (.t 1)), dO 4 (.tk kF)])
 (.seq (.reg [dO 9 (.fa 0 (.t 2)), dO 10 (.ld none (.t 9)), dO 11 (.callc n_tree_Parts [.t 10]), dO 8 (.mv (.t 11)), dO 12 (.ext (.t 8) 0), dO 13 (.ext (.t 8) 1), dO 5 (.tk (.t 12)), dO 6 (.tk (.t 13))])
 (.seq (.seq (.reg [dO 14 (.mv (.t 6)), dO 15 (.notb (.t 14)), dO 16 (.mv (.t 15)), ⟨some 17, (some (16, false)), .ld none (.t 3)⟩, ⟨some 18, (some (16, false)), .ic .eql (.t 17) (kI 0)⟩, dO 19 (.pick (.t 16) kT (.t 18)), dO 20 (.mv (.t 19)), ⟨some 21, (some (20, false)), .fa 3 (.t 2)⟩, ⟨some 22, (some (20, false)), .ld none (.t 21)⟩, ⟨some 23, (some (20, false)), .len false (.t 22)⟩, ⟨some 24, (some (20, false)), .mv (.t 5)⟩, ⟨some 25, (some (20, false)), .ic .neq (.t 23) (.t 24)⟩, dO 26 (.pick (.t 20) kT (.t 25))])
 (.cond (.t 26)
 (.seq (.reg [dO 4 (.tk kF)])
 (.ret))
 (.skip)))
 (.seq (.seq (.reg [dO 27 (.fa 0 (.t 2)), dO 28 (.ld none (.t 27)), dO 29 (.fa 1 (.t 2)), dO 30 (.ld none (.t 29)), dO 31 (.fa 2 (.t 2)), dO 32 (.ld none (.t 31)), dO 33 (.bld [iZ, iZ, .str [], .sl 4 []] [(0, 1, .t 28), (1, 1, .t 30), (2, 1, .t 32)]), dO 7 (.alloc [iZ, iZ, .str [], .own 4 []]), ⟨none, none, .st 4 (.t 7) (.t 33)⟩])
 (.seq (.reg [dO 34 (.fa 0 (.t 7)), dO 35 (.ld none (.t 34))])
 (.block 0 (.seq (.reg [dO 45 (.ic .eql (.t 35) (kI 1)), dO 44 (.tk (.t 45))])
 (.cond (.t 44)
 (.reg [dO 46 (.fa 1 (.t 7)), dO 47 (.ld none (.t 46)), dO 48 (.ic .geq (.t 47) (kI 0)), dO 49 (.mv (.t 48)), ⟨some 50, (some (49, true)), .fa 1 (.t 7)⟩, ⟨some 51, (some (49, true)), .ld none (.t 50)⟩, ⟨some 52, (some (49, true)), .ic .leq (.t 51) (kI 1000000000000)⟩, dO 53 (.pick (.t 49) (.t 52) kF), dO 54 (.mv (.t 53)), ⟨some 55, (some (54, true)), .fa 2 (.t 7)⟩, ⟨some 56, (some (54, true)), .ld none (.t 55)⟩, ⟨some 57, (some (54, true)), .sop .eql (.t 56) (kS [])⟩, dO 58 (.pick (.t 54) (.t 57) kF), dO 6 (.tk (.t 58))])
 (.seq (.reg [dO 60 (.ic .eql (.t 35) (kI 3)), dO 59 (.tk (.t 60))])
 (.cond (.t 59)
 (.reg [dO 61 (.fa 1 (.t 7)), dO 62 (.ld none (.t 61)), dO 63 (.ia .shr .i64 (.t 62) (.c (.int .u64 1))), dO 64 (.ic .eql (.t 63) (kI 0)), dO 65 (.mv (.t 64)), ⟨some 66, (some (65, true)), .fa 2 (.t 7)⟩, ⟨some 67, (some (65, true)), .ld none (.t 66)⟩, ⟨some 68, (some (65, true)), .sop .eql (.t 67) (kS [])⟩, dO 69 (.pick (.t 65) (.t 68) kF), dO 6 (.tk (.t 69))])
 (.seq (.reg [dO 71 (.ic .eql (.t 35) (kI 2)), dO 70 (.tk (.t 71))])
 (.cond (.t 70)
 (.reg [dO 72 (.fa 2 (.t 7)), dO 73 (.ld none (.t 72)), dO 74 (.len true (.t 73)), dO 75 (.ic .leq (.t 74) (kI 64)), dO 76 (.mv (.t 75)), ⟨some 77, (some (76, true)), .fa 1 (.t 7)⟩, ⟨some 78, (some (76, true)), .ld none (.t 77)⟩, ⟨some 79, (some (76, true)), .ic .eql (.t 78) (kI 0)⟩, dO 80 (.pick (.t 76) (.t 79) kF), dO 6 (.tk (.t 80))])
 (.seq (.reg [dO 82 (.ic .eql (.t 35) (kI 4)), dO 81 (.tk (.t 82))])
 (.cond (.t 81)
 (.reg [dO 83 (.fa 2 (.t 7)), dO 84 (.ld none (.t 83)), dO 85 (.callc n_lex_Name [.t 84]), dO 86 (.mv (.t 85)), ⟨some 87, (some (86, true)), .fa 1 (.t 7)⟩, ⟨some 88, (some (86, true)), .ld none (.t 87)⟩, ⟨some 89, (some (86, true)), .ic .eql (.t 88) (kI 0)⟩, dO 90 (.pick (.t 86) (.t 89) kF), dO 6 (.tk (.t 90))])
 (.reg [dO 36 (.fa 2 (.t 7)), dO 37 (.ld none (.t 36)), dO 38 (.sop .eql (.t 37) (kS [])), dO 39 (.mv (.t 38)), ⟨some 40, (some (39, true)), .fa 1 (.t 7)⟩, ⟨some 41, (some (39, true)), .ld none (.t 40)⟩, ⟨some 42, (some (39, true)), .ic .eql (.t 41) (kI 0)⟩, dO 43 (.pick (.t 39) (.t 42) kF), dO 6 (.tk (.t 43))]))))))))))))
 (.seq (.reg [dO 91 (.mv (.t 6)), dO 92 (.mv (.t 91)), ⟨some 93, (some (92, true)), .fa 3 (.t 2)⟩, ⟨some 94, (some (92, true)), .ld none (.t 93)⟩, ⟨some 95, (some (92, true)), .mkf (.func n_tree_expr_1) [] [.t 3]⟩, ⟨some 96, (some (92, true)), .call n_sC_Expr_api_Expr [.t 94, .t 95]⟩, ⟨some 97, (some (92, true)), .notb (.t 96)⟩, dO 98 (.pick (.t 92) (.t 97) kF), dO 4 (.tk (.t 98))])
 (.ret)))))) }
def c_tree_Right_3 : AFunc :=
 { np := 1, res := [.t 2], body := (
 .seq (.reg [dO 2 (.tk kF)])
 (.seq (.reg [dO 3 (.mv (.t 0)), dO 4 (.callc n_tree_block [.t 3, kI 1]), dO 5 (.notb (.t 4)), dO 2 (.tk (.t 5))])
 (.ret))) }
def c_tree_block : AFunc :=
 { np := 2, res := [.t 4], body := (
 .seq (.reg [dO 3 (.box (.t 1)), dO 4 (.tk kF)])
 (.seq (.reg [dO 5 (.mv (.t 0)), dO 6 (.mkf (.func n_tree_block_1) [] [.t 3]), dO 7 (.call n_sC_Stmt_api_Stmt_x [.t 5, .t 6]), dO 8 (.notb (.t 7)), dO 4 (.tk (.t 8))])
 (.ret))) }
def c_sC_Proc_api_Proc : AFunc :=
 { np := 2, res := [.t 4], body := (
 .seq (.reg [dO 4 (.tk kF)])
 (.seq (.reg [dO 5 (.mv (.t 0)), dO 6 (.mv (.t 1)), dO 7 (.call n_sI_Proc_api_Proc [.t 5, .t 6]), dO 8 (.ic .geq (.t 7) (kI 0)), dO 4 (.tk (.t 8))])
 (.ret))) }
def c_sC_Oracle_api_Oracle : AFunc :=
 { np := 2, res := [.t 4], body := (
 .seq (.reg [dO 4 (.tk kF)])
 (.seq (.reg [dO 5 (.mv (.t 0)), dO 6 (.mv (.t 1)), dO 7 (.call n_sI_Oracle_api_Oracle [.t 5, .t 6]), dO 8 (.ic .geq (.t 7) (kI 0)), dO 4 (.tk (.t 8))])
 (.ret))) }
def c_sC_Stmt_api_Stmt : AFunc :=
 { np := 2, res := [.t 4], body := (
 .seq (.reg [dO 4 (.tk kF)])
 (.seq (.reg [dO 5 (.mv (.t 0)), dO 6 (.mv (.t 1)), dO 7 (.call n_sI_Stmt_api_Stmt [.t 5, .t 6]), dO 8 (.ic .geq (.t 7) (kI 0)), dO 4 (.tk (.t 8))])
 (.ret))) }
def b_ptypes_checker_exprs_0 : AC :=
 .seq (.reg [dO 16 (.ic .lss (.t 15) (.t 14))])
 (.seq (.cond (.t 16)
 (.skip)
 (.exit 0))
 (.seq (.block 1 (.seq (.reg [dO 17 (.mv (.t 15)), dO 18 (.ixa 4 none (.t 13) (.t 15)), dO 19 (.ld (some 4) (.t 18)), dO 9 (.alloc [iZ, iZ, .str [], .own 4 []]), dO 8 (.tk (.t 17)), ⟨none, none, .st 4 (.t 9) (.t 19)⟩])
 (.seq (.drw [[], [], [], [], [], [], [4], [], [], [], [], []] [dO 21 (.ld (some 4) (.t 9)), dO 22 (.mv (.t 0)), dO 23 (.nck (.t 22)), dO 24 (.fa 0 (.t 23)), dO 25 (.ld none (.t 24)), dO 26 (.mkf (.func n_types_scope_kind) [.t 25] []), dO 27 (.call n_types_of [.t 21, .t 26]), dO 20 (.mv (.t 27)), dO 28 (.ext (.t 20) 0), dO 29 (.ext (.t 20) 1), dO 10 (.tk (.t 28)), dO 11 (.tk (.t 29))])
 (.seq (.seq (.reg [dO 30 (.mv (.t 11)), dO 31 (.ic .neq (.t 30) (kI 0))])
 (.cond (.t 31)
 (.reg [dO 32 (.mv (.t 0)), dO 33 (.mv (.t 11)), dO 34 (.mv (.t 2)), dO 35 (.call n_ptypes_checker_fail [.t 32, .t 33, .t 34])])
 (.seq (.reg [dO 36 (.fa 0 (.t 4)), dO 37 (.ld none (.t 36)), dO 38 (.mv (.t 8)), dO 39 (.mv (.t 10)), dO 40 (.callc n_types_wants [.t 37, .t 38, .t 39]), dO 41 (.notb (.t 40))])
 (.cond (.t 41)
 (.reg [dO 42 (.mv (.t 0)), dO 43 (.mv (.t 2)), dO 44 (.call n_ptypes_checker_fail [.t 42, kI 11, .t 43])])
 (.skip)))))
 (.reg [dO 45 (.mv (.t 10)), dO 7 (.tk (.t 45))])))))
 (.reg [dO 46 (.ia .add .i64 (.t 15) (kI 1)), dO 15 (.mv (.t 46))])))
def l_ptypes_checker_exprs_0 : AC :=
 .loop [0, 2, 4, 7, 13, 14, 15] b_ptypes_checker_exprs_0
def r_ptypes_checker_exprs_0 : AC :=
 .seq (.reg [dO 47 (.mv (.t 7)), dO 6 (.tk (.t 47))])
 (.ret)
def c_ptypes_checker_exprs : AFunc :=
 { np := 3, res := [.t 6], body := (
 .seq (.reg [dO 4 (.box (.t 1)), dO 6 (.tk (kI 0))])
 (.seq (.reg [dO 7 (.tk (kI 0))])
 (.seq (.seq (.reg [dO 12 (.fa 3 (.t 4)), dO 13 (.ld none (.t 12)), dO 14 (.len false (.t 13)), dO 15 (.mv (kI 0))])
 (.block 0 (l_ptypes_checker_exprs_0))) r_ptypes_checker_exprs_0))) }
def c_ptypes_checker_let : AFunc :=
 { np := 4, res := [], body := (
 .seq (.seq (.reg [dO 9 (.mv (.t 0)), dO 10 (.nck (.t 9)), dO 11 (.fa 0 (.t 10)), dO 12 (.ld none (.t 11)), dO 13 (.mv (.t 1)), dO 14 (.call n_types_scope_kind [.t 12, .t 13]), dO 8 (.tk (.t 14))])
 (.seq (.reg [dO 15 (.mv (.t 8)), dO 16 (.ic .neq (.t 15) (kI 0)), dO 17 (.mv (.t 16)), ⟨some 18, (some (17, true)), .mv (.t 8)⟩, ⟨some 19, (some (17, true)), .mv (.t 2)⟩, ⟨some 20, (some (17, true)), .ic .neq (.t 18) (.t 19)⟩, dO 21 (.pick (.t 17) (.t 20) kF)])
 (.cond (.t 21)
 (.reg [dO 22 (.mv (.t 0)), dO 23 (.mv (.t 3)), dO 24 (.call n_ptypes_checker_fail [.t 22, kI 11, .t 23])])
 (.skip))))
 (.drw [[], [], [], [], [], [], [], [], [], [], [], [], [], [], []] [dO 25 (.mv (.t 0)), dO 26 (.nck (.t 25)), dO 27 (.fa 0 (.t 26)), dO 28 (.ld none (.t 27)), dO 29 (.mv (.t 0)), dO 30 (.nck (.t 29)), dO 31 (.fa 0 (.t 30)), dO 32 (.ld none (.t 31)), dO 33 (.len false (.t 32)), dO 34 (.ia .sub .i64 (.t 33) (kI 1)), dO 35 (.ixa 1 none (.t 28) (.t 34)), dO 36 (.ld none (.t 35)), dO 37 (.mv (.t 1)), dO 38 (.mv (.t 2)), ⟨none, none, .mst false [.str] (.t 36) (.t 37) (.t 38)⟩])) }
def a_tree_walk_1_0 : AC :=
 .reg [dO 7 (.alloc [iZ, .str [], iZ, .own 4 [], .own 7 [], .own 7 [], .bool false]), ⟨none, none, .st 7 (.t 7) (.t 30)⟩]
def y_tree_walk_1_0 : AC :=
 .block 5 (.seq (.reg [dO 31 (.ld none (.t 2)), dO 32 (.ld (some 7) (.t 7)), dO 33 (.callv (.t 31) [.t 32]), dO 34 (.notb (.t 33))])
 (.cond (.t 34)
 (.ret)
 (.skip)))
def r_tree_walk_1_0 : AC :=
 .reg [dO 35 (.ia .add .i64 (.t 24) (kI 1)), dO 24 (.mv (.t 35))]
def b_tree_walk_1_0 : AC :=
 .seq (.reg [dO 25 (.ic .lss (.t 24) (.t 23))])
 (.seq (.cond (.t 25)
 (.skip)
 (.exit 2))
 (.seq (.block 3 (.seq (.reg [dO 26 (.ixa 1 none (.t 22) (.t 24)), dO 27 (.ld none (.t 26)), dO 6 (.tk (.t 27))])
 (.seq (.reg [dO 28 (.mv (.t 6)), dO 29 (.call n_tree_walk [.t 28])])
 (.block 4 (.rfn (.t 29) [2] q_tree_walk_1_0 [30] a_tree_walk_1_0 y_tree_walk_1_0))))) r_tree_walk_1_0))
def l_tree_walk_1_0 : AC :=
 .loop [2, 8, 9, 10, 22, 23, 24] b_tree_walk_1_0
def r_tree_walk_1_1 : AC :=
 .reg [dO 36 (.ia .add .i64 (.t 10) (kI 1)), dO 10 (.mv (.t 36))]
def b_tree_walk_1_1 : AC :=
 .seq (.reg [dO 11 (.ic .lss (.t 10) (.t 9))])
 (.seq (.cond (.t 11)
 (.skip)
 (.exit 0))
 (.seq (.block 1 (.seq (.reg [dO 12 (.ixa 7 none (.t 8) (.t 10)), dO 13 (.ld (some 7) (.t 12)), dO 4 (.alloc [iZ, .str [], iZ, .own 4 [], .own 7 [], .own 7 [], .bool false]), ⟨none, none, .st 7 (.t 4) (.t 13)⟩])
 (.seq (.seq (.reg [dO 14 (.ld none (.t 2)), dO 15 (.ld (some 7) (.t 4)), dO 16 (.callv (.t 14) [.t 15]), dO 17 (.notb (.t 16))])
 (.cond (.t 17)
 (.ret)
 (.skip)))
 (.seq (.reg [dO 18 (.fa 4 (.t 4)), dO 19 (.ld none (.t 18)), dO 20 (.fa 5 (.t 4)), dO 21 (.ld none (.t 20)), dO 22 (.bsl 1 [.sl 7 []] 2 [(0, 1, .t 19), (1, 1, .t 21)] false), dO 23 (.len false (.t 22)), dO 24 (.mv (kI 0))])
 (.block 2 (l_tree_walk_1_0)))))) r_tree_walk_1_1))
def l_tree_walk_1_1 : AC :=
 .loop [2, 8, 9, 10] b_tree_walk_1_1
def c_tree_walk_1 : AFunc :=
 { np := 2, res := [], body := (
 .seq (.reg [dO 2 (.box (.t 0))])
 (.seq (.reg [dO 8 (.ld none (.t 1)), dO 9 (.len false (.t 8)), dO 10 (.mv (kI 0))])
 (.block 0 (l_tree_walk_1_1)))) }
def b_tree_each_api_Expr_0 : AC :=
 .seq (.reg [dO 11 (.ic .lss (.t 10) (.t 9))])
 (.seq (.cond (.t 11)
 (.skip)
 (.exit 0))
 (.seq (.block 1 (.seq (.reg [dO 12 (.ixa 4 none (.t 8) (.t 10)), dO 13 (.ld (some 4) (.t 12)), dO 7 (.alloc [iZ, iZ, .str [], .own 4 []]), ⟨none, none, .st 4 (.t 7) (.t 13)⟩])
 (.reg [dO 14 (.tk (.t 5)), dO 15 (.mv (.t 1)), dO 16 (.ld (some 4) (.t 7)), dO 17 (.callv (.t 15) [.t 16]), dO 18 (.bsl 4 [iZ, iZ, .str [], .sl 4 []] 1 [(0, 4, .t 17)] false), dO 19 (.app 4 56 (.t 14) (.t 18) false), dO 5 (.tk (.t 19))])))
 (.reg [dO 20 (.ia .add .i64 (.t 10) (kI 1)), dO 10 (.mv (.t 20))])))
def l_tree_each_api_Expr_0 : AC :=
 .loop [1, 5, 8, 9, 10] b_tree_each_api_Expr_0
def r_tree_each_api_Expr_0 : AC :=
 .seq (.reg [dO 21 (.tk (.t 5)), dO 4 (.tk (.t 21))])
 (.ret)
def c_tree_each_api_Expr : AFunc :=
 { np := 2, res := [.t 4], body := (
 .seq (.reg [dO 4 (.tk (.c (.own 4 [])))])
 (.seq (.reg [dO 5 (.tk (.c (.own 4 [])))])
 (.seq (.seq (.reg [dO 8 (.mv (.t 0)), dO 9 (.len false (.t 8)), dO 10 (.mv (kI 0))])
 (.block 0 (l_tree_each_api_Expr_0))) r_tree_each_api_Expr_0))) }
def c_tree_clonedExpr : AFunc :=
 { np := 1, res := [.cell 2 (some 4)], body := (
 .seq (.reg [dO 1 (.box (.t 0)), dO 2 (.alloc [iZ, iZ, .str [], .own 4 []])])
 (.seq (.reg [dO 3 (.fa 3 (.t 1)), dO 4 (.ld none (.t 3)), dO 5 (.callc n_tree_each_api_Expr [.t 4, (.c (.fn (.func n_tree_clonedExpr) [] []))]), dO 6 (.fa 3 (.t 1)), ⟨none, none, .st 1 (.t 6) (.t 5)⟩])
 (.seq (.reg [dO 7 (.ld (some 4) (.t 1)), ⟨none, none, .st 4 (.t 2) (.t 7)⟩])
 (.ret)))) }
def b_tree_each_api_Stmt_0 : AC :=
 .seq (.reg [dO 11 (.ic .lss (.t 10) (.t 9))])
 (.seq (.cond (.t 11)
 (.skip)
 (.exit 0))
 (.seq (.block 1 (.seq (.reg [dO 12 (.ixa 7 none (.t 8) (.t 10)), dO 13 (.ld (some 7) (.t 12)), dO 7 (.alloc [iZ, .str [], iZ, .own 4 [], .own 7 [], .own 7 [], .bool false]), ⟨none, none, .st 7 (.t 7) (.t 13)⟩])
 (.reg [dO 14 (.tk (.t 5)), dO 15 (.mv (.t 1)), dO 16 (.ld (some 7) (.t 7)), dO 17 (.callv (.t 15) [.t 16]), dO 18 (.bsl 7 [iZ, .str [], iZ, .sl 4 [], .sl 7 [], .sl 7 [], .bool false] 1 [(0, 7, .t 17)] false), dO 19 (.app 7 112 (.t 14) (.t 18) false), dO 5 (.tk (.t 19))])))
 (.reg [dO 20 (.ia .add .i64 (.t 10) (kI 1)), dO 10 (.mv (.t 20))])))
def l_tree_each_api_Stmt_0 : AC :=
 .loop [1, 5, 8, 9, 10] b_tree_each_api_Stmt_0
def r_tree_each_api_Stmt_0 : AC :=
 .seq (.reg [dO 21 (.tk (.t 5)), dO 4 (.tk (.t 21))])
 (.ret)
def c_tree_each_api_Stmt : AFunc :=
 { np := 2, res := [.t 4], body := (
 .seq (.reg [dO 4 (.tk (.c (.own 7 [])))])
 (.seq (.reg [dO 5 (.tk (.c (.own 7 [])))])
 (.seq (.seq (.reg [dO 8 (.mv (.t 0)), dO 9 (.len false (.t 8)), dO 10 (.mv (kI 0))])
 (.block 0 (l_tree_each_api_Stmt_0))) r_tree_each_api_Stmt_0))) }
def b_r16_list_0 : AC :=
 .seq (.seq (.reg [dO 6 (.mv (.t 5)), dO 7 (.mv (.t 0)), dO 8 (.len false (.t 7)), dO 9 (.ic .lss (.t 6) (.t 8))])
 (.cond (.t 9)
 (.skip)
 (.exit 0)))
 (.seq (.block 1 (.seq (.reg [dO 12 (.tk (.t 1)), dO 13 (.mv (.t 0)), dO 14 (.mv (.t 5)), dO 15 (.ixa 7 none (.t 13) (.t 14)), dO 16 (.ld (some 7) (.t 15)), dO 17 (.bsl 7 [iZ, .str [], iZ, .sl 4 [], .sl 7 [], .sl 7 [], .bool false] 1 [(0, 7, .t 16)] false), dO 18 (.app 7 112 (.t 12) (.t 17) false), dO 1 (.tk (.t 18))])
 (.seq (.reg [dO 19 (.mv (.t 0)), dO 20 (.mv (.t 5)), dO 21 (.ixa 7 none (.t 19) (.t 20)), dO 22 (.fa 4 (.t 21)), dO 23 (.ld none (.t 22)), dO 24 (.tk (.t 1)), dO 25 (.call n_r16_list [.t 23, .t 24]), dO 1 (.tk (.t 25))])
 (.reg [dO 26 (.mv (.t 0)), dO 27 (.mv (.t 5)), dO 28 (.ixa 7 none (.t 26) (.t 27)), dO 29 (.fa 5 (.t 28)), dO 30 (.ld none (.t 29)), dO 31 (.tk (.t 1)), dO 32 (.call n_r16_list [.t 30, .t 31]), dO 1 (.tk (.t 32))]))))
 (.reg [dO 10 (.mv (.t 5)), dO 11 (.ia .add .i64 (.t 10) (kI 1)), dO 5 (.tk (.t 11))]))
def l_r16_list_0 : AC :=
 .loop [0, 1, 5] b_r16_list_0
def r_r16_list_0 : AC :=
 .seq (.reg [dO 33 (.tk (.t 1)), dO 4 (.tk (.t 33))])
 (.ret)
def c_r16_list : AFunc :=
 { np := 2, res := [.t 4], body := (
 .seq (.reg [dO 4 (.tk (.c (.own 7 [])))])
 (.seq (.seq (.reg [dO 5 (.tk (kI 0))])
 (.block 0 (l_r16_list_0))) r_r16_list_0)) }
def c_r15_letter : AFunc :=
 { np := 1, res := [.t 2], body := (
 .seq (.reg [dO 2 (.tk kF)])
 (.seq (.reg [dO 3 (.mv (.t 0)), dO 4 (.ic .geq (.t 3) (.c (.int .u8 97))), dO 5 (.mv (.t 4)), ⟨some 6, (some (5, true)), .mv (.t 0)⟩, ⟨some 7, (some (5, true)), .ic .leq (.t 6) (.c (.int .u8 122))⟩, dO 8 (.pick (.t 5) (.t 7) kF), dO 2 (.tk (.t 8))])
 (.ret))) }
def b_r15_Key_0 : AC :=
 .seq (.seq (.reg [dO 6 (.mv (.t 4)), dO 7 (.mv (.t 3)), dO 8 (.len false (.t 7)), dO 9 (.ic .lss (.t 6) (.t 8))])
 (.cond (.t 9)
 (.skip)
 (.exit 0)))
 (.seq (.block 1 (.seq (.reg [dO 12 (.mv (.t 3)), dO 13 (.mv (.t 4)), dO 14 (.ixa 1 none (.t 12) (.t 13)), dO 15 (.ld none (.t 14)), dO 16 (.mv (.t 0)), dO 17 (.sop .eql (.t 15) (.t 16))])
 (.cond (.t 17)
 (.seq (.reg [dO 2 (.tk kT)])
 (.ret))
 (.skip))))
 (.reg [dO 10 (.mv (.t 4)), dO 11 (.ia .add .i64 (.t 10) (kI 1)), dO 4 (.tk (.t 11))]))
def l_r15_Key_0 : AC :=
 .loop [0, 3, 4] b_r15_Key_0
def r_r15_Key_0 : AC :=
 .seq (.reg [dO 2 (.tk kF)])
 (.ret)
def c_r15_Key : AFunc :=
 { np := 1, res := [.t 2], body := (
 .seq (.reg [dO 2 (.tk kF)])
 (.seq (.reg [dO 5 (.bsl 1 [.str []] 32 [(0, 1, kS [112, 114, 111, 99]), (1, 1, kS [109, 97, 105, 110]), (2, 1, kS [114, 101, 99, 111, 118, 101, 114]), (3, 1, kS [111, 114, 97, 99, 108, 101]), (4, 1, kS [99, 114, 101, 97, 116, 101]), (5, 1, kS [109, 107, 100, 105, 114]), (6, 1, kS [119, 114, 105, 116, 101]), (7, 1, kS [97, 112, 112, 101, 110, 100]), (8, 1, kS [116, 114, 117, 110, 99, 97, 116, 101]), (9, 1, kS [114, 101, 110, 97, 109, 101]), (10, 1, kS [117, 110, 108, 105, 110, 107]), (11, 1, kS [102, 115, 121, 110, 99]), (12, 1, kS [102, 100, 97, 116, 97, 115, 121, 110, 99]), (13, 1, kS [115, 121, 110, 99, 100, 105, 114]), (14, 1, kS [98, 97, 114, 114, 105, 101, 114]), (15, 1, kS [108, 101, 116]), (16, 1, kS [105, 102]), (17, 1, kS [101, 108, 115, 101]), (18, 1, kS [114, 101, 112, 101, 97, 116]), (19, 1, kS [99, 97, 108, 108]), (20, 1, kS [116, 120, 110]), (21, 1, kS [99, 111, 109, 109, 105, 116]), (22, 1, kS [114, 101, 112, 108, 97, 121]), (23, 1, kS [97, 115, 115, 101, 114, 116]), (24, 1, kS [101, 120, 105, 115, 116, 115]), (25, 1, kS [115, 105, 122, 101]), (26, 1, kS [114, 101, 97, 100]), (27, 1, kS [110, 111, 116]), (28, 1, kS [97, 110, 100]), (29, 1, kS [111, 114]), (30, 1, kS [116, 114, 117, 101]), (31, 1, kS [102, 97, 108, 115, 101])] false), dO 3 (.tk (.t 5))])
 (.seq (.seq (.reg [dO 4 (.tk (kI 0))])
 (.block 0 (l_r15_Key_0))) r_r15_Key_0))) }
def c_r15_inner : AFunc :=
 { np := 1, res := [.t 2], body := (
 .seq (.reg [dO 2 (.tk kF)])
 (.seq (.reg [dO 3 (.mv (.t 0)), dO 4 (.callc n_r15_letter [.t 3]), dO 5 (.mv (.t 4)), ⟨some 6, (some (5, false)), .mv (.t 0)⟩, ⟨some 7, (some (5, false)), .callc n_r15_digit [.t 6]⟩, dO 8 (.pick (.t 5) kT (.t 7)), dO 9 (.mv (.t 8)), ⟨some 10, (some (9, false)), .mv (.t 0)⟩, ⟨some 11, (some (9, false)), .ic .eql (.t 10) (.c (.int .u8 95))⟩, dO 12 (.pick (.t 9) kT (.t 11)), dO 2 (.tk (.t 12))])
 (.ret))) }
def b_r16_Stmt_0 : AC :=
 .seq (.seq (.reg [dO 30 (.mv (.t 7)), dO 31 (.mv (.t 5)), dO 32 (.ic .lss (.t 30) (.t 31))])
 (.cond (.t 32)
 (.skip)
 (.exit 0)))
 (.seq (.block 1 (.seq (.reg [dO 35 (.fa 3 (.t 2)), dO 36 (.ld none (.t 35)), dO 37 (.mv (.t 7)), dO 38 (.ixa 4 none (.t 36) (.t 37)), dO 39 (.ld (some 4) (.t 38)), dO 40 (.callc n_r16_Expr [.t 39, kI 8]), dO 41 (.notb (.t 40))])
 (.cond (.t 41)
 (.seq (.reg [dO 4 (.tk kF)])
 (.ret))
 (.skip))))
 (.reg [dO 33 (.mv (.t 7)), dO 34 (.ia .add .i64 (.t 33) (kI 1)), dO 7 (.tk (.t 34))]))
def l_r16_Stmt_0 : AC :=
 .loop [1, 2, 5, 7] b_r16_Stmt_0
def b_r16_Stmt_1 : AC :=
 .seq (.seq (.reg [dO 136 (.mv (.t 10)), dO 137 (.fa 4 (.t 2)), dO 138 (.ld none (.t 137)), dO 139 (.len false (.t 138)), dO 140 (.ic .lss (.t 136) (.t 139))])
 (.cond (.t 140)
 (.skip)
 (.exit 2)))
 (.seq (.block 3 (.seq (.reg [dO 143 (.fa 0 (.t 2)), dO 144 (.ld none (.t 143)), dO 145 (.ic .eql (.t 144) (kI 16)), dO 146 (.mv (.t 145)), ⟨some 147, (some (146, true)), .fa 4 (.t 2)⟩, ⟨some 148, (some (146, true)), .ld none (.t 147)⟩, ⟨some 149, (some (146, true)), .mv (.t 10)⟩, ⟨some 150, (some (146, true)), .ixa 7 none (.t 148) (.t 149)⟩, ⟨some 151, (some (146, true)), .fa 0 (.t 150)⟩, ⟨some 152, (some (146, true)), .ld none (.t 151)⟩, ⟨some 153, (some (146, true)), .ic .neq (.t 152) (kI 3)⟩, dO 154 (.pick (.t 146) (.t 153) kF)])
 (.cond (.t 154)
 (.seq (.reg [dO 4 (.tk kF)])
 (.ret))
 (.skip))))
 (.reg [dO 141 (.mv (.t 10)), dO 142 (.ia .add .i64 (.t 141) (kI 1)), dO 10 (.tk (.t 142))]))
def l_r16_Stmt_1 : AC :=
 .loop [1, 2, 10] b_r16_Stmt_1
def r_r16_Stmt_0 : AC :=
 .seq (.reg [dO 155 (.fa 4 (.t 2)), dO 156 (.ld none (.t 155)), dO 157 (.mv (.t 1)), dO 158 (.ia .add .i64 (.t 157) (kI 1)), dO 159 (.callc n_r16_Block [.t 156, .t 158]), dO 160 (.mv (.t 159)), ⟨some 161, (some (160, true)), .fa 5 (.t 2)⟩, ⟨some 162, (some (160, true)), .ld none (.t 161)⟩, ⟨some 163, (some (160, true)), .mv (.t 1)⟩, ⟨some 164, (some (160, true)), .ia .add .i64 (.t 163) (kI 1)⟩, ⟨some 165, (some (160, true)), .callc n_r16_Block [.t 162, .t 164]⟩, dO 166 (.pick (.t 160) (.t 165) kF), dO 4 (.tk (.t 166))])
 (.ret)
def r_r16_Stmt_1 : AC :=
 .seq (.reg [dO 42 (.fa 0 (.t 2)), dO 43 (.ld none (.t 42)), dO 44 (.ic .eql (.t 43) (kI 12)), dO 45 (.mv (.t 44)), ⟨some 46, (some (45, false)), .fa 0 (.t 2)⟩, ⟨some 47, (some (45, false)), .ld none (.t 46)⟩, ⟨some 48, (some (45, false)), .ic .eql (.t 47) (kI 15)⟩, dO 49 (.pick (.t 45) kT (.t 48)), dO 8 (.tk (.t 49))])
 (.seq (.reg [dO 50 (.fa 0 (.t 2)), dO 51 (.ld none (.t 50)), dO 52 (.ic .eql (.t 51) (kI 13)), dO 53 (.mv (.t 52)), ⟨some 54, (some (53, false)), .fa 0 (.t 2)⟩, ⟨some 55, (some (53, false)), .ld none (.t 54)⟩, ⟨some 56, (some (53, false)), .ic .eql (.t 55) (kI 14)⟩, dO 57 (.pick (.t 53) kT (.t 56)), dO 58 (.mv (.t 57)), ⟨some 59, (some (58, false)), .fa 0 (.t 2)⟩, ⟨some 60, (some (58, false)), .ld none (.t 59)⟩, ⟨some 61, (some (58, false)), .ic .eql (.t 60) (kI 16)⟩, dO 62 (.pick (.t 58) kT (.t 61)), dO 9 (.tk (.t 62))])
 (.seq (.seq (.reg [dO 63 (.mv (.t 8)), dO 64 (.mv (.t 63)), ⟨some 65, (some (64, true)), .fa 1 (.t 2)⟩, ⟨some 66, (some (64, true)), .ld none (.t 65)⟩, ⟨some 67, (some (64, true)), .callc n_r15_Name [.t 66]⟩, ⟨some 68, (some (64, true)), .notb (.t 67)⟩, dO 69 (.pick (.t 64) (.t 68) kF), dO 70 (.mv (.t 69)), ⟨some 71, (some (70, false)), .mv (.t 8)⟩, ⟨some 72, (some (70, false)), .notb (.t 71)⟩, ⟨some 73, (some (70, false)), .mv (.t 72)⟩, ⟨some 74, (some (73, true)), .fa 1 (.t 2)⟩, ⟨some 75, (some (73, true)), .ld none (.t 74)⟩, ⟨some 76, (some (73, true)), .sop .neq (.t 75) (kS [])⟩, ⟨some 77, (some (70, false)), .pick (.t 73) (.t 76) kF⟩, dO 78 (.pick (.t 70) kT (.t 77))])
 (.cond (.t 78)
 (.seq (.reg [dO 4 (.tk kF)])
 (.ret))
 (.skip)))
 (.seq (.seq (.reg [dO 79 (.fa 2 (.t 2)), dO 80 (.ld none (.t 79)), dO 81 (.ic .lss (.t 80) (kI 0)), dO 82 (.mv (.t 81)), ⟨some 83, (some (82, false)), .fa 2 (.t 2)⟩, ⟨some 84, (some (82, false)), .ld none (.t 83)⟩, ⟨some 85, (some (82, false)), .ic .gtr (.t 84) (kI 16)⟩, dO 86 (.pick (.t 82) kT (.t 85)), dO 87 (.mv (.t 86)), ⟨some 88, (some (87, false)), .fa 0 (.t 2)⟩, ⟨some 89, (some (87, false)), .ld none (.t 88)⟩, ⟨some 90, (some (87, false)), .ic .neq (.t 89) (kI 14)⟩, ⟨some 91, (some (87, false)), .mv (.t 90)⟩, ⟨some 92, (some (91, true)), .fa 2 (.t 2)⟩, ⟨some 93, (some (91, true)), .ld none (.t 92)⟩, ⟨some 94, (some (91, true)), .ic .neq (.t 93) (kI 0)⟩, ⟨some 95, (some (87, false)), .pick (.t 91) (.t 94) kF⟩, dO 96 (.pick (.t 87) kT (.t 95)), dO 97 (.mv (.t 96)), ⟨some 98, (some (97, false)), .fa 6 (.t 2)⟩, ⟨some 99, (some (97, false)), .ld none (.t 98)⟩, ⟨some 100, (some (97, false)), .mv (.t 99)⟩, ⟨some 101, (some (100, true)), .fa 0 (.t 2)⟩, ⟨some 102, (some (100, true)), .ld none (.t 101)⟩, ⟨some 103, (some (100, true)), .ic .neq (.t 102) (kI 16)⟩, ⟨some 104, (some (97, false)), .pick (.t 100) (.t 103) kF⟩, dO 105 (.pick (.t 97) kT (.t 104))])
 (.cond (.t 105)
 (.seq (.reg [dO 4 (.tk kF)])
 (.ret))
 (.skip)))
 (.seq (.seq (.reg [dO 106 (.mv (.t 9)), dO 107 (.notb (.t 106)), dO 108 (.mv (.t 107)), ⟨some 109, (some (108, true)), .fa 4 (.t 2)⟩, ⟨some 110, (some (108, true)), .ld none (.t 109)⟩, ⟨some 111, (some (108, true)), .len false (.t 110)⟩, ⟨some 112, (some (108, true)), .ic .gtr (.t 111) (kI 0)⟩, dO 113 (.pick (.t 108) (.t 112) kF), dO 114 (.mv (.t 113)), ⟨some 115, (some (114, false)), .fa 0 (.t 2)⟩, ⟨some 116, (some (114, false)), .ld none (.t 115)⟩, ⟨some 117, (some (114, false)), .ic .neq (.t 116) (kI 13)⟩, ⟨some 118, (some (114, false)), .mv (.t 117)⟩, ⟨some 119, (some (118, true)), .fa 5 (.t 2)⟩, ⟨some 120, (some (118, true)), .ld none (.t 119)⟩, ⟨some 121, (some (118, true)), .len false (.t 120)⟩, ⟨some 122, (some (118, true)), .ic .gtr (.t 121) (kI 0)⟩, ⟨some 123, (some (114, false)), .pick (.t 118) (.t 122) kF⟩, dO 124 (.pick (.t 114) kT (.t 123)), dO 125 (.mv (.t 124)), ⟨some 126, (some (125, false)), .fa 0 (.t 2)⟩, ⟨some 127, (some (125, false)), .ld none (.t 126)⟩, ⟨some 128, (some (125, false)), .ic .eql (.t 127) (kI 16)⟩, ⟨some 129, (some (125, false)), .mv (.t 128)⟩, ⟨some 130, (some (129, true)), .fa 4 (.t 2)⟩, ⟨some 131, (some (129, true)), .ld none (.t 130)⟩, ⟨some 132, (some (129, true)), .len false (.t 131)⟩, ⟨some 133, (some (129, true)), .ic .gtr (.t 132) (kI 8)⟩, ⟨some 134, (some (125, false)), .pick (.t 129) (.t 133) kF⟩, dO 135 (.pick (.t 125) kT (.t 134))])
 (.cond (.t 135)
 (.seq (.reg [dO 4 (.tk kF)])
 (.ret))
 (.skip)))
 (.seq (.seq (.reg [dO 10 (.tk (kI 0))])
 (.block 2 (l_r16_Stmt_1))) r_r16_Stmt_0)))))
def c_r16_Stmt : AFunc :=
 { np := 2, res := [.t 4], body := (
 .seq (.reg [dO 2 (.box (.t 0)), dO 4 (.tk kF)])
 (.seq (.reg [dO 12 (.fa 0 (.t 2)), dO 13 (.ld none (.t 12)), dO 14 (.callc n_r16_Exprs [.t 13]), dO 11 (.mv (.t 14)), dO 15 (.ext (.t 11) 0), dO 16 (.ext (.t 11) 1), dO 5 (.tk (.t 15)), dO 6 (.tk (.t 16))])
 (.seq (.seq (.reg [dO 17 (.mv (.t 6)), dO 18 (.notb (.t 17)), dO 19 (.mv (.t 18)), ⟨some 20, (some (19, false)), .mv (.t 1)⟩, ⟨some 21, (some (19, false)), .ic .gtr (.t 20) (kI 8)⟩, dO 22 (.pick (.t 19) kT (.t 21)), dO 23 (.mv (.t 22)), ⟨some 24, (some (23, false)), .fa 3 (.t 2)⟩, ⟨some 25, (some (23, false)), .ld none (.t 24)⟩, ⟨some 26, (some (23, false)), .len false (.t 25)⟩, ⟨some 27, (some (23, false)), .mv (.t 5)⟩, ⟨some 28, (some (23, false)), .ic .neq (.t 26) (.t 27)⟩, dO 29 (.pick (.t 23) kT (.t 28))])
 (.cond (.t 29)
 (.seq (.reg [dO 4 (.tk kF)])
 (.ret))
 (.skip)))
 (.seq (.seq (.reg [dO 7 (.tk (kI 0))])
 (.block 0 (l_r16_Stmt_0))) r_r16_Stmt_1)))) }
def c_r16_Parts : AFunc :=
 { np := 1, res := [.t 2, .t 3], body := (
 .seq (.reg [dO 2 (.tk (kI 0)), dO 3 (.tk kF)])
 (.seq (.seq (.reg [dO 4 (.mv (.t 0)), dO 5 (.ic .lss (.t 4) (kI 1)), dO 6 (.mv (.t 5)), ⟨some 7, (some (6, false)), .mv (.t 0)⟩, ⟨some 8, (some (6, false)), .ic .gtr (.t 7) (kI 14)⟩, dO 9 (.pick (.t 6) kT (.t 8))])
 (.cond (.t 9)
 (.seq (.reg [dO 2 (.tk (kI 0)), dO 3 (.tk kF)])
 (.ret))
 (.skip)))
 (.seq (.seq (.reg [dO 10 (.mv (.t 0)), dO 11 (.ic .leq (.t 10) (kI 4))])
 (.cond (.t 11)
 (.seq (.reg [dO 2 (.tk (kI 0)), dO 3 (.tk kT)])
 (.ret))
 (.skip)))
 (.seq (.seq (.reg [dO 12 (.mv (.t 0)), dO 13 (.ic .leq (.t 12) (kI 8))])
 (.cond (.t 13)
 (.seq (.reg [dO 2 (.tk (kI 1)), dO 3 (.tk kT)])
 (.ret))
 (.skip)))
 (.seq (.reg [dO 2 (.tk (kI 2)), dO 3 (.tk kT)])
 (.ret)))))) }
def c_r19_wants : AFunc :=
 { np := 2, res := [.t 4], body := (
 .seq (.reg [dO 4 (.tk (kI 0))])
 (.seq (.seq (.reg [dO 5 (.mv (.t 0))])
 (.block 0 (.seq (.reg [dO 7 (.ic .eql (.t 5) (kI 12)), dO 6 (.tk (.t 7))])
 (.cond (.t 6)
 (.seq (.reg [dO 4 (.tk (kI 0))])
 (.ret))
 (.seq (.seq (.reg [dO 9 (.ic .eql (.t 5) (kI 13)), dO 8 (.tk (.t 9))])
 (.cond (.t 8)
 (.skip)
 (.reg [dO 10 (.ic .eql (.t 5) (kI 18)), dO 8 (.tk (.t 10))])))
 (.cond (.t 8)
 (.seq (.reg [dO 4 (.tk (kI 3))])
 (.ret))
 (.seq (.seq (.reg [dO 12 (.ic .eql (.t 5) (kI 3)), dO 11 (.tk (.t 12))])
 (.cond (.t 11)
 (.skip)
 (.reg [dO 13 (.ic .eql (.t 5) (kI 5)), dO 11 (.tk (.t 13))])))
 (.cond (.t 11)
 (.seq (.reg [dO 14 (.mv (.t 1)), dO 15 (.ic .eql (.t 14) (kI 1))])
 (.cond (.t 15)
 (.seq (.reg [dO 4 (.tk (kI 1))])
 (.ret))
 (.skip)))
 (.skip)))))))))
 (.seq (.reg [dO 4 (.tk (kI 2))])
 (.ret)))) }
def c_lex_begins : AFunc :=
 { np := 2, res := [.t 4], body := (
 .seq (.reg [dO 4 (.tk kF)])
 (.seq (.reg [dO 5 (.mv (.t 0)), dO 6 (.sop .neq (.t 5) (kS [])), dO 7 (.mv (.t 6)), ⟨some 8, (some (7, true)), .mv (.t 1)⟩, ⟨some 9, (some (7, true)), .mv (.t 0)⟩, ⟨some 10, (some (7, true)), .ixs (.t 9) (kI 0)⟩, ⟨some 11, (some (7, true)), .conv .i32 (.t 10)⟩, ⟨some 12, (some (7, true)), .callv (.t 8) [.t 11]⟩, dO 13 (.pick (.t 7) (.t 12) kF), dO 4 (.tk (.t 13))])
 (.ret))) }
def c_lex_letter : AFunc :=
 { np := 1, res := [.t 2], body := (
 .seq (.reg [dO 2 (.tk kF)])
 (.seq (.reg [dO 3 (.mv (.t 0)), dO 4 (.ic .geq (.t 3) (.c (.int .i32 97))), dO 5 (.mv (.t 4)), ⟨some 6, (some (5, true)), .mv (.t 0)⟩, ⟨some 7, (some (5, true)), .ic .leq (.t 6) (.c (.int .i32 122))⟩, dO 8 (.pick (.t 5) (.t 7) kF), dO 2 (.tk (.t 8))])
 (.ret))) }
def c_lex_inner : AFunc :=
 { np := 1, res := [.t 2], body := (
 .seq (.reg [dO 2 (.tk kF)])
 (.seq (.reg [dO 3 (.mv (.t 0)), dO 4 (.callc n_lex_letter [.t 3]), dO 5 (.mv (.t 4)), ⟨some 6, (some (5, false)), .mv (.t 0)⟩, ⟨some 7, (some (5, false)), .callc n_lex_digit [.t 6]⟩, dO 8 (.pick (.t 5) kT (.t 7)), dO 9 (.mv (.t 8)), ⟨some 10, (some (9, false)), .mv (.t 0)⟩, ⟨some 11, (some (9, false)), .ic .eql (.t 10) (.c (.int .i32 95))⟩, dO 12 (.pick (.t 9) kT (.t 11)), dO 2 (.tk (.t 12))])
 (.ret))) }
def c_lex_Key : AFunc :=
 { np := 1, res := [.t 2], body := (
 .seq (.reg [dO 2 (.tk kF)])
 (.seq (.reg [dO 3 (.mv (.t 0)), dO 4 (.sop .neq (.t 3) (kS [])), dO 5 (.mv (.t 4)), ⟨some 6, (some (5, true)), .mv (.t 0)⟩, ⟨some 7, (some (5, true)), .callc n_strings_Contains [.t 6, kS [32]]⟩, ⟨some 8, (some (5, true)), .notb (.t 7)⟩, dO 9 (.pick (.t 5) (.t 8) kF), dO 10 (.mv (.t 9)), ⟨some 11, (some (10, true)), .mv (.t 0)⟩, ⟨some 12, (some (10, true)), .sop .add (kS [32]) (.t 11)⟩, ⟨some 13, (some (10, true)), .sop .add (.t 12) (kS [32])⟩, ⟨some 14, (some (10, true)), .callc n_strings_Contains [kS [32, 112, 114, 111, 99, 32, 109, 97, 105, 110, 32, 114, 101, 99, 111, 118, 101, 114, 32, 111, 114, 97, 99, 108, 101, 32, 99, 114, 101, 97, 116, 101, 32, 109, 107, 100, 105, 114, 32, 119, 114, 105, 116, 101, 32, 97, 112, 112, 101, 110, 100, 32, 116, 114, 117, 110, 99, 97, 116, 101, 32, 114, 101, 110, 97, 109, 101, 32, 117, 110, 108, 105, 110, 107, 32, 102, 115, 121, 110, 99, 32, 102, 100, 97, 116, 97, 115, 121, 110, 99, 32, 115, 121, 110, 99, 100, 105, 114, 32, 98, 97, 114, 114, 105, 101, 114, 32, 108, 101, 116, 32, 105, 102, 32, 101, 108, 115, 101, 32, 114, 101, 112, 101, 97, 116, 32, 99, 97, 108, 108, 32, 116, 120, 110, 32, 99, 111, 109, 109, 105, 116, 32, 114, 101, 112, 108, 97, 121, 32, 97, 115, 115, 101, 114, 116, 32, 101, 120, 105, 115, 116, 115, 32, 115, 105, 122, 101, 32, 114, 101, 97, 100, 32, 110, 111, 116, 32, 97, 110, 100, 32, 111, 114, 32, 116, 114, 117, 101, 32, 102, 97, 108, 115, 101, 32], .t 13]⟩, dO 15 (.pick (.t 10) (.t 14) kF), dO 2 (.tk (.t 15))])
 (.ret))) }
def c_tree_Parts : AFunc :=
 { np := 1, res := [.t 2, .t 3], body := (
 .seq (.reg [dO 2 (.tk (kI 0)), dO 3 (.tk kF)])
 (.seq (.block 0 (.seq (.reg [dO 5 (.mv (.t 0)), dO 6 (.ic .lss (.t 5) (kI 1)), dO 7 (.mv (.t 6)), ⟨some 8, (some (7, false)), .mv (.t 0)⟩, ⟨some 9, (some (7, false)), .ic .gtr (.t 8) (kI 14)⟩, dO 10 (.pick (.t 7) kT (.t 9)), dO 4 (.tk (.t 10))])
 (.cond (.t 4)
 (.seq (.reg [dO 2 (.tk (kI 0)), dO 3 (.tk kF)])
 (.ret))
 (.seq (.reg [dO 12 (.mv (.t 0)), dO 13 (.ic .leq (.t 12) (kI 4)), dO 11 (.tk (.t 13))])
 (.cond (.t 11)
 (.seq (.reg [dO 2 (.tk (kI 0)), dO 3 (.tk kT)])
 (.ret))
 (.seq (.reg [dO 15 (.mv (.t 0)), dO 16 (.ic .leq (.t 15) (kI 8)), dO 14 (.tk (.t 16))])
 (.cond (.t 14)
 (.seq (.reg [dO 2 (.tk (kI 1)), dO 3 (.tk kT)])
 (.ret))
 (.skip))))))))
 (.seq (.reg [dO 2 (.tk (kI 2)), dO 3 (.tk kT)])
 (.ret)))) }
def c_sC_Expr_api_Expr : AFunc :=
 { np := 2, res := [.t 4], body := (
 .seq (.reg [dO 4 (.tk kF)])
 (.seq (.reg [dO 5 (.mv (.t 0)), dO 6 (.mv (.t 1)), dO 7 (.call n_sI_Expr_api_Expr [.t 5, .t 6]), dO 8 (.ic .geq (.t 7) (kI 0)), dO 4 (.tk (.t 8))])
 (.ret))) }
def c_tree_expr_1 : AFunc :=
 { np := 2, res := [.t 3], body := (
 .seq (.reg [dO 2 (.box (.t 0)), dO 3 (.tk kF)])
 (.seq (.reg [dO 4 (.ld (some 4) (.t 2)), dO 5 (.ld none (.t 1)), dO 6 (.ia .sub .i64 (.t 5) (kI 1)), dO 7 (.callc n_tree_expr [.t 4, .t 6]), dO 8 (.notb (.t 7)), dO 3 (.tk (.t 8))])
 (.ret))) }
def c_sC_Stmt_api_Stmt_x : AFunc :=
 { np := 2, res := [.t 4], body := (
 .seq (.reg [dO 4 (.tk kF)])
 (.seq (.reg [dO 5 (.mv (.t 0)), dO 6 (.mv (.t 1)), dO 7 (.call n_sI_Stmt_api_Stmt_x [.t 5, .t 6]), dO 8 (.ic .geq (.t 7) (kI 0)), dO 4 (.tk (.t 8))])
 (.ret))) }
def c_tree_block_1 : AFunc :=
 { np := 2, res := [.t 3], body := (
 .seq (.reg [dO 2 (.box (.t 0)), dO 3 (.tk kF)])
 (.seq (.reg [dO 4 (.ld (some 7) (.t 2)), dO 5 (.ld none (.t 1)), dO 6 (.callc n_tree_stmt [.t 4, .t 5]), dO 7 (.notb (.t 6)), dO 3 (.tk (.t 7))])
 (.ret))) }
def c_tree_stmt : AFunc :=
 { np := 2, res := [.t 4], body := (
 .seq (.reg [dO 2 (.box (.t 0)), dO 4 (.tk kF)])
 (.seq (.seq (.reg [dO 6 (.mv (.t 1)), dO 7 (.ic .gtr (.t 6) (kI 8)), dO 8 (.mv (.t 7)), ⟨some 9, (some (8, false)), .ld (some 7) (.t 2)⟩, ⟨some 10, (some (8, false)), .callc n_tree_shape [.t 9]⟩, ⟨some 11, (some (8, false)), .notb (.t 10)⟩, dO 12 (.pick (.t 8) kT (.t 11))])
 (.cond (.t 12)
 (.seq (.reg [dO 4 (.tk kF)])
 (.ret))
 (.skip)))
 (.seq (.seq (.reg [dO 13 (.fa 0 (.t 2)), dO 14 (.ld none (.t 13)), dO 15 (.ic .eql (.t 14) (kI 16))])
 (.cond (.t 15)
 (.seq (.reg [dO 5 (.tk (.c (.fn (.func n_tree_stmt_1) [] [])))])
 (.seq (.reg [dO 16 (.fa 4 (.t 2)), dO 17 (.ld none (.t 16)), dO 18 (.len false (.t 17)), dO 19 (.ic .gtr (.t 18) (kI 8)), dO 20 (.mv (.t 19)), ⟨some 21, (some (20, false)), .fa 4 (.t 2)⟩, ⟨some 22, (some (20, false)), .ld none (.t 21)⟩, ⟨some 23, (some (20, false)), .mv (.t 5)⟩, ⟨some 24, (some (20, false)), .call n_sC_Stmt_api_Stmt_x [.t 22, .t 23]⟩, dO 25 (.pick (.t 20) kT (.t 24))])
 (.cond (.t 25)
 (.seq (.reg [dO 4 (.tk kF)])
 (.ret))
 (.skip))))
 (.skip)))
 (.seq (.reg [dO 26 (.fa 4 (.t 2)), dO 27 (.ld none (.t 26)), dO 28 (.mv (.t 1)), dO 29 (.ia .add .i64 (.t 28) (kI 1)), dO 30 (.callc n_tree_block [.t 27, .t 29]), dO 31 (.mv (.t 30)), ⟨some 32, (some (31, true)), .fa 5 (.t 2)⟩, ⟨some 33, (some (31, true)), .ld none (.t 32)⟩, ⟨some 34, (some (31, true)), .mv (.t 1)⟩, ⟨some 35, (some (31, true)), .ia .add .i64 (.t 34) (kI 1)⟩, ⟨some 36, (some (31, true)), .callc n_tree_block [.t 33, .t 35]⟩, dO 37 (.pick (.t 31) (.t 36) kF), dO 4 (.tk (.t 37))])
 (.ret))))) }
def b_sI_Proc_api_Proc_0 : AC :=
 .seq (.reg [dO 9 (.ic .lss (.t 8) (.t 7))])
 (.seq (.cond (.t 9)
 (.skip)
 (.exit 0))
 (.seq (.block 1 (.seq (.reg [dO 10 (.mv (.t 8)), dO 5 (.tk (.t 10))])
 (.seq (.reg [dO 11 (.mv (.t 1)), dO 12 (.mv (.t 0)), dO 13 (.mv (.t 5)), dO 14 (.ixa 2 none (.t 12) (.t 13)), dO 15 (.ld (some 2) (.t 14)), dO 16 (.callv (.t 11) [.t 15])])
 (.cond (.t 16)
 (.seq (.reg [dO 17 (.mv (.t 5)), dO 4 (.tk (.t 17))])
 (.ret))
 (.skip)))))
 (.reg [dO 18 (.ia .add .i64 (.t 8) (kI 1)), dO 8 (.mv (.t 18))])))
def l_sI_Proc_api_Proc_0 : AC :=
 .loop [0, 1, 7, 8] b_sI_Proc_api_Proc_0
def r_sI_Proc_api_Proc_0 : AC :=
 .seq (.reg [dO 4 (.tk (kI (-1)))])
 (.ret)
def c_sI_Proc_api_Proc : AFunc :=
 { np := 2, res := [.t 4], body := (
 .seq (.reg [dO 4 (.tk (kI 0))])
 (.seq (.seq (.reg [dO 6 (.mv (.t 0)), dO 7 (.len false (.t 6)), dO 8 (.mv (kI 0))])
 (.block 0 (l_sI_Proc_api_Proc_0))) r_sI_Proc_api_Proc_0)) }
def b_sI_Oracle_api_Oracle_0 : AC :=
 .seq (.reg [dO 9 (.ic .lss (.t 8) (.t 7))])
 (.seq (.cond (.t 9)
 (.skip)
 (.exit 0))
 (.seq (.block 1 (.seq (.reg [dO 10 (.mv (.t 8)), dO 5 (.tk (.t 10))])
 (.seq (.reg [dO 11 (.mv (.t 1)), dO 12 (.mv (.t 0)), dO 13 (.mv (.t 5)), dO 14 (.ixa 5 none (.t 12) (.t 13)), dO 15 (.ld (some 5) (.t 14)), dO 16 (.callv (.t 11) [.t 15])])
 (.cond (.t 16)
 (.seq (.reg [dO 17 (.mv (.t 5)), dO 4 (.tk (.t 17))])
 (.ret))
 (.skip)))))
 (.reg [dO 18 (.ia .add .i64 (.t 8) (kI 1)), dO 8 (.mv (.t 18))])))
def l_sI_Oracle_api_Oracle_0 : AC :=
 .loop [0, 1, 7, 8] b_sI_Oracle_api_Oracle_0
def r_sI_Oracle_api_Oracle_0 : AC :=
 .seq (.reg [dO 4 (.tk (kI (-1)))])
 (.ret)
def c_sI_Oracle_api_Oracle : AFunc :=
 { np := 2, res := [.t 4], body := (
 .seq (.reg [dO 4 (.tk (kI 0))])
 (.seq (.seq (.reg [dO 6 (.mv (.t 0)), dO 7 (.len false (.t 6)), dO 8 (.mv (kI 0))])
 (.block 0 (l_sI_Oracle_api_Oracle_0))) r_sI_Oracle_api_Oracle_0)) }
def b_sI_Stmt_api_Stmt_0 : AC :=
 .seq (.reg [dO 9 (.ic .lss (.t 8) (.t 7))])
 (.seq (.cond (.t 9)
 (.skip)
 (.exit 0))
 (.seq (.block 1 (.seq (.reg [dO 10 (.mv (.t 8)), dO 5 (.tk (.t 10))])
 (.seq (.reg [dO 11 (.mv (.t 1)), dO 12 (.mv (.t 0)), dO 13 (.mv (.t 5)), dO 14 (.ixa 1 none (.t 12) (.t 13)), dO 15 (.ld none (.t 14)), dO 16 (.callv (.t 11) [.t 15])])
 (.cond (.t 16)
 (.seq (.reg [dO 17 (.mv (.t 5)), dO 4 (.tk (.t 17))])
 (.ret))
 (.skip)))))
 (.reg [dO 18 (.ia .add .i64 (.t 8) (kI 1)), dO 8 (.mv (.t 18))])))
def l_sI_Stmt_api_Stmt_0 : AC :=
 .loop [0, 1, 7, 8] b_sI_Stmt_api_Stmt_0
def r_sI_Stmt_api_Stmt_0 : AC :=
 .seq (.reg [dO 4 (.tk (kI (-1)))])
 (.ret)
def c_sI_Stmt_api_Stmt : AFunc :=
 { np := 2, res := [.t 4], body := (
 .seq (.reg [dO 4 (.tk (kI 0))])
 (.seq (.seq (.reg [dO 6 (.mv (.t 0)), dO 7 (.len false (.t 6)), dO 8 (.mv (kI 0))])
 (.block 0 (l_sI_Stmt_api_Stmt_0))) r_sI_Stmt_api_Stmt_0)) }
def b_types_of_0 : AC :=
 .seq (.reg [dO 19 (.ic .lss (.t 18) (.t 17))])
 (.seq (.cond (.t 19)
 (.skip)
 (.exit 0))
 (.seq (.block 1 (.seq (.reg [dO 20 (.mv (.t 18)), dO 21 (.ixa 4 none (.t 16) (.t 18)), dO 22 (.ld (some 4) (.t 21)), dO 8 (.alloc [iZ, iZ, .str [], .own 4 []]), dO 7 (.tk (.t 20)), ⟨none, none, .st 4 (.t 8) (.t 22)⟩])
 (.seq (.reg [dO 24 (.ld (some 4) (.t 8)), dO 25 (.mv (.t 1)), dO 26 (.call n_types_of [.t 24, .t 25]), dO 23 (.mv (.t 26)), dO 27 (.ext (.t 23) 0), dO 28 (.ext (.t 23) 1), dO 9 (.tk (.t 27)), dO 10 (.tk (.t 28))])
 (.seq (.seq (.reg [dO 29 (.mv (.t 10)), dO 30 (.ic .neq (.t 29) (kI 0))])
 (.cond (.t 30)
 (.seq (.reg [dO 31 (.mv (.t 10)), dO 4 (.tk (kI 0)), dO 5 (.tk (.t 31))])
 (.ret))
 (.skip)))
 (.reg [dO 32 (.mv (.t 6)), dO 33 (.mv (.t 7)), dO 34 (.mv (.t 9)), dO 35 (.ixa 1 none (.t 32) (.t 33)), ⟨none, none, .st 1 (.t 35) (.t 34)⟩])))))
 (.reg [dO 36 (.ia .add .i64 (.t 18) (kI 1)), dO 18 (.mv (.t 36))])))
def l_types_of_0 : AC :=
 .loop [1, 2, 6, 16, 17, 18] b_types_of_0
def r_types_of_0 : AC :=
 .seq (.drw [[], [], [], [], [], [], [], [], [], [], [], []] [dO 37 (.mv (.t 6)), dO 38 (.ixa 1 none (.t 37) (kI 0)), dO 39 (.ld none (.t 38)), dO 40 (.mv (.t 6)), dO 41 (.ixa 1 none (.t 40) (kI 0)), dO 42 (.ld none (.t 41)), dO 43 (.mv (.t 6)), dO 44 (.ixa 1 none (.t 43) (kI 1)), dO 45 (.ld none (.t 44)), dO 46 (.ic .eql (.t 42) (.t 45)), dO 11 (.tk (.t 39)), dO 12 (.tk (.t 46))])
 (.seq (.seq (.reg [dO 47 (.fa 0 (.t 2)), dO 48 (.ld none (.t 47))])
 (.block 2 (.seq (.reg [dO 50 (.ic .eql (.t 48) (kI 1)), dO 49 (.tk (.t 50))])
 (.cond (.t 49)
 (.seq (.reg [dO 4 (.tk (kI 1)), dO 5 (.tk (kI 0))])
 (.ret))
 (.seq (.reg [dO 52 (.ic .eql (.t 48) (kI 2)), dO 51 (.tk (.t 52))])
 (.cond (.t 51)
 (.seq (.reg [dO 4 (.tk (kI 2)), dO 5 (.tk (kI 0))])
 (.ret))
 (.seq (.reg [dO 54 (.ic .eql (.t 48) (kI 3)), dO 53 (.tk (.t 54))])
 (.cond (.t 53)
 (.seq (.reg [dO 4 (.tk (kI 3)), dO 5 (.tk (kI 0))])
 (.ret))
 (.seq (.reg [dO 56 (.ic .eql (.t 48) (kI 4)), dO 55 (.tk (.t 56))])
 (.cond (.t 55)
 (.seq (.seq (.reg [dO 57 (.mv (.t 1)), dO 58 (.fa 2 (.t 2)), dO 59 (.ld none (.t 58)), dO 60 (.callv (.t 57) [.t 59]), dO 13 (.tk (.t 60))])
 (.seq (.reg [dO 61 (.mv (.t 13)), dO 62 (.ic .neq (.t 61) (kI 0))])
 (.cond (.t 62)
 (.seq (.reg [dO 63 (.mv (.t 13)), dO 4 (.tk (.t 63)), dO 5 (.tk (kI 0))])
 (.ret))
 (.skip))))
 (.seq (.reg [dO 4 (.tk (kI 0)), dO 5 (.tk (kI 9))])
 (.ret)))
 (.seq (.reg [dO 65 (.ic .eql (.t 48) (kI 5)), dO 64 (.tk (.t 65))])
 (.cond (.t 64)
 (.seq (.reg [dO 66 (.mv (.t 11)), dO 67 (.ic .eql (.t 66) (kI 2)), dO 68 (.callc n_types_is [.t 67, kI 3]), dO 69 (.ext (.t 68) 0), dO 70 (.ext (.t 68) 1), dO 4 (.tk (.t 69)), dO 5 (.tk (.t 70))])
 (.ret))
 (.seq (.reg [dO 72 (.ic .eql (.t 48) (kI 6)), dO 71 (.tk (.t 72))])
 (.cond (.t 71)
 (.seq (.reg [dO 73 (.mv (.t 11)), dO 74 (.ic .eql (.t 73) (kI 2)), dO 75 (.callc n_types_is [.t 74, kI 1]), dO 76 (.ext (.t 75) 0), dO 77 (.ext (.t 75) 1), dO 4 (.tk (.t 76)), dO 5 (.tk (.t 77))])
 (.ret))
 (.seq (.reg [dO 79 (.ic .eql (.t 48) (kI 7)), dO 78 (.tk (.t 79))])
 (.cond (.t 78)
 (.seq (.reg [dO 80 (.mv (.t 11)), dO 81 (.ic .eql (.t 80) (kI 2)), dO 82 (.callc n_types_is [.t 81, kI 2]), dO 83 (.ext (.t 82) 0), dO 84 (.ext (.t 82) 1), dO 4 (.tk (.t 83)), dO 5 (.tk (.t 84))])
 (.ret))
 (.seq (.reg [dO 86 (.ic .eql (.t 48) (kI 8)), dO 85 (.tk (.t 86))])
 (.cond (.t 85)
 (.seq (.reg [dO 87 (.mv (.t 11)), dO 88 (.ic .eql (.t 87) (kI 3)), dO 89 (.callc n_types_is [.t 88, kI 3]), dO 90 (.ext (.t 89) 0), dO 91 (.ext (.t 89) 1), dO 4 (.tk (.t 90)), dO 5 (.tk (.t 91))])
 (.ret))
 (.seq (.reg [dO 93 (.ic .eql (.t 48) (kI 9)), dO 92 (.tk (.t 93))])
 (.cond (.t 92)
 (.seq (.reg [dO 94 (.mv (.t 12)), dO 95 (.mv (.t 94)), ⟨some 96, (some (95, true)), .mv (.t 11)⟩, ⟨some 97, (some (95, true)), .ic .neq (.t 96) (kI 3)⟩, dO 98 (.pick (.t 95) (.t 97) kF), dO 99 (.mv (.t 11)), dO 100 (.callc n_types_is [.t 98, .t 99]), dO 101 (.ext (.t 100) 0), dO 102 (.ext (.t 100) 1), dO 4 (.tk (.t 101)), dO 5 (.tk (.t 102))])
 (.ret))
 (.seq (.reg [dO 104 (.ic .eql (.t 48) (kI 10)), dO 103 (.tk (.t 104))])
 (.cond (.t 103)
 (.seq (.reg [dO 105 (.mv (.t 12)), dO 106 (.mv (.t 105)), ⟨some 107, (some (106, true)), .mv (.t 11)⟩, ⟨some 108, (some (106, true)), .ic .eql (.t 107) (kI 1)⟩, dO 109 (.pick (.t 106) (.t 108) kF), dO 110 (.callc n_types_is [.t 109, kI 1]), dO 111 (.ext (.t 110) 0), dO 112 (.ext (.t 110) 1), dO 4 (.tk (.t 111)), dO 5 (.tk (.t 112))])
 (.ret))
 (.seq (.reg [dO 114 (.ic .eql (.t 48) (kI 11)), dO 113 (.tk (.t 114))])
 (.cond (.t 113)
 (.seq (.reg [dO 115 (.mv (.t 12)), dO 116 (.callc n_types_is [.t 115, kI 3]), dO 117 (.ext (.t 116) 0), dO 118 (.ext (.t 116) 1), dO 4 (.tk (.t 117)), dO 5 (.tk (.t 118))])
 (.ret))
 (.seq (.reg [dO 120 (.ic .eql (.t 48) (kI 12)), dO 119 (.tk (.t 120))])
 (.cond (.t 119)
 (.seq (.reg [dO 121 (.mv (.t 12)), dO 122 (.mv (.t 121)), ⟨some 123, (some (122, true)), .mv (.t 11)⟩, ⟨some 124, (some (122, true)), .ic .neq (.t 123) (kI 3)⟩, dO 125 (.pick (.t 122) (.t 124) kF), dO 126 (.callc n_types_is [.t 125, kI 3]), dO 127 (.ext (.t 126) 0), dO 128 (.ext (.t 126) 1), dO 4 (.tk (.t 127)), dO 5 (.tk (.t 128))])
 (.ret))
 (.skip)))))))))))))))))))))))))))
 (.seq (.reg [dO 129 (.mv (.t 12)), dO 130 (.mv (.t 129)), ⟨some 131, (some (130, true)), .mv (.t 11)⟩, ⟨some 132, (some (130, true)), .ic .eql (.t 131) (kI 3)⟩, dO 133 (.pick (.t 130) (.t 132) kF), dO 134 (.callc n_types_is [.t 133, kI 3]), dO 135 (.ext (.t 134) 0), dO 136 (.ext (.t 134) 1), dO 4 (.tk (.t 135)), dO 5 (.tk (.t 136))])
 (.ret)))
def c_types_of : AFunc :=
 { np := 2, res := [.t 4, .t 5], body := (
 .seq (.reg [dO 2 (.box (.t 0)), dO 4 (.tk (kI 0)), dO 5 (.tk (kI 0))])
 (.seq (.reg [dO 14 (.bsl 1 [iZ] 2 [(0, 1, kI 0), (1, 1, kI 0)] true), dO 6 (.tk (.t 14))])
 (.seq (.seq (.reg [dO 15 (.fa 3 (.t 2)), dO 16 (.ld none (.t 15)), dO 17 (.len false (.t 16)), dO 18 (.mv (kI 0))])
 (.block 0 (l_types_of_0))) r_types_of_0))) }
def b_types_scope_kind_0 : AC :=
 .seq (.reg [dO 11 (.ic .lss (.t 10) (.t 9))])
 (.seq (.cond (.t 11)
 (.skip)
 (.exit 0))
 (.seq (.block 1 (.seq (.reg [dO 12 (.ixa 1 none (.t 8) (.t 10)), dO 13 (.ld none (.t 12)), dO 6 (.tk (.t 13))])
 (.seq (.reg [dO 14 (.mv (.t 6)), dO 15 (.mv (.t 1)), dO 16 (.mlk false (.int .i64 0) false [.str] (.t 14) (.t 15)), dO 7 (.tk (.t 16))])
 (.seq (.reg [dO 17 (.mv (.t 7)), dO 18 (.ic .neq (.t 17) (kI 0))])
 (.cond (.t 18)
 (.seq (.reg [dO 19 (.mv (.t 7)), dO 4 (.tk (.t 19))])
 (.ret))
 (.skip))))))
 (.reg [dO 20 (.ia .add .i64 (.t 10) (kI 1)), dO 10 (.mv (.t 20))])))
def l_types_scope_kind_0 : AC :=
 .loop [1, 8, 9, 10] b_types_scope_kind_0
def r_types_scope_kind_0 : AC :=
 .seq (.reg [dO 4 (.tk (kI 0))])
 (.ret)
def c_types_scope_kind : AFunc :=
 { np := 2, res := [.t 4], body := (
 .seq (.reg [dO 4 (.tk (kI 0))])
 (.seq (.seq (.reg [dO 8 (.mv (.t 0)), dO 9 (.len false (.t 8)), dO 10 (.mv (kI 0))])
 (.block 0 (l_types_scope_kind_0))) r_types_scope_kind_0)) }
def c_types_wants : AFunc :=
 { np := 3, res := [.t 6], body := (
 .seq (.reg [dO 6 (.tk kF)])
 (.seq (.seq (.reg [dO 7 (.mv (.t 0))])
 (.block 0 (.seq (.reg [dO 9 (.ic .eql (.t 7) (kI 12)), dO 8 (.tk (.t 9))])
 (.cond (.t 8)
 (.seq (.reg [dO 6 (.tk kT)])
 (.ret))
 (.seq (.seq (.reg [dO 11 (.ic .eql (.t 7) (kI 13)), dO 10 (.tk (.t 11))])
 (.cond (.t 10)
 (.skip)
 (.reg [dO 12 (.ic .eql (.t 7) (kI 18)), dO 10 (.tk (.t 12))])))
 (.cond (.t 10)
 (.seq (.reg [dO 13 (.mv (.t 2)), dO 14 (.ic .eql (.t 13) (kI 3)), dO 6 (.tk (.t 14))])
 (.ret))
 (.seq (.seq (.reg [dO 16 (.ic .eql (.t 7) (kI 3)), dO 15 (.tk (.t 16))])
 (.cond (.t 15)
 (.skip)
 (.reg [dO 17 (.ic .eql (.t 7) (kI 5)), dO 15 (.tk (.t 17))])))
 (.cond (.t 15)
 (.seq (.reg [dO 18 (.mv (.t 1)), dO 19 (.ic .eql (.t 18) (kI 1))])
 (.cond (.t 19)
 (.seq (.reg [dO 20 (.mv (.t 2)), dO 21 (.ic .eql (.t 20) (kI 1)), dO 6 (.tk (.t 21))])
 (.ret))
 (.skip)))
 (.skip)))))))))
 (.seq (.reg [dO 22 (.mv (.t 2)), dO 23 (.ic .eql (.t 22) (kI 2)), dO 6 (.tk (.t 23))])
 (.ret)))) }
def c_r15_digit : AFunc :=
 { np := 1, res := [.t 2], body := (
 .seq (.reg [dO 2 (.tk kF)])
 (.seq (.reg [dO 3 (.mv (.t 0)), dO 4 (.ic .geq (.t 3) (.c (.int .u8 48))), dO 5 (.mv (.t 4)), ⟨some 6, (some (5, true)), .mv (.t 0)⟩, ⟨some 7, (some (5, true)), .ic .leq (.t 6) (.c (.int .u8 57))⟩, dO 8 (.pick (.t 5) (.t 7) kF), dO 2 (.tk (.t 8))])
 (.ret))) }
def c_r16_Exprs : AFunc :=
 { np := 1, res := [.t 2, .t 3], body := (
 .seq (.reg [dO 2 (.tk (kI 0)), dO 3 (.tk kF)])
 (.seq (.reg [dO 5 (.bsl 1 [iZ] 18 [(0, 1, kI 1), (1, 1, kI 1), (2, 1, kI 3), (3, 1, kI 2), (4, 1, kI 2), (5, 1, kI 2), (6, 1, kI 1), (7, 1, kI 1), (8, 1, kI 1), (9, 1, kI 1), (10, 1, kI 0), (11, 1, kI 1), (12, 1, kI 1), (13, 1, kI 0), (14, 1, kI 0), (15, 1, kI 1), (16, 1, kI 1), (17, 1, kI 1)] false), dO 4 (.tk (.t 5))])
 (.seq (.seq (.reg [dO 6 (.mv (.t 0)), dO 7 (.ic .lss (.t 6) (kI 1)), dO 8 (.mv (.t 7)), ⟨some 9, (some (8, false)), .mv (.t 0)⟩, ⟨some 10, (some (8, false)), .mv (.t 4)⟩, ⟨some 11, (some (8, false)), .len false (.t 10)⟩, ⟨some 12, (some (8, false)), .ic .gtr (.t 9) (.t 11)⟩, dO 13 (.pick (.t 8) kT (.t 12))])
 (.cond (.t 13)
 (.seq (.reg [dO 2 (.tk (kI 0)), dO 3 (.tk kF)])
 (.ret))
 (.skip)))
 (.seq (.reg [dO 14 (.mv (.t 4)), dO 15 (.mv (.t 0)), dO 16 (.ia .sub .i64 (.t 15) (kI 1)), dO 17 (.ixa 1 none (.t 14) (.t 16)), dO 18 (.ld none (.t 17)), dO 2 (.tk (.t 18)), dO 3 (.tk kT)])
 (.ret))))) }
def c_lex_digit : AFunc :=
 { np := 1, res := [.t 2], body := (
 .seq (.reg [dO 2 (.tk kF)])
 (.seq (.reg [dO 3 (.mv (.t 0)), dO 4 (.ic .geq (.t 3) (.c (.int .i32 48))), dO 5 (.mv (.t 4)), ⟨some 6, (some (5, true)), .mv (.t 0)⟩, ⟨some 7, (some (5, true)), .ic .leq (.t 6) (.c (.int .i32 57))⟩, dO 8 (.pick (.t 5) (.t 7) kF), dO 2 (.tk (.t 8))])
 (.ret))) }
def b_sI_Expr_api_Expr_0 : AC :=
 .seq (.reg [dO 9 (.ic .lss (.t 8) (.t 7))])
 (.seq (.cond (.t 9)
 (.skip)
 (.exit 0))
 (.seq (.block 1 (.seq (.reg [dO 10 (.mv (.t 8)), dO 5 (.tk (.t 10))])
 (.seq (.reg [dO 11 (.mv (.t 1)), dO 12 (.mv (.t 0)), dO 13 (.mv (.t 5)), dO 14 (.ixa 4 none (.t 12) (.t 13)), dO 15 (.ld (some 4) (.t 14)), dO 16 (.callv (.t 11) [.t 15])])
 (.cond (.t 16)
 (.seq (.reg [dO 17 (.mv (.t 5)), dO 4 (.tk (.t 17))])
 (.ret))
 (.skip)))))
 (.reg [dO 18 (.ia .add .i64 (.t 8) (kI 1)), dO 8 (.mv (.t 18))])))
def l_sI_Expr_api_Expr_0 : AC :=
 .loop [0, 1, 7, 8] b_sI_Expr_api_Expr_0
def r_sI_Expr_api_Expr_0 : AC :=
 .seq (.reg [dO 4 (.tk (kI (-1)))])
 (.ret)
def c_sI_Expr_api_Expr : AFunc :=
 { np := 2, res := [.t 4], body := (
 .seq (.reg [dO 4 (.tk (kI 0))])
 (.seq (.seq (.reg [dO 6 (.mv (.t 0)), dO 7 (.len false (.t 6)), dO 8 (.mv (kI 0))])
 (.block 0 (l_sI_Expr_api_Expr_0))) r_sI_Expr_api_Expr_0)) }
def b_sI_Stmt_api_Stmt_x_0 : AC :=
 .seq (.reg [dO 9 (.ic .lss (.t 8) (.t 7))])
 (.seq (.cond (.t 9)
 (.skip)
 (.exit 0))
 (.seq (.block 1 (.seq (.reg [dO 10 (.mv (.t 8)), dO 5 (.tk (.t 10))])
 (.seq (.reg [dO 11 (.mv (.t 1)), dO 12 (.mv (.t 0)), dO 13 (.mv (.t 5)), dO 14 (.ixa 7 none (.t 12) (.t 13)), dO 15 (.ld (some 7) (.t 14)), dO 16 (.callv (.t 11) [.t 15])])
 (.cond (.t 16)
 (.seq (.reg [dO 17 (.mv (.t 5)), dO 4 (.tk (.t 17))])
 (.ret))
 (.skip)))))
 (.reg [dO 18 (.ia .add .i64 (.t 8) (kI 1)), dO 8 (.mv (.t 18))])))
def l_sI_Stmt_api_Stmt_x_0 : AC :=
 .loop [0, 1, 7, 8] b_sI_Stmt_api_Stmt_x_0
def r_sI_Stmt_api_Stmt_x_0 : AC :=
 .seq (.reg [dO 4 (.tk (kI (-1)))])
 (.ret)
def c_sI_Stmt_api_Stmt_x : AFunc :=
 { np := 2, res := [.t 4], body := (
 .seq (.reg [dO 4 (.tk (kI 0))])
 (.seq (.seq (.reg [dO 6 (.mv (.t 0)), dO 7 (.len false (.t 6)), dO 8 (.mv (kI 0))])
 (.block 0 (l_sI_Stmt_api_Stmt_x_0))) r_sI_Stmt_api_Stmt_x_0)) }
def c_tree_shape : AFunc :=
 { np := 1, res := [.t 2], body := (
 .seq (.reg [dO 1 (.box (.t 0)), dO 2 (.tk kF)])
 (.seq (.reg [dO 9 (.fa 0 (.t 1)), dO 10 (.ld none (.t 9)), dO 11 (.callc n_tree_Exprs [.t 10]), dO 8 (.mv (.t 11)), dO 12 (.ext (.t 8) 0), dO 13 (.ext (.t 8) 1), dO 3 (.tk (.t 12)), dO 4 (.tk (.t 13))])
 (.seq (.reg [dO 15 (.fa 0 (.t 1)), dO 16 (.ld none (.t 15)), dO 17 (.callc n_tree_blocks [.t 16]), dO 14 (.mv (.t 17)), dO 18 (.ext (.t 14) 0), dO 19 (.ext (.t 14) 1), dO 5 (.tk (.t 18)), dO 6 (.tk (.t 19))])
 (.seq (.reg [dO 20 (.fa 0 (.t 1)), dO 21 (.ld none (.t 20)), dO 22 (.ic .eql (.t 21) (kI 12)), dO 23 (.mv (.t 22)), ⟨some 24, (some (23, false)), .fa 0 (.t 1)⟩, ⟨some 25, (some (23, false)), .ld none (.t 24)⟩, ⟨some 26, (some (23, false)), .ic .eql (.t 25) (kI 15)⟩, dO 27 (.pick (.t 23) kT (.t 26)), dO 7 (.tk (.t 27))])
 (.seq (.block 0 (.seq (.reg [dO 29 (.mv (.t 4)), dO 30 (.notb (.t 29)), dO 31 (.mv (.t 30)), ⟨some 32, (some (31, false)), .fa 3 (.t 1)⟩, ⟨some 33, (some (31, false)), .ld none (.t 32)⟩, ⟨some 34, (some (31, false)), .len false (.t 33)⟩, ⟨some 35, (some (31, false)), .mv (.t 3)⟩, ⟨some 36, (some (31, false)), .ic .neq (.t 34) (.t 35)⟩, dO 37 (.pick (.t 31) kT (.t 36)), dO 38 (.mv (.t 37)), ⟨some 39, (some (38, false)), .mv (.t 7)⟩, ⟨some 40, (some (38, false)), .fa 1 (.t 1)⟩, ⟨some 41, (some (38, false)), .ld none (.t 40)⟩, ⟨some 42, (some (38, false)), .sop .neq (.t 41) (kS [])⟩, ⟨some 43, (some (38, false)), .eqb true (.t 39) (.t 42)⟩, dO 44 (.pick (.t 38) kT (.t 43)), dO 45 (.mv (.t 44)), ⟨some 46, (some (45, false)), .mv (.t 7)⟩, ⟨some 47, (some (45, false)), .mv (.t 46)⟩, ⟨some 48, (some (47, true)), .fa 1 (.t 1)⟩, ⟨some 49, (some (47, true)), .ld none (.t 48)⟩, ⟨some 50, (some (47, true)), .callc n_lex_Name [.t 49]⟩, ⟨some 51, (some (47, true)), .notb (.t 50)⟩, ⟨some 52, (some (45, false)), .pick (.t 47) (.t 51) kF⟩, dO 53 (.pick (.t 45) kT (.t 52)), dO 28 (.tk (.t 53))])
 (.cond (.t 28)
 (.seq (.reg [dO 2 (.tk kF)])
 (.ret))
 (.seq (.reg [dO 55 (.fa 2 (.t 1)), dO 56 (.ld none (.t 55)), dO 57 (.ic .neq (.t 56) (kI 0)), dO 58 (.mv (.t 57)), ⟨some 59, (some (58, true)), .fa 0 (.t 1)⟩, ⟨some 60, (some (58, true)), .ld none (.t 59)⟩, ⟨some 61, (some (58, true)), .ic .neq (.t 60) (kI 14)⟩, dO 62 (.pick (.t 58) (.t 61) kF), dO 63 (.mv (.t 62)), ⟨some 64, (some (63, false)), .fa 2 (.t 1)⟩, ⟨some 65, (some (63, false)), .ld none (.t 64)⟩, ⟨some 66, (some (63, false)), .ic .lss (.t 65) (kI 0)⟩, dO 67 (.pick (.t 63) kT (.t 66)), dO 68 (.mv (.t 67)), ⟨some 69, (some (68, false)), .fa 2 (.t 1)⟩, ⟨some 70, (some (68, false)), .ld none (.t 69)⟩, ⟨some 71, (some (68, false)), .ic .gtr (.t 70) (kI 16)⟩, dO 72 (.pick (.t 68) kT (.t 71)), dO 54 (.tk (.t 72))])
 (.cond (.t 54)
 (.seq (.reg [dO 2 (.tk kF)])
 (.ret))
 (.seq (.reg [dO 74 (.fa 6 (.t 1)), dO 75 (.ld none (.t 74)), dO 76 (.mv (.t 75)), ⟨some 77, (some (76, true)), .fa 0 (.t 1)⟩, ⟨some 78, (some (76, true)), .ld none (.t 77)⟩, ⟨some 79, (some (76, true)), .ic .neq (.t 78) (kI 16)⟩, dO 80 (.pick (.t 76) (.t 79) kF), dO 81 (.mv (.t 80)), ⟨some 82, (some (81, false)), .mv (.t 5)⟩, ⟨some 83, (some (81, false)), .notb (.t 82)⟩, ⟨some 84, (some (81, false)), .mv (.t 83)⟩, ⟨some 85, (some (84, true)), .fa 4 (.t 1)⟩, ⟨some 86, (some (84, true)), .ld none (.t 85)⟩, ⟨some 87, (some (84, true)), .len false (.t 86)⟩, ⟨some 88, (some (84, true)), .ic .gtr (.t 87) (kI 0)⟩, ⟨some 89, (some (81, false)), .pick (.t 84) (.t 88) kF⟩, dO 90 (.pick (.t 81) kT (.t 89)), dO 91 (.mv (.t 90)), ⟨some 92, (some (91, false)), .mv (.t 6)⟩, ⟨some 93, (some (91, false)), .notb (.t 92)⟩, ⟨some 94, (some (91, false)), .mv (.t 93)⟩, ⟨some 95, (some (94, true)), .fa 5 (.t 1)⟩, ⟨some 96, (some (94, true)), .ld none (.t 95)⟩, ⟨some 97, (some (94, true)), .len false (.t 96)⟩, ⟨some 98, (some (94, true)), .ic .gtr (.t 97) (kI 0)⟩, ⟨some 99, (some (91, false)), .pick (.t 94) (.t 98) kF⟩, dO 100 (.pick (.t 91) kT (.t 99)), dO 73 (.tk (.t 100))])
 (.cond (.t 73)
 (.seq (.reg [dO 2 (.tk kF)])
 (.ret))
 (.skip))))))))
 (.seq (.reg [dO 101 (.fa 3 (.t 1)), dO 102 (.ld none (.t 101)), dO 103 (.callc n_sC_Expr_api_Expr [.t 102, (.c (.fn (.func n_tree_shape_1) [] []))]), dO 104 (.notb (.t 103)), dO 2 (.tk (.t 104))])
 (.ret))))))) }
def c_tree_stmt_1 : AFunc :=
 { np := 1, res := [.t 2], body := (
 .seq (.reg [dO 1 (.box (.t 0)), dO 2 (.tk kF)])
 (.seq (.reg [dO 3 (.fa 0 (.t 1)), dO 4 (.ld none (.t 3)), dO 5 (.ic .neq (.t 4) (kI 3)), dO 2 (.tk (.t 5))])
 (.ret))) }
def c_types_is : AFunc :=
 { np := 2, res := [.t 4, .t 5], body := (
 .seq (.reg [dO 4 (.tk (kI 0)), dO 5 (.tk (kI 0))])
 (.seq (.seq (.reg [dO 6 (.mv (.t 0)), dO 7 (.notb (.t 6))])
 (.cond (.t 7)
 (.seq (.reg [dO 4 (.tk (kI 0)), dO 5 (.tk (kI 11))])
 (.ret))
 (.skip)))
 (.seq (.reg [dO 8 (.mv (.t 1)), dO 4 (.tk (.t 8)), dO 5 (.tk (kI 0))])
 (.ret)))) }
def c_tree_Exprs : AFunc :=
 { np := 1, res := [.t 2, .t 3], body := (
 .seq (.reg [dO 2 (.tk (kI 0)), dO 3 (.tk kF)])
 (.seq (.seq (.reg [dO 4 (.mv (.t 0))])
 (.block 0 (.seq (.seq (.reg [dO 6 (.ic .eql (.t 4) (kI 11)), dO 5 (.tk (.t 6))])
 (.cond (.t 5)
 (.skip)
 (.seq (.reg [dO 7 (.ic .eql (.t 4) (kI 14)), dO 5 (.tk (.t 7))])
 (.cond (.t 5)
 (.skip)
 (.reg [dO 8 (.ic .eql (.t 4) (kI 15)), dO 5 (.tk (.t 8))])))))
 (.cond (.t 5)
 (.seq (.reg [dO 2 (.tk (kI 0)), dO 3 (.tk kT)])
 (.ret))
 (.seq (.seq (.reg [dO 10 (.ic .eql (.t 4) (kI 4)), dO 9 (.tk (.t 10))])
 (.cond (.t 9)
 (.skip)
 (.seq (.reg [dO 11 (.ic .eql (.t 4) (kI 5)), dO 9 (.tk (.t 11))])
 (.cond (.t 9)
 (.skip)
 (.reg [dO 12 (.ic .eql (.t 4) (kI 6)), dO 9 (.tk (.t 12))])))))
 (.cond (.t 9)
 (.seq (.reg [dO 2 (.tk (kI 2)), dO 3 (.tk kT)])
 (.ret))
 (.seq (.reg [dO 14 (.ic .eql (.t 4) (kI 3)), dO 13 (.tk (.t 14))])
 (.cond (.t 13)
 (.seq (.reg [dO 2 (.tk (kI 3)), dO 3 (.tk kT)])
 (.ret))
 (.skip)))))))))
 (.seq (.seq (.reg [dO 15 (.mv (.t 0)), dO 16 (.ic .lss (.t 15) (kI 1)), dO 17 (.mv (.t 16)), ⟨some 18, (some (17, false)), .mv (.t 0)⟩, ⟨some 19, (some (17, false)), .ic .gtr (.t 18) (kI 18)⟩, dO 20 (.pick (.t 17) kT (.t 19))])
 (.cond (.t 20)
 (.seq (.reg [dO 2 (.tk (kI 0)), dO 3 (.tk kF)])
 (.ret))
 (.skip)))
 (.seq (.reg [dO 2 (.tk (kI 1)), dO 3 (.tk kT)])
 (.ret))))) }
def c_tree_blocks : AFunc :=
 { np := 1, res := [.t 2, .t 3], body := (
 .seq (.reg [dO 2 (.tk kF), dO 3 (.tk kF)])
 (.seq (.reg [dO 4 (.mv (.t 0)), dO 5 (.ic .eql (.t 4) (kI 13)), dO 6 (.mv (.t 5)), ⟨some 7, (some (6, false)), .mv (.t 0)⟩, ⟨some 8, (some (6, false)), .ic .eql (.t 7) (kI 14)⟩, dO 9 (.pick (.t 6) kT (.t 8)), dO 10 (.mv (.t 9)), ⟨some 11, (some (10, false)), .mv (.t 0)⟩, ⟨some 12, (some (10, false)), .ic .eql (.t 11) (kI 16)⟩, dO 13 (.pick (.t 10) kT (.t 12)), dO 14 (.mv (.t 0)), dO 15 (.ic .eql (.t 14) (kI 13)), dO 2 (.tk (.t 13)), dO 3 (.tk (.t 15))])
 (.ret))) }
def c_tree_shape_1 : AFunc :=
 { np := 1, res := [.t 2], body := (
 .seq (.reg [dO 1 (.box (.t 0)), dO 2 (.tk kF)])
 (.seq (.reg [dO 3 (.ld (some 4) (.t 1)), dO 4 (.callc n_tree_expr [.t 3, kI 8]), dO 5 (.notb (.t 4)), dO 2 (.tk (.t 5))])
 (.ret))) }
def b_types_Check_w_0 : AC :=
 .seq (.reg [dO 20 (.ic .lss (.t 19) (.t 18))])
 (.seq (.cond (.t 20)
 (.skip)
 (.exit 0))
 (.seq (.block 1 (.seq (.reg [dO 21 (.ixa 2 none (.t 17) (.t 19)), dO 22 (.ld (some 2) (.t 21)), dO 5 (.alloc [.str [], .own 7 []]), ⟨none, none, .st 2 (.t 5) (.t 22)⟩])
 (.seq (.seq (.drw [[], [], [], [], [], [], [], []] [dO 23 (.mv (.t 3)), dO 24 (.nck (.t 23)), dO 25 (.fa 1 (.t 24)), dO 26 (.ld none (.t 25)), dO 27 (.fa 0 (.t 5)), dO 28 (.ld none (.t 27)), dO 29 (.mlk false (.int .i64 0) false [.str] (.t 26) (.t 28)), dO 30 (.ic .gtr (.t 29) (kI 0))])
 (.cond (.t 30)
 (.reg [dO 31 (.mv (.t 3)), dO 32 (.mv (.t 3)), dO 33 (.nck (.t 32)), dO 34 (.fa 2 (.t 33)), dO 35 (.ld none (.t 34)), dO 36 (.call n_ptypes_checker_fail [.t 31, kI 9, .t 35])])
 (.skip)))
 (.seq (.reg [dO 37 (.mv (.t 3)), dO 38 (.fa 1 (.t 5)), dO 39 (.ld none (.t 38)), dO 40 (.callk n_ptypes_checker_block [.t 37, .t 39])])
 (.drw [[], [], [], [], [], [], [], [], []] [dO 41 (.mv (.t 3)), dO 42 (.nck (.t 41)), dO 43 (.fa 1 (.t 42)), dO 44 (.ld none (.t 43)), dO 45 (.fa 0 (.t 5)), dO 46 (.ld none (.t 45)), dO 47 (.mlk false (.int .i64 0) false [.str] (.t 44) (.t 46)), dO 48 (.ia .add .i64 (.t 47) (kI 1)), ⟨none, none, .mst false [.str] (.t 44) (.t 46) (.t 48)⟩])))))
 (.reg [dO 49 (.ia .add .i64 (.t 19) (kI 1)), dO 19 (.mv (.t 49))])))
def l_types_Check_w_0 : AC :=
 .loop [1, 2, 3, 17, 18, 19] b_types_Check_w_0
def b_types_Check_w_1 : AC :=
 .seq (.reg [dO 63 (.ic .lss (.t 62) (.t 61))])
 (.seq (.cond (.t 63)
 (.skip)
 (.exit 2))
 (.seq (.block 3 (.seq (.reg [dO 64 (.ixa 5 none (.t 60) (.t 62)), dO 65 (.ld (some 5) (.t 64)), dO 8 (.alloc [.str [], iZ, iZ, .str [], .own 4 []]), ⟨none, none, .st 5 (.t 8) (.t 65)⟩])
 (.seq (.seq (.reg [dO 66 (.mv (.t 6)), dO 67 (.fa 0 (.t 8)), dO 68 (.ld none (.t 67)), dO 69 (.mlk false (.int .i64 0) false [.str] (.t 66) (.t 68)), dO 70 (.ia .add .i64 (.t 69) (kI 1)), ⟨none, none, .mst false [.str] (.t 66) (.t 68) (.t 70)⟩])
 (.seq (.reg [dO 71 (.mv (.t 6)), dO 72 (.fa 0 (.t 8)), dO 73 (.ld none (.t 72)), dO 74 (.mlk false (.int .i64 0) false [.str] (.t 71) (.t 73)), dO 75 (.ic .gtr (.t 74) (kI 1))])
 (.cond (.t 75)
 (.reg [dO 76 (.mv (.t 3)), dO 77 (.mv (.t 3)), dO 78 (.nck (.t 77)), dO 79 (.fa 2 (.t 78)), dO 80 (.ld none (.t 79)), dO 81 (.call n_ptypes_checker_fail [.t 76, kI 9, .t 80])])
 (.skip))))
 (.reg [dO 82 (.mv (.t 3)), dO 83 (.fa 1 (.t 8)), dO 84 (.ld (some 4) (.t 83)), dO 85 (.bsl 4 [iZ, iZ, .str [], .sl 4 []] 1 [(0, 4, .t 84)] false), dO 86 (.bld [iZ, .str [], iZ, .sl 4 [], .sl 7 [], .sl 7 [], .bool false] [(0, 1, kI 18), (3, 1, .t 85)]), dO 87 (.bsl 7 [iZ, .str [], iZ, .sl 4 [], .sl 7 [], .sl 7 [], .bool false] 1 [(0, 7, .t 86)] false), dO 88 (.callk n_ptypes_checker_block [.t 82, .t 87])]))))
 (.reg [dO 89 (.ia .add .i64 (.t 62) (kI 1)), dO 62 (.mv (.t 89))])))
def l_types_Check_w_1 : AC :=
 .loop [2, 3, 6, 60, 61, 62] b_types_Check_w_1
def r_types_Check_w_0 : AC :=
 .seq (.reg [dO 90 (.mv (.t 3)), dO 91 (.nck (.t 90)), dO 92 (.fa 3 (.t 91)), dO 93 (.ld (some 2) (.t 92)), ⟨none, none, .st 2 (.t 2) (.t 93)⟩])
 (.ret)
def r_types_Check_w_1 : AC :=
 .seq (.reg [dO 50 (.mv (.t 3)), dO 51 (.fa 1 (.t 1)), dO 52 (.ld none (.t 51)), dO 53 (.callk n_ptypes_checker_block [.t 50, .t 52])])
 (.seq (.reg [dO 54 (.mv (.t 3)), dO 55 (.fa 2 (.t 1)), dO 56 (.ld none (.t 55)), dO 57 (.callk n_ptypes_checker_block [.t 54, .t 56])])
 (.seq (.reg [dO 58 (.mkm false [.str]), dO 6 (.tk (.t 58))])
 (.seq (.seq (.reg [dO 59 (.fa 3 (.t 1)), dO 60 (.ld none (.t 59)), dO 61 (.len false (.t 60)), dO 62 (.mv (kI 0))])
 (.block 2 (l_types_Check_w_1))) r_types_Check_w_0)))
def c_types_Check_w : AFunc :=
 { np := 1, res := [.cell 2 (some 2)], body := (
 .seq (.reg [dO 1 (.box (.t 0)), dO 2 (.alloc [iZ, iZ])])
 (.seq (.seq (.reg [dO 9 (.ld (some 4) (.t 1)), dO 10 (.callc n_tree_Right [.t 9]), dO 11 (.notb (.t 10))])
 (.cond (.t 11)
 (.seq (.reg [dO 12 (.bld [iZ, iZ] [(0, 1, kI 8)]), ⟨none, none, .st 2 (.t 2) (.t 12)⟩])
 (.ret))
 (.skip)))
 (.seq (.reg [dO 13 (.mkm false [.str]), dO 14 (.bld [.nils 1, .nilm, iZ, iZ, iZ] [(1, 1, .t 13)]), dO 15 (.box (.t 14)), dO 3 (.tk (.t 15))])
 (.seq (.seq (.reg [dO 16 (.fa 0 (.t 1)), dO 17 (.ld none (.t 16)), dO 18 (.len false (.t 17)), dO 19 (.mv (kI 0))])
 (.block 0 (l_types_Check_w_0))) r_types_Check_w_1)))) }
def b_ptypes_checker_block_w_0 : AC :=
 .seq (.reg [dO 21 (.ic .lss (.t 20) (.t 19))])
 (.seq (.cond (.t 21)
 (.skip)
 (.exit 0))
 (.seq (.block 1 (.seq (.reg [dO 22 (.ixa 7 none (.t 18) (.t 20)), dO 23 (.ld (some 7) (.t 22)), dO 5 (.alloc [iZ, .str [], iZ, .own 4 [], .own 7 [], .own 7 [], .bool false]), ⟨none, none, .st 7 (.t 5) (.t 23)⟩])
 (.seq (.reg [dO 24 (.mv (.t 0)), dO 25 (.nck (.t 24)), dO 26 (.fa 2 (.t 25)), dO 27 (.ld none (.t 26)), dO 6 (.tk (.t 27))])
 (.seq (.reg [dO 28 (.mv (.t 0)), dO 29 (.nck (.t 28)), dO 30 (.fa 2 (.t 29)), dO 31 (.ld none (.t 30)), dO 32 (.ia .add .i64 (.t 31) (kI 1)), dO 33 (.nck (.t 28)), dO 34 (.fa 2 (.t 33)), ⟨none, none, .st 1 (.t 34) (.t 32)⟩])
 (.seq (.reg [dO 35 (.mv (.t 0)), dO 36 (.ld (some 7) (.t 5)), dO 37 (.mv (.t 6)), dO 38 (.call n_ptypes_checker_exprs [.t 35, .t 36, .t 37]), dO 7 (.tk (.t 38))])
 (.seq (.seq (.reg [dO 39 (.fa 0 (.t 5)), dO 40 (.ld none (.t 39))])
 (.block 2 (.seq (.reg [dO 42 (.ic .eql (.t 40) (kI 12)), dO 41 (.tk (.t 42))])
 (.cond (.t 41)
 (.reg [dO 43 (.mv (.t 0)), dO 44 (.fa 1 (.t 5)), dO 45 (.ld none (.t 44)), dO 46 (.mv (.t 7)), dO 47 (.mv (.t 6)), dO 48 (.call n_ptypes_checker_let [.t 43, .t 45, .t 46, .t 47])])
 (.seq (.reg [dO 50 (.ic .eql (.t 40) (kI 15)), dO 49 (.tk (.t 50))])
 (.cond (.t 49)
 (.seq (.drw [[], [], [], [], [], [], [], []] [dO 51 (.mv (.t 0)), dO 52 (.nck (.t 51)), dO 53 (.fa 1 (.t 52)), dO 54 (.ld none (.t 53)), dO 55 (.fa 1 (.t 5)), dO 56 (.ld none (.t 55)), dO 57 (.mlk false (.int .i64 0) false [.str] (.t 54) (.t 56)), dO 58 (.ic .eql (.t 57) (kI 0))])
 (.cond (.t 58)
 (.reg [dO 59 (.mv (.t 0)), dO 60 (.mv (.t 6)), dO 61 (.call n_ptypes_checker_fail [.t 59, kI 9, .t 60])])
 (.skip)))
 (.skip)))))))
 (.seq (.reg [dO 62 (.mv (.t 0)), dO 63 (.fa 4 (.t 5)), dO 64 (.ld none (.t 63)), dO 65 (.callk n_ptypes_checker_block [.t 62, .t 64])])
 (.reg [dO 66 (.mv (.t 0)), dO 67 (.fa 5 (.t 5)), dO 68 (.ld none (.t 67)), dO 69 (.callk n_ptypes_checker_block [.t 66, .t 68])]))))))))
 (.reg [dO 70 (.ia .add .i64 (.t 20) (kI 1)), dO 20 (.mv (.t 70))])))
def l_ptypes_checker_block_w_0 : AC :=
 .loop [0, 18, 19, 20] b_ptypes_checker_block_w_0
def r_ptypes_checker_block_w_0 : AC :=
 .drw [[], [], [], [], [], [], [], [], [], [], [], [], [], [], []] [dO 71 (.mv (.t 0)), dO 72 (.mv (.t 0)), dO 73 (.nck (.t 72)), dO 74 (.fa 0 (.t 73)), dO 75 (.ld none (.t 74)), dO 76 (.mv (.t 0)), dO 77 (.nck (.t 76)), dO 78 (.fa 0 (.t 77)), dO 79 (.ld none (.t 78)), dO 80 (.len false (.t 79)), dO 81 (.ia .sub .i64 (.t 80) (kI 1)), dO 82 (.sls 1 (.t 75) none (some (.t 81)) none), dO 83 (.nck (.t 71)), dO 84 (.fa 0 (.t 83)), ⟨none, none, .stw 1 (.t 84) (.t 82)⟩]
def c_ptypes_checker_block_w : AFunc :=
 { np := 2, res := [], body := (
 .seq (.reg [dO 8 (.mv (.t 0)), dO 9 (.mv (.t 0)), dO 10 (.nck (.t 9)), dO 11 (.fa 0 (.t 10)), dO 12 (.ldm (.t 11)), dO 13 (.mkm false [.str]), dO 14 (.bsl 1 [.nilm] 1 [(0, 1, .t 13)] true), dO 15 (.apm 1 8 (.t 12) (.t 14)), dO 16 (.nck (.t 8)), dO 17 (.fa 0 (.t 16)), ⟨none, none, .stw 1 (.t 17) (.t 15)⟩])
 (.seq (.seq (.reg [dO 18 (.mv (.t 1)), dO 19 (.len false (.t 18)), dO 20 (.mv (kI 0))])
 (.block 0 (l_ptypes_checker_block_w_0))) r_ptypes_checker_block_w_0)) }
def tbl : Tbl := Tab.get [(3, c_flotsamlaw20_BoundTells), (4, c_l16_Small), (5, c_flotsamlaw20_knows), (6, c_bound_Steps), (7, c_r20_Steps), (8, c_bound_Calls), (9, c_r20_Calls), (10, c_flotsamlaw04_Ints), (11, c_l15_Fault), (12, c_bound_Check), (13, c_r20_Check), (14, c_r16_Size), (15, c_bound_fine), (16, c_bound_known_steps), (17, c_r19_Check), (18, c_r20_steps), (19, c_bound_known_deep), (20, c_r20_calls), (22, c_tree_All), (23, c_tree_Count), (24, c_r16_Count), (25, c_r16_block), (26, c_r16_expr), (27, c_r16_Right), (28, c_r19_has), (29, c_r19_block), (30, c_r19_Type), (31, c_tree_Right), (32, c_ptypes_checker_fail), (34, c_tree_parts), (35, c_tree_walk), (36, c_tree_cloned), (37, c_r16_All), (38, c_r15_Name), (39, c_r16_Block), (40, c_r16_Expr), (41, c_r19_stmt), (42, c_r19_kind), (43, c_r19_want), (44, c_tree_Right_1), (45, c_lex_Name), (46, c_tree_Right_2), (47, c_tree_expr), (48, c_tree_Right_3), (49, c_tree_block), (50, c_sC_Proc_api_Proc), (51, c_sC_Oracle_api_Oracle), (52, c_sC_Stmt_api_Stmt), (53, c_ptypes_checker_exprs), (54, c_ptypes_checker_let), (55, c_tree_walk_1), (56, c_tree_each_api_Expr), (57, c_tree_clonedExpr), (58, c_tree_each_api_Stmt), (59, c_r16_list), (60, c_r15_letter), (61, c_r15_Key), (62, c_r15_inner), (63, c_r16_Stmt), (64, c_r16_Parts), (65, c_r19_wants), (66, c_lex_begins), (67, c_lex_letter), (69, c_lex_inner), (70, c_lex_Key), (71, c_tree_Parts), (72, c_sC_Expr_api_Expr), (73, c_tree_expr_1), (74, c_sC_Stmt_api_Stmt_x), (75, c_tree_block_1), (76, c_tree_stmt), (77, c_sI_Proc_api_Proc), (78, c_sI_Oracle_api_Oracle), (79, c_sI_Stmt_api_Stmt), (80, c_types_of), (81, c_types_scope_kind), (82, c_types_wants), (83, c_r15_digit), (84, c_r16_Exprs), (87, c_lex_digit), (89, c_sI_Expr_api_Expr), (90, c_sI_Stmt_api_Stmt_x), (91, c_tree_shape), (92, c_tree_stmt_1), (93, c_types_is), (96, c_tree_Exprs), (97, c_tree_blocks), (98, c_tree_shape_1), (3000021, c_types_Check_w), (3000033, c_ptypes_checker_block_w), (2002200, ⟨0, .seq a_tree_All_0 y_tree_All_0, []⟩), (2002300, ⟨0, .seq a_tree_Count_0 y_tree_Count_0, []⟩), (2005500, ⟨0, .seq a_tree_walk_1_0 y_tree_walk_1_0, []⟩)]
theorem t_flotsamlaw20_BoundTells : tbl n_flotsamlaw20_BoundTells = some c_flotsamlaw20_BoundTells := by kernel_rfl
theorem t_l16_Small : tbl n_l16_Small = some c_l16_Small := by kernel_rfl
theorem t_flotsamlaw20_knows : tbl n_flotsamlaw20_knows = some c_flotsamlaw20_knows := by kernel_rfl
theorem t_bound_Steps : tbl n_bound_Steps = some c_bound_Steps := by kernel_rfl
theorem t_r20_Steps : tbl n_r20_Steps = some c_r20_Steps := by kernel_rfl
theorem t_bound_Calls : tbl n_bound_Calls = some c_bound_Calls := by kernel_rfl
theorem t_r20_Calls : tbl n_r20_Calls = some c_r20_Calls := by kernel_rfl
theorem t_flotsamlaw04_Ints : tbl n_flotsamlaw04_Ints = some c_flotsamlaw04_Ints := by kernel_rfl
theorem t_l15_Fault : tbl n_l15_Fault = some c_l15_Fault := by kernel_rfl
theorem t_bound_Check : tbl n_bound_Check = some c_bound_Check := by kernel_rfl
theorem t_r20_Check : tbl n_r20_Check = some c_r20_Check := by kernel_rfl
theorem t_r16_Size : tbl n_r16_Size = some c_r16_Size := by kernel_rfl
theorem t_bound_fine : tbl n_bound_fine = some c_bound_fine := by kernel_rfl
theorem t_bound_known_steps : tbl n_bound_known_steps = some c_bound_known_steps := by kernel_rfl
theorem t_r19_Check : tbl n_r19_Check = some c_r19_Check := by kernel_rfl
theorem t_r20_steps : tbl n_r20_steps = some c_r20_steps := by kernel_rfl
theorem t_bound_known_deep : tbl n_bound_known_deep = some c_bound_known_deep := by kernel_rfl
theorem t_r20_calls : tbl n_r20_calls = some c_r20_calls := by kernel_rfl
theorem t_tree_All : tbl n_tree_All = some c_tree_All := by kernel_rfl
theorem t_tree_Count : tbl n_tree_Count = some c_tree_Count := by kernel_rfl
theorem t_r16_Count : tbl n_r16_Count = some c_r16_Count := by kernel_rfl
theorem t_r16_block : tbl n_r16_block = some c_r16_block := by kernel_rfl
theorem t_r16_expr : tbl n_r16_expr = some c_r16_expr := by kernel_rfl
theorem t_r16_Right : tbl n_r16_Right = some c_r16_Right := by kernel_rfl
theorem t_r19_has : tbl n_r19_has = some c_r19_has := by kernel_rfl
theorem t_r19_block : tbl n_r19_block = some c_r19_block := by kernel_rfl
theorem t_r19_Type : tbl n_r19_Type = some c_r19_Type := by kernel_rfl
theorem t_tree_Right : tbl n_tree_Right = some c_tree_Right := by kernel_rfl
theorem t_ptypes_checker_fail : tbl n_ptypes_checker_fail = some c_ptypes_checker_fail := by kernel_rfl
theorem t_tree_parts : tbl n_tree_parts = some c_tree_parts := by kernel_rfl
theorem t_tree_walk : tbl n_tree_walk = some c_tree_walk := by kernel_rfl
theorem t_tree_cloned : tbl n_tree_cloned = some c_tree_cloned := by kernel_rfl
theorem t_r16_All : tbl n_r16_All = some c_r16_All := by kernel_rfl
theorem t_r15_Name : tbl n_r15_Name = some c_r15_Name := by kernel_rfl
theorem t_r16_Block : tbl n_r16_Block = some c_r16_Block := by kernel_rfl
theorem t_r16_Expr : tbl n_r16_Expr = some c_r16_Expr := by kernel_rfl
theorem t_r19_stmt : tbl n_r19_stmt = some c_r19_stmt := by kernel_rfl
theorem t_r19_kind : tbl n_r19_kind = some c_r19_kind := by kernel_rfl
theorem t_r19_want : tbl n_r19_want = some c_r19_want := by kernel_rfl
theorem t_tree_Right_1 : tbl n_tree_Right_1 = some c_tree_Right_1 := by kernel_rfl
theorem t_lex_Name : tbl n_lex_Name = some c_lex_Name := by kernel_rfl
theorem t_tree_Right_2 : tbl n_tree_Right_2 = some c_tree_Right_2 := by kernel_rfl
theorem t_tree_expr : tbl n_tree_expr = some c_tree_expr := by kernel_rfl
theorem t_tree_Right_3 : tbl n_tree_Right_3 = some c_tree_Right_3 := by kernel_rfl
theorem t_tree_block : tbl n_tree_block = some c_tree_block := by kernel_rfl
theorem t_sC_Proc_api_Proc : tbl n_sC_Proc_api_Proc = some c_sC_Proc_api_Proc := by kernel_rfl
theorem t_sC_Oracle_api_Oracle : tbl n_sC_Oracle_api_Oracle = some c_sC_Oracle_api_Oracle := by kernel_rfl
theorem t_sC_Stmt_api_Stmt : tbl n_sC_Stmt_api_Stmt = some c_sC_Stmt_api_Stmt := by kernel_rfl
theorem t_ptypes_checker_exprs : tbl n_ptypes_checker_exprs = some c_ptypes_checker_exprs := by kernel_rfl
theorem t_ptypes_checker_let : tbl n_ptypes_checker_let = some c_ptypes_checker_let := by kernel_rfl
theorem t_tree_walk_1 : tbl n_tree_walk_1 = some c_tree_walk_1 := by kernel_rfl
theorem t_tree_each_api_Expr : tbl n_tree_each_api_Expr = some c_tree_each_api_Expr := by kernel_rfl
theorem t_tree_clonedExpr : tbl n_tree_clonedExpr = some c_tree_clonedExpr := by kernel_rfl
theorem t_tree_each_api_Stmt : tbl n_tree_each_api_Stmt = some c_tree_each_api_Stmt := by kernel_rfl
theorem t_r16_list : tbl n_r16_list = some c_r16_list := by kernel_rfl
theorem t_r15_letter : tbl n_r15_letter = some c_r15_letter := by kernel_rfl
theorem t_r15_Key : tbl n_r15_Key = some c_r15_Key := by kernel_rfl
theorem t_r15_inner : tbl n_r15_inner = some c_r15_inner := by kernel_rfl
theorem t_r16_Stmt : tbl n_r16_Stmt = some c_r16_Stmt := by kernel_rfl
theorem t_r16_Parts : tbl n_r16_Parts = some c_r16_Parts := by kernel_rfl
theorem t_r19_wants : tbl n_r19_wants = some c_r19_wants := by kernel_rfl
theorem t_lex_begins : tbl n_lex_begins = some c_lex_begins := by kernel_rfl
theorem t_lex_letter : tbl n_lex_letter = some c_lex_letter := by kernel_rfl
theorem t_lex_inner : tbl n_lex_inner = some c_lex_inner := by kernel_rfl
theorem t_lex_Key : tbl n_lex_Key = some c_lex_Key := by kernel_rfl
theorem t_tree_Parts : tbl n_tree_Parts = some c_tree_Parts := by kernel_rfl
theorem t_sC_Expr_api_Expr : tbl n_sC_Expr_api_Expr = some c_sC_Expr_api_Expr := by kernel_rfl
theorem t_tree_expr_1 : tbl n_tree_expr_1 = some c_tree_expr_1 := by kernel_rfl
theorem t_sC_Stmt_api_Stmt_x : tbl n_sC_Stmt_api_Stmt_x = some c_sC_Stmt_api_Stmt_x := by kernel_rfl
theorem t_tree_block_1 : tbl n_tree_block_1 = some c_tree_block_1 := by kernel_rfl
theorem t_tree_stmt : tbl n_tree_stmt = some c_tree_stmt := by kernel_rfl
theorem t_sI_Proc_api_Proc : tbl n_sI_Proc_api_Proc = some c_sI_Proc_api_Proc := by kernel_rfl
theorem t_sI_Oracle_api_Oracle : tbl n_sI_Oracle_api_Oracle = some c_sI_Oracle_api_Oracle := by kernel_rfl
theorem t_sI_Stmt_api_Stmt : tbl n_sI_Stmt_api_Stmt = some c_sI_Stmt_api_Stmt := by kernel_rfl
theorem t_types_of : tbl n_types_of = some c_types_of := by kernel_rfl
theorem t_types_scope_kind : tbl n_types_scope_kind = some c_types_scope_kind := by kernel_rfl
theorem t_types_wants : tbl n_types_wants = some c_types_wants := by kernel_rfl
theorem t_r15_digit : tbl n_r15_digit = some c_r15_digit := by kernel_rfl
theorem t_r16_Exprs : tbl n_r16_Exprs = some c_r16_Exprs := by kernel_rfl
theorem t_lex_digit : tbl n_lex_digit = some c_lex_digit := by kernel_rfl
theorem t_sI_Expr_api_Expr : tbl n_sI_Expr_api_Expr = some c_sI_Expr_api_Expr := by kernel_rfl
theorem t_sI_Stmt_api_Stmt_x : tbl n_sI_Stmt_api_Stmt_x = some c_sI_Stmt_api_Stmt_x := by kernel_rfl
theorem t_tree_shape : tbl n_tree_shape = some c_tree_shape := by kernel_rfl
theorem t_tree_stmt_1 : tbl n_tree_stmt_1 = some c_tree_stmt_1 := by kernel_rfl
theorem t_types_is : tbl n_types_is = some c_types_is := by kernel_rfl
theorem t_tree_Exprs : tbl n_tree_Exprs = some c_tree_Exprs := by kernel_rfl
theorem t_tree_blocks : tbl n_tree_blocks = some c_tree_blocks := by kernel_rfl
theorem t_tree_shape_1 : tbl n_tree_shape_1 = some c_tree_shape_1 := by kernel_rfl
theorem tw_types_Check : tbl (wTab n_types_Check) = some c_types_Check_w := by kernel_rfl
theorem tw_ptypes_checker_block : tbl (wTab n_ptypes_checker_block) = some c_ptypes_checker_block_w := by kernel_rfl
theorem u_tree_All_0 : tbl q_tree_All_0 = some ⟨0, .seq a_tree_All_0 y_tree_All_0, []⟩ := by kernel_rfl
theorem u_tree_Count_0 : tbl q_tree_Count_0 = some ⟨0, .seq a_tree_Count_0 y_tree_Count_0, []⟩ := by kernel_rfl
theorem u_tree_walk_1_0 : tbl q_tree_walk_1_0 = some ⟨0, .seq a_tree_walk_1_0 y_tree_walk_1_0, []⟩ := by kernel_rfl
def noExt : Ext := fun k => if k = n_strings_Contains then some (xContains) else if k = n_lex_run then some (xRun n_lex_letter n_lex_digit n_lex_inner) else none
@[simp] theorem lt_flotsamlaw20_BoundTells : n_flotsamlaw20_BoundTells < yBase := ltB rfl
@[simp] theorem ltAll : n_l16_Small < yBase ∧ n_flotsamlaw20_knows < yBase ∧ n_bound_Steps < yBase ∧ n_r20_Steps < yBase ∧ n_bound_Calls < yBase ∧ n_r20_Calls < yBase ∧ n_flotsamlaw04_Ints < yBase ∧ n_l15_Fault < yBase ∧ n_bound_Check < yBase ∧ n_r20_Check < yBase ∧ n_r16_Size < yBase ∧ n_bound_fine < yBase ∧ n_bound_known_steps < yBase ∧ n_r19_Check < yBase ∧ n_r20_steps < yBase ∧ n_bound_known_deep < yBase ∧ n_r20_calls < yBase ∧ n_types_Check < yBase ∧ n_tree_All < yBase ∧ n_tree_Count < yBase ∧ n_r16_Count < yBase ∧ n_r16_block < yBase ∧ n_r16_expr < yBase ∧ n_r16_Right < yBase ∧ n_r19_has < yBase ∧ n_r19_block < yBase ∧ n_r19_Type < yBase ∧ n_tree_Right < yBase ∧ n_ptypes_checker_fail < yBase ∧ n_ptypes_checker_block < yBase ∧ n_tree_parts < yBase ∧ n_tree_walk < yBase ∧ n_tree_cloned < yBase ∧ n_r16_All < yBase ∧ n_r15_Name < yBase ∧ n_r16_Block < yBase ∧ n_r16_Expr < yBase ∧ n_r19_stmt < yBase ∧ n_r19_kind < yBase ∧ n_r19_want < yBase ∧ n_lex_Name < yBase ∧ n_tree_expr < yBase ∧ n_tree_block < yBase ∧ n_sC_Proc_api_Proc < yBase ∧ n_sC_Oracle_api_Oracle < yBase ∧ n_sC_Stmt_api_Stmt < yBase ∧ n_ptypes_checker_exprs < yBase ∧ n_ptypes_checker_let < yBase ∧ n_tree_walk_1 < yBase ∧ n_tree_each_api_Expr < yBase ∧ n_tree_clonedExpr < yBase ∧ n_tree_each_api_Stmt < yBase ∧ n_r16_list < yBase ∧ n_r15_letter < yBase ∧ n_r15_Key < yBase ∧ n_r15_inner < yBase ∧ n_r16_Stmt < yBase ∧ n_r16_Parts < yBase ∧ n_r19_wants < yBase ∧ n_lex_begins < yBase ∧ n_lex_Key < yBase ∧ n_tree_Parts < yBase ∧ n_sC_Expr_api_Expr < yBase ∧ n_sC_Stmt_api_Stmt_x < yBase ∧ n_tree_stmt < yBase ∧ n_sI_Proc_api_Proc < yBase ∧ n_sI_Oracle_api_Oracle < yBase ∧ n_sI_Stmt_api_Stmt < yBase ∧ n_types_of < yBase ∧ n_types_wants < yBase ∧ n_r15_digit < yBase ∧ n_r16_Exprs < yBase ∧ n_sI_Expr_api_Expr < yBase ∧ n_sI_Stmt_api_Stmt_x < yBase ∧ n_tree_shape < yBase ∧ n_types_is < yBase ∧ n_tree_Exprs < yBase ∧ n_tree_blocks < yBase := by and_intros <;> exact ltB rfl
@[simp] theorem lt_tree_Right_1 : n_tree_Right_1 < yBase := ltB rfl
@[simp] theorem lt_tree_Right_2 : n_tree_Right_2 < yBase := ltB rfl
@[simp] theorem lt_tree_Right_3 : n_tree_Right_3 < yBase := ltB rfl
@[simp] theorem lt_lex_letter : n_lex_letter < yBase := ltB rfl
@[simp] theorem lt_lex_run : n_lex_run < yBase := ltB rfl
@[simp] theorem lt_lex_inner : n_lex_inner < yBase := ltB rfl
@[simp] theorem lt_tree_expr_1 : n_tree_expr_1 < yBase := ltB rfl
@[simp] theorem lt_tree_block_1 : n_tree_block_1 < yBase := ltB rfl
@[simp] theorem lt_types_scope_kind : n_types_scope_kind < yBase := ltB rfl
@[simp] theorem lt_lex_digit : n_lex_digit < yBase := ltB rfl
@[simp] theorem lt_strings_Contains : n_strings_Contains < yBase := ltB rfl
@[simp] theorem lt_tree_stmt_1 : n_tree_stmt_1 < yBase := ltB rfl
@[simp] theorem lt_tree_shape_1 : n_tree_shape_1 < yBase := ltB rfl
end Go.AM
