/-
 The abstract code of the functions, printed by a program (gen.py) out of the loaded program, and each function's place in the table.
-/
import Derived.Test.YtkpopdcojheniaaXlib
namespace Go.AM
theorem ltB {n : Nat} (h : Nat.ble (n + 1) yBase = true) : n < yBase := Nat.le_of_ble_eq_true h
abbrev kI (n : Int) : AX := .c (.int .i64 n)
@[simp] theorem kI_eq (n : Int) : kI n = .c (.int .i64 n) := rfl
abbrev kS (n : List UInt8) : AX := .c (.str n)
@[simp] theorem kS_eq (n : List UInt8) : kS n = .c (.str n) := rfl
abbrev iZ : V := .int .i64 0
@[simp] theorem iZ_eq : iZ = .int .i64 0 := rfl
abbrev kT : AX := .c (.bool true)
@[simp] theorem kT_eq : kT = .c (.bool true) := rfl
abbrev kF : AX := .c (.bool false)
@[simp] theorem kF_eq : kF = .c (.bool false) := rfl
abbrev dO (d : Nat) (p : AOp) : AOper := ⟨some d, none, p⟩
@[simp] theorem dO_eq (d : Nat) (p : AOp) : dO d p = ⟨some d, none, p⟩ := rfl
abbrev bT : Nat := 0
abbrev bP : Nat := 0
abbrev bE : Nat := 5
def n_flotsamlaw26_RewriteOne : Nat := 5
def n_l16_Small : Nat := 6
def n_flotsamlaw26_knows : Nat := 7
def n_rewrite_Apply : Nat := 8
def n_rewrite_Number : Nat := 10
def n_r16_Same : Nat := 12
def n_site_Fits : Nat := 13
def n_site_At : Nat := 15
def n_tree_Right : Nat := 16
def n_tree_All : Nat := 17
def n_r16_SameStmts : Nat := 18
def n_flotsamlaw26_drops : Nat := 19
def n_r16_SameStmt : Nat := 20
def n_flotsamlaw26_bare : Nat := 21
def n_r16_Size : Nat := 22
def n_tree_Clone : Nat := 23
def n_rewrite_along : Nat := 24
def n_rewrite_by : Nat := 25
def n_tree_Count : Nat := 29
def n_rewrite_ahead : Nat := 30
def n_r16_SameExpr : Nat := 33
def n_site_fits : Nat := 34
def n_site_lead : Nat := 35
def n_tree_Right_1 : Nat := 37
def n_lex_Name : Nat := 38
def n_tree_Right_2 : Nat := 39
def n_tree_expr : Nat := 40
def n_tree_Right_3 : Nat := 41
def n_tree_block : Nat := 42
def n_sC_Proc_api_Proc : Nat := 43
def n_sC_Oracle_api_Oracle : Nat := 44
def n_sC_Stmt_api_Stmt : Nat := 45
def n_tree_parts : Nat := 46
def n_tree_walk : Nat := 47
def n_tree_cloned : Nat := 48
def n_r16_block : Nat := 49
def n_r16_expr : Nat := 50
def n_tree_each_api_Proc : Nat := 51
def n_tree_Clone_1 : Nat := 52
def n_tree_each_api_Stmt : Nat := 53
def n_tree_each_api_Oracle : Nat := 54
def n_tree_Clone_2 : Nat := 55
def n_tree_clonedExpr : Nat := 56
def n_rewrite_change : Nat := 57
def n_rewrite_by_1 : Nat := 58
def n_rewrite_by_2 : Nat := 59
def n_rewrite_half : Nat := 60
def n_rewrite_by_3 : Nat := 61
def n_rewrite_by_4 : Nat := 62
def n_slices_Delete_api_Stmt_api_Stmt : Nat := 63
def n_site_writes : Nat := 68
def n_site_torn : Nat := 69
def n_site_parts : Nat := 70
def n_site_may : Nat := 71
def n_site_next : Nat := 72
def n_lex_begins : Nat := 74
def n_lex_letter : Nat := 75
def n_lex_run : Nat := 76
def n_lex_inner : Nat := 77
def n_lex_Key : Nat := 78
def n_tree_Parts : Nat := 79
def n_sC_Expr_api_Expr : Nat := 80
def n_tree_expr_1 : Nat := 81
def n_sC_Stmt_api_Stmt_x : Nat := 82
def n_tree_block_1 : Nat := 83
def n_tree_stmt : Nat := 84
def n_sI_Proc_api_Proc : Nat := 85
def n_sI_Oracle_api_Oracle : Nat := 86
def n_sI_Stmt_api_Stmt : Nat := 87
def n_tree_walk_1 : Nat := 88
def n_tree_each_api_Expr : Nat := 89
def n_rewrite_change_1 : Nat := 90
def n_lex_digit : Nat := 93
def n_strings_Contains : Nat := 94
def n_sI_Expr_api_Expr : Nat := 95
def n_sI_Stmt_api_Stmt_x : Nat := 96
def n_tree_shape : Nat := 97
def n_tree_stmt_1 : Nat := 98
def n_tree_Exprs : Nat := 101
def n_tree_blocks : Nat := 102
def n_tree_shape_1 : Nat := 103
def q_tree_All_0 : Nat := 2001700
def q_tree_Count_0 : Nat := 2002900
def q_tree_walk_1_0 : Nat := 2008800
def c_l16_Small : AFunc :=
 { np := 1, res := [.t 2], body := (
 .seq (.reg [dO 1 (.box (.t 0)), dO 2 (.tk kF)])
 (.seq (.reg [dO 3 (.ld (some 4) (.t 1)), dO 4 (.callc n_r16_Size [.t 3, kI 600]), dO 5 (.ic .leq (.t 4) (kI 600)), dO 2 (.tk (.t 5))])
 (.ret))) }
def c_flotsamlaw26_knows : AFunc :=
 { np := 0, res := [.t 0], body := (
 .seq (.reg [dO 0 (.tk kF)])
 (.seq (.reg [dO 7 (.bld [iZ, .str [], iZ, .sl 4 [], .sl 7 [], .sl 7 [], .bool false] [(0, 1, kI 11)]), dO 1 (.alloc [iZ, .str [], iZ, .own 4 [], .own 7 [], .own 7 [], .bool false]), ⟨none, none, .st 7 (.t 1) (.t 7)⟩])
 (.seq (.reg [dO 8 (.ld (some 7) (.t 1)), dO 9 (.ld (some 7) (.t 1)), dO 10 (.bsl 7 [iZ, .str [], iZ, .sl 4 [], .sl 7 [], .sl 7 [], .bool false] 2 [(0, 7, .t 8), (7, 7, .t 9)] false), dO 11 (.bld [.sl 2 [], .sl 7 [], .sl 7 [], .sl 5 []] [(1, 1, .t 10)]), dO 2 (.alloc [.own 2 [], .own 7 [], .own 7 [], .own 5 []]), ⟨none, none, .st 4 (.t 2) (.t 11)⟩])
 (.seq (.reg [dO 13 (.ld (some 4) (.t 2)), dO 14 (.bld [iZ, iZ, iZ, iZ, iZ, iZ, iZ, iZ] [(0, 1, kI 1)]), dO 15 (.bld [iZ, iZ, iZ, iZ, iZ, iZ, iZ, iZ, iZ, iZ, iZ] [(0, 1, kI 4), (2, 8, .t 14), (10, 1, kI 1)]), dO 16 (.callck n_rewrite_Apply [.t 13, .t 15]), dO 12 (.mv (.t 16)), dO 17 (.ext (.t 12) 0), dO 18 (.ext (.t 12) 1), dO 3 (.alloc [.own 2 [], .own 7 [], .own 7 [], .own 5 []]), ⟨none, none, .st 4 (.t 3) (.t 17)⟩, dO 4 (.tk (.t 18))])
 (.seq (.reg [dO 20 (.ld (some 4) (.t 2)), dO 21 (.bld [iZ, iZ, iZ, iZ, iZ, iZ, iZ, iZ] [(0, 1, kI 1)]), dO 22 (.bld [iZ, iZ, iZ, iZ, iZ, iZ, iZ, iZ, iZ, iZ, iZ] [(2, 8, .t 21), (10, 1, kI 1)]), dO 23 (.callc n_rewrite_Number [.t 20, .t 22]), dO 19 (.mv (.t 23)), dO 24 (.ext (.t 19) 0), dO 25 (.ext (.t 19) 1), dO 5 (.tk (.t 24)), dO 6 (.tk (.t 25))])
 (.seq (.reg [dO 26 (.mv (.t 4)), dO 27 (.mv (.t 26)), ⟨some 28, (some (27, true)), .fa 1 (.t 3)⟩, ⟨some 29, (some (27, true)), .ld none (.t 28)⟩, ⟨some 30, (some (27, true)), .len false (.t 29)⟩, ⟨some 31, (some (27, true)), .ic .eql (.t 30) (kI 1)⟩, dO 32 (.pick (.t 27) (.t 31) kF), dO 33 (.mv (.t 32)), ⟨some 34, (some (33, true)), .fa 1 (.t 2)⟩, ⟨some 35, (some (33, true)), .ld none (.t 34)⟩, ⟨some 36, (some (33, true)), .len false (.t 35)⟩, ⟨some 37, (some (33, true)), .ic .eql (.t 36) (kI 2)⟩, dO 38 (.pick (.t 33) (.t 37) kF), dO 39 (.mv (.t 38)), ⟨some 40, (some (39, true)), .mv (.t 5)⟩, ⟨some 41, (some (39, true)), .ic .eql (.t 40) (kI 1)⟩, dO 42 (.pick (.t 39) (.t 41) kF), dO 43 (.mv (.t 42)), ⟨some 44, (some (43, true)), .mv (.t 6)⟩, dO 45 (.pick (.t 43) (.t 44) kF), dO 0 (.tk (.t 45))])
 (.ret))))))) }
def b_rewrite_Number_0 : AC :=
 .seq (.reg [dO 26 (.ic .lss (.t 25) (.t 24))])
 (.seq (.cond (.t 26)
 (.skip)
 (.exit 0))
 (.seq (.block 1 (.seq (.reg [dO 27 (.mv (.t 25)), dO 28 (.ixa 2 none (.t 23) (.t 25)), dO 29 (.ld (some 2) (.t 28)), dO 11 (.alloc [.str [], .own 7 []]), dO 10 (.tk (.t 27)), ⟨none, none, .st 2 (.t 11) (.t 29)⟩])
 (.seq (.seq (.reg [dO 30 (.mv (.t 10)), dO 31 (.fa 1 (.t 3)), dO 32 (.ld none (.t 31)), dO 33 (.ia .sub .i64 (.t 32) (kI 1)), dO 34 (.ic .eql (.t 30) (.t 33))])
 (.cond (.t 34)
 (.seq (.reg [dO 35 (.fa 1 (.t 11)), dO 36 (.ld none (.t 35)), dO 9 (.tk (.t 36))])
 (.exit 0))
 (.skip)))
 (.reg [dO 37 (.mv (.t 8)), dO 38 (.fa 1 (.t 11)), dO 39 (.ld none (.t 38)), dO 40 (.callc n_tree_Count [.t 39]), dO 41 (.ia .add .i64 (.t 37) (.t 40)), dO 8 (.tk (.t 41))]))))
 (.reg [dO 42 (.ia .add .i64 (.t 25) (kI 1)), dO 25 (.mv (.t 42))])))
def l_rewrite_Number_0 : AC :=
 .loop [3, 8, 9, 23, 24, 25] b_rewrite_Number_0
def r_rewrite_Number_0 : AC :=
 .seq (.drw [[], [], [], [], [], [], [], [], [], [7], [], [], []] [dO 43 (.mv (.t 8)), dO 44 (.mv (.t 9)), dO 45 (.fa 2 (.t 3)), dO 46 (.ixa 1 (some 8) (.t 45) (kI 0)), dO 47 (.ld none (.t 46)), dO 48 (.fa 2 (.t 3)), dO 49 (.fa 10 (.t 3)), dO 50 (.ld none (.t 49)), dO 51 (.slp 1 8 (.t 48) (some (kI 1)) (some (.t 50)) none), dO 52 (.call n_rewrite_ahead [.t 44, .t 47, .t 51]), dO 53 (.ia .add .i64 (.t 43) (.t 52)), dO 4 (.tk (.t 53)), dO 5 (.tk kT)])
 (.ret)
def c_rewrite_Number : AFunc :=
 { np := 2, res := [.t 4, .t 5], body := (
 .seq (.reg [dO 2 (.box (.t 0)), dO 3 (.box (.t 1)), dO 4 (.tk (kI 0)), dO 5 (.tk kF)])
 (.seq (.seq (.reg [dO 13 (.ld (some 4) (.t 2)), dO 14 (.ld (some 11) (.t 3)), dO 15 (.callc n_site_At [.t 13, .t 14]), dO 12 (.mv (.t 15)), dO 16 (.ext (.t 12) 0), dO 17 (.ext (.t 12) 1), dO 6 (.alloc [iZ, .str [], iZ, .own 4 [], .own 7 [], .own 7 [], .bool false]), ⟨none, none, .st 7 (.t 6) (.t 16)⟩, dO 7 (.tk (.t 17))])
 (.seq (.reg [dO 18 (.mv (.t 7)), dO 19 (.notb (.t 18))])
 (.cond (.t 19)
 (.seq (.reg [dO 4 (.tk (kI 0)), dO 5 (.tk kF)])
 (.ret))
 (.skip))))
 (.seq (.drw [[], [], [], []] [dO 20 (.fa 1 (.t 2)), dO 21 (.ld none (.t 20)), dO 8 (.tk (kI 0)), dO 9 (.tk (.t 21))])
 (.seq (.seq (.reg [dO 22 (.fa 0 (.t 2)), dO 23 (.ld none (.t 22)), dO 24 (.len false (.t 23)), dO 25 (.mv (kI 0))])
 (.block 0 (l_rewrite_Number_0))) r_rewrite_Number_0)))) }
def b_r16_Same_0 : AC :=
 .seq (.seq (.reg [dO 39 (.mv (.t 5)), dO 40 (.fa 0 (.t 2)), dO 41 (.ld none (.t 40)), dO 42 (.len false (.t 41)), dO 43 (.ic .lss (.t 39) (.t 42))])
 (.cond (.t 43)
 (.skip)
 (.exit 0)))
 (.seq (.block 1 (.seq (.drw [[], [], [], [], [], [], [], [], [], [], [], [], [], [], [], [], [], [], [], [], [], [], [], [], [], [], [], [], []] [dO 46 (.fa 0 (.t 2)), dO 47 (.ld none (.t 46)), dO 48 (.mv (.t 5)), dO 49 (.ixa 2 none (.t 47) (.t 48)), dO 50 (.fa 0 (.t 49)), dO 51 (.ld none (.t 50)), dO 52 (.fa 0 (.t 3)), dO 53 (.ld none (.t 52)), dO 54 (.mv (.t 5)), dO 55 (.ixa 2 none (.t 53) (.t 54)), dO 56 (.fa 0 (.t 55)), dO 57 (.ld none (.t 56)), dO 58 (.sop .neq (.t 51) (.t 57)), dO 59 (.mv (.t 58)), ⟨some 60, (some (59, false)), .fa 0 (.t 2)⟩, ⟨some 61, (some (59, false)), .ld none (.t 60)⟩, ⟨some 62, (some (59, false)), .mv (.t 5)⟩, ⟨some 63, (some (59, false)), .ixa 2 none (.t 61) (.t 62)⟩, ⟨some 64, (some (59, false)), .fa 1 (.t 63)⟩, ⟨some 65, (some (59, false)), .ld none (.t 64)⟩, ⟨some 66, (some (59, false)), .fa 0 (.t 3)⟩, ⟨some 67, (some (59, false)), .ld none (.t 66)⟩, ⟨some 68, (some (59, false)), .mv (.t 5)⟩, ⟨some 69, (some (59, false)), .ixa 2 none (.t 67) (.t 68)⟩, ⟨some 70, (some (59, false)), .fa 1 (.t 69)⟩, ⟨some 71, (some (59, false)), .ld none (.t 70)⟩, ⟨some 72, (some (59, false)), .callc n_r16_SameStmts [.t 65, .t 71]⟩, ⟨some 73, (some (59, false)), .notb (.t 72)⟩, dO 74 (.pick (.t 59) kT (.t 73))])
 (.cond (.t 74)
 (.seq (.reg [dO 4 (.tk kF)])
 (.ret))
 (.skip))))
 (.reg [dO 44 (.mv (.t 5)), dO 45 (.ia .add .i64 (.t 44) (kI 1)), dO 5 (.tk (.t 45))]))
def l_r16_Same_0 : AC :=
 .loop [2, 3, 5] b_r16_Same_0
def b_r16_Same_1 : AC :=
 .seq (.seq (.reg [dO 75 (.mv (.t 6)), dO 76 (.fa 3 (.t 2)), dO 77 (.ld none (.t 76)), dO 78 (.len false (.t 77)), dO 79 (.ic .lss (.t 75) (.t 78))])
 (.cond (.t 79)
 (.skip)
 (.exit 2)))
 (.seq (.block 3 (.seq (.drw [[], [], [], [], [], [], [], [], [], [], [], [], [], [], [], [], [], [], [], [], [], [], [], [], [], [], [], [], []] [dO 82 (.fa 3 (.t 2)), dO 83 (.ld none (.t 82)), dO 84 (.mv (.t 6)), dO 85 (.ixa 5 none (.t 83) (.t 84)), dO 86 (.fa 0 (.t 85)), dO 87 (.ld none (.t 86)), dO 88 (.fa 3 (.t 3)), dO 89 (.ld none (.t 88)), dO 90 (.mv (.t 6)), dO 91 (.ixa 5 none (.t 89) (.t 90)), dO 92 (.fa 0 (.t 91)), dO 93 (.ld none (.t 92)), dO 94 (.sop .neq (.t 87) (.t 93)), dO 95 (.mv (.t 94)), ⟨some 96, (some (95, false)), .fa 3 (.t 2)⟩, ⟨some 97, (some (95, false)), .ld none (.t 96)⟩, ⟨some 98, (some (95, false)), .mv (.t 6)⟩, ⟨some 99, (some (95, false)), .ixa 5 none (.t 97) (.t 98)⟩, ⟨some 100, (some (95, false)), .fa 1 (.t 99)⟩, ⟨some 101, (some (95, false)), .ld (some 4) (.t 100)⟩, ⟨some 102, (some (95, false)), .fa 3 (.t 3)⟩, ⟨some 103, (some (95, false)), .ld none (.t 102)⟩, ⟨some 104, (some (95, false)), .mv (.t 6)⟩, ⟨some 105, (some (95, false)), .ixa 5 none (.t 103) (.t 104)⟩, ⟨some 106, (some (95, false)), .fa 1 (.t 105)⟩, ⟨some 107, (some (95, false)), .ld (some 4) (.t 106)⟩, ⟨some 108, (some (95, false)), .callc n_r16_SameExpr [.t 101, .t 107]⟩, ⟨some 109, (some (95, false)), .notb (.t 108)⟩, dO 110 (.pick (.t 95) kT (.t 109))])
 (.cond (.t 110)
 (.seq (.reg [dO 4 (.tk kF)])
 (.ret))
 (.skip))))
 (.reg [dO 80 (.mv (.t 6)), dO 81 (.ia .add .i64 (.t 80) (kI 1)), dO 6 (.tk (.t 81))]))
def l_r16_Same_1 : AC :=
 .loop [2, 3, 6] b_r16_Same_1
def r_r16_Same_0 : AC :=
 .seq (.reg [dO 4 (.tk kT)])
 (.ret)
def r_r16_Same_1 : AC :=
 .seq (.seq (.reg [dO 6 (.tk (kI 0))])
 (.block 2 (l_r16_Same_1))) r_r16_Same_0
def c_r16_Same : AFunc :=
 { np := 2, res := [.t 4], body := (
 .seq (.reg [dO 2 (.box (.t 0)), dO 3 (.box (.t 1)), dO 4 (.tk kF)])
 (.seq (.seq (.reg [dO 7 (.fa 0 (.t 2)), dO 8 (.ld none (.t 7)), dO 9 (.len false (.t 8)), dO 10 (.fa 0 (.t 3)), dO 11 (.ld none (.t 10)), dO 12 (.len false (.t 11)), dO 13 (.ic .neq (.t 9) (.t 12)), dO 14 (.mv (.t 13)), ⟨some 15, (some (14, false)), .fa 3 (.t 2)⟩, ⟨some 16, (some (14, false)), .ld none (.t 15)⟩, ⟨some 17, (some (14, false)), .len false (.t 16)⟩, ⟨some 18, (some (14, false)), .fa 3 (.t 3)⟩, ⟨some 19, (some (14, false)), .ld none (.t 18)⟩, ⟨some 20, (some (14, false)), .len false (.t 19)⟩, ⟨some 21, (some (14, false)), .ic .neq (.t 17) (.t 20)⟩, dO 22 (.pick (.t 14) kT (.t 21)), dO 23 (.mv (.t 22)), ⟨some 24, (some (23, false)), .fa 1 (.t 2)⟩, ⟨some 25, (some (23, false)), .ld none (.t 24)⟩, ⟨some 26, (some (23, false)), .fa 1 (.t 3)⟩, ⟨some 27, (some (23, false)), .ld none (.t 26)⟩, ⟨some 28, (some (23, false)), .callc n_r16_SameStmts [.t 25, .t 27]⟩, ⟨some 29, (some (23, false)), .notb (.t 28)⟩, dO 30 (.pick (.t 23) kT (.t 29)), dO 31 (.mv (.t 30)), ⟨some 32, (some (31, false)), .fa 2 (.t 2)⟩, ⟨some 33, (some (31, false)), .ld none (.t 32)⟩, ⟨some 34, (some (31, false)), .fa 2 (.t 3)⟩, ⟨some 35, (some (31, false)), .ld none (.t 34)⟩, ⟨some 36, (some (31, false)), .callc n_r16_SameStmts [.t 33, .t 35]⟩, ⟨some 37, (some (31, false)), .notb (.t 36)⟩, dO 38 (.pick (.t 31) kT (.t 37))])
 (.cond (.t 38)
 (.seq (.reg [dO 4 (.tk kF)])
 (.ret))
 (.skip)))
 (.seq (.seq (.reg [dO 5 (.tk (kI 0))])
 (.block 0 (l_r16_Same_0))) r_r16_Same_1))) }
def c_site_Fits : AFunc :=
 { np := 2, res := [.t 4], body := (
 .seq (.reg [dO 2 (.box (.t 0)), dO 3 (.box (.t 1)), dO 4 (.tk kF)])
 (.seq (.drw [[], [], [], [], [], [], []] [dO 5 (.fa 0 (.t 3)), dO 6 (.ld none (.t 5)), dO 7 (.ld (some 4) (.t 2)), dO 8 (.ld (some 11) (.t 3)), dO 9 (.callc n_site_lead [.t 7, .t 8]), dO 10 (.callc n_site_fits [.t 6, .t 9]), dO 4 (.tk (.t 10))])
 (.ret))) }
def c_site_At : AFunc :=
 { np := 2, res := [.cell 4 (some 7), .t 5], body := (
 .seq (.reg [dO 2 (.box (.t 0)), dO 3 (.box (.t 1)), dO 4 (.alloc [iZ, .str [], iZ, .own 4 [], .own 7 [], .own 7 [], .bool false]), dO 5 (.tk kF)])
 (.seq (.reg [dO 7 (.ld (some 4) (.t 2)), dO 8 (.ld (some 11) (.t 3)), dO 9 (.callc n_site_lead [.t 7, .t 8]), dO 6 (.tk (.t 9))])
 (.seq (.seq (.reg [dO 10 (.mv (.t 6)), dO 11 (.len false (.t 10)), dO 12 (.ic .eql (.t 11) (kI 0))])
 (.cond (.t 12)
 (.seq (.reg [dO 13 (.bld [iZ, .str [], iZ, .sl 4 [], .sl 7 [], .sl 7 [], .bool false] []), ⟨none, none, .st 7 (.t 4) (.t 13)⟩, dO 5 (.tk kF)])
 (.ret))
 (.skip)))
 (.seq (.reg [dO 14 (.mv (.t 6)), dO 15 (.sls 7 (.t 14) none (some (kI 1)) none), dO 16 (.bld [.sl 2 [], .sl 7 [], .sl 7 [], .sl 5 []] [(1, 1, .t 15)]), dO 17 (.callc n_tree_Clone [.t 16]), dO 18 (.fld none 1 (.t 17)), dO 19 (.ixa 7 none (.t 18) (kI 0)), dO 20 (.ld (some 7) (.t 19)), ⟨none, none, .st 7 (.t 4) (.t 20)⟩, dO 5 (.tk kT)])
 (.ret))))) }
def c_tree_Right : AFunc :=
 { np := 1, res := [.t 2], body := (
 .seq (.reg [dO 1 (.box (.t 0)), dO 2 (.tk kF)])
 (.seq (.seq (.reg [dO 6 (.fa 0 (.t 1)), dO 7 (.ld none (.t 6)), dO 8 (.len false (.t 7)), dO 9 (.ic .gtr (.t 8) (kI 16)), dO 10 (.mv (.t 9)), ⟨some 11, (some (10, false)), .fa 3 (.t 1)⟩, ⟨some 12, (some (10, false)), .ld none (.t 11)⟩, ⟨some 13, (some (10, false)), .len false (.t 12)⟩, ⟨some 14, (some (10, false)), .ic .gtr (.t 13) (kI 16)⟩, dO 15 (.pick (.t 10) kT (.t 14)), dO 16 (.mv (.t 15)), ⟨some 17, (some (16, false)), .ld (some 4) (.t 1)⟩, ⟨some 18, (some (16, false)), .callc n_tree_All [.t 17]⟩, ⟨some 19, (some (16, false)), .len false (.t 18)⟩, ⟨some 20, (some (16, false)), .ic .gtr (.t 19) (kI 256)⟩, dO 21 (.pick (.t 16) kT (.t 20))])
 (.cond (.t 21)
 (.seq (.reg [dO 2 (.tk kF)])
 (.ret))
 (.skip)))
 (.seq (.reg [dO 3 (.tk (.c (.fn (.func n_tree_Right_1) [] [])))])
 (.seq (.reg [dO 4 (.tk (.c (.fn (.func n_tree_Right_2) [] [])))])
 (.seq (.reg [dO 5 (.tk (.c (.fn (.func n_tree_Right_3) [] [])))])
 (.seq (.reg [dO 22 (.fa 0 (.t 1)), dO 23 (.ld none (.t 22)), dO 24 (.mv (.t 3)), dO 25 (.call n_sC_Proc_api_Proc [.t 23, .t 24]), dO 26 (.notb (.t 25)), dO 27 (.mv (.t 26)), ⟨some 28, (some (27, true)), .fa 3 (.t 1)⟩, ⟨some 29, (some (27, true)), .ld none (.t 28)⟩, ⟨some 30, (some (27, true)), .mv (.t 4)⟩, ⟨some 31, (some (27, true)), .call n_sC_Oracle_api_Oracle [.t 29, .t 30]⟩, ⟨some 32, (some (27, true)), .notb (.t 31)⟩, dO 33 (.pick (.t 27) (.t 32) kF), dO 34 (.mv (.t 33)), ⟨some 35, (some (34, true)), .ld (some 4) (.t 1)⟩, ⟨some 36, (some (34, true)), .callc n_tree_parts [.t 35]⟩, ⟨some 37, (some (34, true)), .mv (.t 5)⟩, ⟨some 38, (some (34, true)), .call n_sC_Stmt_api_Stmt [.t 36, .t 37]⟩, ⟨some 39, (some (34, true)), .notb (.t 38)⟩, dO 40 (.pick (.t 34) (.t 39) kF), dO 2 (.tk (.t 40))])
 (.ret))))))) }
def a_tree_All_0 : AC :=
 .reg [dO 6 (.alloc [iZ, .str [], iZ, .own 4 [], .own 7 [], .own 7 [], .bool false]), ⟨none, none, .st 7 (.t 6) (.t 16)⟩]
def y_tree_All_0 : AC :=
 .block 3 (.drw [[], [], [], [], [], [], [], [], []] [dO 17 (.ldo (.t 3)), dO 18 (.ld (some 7) (.t 6)), dO 19 (.callc n_tree_cloned [.t 18]), dO 20 (.len false (.t 17)), dO 21 (.bsl 7 [iZ, .str [], iZ, .sl 4 [], .sl 7 [], .sl 7 [], .bool false] 1 [(0, 7, (.c (.agg [iZ, .str [], iZ, .sl 4 [], .sl 7 [], .sl 7 [], .bool false])))] false), dO 22 (.apz 7 112 (.t 17) (.t 21)), dO 23 (.ixa 7 none (.t 22) (.t 20)), ⟨none, none, .st 7 (.t 23) (.t 19)⟩, ⟨none, none, .stf (.t 3) (.t 22)⟩])
def r_tree_All_0 : AC :=
 .reg [dO 24 (.ia .add .i64 (.t 10) (kI 1)), dO 10 (.mv (.t 24))]
def b_tree_All_0 : AC :=
 .seq (.reg [dO 11 (.ic .lss (.t 10) (.t 9))])
 (.seq (.cond (.t 11)
 (.skip)
 (.exit 0))
 (.seq (.block 1 (.seq (.reg [dO 12 (.ixa 1 none (.t 8) (.t 10)), dO 13 (.ld none (.t 12)), dO 5 (.tk (.t 13))])
 (.seq (.reg [dO 14 (.mv (.t 5)), dO 15 (.call n_tree_walk [.t 14])])
 (.block 2 (.rfn (.t 15) [3] q_tree_All_0 [16] a_tree_All_0 y_tree_All_0))))) r_tree_All_0))
def l_tree_All_0 : AC :=
 .loop [3, 8, 9, 10] b_tree_All_0
def r_tree_All_1 : AC :=
 .seq (.reg [dO 25 (.ld none (.t 3)), dO 2 (.tk (.t 25))])
 (.ret)
def c_tree_All : AFunc :=
 { np := 1, res := [.t 2], body := (
 .seq (.reg [dO 1 (.box (.t 0)), dO 2 (.tk (.c (.own 7 [])))])
 (.seq (.reg [dO 3 (.alloc [.own 7 []])])
 (.seq (.seq (.reg [dO 7 (.ld (some 4) (.t 1)), dO 8 (.callc n_tree_parts [.t 7]), dO 9 (.len false (.t 8)), dO 10 (.mv (kI 0))])
 (.block 0 (l_tree_All_0))) r_tree_All_1))) }
def b_r16_SameStmts_0 : AC :=
 .seq (.seq (.reg [dO 11 (.mv (.t 5)), dO 12 (.mv (.t 0)), dO 13 (.len false (.t 12)), dO 14 (.ic .lss (.t 11) (.t 13))])
 (.cond (.t 14)
 (.skip)
 (.exit 0)))
 (.seq (.block 1 (.seq (.drw [[], [], [], [], [], [], [], [], [], []] [dO 17 (.mv (.t 0)), dO 18 (.mv (.t 5)), dO 19 (.ixa 7 none (.t 17) (.t 18)), dO 20 (.ld (some 7) (.t 19)), dO 21 (.mv (.t 1)), dO 22 (.mv (.t 5)), dO 23 (.ixa 7 none (.t 21) (.t 22)), dO 24 (.ld (some 7) (.t 23)), dO 25 (.callc n_r16_SameStmt [.t 20, .t 24]), dO 26 (.notb (.t 25))])
 (.cond (.t 26)
 (.seq (.reg [dO 4 (.tk kF)])
 (.ret))
 (.skip))))
 (.reg [dO 15 (.mv (.t 5)), dO 16 (.ia .add .i64 (.t 15) (kI 1)), dO 5 (.tk (.t 16))]))
def l_r16_SameStmts_0 : AC :=
 .loop [0, 1, 5] b_r16_SameStmts_0
def r_r16_SameStmts_0 : AC :=
 .seq (.reg [dO 4 (.tk kT)])
 (.ret)
def c_r16_SameStmts : AFunc :=
 { np := 2, res := [.t 4], body := (
 .seq (.reg [dO 4 (.tk kF)])
 (.seq (.seq (.reg [dO 6 (.mv (.t 0)), dO 7 (.len false (.t 6)), dO 8 (.mv (.t 1)), dO 9 (.len false (.t 8)), dO 10 (.ic .neq (.t 7) (.t 9))])
 (.cond (.t 10)
 (.seq (.reg [dO 4 (.tk kF)])
 (.ret))
 (.skip)))
 (.seq (.seq (.reg [dO 5 (.tk (kI 0))])
 (.block 0 (l_r16_SameStmts_0))) r_r16_SameStmts_0))) }
def c_flotsamlaw26_drops : AFunc :=
 { np := 1, res := [.t 2], body := (
 .seq (.reg [dO 2 (.tk kF)])
 (.seq (.reg [dO 3 (.mv (.t 0)), dO 4 (.ic .eql (.t 3) (kI 1)), dO 5 (.mv (.t 4)), ⟨some 6, (some (5, false)), .mv (.t 0)⟩, ⟨some 7, (some (5, false)), .ic .eql (.t 6) (kI 3)⟩, dO 8 (.pick (.t 5) kT (.t 7)), dO 9 (.mv (.t 8)), ⟨some 10, (some (9, false)), .mv (.t 0)⟩, ⟨some 11, (some (9, false)), .ic .eql (.t 10) (kI 4)⟩, dO 12 (.pick (.t 9) kT (.t 11)), dO 13 (.mv (.t 12)), ⟨some 14, (some (13, false)), .mv (.t 0)⟩, ⟨some 15, (some (13, false)), .ic .eql (.t 14) (kI 8)⟩, dO 16 (.pick (.t 13) kT (.t 15)), dO 2 (.tk (.t 16))])
 (.ret))) }
def b_r16_SameStmt_0 : AC :=
 .seq (.seq (.reg [dO 41 (.mv (.t 5)), dO 42 (.fa 3 (.t 2)), dO 43 (.ld none (.t 42)), dO 44 (.len false (.t 43)), dO 45 (.ic .lss (.t 41) (.t 44))])
 (.cond (.t 45)
 (.skip)
 (.exit 0)))
 (.seq (.block 1 (.seq (.drw [[], [], [], [], [], [], [], [], [], [], [], []] [dO 48 (.fa 3 (.t 2)), dO 49 (.ld none (.t 48)), dO 50 (.mv (.t 5)), dO 51 (.ixa 4 none (.t 49) (.t 50)), dO 52 (.ld (some 4) (.t 51)), dO 53 (.fa 3 (.t 3)), dO 54 (.ld none (.t 53)), dO 55 (.mv (.t 5)), dO 56 (.ixa 4 none (.t 54) (.t 55)), dO 57 (.ld (some 4) (.t 56)), dO 58 (.callc n_r16_SameExpr [.t 52, .t 57]), dO 59 (.notb (.t 58))])
 (.cond (.t 59)
 (.seq (.reg [dO 4 (.tk kF)])
 (.ret))
 (.skip))))
 (.reg [dO 46 (.mv (.t 5)), dO 47 (.ia .add .i64 (.t 46) (kI 1)), dO 5 (.tk (.t 47))]))
def l_r16_SameStmt_0 : AC :=
 .loop [2, 3, 5] b_r16_SameStmt_0
def r_r16_SameStmt_0 : AC :=
 .seq (.reg [dO 60 (.fa 4 (.t 2)), dO 61 (.ld none (.t 60)), dO 62 (.fa 4 (.t 3)), dO 63 (.ld none (.t 62)), dO 64 (.callc n_r16_SameStmts [.t 61, .t 63]), dO 65 (.mv (.t 64)), ⟨some 66, (some (65, true)), .fa 5 (.t 2)⟩, ⟨some 67, (some (65, true)), .ld none (.t 66)⟩, ⟨some 68, (some (65, true)), .fa 5 (.t 3)⟩, ⟨some 69, (some (65, true)), .ld none (.t 68)⟩, ⟨some 70, (some (65, true)), .callc n_r16_SameStmts [.t 67, .t 69]⟩, dO 71 (.pick (.t 65) (.t 70) kF), dO 4 (.tk (.t 71))])
 (.ret)
def c_r16_SameStmt : AFunc :=
 { np := 2, res := [.t 4], body := (
 .seq (.reg [dO 2 (.box (.t 0)), dO 3 (.box (.t 1)), dO 4 (.tk kF)])
 (.seq (.seq (.reg [dO 6 (.fa 0 (.t 2)), dO 7 (.ld none (.t 6)), dO 8 (.fa 0 (.t 3)), dO 9 (.ld none (.t 8)), dO 10 (.ic .neq (.t 7) (.t 9)), dO 11 (.mv (.t 10)), ⟨some 12, (some (11, false)), .fa 1 (.t 2)⟩, ⟨some 13, (some (11, false)), .ld none (.t 12)⟩, ⟨some 14, (some (11, false)), .fa 1 (.t 3)⟩, ⟨some 15, (some (11, false)), .ld none (.t 14)⟩, ⟨some 16, (some (11, false)), .sop .neq (.t 13) (.t 15)⟩, dO 17 (.pick (.t 11) kT (.t 16)), dO 18 (.mv (.t 17)), ⟨some 19, (some (18, false)), .fa 2 (.t 2)⟩, ⟨some 20, (some (18, false)), .ld none (.t 19)⟩, ⟨some 21, (some (18, false)), .fa 2 (.t 3)⟩, ⟨some 22, (some (18, false)), .ld none (.t 21)⟩, ⟨some 23, (some (18, false)), .ic .neq (.t 20) (.t 22)⟩, dO 24 (.pick (.t 18) kT (.t 23)), dO 25 (.mv (.t 24)), ⟨some 26, (some (25, false)), .fa 6 (.t 2)⟩, ⟨some 27, (some (25, false)), .ld none (.t 26)⟩, ⟨some 28, (some (25, false)), .fa 6 (.t 3)⟩, ⟨some 29, (some (25, false)), .ld none (.t 28)⟩, ⟨some 30, (some (25, false)), .eqb true (.t 27) (.t 29)⟩, dO 31 (.pick (.t 25) kT (.t 30)), dO 32 (.mv (.t 31)), ⟨some 33, (some (32, false)), .fa 3 (.t 2)⟩, ⟨some 34, (some (32, false)), .ld none (.t 33)⟩, ⟨some 35, (some (32, false)), .len false (.t 34)⟩, ⟨some 36, (some (32, false)), .fa 3 (.t 3)⟩, ⟨some 37, (some (32, false)), .ld none (.t 36)⟩, ⟨some 38, (some (32, false)), .len false (.t 37)⟩, ⟨some 39, (some (32, false)), .ic .neq (.t 35) (.t 38)⟩, dO 40 (.pick (.t 32) kT (.t 39))])
 (.cond (.t 40)
 (.seq (.reg [dO 4 (.tk kF)])
 (.ret))
 (.skip)))
 (.seq (.seq (.reg [dO 5 (.tk (kI 0))])
 (.block 0 (l_r16_SameStmt_0))) r_r16_SameStmt_0))) }
def c_flotsamlaw26_bare : AFunc :=
 { np := 1, res := [.cell 2 (some 7)], body := (
 .seq (.reg [dO 1 (.box (.t 0)), dO 2 (.alloc [iZ, .str [], iZ, .own 4 [], .own 7 [], .own 7 [], .bool false])])
 (.seq (.reg [dO 3 (.fa 4 (.t 1)), ⟨none, none, .st 1 (.t 3) (.c (.own 7 []))⟩])
 (.seq (.reg [dO 4 (.fa 5 (.t 1)), ⟨none, none, .st 1 (.t 4) (.c (.own 7 []))⟩])
 (.seq (.reg [dO 5 (.ld (some 7) (.t 1)), ⟨none, none, .st 7 (.t 2) (.t 5)⟩])
 (.ret))))) }
def b_r16_Size_0 : AC :=
 .seq (.seq (.reg [dO 31 (.mv (.t 6)), dO 32 (.fa 0 (.t 2)), dO 33 (.ld none (.t 32)), dO 34 (.len false (.t 33)), dO 35 (.ic .lss (.t 31) (.t 34))])
 (.cond (.t 35)
 (.skip)
 (.exit 0)))
 (.seq (.block 1 (.seq (.reg [dO 38 (.mv (.t 5)), dO 39 (.fa 0 (.t 2)), dO 40 (.ld none (.t 39)), dO 41 (.mv (.t 6)), dO 42 (.ixa 2 none (.t 40) (.t 41)), dO 43 (.fa 1 (.t 42)), dO 44 (.ld none (.t 43)), dO 45 (.mv (.t 1)), dO 46 (.mv (.t 5)), dO 47 (.ia .sub .i64 (.t 45) (.t 46)), dO 48 (.callc n_r16_block [.t 44, .t 47]), dO 49 (.ia .add .i64 (.t 38) (.t 48)), dO 5 (.tk (.t 49))])
 (.seq (.reg [dO 50 (.fa 0 (.t 2)), dO 51 (.ld none (.t 50)), dO 52 (.mv (.t 6)), dO 53 (.ixa 2 none (.t 51) (.t 52)), dO 54 (.fa 0 (.t 53)), dO 55 (.ld none (.t 54)), dO 56 (.len true (.t 55)), dO 57 (.ic .gtr (.t 56) (kI 300)), dO 58 (.mv (.t 57)), ⟨some 59, (some (58, false)), .mv (.t 5)⟩, ⟨some 60, (some (58, false)), .mv (.t 1)⟩, ⟨some 61, (some (58, false)), .ic .gtr (.t 59) (.t 60)⟩, dO 62 (.pick (.t 58) kT (.t 61))])
 (.cond (.t 62)
 (.seq (.reg [dO 63 (.mv (.t 1)), dO 64 (.ia .add .i64 (.t 63) (kI 1)), dO 4 (.tk (.t 64))])
 (.ret))
 (.skip)))))
 (.reg [dO 36 (.mv (.t 6)), dO 37 (.ia .add .i64 (.t 36) (kI 1)), dO 6 (.tk (.t 37))]))
def l_r16_Size_0 : AC :=
 .loop [1, 2, 5, 6] b_r16_Size_0
def b_r16_Size_1 : AC :=
 .seq (.seq (.reg [dO 84 (.mv (.t 7)), dO 85 (.fa 3 (.t 2)), dO 86 (.ld none (.t 85)), dO 87 (.len false (.t 86)), dO 88 (.ic .lss (.t 84) (.t 87)), dO 89 (.mv (.t 88)), ⟨some 90, (some (89, true)), .mv (.t 5)⟩, ⟨some 91, (some (89, true)), .mv (.t 1)⟩, ⟨some 92, (some (89, true)), .ic .leq (.t 90) (.t 91)⟩, dO 93 (.pick (.t 89) (.t 92) kF)])
 (.cond (.t 93)
 (.skip)
 (.exit 2)))
 (.seq (.block 3 (.seq (.reg [dO 96 (.mv (.t 5)), dO 97 (.fa 3 (.t 2)), dO 98 (.ld none (.t 97)), dO 99 (.mv (.t 7)), dO 100 (.ixa 5 none (.t 98) (.t 99)), dO 101 (.fa 1 (.t 100)), dO 102 (.ld (some 4) (.t 101)), dO 103 (.mv (.t 1)), dO 104 (.mv (.t 5)), dO 105 (.ia .sub .i64 (.t 103) (.t 104)), dO 106 (.callc n_r16_expr [.t 102, .t 105]), dO 107 (.ia .add .i64 (.t 96) (.t 106)), dO 5 (.tk (.t 107))])
 (.seq (.reg [dO 108 (.fa 3 (.t 2)), dO 109 (.ld none (.t 108)), dO 110 (.mv (.t 7)), dO 111 (.ixa 5 none (.t 109) (.t 110)), dO 112 (.fa 0 (.t 111)), dO 113 (.ld none (.t 112)), dO 114 (.len true (.t 113)), dO 115 (.ic .gtr (.t 114) (kI 300))])
 (.cond (.t 115)
 (.seq (.reg [dO 116 (.mv (.t 1)), dO 117 (.ia .add .i64 (.t 116) (kI 1)), dO 4 (.tk (.t 117))])
 (.ret))
 (.skip)))))
 (.reg [dO 94 (.mv (.t 7)), dO 95 (.ia .add .i64 (.t 94) (kI 1)), dO 7 (.tk (.t 95))]))
def l_r16_Size_1 : AC :=
 .loop [1, 2, 5, 7] b_r16_Size_1
def r_r16_Size_0 : AC :=
 .seq (.reg [dO 118 (.mv (.t 5)), dO 4 (.tk (.t 118))])
 (.ret)
def r_r16_Size_1 : AC :=
 .seq (.reg [dO 65 (.mv (.t 5)), dO 66 (.fa 1 (.t 2)), dO 67 (.ld none (.t 66)), dO 68 (.mv (.t 1)), dO 69 (.mv (.t 5)), dO 70 (.ia .sub .i64 (.t 68) (.t 69)), dO 71 (.callc n_r16_block [.t 67, .t 70]), dO 72 (.ia .add .i64 (.t 65) (.t 71)), dO 5 (.tk (.t 72))])
 (.seq (.seq (.reg [dO 73 (.mv (.t 5)), dO 74 (.mv (.t 1)), dO 75 (.ic .leq (.t 73) (.t 74))])
 (.cond (.t 75)
 (.reg [dO 76 (.mv (.t 5)), dO 77 (.fa 2 (.t 2)), dO 78 (.ld none (.t 77)), dO 79 (.mv (.t 1)), dO 80 (.mv (.t 5)), dO 81 (.ia .sub .i64 (.t 79) (.t 80)), dO 82 (.callc n_r16_block [.t 78, .t 81]), dO 83 (.ia .add .i64 (.t 76) (.t 82)), dO 5 (.tk (.t 83))])
 (.skip)))
 (.seq (.seq (.reg [dO 7 (.tk (kI 0))])
 (.block 2 (l_r16_Size_1))) r_r16_Size_0))
def c_r16_Size : AFunc :=
 { np := 2, res := [.t 4], body := (
 .seq (.reg [dO 2 (.box (.t 0)), dO 4 (.tk (kI 0))])
 (.seq (.reg [dO 8 (.mv (.t 1)), dO 9 (.mx false [.t 8, kI 1000]), dO 1 (.tk (.t 9))])
 (.seq (.seq (.reg [dO 10 (.fa 0 (.t 2)), dO 11 (.ld none (.t 10)), dO 12 (.len false (.t 11)), dO 13 (.mv (.t 1)), dO 14 (.ic .gtr (.t 12) (.t 13)), dO 15 (.mv (.t 14)), ⟨some 16, (some (15, false)), .fa 3 (.t 2)⟩, ⟨some 17, (some (15, false)), .ld none (.t 16)⟩, ⟨some 18, (some (15, false)), .len false (.t 17)⟩, ⟨some 19, (some (15, false)), .mv (.t 1)⟩, ⟨some 20, (some (15, false)), .ic .gtr (.t 18) (.t 19)⟩, dO 21 (.pick (.t 15) kT (.t 20))])
 (.cond (.t 21)
 (.seq (.reg [dO 22 (.mv (.t 1)), dO 23 (.ia .add .i64 (.t 22) (kI 1)), dO 4 (.tk (.t 23))])
 (.ret))
 (.skip)))
 (.seq (.reg [dO 24 (.fa 0 (.t 2)), dO 25 (.ld none (.t 24)), dO 26 (.len false (.t 25)), dO 27 (.fa 3 (.t 2)), dO 28 (.ld none (.t 27)), dO 29 (.len false (.t 28)), dO 30 (.ia .add .i64 (.t 26) (.t 29)), dO 5 (.tk (.t 30))])
 (.seq (.seq (.reg [dO 6 (.tk (kI 0))])
 (.block 0 (l_r16_Size_0))) r_r16_Size_1))))) }
def c_tree_Clone : AFunc :=
 { np := 1, res := [.cell 2 (some 4)], body := (
 .seq (.reg [dO 1 (.box (.t 0)), dO 2 (.alloc [.own 2 [], .own 7 [], .own 7 [], .own 5 []])])
 (.seq (.drw [[], [], [], [], [], [], [], [], [], [], [], [], [], []] [dO 3 (.fa 0 (.t 1)), dO 4 (.ld none (.t 3)), dO 5 (.callc n_tree_each_api_Proc [.t 4, (.c (.fn (.func n_tree_Clone_1) [] []))]), dO 6 (.fa 1 (.t 1)), dO 7 (.ld none (.t 6)), dO 8 (.callc n_tree_each_api_Stmt [.t 7, (.c (.fn (.func n_tree_cloned) [] []))]), dO 9 (.fa 2 (.t 1)), dO 10 (.ld none (.t 9)), dO 11 (.callc n_tree_each_api_Stmt [.t 10, (.c (.fn (.func n_tree_cloned) [] []))]), dO 12 (.fa 3 (.t 1)), dO 13 (.ld none (.t 12)), dO 14 (.callc n_tree_each_api_Oracle [.t 13, (.c (.fn (.func n_tree_Clone_2) [] []))]), dO 15 (.bld [.sl 2 [], .sl 7 [], .sl 7 [], .sl 5 []] [(0, 1, .t 5), (1, 1, .t 8), (2, 1, .t 11), (3, 1, .t 14)]), ⟨none, none, .st 4 (.t 2) (.t 15)⟩])
 (.ret))) }
def a_tree_Count_0 : AC :=
 .skip
def y_tree_Count_0 : AC :=
 .block 1 (.reg [dO 7 (.ld none (.t 3)), dO 8 (.ia .add .i64 (.t 7) (kI 1)), ⟨none, none, .st 1 (.t 3) (.t 8)⟩])
def r_tree_Count_0 : AC :=
 .seq (.reg [dO 9 (.ld none (.t 3)), dO 2 (.tk (.t 9))])
 (.ret)
def c_tree_Count : AFunc :=
 { np := 1, res := [.t 2], body := (
 .seq (.reg [dO 2 (.tk (kI 0))])
 (.seq (.reg [dO 3 (.alloc [iZ]), ⟨none, none, .st 1 (.t 3) (kI 0)⟩])
 (.seq (.seq (.reg [dO 4 (.mv (.t 0)), dO 5 (.call n_tree_walk [.t 4])])
 (.block 0 (.rfn (.t 5) [3] q_tree_Count_0 [6] a_tree_Count_0 y_tree_Count_0))) r_tree_Count_0))) }
def c_rewrite_ahead : AFunc :=
 { np := 3, res := [.t 6], body := (
 .seq (.reg [dO 6 (.tk (kI 0))])
 (.seq (.reg [dO 10 (.mv (.t 0)), dO 11 (.mv (.t 1)), dO 12 (.sls 7 (.t 10) none (some (.t 11)) none), dO 13 (.callc n_tree_Count [.t 12]), dO 7 (.tk (.t 13))])
 (.seq (.seq (.reg [dO 14 (.mv (.t 2)), dO 15 (.len false (.t 14)), dO 16 (.ic .eql (.t 15) (kI 0))])
 (.cond (.t 16)
 (.seq (.reg [dO 17 (.mv (.t 7)), dO 6 (.tk (.t 17))])
 (.ret))
 (.skip)))
 (.seq (.drw [[], [], [], [], [], [], [], [], [], [], []] [dO 18 (.mv (.t 0)), dO 19 (.mv (.t 1)), dO 20 (.ixa 7 none (.t 18) (.t 19)), dO 21 (.ld (some 7) (.t 20)), dO 22 (.mv (.t 2)), dO 23 (.ixa 1 none (.t 22) (kI 0)), dO 24 (.ldq none (.t 23) (.t 2)), dO 25 (.ia .shr .i64 (.t 24) (.c (.int .u64 1))), dO 8 (.alloc [iZ, .str [], iZ, .own 4 [], .own 7 [], .own 7 [], .bool false]), ⟨none, none, .stq 7 (.t 8) (.t 21) [.t 2]⟩, dO 9 (.tk (.t 25))])
 (.seq (.seq (.reg [dO 26 (.mv (.t 2)), dO 27 (.ixa 1 none (.t 26) (kI 0)), dO 28 (.ld none (.t 27)), dO 29 (.ia .and .i64 (.t 28) (kI 1)), dO 30 (.ic .eql (.t 29) (kI 1))])
 (.cond (.t 30)
 (.seq (.drw [[], [], [], [], [], [], [], [], [], [], [], [3], [], []] [dO 31 (.mv (.t 7)), dO 32 (.ia .add .i64 (.t 31) (kI 1)), dO 33 (.fa 4 (.t 8)), dO 34 (.ld none (.t 33)), dO 35 (.callc n_tree_Count [.t 34]), dO 36 (.ia .add .i64 (.t 32) (.t 35)), dO 37 (.fa 5 (.t 8)), dO 38 (.ld none (.t 37)), dO 39 (.mv (.t 9)), dO 40 (.mv (.t 2)), dO 41 (.sls 1 (.t 40) (some (kI 1)) none none), dO 42 (.call n_rewrite_ahead [.t 38, .t 39, .t 41]), dO 43 (.ia .add .i64 (.t 36) (.t 42)), dO 6 (.tk (.t 43))])
 (.ret))
 (.skip)))
 (.seq (.drw [[], [], [], [], [], [], [], [], [], []] [dO 44 (.mv (.t 7)), dO 45 (.ia .add .i64 (.t 44) (kI 1)), dO 46 (.fa 4 (.t 8)), dO 47 (.ld none (.t 46)), dO 48 (.mv (.t 9)), dO 49 (.mv (.t 2)), dO 50 (.sls 1 (.t 49) (some (kI 1)) none none), dO 51 (.call n_rewrite_ahead [.t 47, .t 48, .t 50]), dO 52 (.ia .add .i64 (.t 45) (.t 51)), dO 6 (.tk (.t 52))])
 (.ret))))))) }
def b_r16_SameExpr_0 : AC :=
 .seq (.seq (.reg [dO 34 (.mv (.t 5)), dO 35 (.fa 3 (.t 2)), dO 36 (.ld none (.t 35)), dO 37 (.len false (.t 36)), dO 38 (.ic .lss (.t 34) (.t 37))])
 (.cond (.t 38)
 (.skip)
 (.exit 0)))
 (.seq (.block 1 (.seq (.drw [[], [], [], [], [], [], [], [], [], [], [], []] [dO 41 (.fa 3 (.t 2)), dO 42 (.ld none (.t 41)), dO 43 (.mv (.t 5)), dO 44 (.ixa 4 none (.t 42) (.t 43)), dO 45 (.ld (some 4) (.t 44)), dO 46 (.fa 3 (.t 3)), dO 47 (.ld none (.t 46)), dO 48 (.mv (.t 5)), dO 49 (.ixa 4 none (.t 47) (.t 48)), dO 50 (.ld (some 4) (.t 49)), dO 51 (.callc n_r16_SameExpr [.t 45, .t 50]), dO 52 (.notb (.t 51))])
 (.cond (.t 52)
 (.seq (.reg [dO 4 (.tk kF)])
 (.ret))
 (.skip))))
 (.reg [dO 39 (.mv (.t 5)), dO 40 (.ia .add .i64 (.t 39) (kI 1)), dO 5 (.tk (.t 40))]))
def l_r16_SameExpr_0 : AC :=
 .loop [2, 3, 5] b_r16_SameExpr_0
def r_r16_SameExpr_0 : AC :=
 .seq (.reg [dO 4 (.tk kT)])
 (.ret)
def c_r16_SameExpr : AFunc :=
 { np := 2, res := [.t 4], body := (
 .seq (.reg [dO 2 (.box (.t 0)), dO 3 (.box (.t 1)), dO 4 (.tk kF)])
 (.seq (.seq (.reg [dO 6 (.fa 0 (.t 2)), dO 7 (.ld none (.t 6)), dO 8 (.fa 0 (.t 3)), dO 9 (.ld none (.t 8)), dO 10 (.ic .neq (.t 7) (.t 9)), dO 11 (.mv (.t 10)), ⟨some 12, (some (11, false)), .fa 1 (.t 2)⟩, ⟨some 13, (some (11, false)), .ld none (.t 12)⟩, ⟨some 14, (some (11, false)), .fa 1 (.t 3)⟩, ⟨some 15, (some (11, false)), .ld none (.t 14)⟩, ⟨some 16, (some (11, false)), .ic .neq (.t 13) (.t 15)⟩, dO 17 (.pick (.t 11) kT (.t 16)), dO 18 (.mv (.t 17)), ⟨some 19, (some (18, false)), .fa 2 (.t 2)⟩, ⟨some 20, (some (18, false)), .ld none (.t 19)⟩, ⟨some 21, (some (18, false)), .fa 2 (.t 3)⟩, ⟨some 22, (some (18, false)), .ld none (.t 21)⟩, ⟨some 23, (some (18, false)), .sop .neq (.t 20) (.t 22)⟩, dO 24 (.pick (.t 18) kT (.t 23)), dO 25 (.mv (.t 24)), ⟨some 26, (some (25, false)), .fa 3 (.t 2)⟩, ⟨some 27, (some (25, false)), .ld none (.t 26)⟩, ⟨some 28, (some (25, false)), .len false (.t 27)⟩, ⟨some 29, (some (25, false)), .fa 3 (.t 3)⟩, ⟨some 30, (some (25, false)), .ld none (.t 29)⟩, ⟨some 31, (some (25, false)), .len false (.t 30)⟩, ⟨some 32, (some (25, false)), .ic .neq (.t 28) (.t 31)⟩, dO 33 (.pick (.t 25) kT (.t 32))])
 (.cond (.t 33)
 (.seq (.reg [dO 4 (.tk kF)])
 (.ret))
 (.skip)))
 (.seq (.seq (.reg [dO 5 (.tk (kI 0))])
 (.block 0 (l_r16_SameExpr_0))) r_r16_SameExpr_0))) }
def c_site_fits : AFunc :=
 { np := 2, res := [.t 4], body := (
 .seq (.reg [dO 4 (.tk kF)])
 (.seq (.seq (.reg [dO 6 (.mv (.t 1)), dO 7 (.len false (.t 6)), dO 8 (.ic .eql (.t 7) (kI 0))])
 (.cond (.t 8)
 (.seq (.reg [dO 4 (.tk kF)])
 (.ret))
 (.skip)))
 (.seq (.seq (.reg [dO 9 (.mv (.t 1)), dO 10 (.ixa 7 none (.t 9) (kI 0)), dO 11 (.ld (some 7) (.t 10)), dO 5 (.alloc [iZ, .str [], iZ, .own 4 [], .own 7 [], .own 7 [], .bool false]), ⟨none, none, .st 7 (.t 5) (.t 11)⟩])
 (.seq (.reg [dO 12 (.mv (.t 0))])
 (.block 0 (.seq (.reg [dO 14 (.ic .eql (.t 12) (kI 1)), dO 13 (.tk (.t 14))])
 (.cond (.t 13)
 (.seq (.reg [dO 15 (.fa 0 (.t 5)), dO 16 (.ld none (.t 15)), dO 17 (.ic .eql (.t 16) (kI 8)), dO 18 (.mv (.t 17)), ⟨some 19, (some (18, false)), .fa 0 (.t 5)⟩, ⟨some 20, (some (18, false)), .ld none (.t 19)⟩, ⟨some 21, (some (18, false)), .ic .eql (.t 20) (kI 9)⟩, dO 22 (.pick (.t 18) kT (.t 21)), dO 4 (.tk (.t 22))])
 (.ret))
 (.seq (.reg [dO 24 (.ic .eql (.t 12) (kI 2)), dO 23 (.tk (.t 24))])
 (.cond (.t 23)
 (.seq (.reg [dO 25 (.fa 0 (.t 5)), dO 26 (.ld none (.t 25)), dO 27 (.ic .eql (.t 26) (kI 8)), dO 4 (.tk (.t 27))])
 (.ret))
 (.seq (.reg [dO 29 (.ic .eql (.t 12) (kI 3)), dO 28 (.tk (.t 29))])
 (.cond (.t 28)
 (.seq (.reg [dO 30 (.fa 0 (.t 5)), dO 31 (.ld none (.t 30)), dO 32 (.ic .eql (.t 31) (kI 10)), dO 4 (.tk (.t 32))])
 (.ret))
 (.seq (.reg [dO 34 (.ic .eql (.t 12) (kI 4)), dO 33 (.tk (.t 34))])
 (.cond (.t 33)
 (.seq (.reg [dO 35 (.fa 0 (.t 5)), dO 36 (.ld none (.t 35)), dO 37 (.ic .eql (.t 36) (kI 11)), dO 4 (.tk (.t 37))])
 (.ret))
 (.seq (.reg [dO 39 (.ic .eql (.t 12) (kI 5)), dO 38 (.tk (.t 39))])
 (.cond (.t 38)
 (.seq (.reg [dO 40 (.ld (some 7) (.t 5)), dO 41 (.callc n_site_writes [.t 40]), dO 42 (.mv (.t 41)), ⟨some 43, (some (42, true)), .mv (.t 1)⟩, ⟨some 44, (some (42, true)), .len false (.t 43)⟩, ⟨some 45, (some (42, true)), .ic .gtr (.t 44) (kI 1)⟩, dO 46 (.pick (.t 42) (.t 45) kF), dO 47 (.mv (.t 46)), ⟨some 48, (some (47, true)), .mv (.t 1)⟩, ⟨some 49, (some (47, true)), .ixa 7 none (.t 48) (kI 1)⟩, ⟨some 50, (some (47, true)), .ld (some 7) (.t 49)⟩, ⟨some 51, (some (47, true)), .callc n_site_writes [.t 50]⟩, dO 52 (.pick (.t 47) (.t 51) kF), dO 4 (.tk (.t 52))])
 (.ret))
 (.seq (.reg [dO 54 (.ic .eql (.t 12) (kI 6)), dO 53 (.tk (.t 54))])
 (.cond (.t 53)
 (.seq (.reg [dO 55 (.fa 0 (.t 5)), dO 56 (.ld none (.t 55)), dO 57 (.ic .eql (.t 56) (kI 16)), dO 58 (.mv (.t 57)), ⟨some 59, (some (58, true)), .fa 6 (.t 5)⟩, ⟨some 60, (some (58, true)), .ld none (.t 59)⟩, dO 61 (.pick (.t 58) (.t 60) kF), dO 4 (.tk (.t 61))])
 (.ret))
 (.seq (.reg [dO 63 (.ic .eql (.t 12) (kI 7)), dO 62 (.tk (.t 63))])
 (.cond (.t 62)
 (.seq (.reg [dO 64 (.ld (some 7) (.t 5)), dO 65 (.callc n_site_torn [.t 64]), dO 4 (.tk (.t 65))])
 (.ret))
 (.seq (.reg [dO 67 (.ic .eql (.t 12) (kI 8)), dO 66 (.tk (.t 67))])
 (.cond (.t 66)
 (.seq (.reg [dO 68 (.ld (some 7) (.t 5)), dO 69 (.callc n_site_writes [.t 68]), dO 4 (.tk (.t 69))])
 (.ret))
 (.skip))))))))))))))))))))
 (.seq (.reg [dO 4 (.tk kF)])
 (.ret))))) }
def b_site_lead_0 : AC :=
 .seq (.reg [dO 41 (.ic .lss (.t 40) (.t 39))])
 (.seq (.cond (.t 41)
 (.skip)
 (.exit 0))
 (.seq (.block 1 (.seq (.reg [dO 42 (.ixa 1 none (.t 38) (.t 40)), dO 43 (.ld none (.t 42)), dO 9 (.tk (.t 43))])
 (.seq (.seq (.reg [dO 44 (.mv (.t 7)), dO 45 (.mv (.t 6)), dO 46 (.len false (.t 45)), dO 47 (.ic .geq (.t 44) (.t 46))])
 (.cond (.t 47)
 (.seq (.reg [dO 4 (.tk (.c (.own 7 [])))])
 (.ret))
 (.skip)))
 (.reg [dO 49 (.mv (.t 6)), dO 50 (.mv (.t 7)), dO 51 (.ixa 7 none (.t 49) (.t 50)), dO 52 (.ld (some 7) (.t 51)), dO 53 (.mv (.t 9)), dO 54 (.callc n_site_next [.t 52, .t 53]), dO 48 (.mv (.t 54)), dO 55 (.ext (.t 48) 0), dO 56 (.ext (.t 48) 1), dO 6 (.tk (.t 55)), dO 7 (.tk (.t 56))]))))
 (.reg [dO 57 (.ia .add .i64 (.t 40) (kI 1)), dO 40 (.mv (.t 57))])))
def l_site_lead_0 : AC :=
 .loop [6, 7, 38, 39, 40] b_site_lead_0
def r_site_lead_0 : AC :=
 .seq (.reg [dO 58 (.mv (.t 6)), dO 59 (.mv (.t 7)), dO 60 (.mv (.t 6)), dO 61 (.len false (.t 60)), dO 62 (.mx false [.t 59, .t 61]), dO 63 (.sls 7 (.t 58) (some (.t 62)) none none), dO 4 (.tk (.t 63))])
 (.ret)
def c_site_lead : AFunc :=
 { np := 2, res := [.t 4], body := (
 .seq (.reg [dO 2 (.box (.t 0)), dO 3 (.box (.t 1)), dO 4 (.tk (.c (.own 7 [])))])
 (.seq (.reg [dO 10 (.ld (some 4) (.t 2)), dO 11 (.callc n_site_parts [.t 10]), dO 5 (.tk (.t 11))])
 (.seq (.seq (.reg [dO 12 (.fa 1 (.t 3)), dO 13 (.ld none (.t 12)), dO 14 (.ic .lss (.t 13) (kI 0)), dO 15 (.mv (.t 14)), ⟨some 16, (some (15, false)), .fa 1 (.t 3)⟩, ⟨some 17, (some (15, false)), .ld none (.t 16)⟩, ⟨some 18, (some (15, false)), .mv (.t 5)⟩, ⟨some 19, (some (15, false)), .len false (.t 18)⟩, ⟨some 20, (some (15, false)), .ic .geq (.t 17) (.t 19)⟩, dO 21 (.pick (.t 15) kT (.t 20)), dO 22 (.mv (.t 21)), ⟨some 23, (some (22, false)), .ld (some 11) (.t 3)⟩, ⟨some 24, (some (22, false)), .callc n_site_may [.t 23]⟩, ⟨some 25, (some (22, false)), .notb (.t 24)⟩, dO 26 (.pick (.t 22) kT (.t 25))])
 (.cond (.t 26)
 (.seq (.reg [dO 4 (.tk (.c (.own 7 [])))])
 (.ret))
 (.skip)))
 (.seq (.drw [[], [], [], [], [], [], [], [], [], []] [dO 27 (.mv (.t 5)), dO 28 (.fa 1 (.t 3)), dO 29 (.ld none (.t 28)), dO 30 (.ixa 1 none (.t 27) (.t 29)), dO 31 (.ld none (.t 30)), dO 32 (.fa 2 (.t 3)), dO 33 (.ixa 1 (some 8) (.t 32) (kI 0)), dO 34 (.ld none (.t 33)), dO 6 (.tk (.t 31)), dO 7 (.tk (.t 34))])
 (.seq (.seq (.reg [dO 35 (.fa 2 (.t 3)), dO 36 (.fa 10 (.t 3)), dO 37 (.ld none (.t 36)), dO 38 (.slp 1 8 (.t 35) (some (kI 1)) (some (.t 37)) none), dO 39 (.len false (.t 38)), dO 40 (.mv (kI 0))])
 (.block 0 (l_site_lead_0))) r_site_lead_0))))) }
def c_tree_Right_1 : AFunc :=
 { np := 1, res := [.t 2], body := (
 .seq (.reg [dO 1 (.box (.t 0)), dO 2 (.tk kF)])
 (.seq (.reg [dO 3 (.fa 0 (.t 1)), dO 4 (.ld none (.t 3)), dO 5 (.callc n_lex_Name [.t 4]), dO 6 (.notb (.t 5)), dO 2 (.tk (.t 6))])
 (.ret))) }
def c_lex_Name : AFunc :=
 { np := 1, res := [.t 2], body := (
 .seq (.reg [dO 2 (.tk kF)])
 (.seq (.reg [dO 3 (.mv (.t 0)), dO 4 (.callc n_lex_begins [.t 3, (.c (.fn (.func n_lex_letter) [] []))]), dO 5 (.mv (.t 4)), ⟨some 6, (some (5, true)), .mv (.t 0)⟩, ⟨some 7, (some (5, true)), .len true (.t 6)⟩, ⟨some 8, (some (5, true)), .ic .leq (.t 7) (kI 8)⟩, dO 9 (.pick (.t 5) (.t 8) kF), dO 10 (.mv (.t 9)), ⟨some 11, (some (10, true)), .mv (.t 0)⟩, ⟨some 12, (some (10, true)), .callc n_lex_run [.t 11, (.c (.fn (.func n_lex_inner) [] []))]⟩, ⟨some 13, (some (10, true)), .mv (.t 0)⟩, ⟨some 14, (some (10, true)), .sop .eql (.t 12) (.t 13)⟩, dO 15 (.pick (.t 10) (.t 14) kF), dO 16 (.mv (.t 15)), ⟨some 17, (some (16, true)), .mv (.t 0)⟩, ⟨some 18, (some (16, true)), .callc n_lex_Key [.t 17]⟩, ⟨some 19, (some (16, true)), .notb (.t 18)⟩, dO 20 (.pick (.t 16) (.t 19) kF), dO 2 (.tk (.t 20))])
 (.ret))) }
def c_tree_Right_2 : AFunc :=
 { np := 1, res := [.t 2], body := (
 .seq (.reg [dO 1 (.box (.t 0)), dO 2 (.tk kF)])
 (.seq (.reg [dO 3 (.fa 0 (.t 1)), dO 4 (.ld none (.t 3)), dO 5 (.callc n_lex_Name [.t 4]), dO 6 (.notb (.t 5)), dO 7 (.mv (.t 6)), ⟨some 8, (some (7, false)), .fa 1 (.t 1)⟩, ⟨some 9, (some (7, false)), .ld (some 4) (.t 8)⟩, ⟨some 10, (some (7, false)), .callc n_tree_expr [.t 9, kI 8]⟩, ⟨some 11, (some (7, false)), .notb (.t 10)⟩, dO 12 (.pick (.t 7) kT (.t 11)), dO 2 (.tk (.t 12))])
 (.ret))) }
def c_tree_expr : AFunc :=
 { np := 2, res := [.t 4], body := (
 .seq (.reg [dO 2 (.box (.t 0)), dO 3 (.box (.t 1)), dO 4 (.tk kF)])
 (.seq (.reg [dO 9 (.fa 0 (.t 2)), dO 10 (.ld none (.t 9)), dO 11 (.callc n_tree_Parts [.t 10]), dO 8 (.mv (.t 11)), dO 12 (.ext (.t 8) 0), dO 13 (.ext (.t 8) 1), dO 5 (.tk (.t 12)), dO 6 (.tk (.t 13))])
 (.seq (.seq (.reg [dO 14 (.mv (.t 6)), dO 15 (.notb (.t 14)), dO 16 (.mv (.t 15)), ⟨some 17, (some (16, false)), .ld none (.t 3)⟩, ⟨some 18, (some (16, false)), .ic .eql (.t 17) (kI 0)⟩, dO 19 (.pick (.t 16) kT (.t 18)), dO 20 (.mv (.t 19)), ⟨some 21, (some (20, false)), .fa 3 (.t 2)⟩, ⟨some 22, (some (20, false)), .ld none (.t 21)⟩, ⟨some 23, (some (20, false)), .len false (.t 22)⟩, ⟨some 24, (some (20, false)), .mv (.t 5)⟩, ⟨some 25, (some (20, false)), .ic .neq (.t 23) (.t 24)⟩, dO 26 (.pick (.t 20) kT (.t 25))])
 (.cond (.t 26)
 (.seq (.reg [dO 4 (.tk kF)])
 (.ret))
 (.skip)))
 (.seq (.seq (.reg [dO 27 (.fa 0 (.t 2)), dO 28 (.ld none (.t 27)), dO 29 (.fa 1 (.t 2)), dO 30 (.ld none (.t 29)), dO 31 (.fa 2 (.t 2)), dO 32 (.ld none (.t 31)), dO 33 (.bld [iZ, iZ, .str [], .sl 4 []] [(0, 1, .t 28), (1, 1, .t 30), (2, 1, .t 32)]), dO 7 (.alloc [iZ, iZ, .str [], .own 4 []]), ⟨none, none, .st 4 (.t 7) (.t 33)⟩])
 (.seq (.reg [dO 34 (.fa 0 (.t 7)), dO 35 (.ld none (.t 34))])
 (.block 0 (.seq (.reg [dO 45 (.ic .eql (.t 35) (kI 1)), dO 44 (.tk (.t 45))])
 (.cond (.t 44)
 (.reg [dO 46 (.fa 1 (.t 7)), dO 47 (.ld none (.t 46)), dO 48 (.ic .geq (.t 47) (kI 0)), dO 49 (.mv (.t 48)), ⟨some 50, (some (49, true)), .fa 1 (.t 7)⟩, ⟨some 51, (some (49, true)), .ld none (.t 50)⟩, ⟨some 52, (some (49, true)), .ic .leq (.t 51) (kI 1000000000000)⟩, dO 53 (.pick (.t 49) (.t 52) kF), dO 54 (.mv (.t 53)), ⟨some 55, (some (54, true)), .fa 2 (.t 7)⟩, ⟨some 56, (some (54, true)), .ld none (.t 55)⟩, ⟨some 57, (some (54, true)), .sop .eql (.t 56) (kS [])⟩, dO 58 (.pick (.t 54) (.t 57) kF), dO 6 (.tk (.t 58))])
 (.seq (.reg [dO 60 (.ic .eql (.t 35) (kI 3)), dO 59 (.tk (.t 60))])
 (.cond (.t 59)
 (.reg [dO 61 (.fa 1 (.t 7)), dO 62 (.ld none (.t 61)), dO 63 (.ia .shr .i64 (.t 62) (.c (.int .u64 1))), dO 64 (.ic .eql (.t 63) (kI 0)), dO 65 (.mv (.t 64)), ⟨some 66, (some (65, true)), .fa 2 (.t 7)⟩, ⟨some 67, (some (65, true)), .ld none (.t 66)⟩, ⟨some 68, (some (65, true)), .sop .eql (.t 67) (kS [])⟩, dO 69 (.pick (.t 65) (.t 68) kF), dO 6 (.tk (.t 69))])
 (.seq (.reg [dO 71 (.ic .eql (.t 35) (kI 2)), dO 70 (.tk (.t 71))])
 (.cond (.t 70)
 (.reg [dO 72 (.fa 2 (.t 7)), dO 73 (.ld none (.t 72)), dO 74 (.len true (.t 73)), dO 75 (.ic .leq (.t 74) (kI 64)), dO 76 (.mv (.t 75)), ⟨some 77, (some (76, true)), .fa 1 (.t 7)⟩, ⟨some 78, (some (76, true)), .ld none (.t 77)⟩, ⟨some 79, (some (76, true)), .ic .eql (.t 78) (kI 0)⟩, dO 80 (.pick (.t 76) (.t 79) kF), dO 6 (.tk (.t 80))])
 (.seq (.reg [dO 82 (.ic .eql (.t 35) (kI 4)), dO 81 (.tk (.t 82))])
 (.cond (.t 81)
 (.reg [dO 83 (.fa 2 (.t 7)), dO 84 (.ld none (.t 83)), dO 85 (.callc n_lex_Name [.t 84]), dO 86 (.mv (.t 85)), ⟨some 87, (some (86, true)), .fa 1 (.t 7)⟩, ⟨some 88, (some (86, true)), .ld none (.t 87)⟩, ⟨some 89, (some (86, true)), .ic .eql (.t 88) (kI 0)⟩, dO 90 (.pick (.t 86) (.t 89) kF), dO 6 (.tk (.t 90))])
 (.reg [dO 36 (.fa 2 (.t 7)), dO 37 (.ld none (.t 36)), dO 38 (.sop .eql (.t 37) (kS [])), dO 39 (.mv (.t 38)), ⟨some 40, (some (39, true)), .fa 1 (.t 7)⟩, ⟨some 41, (some (39, true)), .ld none (.t 40)⟩, ⟨some 42, (some (39, true)), .ic .eql (.t 41) (kI 0)⟩, dO 43 (.pick (.t 39) (.t 42) kF), dO 6 (.tk (.t 43))]))))))))))))
 (.seq (.reg [dO 91 (.mv (.t 6)), dO 92 (.mv (.t 91)), ⟨some 93, (some (92, true)), .fa 3 (.t 2)⟩, ⟨some 94, (some (92, true)), .ld none (.t 93)⟩, ⟨some 95, (some (92, true)), .mkf (.func n_tree_expr_1) [] [.t 3]⟩, ⟨some 96, (some (92, true)), .call n_sC_Expr_api_Expr [.t 94, .t 95]⟩, ⟨some 97, (some (92, true)), .notb (.t 96)⟩, dO 98 (.pick (.t 92) (.t 97) kF), dO 4 (.tk (.t 98))])
 (.ret)))))) }
def c_tree_Right_3 : AFunc :=
 { np := 1, res := [.t 2], body := (
 .seq (.reg [dO 2 (.tk kF)])
 (.seq (.reg [dO 3 (.mv (.t 0)), dO 4 (.callc n_tree_block [.t 3, kI 1]), dO 5 (.notb (.t 4)), dO 2 (.tk (.t 5))])
 (.ret))) }
def c_tree_block : AFunc :=
 { np := 2, res := [.t 4], body := (
 .seq (.reg [dO 3 (.box (.t 1)), dO 4 (.tk kF)])
 (.seq (.reg [dO 5 (.mv (.t 0)), dO 6 (.mkf (.func n_tree_block_1) [] [.t 3]), dO 7 (.call n_sC_Stmt_api_Stmt_x [.t 5, .t 6]), dO 8 (.notb (.t 7)), dO 4 (.tk (.t 8))])
 (.ret))) }
def c_sC_Proc_api_Proc : AFunc :=
 { np := 2, res := [.t 4], body := (
 .seq (.reg [dO 4 (.tk kF)])
 (.seq (.reg [dO 5 (.mv (.t 0)), dO 6 (.mv (.t 1)), dO 7 (.call n_sI_Proc_api_Proc [.t 5, .t 6]), dO 8 (.ic .geq (.t 7) (kI 0)), dO 4 (.tk (.t 8))])
 (.ret))) }
def c_sC_Oracle_api_Oracle : AFunc :=
 { np := 2, res := [.t 4], body := (
 .seq (.reg [dO 4 (.tk kF)])
 (.seq (.reg [dO 5 (.mv (.t 0)), dO 6 (.mv (.t 1)), dO 7 (.call n_sI_Oracle_api_Oracle [.t 5, .t 6]), dO 8 (.ic .geq (.t 7) (kI 0)), dO 4 (.tk (.t 8))])
 (.ret))) }
def c_sC_Stmt_api_Stmt : AFunc :=
 { np := 2, res := [.t 4], body := (
 .seq (.reg [dO 4 (.tk kF)])
 (.seq (.reg [dO 5 (.mv (.t 0)), dO 6 (.mv (.t 1)), dO 7 (.call n_sI_Stmt_api_Stmt [.t 5, .t 6]), dO 8 (.ic .geq (.t 7) (kI 0)), dO 4 (.tk (.t 8))])
 (.ret))) }
def b_tree_parts_0 : AC :=
 .seq (.reg [dO 10 (.ic .lss (.t 9) (.t 8))])
 (.seq (.cond (.t 10)
 (.skip)
 (.exit 0))
 (.seq (.block 1 (.seq (.reg [dO 11 (.ixa 2 none (.t 7) (.t 9)), dO 12 (.ld (some 2) (.t 11)), dO 5 (.alloc [.str [], .own 7 []]), ⟨none, none, .st 2 (.t 5) (.t 12)⟩])
 (.reg [dO 13 (.tk (.t 3)), dO 14 (.fa 1 (.t 5)), dO 15 (.ld none (.t 14)), dO 16 (.bsl 1 [.sl 7 []] 1 [(0, 1, .t 15)] false), dO 17 (.app 1 24 (.t 13) (.t 16) false), dO 3 (.tk (.t 17))])))
 (.reg [dO 18 (.ia .add .i64 (.t 9) (kI 1)), dO 9 (.mv (.t 18))])))
def l_tree_parts_0 : AC :=
 .loop [1, 3, 7, 8, 9] b_tree_parts_0
def r_tree_parts_0 : AC :=
 .seq (.reg [dO 19 (.tk (.t 3)), dO 20 (.fa 1 (.t 1)), dO 21 (.ld none (.t 20)), dO 22 (.fa 2 (.t 1)), dO 23 (.ld none (.t 22)), dO 24 (.bsl 1 [.sl 7 []] 2 [(0, 1, .t 21), (1, 1, .t 23)] false), dO 25 (.app 1 24 (.t 19) (.t 24) false), dO 2 (.tk (.t 25))])
 (.ret)
def c_tree_parts : AFunc :=
 { np := 1, res := [.t 2], body := (
 .seq (.reg [dO 1 (.box (.t 0)), dO 2 (.tk (.c (.own 1 [])))])
 (.seq (.reg [dO 3 (.tk (.c (.own 1 [])))])
 (.seq (.seq (.reg [dO 6 (.fa 0 (.t 1)), dO 7 (.ld none (.t 6)), dO 8 (.len false (.t 7)), dO 9 (.mv (kI 0))])
 (.block 0 (l_tree_parts_0))) r_tree_parts_0))) }
def c_tree_walk : AFunc :=
 { np := 1, res := [.t 2], body := (
 .seq (.reg [dO 1 (.box (.t 0)), dO 2 (.tk (.c (.nilf)))])
 (.seq (.reg [dO 3 (.mkf (.func n_tree_walk_1) [] [.t 1]), dO 2 (.tk (.t 3))])
 (.ret))) }
def c_tree_cloned : AFunc :=
 { np := 1, res := [.cell 2 (some 7)], body := (
 .seq (.reg [dO 1 (.box (.t 0)), dO 2 (.alloc [iZ, .str [], iZ, .own 4 [], .own 7 [], .own 7 [], .bool false])])
 (.seq (.reg [dO 3 (.fa 3 (.t 1)), dO 4 (.ld none (.t 3)), dO 5 (.callc n_tree_each_api_Expr [.t 4, (.c (.fn (.func n_tree_clonedExpr) [] []))]), dO 6 (.fa 3 (.t 1)), ⟨none, none, .st 1 (.t 6) (.t 5)⟩])
 (.seq (.reg [dO 7 (.fa 4 (.t 1)), dO 8 (.ld none (.t 7)), dO 9 (.callc n_tree_each_api_Stmt [.t 8, (.c (.fn (.func n_tree_cloned) [] []))]), dO 10 (.fa 4 (.t 1)), ⟨none, none, .st 1 (.t 10) (.t 9)⟩])
 (.seq (.reg [dO 11 (.fa 5 (.t 1)), dO 12 (.ld none (.t 11)), dO 13 (.callc n_tree_each_api_Stmt [.t 12, (.c (.fn (.func n_tree_cloned) [] []))]), dO 14 (.fa 5 (.t 1)), ⟨none, none, .st 1 (.t 14) (.t 13)⟩])
 (.seq (.reg [dO 15 (.ld (some 7) (.t 1)), ⟨none, none, .st 7 (.t 2) (.t 15)⟩])
 (.ret)))))) }
def b_r16_block_0 : AC :=
 .seq (.seq (.reg [dO 30 (.mv (.t 7)), dO 31 (.mv (.t 0)), dO 32 (.mv (.t 6)), dO 33 (.ixa 7 none (.t 31) (.t 32)), dO 34 (.fa 3 (.t 33)), dO 35 (.ld none (.t 34)), dO 36 (.len false (.t 35)), dO 37 (.ic .lss (.t 30) (.t 36))])
 (.cond (.t 37)
 (.skip)
 (.exit 2)))
 (.seq (.block 3 (.seq (.reg [dO 40 (.mv (.t 5)), dO 41 (.mv (.t 0)), dO 42 (.mv (.t 6)), dO 43 (.ixa 7 none (.t 41) (.t 42)), dO 44 (.fa 3 (.t 43)), dO 45 (.ld none (.t 44)), dO 46 (.mv (.t 7)), dO 47 (.ixa 4 none (.t 45) (.t 46)), dO 48 (.ld (some 4) (.t 47)), dO 49 (.mv (.t 1)), dO 50 (.mv (.t 5)), dO 51 (.ia .sub .i64 (.t 49) (.t 50)), dO 52 (.callc n_r16_expr [.t 48, .t 51]), dO 53 (.ia .add .i64 (.t 40) (.t 52)), dO 5 (.tk (.t 53))])
 (.seq (.reg [dO 54 (.mv (.t 5)), dO 55 (.mv (.t 1)), dO 56 (.ic .gtr (.t 54) (.t 55))])
 (.cond (.t 56)
 (.seq (.reg [dO 57 (.mv (.t 1)), dO 58 (.ia .add .i64 (.t 57) (kI 1)), dO 4 (.tk (.t 58))])
 (.ret))
 (.skip)))))
 (.reg [dO 38 (.mv (.t 7)), dO 39 (.ia .add .i64 (.t 38) (kI 1)), dO 7 (.tk (.t 39))]))
def l_r16_block_0 : AC :=
 .loop [0, 1, 5, 6, 7] b_r16_block_0
def r_r16_block_0 : AC :=
 .seq (.reg [dO 59 (.mv (.t 5)), dO 60 (.mv (.t 0)), dO 61 (.mv (.t 6)), dO 62 (.ixa 7 none (.t 60) (.t 61)), dO 63 (.fa 4 (.t 62)), dO 64 (.ld none (.t 63)), dO 65 (.mv (.t 1)), dO 66 (.mv (.t 5)), dO 67 (.ia .sub .i64 (.t 65) (.t 66)), dO 68 (.callc n_r16_block [.t 64, .t 67]), dO 69 (.ia .add .i64 (.t 59) (.t 68)), dO 5 (.tk (.t 69))])
 (.seq (.seq (.reg [dO 70 (.mv (.t 5)), dO 71 (.mv (.t 1)), dO 72 (.ic .gtr (.t 70) (.t 71))])
 (.cond (.t 72)
 (.seq (.reg [dO 73 (.mv (.t 1)), dO 74 (.ia .add .i64 (.t 73) (kI 1)), dO 4 (.tk (.t 74))])
 (.ret))
 (.skip)))
 (.seq (.reg [dO 75 (.mv (.t 5)), dO 76 (.mv (.t 0)), dO 77 (.mv (.t 6)), dO 78 (.ixa 7 none (.t 76) (.t 77)), dO 79 (.fa 5 (.t 78)), dO 80 (.ld none (.t 79)), dO 81 (.mv (.t 1)), dO 82 (.mv (.t 5)), dO 83 (.ia .sub .i64 (.t 81) (.t 82)), dO 84 (.callc n_r16_block [.t 80, .t 83]), dO 85 (.ia .add .i64 (.t 75) (.t 84)), dO 5 (.tk (.t 85))])
 (.seq (.reg [dO 86 (.mv (.t 5)), dO 87 (.mv (.t 1)), dO 88 (.ic .gtr (.t 86) (.t 87))])
 (.cond (.t 88)
 (.seq (.reg [dO 89 (.mv (.t 1)), dO 90 (.ia .add .i64 (.t 89) (kI 1)), dO 4 (.tk (.t 90))])
 (.ret))
 (.skip)))))
def r_r16_block_1 : AC :=
 .reg [dO 12 (.mv (.t 6)), dO 13 (.ia .add .i64 (.t 12) (kI 1)), dO 6 (.tk (.t 13))]
def b_r16_block_1 : AC :=
 .seq (.seq (.reg [dO 8 (.mv (.t 6)), dO 9 (.mv (.t 0)), dO 10 (.len false (.t 9)), dO 11 (.ic .lss (.t 8) (.t 10))])
 (.cond (.t 11)
 (.skip)
 (.exit 0)))
 (.seq (.block 1 (.seq (.reg [dO 14 (.mv (.t 5)), dO 15 (.ia .add .i64 (.t 14) (kI 1)), dO 5 (.tk (.t 15))])
 (.seq (.seq (.reg [dO 16 (.mv (.t 5)), dO 17 (.mv (.t 1)), dO 18 (.ic .gtr (.t 16) (.t 17)), dO 19 (.mv (.t 18)), ⟨some 20, (some (19, false)), .mv (.t 0)⟩, ⟨some 21, (some (19, false)), .mv (.t 6)⟩, ⟨some 22, (some (19, false)), .ixa 7 none (.t 20) (.t 21)⟩, ⟨some 23, (some (19, false)), .fa 1 (.t 22)⟩, ⟨some 24, (some (19, false)), .ld none (.t 23)⟩, ⟨some 25, (some (19, false)), .len true (.t 24)⟩, ⟨some 26, (some (19, false)), .ic .gtr (.t 25) (kI 300)⟩, dO 27 (.pick (.t 19) kT (.t 26))])
 (.cond (.t 27)
 (.seq (.reg [dO 28 (.mv (.t 1)), dO 29 (.ia .add .i64 (.t 28) (kI 1)), dO 4 (.tk (.t 29))])
 (.ret))
 (.skip)))
 (.seq (.seq (.reg [dO 7 (.tk (kI 0))])
 (.block 2 (l_r16_block_0))) r_r16_block_0)))) r_r16_block_1)
def l_r16_block_1 : AC :=
 .loop [0, 1, 5, 6] b_r16_block_1
def r_r16_block_2 : AC :=
 .seq (.reg [dO 91 (.mv (.t 5)), dO 4 (.tk (.t 91))])
 (.ret)
def c_r16_block : AFunc :=
 { np := 2, res := [.t 4], body := (
 .seq (.reg [dO 4 (.tk (kI 0))])
 (.seq (.reg [dO 5 (.tk (kI 0))])
 (.seq (.seq (.reg [dO 6 (.tk (kI 0))])
 (.block 0 (l_r16_block_1))) r_r16_block_2))) }
def b_r16_expr_0 : AC :=
 .seq (.seq (.reg [dO 17 (.mv (.t 6)), dO 18 (.fa 3 (.t 2)), dO 19 (.ld none (.t 18)), dO 20 (.len false (.t 19)), dO 21 (.ic .lss (.t 17) (.t 20))])
 (.cond (.t 21)
 (.skip)
 (.exit 0)))
 (.seq (.block 1 (.seq (.reg [dO 24 (.mv (.t 5)), dO 25 (.fa 3 (.t 2)), dO 26 (.ld none (.t 25)), dO 27 (.mv (.t 6)), dO 28 (.ixa 4 none (.t 26) (.t 27)), dO 29 (.ld (some 4) (.t 28)), dO 30 (.mv (.t 1)), dO 31 (.mv (.t 5)), dO 32 (.ia .sub .i64 (.t 30) (.t 31)), dO 33 (.callc n_r16_expr [.t 29, .t 32]), dO 34 (.ia .add .i64 (.t 24) (.t 33)), dO 5 (.tk (.t 34))])
 (.seq (.reg [dO 35 (.mv (.t 5)), dO 36 (.mv (.t 1)), dO 37 (.ic .gtr (.t 35) (.t 36))])
 (.cond (.t 37)
 (.seq (.reg [dO 38 (.mv (.t 1)), dO 39 (.ia .add .i64 (.t 38) (kI 1)), dO 4 (.tk (.t 39))])
 (.ret))
 (.skip)))))
 (.reg [dO 22 (.mv (.t 6)), dO 23 (.ia .add .i64 (.t 22) (kI 1)), dO 6 (.tk (.t 23))]))
def l_r16_expr_0 : AC :=
 .loop [1, 2, 5, 6] b_r16_expr_0
def r_r16_expr_0 : AC :=
 .seq (.reg [dO 40 (.mv (.t 5)), dO 4 (.tk (.t 40))])
 (.ret)
def c_r16_expr : AFunc :=
 { np := 2, res := [.t 4], body := (
 .seq (.reg [dO 2 (.box (.t 0)), dO 4 (.tk (kI 0))])
 (.seq (.seq (.reg [dO 7 (.mv (.t 1)), dO 8 (.ic .lss (.t 7) (kI 1)), dO 9 (.mv (.t 8)), ⟨some 10, (some (9, false)), .fa 2 (.t 2)⟩, ⟨some 11, (some (9, false)), .ld none (.t 10)⟩, ⟨some 12, (some (9, false)), .len true (.t 11)⟩, ⟨some 13, (some (9, false)), .ic .gtr (.t 12) (kI 300)⟩, dO 14 (.pick (.t 9) kT (.t 13))])
 (.cond (.t 14)
 (.seq (.reg [dO 15 (.mv (.t 1)), dO 16 (.ia .add .i64 (.t 15) (kI 1)), dO 4 (.tk (.t 16))])
 (.ret))
 (.skip)))
 (.seq (.reg [dO 5 (.tk (kI 1))])
 (.seq (.seq (.reg [dO 6 (.tk (kI 0))])
 (.block 0 (l_r16_expr_0))) r_r16_expr_0)))) }
def b_tree_each_api_Proc_0 : AC :=
 .seq (.reg [dO 11 (.ic .lss (.t 10) (.t 9))])
 (.seq (.cond (.t 11)
 (.skip)
 (.exit 0))
 (.seq (.block 1 (.seq (.reg [dO 12 (.ixa 2 none (.t 8) (.t 10)), dO 13 (.ld (some 2) (.t 12)), dO 7 (.alloc [.str [], .own 7 []]), ⟨none, none, .st 2 (.t 7) (.t 13)⟩])
 (.reg [dO 14 (.tk (.t 5)), dO 15 (.mv (.t 1)), dO 16 (.ld (some 2) (.t 7)), dO 17 (.callv (.t 15) [.t 16]), dO 18 (.bsl 2 [.str [], .sl 7 []] 1 [(0, 2, .t 17)] false), dO 19 (.app 2 40 (.t 14) (.t 18) false), dO 5 (.tk (.t 19))])))
 (.reg [dO 20 (.ia .add .i64 (.t 10) (kI 1)), dO 10 (.mv (.t 20))])))
def l_tree_each_api_Proc_0 : AC :=
 .loop [1, 5, 8, 9, 10] b_tree_each_api_Proc_0
def r_tree_each_api_Proc_0 : AC :=
 .seq (.reg [dO 21 (.tk (.t 5)), dO 4 (.tk (.t 21))])
 (.ret)
def c_tree_each_api_Proc : AFunc :=
 { np := 2, res := [.t 4], body := (
 .seq (.reg [dO 4 (.tk (.c (.own 2 [])))])
 (.seq (.reg [dO 5 (.tk (.c (.own 2 [])))])
 (.seq (.seq (.reg [dO 8 (.mv (.t 0)), dO 9 (.len false (.t 8)), dO 10 (.mv (kI 0))])
 (.block 0 (l_tree_each_api_Proc_0))) r_tree_each_api_Proc_0))) }
def c_tree_Clone_1 : AFunc :=
 { np := 1, res := [.cell 2 (some 2)], body := (
 .seq (.reg [dO 1 (.box (.t 0)), dO 2 (.alloc [.str [], .own 7 []])])
 (.seq (.drw [[], [], [], [], [], [], []] [dO 3 (.fa 0 (.t 1)), dO 4 (.ld none (.t 3)), dO 5 (.fa 1 (.t 1)), dO 6 (.ld none (.t 5)), dO 7 (.callc n_tree_each_api_Stmt [.t 6, (.c (.fn (.func n_tree_cloned) [] []))]), dO 8 (.bld [.str [], .sl 7 []] [(0, 1, .t 4), (1, 1, .t 7)]), ⟨none, none, .st 2 (.t 2) (.t 8)⟩])
 (.ret))) }
def b_tree_each_api_Stmt_0 : AC :=
 .seq (.reg [dO 11 (.ic .lss (.t 10) (.t 9))])
 (.seq (.cond (.t 11)
 (.skip)
 (.exit 0))
 (.seq (.block 1 (.seq (.reg [dO 12 (.ixa 7 none (.t 8) (.t 10)), dO 13 (.ld (some 7) (.t 12)), dO 7 (.alloc [iZ, .str [], iZ, .own 4 [], .own 7 [], .own 7 [], .bool false]), ⟨none, none, .st 7 (.t 7) (.t 13)⟩])
 (.reg [dO 14 (.tk (.t 5)), dO 15 (.mv (.t 1)), dO 16 (.ld (some 7) (.t 7)), dO 17 (.callv (.t 15) [.t 16]), dO 18 (.bsl 7 [iZ, .str [], iZ, .sl 4 [], .sl 7 [], .sl 7 [], .bool false] 1 [(0, 7, .t 17)] false), dO 19 (.app 7 112 (.t 14) (.t 18) false), dO 5 (.tk (.t 19))])))
 (.reg [dO 20 (.ia .add .i64 (.t 10) (kI 1)), dO 10 (.mv (.t 20))])))
def l_tree_each_api_Stmt_0 : AC :=
 .loop [1, 5, 8, 9, 10] b_tree_each_api_Stmt_0
def r_tree_each_api_Stmt_0 : AC :=
 .seq (.reg [dO 21 (.tk (.t 5)), dO 4 (.tk (.t 21))])
 (.ret)
def c_tree_each_api_Stmt : AFunc :=
 { np := 2, res := [.t 4], body := (
 .seq (.reg [dO 4 (.tk (.c (.own 7 [])))])
 (.seq (.reg [dO 5 (.tk (.c (.own 7 [])))])
 (.seq (.seq (.reg [dO 8 (.mv (.t 0)), dO 9 (.len false (.t 8)), dO 10 (.mv (kI 0))])
 (.block 0 (l_tree_each_api_Stmt_0))) r_tree_each_api_Stmt_0))) }
def b_tree_each_api_Oracle_0 : AC :=
 .seq (.reg [dO 11 (.ic .lss (.t 10) (.t 9))])
 (.seq (.cond (.t 11)
 (.skip)
 (.exit 0))
 (.seq (.block 1 (.seq (.reg [dO 12 (.ixa 5 none (.t 8) (.t 10)), dO 13 (.ld (some 5) (.t 12)), dO 7 (.alloc [.str [], iZ, iZ, .str [], .own 4 []]), ⟨none, none, .st 5 (.t 7) (.t 13)⟩])
 (.reg [dO 14 (.tk (.t 5)), dO 15 (.mv (.t 1)), dO 16 (.ld (some 5) (.t 7)), dO 17 (.callv (.t 15) [.t 16]), dO 18 (.bsl 5 [.str [], iZ, iZ, .str [], .sl 4 []] 1 [(0, 5, .t 17)] false), dO 19 (.app 5 72 (.t 14) (.t 18) false), dO 5 (.tk (.t 19))])))
 (.reg [dO 20 (.ia .add .i64 (.t 10) (kI 1)), dO 10 (.mv (.t 20))])))
def l_tree_each_api_Oracle_0 : AC :=
 .loop [1, 5, 8, 9, 10] b_tree_each_api_Oracle_0
def r_tree_each_api_Oracle_0 : AC :=
 .seq (.reg [dO 21 (.tk (.t 5)), dO 4 (.tk (.t 21))])
 (.ret)
def c_tree_each_api_Oracle : AFunc :=
 { np := 2, res := [.t 4], body := (
 .seq (.reg [dO 4 (.tk (.c (.own 5 [])))])
 (.seq (.reg [dO 5 (.tk (.c (.own 5 [])))])
 (.seq (.seq (.reg [dO 8 (.mv (.t 0)), dO 9 (.len false (.t 8)), dO 10 (.mv (kI 0))])
 (.block 0 (l_tree_each_api_Oracle_0))) r_tree_each_api_Oracle_0))) }
def c_tree_Clone_2 : AFunc :=
 { np := 1, res := [.cell 2 (some 5)], body := (
 .seq (.reg [dO 1 (.box (.t 0)), dO 2 (.alloc [.str [], iZ, iZ, .str [], .own 4 []])])
 (.seq (.drw [[], [], [], [], [], [], []] [dO 3 (.fa 0 (.t 1)), dO 4 (.ld none (.t 3)), dO 5 (.fa 1 (.t 1)), dO 6 (.ld (some 4) (.t 5)), dO 7 (.callc n_tree_clonedExpr [.t 6]), dO 8 (.bld [.str [], iZ, iZ, .str [], .sl 4 []] [(0, 1, .t 4), (1, 4, .t 7)]), ⟨none, none, .st 5 (.t 2) (.t 8)⟩])
 (.ret))) }
def c_tree_clonedExpr : AFunc :=
 { np := 1, res := [.cell 2 (some 4)], body := (
 .seq (.reg [dO 1 (.box (.t 0)), dO 2 (.alloc [iZ, iZ, .str [], .own 4 []])])
 (.seq (.reg [dO 3 (.fa 3 (.t 1)), dO 4 (.ld none (.t 3)), dO 5 (.callc n_tree_each_api_Expr [.t 4, (.c (.fn (.func n_tree_clonedExpr) [] []))]), dO 6 (.fa 3 (.t 1)), ⟨none, none, .st 1 (.t 6) (.t 5)⟩])
 (.seq (.reg [dO 7 (.ld (some 4) (.t 1)), ⟨none, none, .st 4 (.t 2) (.t 7)⟩])
 (.ret)))) }
def c_site_writes : AFunc :=
 { np := 1, res := [.t 2], body := (
 .seq (.reg [dO 1 (.box (.t 0)), dO 2 (.tk kF)])
 (.seq (.reg [dO 3 (.fa 0 (.t 1)), dO 4 (.ld none (.t 3)), dO 5 (.ic .eql (.t 4) (kI 3)), dO 6 (.mv (.t 5)), ⟨some 7, (some (6, false)), .fa 0 (.t 1)⟩, ⟨some 8, (some (6, false)), .ld none (.t 7)⟩, ⟨some 9, (some (6, false)), .ic .eql (.t 8) (kI 4)⟩, dO 10 (.pick (.t 6) kT (.t 9)), dO 2 (.tk (.t 10))])
 (.ret))) }
def c_site_torn : AFunc :=
 { np := 1, res := [.t 2], body := (
 .seq (.reg [dO 1 (.box (.t 0)), dO 2 (.tk kF)])
 (.seq (.seq (.reg [dO 4 (.ld (some 7) (.t 1)), dO 5 (.callc n_site_writes [.t 4]), dO 6 (.notb (.t 5)), dO 7 (.mv (.t 6)), ⟨some 8, (some (7, false)), .fa 3 (.t 1)⟩, ⟨some 9, (some (7, false)), .ld none (.t 8)⟩, ⟨some 10, (some (7, false)), .len false (.t 9)⟩, ⟨some 11, (some (7, false)), .ic .eql (.t 10) (kI 0)⟩, dO 12 (.pick (.t 7) kT (.t 11))])
 (.cond (.t 12)
 (.seq (.reg [dO 2 (.tk kF)])
 (.ret))
 (.skip)))
 (.seq (.reg [dO 13 (.fa 3 (.t 1)), dO 14 (.ld none (.t 13)), dO 15 (.fa 3 (.t 1)), dO 16 (.ld none (.t 15)), dO 17 (.len false (.t 16)), dO 18 (.ia .sub .i64 (.t 17) (kI 1)), dO 19 (.ixa 4 none (.t 14) (.t 18)), dO 20 (.ld (some 4) (.t 19)), dO 3 (.alloc [iZ, iZ, .str [], .own 4 []]), ⟨none, none, .st 4 (.t 3) (.t 20)⟩])
 (.seq (.reg [dO 21 (.fa 0 (.t 3)), dO 22 (.ld none (.t 21)), dO 23 (.ic .eql (.t 22) (kI 2)), dO 24 (.mv (.t 23)), ⟨some 25, (some (24, true)), .fa 2 (.t 3)⟩, ⟨some 26, (some (24, true)), .ld none (.t 25)⟩, ⟨some 27, (some (24, true)), .len true (.t 26)⟩, ⟨some 28, (some (24, true)), .ic .gtr (.t 27) (kI 1)⟩, dO 29 (.pick (.t 24) (.t 28) kF), dO 2 (.tk (.t 29))])
 (.ret))))) }
def b_site_parts_0 : AC :=
 .seq (.reg [dO 13 (.ic .lss (.t 12) (.t 11))])
 (.seq (.cond (.t 13)
 (.skip)
 (.exit 0))
 (.seq (.block 1 (.seq (.reg [dO 14 (.ixa 2 none (.t 10) (.t 12)), dO 15 (.ld (some 2) (.t 14)), dO 5 (.alloc [.str [], .own 7 []]), ⟨none, none, .st 2 (.t 5) (.t 15)⟩])
 (.reg [dO 16 (.tk (.t 3)), dO 17 (.fa 1 (.t 5)), dO 18 (.ld none (.t 17)), dO 19 (.bsl 1 [.sl 7 []] 1 [(0, 1, .t 18)] false), dO 20 (.app 1 24 (.t 16) (.t 19) false), dO 3 (.tk (.t 20))])))
 (.reg [dO 21 (.ia .add .i64 (.t 12) (kI 1)), dO 12 (.mv (.t 21))])))
def l_site_parts_0 : AC :=
 .loop [3, 10, 11, 12] b_site_parts_0
def r_site_parts_0 : AC :=
 .seq (.reg [dO 22 (.tk (.t 3)), dO 2 (.tk (.t 22))])
 (.ret)
def c_site_parts : AFunc :=
 { np := 1, res := [.t 2], body := (
 .seq (.reg [dO 1 (.box (.t 0)), dO 2 (.tk (.c (.own 1 [])))])
 (.seq (.reg [dO 6 (.fa 1 (.t 1)), dO 7 (.ld none (.t 6)), dO 8 (.bsl 1 [.sl 7 []] 1 [(0, 1, .t 7)] false), dO 3 (.tk (.t 8))])
 (.seq (.seq (.reg [dO 9 (.fa 0 (.t 1)), dO 10 (.ld none (.t 9)), dO 11 (.len false (.t 10)), dO 12 (.mv (kI 0))])
 (.block 0 (l_site_parts_0))) r_site_parts_0))) }
def b_site_may_0 : AC :=
 .seq (.reg [dO 17 (.ic .lss (.t 16) (kI 8))])
 (.seq (.cond (.t 17)
 (.skip)
 (.exit 0))
 (.seq (.block 1 (.seq (.reg [dO 18 (.ixv none 1 8 (.t 15) (.t 16)), dO 4 (.tk (.t 18))])
 (.seq (.reg [dO 19 (.mv (.t 4)), dO 20 (.ic .lss (.t 19) (kI 0))])
 (.cond (.t 20)
 (.seq (.reg [dO 2 (.tk kF)])
 (.ret))
 (.skip)))))
 (.reg [dO 21 (.ia .add .i64 (.t 16) (kI 1)), dO 16 (.mv (.t 21))])))
def l_site_may_0 : AC :=
 .loop [1, 15, 16] b_site_may_0
def r_site_may_0 : AC :=
 .seq (.reg [dO 22 (.ld (some 11) (.t 1)), dO 5 (.alloc [iZ, iZ, iZ, iZ, iZ, iZ, iZ, iZ, iZ, iZ, iZ]), ⟨none, none, .st 11 (.t 5) (.t 22)⟩])
 (.seq (.reg [dO 23 (.fa 2 (.t 5)), dO 24 (.fa 10 (.t 1)), dO 25 (.ld none (.t 24)), dO 26 (.slp 1 8 (.t 23) (some (.t 25)) none none), ⟨none, none, .clr 1 [iZ] (.t 26)⟩])
 (.seq (.reg [dO 27 (.fa 2 (.t 5)), dO 28 (.ld (some 8) (.t 27)), dO 29 (.fa 2 (.t 1)), dO 30 (.ld (some 8) (.t 29)), dO 31 (.eqa false [.int .i64, .int .i64, .int .i64, .int .i64, .int .i64, .int .i64, .int .i64, .int .i64] (.t 28) (.t 30)), dO 2 (.tk (.t 31))])
 (.ret)))
def c_site_may : AFunc :=
 { np := 1, res := [.t 2], body := (
 .seq (.reg [dO 1 (.box (.t 0)), dO 2 (.tk kF)])
 (.seq (.seq (.reg [dO 6 (.fa 10 (.t 1)), dO 7 (.ld none (.t 6)), dO 8 (.ic .lss (.t 7) (kI 1)), dO 9 (.mv (.t 8)), ⟨some 10, (some (9, false)), .fa 10 (.t 1)⟩, ⟨some 11, (some (9, false)), .ld none (.t 10)⟩, ⟨some 12, (some (9, false)), .ic .gtr (.t 11) (kI 8)⟩, dO 13 (.pick (.t 9) kT (.t 12))])
 (.cond (.t 13)
 (.seq (.reg [dO 2 (.tk kF)])
 (.ret))
 (.skip)))
 (.seq (.seq (.reg [dO 14 (.fa 2 (.t 1)), dO 15 (.ld (some 8) (.t 14)), dO 16 (.mv (kI 0))])
 (.block 0 (l_site_may_0))) r_site_may_0))) }
def c_site_next : AFunc :=
 { np := 2, res := [.t 4, .t 5], body := (
 .seq (.reg [dO 2 (.box (.t 0)), dO 4 (.tk (.c (.own 7 []))), dO 5 (.tk (kI 0))])
 (.seq (.seq (.reg [dO 6 (.mv (.t 1)), dO 7 (.ia .and .i64 (.t 6) (kI 1)), dO 8 (.ic .eql (.t 7) (kI 1))])
 (.cond (.t 8)
 (.seq (.reg [dO 9 (.fa 5 (.t 2)), dO 10 (.ld none (.t 9)), dO 11 (.mv (.t 1)), dO 12 (.ia .shr .i64 (.t 11) (.c (.int .u64 1))), dO 4 (.tk (.t 10)), dO 5 (.tk (.t 12))])
 (.ret))
 (.skip)))
 (.seq (.reg [dO 13 (.fa 4 (.t 2)), dO 14 (.ld none (.t 13)), dO 15 (.mv (.t 1)), dO 16 (.ia .shr .i64 (.t 15) (.c (.int .u64 1))), dO 4 (.tk (.t 14)), dO 5 (.tk (.t 16))])
 (.ret)))) }
def c_lex_begins : AFunc :=
 { np := 2, res := [.t 4], body := (
 .seq (.reg [dO 4 (.tk kF)])
 (.seq (.reg [dO 5 (.mv (.t 0)), dO 6 (.sop .neq (.t 5) (kS [])), dO 7 (.mv (.t 6)), ⟨some 8, (some (7, true)), .mv (.t 1)⟩, ⟨some 9, (some (7, true)), .mv (.t 0)⟩, ⟨some 10, (some (7, true)), .ixs (.t 9) (kI 0)⟩, ⟨some 11, (some (7, true)), .conv .i32 (.t 10)⟩, ⟨some 12, (some (7, true)), .callv (.t 8) [.t 11]⟩, dO 13 (.pick (.t 7) (.t 12) kF), dO 4 (.tk (.t 13))])
 (.ret))) }
def c_lex_letter : AFunc :=
 { np := 1, res := [.t 2], body := (
 .seq (.reg [dO 2 (.tk kF)])
 (.seq (.reg [dO 3 (.mv (.t 0)), dO 4 (.ic .geq (.t 3) (.c (.int .i32 97))), dO 5 (.mv (.t 4)), ⟨some 6, (some (5, true)), .mv (.t 0)⟩, ⟨some 7, (some (5, true)), .ic .leq (.t 6) (.c (.int .i32 122))⟩, dO 8 (.pick (.t 5) (.t 7) kF), dO 2 (.tk (.t 8))])
 (.ret))) }
def c_lex_inner : AFunc :=
 { np := 1, res := [.t 2], body := (
 .seq (.reg [dO 2 (.tk kF)])
 (.seq (.reg [dO 3 (.mv (.t 0)), dO 4 (.callc n_lex_letter [.t 3]), dO 5 (.mv (.t 4)), ⟨some 6, (some (5, false)), .mv (.t 0)⟩, ⟨some 7, (some (5, false)), .callc n_lex_digit [.t 6]⟩, dO 8 (.pick (.t 5) kT (.t 7)), dO 9 (.mv (.t 8)), ⟨some 10, (some (9, false)), .mv (.t 0)⟩, ⟨some 11, (some (9, false)), .ic .eql (.t 10) (.c (.int .i32 95))⟩, dO 12 (.pick (.t 9) kT (.t 11)), dO 2 (.tk (.t 12))])
 (.ret))) }
def c_lex_Key : AFunc :=
 { np := 1, res := [.t 2], body := (
 .seq (.reg [dO 2 (.tk kF)])
 (.seq (.reg [dO 3 (.mv (.t 0)), dO 4 (.sop .neq (.t 3) (kS [])), dO 5 (.mv (.t 4)), ⟨some 6, (some (5, true)), .mv (.t 0)⟩, ⟨some 7, (some (5, true)), .callc n_strings_Contains [.t 6, kS [32]]⟩, ⟨some 8, (some (5, true)), .notb (.t 7)⟩, dO 9 (.pick (.t 5) (.t 8) kF), dO 10 (.mv (.t 9)), ⟨some 11, (some (10, true)), .mv (.t 0)⟩, ⟨some 12, (some (10, true)), .sop .add (kS [32]) (.t 11)⟩, ⟨some 13, (some (10, true)), .sop .add (.t 12) (kS [32])⟩, ⟨some 14, (some (10, true)), .callc n_strings_Contains [kS [32, 112, 114, 111, 99, 32, 109, 97, 105, 110, 32, 114, 101, 99, 111, 118, 101, 114, 32, 111, 114, 97, 99, 108, 101, 32, 99, 114, 101, 97, 116, 101, 32, 109, 107, 100, 105, 114, 32, 119, 114, 105, 116, 101, 32, 97, 112, 112, 101, 110, 100, 32, 116, 114, 117, 110, 99, 97, 116, 101, 32, 114, 101, 110, 97, 109, 101, 32, 117, 110, 108, 105, 110, 107, 32, 102, 115, 121, 110, 99, 32, 102, 100, 97, 116, 97, 115, 121, 110, 99, 32, 115, 121, 110, 99, 100, 105, 114, 32, 98, 97, 114, 114, 105, 101, 114, 32, 108, 101, 116, 32, 105, 102, 32, 101, 108, 115, 101, 32, 114, 101, 112, 101, 97, 116, 32, 99, 97, 108, 108, 32, 116, 120, 110, 32, 99, 111, 109, 109, 105, 116, 32, 114, 101, 112, 108, 97, 121, 32, 97, 115, 115, 101, 114, 116, 32, 101, 120, 105, 115, 116, 115, 32, 115, 105, 122, 101, 32, 114, 101, 97, 100, 32, 110, 111, 116, 32, 97, 110, 100, 32, 111, 114, 32, 116, 114, 117, 101, 32, 102, 97, 108, 115, 101, 32], .t 13]⟩, dO 15 (.pick (.t 10) (.t 14) kF), dO 2 (.tk (.t 15))])
 (.ret))) }
def c_tree_Parts : AFunc :=
 { np := 1, res := [.t 2, .t 3], body := (
 .seq (.reg [dO 2 (.tk (kI 0)), dO 3 (.tk kF)])
 (.seq (.block 0 (.seq (.reg [dO 5 (.mv (.t 0)), dO 6 (.ic .lss (.t 5) (kI 1)), dO 7 (.mv (.t 6)), ⟨some 8, (some (7, false)), .mv (.t 0)⟩, ⟨some 9, (some (7, false)), .ic .gtr (.t 8) (kI 14)⟩, dO 10 (.pick (.t 7) kT (.t 9)), dO 4 (.tk (.t 10))])
 (.cond (.t 4)
 (.seq (.reg [dO 2 (.tk (kI 0)), dO 3 (.tk kF)])
 (.ret))
 (.seq (.reg [dO 12 (.mv (.t 0)), dO 13 (.ic .leq (.t 12) (kI 4)), dO 11 (.tk (.t 13))])
 (.cond (.t 11)
 (.seq (.reg [dO 2 (.tk (kI 0)), dO 3 (.tk kT)])
 (.ret))
 (.seq (.reg [dO 15 (.mv (.t 0)), dO 16 (.ic .leq (.t 15) (kI 8)), dO 14 (.tk (.t 16))])
 (.cond (.t 14)
 (.seq (.reg [dO 2 (.tk (kI 1)), dO 3 (.tk kT)])
 (.ret))
 (.skip))))))))
 (.seq (.reg [dO 2 (.tk (kI 2)), dO 3 (.tk kT)])
 (.ret)))) }
def c_sC_Expr_api_Expr : AFunc :=
 { np := 2, res := [.t 4], body := (
 .seq (.reg [dO 4 (.tk kF)])
 (.seq (.reg [dO 5 (.mv (.t 0)), dO 6 (.mv (.t 1)), dO 7 (.call n_sI_Expr_api_Expr [.t 5, .t 6]), dO 8 (.ic .geq (.t 7) (kI 0)), dO 4 (.tk (.t 8))])
 (.ret))) }
def c_tree_expr_1 : AFunc :=
 { np := 2, res := [.t 3], body := (
 .seq (.reg [dO 2 (.box (.t 0)), dO 3 (.tk kF)])
 (.seq (.reg [dO 4 (.ld (some 4) (.t 2)), dO 5 (.ld none (.t 1)), dO 6 (.ia .sub .i64 (.t 5) (kI 1)), dO 7 (.callc n_tree_expr [.t 4, .t 6]), dO 8 (.notb (.t 7)), dO 3 (.tk (.t 8))])
 (.ret))) }
def c_sC_Stmt_api_Stmt_x : AFunc :=
 { np := 2, res := [.t 4], body := (
 .seq (.reg [dO 4 (.tk kF)])
 (.seq (.reg [dO 5 (.mv (.t 0)), dO 6 (.mv (.t 1)), dO 7 (.call n_sI_Stmt_api_Stmt_x [.t 5, .t 6]), dO 8 (.ic .geq (.t 7) (kI 0)), dO 4 (.tk (.t 8))])
 (.ret))) }
def c_tree_block_1 : AFunc :=
 { np := 2, res := [.t 3], body := (
 .seq (.reg [dO 2 (.box (.t 0)), dO 3 (.tk kF)])
 (.seq (.reg [dO 4 (.ld (some 7) (.t 2)), dO 5 (.ld none (.t 1)), dO 6 (.callc n_tree_stmt [.t 4, .t 5]), dO 7 (.notb (.t 6)), dO 3 (.tk (.t 7))])
 (.ret))) }
def c_tree_stmt : AFunc :=
 { np := 2, res := [.t 4], body := (
 .seq (.reg [dO 2 (.box (.t 0)), dO 4 (.tk kF)])
 (.seq (.seq (.reg [dO 6 (.mv (.t 1)), dO 7 (.ic .gtr (.t 6) (kI 8)), dO 8 (.mv (.t 7)), ⟨some 9, (some (8, false)), .ld (some 7) (.t 2)⟩, ⟨some 10, (some (8, false)), .callc n_tree_shape [.t 9]⟩, ⟨some 11, (some (8, false)), .notb (.t 10)⟩, dO 12 (.pick (.t 8) kT (.t 11))])
 (.cond (.t 12)
 (.seq (.reg [dO 4 (.tk kF)])
 (.ret))
 (.skip)))
 (.seq (.seq (.reg [dO 13 (.fa 0 (.t 2)), dO 14 (.ld none (.t 13)), dO 15 (.ic .eql (.t 14) (kI 16))])
 (.cond (.t 15)
 (.seq (.reg [dO 5 (.tk (.c (.fn (.func n_tree_stmt_1) [] [])))])
 (.seq (.reg [dO 16 (.fa 4 (.t 2)), dO 17 (.ld none (.t 16)), dO 18 (.len false (.t 17)), dO 19 (.ic .gtr (.t 18) (kI 8)), dO 20 (.mv (.t 19)), ⟨some 21, (some (20, false)), .fa 4 (.t 2)⟩, ⟨some 22, (some (20, false)), .ld none (.t 21)⟩, ⟨some 23, (some (20, false)), .mv (.t 5)⟩, ⟨some 24, (some (20, false)), .call n_sC_Stmt_api_Stmt_x [.t 22, .t 23]⟩, dO 25 (.pick (.t 20) kT (.t 24))])
 (.cond (.t 25)
 (.seq (.reg [dO 4 (.tk kF)])
 (.ret))
 (.skip))))
 (.skip)))
 (.seq (.reg [dO 26 (.fa 4 (.t 2)), dO 27 (.ld none (.t 26)), dO 28 (.mv (.t 1)), dO 29 (.ia .add .i64 (.t 28) (kI 1)), dO 30 (.callc n_tree_block [.t 27, .t 29]), dO 31 (.mv (.t 30)), ⟨some 32, (some (31, true)), .fa 5 (.t 2)⟩, ⟨some 33, (some (31, true)), .ld none (.t 32)⟩, ⟨some 34, (some (31, true)), .mv (.t 1)⟩, ⟨some 35, (some (31, true)), .ia .add .i64 (.t 34) (kI 1)⟩, ⟨some 36, (some (31, true)), .callc n_tree_block [.t 33, .t 35]⟩, dO 37 (.pick (.t 31) (.t 36) kF), dO 4 (.tk (.t 37))])
 (.ret))))) }
def b_sI_Proc_api_Proc_0 : AC :=
 .seq (.reg [dO 9 (.ic .lss (.t 8) (.t 7))])
 (.seq (.cond (.t 9)
 (.skip)
 (.exit 0))
 (.seq (.block 1 (.seq (.reg [dO 10 (.mv (.t 8)), dO 5 (.tk (.t 10))])
 (.seq (.reg [dO 11 (.mv (.t 1)), dO 12 (.mv (.t 0)), dO 13 (.mv (.t 5)), dO 14 (.ixa 2 none (.t 12) (.t 13)), dO 15 (.ld (some 2) (.t 14)), dO 16 (.callv (.t 11) [.t 15])])
 (.cond (.t 16)
 (.seq (.reg [dO 17 (.mv (.t 5)), dO 4 (.tk (.t 17))])
 (.ret))
 (.skip)))))
 (.reg [dO 18 (.ia .add .i64 (.t 8) (kI 1)), dO 8 (.mv (.t 18))])))
def l_sI_Proc_api_Proc_0 : AC :=
 .loop [0, 1, 7, 8] b_sI_Proc_api_Proc_0
def r_sI_Proc_api_Proc_0 : AC :=
 .seq (.reg [dO 4 (.tk (kI (-1)))])
 (.ret)
def c_sI_Proc_api_Proc : AFunc :=
 { np := 2, res := [.t 4], body := (
 .seq (.reg [dO 4 (.tk (kI 0))])
 (.seq (.seq (.reg [dO 6 (.mv (.t 0)), dO 7 (.len false (.t 6)), dO 8 (.mv (kI 0))])
 (.block 0 (l_sI_Proc_api_Proc_0))) r_sI_Proc_api_Proc_0)) }
def b_sI_Oracle_api_Oracle_0 : AC :=
 .seq (.reg [dO 9 (.ic .lss (.t 8) (.t 7))])
 (.seq (.cond (.t 9)
 (.skip)
 (.exit 0))
 (.seq (.block 1 (.seq (.reg [dO 10 (.mv (.t 8)), dO 5 (.tk (.t 10))])
 (.seq (.reg [dO 11 (.mv (.t 1)), dO 12 (.mv (.t 0)), dO 13 (.mv (.t 5)), dO 14 (.ixa 5 none (.t 12) (.t 13)), dO 15 (.ld (some 5) (.t 14)), dO 16 (.callv (.t 11) [.t 15])])
 (.cond (.t 16)
 (.seq (.reg [dO 17 (.mv (.t 5)), dO 4 (.tk (.t 17))])
 (.ret))
 (.skip)))))
 (.reg [dO 18 (.ia .add .i64 (.t 8) (kI 1)), dO 8 (.mv (.t 18))])))
def l_sI_Oracle_api_Oracle_0 : AC :=
 .loop [0, 1, 7, 8] b_sI_Oracle_api_Oracle_0
def r_sI_Oracle_api_Oracle_0 : AC :=
 .seq (.reg [dO 4 (.tk (kI (-1)))])
 (.ret)
def c_sI_Oracle_api_Oracle : AFunc :=
 { np := 2, res := [.t 4], body := (
 .seq (.reg [dO 4 (.tk (kI 0))])
 (.seq (.seq (.reg [dO 6 (.mv (.t 0)), dO 7 (.len false (.t 6)), dO 8 (.mv (kI 0))])
 (.block 0 (l_sI_Oracle_api_Oracle_0))) r_sI_Oracle_api_Oracle_0)) }
def b_sI_Stmt_api_Stmt_0 : AC :=
 .seq (.reg [dO 9 (.ic .lss (.t 8) (.t 7))])
 (.seq (.cond (.t 9)
 (.skip)
 (.exit 0))
 (.seq (.block 1 (.seq (.reg [dO 10 (.mv (.t 8)), dO 5 (.tk (.t 10))])
 (.seq (.reg [dO 11 (.mv (.t 1)), dO 12 (.mv (.t 0)), dO 13 (.mv (.t 5)), dO 14 (.ixa 1 none (.t 12) (.t 13)), dO 15 (.ld none (.t 14)), dO 16 (.callv (.t 11) [.t 15])])
 (.cond (.t 16)
 (.seq (.reg [dO 17 (.mv (.t 5)), dO 4 (.tk (.t 17))])
 (.ret))
 (.skip)))))
 (.reg [dO 18 (.ia .add .i64 (.t 8) (kI 1)), dO 8 (.mv (.t 18))])))
def l_sI_Stmt_api_Stmt_0 : AC :=
 .loop [0, 1, 7, 8] b_sI_Stmt_api_Stmt_0
def r_sI_Stmt_api_Stmt_0 : AC :=
 .seq (.reg [dO 4 (.tk (kI (-1)))])
 (.ret)
def c_sI_Stmt_api_Stmt : AFunc :=
 { np := 2, res := [.t 4], body := (
 .seq (.reg [dO 4 (.tk (kI 0))])
 (.seq (.seq (.reg [dO 6 (.mv (.t 0)), dO 7 (.len false (.t 6)), dO 8 (.mv (kI 0))])
 (.block 0 (l_sI_Stmt_api_Stmt_0))) r_sI_Stmt_api_Stmt_0)) }
def a_tree_walk_1_0 : AC :=
 .reg [dO 7 (.alloc [iZ, .str [], iZ, .own 4 [], .own 7 [], .own 7 [], .bool false]), ⟨none, none, .st 7 (.t 7) (.t 30)⟩]
def y_tree_walk_1_0 : AC :=
 .block 5 (.seq (.reg [dO 31 (.ld none (.t 2)), dO 32 (.ld (some 7) (.t 7)), dO 33 (.callv (.t 31) [.t 32]), dO 34 (.notb (.t 33))])
 (.cond (.t 34)
 (.ret)
 (.skip)))
def r_tree_walk_1_0 : AC :=
 .reg [dO 35 (.ia .add .i64 (.t 24) (kI 1)), dO 24 (.mv (.t 35))]
def b_tree_walk_1_0 : AC :=
 .seq (.reg [dO 25 (.ic .lss (.t 24) (.t 23))])
 (.seq (.cond (.t 25)
 (.skip)
 (.exit 2))
 (.seq (.block 3 (.seq (.reg [dO 26 (.ixa 1 none (.t 22) (.t 24)), dO 27 (.ld none (.t 26)), dO 6 (.tk (.t 27))])
 (.seq (.reg [dO 28 (.mv (.t 6)), dO 29 (.call n_tree_walk [.t 28])])
 (.block 4 (.rfn (.t 29) [2] q_tree_walk_1_0 [30] a_tree_walk_1_0 y_tree_walk_1_0))))) r_tree_walk_1_0))
def l_tree_walk_1_0 : AC :=
 .loop [2, 8, 9, 10, 22, 23, 24] b_tree_walk_1_0
def r_tree_walk_1_1 : AC :=
 .reg [dO 36 (.ia .add .i64 (.t 10) (kI 1)), dO 10 (.mv (.t 36))]
def b_tree_walk_1_1 : AC :=
 .seq (.reg [dO 11 (.ic .lss (.t 10) (.t 9))])
 (.seq (.cond (.t 11)
 (.skip)
 (.exit 0))
 (.seq (.block 1 (.seq (.reg [dO 12 (.ixa 7 none (.t 8) (.t 10)), dO 13 (.ld (some 7) (.t 12)), dO 4 (.alloc [iZ, .str [], iZ, .own 4 [], .own 7 [], .own 7 [], .bool false]), ⟨none, none, .st 7 (.t 4) (.t 13)⟩])
 (.seq (.seq (.reg [dO 14 (.ld none (.t 2)), dO 15 (.ld (some 7) (.t 4)), dO 16 (.callv (.t 14) [.t 15]), dO 17 (.notb (.t 16))])
 (.cond (.t 17)
 (.ret)
 (.skip)))
 (.seq (.reg [dO 18 (.fa 4 (.t 4)), dO 19 (.ld none (.t 18)), dO 20 (.fa 5 (.t 4)), dO 21 (.ld none (.t 20)), dO 22 (.bsl 1 [.sl 7 []] 2 [(0, 1, .t 19), (1, 1, .t 21)] false), dO 23 (.len false (.t 22)), dO 24 (.mv (kI 0))])
 (.block 2 (l_tree_walk_1_0)))))) r_tree_walk_1_1))
def l_tree_walk_1_1 : AC :=
 .loop [2, 8, 9, 10] b_tree_walk_1_1
def c_tree_walk_1 : AFunc :=
 { np := 2, res := [], body := (
 .seq (.reg [dO 2 (.box (.t 0))])
 (.seq (.reg [dO 8 (.ld none (.t 1)), dO 9 (.len false (.t 8)), dO 10 (.mv (kI 0))])
 (.block 0 (l_tree_walk_1_1)))) }
def b_tree_each_api_Expr_0 : AC :=
 .seq (.reg [dO 11 (.ic .lss (.t 10) (.t 9))])
 (.seq (.cond (.t 11)
 (.skip)
 (.exit 0))
 (.seq (.block 1 (.seq (.reg [dO 12 (.ixa 4 none (.t 8) (.t 10)), dO 13 (.ld (some 4) (.t 12)), dO 7 (.alloc [iZ, iZ, .str [], .own 4 []]), ⟨none, none, .st 4 (.t 7) (.t 13)⟩])
 (.reg [dO 14 (.tk (.t 5)), dO 15 (.mv (.t 1)), dO 16 (.ld (some 4) (.t 7)), dO 17 (.callv (.t 15) [.t 16]), dO 18 (.bsl 4 [iZ, iZ, .str [], .sl 4 []] 1 [(0, 4, .t 17)] false), dO 19 (.app 4 56 (.t 14) (.t 18) false), dO 5 (.tk (.t 19))])))
 (.reg [dO 20 (.ia .add .i64 (.t 10) (kI 1)), dO 10 (.mv (.t 20))])))
def l_tree_each_api_Expr_0 : AC :=
 .loop [1, 5, 8, 9, 10] b_tree_each_api_Expr_0
def r_tree_each_api_Expr_0 : AC :=
 .seq (.reg [dO 21 (.tk (.t 5)), dO 4 (.tk (.t 21))])
 (.ret)
def c_tree_each_api_Expr : AFunc :=
 { np := 2, res := [.t 4], body := (
 .seq (.reg [dO 4 (.tk (.c (.own 4 [])))])
 (.seq (.reg [dO 5 (.tk (.c (.own 4 [])))])
 (.seq (.seq (.reg [dO 8 (.mv (.t 0)), dO 9 (.len false (.t 8)), dO 10 (.mv (kI 0))])
 (.block 0 (l_tree_each_api_Expr_0))) r_tree_each_api_Expr_0))) }
def c_lex_digit : AFunc :=
 { np := 1, res := [.t 2], body := (
 .seq (.reg [dO 2 (.tk kF)])
 (.seq (.reg [dO 3 (.mv (.t 0)), dO 4 (.ic .geq (.t 3) (.c (.int .i32 48))), dO 5 (.mv (.t 4)), ⟨some 6, (some (5, true)), .mv (.t 0)⟩, ⟨some 7, (some (5, true)), .ic .leq (.t 6) (.c (.int .i32 57))⟩, dO 8 (.pick (.t 5) (.t 7) kF), dO 2 (.tk (.t 8))])
 (.ret))) }
def b_sI_Expr_api_Expr_0 : AC :=
 .seq (.reg [dO 9 (.ic .lss (.t 8) (.t 7))])
 (.seq (.cond (.t 9)
 (.skip)
 (.exit 0))
 (.seq (.block 1 (.seq (.reg [dO 10 (.mv (.t 8)), dO 5 (.tk (.t 10))])
 (.seq (.reg [dO 11 (.mv (.t 1)), dO 12 (.mv (.t 0)), dO 13 (.mv (.t 5)), dO 14 (.ixa 4 none (.t 12) (.t 13)), dO 15 (.ld (some 4) (.t 14)), dO 16 (.callv (.t 11) [.t 15])])
 (.cond (.t 16)
 (.seq (.reg [dO 17 (.mv (.t 5)), dO 4 (.tk (.t 17))])
 (.ret))
 (.skip)))))
 (.reg [dO 18 (.ia .add .i64 (.t 8) (kI 1)), dO 8 (.mv (.t 18))])))
def l_sI_Expr_api_Expr_0 : AC :=
 .loop [0, 1, 7, 8] b_sI_Expr_api_Expr_0
def r_sI_Expr_api_Expr_0 : AC :=
 .seq (.reg [dO 4 (.tk (kI (-1)))])
 (.ret)
def c_sI_Expr_api_Expr : AFunc :=
 { np := 2, res := [.t 4], body := (
 .seq (.reg [dO 4 (.tk (kI 0))])
 (.seq (.seq (.reg [dO 6 (.mv (.t 0)), dO 7 (.len false (.t 6)), dO 8 (.mv (kI 0))])
 (.block 0 (l_sI_Expr_api_Expr_0))) r_sI_Expr_api_Expr_0)) }
def b_sI_Stmt_api_Stmt_x_0 : AC :=
 .seq (.reg [dO 9 (.ic .lss (.t 8) (.t 7))])
 (.seq (.cond (.t 9)
 (.skip)
 (.exit 0))
 (.seq (.block 1 (.seq (.reg [dO 10 (.mv (.t 8)), dO 5 (.tk (.t 10))])
 (.seq (.reg [dO 11 (.mv (.t 1)), dO 12 (.mv (.t 0)), dO 13 (.mv (.t 5)), dO 14 (.ixa 7 none (.t 12) (.t 13)), dO 15 (.ld (some 7) (.t 14)), dO 16 (.callv (.t 11) [.t 15])])
 (.cond (.t 16)
 (.seq (.reg [dO 17 (.mv (.t 5)), dO 4 (.tk (.t 17))])
 (.ret))
 (.skip)))))
 (.reg [dO 18 (.ia .add .i64 (.t 8) (kI 1)), dO 8 (.mv (.t 18))])))
def l_sI_Stmt_api_Stmt_x_0 : AC :=
 .loop [0, 1, 7, 8] b_sI_Stmt_api_Stmt_x_0
def r_sI_Stmt_api_Stmt_x_0 : AC :=
 .seq (.reg [dO 4 (.tk (kI (-1)))])
 (.ret)
def c_sI_Stmt_api_Stmt_x : AFunc :=
 { np := 2, res := [.t 4], body := (
 .seq (.reg [dO 4 (.tk (kI 0))])
 (.seq (.seq (.reg [dO 6 (.mv (.t 0)), dO 7 (.len false (.t 6)), dO 8 (.mv (kI 0))])
 (.block 0 (l_sI_Stmt_api_Stmt_x_0))) r_sI_Stmt_api_Stmt_x_0)) }
def c_tree_shape : AFunc :=
 { np := 1, res := [.t 2], body := (
 .seq (.reg [dO 1 (.box (.t 0)), dO 2 (.tk kF)])
 (.seq (.reg [dO 9 (.fa 0 (.t 1)), dO 10 (.ld none (.t 9)), dO 11 (.callc n_tree_Exprs [.t 10]), dO 8 (.mv (.t 11)), dO 12 (.ext (.t 8) 0), dO 13 (.ext (.t 8) 1), dO 3 (.tk (.t 12)), dO 4 (.tk (.t 13))])
 (.seq (.reg [dO 15 (.fa 0 (.t 1)), dO 16 (.ld none (.t 15)), dO 17 (.callc n_tree_blocks [.t 16]), dO 14 (.mv (.t 17)), dO 18 (.ext (.t 14) 0), dO 19 (.ext (.t 14) 1), dO 5 (.tk (.t 18)), dO 6 (.tk (.t 19))])
 (.seq (.reg [dO 20 (.fa 0 (.t 1)), dO 21 (.ld none (.t 20)), dO 22 (.ic .eql (.t 21) (kI 12)), dO 23 (.mv (.t 22)), ⟨some 24, (some (23, false)), .fa 0 (.t 1)⟩, ⟨some 25, (some (23, false)), .ld none (.t 24)⟩, ⟨some 26, (some (23, false)), .ic .eql (.t 25) (kI 15)⟩, dO 27 (.pick (.t 23) kT (.t 26)), dO 7 (.tk (.t 27))])
 (.seq (.block 0 (.seq (.reg [dO 29 (.mv (.t 4)), dO 30 (.notb (.t 29)), dO 31 (.mv (.t 30)), ⟨some 32, (some (31, false)), .fa 3 (.t 1)⟩, ⟨some 33, (some (31, false)), .ld none (.t 32)⟩, ⟨some 34, (some (31, false)), .len false (.t 33)⟩, ⟨some 35, (some (31, false)), .mv (.t 3)⟩, ⟨some 36, (some (31, false)), .ic .neq (.t 34) (.t 35)⟩, dO 37 (.pick (.t 31) kT (.t 36)), dO 38 (.mv (.t 37)), ⟨some 39, (some (38, false)), .mv (.t 7)⟩, ⟨some 40, (some (38, false)), .fa 1 (.t 1)⟩, ⟨some 41, (some (38, false)), .ld none (.t 40)⟩, ⟨some 42, (some (38, false)), .sop .neq (.t 41) (kS [])⟩, ⟨some 43, (some (38, false)), .eqb true (.t 39) (.t 42)⟩, dO 44 (.pick (.t 38) kT (.t 43)), dO 45 (.mv (.t 44)), ⟨some 46, (some (45, false)), .mv (.t 7)⟩, ⟨some 47, (some (45, false)), .mv (.t 46)⟩, ⟨some 48, (some (47, true)), .fa 1 (.t 1)⟩, ⟨some 49, (some (47, true)), .ld none (.t 48)⟩, ⟨some 50, (some (47, true)), .callc n_lex_Name [.t 49]⟩, ⟨some 51, (some (47, true)), .notb (.t 50)⟩, ⟨some 52, (some (45, false)), .pick (.t 47) (.t 51) kF⟩, dO 53 (.pick (.t 45) kT (.t 52)), dO 28 (.tk (.t 53))])
 (.cond (.t 28)
 (.seq (.reg [dO 2 (.tk kF)])
 (.ret))
 (.seq (.reg [dO 55 (.fa 2 (.t 1)), dO 56 (.ld none (.t 55)), dO 57 (.ic .neq (.t 56) (kI 0)), dO 58 (.mv (.t 57)), ⟨some 59, (some (58, true)), .fa 0 (.t 1)⟩, ⟨some 60, (some (58, true)), .ld none (.t 59)⟩, ⟨some 61, (some (58, true)), .ic .neq (.t 60) (kI 14)⟩, dO 62 (.pick (.t 58) (.t 61) kF), dO 63 (.mv (.t 62)), ⟨some 64, (some (63, false)), .fa 2 (.t 1)⟩, ⟨some 65, (some (63, false)), .ld none (.t 64)⟩, ⟨some 66, (some (63, false)), .ic .lss (.t 65) (kI 0)⟩, dO 67 (.pick (.t 63) kT (.t 66)), dO 68 (.mv (.t 67)), ⟨some 69, (some (68, false)), .fa 2 (.t 1)⟩, ⟨some 70, (some (68, false)), .ld none (.t 69)⟩, ⟨some 71, (some (68, false)), .ic .gtr (.t 70) (kI 16)⟩, dO 72 (.pick (.t 68) kT (.t 71)), dO 54 (.tk (.t 72))])
 (.cond (.t 54)
 (.seq (.reg [dO 2 (.tk kF)])
 (.ret))
 (.seq (.reg [dO 74 (.fa 6 (.t 1)), dO 75 (.ld none (.t 74)), dO 76 (.mv (.t 75)), ⟨some 77, (some (76, true)), .fa 0 (.t 1)⟩, ⟨some 78, (some (76, true)), .ld none (.t 77)⟩, ⟨some 79, (some (76, true)), .ic .neq (.t 78) (kI 16)⟩, dO 80 (.pick (.t 76) (.t 79) kF), dO 81 (.mv (.t 80)), ⟨some 82, (some (81, false)), .mv (.t 5)⟩, ⟨some 83, (some (81, false)), .notb (.t 82)⟩, ⟨some 84, (some (81, false)), .mv (.t 83)⟩, ⟨some 85, (some (84, true)), .fa 4 (.t 1)⟩, ⟨some 86, (some (84, true)), .ld none (.t 85)⟩, ⟨some 87, (some (84, true)), .len false (.t 86)⟩, ⟨some 88, (some (84, true)), .ic .gtr (.t 87) (kI 0)⟩, ⟨some 89, (some (81, false)), .pick (.t 84) (.t 88) kF⟩, dO 90 (.pick (.t 81) kT (.t 89)), dO 91 (.mv (.t 90)), ⟨some 92, (some (91, false)), .mv (.t 6)⟩, ⟨some 93, (some (91, false)), .notb (.t 92)⟩, ⟨some 94, (some (91, false)), .mv (.t 93)⟩, ⟨some 95, (some (94, true)), .fa 5 (.t 1)⟩, ⟨some 96, (some (94, true)), .ld none (.t 95)⟩, ⟨some 97, (some (94, true)), .len false (.t 96)⟩, ⟨some 98, (some (94, true)), .ic .gtr (.t 97) (kI 0)⟩, ⟨some 99, (some (91, false)), .pick (.t 94) (.t 98) kF⟩, dO 100 (.pick (.t 91) kT (.t 99)), dO 73 (.tk (.t 100))])
 (.cond (.t 73)
 (.seq (.reg [dO 2 (.tk kF)])
 (.ret))
 (.skip))))))))
 (.seq (.reg [dO 101 (.fa 3 (.t 1)), dO 102 (.ld none (.t 101)), dO 103 (.callc n_sC_Expr_api_Expr [.t 102, (.c (.fn (.func n_tree_shape_1) [] []))]), dO 104 (.notb (.t 103)), dO 2 (.tk (.t 104))])
 (.ret))))))) }
def c_tree_stmt_1 : AFunc :=
 { np := 1, res := [.t 2], body := (
 .seq (.reg [dO 1 (.box (.t 0)), dO 2 (.tk kF)])
 (.seq (.reg [dO 3 (.fa 0 (.t 1)), dO 4 (.ld none (.t 3)), dO 5 (.ic .neq (.t 4) (kI 3)), dO 2 (.tk (.t 5))])
 (.ret))) }
def c_tree_Exprs : AFunc :=
 { np := 1, res := [.t 2, .t 3], body := (
 .seq (.reg [dO 2 (.tk (kI 0)), dO 3 (.tk kF)])
 (.seq (.seq (.reg [dO 4 (.mv (.t 0))])
 (.block 0 (.seq (.seq (.reg [dO 6 (.ic .eql (.t 4) (kI 11)), dO 5 (.tk (.t 6))])
 (.cond (.t 5)
 (.skip)
 (.seq (.reg [dO 7 (.ic .eql (.t 4) (kI 14)), dO 5 (.tk (.t 7))])
 (.cond (.t 5)
 (.skip)
 (.reg [dO 8 (.ic .eql (.t 4) (kI 15)), dO 5 (.tk (.t 8))])))))
 (.cond (.t 5)
 (.seq (.reg [dO 2 (.tk (kI 0)), dO 3 (.tk kT)])
 (.ret))
 (.seq (.seq (.reg [dO 10 (.ic .eql (.t 4) (kI 4)), dO 9 (.tk (.t 10))])
 (.cond (.t 9)
 (.skip)
 (.seq (.reg [dO 11 (.ic .eql (.t 4) (kI 5)), dO 9 (.tk (.t 11))])
 (.cond (.t 9)
 (.skip)
 (.reg [dO 12 (.ic .eql (.t 4) (kI 6)), dO 9 (.tk (.t 12))])))))
 (.cond (.t 9)
 (.seq (.reg [dO 2 (.tk (kI 2)), dO 3 (.tk kT)])
 (.ret))
 (.seq (.reg [dO 14 (.ic .eql (.t 4) (kI 3)), dO 13 (.tk (.t 14))])
 (.cond (.t 13)
 (.seq (.reg [dO 2 (.tk (kI 3)), dO 3 (.tk kT)])
 (.ret))
 (.skip)))))))))
 (.seq (.seq (.reg [dO 15 (.mv (.t 0)), dO 16 (.ic .lss (.t 15) (kI 1)), dO 17 (.mv (.t 16)), ⟨some 18, (some (17, false)), .mv (.t 0)⟩, ⟨some 19, (some (17, false)), .ic .gtr (.t 18) (kI 18)⟩, dO 20 (.pick (.t 17) kT (.t 19))])
 (.cond (.t 20)
 (.seq (.reg [dO 2 (.tk (kI 0)), dO 3 (.tk kF)])
 (.ret))
 (.skip)))
 (.seq (.reg [dO 2 (.tk (kI 1)), dO 3 (.tk kT)])
 (.ret))))) }
def c_tree_blocks : AFunc :=
 { np := 1, res := [.t 2, .t 3], body := (
 .seq (.reg [dO 2 (.tk kF), dO 3 (.tk kF)])
 (.seq (.reg [dO 4 (.mv (.t 0)), dO 5 (.ic .eql (.t 4) (kI 13)), dO 6 (.mv (.t 5)), ⟨some 7, (some (6, false)), .mv (.t 0)⟩, ⟨some 8, (some (6, false)), .ic .eql (.t 7) (kI 14)⟩, dO 9 (.pick (.t 6) kT (.t 8)), dO 10 (.mv (.t 9)), ⟨some 11, (some (10, false)), .mv (.t 0)⟩, ⟨some 12, (some (10, false)), .ic .eql (.t 11) (kI 16)⟩, dO 13 (.pick (.t 10) kT (.t 12)), dO 14 (.mv (.t 0)), dO 15 (.ic .eql (.t 14) (kI 13)), dO 2 (.tk (.t 13)), dO 3 (.tk (.t 15))])
 (.ret))) }
def c_tree_shape_1 : AFunc :=
 { np := 1, res := [.t 2], body := (
 .seq (.reg [dO 1 (.box (.t 0)), dO 2 (.tk kF)])
 (.seq (.reg [dO 3 (.ld (some 4) (.t 1)), dO 4 (.callc n_tree_expr [.t 3, kI 8]), dO 5 (.notb (.t 4)), dO 2 (.tk (.t 5))])
 (.ret))) }
def b_flotsamlaw26_RewriteOne_w_0 : AC :=
 .seq (.seq (.reg [dO 92 (.mv (.t 11)), dO 93 (.fa 0 (.t 2)), dO 94 (.ld none (.t 93)), dO 95 (.len false (.t 94)), dO 96 (.ic .lss (.t 92) (.t 95))])
 (.cond (.t 96)
 (.skip)
 (.exit 0)))
 (.seq (.block 1 (.seq (.drw [[], [], [], [], [], [], [], [], [], [], [], [], [], [], [], [], [], [], [], [], [], [], [], [], [], [], [], [], [], [], [], [], [], [], [], []] [dO 99 (.fa 0 (.t 2)), dO 100 (.ld none (.t 99)), dO 101 (.mv (.t 11)), dO 102 (.ixa 2 none (.t 100) (.t 101)), dO 103 (.fa 0 (.t 102)), dO 104 (.ld none (.t 103)), dO 105 (.fa 0 (.t 5)), dO 106 (.ld none (.t 105)), dO 107 (.mv (.t 11)), dO 108 (.ixa 2 none (.t 106) (.t 107)), dO 109 (.fa 0 (.t 108)), dO 110 (.ld none (.t 109)), dO 111 (.sop .neq (.t 104) (.t 110)), dO 112 (.mv (.t 111)), ⟨some 113, (some (112, false)), .mv (.t 11)⟩, ⟨some 114, (some (112, false)), .fa 1 (.t 3)⟩, ⟨some 115, (some (112, false)), .ld none (.t 114)⟩, ⟨some 116, (some (112, false)), .ia .sub .i64 (.t 115) (kI 1)⟩, ⟨some 117, (some (112, false)), .ic .neq (.t 113) (.t 116)⟩, ⟨some 118, (some (112, false)), .mv (.t 117)⟩, ⟨some 119, (some (118, true)), .fa 0 (.t 2)⟩, ⟨some 120, (some (118, true)), .ld none (.t 119)⟩, ⟨some 121, (some (118, true)), .mv (.t 11)⟩, ⟨some 122, (some (118, true)), .ixa 2 none (.t 120) (.t 121)⟩, ⟨some 123, (some (118, true)), .fa 1 (.t 122)⟩, ⟨some 124, (some (118, true)), .ld none (.t 123)⟩, ⟨some 125, (some (118, true)), .fa 0 (.t 5)⟩, ⟨some 126, (some (118, true)), .ld none (.t 125)⟩, ⟨some 127, (some (118, true)), .mv (.t 11)⟩, ⟨some 128, (some (118, true)), .ixa 2 none (.t 126) (.t 127)⟩, ⟨some 129, (some (118, true)), .fa 1 (.t 128)⟩, ⟨some 130, (some (118, true)), .ld none (.t 129)⟩, ⟨some 131, (some (118, true)), .callc n_r16_SameStmts [.t 124, .t 130]⟩, ⟨some 132, (some (118, true)), .notb (.t 131)⟩, ⟨some 133, (some (112, false)), .pick (.t 118) (.t 132) kF⟩, dO 134 (.pick (.t 112) kT (.t 133))])
 (.cond (.t 134)
 (.seq (.reg [dO 4 (.tk kF)])
 (.ret))
 (.skip))))
 (.reg [dO 97 (.mv (.t 11)), dO 98 (.ia .add .i64 (.t 97) (kI 1)), dO 11 (.tk (.t 98))]))
def l_flotsamlaw26_RewriteOne_w_0 : AC :=
 .loop [2, 3, 5, 7, 9, 10, 11] b_flotsamlaw26_RewriteOne_w_0
def b_flotsamlaw26_RewriteOne_w_1 : AC :=
 .seq (.seq (.reg [dO 209 (.mv (.t 13)), dO 210 (.mv (.t 12)), dO 211 (.len false (.t 210)), dO 212 (.ic .lss (.t 209) (.t 211))])
 (.cond (.t 212)
 (.skip)
 (.exit 3)))
 (.seq (.block 4 (.seq (.drw [[], [], [], [], [], [], [], [], [], [], [], [], [], [], [], [], [], [], [], [], [], [], []] [dO 215 (.mv (.t 12)), dO 216 (.mv (.t 13)), dO 217 (.ixa 7 none (.t 215) (.t 216)), dO 218 (.ld (some 7) (.t 217)), dO 219 (.callc n_flotsamlaw26_bare [.t 218]), dO 220 (.mv (.t 10)), dO 221 (.mv (.t 13)), dO 222 (.ixa 7 none (.t 220) (.t 221)), dO 223 (.ld (some 7) (.t 222)), dO 224 (.callc n_flotsamlaw26_bare [.t 223]), dO 225 (.callc n_r16_SameStmt [.t 219, .t 224]), dO 226 (.notb (.t 225)), dO 227 (.mv (.t 226)), ⟨some 228, (some (227, true)), .mv (.t 13)⟩, ⟨some 229, (some (227, true)), .mv (.t 7)⟩, ⟨some 230, (some (227, true)), .ic .eql (.t 228) (.t 229)⟩, ⟨some 231, (some (227, true)), .mv (.t 230)⟩, ⟨some 232, (some (231, true)), .fa 0 (.t 3)⟩, ⟨some 233, (some (231, true)), .ld none (.t 232)⟩, ⟨some 234, (some (231, true)), .ic .eql (.t 233) (kI 7)⟩, ⟨some 235, (some (227, true)), .pick (.t 231) (.t 234) kF⟩, ⟨some 236, (some (227, true)), .notb (.t 235)⟩, dO 237 (.pick (.t 227) (.t 236) kF)])
 (.cond (.t 237)
 (.seq (.reg [dO 4 (.tk kF)])
 (.ret))
 (.skip))))
 (.reg [dO 213 (.mv (.t 13)), dO 214 (.ia .add .i64 (.t 213) (kI 1)), dO 13 (.tk (.t 214))]))
def l_flotsamlaw26_RewriteOne_w_1 : AC :=
 .loop [3, 7, 10, 12, 13] b_flotsamlaw26_RewriteOne_w_1
def r_flotsamlaw26_RewriteOne_w_0 : AC :=
 .seq (.reg [dO 4 (.tk kT)])
 (.ret)
def r_flotsamlaw26_RewriteOne_w_1 : AC :=
 .seq (.seq (.reg [dO 135 (.fa 1 (.t 3)), dO 136 (.ld none (.t 135)), dO 137 (.ic .neq (.t 136) (kI 0)), dO 138 (.mv (.t 137)), ⟨some 139, (some (138, true)), .fa 1 (.t 2)⟩, ⟨some 140, (some (138, true)), .ld none (.t 139)⟩, ⟨some 141, (some (138, true)), .fa 1 (.t 5)⟩, ⟨some 142, (some (138, true)), .ld none (.t 141)⟩, ⟨some 143, (some (138, true)), .callc n_r16_SameStmts [.t 140, .t 142]⟩, ⟨some 144, (some (138, true)), .notb (.t 143)⟩, dO 145 (.pick (.t 138) (.t 144) kF)])
 (.cond (.t 145)
 (.seq (.reg [dO 4 (.tk kF)])
 (.ret))
 (.skip)))
 (.seq (.reg [dO 146 (.bsl 7 [iZ, .str [], iZ, .sl 4 [], .sl 7 [], .sl 7 [], .bool false] 0 [] false), dO 147 (.mv (.t 9)), dO 148 (.app 7 112 (.t 146) (.t 147) true), dO 12 (.tk (.t 148))])
 (.seq (.block 2 (.seq (.reg [dO 150 (.fa 0 (.t 3)), dO 151 (.ld none (.t 150)), dO 152 (.callc n_flotsamlaw26_drops [.t 151]), dO 149 (.tk (.t 152))])
 (.cond (.t 149)
 (.drw [[], [], [], [], [], [], [], [], []] [dO 153 (.mv (.t 12)), dO 154 (.mv (.t 7)), dO 155 (.sls 7 (.t 153) none (some (.t 154)) none), dO 156 (.mv (.t 9)), dO 157 (.mv (.t 7)), dO 158 (.ia .add .i64 (.t 157) (kI 1)), dO 159 (.sls 7 (.t 156) (some (.t 158)) none none), dO 160 (.apm 7 112 (.t 155) (.t 159)), dO 12 (.tk (.t 160))])
 (.seq (.reg [dO 162 (.fa 0 (.t 3)), dO 163 (.ld none (.t 162)), dO 164 (.ic .eql (.t 163) (kI 5)), dO 165 (.mv (.t 164)), ⟨some 166, (some (165, true)), .mv (.t 7)⟩, ⟨some 167, (some (165, true)), .ia .add .i64 (.t 166) (kI 1)⟩, ⟨some 168, (some (165, true)), .mv (.t 9)⟩, ⟨some 169, (some (165, true)), .len false (.t 168)⟩, ⟨some 170, (some (165, true)), .ic .lss (.t 167) (.t 169)⟩, dO 171 (.pick (.t 165) (.t 170) kF), dO 161 (.tk (.t 171))])
 (.cond (.t 161)
 (.seq (.reg [dO 172 (.mv (.t 12)), dO 173 (.mv (.t 7)), dO 174 (.mv (.t 9)), dO 175 (.mv (.t 7)), dO 176 (.ia .add .i64 (.t 175) (kI 1)), dO 177 (.ixa 7 none (.t 174) (.t 176)), dO 178 (.ld (some 7) (.t 177)), dO 179 (.ixa 7 none (.t 172) (.t 173)), ⟨none, none, .stw 7 (.t 179) (.t 178)⟩])
 (.reg [dO 180 (.mv (.t 12)), dO 181 (.mv (.t 7)), dO 182 (.ia .add .i64 (.t 181) (kI 1)), dO 183 (.mv (.t 9)), dO 184 (.mv (.t 7)), dO 185 (.ixa 7 none (.t 183) (.t 184)), dO 186 (.ld (some 7) (.t 185)), dO 187 (.ixa 7 none (.t 180) (.t 182)), ⟨none, none, .stw 7 (.t 187) (.t 186)⟩]))
 (.seq (.reg [dO 189 (.fa 0 (.t 3)), dO 190 (.ld none (.t 189)), dO 191 (.ic .eql (.t 190) (kI 2)), dO 188 (.tk (.t 191))])
 (.cond (.t 188)
 (.reg [dO 192 (.mv (.t 12)), dO 193 (.mv (.t 7)), dO 194 (.ixa 7 none (.t 192) (.t 193)), dO 195 (.fa 0 (.t 194)), ⟨none, none, .st 1 (.t 195) (kI 9)⟩])
 (.seq (.reg [dO 197 (.fa 0 (.t 3)), dO 198 (.ld none (.t 197)), dO 199 (.ic .eql (.t 198) (kI 6)), dO 196 (.tk (.t 199))])
 (.cond (.t 196)
 (.reg [dO 200 (.mv (.t 12)), dO 201 (.mv (.t 7)), dO 202 (.ixa 7 none (.t 200) (.t 201)), dO 203 (.fa 6 (.t 202)), ⟨none, none, .st 1 (.t 203) kF⟩])
 (.skip))))))))))
 (.seq (.seq (.reg [dO 204 (.mv (.t 12)), dO 205 (.len false (.t 204)), dO 206 (.mv (.t 10)), dO 207 (.len false (.t 206)), dO 208 (.ic .neq (.t 205) (.t 207))])
 (.cond (.t 208)
 (.seq (.reg [dO 4 (.tk kF)])
 (.ret))
 (.skip)))
 (.seq (.seq (.reg [dO 13 (.tk (kI 0))])
 (.block 3 (l_flotsamlaw26_RewriteOne_w_1))) r_flotsamlaw26_RewriteOne_w_0))))
def c_flotsamlaw26_RewriteOne_w : AFunc :=
 { np := 2, res := [.t 4], body := (
 .seq (.reg [dO 2 (.box (.t 0)), dO 3 (.box (.t 1)), dO 4 (.tk kF)])
 (.seq (.seq (.reg [dO 14 (.ld (some 4) (.t 2)), dO 15 (.callc n_l16_Small [.t 14]), dO 16 (.notb (.t 15)), dO 17 (.mv (.t 16)), ⟨some 18, (some (17, false)), .callc n_flotsamlaw26_knows []⟩, ⟨some 19, (some (17, false)), .notb (.t 18)⟩, dO 20 (.pick (.t 17) kT (.t 19))])
 (.cond (.t 20)
 (.seq (.reg [dO 21 (.callc n_flotsamlaw26_knows []), dO 4 (.tk (.t 21))])
 (.ret))
 (.skip)))
 (.seq (.reg [dO 23 (.ld (some 4) (.t 2)), dO 24 (.ld (some 11) (.t 3)), dO 25 (.callck n_rewrite_Apply [.t 23, .t 24]), dO 22 (.mv (.t 25)), dO 26 (.ext (.t 22) 0), dO 27 (.ext (.t 22) 1), dO 5 (.alloc [.own 2 [], .own 7 [], .own 7 [], .own 5 []]), ⟨none, none, .stw 4 (.t 5) (.t 26)⟩, dO 6 (.tk (.t 27))])
 (.seq (.reg [dO 29 (.ld (some 4) (.t 2)), dO 30 (.ld (some 11) (.t 3)), dO 31 (.callc n_rewrite_Number [.t 29, .t 30]), dO 28 (.mv (.t 31)), dO 32 (.ext (.t 28) 0), dO 33 (.ext (.t 28) 1), dO 7 (.tk (.t 32)), dO 8 (.tk (.t 33))])
 (.seq (.seq (.reg [dO 34 (.mv (.t 6)), dO 35 (.notb (.t 34))])
 (.cond (.t 35)
 (.seq (.reg [dO 36 (.ld (some 4) (.t 2)), dO 37 (.ld (some 11) (.t 3)), dO 38 (.callc n_site_Fits [.t 36, .t 37]), dO 39 (.notb (.t 38)), dO 40 (.mv (.t 39)), ⟨some 41, (some (40, true)), .ld (some 4) (.t 5)⟩, ⟨some 42, (some (40, true)), .bld [.sl 2 [], .sl 7 [], .sl 7 [], .sl 5 []] []⟩, ⟨some 43, (some (40, true)), .callc n_r16_Same [.t 41, .t 42]⟩, dO 44 (.pick (.t 40) (.t 43) kF), dO 4 (.tk (.t 44))])
 (.ret))
 (.skip)))
 (.seq (.seq (.reg [dO 45 (.ld (some 4) (.t 2)), dO 46 (.callc n_tree_Right [.t 45]), dO 47 (.notb (.t 46))])
 (.cond (.t 47)
 (.seq (.reg [dO 48 (.mv (.t 8)), dO 4 (.tk (.t 48))])
 (.ret))
 (.skip)))
 (.seq (.drw [[], [], [], [], [], []] [dO 49 (.ld (some 4) (.t 2)), dO 50 (.callc n_tree_All [.t 49]), dO 51 (.ld (some 4) (.t 5)), dO 52 (.callc n_tree_All [.t 51]), dO 9 (.tk (.t 50)), dO 10 (.tk (.t 52))])
 (.seq (.seq (.reg [dO 53 (.mv (.t 8)), dO 54 (.notb (.t 53)), dO 55 (.mv (.t 54)), ⟨some 56, (some (55, false)), .mv (.t 7)⟩, ⟨some 57, (some (55, false)), .ic .lss (.t 56) (kI 0)⟩, dO 58 (.pick (.t 55) kT (.t 57)), dO 59 (.mv (.t 58)), ⟨some 60, (some (59, false)), .mv (.t 7)⟩, ⟨some 61, (some (59, false)), .mv (.t 9)⟩, ⟨some 62, (some (59, false)), .len false (.t 61)⟩, ⟨some 63, (some (59, false)), .ic .geq (.t 60) (.t 62)⟩, dO 64 (.pick (.t 59) kT (.t 63)), dO 65 (.mv (.t 64)), ⟨some 66, (some (65, false)), .fa 2 (.t 2)⟩, ⟨some 67, (some (65, false)), .ld none (.t 66)⟩, ⟨some 68, (some (65, false)), .fa 2 (.t 5)⟩, ⟨some 69, (some (65, false)), .ld none (.t 68)⟩, ⟨some 70, (some (65, false)), .callc n_r16_SameStmts [.t 67, .t 69]⟩, ⟨some 71, (some (65, false)), .notb (.t 70)⟩, dO 72 (.pick (.t 65) kT (.t 71)), dO 73 (.mv (.t 72)), ⟨some 74, (some (73, false)), .fa 0 (.t 2)⟩, ⟨some 75, (some (73, false)), .ld none (.t 74)⟩, ⟨some 76, (some (73, false)), .len false (.t 75)⟩, ⟨some 77, (some (73, false)), .fa 0 (.t 5)⟩, ⟨some 78, (some (73, false)), .ld none (.t 77)⟩, ⟨some 79, (some (73, false)), .len false (.t 78)⟩, ⟨some 80, (some (73, false)), .ic .neq (.t 76) (.t 79)⟩, dO 81 (.pick (.t 73) kT (.t 80)), dO 82 (.mv (.t 81)), ⟨some 83, (some (82, false)), .fa 3 (.t 2)⟩, ⟨some 84, (some (82, false)), .ld none (.t 83)⟩, ⟨some 85, (some (82, false)), .bld [.sl 2 [], .sl 7 [], .sl 7 [], .sl 5 []] [(3, 1, .t 84)]⟩, ⟨some 86, (some (82, false)), .fa 3 (.t 5)⟩, ⟨some 87, (some (82, false)), .ld none (.t 86)⟩, ⟨some 88, (some (82, false)), .bld [.sl 2 [], .sl 7 [], .sl 7 [], .sl 5 []] [(3, 1, .t 87)]⟩, ⟨some 89, (some (82, false)), .callc n_r16_Same [.t 85, .t 88]⟩, ⟨some 90, (some (82, false)), .notb (.t 89)⟩, dO 91 (.pick (.t 82) kT (.t 90))])
 (.cond (.t 91)
 (.seq (.reg [dO 4 (.tk kF)])
 (.ret))
 (.skip)))
 (.seq (.seq (.reg [dO 11 (.tk (kI 0))])
 (.block 0 (l_flotsamlaw26_RewriteOne_w_0))) r_flotsamlaw26_RewriteOne_w_1))))))))) }
def c_rewrite_Apply_w : AFunc :=
 { np := 2, res := [.cell 4 (some 4), .t 5], body := (
 .seq (.reg [dO 2 (.box (.t 0)), dO 3 (.box (.t 1)), dO 4 (.alloc [.own 2 [], .own 7 [], .own 7 [], .own 5 []]), dO 5 (.tk kF)])
 (.seq (.seq (.reg [dO 8 (.ld (some 4) (.t 2)), dO 9 (.ld (some 11) (.t 3)), dO 10 (.callc n_site_Fits [.t 8, .t 9]), dO 11 (.notb (.t 10))])
 (.cond (.t 11)
 (.seq (.reg [dO 12 (.bld [.sl 2 [], .sl 7 [], .sl 7 [], .sl 5 []] []), ⟨none, none, .stw 4 (.t 4) (.t 12)⟩, dO 5 (.tk kF)])
 (.ret))
 (.skip)))
 (.seq (.reg [dO 13 (.ld (some 4) (.t 2)), dO 14 (.callx (wNo n_tree_Clone) [.t 13]), dO 6 (.alloc [.own 2 [], .own 7 [], .own 7 [], .own 5 []]), ⟨none, none, .stw 4 (.t 6) (.t 14)⟩])
 (.seq (.reg [dO 15 (.fa 1 (.t 6)), dO 7 (.tk (.t 15))])
 (.seq (.seq (.reg [dO 16 (.fa 1 (.t 3)), dO 17 (.ld none (.t 16)), dO 18 (.ic .gtr (.t 17) (kI 0))])
 (.cond (.t 18)
 (.reg [dO 19 (.fa 0 (.t 6)), dO 20 (.ld none (.t 19)), dO 21 (.fa 1 (.t 3)), dO 22 (.ld none (.t 21)), dO 23 (.ia .sub .i64 (.t 22) (kI 1)), dO 24 (.ixa 2 none (.t 20) (.t 23)), dO 25 (.fa 1 (.t 24)), dO 7 (.tk (.t 25))])
 (.skip)))
 (.seq (.drw [[], [], [], [], [], [], [], [], [], [], [], [6, 9]] [dO 26 (.mv (.t 7)), dO 27 (.fa 2 (.t 3)), dO 28 (.ixa 1 (some 8) (.t 27) (kI 0)), dO 29 (.ld none (.t 28)), dO 30 (.fa 2 (.t 3)), dO 31 (.fa 10 (.t 3)), dO 32 (.ld none (.t 31)), dO 33 (.slp 1 8 (.t 30) (some (kI 1)) (some (.t 32)) none), dO 34 (.fa 0 (.t 3)), dO 35 (.ld none (.t 34)), dO 36 (.callx (wNo n_rewrite_by) [.t 35]), dO 37 (.callk n_rewrite_along [.t 26, .t 29, .t 33, .t 36])])
 (.seq (.reg [dO 38 (.ldf (some 4) (.t 6)), ⟨none, none, .stw 4 (.t 4) (.t 38)⟩, dO 5 (.tk kT)])
 (.ret)))))))) }
def c_tree_Clone_w : AFunc :=
 { np := 1, res := [.cell 2 (some 4)], body := (
 .seq (.reg [dO 1 (.box (.t 0)), dO 2 (.alloc [.own 2 [], .own 7 [], .own 7 [], .own 5 []])])
 (.seq (.drw [[], [], [], [], [], [], [], [], [2], [], [], [2, 5], [], []] [dO 3 (.fa 0 (.t 1)), dO 4 (.ld none (.t 3)), dO 5 (.callx (wNo n_tree_each_api_Proc) [.t 4, (.c (.fn (.func n_tree_Clone_1) [] []))]), dO 6 (.fa 1 (.t 1)), dO 7 (.ld none (.t 6)), dO 8 (.callx (wNo n_tree_each_api_Stmt) [.t 7, (.c (.fn (.func n_tree_cloned) [] []))]), dO 9 (.fa 2 (.t 1)), dO 10 (.ld none (.t 9)), dO 11 (.callx (wNo n_tree_each_api_Stmt) [.t 10, (.c (.fn (.func n_tree_cloned) [] []))]), dO 12 (.fa 3 (.t 1)), dO 13 (.ld none (.t 12)), dO 14 (.callx (wNo n_tree_each_api_Oracle) [.t 13, (.c (.fn (.func n_tree_Clone_2) [] []))]), dO 15 (.bld [.sl 2 [], .sl 7 [], .sl 7 [], .sl 5 []] [(0, 1, .t 5), (1, 1, .t 8), (2, 1, .t 11), (3, 1, .t 14)]), ⟨none, none, .stw 4 (.t 2) (.t 15)⟩])
 (.ret))) }
def c_rewrite_along_w : AFunc :=
 { np := 4, res := [], body := (
 .seq (.seq (.reg [dO 11 (.mv (.t 2)), dO 12 (.len false (.t 11)), dO 13 (.ic .eql (.t 12) (kI 0))])
 (.cond (.t 13)
 (.seq (.reg [dO 14 (.mv (.t 0)), dO 15 (.mv (.t 3)), dO 16 (.mv (.t 0)), dO 17 (.nck (.t 16)), dO 18 (.ld none (.t 17)), dO 19 (.mv (.t 1)), dO 20 (.callvk (.t 15) [.t 18, .t 19]), dO 21 (.nck (.t 14)), ⟨none, none, .stw 1 (.t 21) (.t 20)⟩])
 (.ret))
 (.skip)))
 (.seq (.drw [[], [], [], [], [], [], [], [], [], []] [dO 22 (.mv (.t 0)), dO 23 (.nck (.t 22)), dO 24 (.ld none (.t 23)), dO 25 (.mv (.t 1)), dO 26 (.ixa 7 none (.t 24) (.t 25)), dO 27 (.mv (.t 2)), dO 28 (.ixa 1 none (.t 27) (kI 0)), dO 29 (.ld none (.t 28)), dO 8 (.tk (.t 26)), dO 9 (.tk (.t 29))])
 (.seq (.reg [dO 30 (.mv (.t 8)), dO 31 (.nck (.t 30)), dO 32 (.fa 4 (.t 31)), dO 10 (.tk (.t 32))])
 (.seq (.seq (.reg [dO 33 (.mv (.t 9)), dO 34 (.ia .and .i64 (.t 33) (kI 1)), dO 35 (.ic .eql (.t 34) (kI 1))])
 (.cond (.t 35)
 (.reg [dO 36 (.mv (.t 8)), dO 37 (.nck (.t 36)), dO 38 (.fa 5 (.t 37)), dO 10 (.tk (.t 38))])
 (.skip)))
 (.reg [dO 39 (.mv (.t 10)), dO 40 (.mv (.t 9)), dO 41 (.ia .shr .i64 (.t 40) (.c (.int .u64 1))), dO 42 (.mv (.t 2)), dO 43 (.sls 1 (.t 42) (some (kI 1)) none none), dO 44 (.mv (.t 3)), dO 45 (.callk n_rewrite_along [.t 39, .t 41, .t 43, .t 44])]))))) }
def c_rewrite_by_w : AFunc :=
 { np := 1, res := [.t 2], body := (
 .seq (.reg [dO 2 (.tk (.c (.nilf)))])
 (.seq (.seq (.reg [dO 3 (.mv (.t 0))])
 (.block 0 (.seq (.reg [dO 5 (.ic .eql (.t 3) (kI 2)), dO 4 (.tk (.t 5))])
 (.cond (.t 4)
 (.seq (.reg [dO 6 (.callk n_rewrite_change [(.c (.fn (.func n_rewrite_by_1) [] []))]), dO 2 (.tk (.t 6))])
 (.ret))
 (.seq (.reg [dO 8 (.ic .eql (.t 3) (kI 6)), dO 7 (.tk (.t 8))])
 (.cond (.t 7)
 (.seq (.reg [dO 9 (.callk n_rewrite_change [(.c (.fn (.func n_rewrite_by_2) [] []))]), dO 2 (.tk (.t 9))])
 (.ret))
 (.seq (.reg [dO 11 (.ic .eql (.t 3) (kI 7)), dO 10 (.tk (.t 11))])
 (.cond (.t 10)
 (.seq (.reg [dO 12 (.callk n_rewrite_change [(.c (.fn (.func n_rewrite_half) [] []))]), dO 2 (.tk (.t 12))])
 (.ret))
 (.seq (.reg [dO 14 (.ic .eql (.t 3) (kI 5)), dO 13 (.tk (.t 14))])
 (.cond (.t 13)
 (.seq (.reg [dO 2 (.tk (.c (.fn (.func n_rewrite_by_3) [] [])))])
 (.ret))
 (.skip)))))))))))
 (.seq (.reg [dO 2 (.tk (.c (.fn (.func n_rewrite_by_4) [] [])))])
 (.ret)))) }
def c_tree_cloned_w : AFunc :=
 { np := 1, res := [.cell 2 (some 7)], body := (
 .seq (.reg [dO 1 (.box (.t 0)), dO 2 (.alloc [iZ, .str [], iZ, .own 4 [], .own 7 [], .own 7 [], .bool false])])
 (.seq (.reg [dO 3 (.fa 3 (.t 1)), dO 4 (.ld none (.t 3)), dO 5 (.callx (wNo n_tree_each_api_Expr) [.t 4, (.c (.fn (.func n_tree_clonedExpr) [] []))]), dO 6 (.fa 3 (.t 1)), ⟨none, none, .stw 1 (.t 6) (.t 5)⟩])
 (.seq (.reg [dO 7 (.fa 4 (.t 1)), dO 8 (.ld none (.t 7)), dO 9 (.callx (wNo n_tree_each_api_Stmt) [.t 8, (.c (.fn (.func n_tree_cloned) [] []))]), dO 10 (.fa 4 (.t 1)), ⟨none, none, .stw 1 (.t 10) (.t 9)⟩])
 (.seq (.reg [dO 11 (.fa 5 (.t 1)), dO 12 (.ld none (.t 11)), dO 13 (.callx (wNo n_tree_each_api_Stmt) [.t 12, (.c (.fn (.func n_tree_cloned) [] []))]), dO 14 (.fa 5 (.t 1)), ⟨none, none, .stw 1 (.t 14) (.t 13)⟩])
 (.seq (.reg [dO 15 (.ld (some 7) (.t 1)), ⟨none, none, .stw 7 (.t 2) (.t 15)⟩])
 (.ret)))))) }
def b_tree_each_api_Proc_w_0 : AC :=
 .seq (.reg [dO 11 (.ic .lss (.t 10) (.t 9))])
 (.seq (.cond (.t 11)
 (.skip)
 (.exit 0))
 (.seq (.block 1 (.seq (.reg [dO 12 (.ixa 2 none (.t 8) (.t 10)), dO 13 (.ld (some 2) (.t 12)), dO 7 (.alloc [.str [], .nils 7]), ⟨none, none, .stw 2 (.t 7) (.t 13)⟩])
 (.reg [dO 14 (.tk (.t 5)), dO 15 (.mv (.t 1)), dO 16 (.ld (some 2) (.t 7)), dO 17 (.callvk (.t 15) [.t 16]), dO 18 (.bsl 2 [.str [], .sl 7 []] 1 [(0, 2, .t 17)] true), dO 19 (.apm 2 40 (.t 14) (.t 18)), dO 5 (.tk (.t 19))])))
 (.reg [dO 20 (.ia .add .i64 (.t 10) (kI 1)), dO 10 (.mv (.t 20))])))
def l_tree_each_api_Proc_w_0 : AC :=
 .loop [1, 5, 8, 9, 10] b_tree_each_api_Proc_w_0
def r_tree_each_api_Proc_w_0 : AC :=
 .seq (.reg [dO 21 (.tk (.t 5)), dO 4 (.tk (.t 21))])
 (.ret)
def c_tree_each_api_Proc_w : AFunc :=
 { np := 2, res := [.t 4], body := (
 .seq (.reg [dO 4 (.tk (.c (.nils 2)))])
 (.seq (.reg [dO 5 (.tk (.c (.nils 2)))])
 (.seq (.seq (.reg [dO 8 (.tk (.t 0)), dO 9 (.len false (.t 8)), dO 10 (.mv (kI 0))])
 (.block 0 (l_tree_each_api_Proc_w_0))) r_tree_each_api_Proc_w_0))) }
def c_tree_Clone_1_w : AFunc :=
 { np := 1, res := [.cell 2 (some 2)], body := (
 .seq (.reg [dO 1 (.box (.t 0)), dO 2 (.alloc [.str [], .own 7 []])])
 (.seq (.drw [[], [], [], [], [], [], []] [dO 3 (.fa 0 (.t 1)), dO 4 (.ld none (.t 3)), dO 5 (.fa 1 (.t 1)), dO 6 (.ld none (.t 5)), dO 7 (.callx (wNo n_tree_each_api_Stmt) [.t 6, (.c (.fn (.func n_tree_cloned) [] []))]), dO 8 (.bld [.str [], .sl 7 []] [(0, 1, .t 4), (1, 1, .t 7)]), ⟨none, none, .stw 2 (.t 2) (.t 8)⟩])
 (.ret))) }
def b_tree_each_api_Stmt_w_0 : AC :=
 .seq (.reg [dO 11 (.ic .lss (.t 10) (.t 9))])
 (.seq (.cond (.t 11)
 (.skip)
 (.exit 0))
 (.seq (.block 1 (.seq (.reg [dO 12 (.ixa 7 none (.t 8) (.t 10)), dO 13 (.ld (some 7) (.t 12)), dO 7 (.alloc [iZ, .str [], iZ, .nils 4, .nils 7, .nils 7, .bool false]), ⟨none, none, .stw 7 (.t 7) (.t 13)⟩])
 (.reg [dO 14 (.tk (.t 5)), dO 15 (.mv (.t 1)), dO 16 (.ld (some 7) (.t 7)), dO 17 (.callvk (.t 15) [.t 16]), dO 18 (.bsl 7 [iZ, .str [], iZ, .sl 4 [], .sl 7 [], .sl 7 [], .bool false] 1 [(0, 7, .t 17)] true), dO 19 (.apm 7 112 (.t 14) (.t 18)), dO 5 (.tk (.t 19))])))
 (.reg [dO 20 (.ia .add .i64 (.t 10) (kI 1)), dO 10 (.mv (.t 20))])))
def l_tree_each_api_Stmt_w_0 : AC :=
 .loop [1, 5, 8, 9, 10] b_tree_each_api_Stmt_w_0
def r_tree_each_api_Stmt_w_0 : AC :=
 .seq (.reg [dO 21 (.tk (.t 5)), dO 4 (.tk (.t 21))])
 (.ret)
def c_tree_each_api_Stmt_w : AFunc :=
 { np := 2, res := [.t 4], body := (
 .seq (.reg [dO 4 (.tk (.c (.nils 7)))])
 (.seq (.reg [dO 5 (.tk (.c (.nils 7)))])
 (.seq (.seq (.reg [dO 8 (.tk (.t 0)), dO 9 (.len false (.t 8)), dO 10 (.mv (kI 0))])
 (.block 0 (l_tree_each_api_Stmt_w_0))) r_tree_each_api_Stmt_w_0))) }
def b_tree_each_api_Oracle_w_0 : AC :=
 .seq (.reg [dO 11 (.ic .lss (.t 10) (.t 9))])
 (.seq (.cond (.t 11)
 (.skip)
 (.exit 0))
 (.seq (.block 1 (.seq (.reg [dO 12 (.ixa 5 none (.t 8) (.t 10)), dO 13 (.ld (some 5) (.t 12)), dO 7 (.alloc [.str [], iZ, iZ, .str [], .nils 4]), ⟨none, none, .stw 5 (.t 7) (.t 13)⟩])
 (.reg [dO 14 (.tk (.t 5)), dO 15 (.mv (.t 1)), dO 16 (.ld (some 5) (.t 7)), dO 17 (.callvk (.t 15) [.t 16]), dO 18 (.bsl 5 [.str [], iZ, iZ, .str [], .sl 4 []] 1 [(0, 5, .t 17)] true), dO 19 (.apm 5 72 (.t 14) (.t 18)), dO 5 (.tk (.t 19))])))
 (.reg [dO 20 (.ia .add .i64 (.t 10) (kI 1)), dO 10 (.mv (.t 20))])))
def l_tree_each_api_Oracle_w_0 : AC :=
 .loop [1, 5, 8, 9, 10] b_tree_each_api_Oracle_w_0
def r_tree_each_api_Oracle_w_0 : AC :=
 .seq (.reg [dO 21 (.tk (.t 5)), dO 4 (.tk (.t 21))])
 (.ret)
def c_tree_each_api_Oracle_w : AFunc :=
 { np := 2, res := [.t 4], body := (
 .seq (.reg [dO 4 (.tk (.c (.nils 5)))])
 (.seq (.reg [dO 5 (.tk (.c (.nils 5)))])
 (.seq (.seq (.reg [dO 8 (.tk (.t 0)), dO 9 (.len false (.t 8)), dO 10 (.mv (kI 0))])
 (.block 0 (l_tree_each_api_Oracle_w_0))) r_tree_each_api_Oracle_w_0))) }
def c_tree_Clone_2_w : AFunc :=
 { np := 1, res := [.cell 2 (some 5)], body := (
 .seq (.reg [dO 1 (.box (.t 0)), dO 2 (.alloc [.str [], iZ, iZ, .str [], .own 4 []])])
 (.seq (.drw [[], [], [], [], [], [], []] [dO 3 (.fa 0 (.t 1)), dO 4 (.ld none (.t 3)), dO 5 (.fa 1 (.t 1)), dO 6 (.ld (some 4) (.t 5)), dO 7 (.callx (wNo n_tree_clonedExpr) [.t 6]), dO 8 (.bld [.str [], iZ, iZ, .str [], .sl 4 []] [(0, 1, .t 4), (1, 4, .t 7)]), ⟨none, none, .stw 5 (.t 2) (.t 8)⟩])
 (.ret))) }
def c_tree_clonedExpr_w : AFunc :=
 { np := 1, res := [.cell 2 (some 4)], body := (
 .seq (.reg [dO 1 (.box (.t 0)), dO 2 (.alloc [iZ, iZ, .str [], .own 4 []])])
 (.seq (.reg [dO 3 (.fa 3 (.t 1)), dO 4 (.ld none (.t 3)), dO 5 (.callx (wNo n_tree_each_api_Expr) [.t 4, (.c (.fn (.func n_tree_clonedExpr) [] []))]), dO 6 (.fa 3 (.t 1)), ⟨none, none, .stw 1 (.t 6) (.t 5)⟩])
 (.seq (.reg [dO 7 (.ld (some 4) (.t 1)), ⟨none, none, .stw 4 (.t 2) (.t 7)⟩])
 (.ret)))) }
def c_rewrite_change_w : AFunc :=
 { np := 1, res := [.t 2], body := (
 .seq (.reg [dO 1 (.box (.t 0)), dO 2 (.tk (.c (.nilf)))])
 (.seq (.reg [dO 3 (.mkf (.func n_rewrite_change_1) [] [.t 1]), dO 2 (.tk (.t 3))])
 (.ret))) }
def c_rewrite_by_1_w : AFunc :=
 { np := 1, res := [], body := (
 .reg [dO 2 (.mv (.t 0)), dO 3 (.nck (.t 2)), dO 4 (.fa 0 (.t 3)), ⟨none, none, .st 1 (.t 4) (kI 9)⟩]) }
def c_rewrite_by_2_w : AFunc :=
 { np := 1, res := [], body := (
 .reg [dO 2 (.mv (.t 0)), dO 3 (.nck (.t 2)), dO 4 (.fa 6 (.t 3)), ⟨none, none, .st 1 (.t 4) kF⟩]) }
def c_rewrite_half_w : AFunc :=
 { np := 1, res := [], body := (
 .seq (.drw [[], [], [], [], [], [], [], [], [], [], [], []] [dO 3 (.mv (.t 0)), dO 4 (.nck (.t 3)), dO 5 (.fa 3 (.t 4)), dO 6 (.ld none (.t 5)), dO 7 (.mv (.t 0)), dO 8 (.nck (.t 7)), dO 9 (.fa 3 (.t 8)), dO 10 (.ld none (.t 9)), dO 11 (.len false (.t 10)), dO 12 (.ia .sub .i64 (.t 11) (kI 1)), dO 13 (.ixa 4 none (.t 6) (.t 12)), dO 2 (.tk (.t 13))])
 (.drw [[], [], [], [], [], [], [], [], [], [], [], [], [], [], []] [dO 14 (.mv (.t 2)), dO 15 (.mv (.t 2)), dO 16 (.nck (.t 15)), dO 17 (.fa 2 (.t 16)), dO 18 (.ld none (.t 17)), dO 19 (.mv (.t 2)), dO 20 (.nck (.t 19)), dO 21 (.fa 2 (.t 20)), dO 22 (.ld none (.t 21)), dO 23 (.len true (.t 22)), dO 24 (.ia .quo .i64 (.t 23) (kI 2)), dO 25 (.slc (.t 18) none (some (.t 24))), dO 26 (.nck (.t 14)), dO 27 (.fa 2 (.t 26)), ⟨none, none, .st 1 (.t 27) (.t 25)⟩])) }
def c_rewrite_by_3_w : AFunc :=
 { np := 2, res := [.t 4], body := (
 .seq (.reg [dO 4 (.tk (.c (.own 7 [])))])
 (.seq (.drw [[], [], [], [], [], [], [], [], [], [], [], [], [], [], [], [], [], []] [dO 5 (.mv (.t 0)), dO 6 (.mv (.t 1)), dO 7 (.mv (.t 0)), dO 8 (.mv (.t 1)), dO 9 (.ia .add .i64 (.t 8) (kI 1)), dO 10 (.mv (.t 0)), dO 11 (.mv (.t 1)), dO 12 (.ia .add .i64 (.t 11) (kI 1)), dO 13 (.ixa 7 none (.t 10) (.t 12)), dO 14 (.ld (some 7) (.t 13)), dO 15 (.mv (.t 0)), dO 16 (.mv (.t 1)), dO 17 (.ixa 7 none (.t 15) (.t 16)), dO 18 (.ld (some 7) (.t 17)), dO 19 (.ixa 7 none (.t 5) (.t 6)), ⟨none, none, .stw 7 (.t 19) (.t 14)⟩, dO 20 (.ixa 7 none (.t 7) (.t 9)), ⟨none, none, .stw 7 (.t 20) (.t 18)⟩])
 (.seq (.reg [dO 21 (.mv (.t 0)), dO 4 (.tk (.t 21))])
 (.ret)))) }
def c_rewrite_by_4_w : AFunc :=
 { np := 2, res := [.t 4], body := (
 .seq (.reg [dO 4 (.tk (.c (.own 7 [])))])
 (.seq (.reg [dO 5 (.mv (.t 0)), dO 6 (.mv (.t 1)), dO 7 (.mv (.t 1)), dO 8 (.ia .add .i64 (.t 7) (kI 1)), dO 9 (.callk n_slices_Delete_api_Stmt_api_Stmt [.t 5, .t 6, .t 8]), dO 4 (.tk (.t 9))])
 (.ret))) }
def c_slices_Delete_api_Stmt_api_Stmt_w : AFunc :=
 { np := 3, res := [.t 6], body := (
 .seq (.reg [dO 6 (.tk (.c (.own 7 [])))])
 (.seq (.reg [dO 8 (.mv (.t 0)), dO 9 (.mv (.t 1)), dO 10 (.mv (.t 2)), dO 11 (.mv (.t 0)), dO 12 (.len false (.t 11)), dO 13 (.sls 7 (.t 8) (some (.t 9)) (some (.t 10)) (some (.t 12)))])
 (.seq (.seq (.reg [dO 14 (.mv (.t 1)), dO 15 (.mv (.t 2)), dO 16 (.ic .eql (.t 14) (.t 15))])
 (.cond (.t 16)
 (.seq (.reg [dO 17 (.mv (.t 0)), dO 6 (.tk (.t 17))])
 (.ret))
 (.skip)))
 (.seq (.reg [dO 18 (.mv (.t 0)), dO 19 (.len false (.t 18)), dO 7 (.tk (.t 19))])
 (.seq (.drw [[], [], [], [], [], [], [], []] [dO 20 (.mv (.t 0)), dO 21 (.mv (.t 1)), dO 22 (.sls 7 (.t 20) none (some (.t 21)) none), dO 23 (.mv (.t 0)), dO 24 (.mv (.t 2)), dO 25 (.sls 7 (.t 23) (some (.t 24)) none none), dO 26 (.apm 7 112 (.t 22) (.t 25)), dO 0 (.tk (.t 26))])
 (.seq (.reg [dO 27 (.mv (.t 0)), dO 28 (.mv (.t 0)), dO 29 (.len false (.t 28)), dO 30 (.mv (.t 7)), dO 31 (.sls 7 (.t 27) (some (.t 29)) (some (.t 30)) none), ⟨none, none, .clr 7 [iZ, .str [], iZ, .sl 4 [], .sl 7 [], .sl 7 [], .bool false] (.t 31)⟩])
 (.seq (.reg [dO 32 (.mv (.t 0)), dO 6 (.tk (.t 32))])
 (.ret)))))))) }
def b_tree_each_api_Expr_w_0 : AC :=
 .seq (.reg [dO 11 (.ic .lss (.t 10) (.t 9))])
 (.seq (.cond (.t 11)
 (.skip)
 (.exit 0))
 (.seq (.block 1 (.seq (.reg [dO 12 (.ixa 4 none (.t 8) (.t 10)), dO 13 (.ld (some 4) (.t 12)), dO 7 (.alloc [iZ, iZ, .str [], .nils 4]), ⟨none, none, .stw 4 (.t 7) (.t 13)⟩])
 (.reg [dO 14 (.tk (.t 5)), dO 15 (.mv (.t 1)), dO 16 (.ld (some 4) (.t 7)), dO 17 (.callvk (.t 15) [.t 16]), dO 18 (.bsl 4 [iZ, iZ, .str [], .sl 4 []] 1 [(0, 4, .t 17)] true), dO 19 (.apm 4 56 (.t 14) (.t 18)), dO 5 (.tk (.t 19))])))
 (.reg [dO 20 (.ia .add .i64 (.t 10) (kI 1)), dO 10 (.mv (.t 20))])))
def l_tree_each_api_Expr_w_0 : AC :=
 .loop [1, 5, 8, 9, 10] b_tree_each_api_Expr_w_0
def r_tree_each_api_Expr_w_0 : AC :=
 .seq (.reg [dO 21 (.tk (.t 5)), dO 4 (.tk (.t 21))])
 (.ret)
def c_tree_each_api_Expr_w : AFunc :=
 { np := 2, res := [.t 4], body := (
 .seq (.reg [dO 4 (.tk (.c (.nils 4)))])
 (.seq (.reg [dO 5 (.tk (.c (.nils 4)))])
 (.seq (.seq (.reg [dO 8 (.tk (.t 0)), dO 9 (.len false (.t 8)), dO 10 (.mv (kI 0))])
 (.block 0 (l_tree_each_api_Expr_w_0))) r_tree_each_api_Expr_w_0))) }
def c_rewrite_change_1_w : AFunc :=
 { np := 3, res := [.t 5], body := (
 .seq (.reg [dO 5 (.tk (.c (.own 7 [])))])
 (.seq (.drw [[], [], [], [], []] [dO 6 (.ld none (.t 2)), dO 7 (.mv (.t 0)), dO 8 (.mv (.t 1)), dO 9 (.ixa 7 none (.t 7) (.t 8)), dO 10 (.callvk (.t 6) [.t 9])])
 (.seq (.reg [dO 11 (.tk (.t 0)), dO 5 (.tk (.t 11))])
 (.ret)))) }
def tbl : Tbl := Tab.get [(6, c_l16_Small), (7, c_flotsamlaw26_knows), (10, c_rewrite_Number), (12, c_r16_Same), (13, c_site_Fits), (15, c_site_At), (16, c_tree_Right), (17, c_tree_All), (18, c_r16_SameStmts), (19, c_flotsamlaw26_drops), (20, c_r16_SameStmt), (21, c_flotsamlaw26_bare), (22, c_r16_Size), (23, c_tree_Clone), (29, c_tree_Count), (30, c_rewrite_ahead), (33, c_r16_SameExpr), (34, c_site_fits), (35, c_site_lead), (37, c_tree_Right_1), (38, c_lex_Name), (39, c_tree_Right_2), (40, c_tree_expr), (41, c_tree_Right_3), (42, c_tree_block), (43, c_sC_Proc_api_Proc), (44, c_sC_Oracle_api_Oracle), (45, c_sC_Stmt_api_Stmt), (46, c_tree_parts), (47, c_tree_walk), (48, c_tree_cloned), (49, c_r16_block), (50, c_r16_expr), (51, c_tree_each_api_Proc), (52, c_tree_Clone_1), (53, c_tree_each_api_Stmt), (54, c_tree_each_api_Oracle), (55, c_tree_Clone_2), (56, c_tree_clonedExpr), (68, c_site_writes), (69, c_site_torn), (70, c_site_parts), (71, c_site_may), (72, c_site_next), (74, c_lex_begins), (75, c_lex_letter), (77, c_lex_inner), (78, c_lex_Key), (79, c_tree_Parts), (80, c_sC_Expr_api_Expr), (81, c_tree_expr_1), (82, c_sC_Stmt_api_Stmt_x), (83, c_tree_block_1), (84, c_tree_stmt), (85, c_sI_Proc_api_Proc), (86, c_sI_Oracle_api_Oracle), (87, c_sI_Stmt_api_Stmt), (88, c_tree_walk_1), (89, c_tree_each_api_Expr), (93, c_lex_digit), (95, c_sI_Expr_api_Expr), (96, c_sI_Stmt_api_Stmt_x), (97, c_tree_shape), (98, c_tree_stmt_1), (101, c_tree_Exprs), (102, c_tree_blocks), (103, c_tree_shape_1), (3000005, c_flotsamlaw26_RewriteOne_w), (3000008, c_rewrite_Apply_w), (3000023, c_tree_Clone_w), (3000024, c_rewrite_along_w), (3000025, c_rewrite_by_w), (3000048, c_tree_cloned_w), (3000051, c_tree_each_api_Proc_w), (3000052, c_tree_Clone_1_w), (3000053, c_tree_each_api_Stmt_w), (3000054, c_tree_each_api_Oracle_w), (3000055, c_tree_Clone_2_w), (3000056, c_tree_clonedExpr_w), (3000057, c_rewrite_change_w), (3000058, c_rewrite_by_1_w), (3000059, c_rewrite_by_2_w), (3000060, c_rewrite_half_w), (3000061, c_rewrite_by_3_w), (3000062, c_rewrite_by_4_w), (3000063, c_slices_Delete_api_Stmt_api_Stmt_w), (3000089, c_tree_each_api_Expr_w), (3000090, c_rewrite_change_1_w), (2001700, ⟨0, .seq a_tree_All_0 y_tree_All_0, []⟩), (2002900, ⟨0, .seq a_tree_Count_0 y_tree_Count_0, []⟩), (2008800, ⟨0, .seq a_tree_walk_1_0 y_tree_walk_1_0, []⟩)]
theorem t_l16_Small : tbl n_l16_Small = some c_l16_Small := by kernel_rfl
theorem t_flotsamlaw26_knows : tbl n_flotsamlaw26_knows = some c_flotsamlaw26_knows := by kernel_rfl
theorem t_rewrite_Number : tbl n_rewrite_Number = some c_rewrite_Number := by kernel_rfl
theorem t_r16_Same : tbl n_r16_Same = some c_r16_Same := by kernel_rfl
theorem t_site_Fits : tbl n_site_Fits = some c_site_Fits := by kernel_rfl
theorem t_site_At : tbl n_site_At = some c_site_At := by kernel_rfl
theorem t_tree_Right : tbl n_tree_Right = some c_tree_Right := by kernel_rfl
theorem t_tree_All : tbl n_tree_All = some c_tree_All := by kernel_rfl
theorem t_r16_SameStmts : tbl n_r16_SameStmts = some c_r16_SameStmts := by kernel_rfl
theorem t_flotsamlaw26_drops : tbl n_flotsamlaw26_drops = some c_flotsamlaw26_drops := by kernel_rfl
theorem t_r16_SameStmt : tbl n_r16_SameStmt = some c_r16_SameStmt := by kernel_rfl
theorem t_flotsamlaw26_bare : tbl n_flotsamlaw26_bare = some c_flotsamlaw26_bare := by kernel_rfl
theorem t_r16_Size : tbl n_r16_Size = some c_r16_Size := by kernel_rfl
theorem t_tree_Clone : tbl n_tree_Clone = some c_tree_Clone := by kernel_rfl
theorem t_tree_Count : tbl n_tree_Count = some c_tree_Count := by kernel_rfl
theorem t_rewrite_ahead : tbl n_rewrite_ahead = some c_rewrite_ahead := by kernel_rfl
theorem t_r16_SameExpr : tbl n_r16_SameExpr = some c_r16_SameExpr := by kernel_rfl
theorem t_site_fits : tbl n_site_fits = some c_site_fits := by kernel_rfl
theorem t_site_lead : tbl n_site_lead = some c_site_lead := by kernel_rfl
theorem t_tree_Right_1 : tbl n_tree_Right_1 = some c_tree_Right_1 := by kernel_rfl
theorem t_lex_Name : tbl n_lex_Name = some c_lex_Name := by kernel_rfl
theorem t_tree_Right_2 : tbl n_tree_Right_2 = some c_tree_Right_2 := by kernel_rfl
theorem t_tree_expr : tbl n_tree_expr = some c_tree_expr := by kernel_rfl
theorem t_tree_Right_3 : tbl n_tree_Right_3 = some c_tree_Right_3 := by kernel_rfl
theorem t_tree_block : tbl n_tree_block = some c_tree_block := by kernel_rfl
theorem t_sC_Proc_api_Proc : tbl n_sC_Proc_api_Proc = some c_sC_Proc_api_Proc := by kernel_rfl
theorem t_sC_Oracle_api_Oracle : tbl n_sC_Oracle_api_Oracle = some c_sC_Oracle_api_Oracle := by kernel_rfl
theorem t_sC_Stmt_api_Stmt : tbl n_sC_Stmt_api_Stmt = some c_sC_Stmt_api_Stmt := by kernel_rfl
theorem t_tree_parts : tbl n_tree_parts = some c_tree_parts := by kernel_rfl
theorem t_tree_walk : tbl n_tree_walk = some c_tree_walk := by kernel_rfl
theorem t_tree_cloned : tbl n_tree_cloned = some c_tree_cloned := by kernel_rfl
theorem t_r16_block : tbl n_r16_block = some c_r16_block := by kernel_rfl
theorem t_r16_expr : tbl n_r16_expr = some c_r16_expr := by kernel_rfl
theorem t_tree_each_api_Proc : tbl n_tree_each_api_Proc = some c_tree_each_api_Proc := by kernel_rfl
theorem t_tree_Clone_1 : tbl n_tree_Clone_1 = some c_tree_Clone_1 := by kernel_rfl
theorem t_tree_each_api_Stmt : tbl n_tree_each_api_Stmt = some c_tree_each_api_Stmt := by kernel_rfl
theorem t_tree_each_api_Oracle : tbl n_tree_each_api_Oracle = some c_tree_each_api_Oracle := by kernel_rfl
theorem t_tree_Clone_2 : tbl n_tree_Clone_2 = some c_tree_Clone_2 := by kernel_rfl
theorem t_tree_clonedExpr : tbl n_tree_clonedExpr = some c_tree_clonedExpr := by kernel_rfl
theorem t_site_writes : tbl n_site_writes = some c_site_writes := by kernel_rfl
theorem t_site_torn : tbl n_site_torn = some c_site_torn := by kernel_rfl
theorem t_site_parts : tbl n_site_parts = some c_site_parts := by kernel_rfl
theorem t_site_may : tbl n_site_may = some c_site_may := by kernel_rfl
theorem t_site_next : tbl n_site_next = some c_site_next := by kernel_rfl
theorem t_lex_begins : tbl n_lex_begins = some c_lex_begins := by kernel_rfl
theorem t_lex_letter : tbl n_lex_letter = some c_lex_letter := by kernel_rfl
theorem t_lex_inner : tbl n_lex_inner = some c_lex_inner := by kernel_rfl
theorem t_lex_Key : tbl n_lex_Key = some c_lex_Key := by kernel_rfl
theorem t_tree_Parts : tbl n_tree_Parts = some c_tree_Parts := by kernel_rfl
theorem t_sC_Expr_api_Expr : tbl n_sC_Expr_api_Expr = some c_sC_Expr_api_Expr := by kernel_rfl
theorem t_tree_expr_1 : tbl n_tree_expr_1 = some c_tree_expr_1 := by kernel_rfl
theorem t_sC_Stmt_api_Stmt_x : tbl n_sC_Stmt_api_Stmt_x = some c_sC_Stmt_api_Stmt_x := by kernel_rfl
theorem t_tree_block_1 : tbl n_tree_block_1 = some c_tree_block_1 := by kernel_rfl
theorem t_tree_stmt : tbl n_tree_stmt = some c_tree_stmt := by kernel_rfl
theorem t_sI_Proc_api_Proc : tbl n_sI_Proc_api_Proc = some c_sI_Proc_api_Proc := by kernel_rfl
theorem t_sI_Oracle_api_Oracle : tbl n_sI_Oracle_api_Oracle = some c_sI_Oracle_api_Oracle := by kernel_rfl
theorem t_sI_Stmt_api_Stmt : tbl n_sI_Stmt_api_Stmt = some c_sI_Stmt_api_Stmt := by kernel_rfl
theorem t_tree_walk_1 : tbl n_tree_walk_1 = some c_tree_walk_1 := by kernel_rfl
theorem t_tree_each_api_Expr : tbl n_tree_each_api_Expr = some c_tree_each_api_Expr := by kernel_rfl
theorem t_lex_digit : tbl n_lex_digit = some c_lex_digit := by kernel_rfl
theorem t_sI_Expr_api_Expr : tbl n_sI_Expr_api_Expr = some c_sI_Expr_api_Expr := by kernel_rfl
theorem t_sI_Stmt_api_Stmt_x : tbl n_sI_Stmt_api_Stmt_x = some c_sI_Stmt_api_Stmt_x := by kernel_rfl
theorem t_tree_shape : tbl n_tree_shape = some c_tree_shape := by kernel_rfl
theorem t_tree_stmt_1 : tbl n_tree_stmt_1 = some c_tree_stmt_1 := by kernel_rfl
theorem t_tree_Exprs : tbl n_tree_Exprs = some c_tree_Exprs := by kernel_rfl
theorem t_tree_blocks : tbl n_tree_blocks = some c_tree_blocks := by kernel_rfl
theorem t_tree_shape_1 : tbl n_tree_shape_1 = some c_tree_shape_1 := by kernel_rfl
theorem tw_flotsamlaw26_RewriteOne : tbl (wTab n_flotsamlaw26_RewriteOne) = some c_flotsamlaw26_RewriteOne_w := by kernel_rfl
theorem tw_rewrite_Apply : tbl (wTab n_rewrite_Apply) = some c_rewrite_Apply_w := by kernel_rfl
theorem tw_tree_Clone : tbl (wTab n_tree_Clone) = some c_tree_Clone_w := by kernel_rfl
theorem tw_rewrite_along : tbl (wTab n_rewrite_along) = some c_rewrite_along_w := by kernel_rfl
theorem tw_rewrite_by : tbl (wTab n_rewrite_by) = some c_rewrite_by_w := by kernel_rfl
theorem tw_tree_cloned : tbl (wTab n_tree_cloned) = some c_tree_cloned_w := by kernel_rfl
theorem tw_tree_each_api_Proc : tbl (wTab n_tree_each_api_Proc) = some c_tree_each_api_Proc_w := by kernel_rfl
theorem tw_tree_Clone_1 : tbl (wTab n_tree_Clone_1) = some c_tree_Clone_1_w := by kernel_rfl
theorem tw_tree_each_api_Stmt : tbl (wTab n_tree_each_api_Stmt) = some c_tree_each_api_Stmt_w := by kernel_rfl
theorem tw_tree_each_api_Oracle : tbl (wTab n_tree_each_api_Oracle) = some c_tree_each_api_Oracle_w := by kernel_rfl
theorem tw_tree_Clone_2 : tbl (wTab n_tree_Clone_2) = some c_tree_Clone_2_w := by kernel_rfl
theorem tw_tree_clonedExpr : tbl (wTab n_tree_clonedExpr) = some c_tree_clonedExpr_w := by kernel_rfl
theorem tw_rewrite_change : tbl (wTab n_rewrite_change) = some c_rewrite_change_w := by kernel_rfl
theorem tw_rewrite_by_1 : tbl (wTab n_rewrite_by_1) = some c_rewrite_by_1_w := by kernel_rfl
theorem tw_rewrite_by_2 : tbl (wTab n_rewrite_by_2) = some c_rewrite_by_2_w := by kernel_rfl
theorem tw_rewrite_half : tbl (wTab n_rewrite_half) = some c_rewrite_half_w := by kernel_rfl
theorem tw_rewrite_by_3 : tbl (wTab n_rewrite_by_3) = some c_rewrite_by_3_w := by kernel_rfl
theorem tw_rewrite_by_4 : tbl (wTab n_rewrite_by_4) = some c_rewrite_by_4_w := by kernel_rfl
theorem tw_slices_Delete_api_Stmt_api_Stmt : tbl (wTab n_slices_Delete_api_Stmt_api_Stmt) = some c_slices_Delete_api_Stmt_api_Stmt_w := by kernel_rfl
theorem tw_tree_each_api_Expr : tbl (wTab n_tree_each_api_Expr) = some c_tree_each_api_Expr_w := by kernel_rfl
theorem tw_rewrite_change_1 : tbl (wTab n_rewrite_change_1) = some c_rewrite_change_1_w := by kernel_rfl
theorem u_tree_All_0 : tbl q_tree_All_0 = some ⟨0, .seq a_tree_All_0 y_tree_All_0, []⟩ := by kernel_rfl
theorem u_tree_Count_0 : tbl q_tree_Count_0 = some ⟨0, .seq a_tree_Count_0 y_tree_Count_0, []⟩ := by kernel_rfl
theorem u_tree_walk_1_0 : tbl q_tree_walk_1_0 = some ⟨0, .seq a_tree_walk_1_0 y_tree_walk_1_0, []⟩ := by kernel_rfl
def noExt : Ext := fun k => if k = n_strings_Contains then some (xContains) else if k = n_lex_run then some (xRun n_lex_letter n_lex_digit n_lex_inner) else none
@[simp] theorem ltAll : n_flotsamlaw26_RewriteOne < yBase ∧ n_l16_Small < yBase ∧ n_flotsamlaw26_knows < yBase ∧ n_rewrite_Apply < yBase ∧ n_rewrite_Number < yBase ∧ n_r16_Same < yBase ∧ n_site_Fits < yBase ∧ n_site_At < yBase ∧ n_tree_Right < yBase ∧ n_tree_All < yBase ∧ n_r16_SameStmts < yBase ∧ n_flotsamlaw26_drops < yBase ∧ n_r16_SameStmt < yBase ∧ n_flotsamlaw26_bare < yBase ∧ n_r16_Size < yBase ∧ n_tree_Clone < yBase ∧ n_rewrite_along < yBase ∧ n_rewrite_by < yBase ∧ n_tree_Count < yBase ∧ n_rewrite_ahead < yBase ∧ n_r16_SameExpr < yBase ∧ n_site_fits < yBase ∧ n_site_lead < yBase ∧ n_lex_Name < yBase ∧ n_tree_expr < yBase ∧ n_tree_block < yBase ∧ n_sC_Proc_api_Proc < yBase ∧ n_sC_Oracle_api_Oracle < yBase ∧ n_sC_Stmt_api_Stmt < yBase ∧ n_tree_parts < yBase ∧ n_tree_walk < yBase ∧ n_tree_cloned < yBase ∧ n_r16_block < yBase ∧ n_r16_expr < yBase ∧ n_tree_each_api_Proc < yBase ∧ n_tree_Clone_1 < yBase ∧ n_tree_each_api_Stmt < yBase ∧ n_tree_each_api_Oracle < yBase ∧ n_tree_Clone_2 < yBase ∧ n_tree_clonedExpr < yBase ∧ n_rewrite_change < yBase ∧ n_rewrite_by_3 < yBase ∧ n_rewrite_by_4 < yBase ∧ n_slices_Delete_api_Stmt_api_Stmt < yBase ∧ n_site_writes < yBase ∧ n_site_torn < yBase ∧ n_site_parts < yBase ∧ n_site_may < yBase ∧ n_site_next < yBase ∧ n_lex_begins < yBase ∧ n_lex_Key < yBase ∧ n_tree_Parts < yBase ∧ n_sC_Expr_api_Expr < yBase ∧ n_sC_Stmt_api_Stmt_x < yBase ∧ n_tree_stmt < yBase ∧ n_sI_Proc_api_Proc < yBase ∧ n_sI_Oracle_api_Oracle < yBase ∧ n_sI_Stmt_api_Stmt < yBase ∧ n_tree_walk_1 < yBase ∧ n_tree_each_api_Expr < yBase ∧ n_rewrite_change_1 < yBase ∧ n_sI_Expr_api_Expr < yBase ∧ n_sI_Stmt_api_Stmt_x < yBase ∧ n_tree_shape < yBase ∧ n_tree_Exprs < yBase ∧ n_tree_blocks < yBase := by and_intros <;> exact ltB rfl
@[simp] theorem lt_tree_Right_1 : n_tree_Right_1 < yBase := ltB rfl
@[simp] theorem lt_tree_Right_2 : n_tree_Right_2 < yBase := ltB rfl
@[simp] theorem lt_tree_Right_3 : n_tree_Right_3 < yBase := ltB rfl
@[simp] theorem lt_rewrite_by_1 : n_rewrite_by_1 < yBase := ltB rfl
@[simp] theorem lt_rewrite_by_2 : n_rewrite_by_2 < yBase := ltB rfl
@[simp] theorem lt_rewrite_half : n_rewrite_half < yBase := ltB rfl
@[simp] theorem lt_lex_letter : n_lex_letter < yBase := ltB rfl
@[simp] theorem lt_lex_run : n_lex_run < yBase := ltB rfl
@[simp] theorem lt_lex_inner : n_lex_inner < yBase := ltB rfl
@[simp] theorem lt_tree_expr_1 : n_tree_expr_1 < yBase := ltB rfl
@[simp] theorem lt_tree_block_1 : n_tree_block_1 < yBase := ltB rfl
@[simp] theorem lt_lex_digit : n_lex_digit < yBase := ltB rfl
@[simp] theorem lt_strings_Contains : n_strings_Contains < yBase := ltB rfl
@[simp] theorem lt_tree_stmt_1 : n_tree_stmt_1 < yBase := ltB rfl
@[simp] theorem lt_tree_shape_1 : n_tree_shape_1 < yBase := ltB rfl
end Go.AM
