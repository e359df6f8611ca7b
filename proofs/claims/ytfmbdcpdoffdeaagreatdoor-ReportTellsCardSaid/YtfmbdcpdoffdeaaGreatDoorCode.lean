/-
 The abstract code of the functions, printed by a program (gen.py) out of the loaded program, and each function's place in the table.
-/
import Derived.Test.YtfmbdcpdoffdeaaGreatDoorXlib
namespace Go.AM
theorem ltB {n : Nat} (h : Nat.ble (n + 1) yBase = true) : n < yBase := Nat.le_of_ble_eq_true h
abbrev kI (n : Int) : AX := .c (.int .i64 n)
@[simp] theorem kI_eq (n : Int) : kI n = .c (.int .i64 n) := rfl
abbrev kS (n : List UInt8) : AX := .c (.str n)
@[simp] theorem kS_eq (n : List UInt8) : kS n = .c (.str n) := rfl
abbrev iZ : V := .int .i64 0
@[simp] theorem iZ_eq : iZ = .int .i64 0 := rfl
abbrev kT : AX := .c (.bool true)
@[simp] theorem kT_eq : kT = .c (.bool true) := rfl
abbrev kF : AX := .c (.bool false)
@[simp] theorem kF_eq : kF = .c (.bool false) := rfl
abbrev dO (d : Nat) (p : AOp) : AOper := ⟨some d, none, p⟩
@[simp] theorem dO_eq (d : Nat) (p : AOp) : dO d p = ⟨some d, none, p⟩ := rfl
abbrev bT : Nat := 40
abbrev bP : Nat := 40
abbrev bE : Nat := 5
def n_flotsamlaw33_ReportTells : Nat := 3
def n_flotsamlaw32_Few : Nat := 4
def n_flotsamlaw33_knows : Nat := 5
def n_report_Print : Nat := 6
def n_r33_Print : Nat := 7
def n_report_Read : Nat := 8
def n_r33_Read : Nat := 9
def n_flotsamref31_Same : Nat := 10
def n_report_Brief : Nat := 11
def n_r33_Brief : Nat := 12
def n_flotsamlaw32_One : Nat := 13
def n_score_Right : Nat := 14
def n_report_lines : Nat := 15
def n_pstrings_Builder_WriteString : Nat := 16
def n_pstrings_Builder_String : Nat := 17
def n_flotsamref32_Right : Nat := 18
def n_r33_cells : Nat := 19
def n_r25_Name : Nat := 20
def n_r33_score : Nat := 21
def n_strings_Split : Nat := 22
def n_report_all : Nat := 23
def n_preport_reader_take : Nat := 24
def n_r33_Lines : Nat := 25
def n_r25_Read : Nat := 26
def n_flotsamref30_Read : Nat := 27
def n_flotsamref30_Same : Nat := 28
def n_score_Mutants : Nat := 29
def n_report_words : Nat := 30
def n_report_digits : Nat := 31
def n_report_total : Nat := 32
def n_flotsamref32_Mutants : Nat := 33
def n_r33_digits : Nat := 34
def n_score_odd : Nat := 35
def n_cell_Sum : Nat := 36
def n_sC_Cell_api_Cell : Nat := 37
def n_site_Name : Nat := 38
def n_slices_Contains_api_Site_api_Site : Nat := 39
def n_report_lines_1 : Nat := 40
def n_report_lines_1_1 : Nat := 41
def n_cell_Show : Nat := 42
def n_flotsamref32_cells : Nat := 44
def n_flotsamref30_Sum : Nat := 45
def n_flotsamref30_Show : Nat := 46
def n_r25_may : Nat := 47
def n_r25_Word : Nat := 48
def n_r01_Digits : Nat := 49
def n_flotsamref32_Score : Nat := 50
def n_strings_CutPrefix : Nat := 52
def n_preport_reader_add : Nat := 53
def n_preport_reader_row : Nat := 54
def n_r01_Read : Nat := 55
def n_flotsamref30_Words : Nat := 56
def n_flotsamref30_ErrOf : Nat := 57
def n_score_Mutants_1 : Nat := 58
def n_score_Mutants_1_1 : Nat := 60
def n_strings_Join : Nat := 61
def n_num_Digits : Nat := 62
def n_score_Score : Nat := 63
def n_score_odd_1 : Nat := 64
def n_cell_Right : Nat := 66
def n_sI_Cell_api_Cell : Nat := 67
def n_site_words : Nat := 68
def n_site_may : Nat := 69
def n_site_Word : Nat := 70
def n_slices_Index_api_Site_api_Site : Nat := 71
def n_cell_head : Nat := 72
def n_trace_Err : Nat := 73
def n_flotsamref30_Right : Nat := 75
def n_flotsamref24_Err : Nat := 76
def n_isl_CutPrefix : Nat := 80
def n_cell_Read : Nat := 81
def n_site_Read : Nat := 82
def n_score_says : Nat := 84
def n_cell_witness : Nat := 85
def n_cell_limit : Nat := 86
def n_strings_Fields : Nat := 87
def n_trace_pick : Nat := 88
def n_isl_HasPrefix : Nat := 93
def n_cell_killed : Nat := 94
def n_cell_errno : Nat := 95
def n_num_Read : Nat := 96
def n_score_says_1 : Nat := 98
def n_score_count_api_Cell : Nat := 65
def n_score_count_api_Cell_x : Nat := 59
def q_report_Print_0 : Nat := 2000600
def c_flotsamlaw33_ReportTells : AFunc :=
 { np := 2, res := [.t 4], body := (
 .seq (.reg [dO 2 (.box (.t 0)), dO 4 (.tk kF)])
 (.seq (.seq (.reg [dO 13 (.ld (some 4) (.t 2)), dO 14 (.callc n_flotsamlaw32_Few [.t 13]), dO 15 (.notb (.t 14)), dO 16 (.mv (.t 15)), ⟨some 17, (some (16, false)), .mv (.t 1)⟩, ⟨some 18, (some (16, false)), .len true (.t 17)⟩, ⟨some 19, (some (16, false)), .ic .gtr (.t 18) (kI 3000)⟩, dO 20 (.pick (.t 16) kT (.t 19)), dO 21 (.mv (.t 20)), ⟨some 22, (some (21, false)), .callc n_flotsamlaw33_knows []⟩, ⟨some 23, (some (21, false)), .notb (.t 22)⟩, dO 24 (.pick (.t 21) kT (.t 23))])
 (.cond (.t 24)
 (.seq (.reg [dO 25 (.callc n_flotsamlaw33_knows []), dO 4 (.tk (.t 25))])
 (.ret))
 (.skip)))
 (.seq (.reg [dO 27 (.ld (some 4) (.t 2)), dO 28 (.callc n_report_Print [.t 27]), dO 26 (.mv (.t 28)), dO 29 (.ext (.t 26) 0), dO 30 (.ext (.t 26) 1), dO 5 (.tk (.t 29)), dO 6 (.tk (.t 30))])
 (.seq (.reg [dO 32 (.ld (some 4) (.t 2)), dO 33 (.callc n_r33_Print [.t 32]), dO 31 (.mv (.t 33)), dO 34 (.ext (.t 31) 0), dO 35 (.ext (.t 31) 1), dO 7 (.tk (.t 34)), dO 8 (.tk (.t 35))])
 (.seq (.reg [dO 37 (.mv (.t 1)), dO 38 (.callck n_report_Read [.t 37]), dO 36 (.mv (.t 38)), dO 39 (.ext (.t 36) 0), dO 40 (.ext (.t 36) 1), dO 9 (.alloc [.bool false, .own 6 [], .own 11 [], .own 1 []]), ⟨none, none, .st 4 (.t 9) (.t 39)⟩, dO 10 (.tk (.t 40))])
 (.seq (.reg [dO 42 (.mv (.t 1)), dO 43 (.callck n_r33_Read [.t 42]), dO 41 (.mv (.t 43)), dO 44 (.ext (.t 41) 0), dO 45 (.ext (.t 41) 1), dO 11 (.alloc [.bool false, .own 6 [], .own 11 [], .own 1 []]), ⟨none, none, .st 4 (.t 11) (.t 44)⟩, dO 12 (.tk (.t 45))])
 (.seq (.drw [[], [], [], [], [], [], [], [], [], [], [], [], [], [], [], [], [], [], [], [], [], [], [], [], [], []] [dO 46 (.mv (.t 5)), dO 47 (.mv (.t 7)), dO 48 (.sop .eql (.t 46) (.t 47)), dO 49 (.mv (.t 48)), ⟨some 50, (some (49, true)), .mv (.t 6)⟩, ⟨some 51, (some (49, true)), .mv (.t 8)⟩, ⟨some 52, (some (49, true)), .eqb false (.t 50) (.t 51)⟩, dO 53 (.pick (.t 49) (.t 52) kF), dO 54 (.mv (.t 53)), ⟨some 55, (some (54, true)), .ld (some 4) (.t 9)⟩, ⟨some 56, (some (54, true)), .ld (some 4) (.t 11)⟩, ⟨some 57, (some (54, true)), .callc n_flotsamref31_Same [.t 55, .t 56]⟩, dO 58 (.pick (.t 54) (.t 57) kF), dO 59 (.mv (.t 58)), ⟨some 60, (some (59, true)), .mv (.t 10)⟩, ⟨some 61, (some (59, true)), .mv (.t 12)⟩, ⟨some 62, (some (59, true)), .eqb false (.t 60) (.t 61)⟩, dO 63 (.pick (.t 59) (.t 62) kF), dO 64 (.mv (.t 63)), ⟨some 65, (some (64, true)), .ld (some 4) (.t 2)⟩, ⟨some 66, (some (64, true)), .callc n_report_Brief [.t 65]⟩, ⟨some 67, (some (64, true)), .ld (some 4) (.t 2)⟩, ⟨some 68, (some (64, true)), .callc n_r33_Brief [.t 67]⟩, ⟨some 69, (some (64, true)), .sop .eql (.t 66) (.t 68)⟩, dO 70 (.pick (.t 64) (.t 69) kF), dO 4 (.tk (.t 70))])
 (.ret)))))))) }
def b_flotsamlaw32_Few_0 : AC :=
 .seq (.seq (.reg [dO 4 (.mv (.t 3)), dO 5 (.fa 3 (.t 1)), dO 6 (.ld none (.t 5)), dO 7 (.len false (.t 6)), dO 8 (.ic .lss (.t 4) (.t 7)), dO 9 (.mv (.t 8)), ⟨some 10, (some (9, true)), .mv (.t 3)⟩, ⟨some 11, (some (9, true)), .ic .lss (.t 10) (kI 50)⟩, dO 12 (.pick (.t 9) (.t 11) kF)])
 (.cond (.t 12)
 (.skip)
 (.exit 0)))
 (.seq (.block 1 (.seq (.reg [dO 15 (.fa 3 (.t 1)), dO 16 (.ld none (.t 15)), dO 17 (.mv (.t 3)), dO 18 (.ixa 1 none (.t 16) (.t 17)), dO 19 (.ld none (.t 18)), dO 20 (.len false (.t 19)), dO 21 (.ic .gtr (.t 20) (kI 30))])
 (.cond (.t 21)
 (.seq (.reg [dO 2 (.tk kF)])
 (.ret))
 (.skip))))
 (.reg [dO 13 (.mv (.t 3)), dO 14 (.ia .add .i64 (.t 13) (kI 1)), dO 3 (.tk (.t 14))]))
def l_flotsamlaw32_Few_0 : AC :=
 .loop [1, 3] b_flotsamlaw32_Few_0
def r_flotsamlaw32_Few_0 : AC :=
 .seq (.reg [dO 22 (.fa 1 (.t 1)), dO 23 (.ld none (.t 22)), dO 24 (.len false (.t 23)), dO 25 (.ic .leq (.t 24) (kI 30)), dO 26 (.mv (.t 25)), ⟨some 27, (some (26, true)), .fa 2 (.t 1)⟩, ⟨some 28, (some (26, true)), .ld none (.t 27)⟩, ⟨some 29, (some (26, true)), .len false (.t 28)⟩, ⟨some 30, (some (26, true)), .ic .leq (.t 29) (kI 50)⟩, dO 31 (.pick (.t 26) (.t 30) kF), dO 32 (.mv (.t 31)), ⟨some 33, (some (32, true)), .fa 3 (.t 1)⟩, ⟨some 34, (some (32, true)), .ld none (.t 33)⟩, ⟨some 35, (some (32, true)), .len false (.t 34)⟩, ⟨some 36, (some (32, true)), .ic .leq (.t 35) (kI 50)⟩, dO 37 (.pick (.t 32) (.t 36) kF), dO 2 (.tk (.t 37))])
 (.ret)
def c_flotsamlaw32_Few : AFunc :=
 { np := 1, res := [.t 2], body := (
 .seq (.reg [dO 1 (.box (.t 0)), dO 2 (.tk kF)])
 (.seq (.seq (.reg [dO 3 (.tk (kI 0))])
 (.block 0 (l_flotsamlaw32_Few_0))) r_flotsamlaw32_Few_0)) }
def c_flotsamlaw33_knows : AFunc :=
 { np := 0, res := [.t 0], body := (
 .seq (.reg [dO 0 (.tk kF)])
 (.seq (.reg [dO 6 (.callc n_flotsamlaw32_One []), dO 7 (.callc n_report_Print [.t 6]), dO 5 (.mv (.t 7)), dO 8 (.ext (.t 5) 0), dO 9 (.ext (.t 5) 1), dO 1 (.tk (.t 8)), dO 2 (.tk (.t 9))])
 (.seq (.reg [dO 11 (.mv (.t 1)), dO 12 (.callck n_report_Read [.t 11]), dO 10 (.mv (.t 12)), dO 13 (.ext (.t 10) 0), dO 14 (.ext (.t 10) 1), dO 3 (.alloc [.bool false, .own 6 [], .own 11 [], .own 1 []]), ⟨none, none, .st 4 (.t 3) (.t 13)⟩, dO 4 (.tk (.t 14))])
 (.seq (.drw [[], [], [], [], [], [], [], [], [], [], [], [], [], [], [], [], [], [], []] [dO 15 (.mv (.t 2)), dO 16 (.mv (.t 15)), ⟨some 17, (some (16, true)), .mv (.t 4)⟩, dO 18 (.pick (.t 16) (.t 17) kF), dO 19 (.mv (.t 18)), ⟨some 20, (some (19, true)), .mv (.t 1)⟩, ⟨some 21, (some (19, true)), .sop .eql (.t 20) (kS [103, 111, 111, 100, 10, 9, 115, 117, 114, 118, 105, 118, 101, 100, 10, 9, 115, 117, 114, 118, 105, 118, 101, 100, 10, 115, 119, 97, 112, 32, 48, 32, 48, 10, 9, 107, 105, 108, 108, 101, 100, 32, 48, 32, 48, 32, 102, 97, 105, 108, 101, 100, 10, 9, 115, 117, 114, 118, 105, 118, 101, 100, 10, 115, 99, 111, 114, 101, 32, 49, 32, 111, 102, 32, 50, 10])⟩, dO 22 (.pick (.t 19) (.t 21) kF), dO 23 (.mv (.t 22)), ⟨some 24, (some (23, true)), .ld (some 4) (.t 3)⟩, ⟨some 25, (some (23, true)), .callc n_flotsamlaw32_One []⟩, ⟨some 26, (some (23, true)), .callc n_flotsamref31_Same [.t 24, .t 25]⟩, dO 27 (.pick (.t 23) (.t 26) kF), dO 28 (.mv (.t 27)), ⟨some 29, (some (28, true)), .ld (some 4) (.t 3)⟩, ⟨some 30, (some (28, true)), .callc n_report_Brief [.t 29]⟩, ⟨some 31, (some (28, true)), .sop .eql (.t 30) (kS [109, 117, 116, 97, 110, 116, 115, 32, 49, 32, 107, 105, 108, 108, 101, 100, 32, 49, 32, 115, 117, 114, 118, 105, 118, 101, 100, 32, 48, 32, 105, 110, 99, 111, 110, 99, 108, 117, 115, 105, 118, 101, 32, 48, 32, 115, 99, 111, 114, 101, 32, 49, 32, 111, 102, 32, 50])⟩, dO 32 (.pick (.t 28) (.t 31) kF), dO 0 (.tk (.t 32))])
 (.ret))))) }
def a_report_Print_0 : AC :=
 .reg [dO 5 (.tk (.t 11))]
def y_report_Print_0 : AC :=
 .block 1 (.reg [dO 12 (.mv (.t 5)), dO 13 (.sop .add (.t 12) (kS [10])), dO 14 (.call n_pstrings_Builder_WriteString [.t 4, .t 13])])
def r_report_Print_0 : AC :=
 .seq (.reg [dO 15 (.call n_pstrings_Builder_String [.t 4]), dO 2 (.tk (.t 15)), dO 3 (.tk kT)])
 (.ret)
def c_report_Print : AFunc :=
 { np := 1, res := [.t 2, .t 3], body := (
 .seq (.reg [dO 1 (.box (.t 0)), dO 2 (.tk (kS [])), dO 3 (.tk kF)])
 (.seq (.seq (.reg [dO 6 (.ld (some 4) (.t 1)), dO 7 (.callc n_score_Right [.t 6]), dO 8 (.notb (.t 7))])
 (.cond (.t 8)
 (.seq (.reg [dO 2 (.tk (kS [])), dO 3 (.tk kF)])
 (.ret))
 (.skip)))
 (.seq (.reg [dO 4 (.allocb bT bE)])
 (.seq (.seq (.reg [dO 9 (.ld (some 4) (.t 1)), dO 10 (.call n_report_lines [.t 9])])
 (.block 0 (.rfn (.t 10) [4] q_report_Print_0 [11] a_report_Print_0 y_report_Print_0))) r_report_Print_0)))) }
def b_r33_Print_0 : AC :=
 .seq (.seq (.reg [dO 18 (.mv (.t 5)), dO 19 (.fa 2 (.t 1)), dO 20 (.ld none (.t 19)), dO 21 (.len false (.t 20)), dO 22 (.ic .lss (.t 18) (.t 21))])
 (.cond (.t 22)
 (.skip)
 (.exit 0)))
 (.seq (.block 1 (.seq (.reg [dO 26 (.fa 2 (.t 1)), dO 27 (.ld none (.t 26)), dO 28 (.mv (.t 5)), dO 29 (.ixa 11 none (.t 27) (.t 28)), dO 30 (.ld (some 11) (.t 29)), dO 31 (.callc n_r25_Name [.t 30]), dO 25 (.mv (.t 31)), dO 32 (.ext (.t 25) 0), dO 33 (.ext (.t 25) 1), dO 6 (.tk (.t 32)), dO 7 (.tk (.t 33))])
 (.reg [dO 34 (.mv (.t 4)), dO 35 (.mv (.t 6)), dO 36 (.sop .add (.t 34) (.t 35)), dO 37 (.sop .add (.t 36) (kS [10])), dO 38 (.fa 3 (.t 1)), dO 39 (.ld none (.t 38)), dO 40 (.mv (.t 5)), dO 41 (.ixa 1 none (.t 39) (.t 40)), dO 42 (.ld none (.t 41)), dO 43 (.callc n_r33_cells [.t 42]), dO 44 (.sop .add (.t 37) (.t 43)), dO 4 (.tk (.t 44))])))
 (.reg [dO 23 (.mv (.t 5)), dO 24 (.ia .add .i64 (.t 23) (kI 1)), dO 5 (.tk (.t 24))]))
def l_r33_Print_0 : AC :=
 .loop [1, 4, 5] b_r33_Print_0
def r_r33_Print_0 : AC :=
 .seq (.reg [dO 45 (.mv (.t 4)), dO 46 (.ld (some 4) (.t 1)), dO 47 (.callc n_r33_score [.t 46]), dO 48 (.sop .add (.t 45) (.t 47)), dO 49 (.sop .add (.t 48) (kS [10])), dO 2 (.tk (.t 49)), dO 3 (.tk kT)])
 (.ret)
def c_r33_Print : AFunc :=
 { np := 1, res := [.t 2, .t 3], body := (
 .seq (.reg [dO 1 (.box (.t 0)), dO 2 (.tk (kS [])), dO 3 (.tk kF)])
 (.seq (.seq (.reg [dO 8 (.ld (some 4) (.t 1)), dO 9 (.callc n_flotsamref32_Right [.t 8]), dO 10 (.notb (.t 9))])
 (.cond (.t 10)
 (.seq (.reg [dO 2 (.tk (kS [])), dO 3 (.tk kF)])
 (.ret))
 (.skip)))
 (.seq (.reg [dO 4 (.tk (kS [103, 111, 111, 100, 10]))])
 (.seq (.seq (.reg [dO 11 (.fa 0 (.t 1)), dO 12 (.ld none (.t 11))])
 (.cond (.t 12)
 (.reg [dO 4 (.tk (kS [98, 97, 100, 10]))])
 (.skip)))
 (.seq (.reg [dO 13 (.mv (.t 4)), dO 14 (.fa 1 (.t 1)), dO 15 (.ld none (.t 14)), dO 16 (.callc n_r33_cells [.t 15]), dO 17 (.sop .add (.t 13) (.t 16)), dO 4 (.tk (.t 17))])
 (.seq (.seq (.reg [dO 5 (.tk (kI 0))])
 (.block 0 (l_r33_Print_0))) r_r33_Print_0)))))) }
def b_flotsamref31_Same_0 : AC :=
 .seq (.seq (.reg [dO 38 (.mv (.t 5)), dO 39 (.fa 2 (.t 2)), dO 40 (.ld none (.t 39)), dO 41 (.len false (.t 40)), dO 42 (.ic .lss (.t 38) (.t 41))])
 (.cond (.t 42)
 (.skip)
 (.exit 0)))
 (.seq (.block 1 (.seq (.drw [[], [], [], [], [], [], [], [], [], [], []] [dO 45 (.fa 2 (.t 2)), dO 46 (.ld none (.t 45)), dO 47 (.mv (.t 5)), dO 48 (.ixa 11 none (.t 46) (.t 47)), dO 49 (.ld (some 11) (.t 48)), dO 50 (.fa 2 (.t 3)), dO 51 (.ld none (.t 50)), dO 52 (.mv (.t 5)), dO 53 (.ixa 11 none (.t 51) (.t 52)), dO 54 (.ld (some 11) (.t 53)), dO 55 (.eqa true [.int .i64, .int .i64, .int .i64, .int .i64, .int .i64, .int .i64, .int .i64, .int .i64, .int .i64, .int .i64, .int .i64] (.t 49) (.t 54))])
 (.cond (.t 55)
 (.seq (.reg [dO 4 (.tk kF)])
 (.ret))
 (.skip))))
 (.reg [dO 43 (.mv (.t 5)), dO 44 (.ia .add .i64 (.t 43) (kI 1)), dO 5 (.tk (.t 44))]))
def l_flotsamref31_Same_0 : AC :=
 .loop [2, 3, 5] b_flotsamref31_Same_0
def b_flotsamref31_Same_1 : AC :=
 .seq (.seq (.reg [dO 56 (.mv (.t 6)), dO 57 (.fa 3 (.t 2)), dO 58 (.ld none (.t 57)), dO 59 (.len false (.t 58)), dO 60 (.ic .lss (.t 56) (.t 59))])
 (.cond (.t 60)
 (.skip)
 (.exit 2)))
 (.seq (.block 3 (.seq (.drw [[], [], [], [], [], [], [], [], [], [], [], []] [dO 63 (.fa 3 (.t 2)), dO 64 (.ld none (.t 63)), dO 65 (.mv (.t 6)), dO 66 (.ixa 1 none (.t 64) (.t 65)), dO 67 (.ld none (.t 66)), dO 68 (.fa 3 (.t 3)), dO 69 (.ld none (.t 68)), dO 70 (.mv (.t 6)), dO 71 (.ixa 1 none (.t 69) (.t 70)), dO 72 (.ld none (.t 71)), dO 73 (.callc n_flotsamref30_Same [.t 67, .t 72]), dO 74 (.notb (.t 73))])
 (.cond (.t 74)
 (.seq (.reg [dO 4 (.tk kF)])
 (.ret))
 (.skip))))
 (.reg [dO 61 (.mv (.t 6)), dO 62 (.ia .add .i64 (.t 61) (kI 1)), dO 6 (.tk (.t 62))]))
def l_flotsamref31_Same_1 : AC :=
 .loop [2, 3, 6] b_flotsamref31_Same_1
def r_flotsamref31_Same_0 : AC :=
 .seq (.reg [dO 4 (.tk kT)])
 (.ret)
def r_flotsamref31_Same_1 : AC :=
 .seq (.seq (.reg [dO 6 (.tk (kI 0))])
 (.block 2 (l_flotsamref31_Same_1))) r_flotsamref31_Same_0
def c_flotsamref31_Same : AFunc :=
 { np := 2, res := [.t 4], body := (
 .seq (.reg [dO 2 (.box (.t 0)), dO 3 (.box (.t 1)), dO 4 (.tk kF)])
 (.seq (.seq (.reg [dO 7 (.fa 0 (.t 2)), dO 8 (.ld none (.t 7)), dO 9 (.fa 0 (.t 3)), dO 10 (.ld none (.t 9)), dO 11 (.eqb true (.t 8) (.t 10)), dO 12 (.mv (.t 11)), ⟨some 13, (some (12, false)), .fa 1 (.t 2)⟩, ⟨some 14, (some (12, false)), .ld none (.t 13)⟩, ⟨some 15, (some (12, false)), .fa 1 (.t 3)⟩, ⟨some 16, (some (12, false)), .ld none (.t 15)⟩, ⟨some 17, (some (12, false)), .callc n_flotsamref30_Same [.t 14, .t 16]⟩, ⟨some 18, (some (12, false)), .notb (.t 17)⟩, dO 19 (.pick (.t 12) kT (.t 18)), dO 20 (.mv (.t 19)), ⟨some 21, (some (20, false)), .fa 2 (.t 2)⟩, ⟨some 22, (some (20, false)), .ld none (.t 21)⟩, ⟨some 23, (some (20, false)), .len false (.t 22)⟩, ⟨some 24, (some (20, false)), .fa 2 (.t 3)⟩, ⟨some 25, (some (20, false)), .ld none (.t 24)⟩, ⟨some 26, (some (20, false)), .len false (.t 25)⟩, ⟨some 27, (some (20, false)), .ic .neq (.t 23) (.t 26)⟩, dO 28 (.pick (.t 20) kT (.t 27)), dO 29 (.mv (.t 28)), ⟨some 30, (some (29, false)), .fa 3 (.t 2)⟩, ⟨some 31, (some (29, false)), .ld none (.t 30)⟩, ⟨some 32, (some (29, false)), .len false (.t 31)⟩, ⟨some 33, (some (29, false)), .fa 3 (.t 3)⟩, ⟨some 34, (some (29, false)), .ld none (.t 33)⟩, ⟨some 35, (some (29, false)), .len false (.t 34)⟩, ⟨some 36, (some (29, false)), .ic .neq (.t 32) (.t 35)⟩, dO 37 (.pick (.t 29) kT (.t 36))])
 (.cond (.t 37)
 (.seq (.reg [dO 4 (.tk kF)])
 (.ret))
 (.skip)))
 (.seq (.seq (.reg [dO 5 (.tk (kI 0))])
 (.block 0 (l_flotsamref31_Same_0))) r_flotsamref31_Same_1))) }
def c_report_Brief : AFunc :=
 { np := 1, res := [.t 2], body := (
 .seq (.reg [dO 1 (.box (.t 0)), dO 2 (.tk (kS []))])
 (.seq (.seq (.reg [dO 6 (.fa 0 (.t 1)), dO 7 (.ld none (.t 6))])
 (.cond (.t 7)
 (.seq (.reg [dO 2 (.tk (kS [98, 97, 100]))])
 (.ret))
 (.skip)))
 (.seq (.reg [dO 9 (.ld (some 4) (.t 1)), dO 10 (.callc n_score_Mutants [.t 9]), dO 8 (.mv (.t 10)), dO 11 (.ext (.t 8) 0), dO 12 (.ext (.t 8) 1), dO 13 (.ext (.t 8) 2), dO 3 (.tk (.t 11)), dO 4 (.tk (.t 12)), dO 5 (.tk (.t 13))])
 (.seq (.drw [[], [], [], [], [], [], [], [], [], [], [], [], [], [], []] [dO 14 (.fa 2 (.t 1)), dO 15 (.ld none (.t 14)), dO 16 (.len false (.t 15)), dO 17 (.callc n_report_digits [.t 16]), dO 18 (.mv (.t 3)), dO 19 (.callc n_report_digits [.t 18]), dO 20 (.mv (.t 4)), dO 21 (.callc n_report_digits [.t 20]), dO 22 (.mv (.t 5)), dO 23 (.callc n_report_digits [.t 22]), dO 24 (.ld (some 4) (.t 1)), dO 25 (.callc n_report_total [.t 24]), dO 26 (.bsl 1 [.str []] 9 [(0, 1, kS [109, 117, 116, 97, 110, 116, 115]), (1, 1, .t 17), (2, 1, kS [107, 105, 108, 108, 101, 100]), (3, 1, .t 19), (4, 1, kS [115, 117, 114, 118, 105, 118, 101, 100]), (5, 1, .t 21), (6, 1, kS [105, 110, 99, 111, 110, 99, 108, 117, 115, 105, 118, 101]), (7, 1, .t 23), (8, 1, .t 25)] false), dO 27 (.callc n_report_words [.t 26]), dO 2 (.tk (.t 27))])
 (.ret))))) }
def c_r33_Brief : AFunc :=
 { np := 1, res := [.t 2], body := (
 .seq (.reg [dO 1 (.box (.t 0)), dO 2 (.tk (kS []))])
 (.seq (.seq (.reg [dO 6 (.fa 0 (.t 1)), dO 7 (.ld none (.t 6))])
 (.cond (.t 7)
 (.seq (.reg [dO 2 (.tk (kS [98, 97, 100]))])
 (.ret))
 (.skip)))
 (.seq (.reg [dO 9 (.ld (some 4) (.t 1)), dO 10 (.callc n_flotsamref32_Mutants [.t 9]), dO 8 (.mv (.t 10)), dO 11 (.ext (.t 8) 0), dO 12 (.ext (.t 8) 1), dO 13 (.ext (.t 8) 2), dO 3 (.tk (.t 11)), dO 4 (.tk (.t 12)), dO 5 (.tk (.t 13))])
 (.seq (.drw [[], [], [], [], [], [], [], [], [], [], [], [], [], [], [], [], [], [], [], [], [], []] [dO 14 (.fa 2 (.t 1)), dO 15 (.ld none (.t 14)), dO 16 (.len false (.t 15)), dO 17 (.callc n_r33_digits [.t 16]), dO 18 (.sop .add (kS [109, 117, 116, 97, 110, 116, 115, 32]) (.t 17)), dO 19 (.sop .add (.t 18) (kS [32, 107, 105, 108, 108, 101, 100, 32])), dO 20 (.mv (.t 3)), dO 21 (.callc n_r33_digits [.t 20]), dO 22 (.sop .add (.t 19) (.t 21)), dO 23 (.sop .add (.t 22) (kS [32, 115, 117, 114, 118, 105, 118, 101, 100, 32])), dO 24 (.mv (.t 4)), dO 25 (.callc n_r33_digits [.t 24]), dO 26 (.sop .add (.t 23) (.t 25)), dO 27 (.sop .add (.t 26) (kS [32, 105, 110, 99, 111, 110, 99, 108, 117, 115, 105, 118, 101, 32])), dO 28 (.mv (.t 5)), dO 29 (.callc n_r33_digits [.t 28]), dO 30 (.sop .add (.t 27) (.t 29)), dO 31 (.sop .add (.t 30) (kS [32])), dO 32 (.ld (some 4) (.t 1)), dO 33 (.callc n_r33_score [.t 32]), dO 34 (.sop .add (.t 31) (.t 33)), dO 2 (.tk (.t 34))])
 (.ret))))) }
def c_flotsamlaw32_One : AFunc :=
 { np := 0, res := [.cell 0 (some 4)], body := (
 .seq (.reg [dO 0 (.alloc [.bool false, .own 6 [], .own 11 [], .own 1 []])])
 (.seq (.reg [dO 2 (.bld [iZ, .int .u64 0, iZ, iZ] [(2, 1, kI 1)]), dO 3 (.bld [iZ, iZ, .int .u64 0, iZ, iZ, iZ] [(0, 1, kI 1), (1, 4, .t 2)]), dO 1 (.alloc [iZ, iZ, .int .u64 0, iZ, iZ, iZ]), ⟨none, none, .st 6 (.t 1) (.t 3)⟩])
 (.seq (.drw [[], [], [], [], [], [], [], [], []] [dO 4 (.mkz 6 [iZ, iZ, .int .u64 0, iZ, iZ, iZ] 48 (kI 2) (kI 2)), dO 5 (.bld [iZ, iZ, iZ, iZ, iZ, iZ, iZ, iZ, iZ, iZ, iZ] [(0, 1, kI 5), (10, 1, kI 1)]), dO 6 (.bsl 11 [iZ, iZ, iZ, iZ, iZ, iZ, iZ, iZ, iZ, iZ, iZ] 1 [(0, 11, .t 5)] false), dO 7 (.ld (some 6) (.t 1)), dO 8 (.bld [iZ, iZ, .int .u64 0, iZ, iZ, iZ] []), dO 9 (.bsl 6 [iZ, iZ, .int .u64 0, iZ, iZ, iZ] 2 [(0, 6, .t 7), (6, 6, .t 8)] false), dO 10 (.bsl 1 [.sl 6 []] 1 [(0, 1, .t 9)] false), dO 11 (.bld [.bool false, .sl 6 [], .sl 11 [], .sl 1 []] [(1, 1, .t 4), (2, 1, .t 6), (3, 1, .t 10)]), ⟨none, none, .st 4 (.t 0) (.t 11)⟩])
 (.ret)))) }
def b_score_Right_0 : AC :=
 .seq (.reg [dO 68 (.ic .lss (.t 67) (.t 66))])
 (.seq (.cond (.t 68)
 (.skip)
 (.exit 1))
 (.seq (.block 2 (.seq (.reg [dO 69 (.mv (.t 67)), dO 70 (.ixa 11 none (.t 65) (.t 67)), dO 71 (.ld (some 11) (.t 70)), dO 5 (.alloc [iZ, iZ, iZ, iZ, iZ, iZ, iZ, iZ, iZ, iZ, iZ]), dO 4 (.tk (.t 69)), ⟨none, none, .st 11 (.t 5) (.t 71)⟩])
 (.seq (.reg [dO 73 (.ld (some 11) (.t 5)), dO 74 (.callc n_site_Name [.t 73]), dO 72 (.mv (.t 74)), dO 75 (.ext (.t 72) 0), dO 76 (.ext (.t 72) 1), dO 6 (.tk (.t 75)), dO 7 (.tk (.t 76))])
 (.seq (.drw [[], [], [], [], [], [], [], [], [], []] [dO 77 (.mv (.t 7)), dO 78 (.notb (.t 77)), dO 79 (.mv (.t 78)), ⟨some 80, (some (79, false)), .fa 2 (.t 1)⟩, ⟨some 81, (some (79, false)), .ld none (.t 80)⟩, ⟨some 82, (some (79, false)), .mv (.t 4)⟩, ⟨some 83, (some (79, false)), .sls 11 (.t 81) none (some (.t 82)) none⟩, ⟨some 84, (some (79, false)), .ld (some 11) (.t 5)⟩, ⟨some 85, (some (79, false)), .callc n_slices_Contains_api_Site_api_Site [.t 83, .t 84]⟩, dO 86 (.pick (.t 79) kT (.t 85))])
 (.cond (.t 86)
 (.seq (.reg [dO 2 (.tk kF)])
 (.ret))
 (.skip))))))
 (.reg [dO 87 (.ia .add .i64 (.t 67) (kI 1)), dO 67 (.mv (.t 87))])))
def l_score_Right_0 : AC :=
 .loop [1, 65, 66, 67] b_score_Right_0
def r_score_Right_0 : AC :=
 .seq (.reg [dO 2 (.tk kT)])
 (.ret)
def c_score_Right : AFunc :=
 { np := 1, res := [.t 2], body := (
 .seq (.reg [dO 1 (.box (.t 0)), dO 2 (.tk kF)])
 (.seq (.reg [dO 8 (.fa 1 (.t 1)), dO 9 (.ld none (.t 8)), dO 10 (.len false (.t 9)), dO 3 (.tk (.t 10))])
 (.seq (.block 0 (.seq (.drw [[], [], [], [], [], [], [], [], [], [], [7], [7], [7], [7], [], [], [], [], []] [dO 12 (.mv (.t 3)), dO 13 (.ic .gtr (.t 12) (kI 16)), dO 14 (.mv (.t 13)), ⟨some 15, (some (14, false)), .mv (.t 3)⟩, ⟨some 16, (some (14, false)), .callx n_score_odd [.t 15]⟩, ⟨some 17, (some (14, false)), .fa 1 (.t 1)⟩, ⟨some 18, (some (14, false)), .ld none (.t 17)⟩, ⟨some 19, (some (14, false)), .callv (.t 16) [.t 18]⟩, dO 20 (.pick (.t 14) kT (.t 19)), dO 21 (.mv (.t 20)), ⟨some 22, (some (21, false)), .fa 0 (.t 1)⟩, ⟨some 23, (some (21, false)), .ld none (.t 22)⟩, ⟨some 24, (some (21, false)), .fa 1 (.t 1)⟩, ⟨some 25, (some (21, false)), .ld none (.t 24)⟩, ⟨some 26, (some (21, false)), .callc n_cell_Sum [.t 25]⟩, ⟨some 27, (some (21, false)), .ic .eql (.t 26) (kI 1)⟩, ⟨some 28, (some (21, false)), .eqb true (.t 23) (.t 27)⟩, dO 29 (.pick (.t 21) kT (.t 28)), dO 11 (.tk (.t 29))])
 (.cond (.t 11)
 (.seq (.reg [dO 2 (.tk kF)])
 (.ret))
 (.seq (.reg [dO 31 (.fa 0 (.t 1)), dO 32 (.ld none (.t 31)), dO 30 (.tk (.t 32))])
 (.cond (.t 30)
 (.seq (.reg [dO 33 (.fa 2 (.t 1)), dO 34 (.ld none (.t 33)), dO 35 (.len false (.t 34)), dO 36 (.ic .eql (.t 35) (kI 0)), dO 37 (.mv (.t 36)), ⟨some 38, (some (37, true)), .fa 3 (.t 1)⟩, ⟨some 39, (some (37, true)), .ld none (.t 38)⟩, ⟨some 40, (some (37, true)), .len false (.t 39)⟩, ⟨some 41, (some (37, true)), .ic .eql (.t 40) (kI 0)⟩, dO 42 (.pick (.t 37) (.t 41) kF), dO 2 (.tk (.t 42))])
 (.ret))
 (.seq (.drw [[], [], [], [1], [1], [], [], [], [], [], [], [6, 9], [1, 6, 9], [1, 6, 9], [1, 6, 9], [1, 6, 9], [], [], [1, 6, 9], [], []] [dO 44 (.fa 2 (.t 1)), dO 45 (.ld none (.t 44)), dO 46 (.len false (.t 45)), dO 47 (.ic .gtr (.t 46) (kI 512)), dO 48 (.mv (.t 47)), ⟨some 49, (some (48, false)), .fa 2 (.t 1)⟩, ⟨some 50, (some (48, false)), .ld none (.t 49)⟩, ⟨some 51, (some (48, false)), .len false (.t 50)⟩, ⟨some 52, (some (48, false)), .fa 3 (.t 1)⟩, ⟨some 53, (some (48, false)), .ld none (.t 52)⟩, ⟨some 54, (some (48, false)), .len false (.t 53)⟩, ⟨some 55, (some (48, false)), .ic .neq (.t 51) (.t 54)⟩, dO 56 (.pick (.t 48) kT (.t 55)), dO 57 (.mv (.t 56)), ⟨some 58, (some (57, false)), .fa 3 (.t 1)⟩, ⟨some 59, (some (57, false)), .ld none (.t 58)⟩, ⟨some 60, (some (57, false)), .mv (.t 3)⟩, ⟨some 61, (some (57, false)), .callx n_score_odd [.t 60]⟩, ⟨some 62, (some (57, false)), .call n_sC_Cell_api_Cell [.t 59, .t 61]⟩, dO 63 (.pick (.t 57) kT (.t 62)), dO 43 (.tk (.t 63))])
 (.cond (.t 43)
 (.seq (.reg [dO 2 (.tk kF)])
 (.ret))
 (.skip))))))))
 (.seq (.seq (.reg [dO 64 (.fa 2 (.t 1)), dO 65 (.ld none (.t 64)), dO 66 (.len false (.t 65)), dO 67 (.mv (kI 0))])
 (.block 1 (l_score_Right_0))) r_score_Right_0)))) }
def c_report_lines : AFunc :=
 { np := 1, res := [.t 2], body := (
 .seq (.reg [dO 1 (.box (.t 0)), dO 2 (.tk (.c (.nilf)))])
 (.seq (.reg [dO 3 (.mkf (.func n_report_lines_1) [] [.t 1]), dO 2 (.tk (.t 3))])
 (.ret))) }
def b_flotsamref32_Right_0 : AC :=
 .seq (.seq (.reg [dO 90 (.mv (.t 6)), dO 91 (.mv (.t 3)), dO 92 (.ic .lss (.t 90) (.t 91))])
 (.cond (.t 92)
 (.skip)
 (.exit 2)))
 (.seq (.block 3 (.seq (.drw [[], [], [], [], [], [], [], [], [], [], []] [dO 95 (.fa 2 (.t 1)), dO 96 (.ld none (.t 95)), dO 97 (.mv (.t 6)), dO 98 (.ixa 11 none (.t 96) (.t 97)), dO 99 (.ld (some 11) (.t 98)), dO 100 (.fa 2 (.t 1)), dO 101 (.ld none (.t 100)), dO 102 (.mv (.t 3)), dO 103 (.ixa 11 none (.t 101) (.t 102)), dO 104 (.ld (some 11) (.t 103)), dO 105 (.eqa false [.int .i64, .int .i64, .int .i64, .int .i64, .int .i64, .int .i64, .int .i64, .int .i64, .int .i64, .int .i64, .int .i64] (.t 99) (.t 104))])
 (.cond (.t 105)
 (.seq (.reg [dO 2 (.tk kF)])
 (.ret))
 (.skip))))
 (.reg [dO 93 (.mv (.t 6)), dO 94 (.ia .add .i64 (.t 93) (kI 1)), dO 6 (.tk (.t 94))]))
def l_flotsamref32_Right_0 : AC :=
 .loop [1, 3, 6] b_flotsamref32_Right_0
def r_flotsamref32_Right_0 : AC :=
 .reg [dO 58 (.mv (.t 3)), dO 59 (.ia .add .i64 (.t 58) (kI 1)), dO 3 (.tk (.t 59))]
def b_flotsamref32_Right_1 : AC :=
 .seq (.seq (.reg [dO 53 (.mv (.t 3)), dO 54 (.fa 2 (.t 1)), dO 55 (.ld none (.t 54)), dO 56 (.len false (.t 55)), dO 57 (.ic .lss (.t 53) (.t 56))])
 (.cond (.t 57)
 (.skip)
 (.exit 0)))
 (.seq (.block 1 (.seq (.seq (.drw [[], [], [], [], [], [], [], [], [], [], [], [], [], [], [], [], [], [], []] [dO 60 (.fa 3 (.t 1)), dO 61 (.ld none (.t 60)), dO 62 (.mv (.t 3)), dO 63 (.ixa 1 none (.t 61) (.t 62)), dO 64 (.ld none (.t 63)), dO 65 (.len false (.t 64)), dO 66 (.fa 1 (.t 1)), dO 67 (.ld none (.t 66)), dO 68 (.len false (.t 67)), dO 69 (.ic .neq (.t 65) (.t 68)), dO 70 (.mv (.t 69)), ⟨some 71, (some (70, false)), .fa 3 (.t 1)⟩, ⟨some 72, (some (70, false)), .ld none (.t 71)⟩, ⟨some 73, (some (70, false)), .mv (.t 3)⟩, ⟨some 74, (some (70, false)), .ixa 1 none (.t 72) (.t 73)⟩, ⟨some 75, (some (70, false)), .ld none (.t 74)⟩, ⟨some 76, (some (70, false)), .callc n_flotsamref32_cells [.t 75]⟩, ⟨some 77, (some (70, false)), .notb (.t 76)⟩, dO 78 (.pick (.t 70) kT (.t 77))])
 (.cond (.t 78)
 (.seq (.reg [dO 2 (.tk kF)])
 (.ret))
 (.skip)))
 (.seq (.seq (.reg [dO 80 (.fa 2 (.t 1)), dO 81 (.ld none (.t 80)), dO 82 (.mv (.t 3)), dO 83 (.ixa 11 none (.t 81) (.t 82)), dO 84 (.ld (some 11) (.t 83)), dO 85 (.callc n_r25_Name [.t 84]), dO 79 (.mv (.t 85)), dO 86 (.ext (.t 79) 0), dO 87 (.ext (.t 79) 1), dO 4 (.tk (.t 86)), dO 5 (.tk (.t 87))])
 (.seq (.reg [dO 88 (.mv (.t 5)), dO 89 (.notb (.t 88))])
 (.cond (.t 89)
 (.seq (.reg [dO 2 (.tk kF)])
 (.ret))
 (.skip))))
 (.seq (.reg [dO 6 (.tk (kI 0))])
 (.block 2 (l_flotsamref32_Right_0)))))) r_flotsamref32_Right_0)
def l_flotsamref32_Right_1 : AC :=
 .loop [1, 3] b_flotsamref32_Right_1
def r_flotsamref32_Right_1 : AC :=
 .seq (.reg [dO 2 (.tk kT)])
 (.ret)
def c_flotsamref32_Right : AFunc :=
 { np := 1, res := [.t 2], body := (
 .seq (.reg [dO 1 (.box (.t 0)), dO 2 (.tk kF)])
 (.seq (.seq (.drw [[], [], [], [], [], [], [], [], [], [], [], [], [], [], [], [], [], [], [], [], [], [], [], [], [], [], [], [], [], [], [], [], []] [dO 7 (.fa 1 (.t 1)), dO 8 (.ld none (.t 7)), dO 9 (.len false (.t 8)), dO 10 (.ic .gtr (.t 9) (kI 16)), dO 11 (.mv (.t 10)), ⟨some 12, (some (11, false)), .fa 1 (.t 1)⟩, ⟨some 13, (some (11, false)), .ld none (.t 12)⟩, ⟨some 14, (some (11, false)), .callc n_flotsamref32_cells [.t 13]⟩, ⟨some 15, (some (11, false)), .notb (.t 14)⟩, dO 16 (.pick (.t 11) kT (.t 15)), dO 17 (.mv (.t 16)), ⟨some 18, (some (17, false)), .fa 0 (.t 1)⟩, ⟨some 19, (some (17, false)), .ld none (.t 18)⟩, ⟨some 20, (some (17, false)), .fa 1 (.t 1)⟩, ⟨some 21, (some (17, false)), .ld none (.t 20)⟩, ⟨some 22, (some (17, false)), .callc n_flotsamref30_Sum [.t 21]⟩, ⟨some 23, (some (17, false)), .ic .eql (.t 22) (kI 1)⟩, ⟨some 24, (some (17, false)), .eqb true (.t 19) (.t 23)⟩, dO 25 (.pick (.t 17) kT (.t 24)), dO 26 (.mv (.t 25)), ⟨some 27, (some (26, false)), .fa 0 (.t 1)⟩, ⟨some 28, (some (26, false)), .ld none (.t 27)⟩, ⟨some 29, (some (26, false)), .mv (.t 28)⟩, ⟨some 30, (some (29, true)), .fa 2 (.t 1)⟩, ⟨some 31, (some (29, true)), .ld none (.t 30)⟩, ⟨some 32, (some (29, true)), .len false (.t 31)⟩, ⟨some 33, (some (29, true)), .fa 3 (.t 1)⟩, ⟨some 34, (some (29, true)), .ld none (.t 33)⟩, ⟨some 35, (some (29, true)), .len false (.t 34)⟩, ⟨some 36, (some (29, true)), .ia .add .i64 (.t 32) (.t 35)⟩, ⟨some 37, (some (29, true)), .ic .gtr (.t 36) (kI 0)⟩, ⟨some 38, (some (26, false)), .pick (.t 29) (.t 37) kF⟩, dO 39 (.pick (.t 26) kT (.t 38))])
 (.cond (.t 39)
 (.seq (.reg [dO 2 (.tk kF)])
 (.ret))
 (.skip)))
 (.seq (.seq (.reg [dO 40 (.fa 2 (.t 1)), dO 41 (.ld none (.t 40)), dO 42 (.len false (.t 41)), dO 43 (.ic .gtr (.t 42) (kI 512)), dO 44 (.mv (.t 43)), ⟨some 45, (some (44, false)), .fa 2 (.t 1)⟩, ⟨some 46, (some (44, false)), .ld none (.t 45)⟩, ⟨some 47, (some (44, false)), .len false (.t 46)⟩, ⟨some 48, (some (44, false)), .fa 3 (.t 1)⟩, ⟨some 49, (some (44, false)), .ld none (.t 48)⟩, ⟨some 50, (some (44, false)), .len false (.t 49)⟩, ⟨some 51, (some (44, false)), .ic .neq (.t 47) (.t 50)⟩, dO 52 (.pick (.t 44) kT (.t 51))])
 (.cond (.t 52)
 (.seq (.reg [dO 2 (.tk kF)])
 (.ret))
 (.skip)))
 (.seq (.seq (.reg [dO 3 (.tk (kI 0))])
 (.block 0 (l_flotsamref32_Right_1))) r_flotsamref32_Right_1)))) }
def b_r33_cells_0 : AC :=
 .seq (.seq (.reg [dO 7 (.mv (.t 4)), dO 8 (.mv (.t 0)), dO 9 (.len false (.t 8)), dO 10 (.ic .lss (.t 7) (.t 9))])
 (.cond (.t 10)
 (.skip)
 (.exit 0)))
 (.seq (.block 1 (.seq (.reg [dO 14 (.mv (.t 0)), dO 15 (.mv (.t 4)), dO 16 (.ixa 6 none (.t 14) (.t 15)), dO 17 (.ld (some 6) (.t 16)), dO 18 (.callc n_flotsamref30_Show [.t 17]), dO 13 (.mv (.t 18)), dO 19 (.ext (.t 13) 0), dO 20 (.ext (.t 13) 1), dO 5 (.tk (.t 19)), dO 6 (.tk (.t 20))])
 (.reg [dO 21 (.mv (.t 3)), dO 22 (.sop .add (.t 21) (kS [9])), dO 23 (.mv (.t 5)), dO 24 (.sop .add (.t 22) (.t 23)), dO 25 (.sop .add (.t 24) (kS [10])), dO 3 (.tk (.t 25))])))
 (.reg [dO 11 (.mv (.t 4)), dO 12 (.ia .add .i64 (.t 11) (kI 1)), dO 4 (.tk (.t 12))]))
def l_r33_cells_0 : AC :=
 .loop [0, 3, 4] b_r33_cells_0
def r_r33_cells_0 : AC :=
 .seq (.reg [dO 26 (.mv (.t 3)), dO 2 (.tk (.t 26))])
 (.ret)
def c_r33_cells : AFunc :=
 { np := 1, res := [.t 2], body := (
 .seq (.reg [dO 2 (.tk (kS []))])
 (.seq (.reg [dO 3 (.tk (kS []))])
 (.seq (.seq (.reg [dO 4 (.tk (kI 0))])
 (.block 0 (l_r33_cells_0))) r_r33_cells_0))) }
def b_r25_Name_0 : AC :=
 .seq (.seq (.reg [dO 37 (.mv (.t 5)), dO 38 (.fa 10 (.t 1)), dO 39 (.ld none (.t 38)), dO 40 (.ic .lss (.t 37) (.t 39))])
 (.cond (.t 40)
 (.skip)
 (.exit 0)))
 (.seq (.block 1 (.seq (.seq (.reg [dO 43 (.mv (.t 5)), dO 44 (.fa 2 (.t 1)), dO 45 (.ixa 1 (some 8) (.t 44) (.t 43)), dO 46 (.ld none (.t 45)), dO 47 (.ic .gtr (.t 46) (kI 511))])
 (.cond (.t 47)
 (.seq (.reg [dO 2 (.tk (kS [])), dO 3 (.tk kF)])
 (.ret))
 (.skip)))
 (.reg [dO 48 (.mv (.t 4)), dO 49 (.sop .add (.t 48) (kS [32])), dO 50 (.mv (.t 5)), dO 51 (.fa 2 (.t 1)), dO 52 (.ixa 1 (some 8) (.t 51) (.t 50)), dO 53 (.ld none (.t 52)), dO 54 (.callc n_r01_Digits [.t 53]), dO 55 (.sop .add (.t 49) (.t 54)), dO 4 (.tk (.t 55))])))
 (.reg [dO 41 (.mv (.t 5)), dO 42 (.ia .add .i64 (.t 41) (kI 1)), dO 5 (.tk (.t 42))]))
def l_r25_Name_0 : AC :=
 .loop [1, 4, 5] b_r25_Name_0
def r_r25_Name_0 : AC :=
 .seq (.reg [dO 56 (.mv (.t 4)), dO 2 (.tk (.t 56)), dO 3 (.tk kT)])
 (.ret)
def c_r25_Name : AFunc :=
 { np := 1, res := [.t 2, .t 3], body := (
 .seq (.reg [dO 1 (.box (.t 0)), dO 2 (.tk (kS [])), dO 3 (.tk kF)])
 (.seq (.seq (.reg [dO 6 (.fa 0 (.t 1)), dO 7 (.ld none (.t 6)), dO 8 (.ic .lss (.t 7) (kI 1)), dO 9 (.mv (.t 8)), ⟨some 10, (some (9, false)), .fa 0 (.t 1)⟩, ⟨some 11, (some (9, false)), .ld none (.t 10)⟩, ⟨some 12, (some (9, false)), .ic .gtr (.t 11) (kI 8)⟩, dO 13 (.pick (.t 9) kT (.t 12)), dO 14 (.mv (.t 13)), ⟨some 15, (some (14, false)), .fa 1 (.t 1)⟩, ⟨some 16, (some (14, false)), .ld none (.t 15)⟩, ⟨some 17, (some (14, false)), .ic .lss (.t 16) (kI 0)⟩, dO 18 (.pick (.t 14) kT (.t 17)), dO 19 (.mv (.t 18)), ⟨some 20, (some (19, false)), .fa 1 (.t 1)⟩, ⟨some 21, (some (19, false)), .ld none (.t 20)⟩, ⟨some 22, (some (19, false)), .ic .gtr (.t 21) (kI 16)⟩, dO 23 (.pick (.t 19) kT (.t 22)), dO 24 (.mv (.t 23)), ⟨some 25, (some (24, false)), .ld (some 11) (.t 1)⟩, ⟨some 26, (some (24, false)), .callc n_r25_may [.t 25]⟩, ⟨some 27, (some (24, false)), .notb (.t 26)⟩, dO 28 (.pick (.t 24) kT (.t 27))])
 (.cond (.t 28)
 (.seq (.reg [dO 2 (.tk (kS [])), dO 3 (.tk kF)])
 (.ret))
 (.skip)))
 (.seq (.drw [[], [], [], [], [], [], [], [], []] [dO 29 (.fa 0 (.t 1)), dO 30 (.ld none (.t 29)), dO 31 (.callc n_r25_Word [.t 30]), dO 32 (.sop .add (.t 31) (kS [32])), dO 33 (.fa 1 (.t 1)), dO 34 (.ld none (.t 33)), dO 35 (.callc n_r01_Digits [.t 34]), dO 36 (.sop .add (.t 32) (.t 35)), dO 4 (.tk (.t 36))])
 (.seq (.seq (.reg [dO 5 (.tk (kI 0))])
 (.block 0 (l_r25_Name_0))) r_r25_Name_0)))) }
def c_r33_score : AFunc :=
 { np := 1, res := [.t 2], body := (
 .seq (.reg [dO 1 (.box (.t 0)), dO 2 (.tk (kS []))])
 (.seq (.reg [dO 6 (.ld (some 4) (.t 1)), dO 7 (.callc n_flotsamref32_Score [.t 6]), dO 5 (.mv (.t 7)), dO 8 (.ext (.t 5) 0), dO 9 (.ext (.t 5) 1), dO 3 (.tk (.t 8)), dO 4 (.tk (.t 9))])
 (.seq (.reg [dO 10 (.mv (.t 3)), dO 11 (.callc n_r33_digits [.t 10]), dO 12 (.sop .add (kS [115, 99, 111, 114, 101, 32]) (.t 11)), dO 13 (.sop .add (.t 12) (kS [32, 111, 102, 32])), dO 14 (.mv (.t 4)), dO 15 (.callc n_r33_digits [.t 14]), dO 16 (.sop .add (.t 13) (.t 15)), dO 2 (.tk (.t 16))])
 (.ret)))) }
def b_r33_Lines_0 : AC :=
 .seq (.seq (.reg [dO 7 (.mv (.t 6)), dO 8 (.mv (.t 0)), dO 9 (.len true (.t 8)), dO 10 (.ic .lss (.t 7) (.t 9))])
 (.cond (.t 10)
 (.skip)
 (.exit 0)))
 (.seq (.block 1 (.seq (.reg [dO 13 (.mv (.t 0)), dO 14 (.mv (.t 6)), dO 15 (.ixs (.t 13) (.t 14)), dO 16 (.ic .eql (.t 15) (.c (.int .u8 10)))])
 (.cond (.t 16)
 (.seq (.reg [dO 17 (.tk (.t 4)), dO 18 (.mv (.t 0)), dO 19 (.mv (.t 5)), dO 20 (.mv (.t 6)), dO 21 (.slc (.t 18) (some (.t 19)) (some (.t 20))), dO 22 (.bsl 1 [.str []] 1 [(0, 1, .t 21)] false), dO 23 (.app 1 16 (.t 17) (.t 22) false), dO 4 (.tk (.t 23))])
 (.reg [dO 24 (.mv (.t 6)), dO 25 (.ia .add .i64 (.t 24) (kI 1)), dO 5 (.tk (.t 25))]))
 (.skip))))
 (.reg [dO 11 (.mv (.t 6)), dO 12 (.ia .add .i64 (.t 11) (kI 1)), dO 6 (.tk (.t 12))]))
def l_r33_Lines_0 : AC :=
 .loop [0, 4, 5, 6] b_r33_Lines_0
def r_r33_Lines_0 : AC :=
 .seq (.reg [dO 26 (.tk (.t 4)), dO 27 (.mv (.t 5)), dO 28 (.mv (.t 0)), dO 29 (.len true (.t 28)), dO 30 (.ic .eql (.t 27) (.t 29)), dO 2 (.tk (.t 26)), dO 3 (.tk (.t 30))])
 (.ret)
def c_r33_Lines : AFunc :=
 { np := 1, res := [.t 2, .t 3], body := (
 .seq (.reg [dO 2 (.tk (.c (.own 1 []))), dO 3 (.tk kF)])
 (.seq (.reg [dO 4 (.tk (.c (.own 1 [])))])
 (.seq (.reg [dO 5 (.tk (kI 0))])
 (.seq (.seq (.reg [dO 6 (.tk (kI 0))])
 (.block 0 (l_r33_Lines_0))) r_r33_Lines_0)))) }
def b_r25_Read_0 : AC :=
 .seq (.seq (.reg [dO 14 (.mv (.t 6)), dO 15 (.mv (.t 0)), dO 16 (.len true (.t 15)), dO 17 (.ic .leq (.t 14) (.t 16))])
 (.cond (.t 17)
 (.skip)
 (.exit 0)))
 (.seq (.block 1 (.seq (.reg [dO 20 (.mv (.t 6)), dO 21 (.mv (.t 0)), dO 22 (.len true (.t 21)), dO 23 (.ic .eql (.t 20) (.t 22)), dO 24 (.mv (.t 23)), ⟨some 25, (some (24, false)), .mv (.t 0)⟩, ⟨some 26, (some (24, false)), .mv (.t 6)⟩, ⟨some 27, (some (24, false)), .ixs (.t 25) (.t 26)⟩, ⟨some 28, (some (24, false)), .ic .eql (.t 27) (.c (.int .u8 32))⟩, dO 29 (.pick (.t 24) kT (.t 28))])
 (.cond (.t 29)
 (.seq (.reg [dO 30 (.tk (.t 4)), dO 31 (.mv (.t 0)), dO 32 (.mv (.t 5)), dO 33 (.mv (.t 6)), dO 34 (.slc (.t 31) (some (.t 32)) (some (.t 33))), dO 35 (.bsl 1 [.str []] 1 [(0, 1, .t 34)] false), dO 36 (.app 1 16 (.t 30) (.t 35) false), dO 4 (.tk (.t 36))])
 (.reg [dO 37 (.mv (.t 6)), dO 38 (.ia .add .i64 (.t 37) (kI 1)), dO 5 (.tk (.t 38))]))
 (.skip))))
 (.reg [dO 18 (.mv (.t 6)), dO 19 (.ia .add .i64 (.t 18) (kI 1)), dO 6 (.tk (.t 19))]))
def l_r25_Read_0 : AC :=
 .loop [0, 2, 4, 5, 6] b_r25_Read_0
def b_r25_Read_1 : AC :=
 .seq (.seq (.reg [dO 48 (.mv (.t 8)), dO 49 (.ic .leq (.t 48) (kI 8))])
 (.cond (.t 49)
 (.skip)
 (.exit 2)))
 (.seq (.block 3 (.seq (.drw [[], [], [], [], [], []] [dO 52 (.mv (.t 8)), dO 53 (.callc n_r25_Word [.t 52]), dO 54 (.mv (.t 4)), dO 55 (.ixa 1 none (.t 54) (kI 0)), dO 56 (.ld none (.t 55)), dO 57 (.sop .eql (.t 53) (.t 56))])
 (.cond (.t 57)
 (.reg [dO 58 (.mv (.t 8)), dO 59 (.fa 0 (.t 7)), ⟨none, none, .st 1 (.t 59) (.t 58)⟩])
 (.skip))))
 (.reg [dO 50 (.mv (.t 8)), dO 51 (.ia .add .i64 (.t 50) (kI 1)), dO 8 (.tk (.t 51))]))
def l_r25_Read_1 : AC :=
 .loop [0, 2, 4, 7, 8] b_r25_Read_1
def b_r25_Read_2 : AC :=
 .seq (.seq (.reg [dO 60 (.mv (.t 9)), dO 61 (.mv (.t 4)), dO 62 (.len false (.t 61)), dO 63 (.ic .lss (.t 60) (.t 62))])
 (.cond (.t 63)
 (.skip)
 (.exit 4)))
 (.seq (.block 5 (.seq (.reg [dO 67 (.mv (.t 4)), dO 68 (.mv (.t 9)), dO 69 (.ixa 1 none (.t 67) (.t 68)), dO 70 (.ld none (.t 69)), dO 71 (.callc n_r01_Read [.t 70]), dO 66 (.mv (.t 71)), dO 72 (.ext (.t 66) 0), dO 73 (.ext (.t 66) 1), dO 10 (.tk (.t 72)), dO 11 (.tk (.t 73))])
 (.seq (.seq (.reg [dO 74 (.mv (.t 11)), dO 75 (.notb (.t 74)), dO 76 (.mv (.t 75)), ⟨some 77, (some (76, false)), .mv (.t 10)⟩, ⟨some 78, (some (76, false)), .ic .gtr (.t 77) (kI 511)⟩, dO 79 (.pick (.t 76) kT (.t 78))])
 (.cond (.t 79)
 (.seq (.reg [dO 80 (.bld [iZ, iZ, iZ, iZ, iZ, iZ, iZ, iZ, iZ, iZ, iZ] []), ⟨none, none, .st 11 (.t 2) (.t 80)⟩, dO 3 (.tk kF)])
 (.ret))
 (.skip)))
 (.seq (.reg [dO 81 (.mv (.t 9)), dO 82 (.ic .eql (.t 81) (kI 1))])
 (.cond (.t 82)
 (.reg [dO 83 (.mv (.t 10)), dO 84 (.fa 1 (.t 7)), ⟨none, none, .st 1 (.t 84) (.t 83)⟩])
 (.reg [dO 85 (.mv (.t 9)), dO 86 (.ia .sub .i64 (.t 85) (kI 2)), dO 87 (.mv (.t 10)), dO 88 (.fa 2 (.t 7)), dO 89 (.ixa 1 (some 8) (.t 88) (.t 86)), ⟨none, none, .st 1 (.t 89) (.t 87)⟩]))))))
 (.reg [dO 64 (.mv (.t 9)), dO 65 (.ia .add .i64 (.t 64) (kI 1)), dO 9 (.tk (.t 65))]))
def l_r25_Read_2 : AC :=
 .loop [0, 2, 4, 7, 9] b_r25_Read_2
def r_r25_Read_0 : AC :=
 .seq (.reg [dO 90 (.mv (.t 4)), dO 91 (.len false (.t 90)), dO 92 (.ia .sub .i64 (.t 91) (kI 2)), dO 93 (.fa 10 (.t 7)), ⟨none, none, .st 1 (.t 93) (.t 92)⟩])
 (.seq (.seq (.reg [dO 95 (.ld (some 11) (.t 7)), dO 96 (.callc n_r25_Name [.t 95]), dO 94 (.mv (.t 96)), dO 97 (.ext (.t 94) 0), dO 98 (.ext (.t 94) 1), dO 12 (.tk (.t 97)), dO 13 (.tk (.t 98))])
 (.seq (.reg [dO 99 (.mv (.t 13)), dO 100 (.notb (.t 99)), dO 101 (.mv (.t 100)), ⟨some 102, (some (101, false)), .mv (.t 12)⟩, ⟨some 103, (some (101, false)), .mv (.t 0)⟩, ⟨some 104, (some (101, false)), .sop .neq (.t 102) (.t 103)⟩, dO 105 (.pick (.t 101) kT (.t 104))])
 (.cond (.t 105)
 (.seq (.reg [dO 106 (.bld [iZ, iZ, iZ, iZ, iZ, iZ, iZ, iZ, iZ, iZ, iZ] []), ⟨none, none, .st 11 (.t 2) (.t 106)⟩, dO 3 (.tk kF)])
 (.ret))
 (.skip))))
 (.seq (.reg [dO 107 (.ld (some 11) (.t 7)), ⟨none, none, .st 11 (.t 2) (.t 107)⟩, dO 3 (.tk kT)])
 (.ret)))
def r_r25_Read_1 : AC :=
 .seq (.seq (.reg [dO 9 (.tk (kI 1))])
 (.block 4 (l_r25_Read_2))) r_r25_Read_0
def r_r25_Read_2 : AC :=
 .seq (.seq (.reg [dO 39 (.mv (.t 4)), dO 40 (.len false (.t 39)), dO 41 (.ic .lss (.t 40) (kI 3)), dO 42 (.mv (.t 41)), ⟨some 43, (some (42, false)), .mv (.t 4)⟩, ⟨some 44, (some (42, false)), .len false (.t 43)⟩, ⟨some 45, (some (42, false)), .ic .gtr (.t 44) (kI 10)⟩, dO 46 (.pick (.t 42) kT (.t 45))])
 (.cond (.t 46)
 (.seq (.reg [dO 47 (.bld [iZ, iZ, iZ, iZ, iZ, iZ, iZ, iZ, iZ, iZ, iZ] []), ⟨none, none, .st 11 (.t 2) (.t 47)⟩, dO 3 (.tk kF)])
 (.ret))
 (.skip)))
 (.seq (.reg [dO 7 (.alloc [iZ, iZ, iZ, iZ, iZ, iZ, iZ, iZ, iZ, iZ, iZ])])
 (.seq (.seq (.reg [dO 8 (.tk (kI 1))])
 (.block 2 (l_r25_Read_1))) r_r25_Read_1))
def c_r25_Read : AFunc :=
 { np := 1, res := [.cell 2 (some 11), .t 3], body := (
 .seq (.reg [dO 2 (.alloc [iZ, iZ, iZ, iZ, iZ, iZ, iZ, iZ, iZ, iZ, iZ]), dO 3 (.tk kF)])
 (.seq (.reg [dO 4 (.tk (.c (.own 1 [])))])
 (.seq (.reg [dO 5 (.tk (kI 0))])
 (.seq (.seq (.reg [dO 6 (.tk (kI 0))])
 (.block 0 (l_r25_Read_0))) r_r25_Read_2)))) }
def c_flotsamref30_Read : AFunc :=
 { np := 1, res := [.cell 2 (some 6), .t 3], body := (
 .seq (.reg [dO 2 (.alloc [iZ, iZ, .int .u64 0, iZ, iZ, iZ]), dO 3 (.tk kF)])
 (.seq (.reg [dO 4 (.alloc [iZ, iZ, .int .u64 0, iZ, iZ, iZ])])
 (.seq (.reg [dO 12 (.mv (.t 0)), dO 13 (.callc n_flotsamref30_Words [.t 12]), dO 5 (.tk (.t 13))])
 (.seq (.seq (.reg [dO 14 (.mv (.t 5)), dO 15 (.ixa 1 none (.t 14) (kI 0)), dO 16 (.ld none (.t 15)), dO 17 (.sop .eql (.t 16) (kS [107, 105, 108, 108, 101, 100])), dO 18 (.mv (.t 17)), ⟨some 19, (some (18, true)), .mv (.t 5)⟩, ⟨some 20, (some (18, true)), .len false (.t 19)⟩, ⟨some 21, (some (18, true)), .ic .eql (.t 20) (kI 4)⟩, dO 22 (.pick (.t 18) (.t 21) kF)])
 (.cond (.t 22)
 (.seq (.reg [dO 23 (.fa 0 (.t 4)), ⟨none, none, .st 1 (.t 23) (kI 1)⟩])
 (.seq (.reg [dO 25 (.mv (.t 5)), dO 26 (.ixa 1 none (.t 25) (kI 1)), dO 27 (.ld none (.t 26)), dO 28 (.callc n_r01_Read [.t 27]), dO 24 (.mv (.t 28)), dO 29 (.ext (.t 24) 0), dO 30 (.ext (.t 24) 1), dO 6 (.tk (.t 29)), dO 7 (.tk (.t 30))])
 (.seq (.reg [dO 32 (.mv (.t 5)), dO 33 (.ixa 1 none (.t 32) (kI 2)), dO 34 (.ld none (.t 33)), dO 35 (.callc n_r01_Read [.t 34]), dO 31 (.mv (.t 35)), dO 36 (.ext (.t 31) 0), dO 37 (.ext (.t 31) 1), dO 8 (.tk (.t 36)), dO 9 (.tk (.t 37))])
 (.seq (.seq (.reg [dO 38 (.mv (.t 7)), dO 39 (.notb (.t 38)), dO 40 (.mv (.t 39)), ⟨some 41, (some (40, false)), .mv (.t 9)⟩, ⟨some 42, (some (40, false)), .notb (.t 41)⟩, dO 43 (.pick (.t 40) kT (.t 42))])
 (.cond (.t 43)
 (.seq (.reg [dO 44 (.bld [iZ, iZ, .int .u64 0, iZ, iZ, iZ] []), ⟨none, none, .st 6 (.t 2) (.t 44)⟩, dO 3 (.tk kF)])
 (.ret))
 (.skip)))
 (.seq (.reg [dO 45 (.mv (.t 6)), dO 46 (.mv (.t 8)), dO 47 (.conv .u64 (.t 46)), dO 48 (.mv (.t 5)), dO 49 (.ixa 1 none (.t 48) (kI 3)), dO 50 (.ld none (.t 49)), dO 51 (.callc n_flotsamref30_ErrOf [.t 50]), dO 52 (.bld [iZ, .int .u64 0, iZ, iZ] [(0, 1, .t 45), (1, 1, .t 47), (2, 1, kI 2), (3, 1, .t 51)]), dO 53 (.fa 1 (.t 4)), ⟨none, none, .st 4 (.t 53) (.t 52)⟩])
 (.seq (.reg [dO 54 (.mv (.t 5)), dO 55 (.ixa 1 none (.t 54) (kI 3)), dO 56 (.ld none (.t 55)), dO 57 (.sop .eql (.t 56) (kS [102, 97, 105, 108, 101, 100]))])
 (.cond (.t 57)
 (.seq (.reg [dO 58 (.fa 1 (.t 4)), dO 59 (.fa 2 (.t 58)), ⟨none, none, .st 1 (.t 59) (kI 1)⟩])
 (.reg [dO 60 (.fa 1 (.t 4)), dO 61 (.fa 3 (.t 60)), ⟨none, none, .st 1 (.t 61) (kI 0)⟩]))
 (.skip))))))))
 (.skip)))
 (.seq (.seq (.reg [dO 62 (.mv (.t 5)), dO 63 (.ixa 1 none (.t 62) (kI 0)), dO 64 (.ld none (.t 63)), dO 65 (.sop .eql (.t 64) (kS [105, 110, 99, 111, 110, 99, 108, 117, 115, 105, 118, 101])), dO 66 (.mv (.t 65)), ⟨some 67, (some (66, true)), .mv (.t 5)⟩, ⟨some 68, (some (66, true)), .len false (.t 67)⟩, ⟨some 69, (some (66, true)), .ic .eql (.t 68) (kI 2)⟩, dO 70 (.pick (.t 66) (.t 69) kF)])
 (.cond (.t 70)
 (.seq (.reg [dO 71 (.fa 0 (.t 4)), ⟨none, none, .st 1 (.t 71) (kI 2)⟩])
 (.reg [dO 72 (.mv (.t 5)), dO 73 (.ixa 1 none (.t 72) (kI 1)), dO 74 (.ld none (.t 73)), dO 75 (.callc n_flotsamref30_ErrOf [.t 74]), dO 76 (.fa 5 (.t 4)), ⟨none, none, .st 1 (.t 76) (.t 75)⟩]))
 (.skip)))
 (.seq (.seq (.reg [dO 78 (.ld (some 6) (.t 4)), dO 79 (.callc n_flotsamref30_Show [.t 78]), dO 77 (.mv (.t 79)), dO 80 (.ext (.t 77) 0), dO 81 (.ext (.t 77) 1), dO 10 (.tk (.t 80)), dO 11 (.tk (.t 81))])
 (.seq (.reg [dO 82 (.mv (.t 11)), dO 83 (.notb (.t 82)), dO 84 (.mv (.t 83)), ⟨some 85, (some (84, false)), .mv (.t 10)⟩, ⟨some 86, (some (84, false)), .mv (.t 0)⟩, ⟨some 87, (some (84, false)), .sop .neq (.t 85) (.t 86)⟩, dO 88 (.pick (.t 84) kT (.t 87))])
 (.cond (.t 88)
 (.seq (.reg [dO 89 (.bld [iZ, iZ, .int .u64 0, iZ, iZ, iZ] []), ⟨none, none, .st 6 (.t 2) (.t 89)⟩, dO 3 (.tk kF)])
 (.ret))
 (.skip))))
 (.seq (.reg [dO 90 (.ld (some 6) (.t 4)), ⟨none, none, .st 6 (.t 2) (.t 90)⟩, dO 3 (.tk kT)])
 (.ret)))))))) }
def b_flotsamref30_Same_0 : AC :=
 .seq (.seq (.reg [dO 11 (.mv (.t 5)), dO 12 (.mv (.t 0)), dO 13 (.len false (.t 12)), dO 14 (.ic .lss (.t 11) (.t 13))])
 (.cond (.t 14)
 (.skip)
 (.exit 0)))
 (.seq (.block 1 (.seq (.drw [[], [], [], [], [], [], [], [], []] [dO 17 (.mv (.t 0)), dO 18 (.mv (.t 5)), dO 19 (.ixa 6 none (.t 17) (.t 18)), dO 20 (.ld (some 6) (.t 19)), dO 21 (.mv (.t 1)), dO 22 (.mv (.t 5)), dO 23 (.ixa 6 none (.t 21) (.t 22)), dO 24 (.ld (some 6) (.t 23)), dO 25 (.eqa true [.int .i64, .int .i64, .int .u64, .int .i64, .int .i64, .int .i64] (.t 20) (.t 24))])
 (.cond (.t 25)
 (.seq (.reg [dO 4 (.tk kF)])
 (.ret))
 (.skip))))
 (.reg [dO 15 (.mv (.t 5)), dO 16 (.ia .add .i64 (.t 15) (kI 1)), dO 5 (.tk (.t 16))]))
def l_flotsamref30_Same_0 : AC :=
 .loop [0, 1, 5] b_flotsamref30_Same_0
def r_flotsamref30_Same_0 : AC :=
 .seq (.reg [dO 4 (.tk kT)])
 (.ret)
def c_flotsamref30_Same : AFunc :=
 { np := 2, res := [.t 4], body := (
 .seq (.reg [dO 4 (.tk kF)])
 (.seq (.seq (.reg [dO 6 (.mv (.t 0)), dO 7 (.len false (.t 6)), dO 8 (.mv (.t 1)), dO 9 (.len false (.t 8)), dO 10 (.ic .neq (.t 7) (.t 9))])
 (.cond (.t 10)
 (.seq (.reg [dO 4 (.tk kF)])
 (.ret))
 (.skip)))
 (.seq (.seq (.reg [dO 5 (.tk (kI 0))])
 (.block 0 (l_flotsamref30_Same_0))) r_flotsamref30_Same_0))) }
def c_score_Mutants : AFunc :=
 { np := 1, res := [.t 2, .t 3, .t 4], body := (
 .seq (.reg [dO 1 (.box (.t 0)), dO 2 (.tk (kI 0)), dO 3 (.tk (kI 0)), dO 4 (.tk (kI 0))])
 (.seq (.reg [dO 6 (.mkf (.func n_score_Mutants_1) [] [.t 1]), dO 5 (.tk (.t 6))])
 (.seq (.reg [dO 7 (.mv (.t 5)), dO 8 (.callv (.t 7) [kI 1]), dO 9 (.mv (.t 5)), dO 10 (.callv (.t 9) [kI 0]), dO 11 (.mv (.t 5)), dO 12 (.callv (.t 11) [kI 2]), dO 2 (.tk (.t 8)), dO 3 (.tk (.t 10)), dO 4 (.tk (.t 12))])
 (.ret)))) }
def c_report_words : AFunc :=
 { np := 1, res := [.t 2], body := (
 .seq (.reg [dO 2 (.tk (kS []))])
 (.seq (.reg [dO 3 (.mv (.t 0)), dO 4 (.callc n_strings_Join [.t 3, kS [32]]), dO 2 (.tk (.t 4))])
 (.ret))) }
def c_report_digits : AFunc :=
 { np := 1, res := [.t 2], body := (
 .seq (.reg [dO 2 (.tk (kS []))])
 (.seq (.reg [dO 3 (.mv (.t 0)), dO 4 (.callc n_num_Digits [.t 3]), dO 2 (.tk (.t 4))])
 (.ret))) }
def c_report_total : AFunc :=
 { np := 1, res := [.t 2], body := (
 .seq (.reg [dO 1 (.box (.t 0)), dO 2 (.tk (kS []))])
 (.seq (.reg [dO 6 (.ld (some 4) (.t 1)), dO 7 (.callc n_score_Score [.t 6]), dO 5 (.mv (.t 7)), dO 8 (.ext (.t 5) 0), dO 9 (.ext (.t 5) 1), dO 3 (.tk (.t 8)), dO 4 (.tk (.t 9))])
 (.seq (.reg [dO 10 (.mv (.t 3)), dO 11 (.callc n_report_digits [.t 10]), dO 12 (.mv (.t 4)), dO 13 (.callc n_report_digits [.t 12]), dO 14 (.bsl 1 [.str []] 4 [(0, 1, kS [115, 99, 111, 114, 101]), (1, 1, .t 11), (2, 1, kS [111, 102]), (3, 1, .t 13)] false), dO 15 (.callc n_report_words [.t 14]), dO 2 (.tk (.t 15))])
 (.ret)))) }
def b_flotsamref32_Mutants_0 : AC :=
 .seq (.seq (.reg [dO 7 (.mv (.t 6)), dO 8 (.fa 3 (.t 1)), dO 9 (.ld none (.t 8)), dO 10 (.len false (.t 9)), dO 11 (.ic .lss (.t 7) (.t 10))])
 (.cond (.t 11)
 (.skip)
 (.exit 0)))
 (.seq (.block 1 (.reg [dO 14 (.fa 3 (.t 1)), dO 15 (.ld none (.t 14)), dO 16 (.mv (.t 6)), dO 17 (.ixa 1 none (.t 15) (.t 16)), dO 18 (.ld none (.t 17)), dO 19 (.callc n_flotsamref30_Sum [.t 18]), dO 20 (.ixa 1 (some 3) (.t 5) (.t 19)), dO 21 (.ld none (.t 20)), dO 22 (.ia .add .i64 (.t 21) (kI 1)), dO 23 (.ixa 1 (some 3) (.t 5) (.t 19)), ⟨none, none, .st 1 (.t 23) (.t 22)⟩]))
 (.reg [dO 12 (.mv (.t 6)), dO 13 (.ia .add .i64 (.t 12) (kI 1)), dO 6 (.tk (.t 13))]))
def l_flotsamref32_Mutants_0 : AC :=
 .loop [1, 5, 6] b_flotsamref32_Mutants_0
def r_flotsamref32_Mutants_0 : AC :=
 .seq (.drw [[], [], [], [], [], [], [], [], []] [dO 24 (.ixa 1 (some 3) (.t 5) (kI 1)), dO 25 (.ld none (.t 24)), dO 26 (.ixa 1 (some 3) (.t 5) (kI 0)), dO 27 (.ld none (.t 26)), dO 28 (.ixa 1 (some 3) (.t 5) (kI 2)), dO 29 (.ld none (.t 28)), dO 2 (.tk (.t 25)), dO 3 (.tk (.t 27)), dO 4 (.tk (.t 29))])
 (.ret)
def c_flotsamref32_Mutants : AFunc :=
 { np := 1, res := [.t 2, .t 3, .t 4], body := (
 .seq (.reg [dO 1 (.box (.t 0)), dO 2 (.tk (kI 0)), dO 3 (.tk (kI 0)), dO 4 (.tk (kI 0))])
 (.seq (.reg [dO 5 (.alloc [iZ, iZ, iZ])])
 (.seq (.seq (.reg [dO 6 (.tk (kI 0))])
 (.block 0 (l_flotsamref32_Mutants_0))) r_flotsamref32_Mutants_0))) }
def c_r33_digits : AFunc :=
 { np := 1, res := [.t 2], body := (
 .seq (.reg [dO 2 (.tk (kS []))])
 (.seq (.reg [dO 3 (.mv (.t 0)), dO 4 (.callc n_r01_Digits [.t 3]), dO 2 (.tk (.t 4))])
 (.ret))) }
def c_score_odd : AFunc :=
 { np := 1, res := [.t 2], body := (
 .seq (.reg [dO 1 (.box (.t 0)), dO 2 (.tk (.c (.nilf)))])
 (.seq (.reg [dO 3 (.mkf (.func n_score_odd_1) [] [.t 1]), dO 2 (.tk (.t 3))])
 (.ret))) }
def b_cell_Sum_0 : AC :=
 .seq (.reg [dO 9 (.ic .lss (.t 8) (.t 7))])
 (.seq (.cond (.t 9)
 (.skip)
 (.exit 0))
 (.seq (.block 1 (.seq (.reg [dO 10 (.ixa 6 none (.t 6) (.t 8)), dO 11 (.ld (some 6) (.t 10)), dO 5 (.alloc [iZ, iZ, .int .u64 0, iZ, iZ, iZ]), ⟨none, none, .st 6 (.t 5) (.t 11)⟩])
 (.seq (.reg [dO 12 (.fa 0 (.t 5)), dO 13 (.ld none (.t 12))])
 (.block 2 (.seq (.block 4 (.seq (.block 3 (.seq (.seq (.seq (.reg [dO 15 (.ic .eql (.t 13) (kI 2)), dO 14 (.tk (.t 15))])
 (.cond (.t 14)
 (.exit 3)
 (.skip)))
 (.seq (.reg [dO 17 (.ic .eql (.t 13) (kI 1)), dO 16 (.tk (.t 17))])
 (.cond (.t 16)
 (.exit 4)
 (.skip))))
 (.exit 2)))
 (.seq (.reg [dO 18 (.mv (.t 3)), dO 19 (.ic .eql (.t 18) (kI 1))])
 (.cond (.t 19)
 (.exit 2)
 (.skip)))))
 (.seq (.reg [dO 20 (.fa 0 (.t 5)), dO 21 (.ld none (.t 20)), dO 3 (.tk (.t 21))])
 (.exit 2)))))))
 (.reg [dO 22 (.ia .add .i64 (.t 8) (kI 1)), dO 8 (.mv (.t 22))])))
def l_cell_Sum_0 : AC :=
 .loop [3, 6, 7, 8] b_cell_Sum_0
def r_cell_Sum_0 : AC :=
 .seq (.reg [dO 23 (.mv (.t 3)), dO 2 (.tk (.t 23))])
 (.ret)
def c_cell_Sum : AFunc :=
 { np := 1, res := [.t 2], body := (
 .seq (.reg [dO 2 (.tk (kI 0))])
 (.seq (.reg [dO 3 (.tk (kI 0))])
 (.seq (.seq (.reg [dO 6 (.mv (.t 0)), dO 7 (.len false (.t 6)), dO 8 (.mv (kI 0))])
 (.block 0 (l_cell_Sum_0))) r_cell_Sum_0))) }
def c_sC_Cell_api_Cell : AFunc :=
 { np := 2, res := [.t 4], body := (
 .seq (.reg [dO 4 (.tk kF)])
 (.seq (.reg [dO 5 (.mv (.t 0)), dO 6 (.mv (.t 1)), dO 7 (.call n_sI_Cell_api_Cell [.t 5, .t 6]), dO 8 (.ic .geq (.t 7) (kI 0)), dO 4 (.tk (.t 8))])
 (.ret))) }
def b_site_Name_0 : AC :=
 .seq (.reg [dO 45 (.ic .lss (.t 44) (.t 43))])
 (.seq (.cond (.t 45)
 (.skip)
 (.exit 0))
 (.seq (.block 1 (.seq (.reg [dO 46 (.ixa 1 none (.t 42) (.t 44)), dO 47 (.ld none (.t 46)), dO 6 (.tk (.t 47))])
 (.seq (.seq (.reg [dO 48 (.mv (.t 6)), dO 49 (.ic .gtr (.t 48) (kI 511))])
 (.cond (.t 49)
 (.seq (.reg [dO 2 (.tk (kS [])), dO 3 (.tk kF)])
 (.ret))
 (.skip)))
 (.reg [dO 50 (.tk (.t 4)), dO 51 (.mv (.t 6)), dO 52 (.callc n_num_Digits [.t 51]), dO 53 (.bsl 1 [.str []] 1 [(0, 1, .t 52)] false), dO 54 (.app 1 16 (.t 50) (.t 53) false), dO 4 (.tk (.t 54))]))))
 (.reg [dO 55 (.ia .add .i64 (.t 44) (kI 1)), dO 44 (.mv (.t 55))])))
def l_site_Name_0 : AC :=
 .loop [4, 42, 43, 44] b_site_Name_0
def r_site_Name_0 : AC :=
 .seq (.reg [dO 56 (.mv (.t 4)), dO 57 (.callc n_strings_Join [.t 56, kS [32]]), dO 2 (.tk (.t 57)), dO 3 (.tk kT)])
 (.ret)
def c_site_Name : AFunc :=
 { np := 1, res := [.t 2, .t 3], body := (
 .seq (.reg [dO 1 (.box (.t 0)), dO 2 (.tk (kS [])), dO 3 (.tk kF)])
 (.seq (.seq (.drw [[], [], [], [], [], [], [], [], [], [], [], [], [], [], [], [], [], [], [], [], [], [], [], [], []] [dO 7 (.fa 0 (.t 1)), dO 8 (.ld none (.t 7)), dO 9 (.ic .lss (.t 8) (kI 1)), dO 10 (.mv (.t 9)), ⟨some 11, (some (10, false)), .fa 0 (.t 1)⟩, ⟨some 12, (some (10, false)), .ld none (.t 11)⟩, ⟨some 13, (some (10, false)), .callc n_site_words []⟩, ⟨some 14, (some (10, false)), .len false (.t 13)⟩, ⟨some 15, (some (10, false)), .ic .geq (.t 12) (.t 14)⟩, dO 16 (.pick (.t 10) kT (.t 15)), dO 17 (.mv (.t 16)), ⟨some 18, (some (17, false)), .fa 1 (.t 1)⟩, ⟨some 19, (some (17, false)), .ld none (.t 18)⟩, ⟨some 20, (some (17, false)), .ic .lss (.t 19) (kI 0)⟩, dO 21 (.pick (.t 17) kT (.t 20)), dO 22 (.mv (.t 21)), ⟨some 23, (some (22, false)), .fa 1 (.t 1)⟩, ⟨some 24, (some (22, false)), .ld none (.t 23)⟩, ⟨some 25, (some (22, false)), .ic .gtr (.t 24) (kI 16)⟩, dO 26 (.pick (.t 22) kT (.t 25)), dO 27 (.mv (.t 26)), ⟨some 28, (some (27, false)), .ld (some 11) (.t 1)⟩, ⟨some 29, (some (27, false)), .callc n_site_may [.t 28]⟩, ⟨some 30, (some (27, false)), .notb (.t 29)⟩, dO 31 (.pick (.t 27) kT (.t 30))])
 (.cond (.t 31)
 (.seq (.reg [dO 2 (.tk (kS [])), dO 3 (.tk kF)])
 (.ret))
 (.skip)))
 (.seq (.drw [[], [], [], [], [], [], [], []] [dO 32 (.fa 0 (.t 1)), dO 33 (.ld none (.t 32)), dO 34 (.callc n_site_Word [.t 33]), dO 35 (.fa 1 (.t 1)), dO 36 (.ld none (.t 35)), dO 37 (.callc n_num_Digits [.t 36]), dO 38 (.bsl 1 [.str []] 2 [(0, 1, .t 34), (1, 1, .t 37)] false), dO 4 (.tk (.t 38))])
 (.seq (.seq (.reg [dO 39 (.fa 2 (.t 1)), dO 40 (.fa 10 (.t 1)), dO 41 (.ld none (.t 40)), dO 42 (.slp 1 8 (.t 39) none (some (.t 41)) none), dO 43 (.len false (.t 42)), dO 44 (.mv (kI 0))])
 (.block 0 (l_site_Name_0))) r_site_Name_0)))) }
def c_slices_Contains_api_Site_api_Site : AFunc :=
 { np := 2, res := [.t 4], body := (
 .seq (.reg [dO 3 (.box (.t 1)), dO 4 (.tk kF)])
 (.seq (.reg [dO 5 (.mv (.t 0)), dO 6 (.ld (some 11) (.t 3)), dO 7 (.callc n_slices_Index_api_Site_api_Site [.t 5, .t 6]), dO 8 (.ic .geq (.t 7) (kI 0)), dO 4 (.tk (.t 8))])
 (.ret))) }
def b_report_lines_1_0 : AC :=
 .seq (.reg [dO 27 (.ic .lss (.t 26) (.t 25))])
 (.seq (.cond (.t 27)
 (.skip)
 (.exit 0))
 (.seq (.block 1 (.seq (.reg [dO 28 (.mv (.t 26)), dO 29 (.ixa 11 none (.t 24) (.t 26)), dO 30 (.ld (some 11) (.t 29)), dO 6 (.alloc [iZ, iZ, iZ, iZ, iZ, iZ, iZ, iZ, iZ, iZ, iZ]), dO 5 (.tk (.t 28)), ⟨none, none, .st 11 (.t 6) (.t 30)⟩])
 (.seq (.reg [dO 32 (.ld (some 11) (.t 6)), dO 33 (.callc n_site_Name [.t 32]), dO 31 (.mv (.t 33)), dO 34 (.ext (.t 31) 0), dO 35 (.ext (.t 31) 1), dO 7 (.tk (.t 34)), dO 8 (.tk (.t 35))])
 (.seq (.reg [dO 36 (.ld none (.t 2)), dO 37 (.mv (.t 7)), dO 38 (.callv (.t 36) [.t 37]), dO 39 (.notb (.t 38)), dO 40 (.mv (.t 39)), ⟨some 41, (some (40, false)), .mv (.t 4)⟩, ⟨some 42, (some (40, false)), .fa 3 (.t 1)⟩, ⟨some 43, (some (40, false)), .ld none (.t 42)⟩, ⟨some 44, (some (40, false)), .mv (.t 5)⟩, ⟨some 45, (some (40, false)), .ixa 1 none (.t 43) (.t 44)⟩, ⟨some 46, (some (40, false)), .ld none (.t 45)⟩, ⟨some 47, (some (40, false)), .callv (.t 41) [.t 46]⟩, ⟨some 48, (some (40, false)), .notb (.t 47)⟩, dO 49 (.pick (.t 40) kT (.t 48))])
 (.cond (.t 49)
 (.ret)
 (.skip))))))
 (.reg [dO 50 (.ia .add .i64 (.t 26) (kI 1)), dO 26 (.mv (.t 50))])))
def l_report_lines_1_0 : AC :=
 .loop [1, 2, 4, 24, 25, 26] b_report_lines_1_0
def r_report_lines_1_0 : AC :=
 .drw [[], [], [], [1]] [dO 51 (.ld none (.t 2)), dO 52 (.ld (some 4) (.t 1)), dO 53 (.callc n_report_total [.t 52]), dO 54 (.callv (.t 51) [.t 53])]
def c_report_lines_1 : AFunc :=
 { np := 2, res := [], body := (
 .seq (.reg [dO 2 (.box (.t 0))])
 (.seq (.reg [dO 3 (.tk (kS [103, 111, 111, 100]))])
 (.seq (.seq (.reg [dO 9 (.fa 0 (.t 1)), dO 10 (.ld none (.t 9))])
 (.cond (.t 10)
 (.reg [dO 3 (.tk (kS [98, 97, 100]))])
 (.skip)))
 (.seq (.reg [dO 11 (.mkf (.func n_report_lines_1_1) [] [.t 2]), dO 4 (.tk (.t 11))])
 (.seq (.seq (.reg [dO 12 (.ld none (.t 2)), dO 13 (.mv (.t 3)), dO 14 (.callv (.t 12) [.t 13]), dO 15 (.notb (.t 14)), dO 16 (.mv (.t 15)), ⟨some 17, (some (16, false)), .mv (.t 4)⟩, ⟨some 18, (some (16, false)), .fa 1 (.t 1)⟩, ⟨some 19, (some (16, false)), .ld none (.t 18)⟩, ⟨some 20, (some (16, false)), .callv (.t 17) [.t 19]⟩, ⟨some 21, (some (16, false)), .notb (.t 20)⟩, dO 22 (.pick (.t 16) kT (.t 21))])
 (.cond (.t 22)
 (.ret)
 (.skip)))
 (.seq (.seq (.reg [dO 23 (.fa 2 (.t 1)), dO 24 (.ld none (.t 23)), dO 25 (.len false (.t 24)), dO 26 (.mv (kI 0))])
 (.block 0 (l_report_lines_1_0))) r_report_lines_1_0)))))) }
def b_report_lines_1_1_0 : AC :=
 .seq (.reg [dO 11 (.ic .lss (.t 10) (.t 9))])
 (.seq (.cond (.t 11)
 (.skip)
 (.exit 0))
 (.seq (.block 1 (.seq (.reg [dO 12 (.ixa 6 none (.t 8) (.t 10)), dO 13 (.ld (some 6) (.t 12)), dO 5 (.alloc [iZ, iZ, .int .u64 0, iZ, iZ, iZ]), ⟨none, none, .st 6 (.t 5) (.t 13)⟩])
 (.seq (.reg [dO 15 (.ld (some 6) (.t 5)), dO 16 (.callc n_cell_Show [.t 15]), dO 14 (.mv (.t 16)), dO 17 (.ext (.t 14) 0), dO 18 (.ext (.t 14) 1), dO 6 (.tk (.t 17)), dO 7 (.tk (.t 18))])
 (.seq (.reg [dO 19 (.ld none (.t 1)), dO 20 (.mv (.t 6)), dO 21 (.sop .add (kS [9]) (.t 20)), dO 22 (.callv (.t 19) [.t 21]), dO 23 (.notb (.t 22))])
 (.cond (.t 23)
 (.seq (.reg [dO 3 (.tk kF)])
 (.ret))
 (.skip))))))
 (.reg [dO 24 (.ia .add .i64 (.t 10) (kI 1)), dO 10 (.mv (.t 24))])))
def l_report_lines_1_1_0 : AC :=
 .loop [1, 8, 9, 10] b_report_lines_1_1_0
def r_report_lines_1_1_0 : AC :=
 .seq (.reg [dO 3 (.tk kT)])
 (.ret)
def c_report_lines_1_1 : AFunc :=
 { np := 2, res := [.t 3], body := (
 .seq (.reg [dO 3 (.tk kF)])
 (.seq (.seq (.reg [dO 8 (.mv (.t 0)), dO 9 (.len false (.t 8)), dO 10 (.mv (kI 0))])
 (.block 0 (l_report_lines_1_1_0))) r_report_lines_1_1_0)) }
def c_cell_Show : AFunc :=
 { np := 1, res := [.t 2, .t 3], body := (
 .seq (.reg [dO 1 (.box (.t 0)), dO 2 (.tk (kS [])), dO 3 (.tk kF)])
 (.seq (.seq (.reg [dO 6 (.ld (some 6) (.t 1)), dO 7 (.callc n_cell_Right [.t 6]), dO 8 (.notb (.t 7))])
 (.cond (.t 8)
 (.seq (.reg [dO 2 (.tk (kS [])), dO 3 (.tk kF)])
 (.ret))
 (.skip)))
 (.seq (.reg [dO 9 (.fa 0 (.t 1)), dO 10 (.ld none (.t 9)), dO 11 (.callc n_cell_head [.t 10]), dO 12 (.bsl 1 [.str []] 1 [(0, 1, .t 11)] false), dO 4 (.tk (.t 12))])
 (.seq (.seq (.reg [dO 13 (.fa 0 (.t 1)), dO 14 (.ld none (.t 13))])
 (.block 0 (.seq (.reg [dO 16 (.ic .eql (.t 14) (kI 1)), dO 15 (.tk (.t 16))])
 (.cond (.t 15)
 (.seq (.reg [dO 5 (.tk (kS [102, 97, 105, 108, 101, 100]))])
 (.seq (.seq (.reg [dO 17 (.fa 1 (.t 1)), dO 18 (.fa 2 (.t 17)), dO 19 (.ld none (.t 18)), dO 20 (.ic .eql (.t 19) (kI 2))])
 (.cond (.t 20)
 (.reg [dO 21 (.fa 1 (.t 1)), dO 22 (.fa 3 (.t 21)), dO 23 (.ld none (.t 22)), dO 24 (.callc n_trace_Err [.t 23]), dO 5 (.tk (.t 24))])
 (.skip)))
 (.drw [[], [], [], [], [], [], [], [], [], [], [], [], [], []] [dO 25 (.tk (.t 4)), dO 26 (.fa 1 (.t 1)), dO 27 (.fa 0 (.t 26)), dO 28 (.ld none (.t 27)), dO 29 (.callc n_num_Digits [.t 28]), dO 30 (.fa 1 (.t 1)), dO 31 (.fa 1 (.t 30)), dO 32 (.ld none (.t 31)), dO 33 (.conv .i64 (.t 32)), dO 34 (.callc n_num_Digits [.t 33]), dO 35 (.mv (.t 5)), dO 36 (.bsl 1 [.str []] 3 [(0, 1, .t 29), (1, 1, .t 34), (2, 1, .t 35)] false), dO 37 (.app 1 16 (.t 25) (.t 36) false), dO 4 (.tk (.t 37))])))
 (.seq (.reg [dO 39 (.ic .eql (.t 14) (kI 2)), dO 38 (.tk (.t 39))])
 (.cond (.t 38)
 (.reg [dO 40 (.tk (.t 4)), dO 41 (.fa 5 (.t 1)), dO 42 (.ld none (.t 41)), dO 43 (.callc n_trace_Err [.t 42]), dO 44 (.bsl 1 [.str []] 1 [(0, 1, .t 43)] false), dO 45 (.app 1 16 (.t 40) (.t 44) false), dO 4 (.tk (.t 45))])
 (.skip)))))))
 (.seq (.reg [dO 46 (.mv (.t 4)), dO 47 (.callc n_strings_Join [.t 46, kS [32]]), dO 2 (.tk (.t 47)), dO 3 (.tk kT)])
 (.ret)))))) }
def b_flotsamref32_cells_0 : AC :=
 .seq (.seq (.reg [dO 4 (.mv (.t 3)), dO 5 (.mv (.t 0)), dO 6 (.len false (.t 5)), dO 7 (.ic .lss (.t 4) (.t 6))])
 (.cond (.t 7)
 (.skip)
 (.exit 0)))
 (.seq (.block 1 (.seq (.reg [dO 10 (.mv (.t 0)), dO 11 (.mv (.t 3)), dO 12 (.ixa 6 none (.t 10) (.t 11)), dO 13 (.ld (some 6) (.t 12)), dO 14 (.callc n_flotsamref30_Right [.t 13]), dO 15 (.notb (.t 14))])
 (.cond (.t 15)
 (.seq (.reg [dO 2 (.tk kF)])
 (.ret))
 (.skip))))
 (.reg [dO 8 (.mv (.t 3)), dO 9 (.ia .add .i64 (.t 8) (kI 1)), dO 3 (.tk (.t 9))]))
def l_flotsamref32_cells_0 : AC :=
 .loop [0, 3] b_flotsamref32_cells_0
def r_flotsamref32_cells_0 : AC :=
 .seq (.reg [dO 2 (.tk kT)])
 (.ret)
def c_flotsamref32_cells : AFunc :=
 { np := 1, res := [.t 2], body := (
 .seq (.reg [dO 2 (.tk kF)])
 (.seq (.seq (.reg [dO 3 (.tk (kI 0))])
 (.block 0 (l_flotsamref32_cells_0))) r_flotsamref32_cells_0)) }
def b_flotsamref30_Sum_0 : AC :=
 .seq (.seq (.reg [dO 5 (.mv (.t 4)), dO 6 (.mv (.t 0)), dO 7 (.len false (.t 6)), dO 8 (.ic .lss (.t 5) (.t 7))])
 (.cond (.t 8)
 (.skip)
 (.exit 0)))
 (.seq (.block 1 (.seq (.reg [dO 11 (.mv (.t 0)), dO 12 (.mv (.t 4)), dO 13 (.ixa 6 none (.t 11) (.t 12)), dO 14 (.fa 0 (.t 13)), dO 15 (.ld none (.t 14)), dO 16 (.ic .eql (.t 15) (kI 1)), dO 17 (.mv (.t 16)), ⟨some 18, (some (17, false)), .mv (.t 0)⟩, ⟨some 19, (some (17, false)), .mv (.t 4)⟩, ⟨some 20, (some (17, false)), .ixa 6 none (.t 18) (.t 19)⟩, ⟨some 21, (some (17, false)), .fa 0 (.t 20)⟩, ⟨some 22, (some (17, false)), .ld none (.t 21)⟩, ⟨some 23, (some (17, false)), .ic .eql (.t 22) (kI 2)⟩, ⟨some 24, (some (17, false)), .mv (.t 23)⟩, ⟨some 25, (some (24, true)), .mv (.t 3)⟩, ⟨some 26, (some (24, true)), .ic .eql (.t 25) (kI 0)⟩, ⟨some 27, (some (17, false)), .pick (.t 24) (.t 26) kF⟩, dO 28 (.pick (.t 17) kT (.t 27))])
 (.cond (.t 28)
 (.reg [dO 29 (.mv (.t 0)), dO 30 (.mv (.t 4)), dO 31 (.ixa 6 none (.t 29) (.t 30)), dO 32 (.fa 0 (.t 31)), dO 33 (.ld none (.t 32)), dO 3 (.tk (.t 33))])
 (.skip))))
 (.reg [dO 9 (.mv (.t 4)), dO 10 (.ia .add .i64 (.t 9) (kI 1)), dO 4 (.tk (.t 10))]))
def l_flotsamref30_Sum_0 : AC :=
 .loop [0, 3, 4] b_flotsamref30_Sum_0
def r_flotsamref30_Sum_0 : AC :=
 .seq (.reg [dO 34 (.mv (.t 3)), dO 2 (.tk (.t 34))])
 (.ret)
def c_flotsamref30_Sum : AFunc :=
 { np := 1, res := [.t 2], body := (
 .seq (.reg [dO 2 (.tk (kI 0))])
 (.seq (.reg [dO 3 (.tk (kI 0))])
 (.seq (.seq (.reg [dO 4 (.tk (kI 0))])
 (.block 0 (l_flotsamref30_Sum_0))) r_flotsamref30_Sum_0))) }
def c_flotsamref30_Show : AFunc :=
 { np := 1, res := [.t 2, .t 3], body := (
 .seq (.reg [dO 1 (.box (.t 0)), dO 2 (.tk (kS [])), dO 3 (.tk kF)])
 (.seq (.seq (.reg [dO 5 (.ld (some 6) (.t 1)), dO 6 (.callc n_flotsamref30_Right [.t 5]), dO 7 (.notb (.t 6))])
 (.cond (.t 7)
 (.seq (.reg [dO 2 (.tk (kS [])), dO 3 (.tk kF)])
 (.ret))
 (.skip)))
 (.seq (.seq (.reg [dO 8 (.fa 0 (.t 1)), dO 9 (.ld none (.t 8))])
 (.block 0 (.seq (.reg [dO 11 (.ic .eql (.t 9) (kI 0)), dO 10 (.tk (.t 11))])
 (.cond (.t 10)
 (.seq (.reg [dO 2 (.tk (kS [115, 117, 114, 118, 105, 118, 101, 100])), dO 3 (.tk kT)])
 (.ret))
 (.seq (.reg [dO 13 (.ic .eql (.t 9) (kI 2)), dO 12 (.tk (.t 13))])
 (.cond (.t 12)
 (.seq (.reg [dO 14 (.fa 5 (.t 1)), dO 15 (.ld none (.t 14)), dO 16 (.callc n_flotsamref24_Err [.t 15]), dO 17 (.sop .add (kS [105, 110, 99, 111, 110, 99, 108, 117, 115, 105, 118, 101, 32]) (.t 16)), dO 2 (.tk (.t 17)), dO 3 (.tk kT)])
 (.ret))
 (.skip)))))))
 (.seq (.reg [dO 4 (.tk (kS [102, 97, 105, 108, 101, 100]))])
 (.seq (.seq (.reg [dO 18 (.fa 1 (.t 1)), dO 19 (.fa 2 (.t 18)), dO 20 (.ld none (.t 19)), dO 21 (.ic .eql (.t 20) (kI 2))])
 (.cond (.t 21)
 (.reg [dO 22 (.fa 1 (.t 1)), dO 23 (.fa 3 (.t 22)), dO 24 (.ld none (.t 23)), dO 25 (.callc n_flotsamref24_Err [.t 24]), dO 4 (.tk (.t 25))])
 (.skip)))
 (.seq (.drw [[], [], [], [], [], [], [], [], [], [], [], [], [], [], [], [], []] [dO 26 (.fa 1 (.t 1)), dO 27 (.fa 0 (.t 26)), dO 28 (.ld none (.t 27)), dO 29 (.callc n_r01_Digits [.t 28]), dO 30 (.sop .add (kS [107, 105, 108, 108, 101, 100, 32]) (.t 29)), dO 31 (.sop .add (.t 30) (kS [32])), dO 32 (.fa 1 (.t 1)), dO 33 (.fa 1 (.t 32)), dO 34 (.ld none (.t 33)), dO 35 (.conv .i64 (.t 34)), dO 36 (.callc n_r01_Digits [.t 35]), dO 37 (.sop .add (.t 31) (.t 36)), dO 38 (.sop .add (.t 37) (kS [32])), dO 39 (.mv (.t 4)), dO 40 (.sop .add (.t 38) (.t 39)), dO 2 (.tk (.t 40)), dO 3 (.tk kT)])
 (.ret))))))) }
def b_r25_may_0 : AC :=
 .seq (.seq (.reg [dO 12 (.mv (.t 3)), dO 13 (.ic .lss (.t 12) (kI 8))])
 (.cond (.t 13)
 (.skip)
 (.exit 0)))
 (.seq (.block 1 (.seq (.reg [dO 16 (.mv (.t 3)), dO 17 (.fa 2 (.t 1)), dO 18 (.ixa 1 (some 8) (.t 17) (.t 16)), dO 19 (.ld none (.t 18)), dO 20 (.ic .lss (.t 19) (kI 0)), dO 21 (.mv (.t 20)), ⟨some 22, (some (21, false)), .mv (.t 3)⟩, ⟨some 23, (some (21, false)), .fa 10 (.t 1)⟩, ⟨some 24, (some (21, false)), .ld none (.t 23)⟩, ⟨some 25, (some (21, false)), .ic .geq (.t 22) (.t 24)⟩, ⟨some 26, (some (21, false)), .mv (.t 25)⟩, ⟨some 27, (some (26, true)), .mv (.t 3)⟩, ⟨some 28, (some (26, true)), .fa 2 (.t 1)⟩, ⟨some 29, (some (26, true)), .ixa 1 (some 8) (.t 28) (.t 27)⟩, ⟨some 30, (some (26, true)), .ld none (.t 29)⟩, ⟨some 31, (some (26, true)), .ic .neq (.t 30) (kI 0)⟩, ⟨some 32, (some (21, false)), .pick (.t 26) (.t 31) kF⟩, dO 33 (.pick (.t 21) kT (.t 32))])
 (.cond (.t 33)
 (.seq (.reg [dO 2 (.tk kF)])
 (.ret))
 (.skip))))
 (.reg [dO 14 (.mv (.t 3)), dO 15 (.ia .add .i64 (.t 14) (kI 1)), dO 3 (.tk (.t 15))]))
def l_r25_may_0 : AC :=
 .loop [1, 3] b_r25_may_0
def r_r25_may_0 : AC :=
 .seq (.reg [dO 2 (.tk kT)])
 (.ret)
def c_r25_may : AFunc :=
 { np := 1, res := [.t 2], body := (
 .seq (.reg [dO 1 (.box (.t 0)), dO 2 (.tk kF)])
 (.seq (.seq (.reg [dO 4 (.fa 10 (.t 1)), dO 5 (.ld none (.t 4)), dO 6 (.ic .lss (.t 5) (kI 1)), dO 7 (.mv (.t 6)), ⟨some 8, (some (7, false)), .fa 10 (.t 1)⟩, ⟨some 9, (some (7, false)), .ld none (.t 8)⟩, ⟨some 10, (some (7, false)), .ic .gtr (.t 9) (kI 8)⟩, dO 11 (.pick (.t 7) kT (.t 10))])
 (.cond (.t 11)
 (.seq (.reg [dO 2 (.tk kF)])
 (.ret))
 (.skip)))
 (.seq (.seq (.reg [dO 3 (.tk (kI 0))])
 (.block 0 (l_r25_may_0))) r_r25_may_0))) }
def c_r25_Word : AFunc :=
 { np := 1, res := [.t 2], body := (
 .seq (.reg [dO 2 (.tk (kS []))])
 (.seq (.reg [dO 4 (.bsl 1 [.str []] 8 [(0, 1, kS [100, 114, 111, 112, 45, 115, 121, 110, 99]), (1, 1, kS [119, 101, 97, 107, 45, 115, 121, 110, 99]), (2, 1, kS [100, 114, 111, 112, 45, 100, 105, 114]), (3, 1, kS [100, 114, 111, 112, 45, 98, 97, 114, 114, 105, 101, 114]), (4, 1, kS [115, 119, 97, 112]), (5, 1, kS [110, 111, 45, 99, 111, 109, 109, 105, 116]), (6, 1, kS [116, 101, 97, 114]), (7, 1, kS [100, 114, 111, 112, 45, 119, 114, 105, 116, 101])] false), dO 3 (.tk (.t 4))])
 (.seq (.seq (.reg [dO 5 (.mv (.t 0)), dO 6 (.ic .lss (.t 5) (kI 1)), dO 7 (.mv (.t 6)), ⟨some 8, (some (7, false)), .mv (.t 0)⟩, ⟨some 9, (some (7, false)), .mv (.t 3)⟩, ⟨some 10, (some (7, false)), .len false (.t 9)⟩, ⟨some 11, (some (7, false)), .ic .gtr (.t 8) (.t 10)⟩, dO 12 (.pick (.t 7) kT (.t 11))])
 (.cond (.t 12)
 (.seq (.reg [dO 2 (.tk (kS [63]))])
 (.ret))
 (.skip)))
 (.seq (.reg [dO 13 (.mv (.t 3)), dO 14 (.mv (.t 0)), dO 15 (.ia .sub .i64 (.t 14) (kI 1)), dO 16 (.ixa 1 none (.t 13) (.t 15)), dO 17 (.ld none (.t 16)), dO 2 (.tk (.t 17))])
 (.ret))))) }
def c_r01_Digits : AFunc :=
 { np := 1, res := [.t 2], body := (
 .seq (.reg [dO 2 (.tk (kS []))])
 (.seq (.seq (.reg [dO 3 (.mv (.t 0)), dO 4 (.ic .gtr (.t 3) (kI (-10))), dO 5 (.mv (.t 4)), ⟨some 6, (some (5, true)), .mv (.t 0)⟩, ⟨some 7, (some (5, true)), .ic .lss (.t 6) (kI 0)⟩, dO 8 (.pick (.t 5) (.t 7) kF)])
 (.cond (.t 8)
 (.seq (.reg [dO 9 (.mv (.t 0)), dO 10 (.ia .sub .i64 (kI 48) (.t 9)), dO 11 (.conv .u8 (.t 10)), dO 12 (.bsl 1 [.int .u8 0] 1 [(0, 1, .t 11)] false), dO 13 (.b2s (.t 12)), dO 14 (.sop .add (kS [45]) (.t 13)), dO 2 (.tk (.t 14))])
 (.ret))
 (.skip)))
 (.seq (.seq (.reg [dO 15 (.mv (.t 0)), dO 16 (.ic .lss (.t 15) (kI 0))])
 (.cond (.t 16)
 (.seq (.drw [[], [], [], [], [], [], [], [], [], [], []] [dO 17 (.mv (.t 0)), dO 18 (.ia .quo .i64 (.t 17) (kI 10)), dO 19 (.callc n_r01_Digits [.t 18]), dO 20 (.mv (.t 0)), dO 21 (.ia .rem .i64 (.t 20) (kI 10)), dO 22 (.ia .sub .i64 (kI 48) (.t 21)), dO 23 (.conv .u8 (.t 22)), dO 24 (.bsl 1 [.int .u8 0] 1 [(0, 1, .t 23)] false), dO 25 (.b2s (.t 24)), dO 26 (.sop .add (.t 19) (.t 25)), dO 2 (.tk (.t 26))])
 (.ret))
 (.skip)))
 (.seq (.seq (.reg [dO 27 (.mv (.t 0)), dO 28 (.ic .gtr (.t 27) (kI 9))])
 (.cond (.t 28)
 (.seq (.drw [[], [], [], [], [], [], [], [], [], [], []] [dO 29 (.mv (.t 0)), dO 30 (.ia .quo .i64 (.t 29) (kI 10)), dO 31 (.callc n_r01_Digits [.t 30]), dO 32 (.mv (.t 0)), dO 33 (.ia .rem .i64 (.t 32) (kI 10)), dO 34 (.ia .add .i64 (kI 48) (.t 33)), dO 35 (.conv .u8 (.t 34)), dO 36 (.bsl 1 [.int .u8 0] 1 [(0, 1, .t 35)] false), dO 37 (.b2s (.t 36)), dO 38 (.sop .add (.t 31) (.t 37)), dO 2 (.tk (.t 38))])
 (.ret))
 (.skip)))
 (.seq (.reg [dO 39 (.mv (.t 0)), dO 40 (.ia .add .i64 (kI 48) (.t 39)), dO 41 (.conv .u8 (.t 40)), dO 42 (.bsl 1 [.int .u8 0] 1 [(0, 1, .t 41)] false), dO 43 (.b2s (.t 42)), dO 2 (.tk (.t 43))])
 (.ret)))))) }
def b_flotsamref32_Score_0 : AC :=
 .seq (.seq (.reg [dO 15 (.mv (.t 7)), dO 16 (.fa 3 (.t 1)), dO 17 (.ld none (.t 16)), dO 18 (.mv (.t 6)), dO 19 (.ixa 1 none (.t 17) (.t 18)), dO 20 (.ld none (.t 19)), dO 21 (.len false (.t 20)), dO 22 (.ic .lss (.t 15) (.t 21))])
 (.cond (.t 22)
 (.skip)
 (.exit 2)))
 (.seq (.block 3 (.seq (.seq (.reg [dO 25 (.fa 3 (.t 1)), dO 26 (.ld none (.t 25)), dO 27 (.mv (.t 6)), dO 28 (.ixa 1 none (.t 26) (.t 27)), dO 29 (.ld none (.t 28)), dO 30 (.mv (.t 7)), dO 31 (.ixa 6 none (.t 29) (.t 30)), dO 32 (.fa 0 (.t 31)), dO 33 (.ld none (.t 32)), dO 34 (.ic .eql (.t 33) (kI 1))])
 (.cond (.t 34)
 (.reg [dO 35 (.mv (.t 4)), dO 36 (.ia .add .i64 (.t 35) (kI 1)), dO 4 (.tk (.t 36))])
 (.skip)))
 (.seq (.reg [dO 37 (.fa 3 (.t 1)), dO 38 (.ld none (.t 37)), dO 39 (.mv (.t 6)), dO 40 (.ixa 1 none (.t 38) (.t 39)), dO 41 (.ld none (.t 40)), dO 42 (.mv (.t 7)), dO 43 (.ixa 6 none (.t 41) (.t 42)), dO 44 (.fa 0 (.t 43)), dO 45 (.ld none (.t 44)), dO 46 (.ic .eql (.t 45) (kI 1)), dO 47 (.mv (.t 46)), ⟨some 48, (some (47, false)), .fa 3 (.t 1)⟩, ⟨some 49, (some (47, false)), .ld none (.t 48)⟩, ⟨some 50, (some (47, false)), .mv (.t 6)⟩, ⟨some 51, (some (47, false)), .ixa 1 none (.t 49) (.t 50)⟩, ⟨some 52, (some (47, false)), .ld none (.t 51)⟩, ⟨some 53, (some (47, false)), .mv (.t 7)⟩, ⟨some 54, (some (47, false)), .ixa 6 none (.t 52) (.t 53)⟩, ⟨some 55, (some (47, false)), .fa 0 (.t 54)⟩, ⟨some 56, (some (47, false)), .ld none (.t 55)⟩, ⟨some 57, (some (47, false)), .ic .eql (.t 56) (kI 0)⟩, dO 58 (.pick (.t 47) kT (.t 57))])
 (.cond (.t 58)
 (.reg [dO 59 (.mv (.t 5)), dO 60 (.ia .add .i64 (.t 59) (kI 1)), dO 5 (.tk (.t 60))])
 (.skip)))))
 (.reg [dO 23 (.mv (.t 7)), dO 24 (.ia .add .i64 (.t 23) (kI 1)), dO 7 (.tk (.t 24))]))
def l_flotsamref32_Score_0 : AC :=
 .loop [1, 4, 5, 6, 7] b_flotsamref32_Score_0
def r_flotsamref32_Score_0 : AC :=
 .reg [dO 13 (.mv (.t 6)), dO 14 (.ia .add .i64 (.t 13) (kI 1)), dO 6 (.tk (.t 14))]
def b_flotsamref32_Score_1 : AC :=
 .seq (.seq (.reg [dO 8 (.mv (.t 6)), dO 9 (.fa 3 (.t 1)), dO 10 (.ld none (.t 9)), dO 11 (.len false (.t 10)), dO 12 (.ic .lss (.t 8) (.t 11))])
 (.cond (.t 12)
 (.skip)
 (.exit 0)))
 (.seq (.block 1 (.seq (.reg [dO 7 (.tk (kI 0))])
 (.block 2 (l_flotsamref32_Score_0)))) r_flotsamref32_Score_0)
def l_flotsamref32_Score_1 : AC :=
 .loop [1, 4, 5, 6] b_flotsamref32_Score_1
def r_flotsamref32_Score_1 : AC :=
 .seq (.reg [dO 61 (.mv (.t 4)), dO 62 (.mv (.t 5)), dO 2 (.tk (.t 61)), dO 3 (.tk (.t 62))])
 (.ret)
def c_flotsamref32_Score : AFunc :=
 { np := 1, res := [.t 2, .t 3], body := (
 .seq (.reg [dO 1 (.box (.t 0)), dO 2 (.tk (kI 0)), dO 3 (.tk (kI 0))])
 (.seq (.reg [dO 4 (.tk (kI 0)), dO 5 (.tk (kI 0))])
 (.seq (.seq (.reg [dO 6 (.tk (kI 0))])
 (.block 0 (l_flotsamref32_Score_1))) r_flotsamref32_Score_1))) }
def c_strings_CutPrefix : AFunc :=
 { np := 2, res := [.t 4, .t 5], body := (
 .seq (.reg [dO 4 (.tk (kS [])), dO 5 (.tk kF)])
 (.seq (.reg [dO 6 (.mv (.t 0)), dO 7 (.mv (.t 1)), dO 8 (.callc n_isl_CutPrefix [.t 6, .t 7]), dO 9 (.ext (.t 8) 0), dO 10 (.ext (.t 8) 1), dO 4 (.tk (.t 9)), dO 5 (.tk (.t 10))])
 (.ret))) }
def b_r01_Read_0 : AC :=
 .seq (.seq (.reg [dO 24 (.mv (.t 5)), dO 25 (.mv (.t 0)), dO 26 (.len true (.t 25)), dO 27 (.ic .lss (.t 24) (.t 26))])
 (.cond (.t 27)
 (.skip)
 (.exit 0)))
 (.seq (.block 1 (.seq (.seq (.reg [dO 30 (.mv (.t 0)), dO 31 (.mv (.t 5)), dO 32 (.ixs (.t 30) (.t 31)), dO 33 (.ic .lss (.t 32) (.c (.int .u8 48))), dO 34 (.mv (.t 33)), ⟨some 35, (some (34, false)), .mv (.t 0)⟩, ⟨some 36, (some (34, false)), .mv (.t 5)⟩, ⟨some 37, (some (34, false)), .ixs (.t 35) (.t 36)⟩, ⟨some 38, (some (34, false)), .ic .gtr (.t 37) (.c (.int .u8 57))⟩, dO 39 (.pick (.t 34) kT (.t 38))])
 (.cond (.t 39)
 (.seq (.reg [dO 2 (.tk (kI 0)), dO 3 (.tk kF)])
 (.ret))
 (.skip)))
 (.reg [dO 40 (.mv (.t 4)), dO 41 (.ia .mul .i64 (kI 10) (.t 40)), dO 42 (.mv (.t 0)), dO 43 (.mv (.t 5)), dO 44 (.ixs (.t 42) (.t 43)), dO 45 (.ia .sub .u8 (.t 44) (.c (.int .u8 48))), dO 46 (.conv .i64 (.t 45)), dO 47 (.ia .add .i64 (.t 41) (.t 46)), dO 4 (.tk (.t 47))])))
 (.reg [dO 28 (.mv (.t 5)), dO 29 (.ia .add .i64 (.t 28) (kI 1)), dO 5 (.tk (.t 29))]))
def l_r01_Read_0 : AC :=
 .loop [0, 4, 5] b_r01_Read_0
def r_r01_Read_0 : AC :=
 .seq (.seq (.reg [dO 48 (.mv (.t 4)), dO 49 (.ic .gtr (.t 48) (kI 1000000000000))])
 (.cond (.t 49)
 (.seq (.reg [dO 2 (.tk (kI 0)), dO 3 (.tk kF)])
 (.ret))
 (.skip)))
 (.seq (.reg [dO 50 (.mv (.t 4)), dO 2 (.tk (.t 50)), dO 3 (.tk kT)])
 (.ret))
def c_r01_Read : AFunc :=
 { np := 1, res := [.t 2, .t 3], body := (
 .seq (.reg [dO 2 (.tk (kI 0)), dO 3 (.tk kF)])
 (.seq (.seq (.reg [dO 6 (.mv (.t 0)), dO 7 (.len true (.t 6)), dO 8 (.ic .lss (.t 7) (kI 1)), dO 9 (.mv (.t 8)), ⟨some 10, (some (9, false)), .mv (.t 0)⟩, ⟨some 11, (some (9, false)), .len true (.t 10)⟩, ⟨some 12, (some (9, false)), .ic .gtr (.t 11) (kI 13)⟩, dO 13 (.pick (.t 9) kT (.t 12)), dO 14 (.mv (.t 13)), ⟨some 15, (some (14, false)), .mv (.t 0)⟩, ⟨some 16, (some (14, false)), .len true (.t 15)⟩, ⟨some 17, (some (14, false)), .ic .gtr (.t 16) (kI 1)⟩, ⟨some 18, (some (14, false)), .mv (.t 17)⟩, ⟨some 19, (some (18, true)), .mv (.t 0)⟩, ⟨some 20, (some (18, true)), .ixs (.t 19) (kI 0)⟩, ⟨some 21, (some (18, true)), .ic .eql (.t 20) (.c (.int .u8 48))⟩, ⟨some 22, (some (14, false)), .pick (.t 18) (.t 21) kF⟩, dO 23 (.pick (.t 14) kT (.t 22))])
 (.cond (.t 23)
 (.seq (.reg [dO 2 (.tk (kI 0)), dO 3 (.tk kF)])
 (.ret))
 (.skip)))
 (.seq (.reg [dO 4 (.tk (kI 0))])
 (.seq (.seq (.reg [dO 5 (.tk (kI 0))])
 (.block 0 (l_r01_Read_0))) r_r01_Read_0)))) }
def b_flotsamref30_Words_0 : AC :=
 .seq (.seq (.reg [dO 6 (.mv (.t 5)), dO 7 (.mv (.t 0)), dO 8 (.len true (.t 7)), dO 9 (.ic .leq (.t 6) (.t 8))])
 (.cond (.t 9)
 (.skip)
 (.exit 0)))
 (.seq (.block 1 (.seq (.reg [dO 12 (.mv (.t 5)), dO 13 (.mv (.t 0)), dO 14 (.len true (.t 13)), dO 15 (.ic .eql (.t 12) (.t 14)), dO 16 (.mv (.t 15)), ⟨some 17, (some (16, false)), .mv (.t 0)⟩, ⟨some 18, (some (16, false)), .mv (.t 5)⟩, ⟨some 19, (some (16, false)), .ixs (.t 17) (.t 18)⟩, ⟨some 20, (some (16, false)), .ic .eql (.t 19) (.c (.int .u8 32))⟩, dO 21 (.pick (.t 16) kT (.t 20))])
 (.cond (.t 21)
 (.seq (.reg [dO 22 (.tk (.t 3)), dO 23 (.mv (.t 0)), dO 24 (.mv (.t 4)), dO 25 (.mv (.t 5)), dO 26 (.slc (.t 23) (some (.t 24)) (some (.t 25))), dO 27 (.bsl 1 [.str []] 1 [(0, 1, .t 26)] false), dO 28 (.app 1 16 (.t 22) (.t 27) false), dO 3 (.tk (.t 28))])
 (.reg [dO 29 (.mv (.t 5)), dO 30 (.ia .add .i64 (.t 29) (kI 1)), dO 4 (.tk (.t 30))]))
 (.skip))))
 (.reg [dO 10 (.mv (.t 5)), dO 11 (.ia .add .i64 (.t 10) (kI 1)), dO 5 (.tk (.t 11))]))
def l_flotsamref30_Words_0 : AC :=
 .loop [0, 3, 4, 5] b_flotsamref30_Words_0
def r_flotsamref30_Words_0 : AC :=
 .seq (.reg [dO 31 (.tk (.t 3)), dO 2 (.tk (.t 31))])
 (.ret)
def c_flotsamref30_Words : AFunc :=
 { np := 1, res := [.t 2], body := (
 .seq (.reg [dO 2 (.tk (.c (.own 1 [])))])
 (.seq (.reg [dO 3 (.tk (.c (.own 1 [])))])
 (.seq (.reg [dO 4 (.tk (kI 0))])
 (.seq (.seq (.reg [dO 5 (.tk (kI 0))])
 (.block 0 (l_flotsamref30_Words_0))) r_flotsamref30_Words_0)))) }
def b_flotsamref30_ErrOf_0 : AC :=
 .seq (.seq (.reg [dO 4 (.mv (.t 3)), dO 5 (.ic .lss (.t 4) (kI 16)), dO 6 (.mv (.t 5)), ⟨some 7, (some (6, true)), .mv (.t 3)⟩, ⟨some 8, (some (6, true)), .callc n_flotsamref24_Err [.t 7]⟩, ⟨some 9, (some (6, true)), .mv (.t 0)⟩, ⟨some 10, (some (6, true)), .sop .neq (.t 8) (.t 9)⟩, dO 11 (.pick (.t 6) (.t 10) kF)])
 (.cond (.t 11)
 (.skip)
 (.exit 0)))
 (.block 1 (.reg [dO 12 (.mv (.t 3)), dO 13 (.ia .add .i64 (.t 12) (kI 1)), dO 3 (.tk (.t 13))]))
def l_flotsamref30_ErrOf_0 : AC :=
 .loop [0, 3] b_flotsamref30_ErrOf_0
def r_flotsamref30_ErrOf_0 : AC :=
 .seq (.reg [dO 14 (.mv (.t 3)), dO 2 (.tk (.t 14))])
 (.ret)
def c_flotsamref30_ErrOf : AFunc :=
 { np := 1, res := [.t 2], body := (
 .seq (.reg [dO 2 (.tk (kI 0))])
 (.seq (.reg [dO 3 (.tk (kI 0))])
 (.seq (.block 0 (l_flotsamref30_ErrOf_0)) r_flotsamref30_ErrOf_0))) }
def c_score_Mutants_1 : AFunc :=
 { np := 2, res := [.t 3], body := (
 .seq (.reg [dO 2 (.box (.t 0)), dO 3 (.tk (kI 0))])
 (.seq (.reg [dO 4 (.fa 3 (.t 1)), dO 5 (.ld none (.t 4)), dO 6 (.mkf (.func n_score_Mutants_1_1) [] [.t 2]), dO 7 (.call n_score_count_api_Cell_x [.t 5, .t 6]), dO 3 (.tk (.t 7))])
 (.ret))) }
def b_score_count_api_Cell_x_0 : AC :=
 .seq (.reg [dO 11 (.ic .lss (.t 10) (.t 9))])
 (.seq (.cond (.t 11)
 (.skip)
 (.exit 0))
 (.seq (.block 1 (.seq (.reg [dO 12 (.ixa 1 none (.t 8) (.t 10)), dO 13 (.ld none (.t 12)), dO 7 (.tk (.t 13))])
 (.seq (.reg [dO 14 (.mv (.t 1)), dO 15 (.mv (.t 7)), dO 16 (.callv (.t 14) [.t 15])])
 (.cond (.t 16)
 (.reg [dO 17 (.mv (.t 5)), dO 18 (.ia .add .i64 (.t 17) (kI 1)), dO 5 (.tk (.t 18))])
 (.skip)))))
 (.reg [dO 19 (.ia .add .i64 (.t 10) (kI 1)), dO 10 (.mv (.t 19))])))
def l_score_count_api_Cell_x_0 : AC :=
 .loop [1, 5, 8, 9, 10] b_score_count_api_Cell_x_0
def r_score_count_api_Cell_x_0 : AC :=
 .seq (.reg [dO 20 (.mv (.t 5)), dO 4 (.tk (.t 20))])
 (.ret)
def c_score_count_api_Cell_x : AFunc :=
 { np := 2, res := [.t 4], body := (
 .seq (.reg [dO 4 (.tk (kI 0))])
 (.seq (.reg [dO 5 (.tk (kI 0))])
 (.seq (.seq (.reg [dO 8 (.mv (.t 0)), dO 9 (.len false (.t 8)), dO 10 (.mv (kI 0))])
 (.block 0 (l_score_count_api_Cell_x_0))) r_score_count_api_Cell_x_0))) }
def c_score_Mutants_1_1 : AFunc :=
 { np := 2, res := [.t 3], body := (
 .seq (.reg [dO 3 (.tk kF)])
 (.seq (.drw [[], [], [], [], []] [dO 4 (.mv (.t 0)), dO 5 (.callc n_cell_Sum [.t 4]), dO 6 (.ld none (.t 1)), dO 7 (.ic .eql (.t 5) (.t 6)), dO 3 (.tk (.t 7))])
 (.ret))) }
def b_num_Digits_0 : AC :=
 .block 1 (.seq (.reg [dO 12 (.mv (.t 4)), dO 13 (.ia .sub .i64 (.t 12) (kI 1)), dO 4 (.tk (.t 13))])
 (.seq (.reg [dO 14 (.mv (.t 4)), dO 15 (.mv (.t 5)), dO 16 (.ia .rem .u64 (.t 15) (.c (.int .u64 10))), dO 17 (.ia .add .u64 (.c (.int .u64 48)) (.t 16)), dO 18 (.conv .u8 (.t 17)), dO 19 (.ixa 1 (some 20) (.t 3) (.t 14)), ⟨none, none, .st 1 (.t 19) (.t 18)⟩])
 (.seq (.reg [dO 20 (.mv (.t 5)), dO 21 (.ia .quo .u64 (.t 20) (.c (.int .u64 10))), dO 5 (.tk (.t 21))])
 (.seq (.reg [dO 22 (.mv (.t 5)), dO 23 (.ic .eql (.t 22) (.c (.int .u64 0)))])
 (.cond (.t 23)
 (.exit 0)
 (.skip))))))
def l_num_Digits_0 : AC :=
 .loop [0, 3, 4, 5] b_num_Digits_0
def r_num_Digits_0 : AC :=
 .seq (.seq (.reg [dO 24 (.mv (.t 0)), dO 25 (.ic .lss (.t 24) (kI 0))])
 (.cond (.t 25)
 (.seq (.reg [dO 26 (.mv (.t 4)), dO 27 (.ia .sub .i64 (.t 26) (kI 1)), dO 4 (.tk (.t 27))])
 (.reg [dO 28 (.mv (.t 4)), dO 29 (.ixa 1 (some 20) (.t 3) (.t 28)), ⟨none, none, .st 1 (.t 29) (.c (.int .u8 45))⟩]))
 (.skip)))
 (.seq (.reg [dO 30 (.mv (.t 4)), dO 31 (.slp 1 20 (.t 3) (some (.t 30)) none none), dO 32 (.b2s (.t 31)), dO 2 (.tk (.t 32))])
 (.ret))
def c_num_Digits : AFunc :=
 { np := 1, res := [.t 2], body := (
 .seq (.reg [dO 2 (.tk (kS []))])
 (.seq (.reg [dO 3 (.alloc [.int .u8 0, .int .u8 0, .int .u8 0, .int .u8 0, .int .u8 0, .int .u8 0, .int .u8 0, .int .u8 0, .int .u8 0, .int .u8 0, .int .u8 0, .int .u8 0, .int .u8 0, .int .u8 0, .int .u8 0, .int .u8 0, .int .u8 0, .int .u8 0, .int .u8 0, .int .u8 0])])
 (.seq (.reg [dO 4 (.tk (kI 20))])
 (.seq (.reg [dO 6 (.mv (.t 0)), dO 7 (.conv .u64 (.t 6)), dO 5 (.tk (.t 7))])
 (.seq (.seq (.reg [dO 8 (.mv (.t 0)), dO 9 (.ic .lss (.t 8) (kI 0))])
 (.cond (.t 9)
 (.reg [dO 10 (.mv (.t 5)), dO 11 (.neg .u64 (.t 10)), dO 5 (.tk (.t 11))])
 (.skip)))
 (.seq (.block 0 (l_num_Digits_0)) r_num_Digits_0)))))) }
def b_score_Score_0 : AC :=
 .seq (.reg [dO 13 (.ic .lss (.t 12) (.t 11))])
 (.seq (.cond (.t 13)
 (.skip)
 (.exit 0))
 (.seq (.block 1 (.seq (.reg [dO 14 (.ixa 1 none (.t 10) (.t 12)), dO 15 (.ld none (.t 14)), dO 7 (.tk (.t 15))])
 (.seq (.reg [dO 16 (.mv (.t 7)), dO 17 (.call n_score_says [kI 1]), dO 18 (.call n_score_count_api_Cell [.t 16, .t 17]), dO 8 (.tk (.t 18))])
 (.seq (.reg [dO 19 (.mv (.t 4)), dO 20 (.mv (.t 8)), dO 21 (.ia .add .i64 (.t 19) (.t 20)), dO 4 (.tk (.t 21))])
 (.reg [dO 22 (.mv (.t 5)), dO 23 (.mv (.t 8)), dO 24 (.mv (.t 7)), dO 25 (.call n_score_says [kI 0]), dO 26 (.call n_score_count_api_Cell [.t 24, .t 25]), dO 27 (.ia .add .i64 (.t 23) (.t 26)), dO 28 (.ia .add .i64 (.t 22) (.t 27)), dO 5 (.tk (.t 28))])))))
 (.reg [dO 29 (.ia .add .i64 (.t 12) (kI 1)), dO 12 (.mv (.t 29))])))
def l_score_Score_0 : AC :=
 .loop [4, 5, 10, 11, 12] b_score_Score_0
def r_score_Score_0 : AC :=
 .seq (.reg [dO 30 (.mv (.t 4)), dO 31 (.mv (.t 5)), dO 2 (.tk (.t 30)), dO 3 (.tk (.t 31))])
 (.ret)
def c_score_Score : AFunc :=
 { np := 1, res := [.t 2, .t 3], body := (
 .seq (.reg [dO 1 (.box (.t 0)), dO 2 (.tk (kI 0)), dO 3 (.tk (kI 0))])
 (.seq (.reg [dO 4 (.tk (kI 0)), dO 5 (.tk (kI 0))])
 (.seq (.seq (.reg [dO 9 (.fa 3 (.t 1)), dO 10 (.ld none (.t 9)), dO 11 (.len false (.t 10)), dO 12 (.mv (kI 0))])
 (.block 0 (l_score_Score_0))) r_score_Score_0))) }
def c_score_odd_1 : AFunc :=
 { np := 2, res := [.t 3], body := (
 .seq (.reg [dO 3 (.tk kF)])
 (.seq (.drw [[], [], [], [], [], [], [], [], [], [], []] [dO 4 (.mv (.t 0)), dO 5 (.len false (.t 4)), dO 6 (.ld none (.t 1)), dO 7 (.ic .neq (.t 5) (.t 6)), dO 8 (.mv (.t 7)), ⟨some 9, (some (8, false)), .mv (.t 0)⟩, ⟨some 10, (some (8, false)), .callc n_score_count_api_Cell [.t 9, (.c (.fn (.func n_cell_Right) [] []))]⟩, ⟨some 11, (some (8, false)), .ld none (.t 1)⟩, ⟨some 12, (some (8, false)), .ic .neq (.t 10) (.t 11)⟩, dO 13 (.pick (.t 8) kT (.t 12)), dO 3 (.tk (.t 13))])
 (.ret))) }
def b_score_count_api_Cell_0 : AC :=
 .seq (.reg [dO 11 (.ic .lss (.t 10) (.t 9))])
 (.seq (.cond (.t 11)
 (.skip)
 (.exit 0))
 (.seq (.block 1 (.seq (.reg [dO 12 (.ixa 6 none (.t 8) (.t 10)), dO 13 (.ld (some 6) (.t 12)), dO 7 (.alloc [iZ, iZ, .int .u64 0, iZ, iZ, iZ]), ⟨none, none, .st 6 (.t 7) (.t 13)⟩])
 (.seq (.reg [dO 14 (.mv (.t 1)), dO 15 (.ld (some 6) (.t 7)), dO 16 (.callv (.t 14) [.t 15])])
 (.cond (.t 16)
 (.reg [dO 17 (.mv (.t 5)), dO 18 (.ia .add .i64 (.t 17) (kI 1)), dO 5 (.tk (.t 18))])
 (.skip)))))
 (.reg [dO 19 (.ia .add .i64 (.t 10) (kI 1)), dO 10 (.mv (.t 19))])))
def l_score_count_api_Cell_0 : AC :=
 .loop [1, 5, 8, 9, 10] b_score_count_api_Cell_0
def r_score_count_api_Cell_0 : AC :=
 .seq (.reg [dO 20 (.mv (.t 5)), dO 4 (.tk (.t 20))])
 (.ret)
def c_score_count_api_Cell : AFunc :=
 { np := 2, res := [.t 4], body := (
 .seq (.reg [dO 4 (.tk (kI 0))])
 (.seq (.reg [dO 5 (.tk (kI 0))])
 (.seq (.seq (.reg [dO 8 (.mv (.t 0)), dO 9 (.len false (.t 8)), dO 10 (.mv (kI 0))])
 (.block 0 (l_score_count_api_Cell_0))) r_score_count_api_Cell_0))) }
def c_cell_Right : AFunc :=
 { np := 1, res := [.t 2], body := (
 .seq (.reg [dO 1 (.box (.t 0)), dO 2 (.tk kF)])
 (.seq (.seq (.reg [dO 3 (.fa 0 (.t 1)), dO 4 (.ld none (.t 3))])
 (.block 0 (.seq (.reg [dO 6 (.ic .eql (.t 4) (kI 1)), dO 5 (.tk (.t 6))])
 (.cond (.t 5)
 (.seq (.reg [dO 7 (.fa 5 (.t 1)), dO 8 (.ld none (.t 7)), dO 9 (.ic .eql (.t 8) (kI 0)), dO 10 (.mv (.t 9)), ⟨some 11, (some (10, true)), .fa 1 (.t 1)⟩, ⟨some 12, (some (10, true)), .ld (some 4) (.t 11)⟩, ⟨some 13, (some (10, true)), .callc n_cell_witness [.t 12]⟩, dO 14 (.pick (.t 10) (.t 13) kF), dO 2 (.tk (.t 14))])
 (.ret))
 (.seq (.reg [dO 16 (.ic .eql (.t 4) (kI 2)), dO 15 (.tk (.t 16))])
 (.cond (.t 15)
 (.seq (.reg [dO 17 (.fa 1 (.t 1)), dO 18 (.ld (some 4) (.t 17)), dO 19 (.bld [iZ, .int .u64 0, iZ, iZ] []), dO 20 (.eqa false [.int .i64, .int .u64, .int .i64, .int .i64] (.t 18) (.t 19)), dO 21 (.mv (.t 20)), ⟨some 22, (some (21, true)), .fa 5 (.t 1)⟩, ⟨some 23, (some (21, true)), .ld none (.t 22)⟩, ⟨some 24, (some (21, true)), .callc n_cell_limit [.t 23]⟩, dO 25 (.pick (.t 21) (.t 24) kF), dO 2 (.tk (.t 25))])
 (.ret))
 (.skip)))))))
 (.seq (.reg [dO 26 (.ld (some 6) (.t 1)), dO 27 (.bld [iZ, iZ, .int .u64 0, iZ, iZ, iZ] []), dO 28 (.eqa false [.int .i64, .int .i64, .int .u64, .int .i64, .int .i64, .int .i64] (.t 26) (.t 27)), dO 2 (.tk (.t 28))])
 (.ret)))) }
def b_sI_Cell_api_Cell_0 : AC :=
 .seq (.reg [dO 9 (.ic .lss (.t 8) (.t 7))])
 (.seq (.cond (.t 9)
 (.skip)
 (.exit 0))
 (.seq (.block 1 (.seq (.reg [dO 10 (.mv (.t 8)), dO 5 (.tk (.t 10))])
 (.seq (.reg [dO 11 (.mv (.t 1)), dO 12 (.mv (.t 0)), dO 13 (.mv (.t 5)), dO 14 (.ixa 1 none (.t 12) (.t 13)), dO 15 (.ld none (.t 14)), dO 16 (.callv (.t 11) [.t 15])])
 (.cond (.t 16)
 (.seq (.reg [dO 17 (.mv (.t 5)), dO 4 (.tk (.t 17))])
 (.ret))
 (.skip)))))
 (.reg [dO 18 (.ia .add .i64 (.t 8) (kI 1)), dO 8 (.mv (.t 18))])))
def l_sI_Cell_api_Cell_0 : AC :=
 .loop [0, 1, 7, 8] b_sI_Cell_api_Cell_0
def r_sI_Cell_api_Cell_0 : AC :=
 .seq (.reg [dO 4 (.tk (kI (-1)))])
 (.ret)
def c_sI_Cell_api_Cell : AFunc :=
 { np := 2, res := [.t 4], body := (
 .seq (.reg [dO 4 (.tk (kI 0))])
 (.seq (.seq (.reg [dO 6 (.mv (.t 0)), dO 7 (.len false (.t 6)), dO 8 (.mv (kI 0))])
 (.block 0 (l_sI_Cell_api_Cell_0))) r_sI_Cell_api_Cell_0)) }
def c_site_words : AFunc :=
 { np := 0, res := [.t 0], body := (
 .seq (.reg [dO 0 (.tk (.c (.own 1 [])))])
 (.seq (.reg [dO 1 (.callc n_strings_Fields [kS [63, 32, 100, 114, 111, 112, 45, 115, 121, 110, 99, 32, 119, 101, 97, 107, 45, 115, 121, 110, 99, 32, 100, 114, 111, 112, 45, 100, 105, 114, 32, 100, 114, 111, 112, 45, 98, 97, 114, 114, 105, 101, 114, 32, 115, 119, 97, 112, 32, 110, 111, 45, 99, 111, 109, 109, 105, 116, 32, 116, 101, 97, 114, 32, 100, 114, 111, 112, 45, 119, 114, 105, 116, 101]]), dO 0 (.tk (.t 1))])
 (.ret))) }
def b_site_may_0 : AC :=
 .seq (.reg [dO 17 (.ic .lss (.t 16) (kI 8))])
 (.seq (.cond (.t 17)
 (.skip)
 (.exit 0))
 (.seq (.block 1 (.seq (.reg [dO 18 (.ixv none 1 8 (.t 15) (.t 16)), dO 4 (.tk (.t 18))])
 (.seq (.reg [dO 19 (.mv (.t 4)), dO 20 (.ic .lss (.t 19) (kI 0))])
 (.cond (.t 20)
 (.seq (.reg [dO 2 (.tk kF)])
 (.ret))
 (.skip)))))
 (.reg [dO 21 (.ia .add .i64 (.t 16) (kI 1)), dO 16 (.mv (.t 21))])))
def l_site_may_0 : AC :=
 .loop [1, 15, 16] b_site_may_0
def r_site_may_0 : AC :=
 .seq (.reg [dO 22 (.ld (some 11) (.t 1)), dO 5 (.alloc [iZ, iZ, iZ, iZ, iZ, iZ, iZ, iZ, iZ, iZ, iZ]), ⟨none, none, .st 11 (.t 5) (.t 22)⟩])
 (.seq (.reg [dO 23 (.fa 2 (.t 5)), dO 24 (.fa 10 (.t 1)), dO 25 (.ld none (.t 24)), dO 26 (.slp 1 8 (.t 23) (some (.t 25)) none none), ⟨none, none, .clr 1 [iZ] (.t 26)⟩])
 (.seq (.reg [dO 27 (.fa 2 (.t 5)), dO 28 (.ld (some 8) (.t 27)), dO 29 (.fa 2 (.t 1)), dO 30 (.ld (some 8) (.t 29)), dO 31 (.eqa false [.int .i64, .int .i64, .int .i64, .int .i64, .int .i64, .int .i64, .int .i64, .int .i64] (.t 28) (.t 30)), dO 2 (.tk (.t 31))])
 (.ret)))
def c_site_may : AFunc :=
 { np := 1, res := [.t 2], body := (
 .seq (.reg [dO 1 (.box (.t 0)), dO 2 (.tk kF)])
 (.seq (.seq (.reg [dO 6 (.fa 10 (.t 1)), dO 7 (.ld none (.t 6)), dO 8 (.ic .lss (.t 7) (kI 1)), dO 9 (.mv (.t 8)), ⟨some 10, (some (9, false)), .fa 10 (.t 1)⟩, ⟨some 11, (some (9, false)), .ld none (.t 10)⟩, ⟨some 12, (some (9, false)), .ic .gtr (.t 11) (kI 8)⟩, dO 13 (.pick (.t 9) kT (.t 12))])
 (.cond (.t 13)
 (.seq (.reg [dO 2 (.tk kF)])
 (.ret))
 (.skip)))
 (.seq (.seq (.reg [dO 14 (.fa 2 (.t 1)), dO 15 (.ld (some 8) (.t 14)), dO 16 (.mv (kI 0))])
 (.block 0 (l_site_may_0))) r_site_may_0))) }
def c_site_Word : AFunc :=
 { np := 1, res := [.t 2], body := (
 .seq (.reg [dO 2 (.tk (kS []))])
 (.seq (.reg [dO 4 (.callc n_site_words []), dO 3 (.tk (.t 4))])
 (.seq (.seq (.reg [dO 5 (.mv (.t 0)), dO 6 (.ic .lss (.t 5) (kI 0)), dO 7 (.mv (.t 6)), ⟨some 8, (some (7, false)), .mv (.t 0)⟩, ⟨some 9, (some (7, false)), .mv (.t 3)⟩, ⟨some 10, (some (7, false)), .len false (.t 9)⟩, ⟨some 11, (some (7, false)), .ic .geq (.t 8) (.t 10)⟩, dO 12 (.pick (.t 7) kT (.t 11))])
 (.cond (.t 12)
 (.seq (.reg [dO 13 (.mv (.t 3)), dO 14 (.ixa 1 none (.t 13) (kI 0)), dO 15 (.ld none (.t 14)), dO 2 (.tk (.t 15))])
 (.ret))
 (.skip)))
 (.seq (.reg [dO 16 (.mv (.t 3)), dO 17 (.mv (.t 0)), dO 18 (.ixa 1 none (.t 16) (.t 17)), dO 19 (.ld none (.t 18)), dO 2 (.tk (.t 19))])
 (.ret))))) }
def b_slices_Index_api_Site_api_Site_0 : AC :=
 .seq (.reg [dO 9 (.ic .lss (.t 8) (.t 7))])
 (.seq (.cond (.t 9)
 (.skip)
 (.exit 0))
 (.seq (.block 1 (.seq (.reg [dO 10 (.mv (.t 8)), dO 5 (.tk (.t 10))])
 (.seq (.drw [[], [], [], [], [], []] [dO 11 (.ld (some 11) (.t 3)), dO 12 (.mv (.t 0)), dO 13 (.mv (.t 5)), dO 14 (.ixa 11 none (.t 12) (.t 13)), dO 15 (.ld (some 11) (.t 14)), dO 16 (.eqa false [.int .i64, .int .i64, .int .i64, .int .i64, .int .i64, .int .i64, .int .i64, .int .i64, .int .i64, .int .i64, .int .i64] (.t 11) (.t 15))])
 (.cond (.t 16)
 (.seq (.reg [dO 17 (.mv (.t 5)), dO 4 (.tk (.t 17))])
 (.ret))
 (.skip)))))
 (.reg [dO 18 (.ia .add .i64 (.t 8) (kI 1)), dO 8 (.mv (.t 18))])))
def l_slices_Index_api_Site_api_Site_0 : AC :=
 .loop [0, 3, 7, 8] b_slices_Index_api_Site_api_Site_0
def r_slices_Index_api_Site_api_Site_0 : AC :=
 .seq (.reg [dO 4 (.tk (kI (-1)))])
 (.ret)
def c_slices_Index_api_Site_api_Site : AFunc :=
 { np := 2, res := [.t 4], body := (
 .seq (.reg [dO 3 (.box (.t 1)), dO 4 (.tk (kI 0))])
 (.seq (.seq (.reg [dO 6 (.mv (.t 0)), dO 7 (.len false (.t 6)), dO 8 (.mv (kI 0))])
 (.block 0 (l_slices_Index_api_Site_api_Site_0))) r_slices_Index_api_Site_api_Site_0)) }
def c_cell_head : AFunc :=
 { np := 1, res := [.t 2], body := (
 .seq (.reg [dO 2 (.tk (kS []))])
 (.seq (.seq (.reg [dO 3 (.mv (.t 0))])
 (.block 0 (.seq (.reg [dO 5 (.ic .eql (.t 3) (kI 1)), dO 4 (.tk (.t 5))])
 (.cond (.t 4)
 (.seq (.reg [dO 2 (.tk (kS [107, 105, 108, 108, 101, 100]))])
 (.ret))
 (.seq (.reg [dO 7 (.ic .eql (.t 3) (kI 2)), dO 6 (.tk (.t 7))])
 (.cond (.t 6)
 (.seq (.reg [dO 2 (.tk (kS [105, 110, 99, 111, 110, 99, 108, 117, 115, 105, 118, 101]))])
 (.ret))
 (.skip)))))))
 (.seq (.reg [dO 2 (.tk (kS [115, 117, 114, 118, 105, 118, 101, 100]))])
 (.ret)))) }
def c_trace_Err : AFunc :=
 { np := 1, res := [.t 2], body := (
 .seq (.reg [dO 2 (.tk (kS []))])
 (.seq (.reg [dO 4 (.bld [.str [], .str [], .str [], .str [], .str [], .str [], .str [], .str [], .str [], .str [], .str [], .str [], .str [], .str [], .str [], .str [], .str [], .str []] [(0, 1, kS [111, 107]), (1, 1, kS [97, 114, 103]), (2, 1, kS [102, 117, 108, 108]), (3, 1, kS [105, 111]), (4, 1, kS [110, 111, 110, 101]), (5, 1, kS [116, 104, 101, 114, 101]), (6, 1, kS [107, 105, 110, 100]), (7, 1, kS [98, 117, 115, 121]), (8, 1, kS [102, 111, 114, 109]), (9, 1, kS [110, 97, 109, 101]), (10, 1, kS [102, 117, 101, 108]), (11, 1, kS [116, 121, 112, 101]), (12, 1, kS [115, 121, 110, 116, 97, 120]), (13, 1, kS [98, 111, 117, 110, 100]), (14, 1, kS [108, 105, 109, 105, 116]), (15, 1, kS [102, 97, 105, 108])]), dO 3 (.alloc [.str [], .str [], .str [], .str [], .str [], .str [], .str [], .str [], .str [], .str [], .str [], .str [], .str [], .str [], .str [], .str [], .str [], .str []]), ⟨none, none, .st 18 (.t 3) (.t 4)⟩])
 (.seq (.reg [dO 5 (.ld (some 18) (.t 3)), dO 6 (.mv (.t 0)), dO 7 (.callc n_trace_pick [.t 5, .t 6]), dO 2 (.tk (.t 7))])
 (.ret)))) }
def c_flotsamref30_Right : AFunc :=
 { np := 1, res := [.t 2], body := (
 .seq (.reg [dO 1 (.box (.t 0)), dO 2 (.tk kF)])
 (.seq (.reg [dO 4 (.fa 1 (.t 1)), dO 5 (.ld (some 4) (.t 4)), dO 3 (.alloc [iZ, .int .u64 0, iZ, iZ]), ⟨none, none, .st 4 (.t 3) (.t 5)⟩])
 (.seq (.seq (.reg [dO 6 (.fa 0 (.t 1)), dO 7 (.ld none (.t 6))])
 (.block 0 (.seq (.reg [dO 9 (.ic .eql (.t 7) (kI 0)), dO 8 (.tk (.t 9))])
 (.cond (.t 8)
 (.seq (.reg [dO 10 (.ld (some 6) (.t 1)), dO 11 (.bld [iZ, iZ, .int .u64 0, iZ, iZ, iZ] []), dO 12 (.eqa false [.int .i64, .int .i64, .int .u64, .int .i64, .int .i64, .int .i64] (.t 10) (.t 11)), dO 2 (.tk (.t 12))])
 (.ret))
 (.seq (.reg [dO 14 (.ic .eql (.t 7) (kI 1)), dO 13 (.tk (.t 14))])
 (.cond (.t 13)
 (.seq (.seq (.reg [dO 15 (.fa 5 (.t 1)), dO 16 (.ld none (.t 15)), dO 17 (.ic .neq (.t 16) (kI 0)), dO 18 (.mv (.t 17)), ⟨some 19, (some (18, false)), .fa 0 (.t 3)⟩, ⟨some 20, (some (18, false)), .ld none (.t 19)⟩, ⟨some 21, (some (18, false)), .ic .lss (.t 20) (kI 0)⟩, dO 22 (.pick (.t 18) kT (.t 21)), dO 23 (.mv (.t 22)), ⟨some 24, (some (23, false)), .fa 0 (.t 3)⟩, ⟨some 25, (some (23, false)), .ld none (.t 24)⟩, ⟨some 26, (some (23, false)), .ic .gtr (.t 25) (kI 1000000)⟩, dO 27 (.pick (.t 23) kT (.t 26)), dO 28 (.mv (.t 27)), ⟨some 29, (some (28, false)), .fa 1 (.t 3)⟩, ⟨some 30, (some (28, false)), .ld none (.t 29)⟩, ⟨some 31, (some (28, false)), .ic .geq (.t 30) (.c (.int .u64 65536))⟩, dO 32 (.pick (.t 28) kT (.t 31))])
 (.cond (.t 32)
 (.seq (.reg [dO 2 (.tk kF)])
 (.ret))
 (.skip)))
 (.seq (.reg [dO 33 (.fa 2 (.t 3)), dO 34 (.ld none (.t 33)), dO 35 (.ic .eql (.t 34) (kI 1)), dO 36 (.mv (.t 35)), ⟨some 37, (some (36, true)), .fa 3 (.t 3)⟩, ⟨some 38, (some (36, true)), .ld none (.t 37)⟩, ⟨some 39, (some (36, true)), .ic .eql (.t 38) (kI 0)⟩, dO 40 (.pick (.t 36) (.t 39) kF), dO 41 (.mv (.t 40)), ⟨some 42, (some (41, false)), .fa 2 (.t 3)⟩, ⟨some 43, (some (41, false)), .ld none (.t 42)⟩, ⟨some 44, (some (41, false)), .ic .eql (.t 43) (kI 2)⟩, ⟨some 45, (some (41, false)), .mv (.t 44)⟩, ⟨some 46, (some (45, true)), .fa 3 (.t 3)⟩, ⟨some 47, (some (45, true)), .ld none (.t 46)⟩, ⟨some 48, (some (45, true)), .ic .geq (.t 47) (kI 1)⟩, ⟨some 49, (some (41, false)), .pick (.t 45) (.t 48) kF⟩, ⟨some 50, (some (41, false)), .mv (.t 49)⟩, ⟨some 51, (some (50, true)), .fa 3 (.t 3)⟩, ⟨some 52, (some (50, true)), .ld none (.t 51)⟩, ⟨some 53, (some (50, true)), .ic .leq (.t 52) (kI 15)⟩, ⟨some 54, (some (41, false)), .pick (.t 50) (.t 53) kF⟩, ⟨some 55, (some (41, false)), .mv (.t 54)⟩, ⟨some 56, (some (55, true)), .fa 3 (.t 3)⟩, ⟨some 57, (some (55, true)), .ld none (.t 56)⟩, ⟨some 58, (some (55, true)), .ic .neq (.t 57) (kI 10)⟩, ⟨some 59, (some (41, false)), .pick (.t 55) (.t 58) kF⟩, dO 60 (.pick (.t 41) kT (.t 59)), dO 2 (.tk (.t 60))])
 (.ret)))
 (.seq (.reg [dO 62 (.ic .eql (.t 7) (kI 2)), dO 61 (.tk (.t 62))])
 (.cond (.t 61)
 (.seq (.reg [dO 63 (.ld (some 4) (.t 3)), dO 64 (.bld [iZ, .int .u64 0, iZ, iZ] []), dO 65 (.eqa false [.int .i64, .int .u64, .int .i64, .int .i64] (.t 63) (.t 64)), dO 66 (.mv (.t 65)), ⟨some 67, (some (66, true)), .fa 5 (.t 1)⟩, ⟨some 68, (some (66, true)), .ld none (.t 67)⟩, ⟨some 69, (some (66, true)), .ic .eql (.t 68) (kI 10)⟩, ⟨some 70, (some (66, true)), .mv (.t 69)⟩, ⟨some 71, (some (70, false)), .fa 5 (.t 1)⟩, ⟨some 72, (some (70, false)), .ld none (.t 71)⟩, ⟨some 73, (some (70, false)), .ic .eql (.t 72) (kI 13)⟩, ⟨some 74, (some (66, true)), .pick (.t 70) kT (.t 73)⟩, ⟨some 75, (some (66, true)), .mv (.t 74)⟩, ⟨some 76, (some (75, false)), .fa 5 (.t 1)⟩, ⟨some 77, (some (75, false)), .ld none (.t 76)⟩, ⟨some 78, (some (75, false)), .ic .eql (.t 77) (kI 14)⟩, ⟨some 79, (some (66, true)), .pick (.t 75) kT (.t 78)⟩, dO 80 (.pick (.t 66) (.t 79) kF), dO 2 (.tk (.t 80))])
 (.ret))
 (.skip)))))))))
 (.seq (.reg [dO 2 (.tk kF)])
 (.ret))))) }
def c_flotsamref24_Err : AFunc :=
 { np := 1, res := [.t 2], body := (
 .seq (.reg [dO 2 (.tk (kS []))])
 (.seq (.reg [dO 4 (.bsl 1 [.str []] 16 [(0, 1, kS [111, 107]), (1, 1, kS [97, 114, 103]), (2, 1, kS [102, 117, 108, 108]), (3, 1, kS [105, 111]), (4, 1, kS [110, 111, 110, 101]), (5, 1, kS [116, 104, 101, 114, 101]), (6, 1, kS [107, 105, 110, 100]), (7, 1, kS [98, 117, 115, 121]), (8, 1, kS [102, 111, 114, 109]), (9, 1, kS [110, 97, 109, 101]), (10, 1, kS [102, 117, 101, 108]), (11, 1, kS [116, 121, 112, 101]), (12, 1, kS [115, 121, 110, 116, 97, 120]), (13, 1, kS [98, 111, 117, 110, 100]), (14, 1, kS [108, 105, 109, 105, 116]), (15, 1, kS [102, 97, 105, 108])] false), dO 3 (.tk (.t 4))])
 (.seq (.seq (.reg [dO 5 (.mv (.t 0)), dO 6 (.ic .lss (.t 5) (kI 0)), dO 7 (.mv (.t 6)), ⟨some 8, (some (7, false)), .mv (.t 0)⟩, ⟨some 9, (some (7, false)), .mv (.t 3)⟩, ⟨some 10, (some (7, false)), .len false (.t 9)⟩, ⟨some 11, (some (7, false)), .ic .geq (.t 8) (.t 10)⟩, dO 12 (.pick (.t 7) kT (.t 11))])
 (.cond (.t 12)
 (.seq (.reg [dO 2 (.tk (kS [63]))])
 (.ret))
 (.skip)))
 (.seq (.reg [dO 13 (.mv (.t 3)), dO 14 (.mv (.t 0)), dO 15 (.ixa 1 none (.t 13) (.t 14)), dO 16 (.ld none (.t 15)), dO 2 (.tk (.t 16))])
 (.ret))))) }
def c_isl_CutPrefix : AFunc :=
 { np := 2, res := [.t 4, .t 5], body := (
 .seq (.reg [dO 4 (.tk (kS [])), dO 5 (.tk kF)])
 (.seq (.seq (.reg [dO 6 (.mv (.t 0)), dO 7 (.mv (.t 1)), dO 8 (.callc n_isl_HasPrefix [.t 6, .t 7]), dO 9 (.notb (.t 8))])
 (.cond (.t 9)
 (.seq (.reg [dO 10 (.mv (.t 0)), dO 4 (.tk (.t 10)), dO 5 (.tk kF)])
 (.ret))
 (.skip)))
 (.seq (.reg [dO 11 (.mv (.t 0)), dO 12 (.mv (.t 1)), dO 13 (.len true (.t 12)), dO 14 (.slc (.t 11) (some (.t 13)) none), dO 4 (.tk (.t 14)), dO 5 (.tk kT)])
 (.ret)))) }
def c_cell_Read : AFunc :=
 { np := 1, res := [.cell 2 (some 6), .t 3], body := (
 .seq (.reg [dO 2 (.alloc [iZ, iZ, .int .u64 0, iZ, iZ, iZ]), dO 3 (.tk kF)])
 (.seq (.reg [dO 7 (.mv (.t 0)), dO 8 (.callc n_strings_Split [.t 7, kS [32]]), dO 4 (.tk (.t 8))])
 (.seq (.reg [dO 9 (.bld [iZ, iZ, .int .u64 0, iZ, iZ, iZ] []), dO 10 (.mv (.t 4)), dO 11 (.len false (.t 10)), dO 12 (.ic .eql (.t 11) (kI 1)), dO 13 (.mv (.t 12)), ⟨some 14, (some (13, true)), .mv (.t 0)⟩, ⟨some 15, (some (13, true)), .callc n_cell_head [kI 0]⟩, ⟨some 16, (some (13, true)), .sop .eql (.t 14) (.t 15)⟩, dO 17 (.pick (.t 13) (.t 16) kF), dO 5 (.alloc [iZ, iZ, .int .u64 0, iZ, iZ, iZ]), ⟨none, none, .st 6 (.t 5) (.t 9)⟩, dO 6 (.tk (.t 17))])
 (.seq (.block 0 (.seq (.drw [[], [], [], [], [], []] [dO 19 (.mv (.t 4)), dO 20 (.ixa 1 none (.t 19) (kI 0)), dO 21 (.ld none (.t 20)), dO 22 (.callc n_cell_head [kI 1]), dO 23 (.sop .eql (.t 21) (.t 22)), dO 18 (.tk (.t 23))])
 (.cond (.t 18)
 (.reg [dO 25 (.mv (.t 4)), dO 26 (.sls 1 (.t 25) (some (kI 1)) none none), dO 27 (.callc n_cell_killed [.t 26]), dO 24 (.mv (.t 27)), dO 28 (.ext (.t 24) 0), dO 29 (.ext (.t 24) 1), ⟨none, none, .st 6 (.t 5) (.t 28)⟩, dO 6 (.tk (.t 29))])
 (.seq (.drw [[], [], [], [], [], [], [], [], [], [], []] [dO 31 (.mv (.t 4)), dO 32 (.ixa 1 none (.t 31) (kI 0)), dO 33 (.ld none (.t 32)), dO 34 (.callc n_cell_head [kI 2]), dO 35 (.sop .eql (.t 33) (.t 34)), dO 36 (.mv (.t 35)), ⟨some 37, (some (36, true)), .mv (.t 4)⟩, ⟨some 38, (some (36, true)), .len false (.t 37)⟩, ⟨some 39, (some (36, true)), .ic .eql (.t 38) (kI 2)⟩, dO 40 (.pick (.t 36) (.t 39) kF), dO 30 (.tk (.t 40))])
 (.cond (.t 30)
 (.seq (.reg [dO 41 (.fa 0 (.t 5)), ⟨none, none, .st 1 (.t 41) (kI 2)⟩])
 (.reg [dO 43 (.mv (.t 4)), dO 44 (.ixa 1 none (.t 43) (kI 1)), dO 45 (.ld none (.t 44)), dO 46 (.callc n_cell_errno [.t 45]), dO 42 (.mv (.t 46)), dO 47 (.ext (.t 42) 0), dO 48 (.ext (.t 42) 1), dO 49 (.fa 5 (.t 5)), ⟨none, none, .st 1 (.t 49) (.t 47)⟩, dO 6 (.tk (.t 48))]))
 (.skip))))))
 (.seq (.seq (.reg [dO 50 (.mv (.t 6)), dO 51 (.notb (.t 50)), dO 52 (.mv (.t 51)), ⟨some 53, (some (52, false)), .ld (some 6) (.t 5)⟩, ⟨some 54, (some (52, false)), .callc n_cell_Right [.t 53]⟩, ⟨some 55, (some (52, false)), .notb (.t 54)⟩, dO 56 (.pick (.t 52) kT (.t 55))])
 (.cond (.t 56)
 (.seq (.reg [dO 57 (.bld [iZ, iZ, .int .u64 0, iZ, iZ, iZ] []), ⟨none, none, .st 6 (.t 2) (.t 57)⟩, dO 3 (.tk kF)])
 (.ret))
 (.skip)))
 (.seq (.reg [dO 58 (.ld (some 6) (.t 5)), ⟨none, none, .st 6 (.t 2) (.t 58)⟩, dO 3 (.tk kT)])
 (.ret))))))) }
def b_site_Read_0 : AC :=
 .seq (.reg [dO 32 (.ic .lss (.t 31) (.t 30))])
 (.seq (.cond (.t 32)
 (.skip)
 (.exit 0))
 (.seq (.block 1 (.seq (.reg [dO 33 (.mv (.t 31)), dO 34 (.ixa 1 none (.t 29) (.t 31)), dO 35 (.ld none (.t 34)), dO 6 (.tk (.t 33)), dO 7 (.tk (.t 35))])
 (.seq (.reg [dO 36 (.mv (.t 7)), dO 37 (.mv (.t 4)), dO 38 (.ixa 1 none (.t 37) (kI 0)), dO 39 (.ld none (.t 38)), dO 40 (.sop .eql (.t 36) (.t 39))])
 (.cond (.t 40)
 (.reg [dO 41 (.mv (.t 6)), dO 42 (.fa 0 (.t 5)), ⟨none, none, .st 1 (.t 42) (.t 41)⟩])
 (.skip)))))
 (.reg [dO 43 (.ia .add .i64 (.t 31) (kI 1)), dO 31 (.mv (.t 43))])))
def l_site_Read_0 : AC :=
 .loop [2, 4, 5, 29, 30, 31] b_site_Read_0
def b_site_Read_1 : AC :=
 .seq (.reg [dO 48 (.ic .lss (.t 47) (.t 46))])
 (.seq (.cond (.t 48)
 (.skip)
 (.exit 2))
 (.seq (.block 3 (.seq (.reg [dO 49 (.mv (.t 47)), dO 50 (.ixa 1 none (.t 45) (.t 47)), dO 51 (.ld none (.t 50)), dO 8 (.tk (.t 49)), dO 9 (.tk (.t 51))])
 (.seq (.reg [dO 53 (.mv (.t 9)), dO 54 (.callc n_num_Read [.t 53]), dO 52 (.mv (.t 54)), dO 55 (.ext (.t 52) 0), dO 56 (.ext (.t 52) 1), dO 10 (.tk (.t 55)), dO 11 (.tk (.t 56))])
 (.block 4 (.seq (.reg [dO 63 (.mv (.t 11)), dO 64 (.notb (.t 63)), dO 65 (.mv (.t 64)), ⟨some 66, (some (65, false)), .mv (.t 10)⟩, ⟨some 67, (some (65, false)), .ic .gtr (.t 66) (kI 511)⟩, dO 68 (.pick (.t 65) kT (.t 67)), dO 62 (.tk (.t 68))])
 (.cond (.t 62)
 (.seq (.reg [dO 69 (.bld [iZ, iZ, iZ, iZ, iZ, iZ, iZ, iZ, iZ, iZ, iZ] []), ⟨none, none, .st 11 (.t 2) (.t 69)⟩, dO 3 (.tk kF)])
 (.ret))
 (.seq (.reg [dO 71 (.mv (.t 8)), dO 72 (.ic .eql (.t 71) (kI 0)), dO 70 (.tk (.t 72))])
 (.cond (.t 70)
 (.reg [dO 73 (.mv (.t 10)), dO 74 (.fa 1 (.t 5)), ⟨none, none, .st 1 (.t 74) (.t 73)⟩])
 (.reg [dO 57 (.mv (.t 8)), dO 58 (.ia .sub .i64 (.t 57) (kI 1)), dO 59 (.mv (.t 10)), dO 60 (.fa 2 (.t 5)), dO 61 (.ixa 1 (some 8) (.t 60) (.t 58)), ⟨none, none, .st 1 (.t 61) (.t 59)⟩])))))))))
 (.reg [dO 75 (.ia .add .i64 (.t 47) (kI 1)), dO 47 (.mv (.t 75))])))
def l_site_Read_1 : AC :=
 .loop [2, 5, 45, 46, 47] b_site_Read_1
def r_site_Read_0 : AC :=
 .seq (.seq (.reg [dO 77 (.ld (some 11) (.t 5)), dO 78 (.callc n_site_Name [.t 77]), dO 76 (.mv (.t 78)), dO 79 (.ext (.t 76) 0), dO 80 (.ext (.t 76) 1), dO 12 (.tk (.t 79)), dO 13 (.tk (.t 80))])
 (.seq (.reg [dO 81 (.mv (.t 13)), dO 82 (.notb (.t 81))])
 (.cond (.t 82)
 (.seq (.reg [dO 83 (.bld [iZ, iZ, iZ, iZ, iZ, iZ, iZ, iZ, iZ, iZ, iZ] []), ⟨none, none, .st 11 (.t 2) (.t 83)⟩, dO 3 (.tk kF)])
 (.ret))
 (.skip))))
 (.seq (.reg [dO 84 (.ld (some 11) (.t 5)), ⟨none, none, .st 11 (.t 2) (.t 84)⟩, dO 3 (.tk kT)])
 (.ret))
def r_site_Read_1 : AC :=
 .seq (.seq (.reg [dO 44 (.mv (.t 4)), dO 45 (.sls 1 (.t 44) (some (kI 1)) none none), dO 46 (.len false (.t 45)), dO 47 (.mv (kI 0))])
 (.block 2 (l_site_Read_1))) r_site_Read_0
def c_site_Read : AFunc :=
 { np := 1, res := [.cell 2 (some 11), .t 3], body := (
 .seq (.reg [dO 2 (.alloc [iZ, iZ, iZ, iZ, iZ, iZ, iZ, iZ, iZ, iZ, iZ]), dO 3 (.tk kF)])
 (.seq (.reg [dO 14 (.mv (.t 0)), dO 15 (.callc n_strings_Split [.t 14, kS [32]]), dO 4 (.tk (.t 15))])
 (.seq (.reg [dO 16 (.mv (.t 4)), dO 17 (.len false (.t 16)), dO 18 (.ia .sub .i64 (.t 17) (kI 2)), dO 19 (.bld [iZ, iZ, iZ, iZ, iZ, iZ, iZ, iZ, iZ, iZ, iZ] [(10, 1, .t 18)]), dO 5 (.alloc [iZ, iZ, iZ, iZ, iZ, iZ, iZ, iZ, iZ, iZ, iZ]), ⟨none, none, .st 11 (.t 5) (.t 19)⟩])
 (.seq (.seq (.reg [dO 20 (.fa 10 (.t 5)), dO 21 (.ld none (.t 20)), dO 22 (.ic .lss (.t 21) (kI 1)), dO 23 (.mv (.t 22)), ⟨some 24, (some (23, false)), .fa 10 (.t 5)⟩, ⟨some 25, (some (23, false)), .ld none (.t 24)⟩, ⟨some 26, (some (23, false)), .ic .gtr (.t 25) (kI 8)⟩, dO 27 (.pick (.t 23) kT (.t 26))])
 (.cond (.t 27)
 (.seq (.reg [dO 28 (.bld [iZ, iZ, iZ, iZ, iZ, iZ, iZ, iZ, iZ, iZ, iZ] []), ⟨none, none, .st 11 (.t 2) (.t 28)⟩, dO 3 (.tk kF)])
 (.ret))
 (.skip)))
 (.seq (.seq (.reg [dO 29 (.callc n_site_words []), dO 30 (.len false (.t 29)), dO 31 (.mv (kI 0))])
 (.block 0 (l_site_Read_0))) r_site_Read_1))))) }
def c_score_says : AFunc :=
 { np := 1, res := [.t 2], body := (
 .seq (.reg [dO 1 (.box (.t 0)), dO 2 (.tk (.c (.nilf)))])
 (.seq (.reg [dO 3 (.mkf (.func n_score_says_1) [] [.t 1]), dO 2 (.tk (.t 3))])
 (.ret))) }
def c_cell_witness : AFunc :=
 { np := 1, res := [.t 2], body := (
 .seq (.reg [dO 1 (.box (.t 0)), dO 2 (.tk kF)])
 (.seq (.seq (.reg [dO 3 (.fa 0 (.t 1)), dO 4 (.ld none (.t 3)), dO 5 (.ic .lss (.t 4) (kI 0)), dO 6 (.mv (.t 5)), ⟨some 7, (some (6, false)), .fa 0 (.t 1)⟩, ⟨some 8, (some (6, false)), .ld none (.t 7)⟩, ⟨some 9, (some (6, false)), .ic .gtr (.t 8) (kI 1000000)⟩, dO 10 (.pick (.t 6) kT (.t 9)), dO 11 (.mv (.t 10)), ⟨some 12, (some (11, false)), .fa 1 (.t 1)⟩, ⟨some 13, (some (11, false)), .ld none (.t 12)⟩, ⟨some 14, (some (11, false)), .ic .geq (.t 13) (.c (.int .u64 65536))⟩, dO 15 (.pick (.t 11) kT (.t 14))])
 (.cond (.t 15)
 (.seq (.reg [dO 2 (.tk kF)])
 (.ret))
 (.skip)))
 (.seq (.seq (.reg [dO 16 (.fa 2 (.t 1)), dO 17 (.ld none (.t 16))])
 (.block 0 (.seq (.reg [dO 19 (.ic .eql (.t 17) (kI 1)), dO 18 (.tk (.t 19))])
 (.cond (.t 18)
 (.seq (.reg [dO 20 (.fa 3 (.t 1)), dO 21 (.ld none (.t 20)), dO 22 (.ic .eql (.t 21) (kI 0)), dO 2 (.tk (.t 22))])
 (.ret))
 (.seq (.reg [dO 24 (.ic .eql (.t 17) (kI 2)), dO 23 (.tk (.t 24))])
 (.cond (.t 23)
 (.seq (.reg [dO 25 (.fa 3 (.t 1)), dO 26 (.ld none (.t 25)), dO 27 (.ic .gtr (.t 26) (kI 0)), dO 28 (.mv (.t 27)), ⟨some 29, (some (28, true)), .fa 3 (.t 1)⟩, ⟨some 30, (some (28, true)), .ld none (.t 29)⟩, ⟨some 31, (some (28, true)), .ic .leq (.t 30) (kI 15)⟩, dO 32 (.pick (.t 28) (.t 31) kF), dO 33 (.mv (.t 32)), ⟨some 34, (some (33, true)), .fa 3 (.t 1)⟩, ⟨some 35, (some (33, true)), .ld none (.t 34)⟩, ⟨some 36, (some (33, true)), .ic .neq (.t 35) (kI 10)⟩, dO 37 (.pick (.t 33) (.t 36) kF), dO 2 (.tk (.t 37))])
 (.ret))
 (.skip)))))))
 (.seq (.reg [dO 2 (.tk kF)])
 (.ret))))) }
def c_cell_limit : AFunc :=
 { np := 1, res := [.t 2], body := (
 .seq (.reg [dO 2 (.tk kF)])
 (.seq (.reg [dO 3 (.mv (.t 0)), dO 4 (.ic .eql (.t 3) (kI 10)), dO 5 (.mv (.t 4)), ⟨some 6, (some (5, false)), .mv (.t 0)⟩, ⟨some 7, (some (5, false)), .ic .eql (.t 6) (kI 13)⟩, dO 8 (.pick (.t 5) kT (.t 7)), dO 9 (.mv (.t 8)), ⟨some 10, (some (9, false)), .mv (.t 0)⟩, ⟨some 11, (some (9, false)), .ic .eql (.t 10) (kI 14)⟩, dO 12 (.pick (.t 9) kT (.t 11)), dO 2 (.tk (.t 12))])
 (.ret))) }
def c_trace_pick : AFunc :=
 { np := 2, res := [.t 4], body := (
 .seq (.reg [dO 2 (.box (.t 0)), dO 4 (.tk (kS []))])
 (.seq (.seq (.reg [dO 5 (.mv (.t 1)), dO 6 (.ic .lss (.t 5) (kI 0)), dO 7 (.mv (.t 6)), ⟨some 8, (some (7, false)), .mv (.t 1)⟩, ⟨some 9, (some (7, false)), .ic .geq (.t 8) (kI 18)⟩, dO 10 (.pick (.t 7) kT (.t 9)), dO 11 (.mv (.t 10)), ⟨some 12, (some (11, false)), .mv (.t 1)⟩, ⟨some 13, (some (11, false)), .ixa 1 (some 18) (.t 2) (.t 12)⟩, ⟨some 14, (some (11, false)), .ld none (.t 13)⟩, ⟨some 15, (some (11, false)), .sop .eql (.t 14) (kS [])⟩, dO 16 (.pick (.t 11) kT (.t 15))])
 (.cond (.t 16)
 (.seq (.reg [dO 4 (.tk (kS [63]))])
 (.ret))
 (.skip)))
 (.seq (.reg [dO 17 (.mv (.t 1)), dO 18 (.ixa 1 (some 18) (.t 2) (.t 17)), dO 19 (.ld none (.t 18)), dO 4 (.tk (.t 19))])
 (.ret)))) }
def c_isl_HasPrefix : AFunc :=
 { np := 2, res := [.t 4], body := (
 .seq (.reg [dO 4 (.tk kF)])
 (.seq (.reg [dO 5 (.mv (.t 0)), dO 6 (.len true (.t 5)), dO 7 (.mv (.t 1)), dO 8 (.len true (.t 7)), dO 9 (.ic .geq (.t 6) (.t 8)), dO 10 (.mv (.t 9)), ⟨some 11, (some (10, true)), .mv (.t 0)⟩, ⟨some 12, (some (10, true)), .mv (.t 1)⟩, ⟨some 13, (some (10, true)), .len true (.t 12)⟩, ⟨some 14, (some (10, true)), .slc (.t 11) none (some (.t 13))⟩, ⟨some 15, (some (10, true)), .mv (.t 1)⟩, ⟨some 16, (some (10, true)), .sop .eql (.t 14) (.t 15)⟩, dO 17 (.pick (.t 10) (.t 16) kF), dO 4 (.tk (.t 17))])
 (.ret))) }
def c_cell_killed : AFunc :=
 { np := 1, res := [.cell 2 (some 6), .t 3], body := (
 .seq (.reg [dO 2 (.alloc [iZ, iZ, .int .u64 0, iZ, iZ, iZ]), dO 3 (.tk kF)])
 (.seq (.seq (.reg [dO 10 (.mv (.t 0)), dO 11 (.len false (.t 10)), dO 12 (.ic .neq (.t 11) (kI 3))])
 (.cond (.t 12)
 (.seq (.reg [dO 13 (.bld [iZ, iZ, .int .u64 0, iZ, iZ, iZ] []), ⟨none, none, .st 6 (.t 2) (.t 13)⟩, dO 3 (.tk kF)])
 (.ret))
 (.skip)))
 (.seq (.reg [dO 15 (.mv (.t 0)), dO 16 (.ixa 1 none (.t 15) (kI 0)), dO 17 (.ld none (.t 16)), dO 18 (.callc n_num_Read [.t 17]), dO 14 (.mv (.t 18)), dO 19 (.ext (.t 14) 0), dO 20 (.ext (.t 14) 1), dO 4 (.tk (.t 19)), dO 5 (.tk (.t 20))])
 (.seq (.reg [dO 22 (.mv (.t 0)), dO 23 (.ixa 1 none (.t 22) (kI 1)), dO 24 (.ld none (.t 23)), dO 25 (.callc n_num_Read [.t 24]), dO 21 (.mv (.t 25)), dO 26 (.ext (.t 21) 0), dO 27 (.ext (.t 21) 1), dO 6 (.tk (.t 26)), dO 7 (.tk (.t 27))])
 (.seq (.reg [dO 28 (.mv (.t 4)), dO 29 (.mv (.t 6)), dO 30 (.conv .u64 (.t 29)), dO 31 (.bld [iZ, .int .u64 0, iZ, iZ] [(0, 1, .t 28), (1, 1, .t 30), (2, 1, kI 1)]), dO 8 (.alloc [iZ, .int .u64 0, iZ, iZ]), ⟨none, none, .st 4 (.t 8) (.t 31)⟩])
 (.seq (.reg [dO 32 (.mv (.t 0)), dO 33 (.ixa 1 none (.t 32) (kI 2)), dO 34 (.ld none (.t 33)), dO 35 (.sop .eql (.t 34) (kS [102, 97, 105, 108, 101, 100])), dO 9 (.tk (.t 35))])
 (.seq (.seq (.reg [dO 36 (.mv (.t 9)), dO 37 (.notb (.t 36))])
 (.cond (.t 37)
 (.seq (.reg [dO 38 (.fa 2 (.t 8)), ⟨none, none, .st 1 (.t 38) (kI 2)⟩])
 (.reg [dO 40 (.mv (.t 0)), dO 41 (.ixa 1 none (.t 40) (kI 2)), dO 42 (.ld none (.t 41)), dO 43 (.callc n_cell_errno [.t 42]), dO 39 (.mv (.t 43)), dO 44 (.ext (.t 39) 0), dO 45 (.ext (.t 39) 1), dO 46 (.fa 3 (.t 8)), ⟨none, none, .st 1 (.t 46) (.t 44)⟩, dO 9 (.tk (.t 45))]))
 (.skip)))
 (.seq (.reg [dO 47 (.ld (some 4) (.t 8)), dO 48 (.bld [iZ, iZ, .int .u64 0, iZ, iZ, iZ] [(0, 1, kI 1), (1, 4, .t 47)]), dO 49 (.mv (.t 5)), dO 50 (.mv (.t 49)), ⟨some 51, (some (50, true)), .mv (.t 7)⟩, dO 52 (.pick (.t 50) (.t 51) kF), dO 53 (.mv (.t 52)), ⟨some 54, (some (53, true)), .mv (.t 9)⟩, dO 55 (.pick (.t 53) (.t 54) kF), ⟨none, none, .st 6 (.t 2) (.t 48)⟩, dO 3 (.tk (.t 55))])
 (.ret))))))))) }
def b_cell_errno_0 : AC :=
 .seq (.seq (.reg [dO 5 (.mv (.t 4)), dO 6 (.ic .leq (.t 5) (kI 15))])
 (.cond (.t 6)
 (.skip)
 (.exit 0)))
 (.seq (.block 1 (.seq (.reg [dO 9 (.mv (.t 4)), dO 10 (.callc n_trace_Err [.t 9]), dO 11 (.mv (.t 0)), dO 12 (.sop .eql (.t 10) (.t 11))])
 (.cond (.t 12)
 (.seq (.reg [dO 13 (.mv (.t 4)), dO 2 (.tk (.t 13)), dO 3 (.tk kT)])
 (.ret))
 (.skip))))
 (.reg [dO 7 (.mv (.t 4)), dO 8 (.ia .add .i64 (.t 7) (kI 1)), dO 4 (.tk (.t 8))]))
def l_cell_errno_0 : AC :=
 .loop [0, 4] b_cell_errno_0
def r_cell_errno_0 : AC :=
 .seq (.reg [dO 2 (.tk (kI 0)), dO 3 (.tk kF)])
 (.ret)
def c_cell_errno : AFunc :=
 { np := 1, res := [.t 2, .t 3], body := (
 .seq (.reg [dO 2 (.tk (kI 0)), dO 3 (.tk kF)])
 (.seq (.seq (.reg [dO 4 (.tk (kI 0))])
 (.block 0 (l_cell_errno_0))) r_cell_errno_0)) }
def b_num_Read_0 : AC :=
 .seq (.reg [dO 28 (.ic .lss (.t 27) (.t 26))])
 (.seq (.cond (.t 28)
 (.skip)
 (.exit 0))
 (.seq (.block 1 (.seq (.reg [dO 29 (.ixa 1 none (.t 25) (.t 27)), dO 30 (.ld none (.t 29)), dO 6 (.tk (.t 30))])
 (.seq (.reg [dO 31 (.mv (.t 6)), dO 32 (.conv .i64 (.t 31)), dO 33 (.ia .sub .i64 (.t 32) (kI 48)), dO 7 (.tk (.t 33))])
 (.seq (.seq (.reg [dO 34 (.mv (.t 7)), dO 35 (.ic .lss (.t 34) (kI 0)), dO 36 (.mv (.t 35)), ⟨some 37, (some (36, false)), .mv (.t 7)⟩, ⟨some 38, (some (36, false)), .ic .gtr (.t 37) (kI 9)⟩, dO 39 (.pick (.t 36) kT (.t 38))])
 (.cond (.t 39)
 (.seq (.reg [dO 2 (.tk (kI 0)), dO 3 (.tk kF)])
 (.ret))
 (.skip)))
 (.reg [dO 40 (.mv (.t 4)), dO 41 (.ia .mul .i64 (.t 40) (kI 10)), dO 42 (.mv (.t 7)), dO 43 (.ia .add .i64 (.t 41) (.t 42)), dO 4 (.tk (.t 43))])))))
 (.reg [dO 44 (.ia .add .i64 (.t 27) (kI 1)), dO 27 (.mv (.t 44))])))
def l_num_Read_0 : AC :=
 .loop [4, 25, 26, 27] b_num_Read_0
def r_num_Read_0 : AC :=
 .seq (.seq (.reg [dO 45 (.mv (.t 4)), dO 46 (.ic .gtr (.t 45) (kI 1000000000000))])
 (.cond (.t 46)
 (.seq (.reg [dO 2 (.tk (kI 0)), dO 3 (.tk kF)])
 (.ret))
 (.skip)))
 (.seq (.reg [dO 47 (.mv (.t 4)), dO 2 (.tk (.t 47)), dO 3 (.tk kT)])
 (.ret))
def c_num_Read : AFunc :=
 { np := 1, res := [.t 2, .t 3], body := (
 .seq (.reg [dO 2 (.tk (kI 0)), dO 3 (.tk kF)])
 (.seq (.seq (.reg [dO 8 (.mv (.t 0)), dO 9 (.sop .eql (.t 8) (kS [])), dO 10 (.mv (.t 9)), ⟨some 11, (some (10, false)), .mv (.t 0)⟩, ⟨some 12, (some (10, false)), .len true (.t 11)⟩, ⟨some 13, (some (10, false)), .ic .gtr (.t 12) (kI 13)⟩, dO 14 (.pick (.t 10) kT (.t 13)), dO 15 (.mv (.t 14)), ⟨some 16, (some (15, false)), .mv (.t 0)⟩, ⟨some 17, (some (15, false)), .ixs (.t 16) (kI 0)⟩, ⟨some 18, (some (15, false)), .ic .eql (.t 17) (.c (.int .u8 48))⟩, ⟨some 19, (some (15, false)), .mv (.t 18)⟩, ⟨some 20, (some (19, true)), .mv (.t 0)⟩, ⟨some 21, (some (19, true)), .sop .neq (.t 20) (kS [48])⟩, ⟨some 22, (some (15, false)), .pick (.t 19) (.t 21) kF⟩, dO 23 (.pick (.t 15) kT (.t 22))])
 (.cond (.t 23)
 (.seq (.reg [dO 2 (.tk (kI 0)), dO 3 (.tk kF)])
 (.ret))
 (.skip)))
 (.seq (.reg [dO 4 (.tk (kI 0))])
 (.seq (.seq (.reg [dO 24 (.mv (.t 0)), dO 25 (.s2b (.t 24)), dO 26 (.len false (.t 25)), dO 27 (.mv (kI 0))])
 (.block 0 (l_num_Read_0))) r_num_Read_0)))) }
def c_score_says_1 : AFunc :=
 { np := 2, res := [.t 3], body := (
 .seq (.reg [dO 2 (.box (.t 0)), dO 3 (.tk kF)])
 (.seq (.reg [dO 4 (.fa 0 (.t 2)), dO 5 (.ld none (.t 4)), dO 6 (.ld none (.t 1)), dO 7 (.ic .eql (.t 5) (.t 6)), dO 3 (.tk (.t 7))])
 (.ret))) }
def c_report_Read_w : AFunc :=
 { np := 1, res := [.cell 2 (some 4), .t 3], body := (
 .seq (.reg [dO 2 (.alloc [.bool false, .own 6 [], .own 11 [], .nils 1]), dO 3 (.tk kF)])
 (.seq (.reg [dO 9 (.mv (.t 0)), dO 10 (.callc n_strings_Split [.t 9, kS [10]]), dO 4 (.tk (.t 10))])
 (.seq (.reg [dO 11 (.mv (.t 4)), dO 12 (.len false (.t 11)), dO 13 (.ia .sub .i64 (.t 12) (kI 2)), dO 5 (.tk (.t 13))])
 (.seq (.seq (.reg [dO 14 (.mv (.t 5)), dO 15 (.ic .lss (.t 14) (kI 1))])
 (.cond (.t 15)
 (.seq (.reg [dO 16 (.bld [.bool false, .nils 6, .nils 11, .nils 1] []), ⟨none, none, .stw 4 (.t 2) (.t 16)⟩, dO 3 (.tk kF)])
 (.ret))
 (.skip)))
 (.seq (.reg [dO 17 (.mv (.t 4)), dO 18 (.ixa 1 none (.t 17) (kI 0)), dO 19 (.ld none (.t 18)), dO 20 (.sop .eql (.t 19) (kS [98, 97, 100])), dO 21 (.bld [.bool false, .nils 6, .nils 11, .nils 1] [(0, 1, .t 20)]), dO 22 (.bld [.bool false, .sl 6 [], .sl 11 [], .sl 1 []] [(0, 4, .t 21)]), dO 23 (.box (.t 22)), dO 6 (.tk (.t 23))])
 (.seq (.seq (.reg [dO 24 (.mv (.t 4)), dO 25 (.mv (.t 5)), dO 26 (.sls 1 (.t 24) (some (kI 1)) (some (.t 25)) none), dO 27 (.mv (.t 6)), dO 28 (.mkf (.func n_preport_reader_take) [.t 27] []), dO 29 (.callk n_report_all [.t 26, .t 28]), dO 30 (.notb (.t 29))])
 (.cond (.t 30)
 (.seq (.reg [dO 31 (.bld [.bool false, .nils 6, .nils 11, .nils 1] []), ⟨none, none, .stw 4 (.t 2) (.t 31)⟩, dO 3 (.tk kF)])
 (.ret))
 (.skip)))
 (.seq (.seq (.reg [dO 33 (.mv (.t 6)), dO 34 (.nck (.t 33)), dO 35 (.fa 0 (.t 34)), dO 36 (.ldf (some 4) (.t 35)), dO 37 (.callc n_report_Print [.t 36]), dO 32 (.mv (.t 37)), dO 38 (.ext (.t 32) 0), dO 39 (.ext (.t 32) 1), dO 7 (.tk (.t 38)), dO 8 (.tk (.t 39))])
 (.seq (.reg [dO 40 (.mv (.t 8)), dO 41 (.notb (.t 40)), dO 42 (.mv (.t 41)), ⟨some 43, (some (42, false)), .mv (.t 7)⟩, ⟨some 44, (some (42, false)), .mv (.t 0)⟩, ⟨some 45, (some (42, false)), .sop .neq (.t 43) (.t 44)⟩, dO 46 (.pick (.t 42) kT (.t 45))])
 (.cond (.t 46)
 (.seq (.reg [dO 47 (.bld [.bool false, .nils 6, .nils 11, .nils 1] []), ⟨none, none, .stw 4 (.t 2) (.t 47)⟩, dO 3 (.tk kF)])
 (.ret))
 (.skip))))
 (.seq (.reg [dO 48 (.mv (.t 6)), dO 49 (.nck (.t 48)), dO 50 (.fa 0 (.t 49)), dO 51 (.ld (some 4) (.t 50)), ⟨none, none, .stw 4 (.t 2) (.t 51)⟩, dO 3 (.tk kT)])
 (.ret))))))))) }
def b_r33_Read_w_0 : AC :=
 .seq (.seq (.reg [dO 33 (.mv (.t 7)), dO 34 (.mv (.t 4)), dO 35 (.len false (.t 34)), dO 36 (.ia .sub .i64 (.t 35) (kI 1)), dO 37 (.ic .lss (.t 33) (.t 36))])
 (.cond (.t 37)
 (.skip)
 (.exit 0)))
 (.seq (.block 1 (.seq (.seq (.reg [dO 40 (.mv (.t 4)), dO 41 (.mv (.t 7)), dO 42 (.ixa 1 none (.t 40) (.t 41)), dO 43 (.ld none (.t 42)), dO 44 (.len true (.t 43)), dO 45 (.ic .eql (.t 44) (kI 0)), dO 46 (.mv (.t 45)), ⟨some 47, (some (46, false)), .mv (.t 4)⟩, ⟨some 48, (some (46, false)), .mv (.t 7)⟩, ⟨some 49, (some (46, false)), .ixa 1 none (.t 47) (.t 48)⟩, ⟨some 50, (some (46, false)), .ld none (.t 49)⟩, ⟨some 51, (some (46, false)), .ixs (.t 50) (kI 0)⟩, ⟨some 52, (some (46, false)), .ic .neq (.t 51) (.c (.int .u8 9))⟩, dO 53 (.pick (.t 46) kT (.t 52))])
 (.cond (.t 53)
 (.seq (.reg [dO 55 (.mv (.t 4)), dO 56 (.mv (.t 7)), dO 57 (.ixa 1 none (.t 55) (.t 56)), dO 58 (.ld none (.t 57)), dO 59 (.callc n_r25_Read [.t 58]), dO 54 (.mv (.t 59)), dO 60 (.ext (.t 54) 0), dO 61 (.ext (.t 54) 1), dO 8 (.alloc [iZ, iZ, iZ, iZ, iZ, iZ, iZ, iZ, iZ, iZ, iZ]), ⟨none, none, .st 11 (.t 8) (.t 60)⟩, dO 9 (.tk (.t 61))])
 (.seq (.seq (.reg [dO 62 (.mv (.t 9)), dO 63 (.notb (.t 62))])
 (.cond (.t 63)
 (.seq (.reg [dO 64 (.bld [.bool false, .nils 6, .nils 11, .nils 1] []), ⟨none, none, .stw 4 (.t 2) (.t 64)⟩, dO 3 (.tk kF)])
 (.ret))
 (.skip)))
 (.seq (.reg [dO 65 (.fa 2 (.t 6)), dO 66 (.ldo (.t 65)), dO 67 (.ld (some 11) (.t 8)), dO 68 (.bsl 11 [iZ, iZ, iZ, iZ, iZ, iZ, iZ, iZ, iZ, iZ, iZ] 1 [(0, 11, .t 67)] false), dO 69 (.app 11 88 (.t 66) (.t 68) false), dO 70 (.fa 2 (.t 6)), ⟨none, none, .st 1 (.t 70) (.t 69)⟩])
 (.seq (.reg [dO 71 (.fa 3 (.t 6)), dO 72 (.ldm (.t 71)), dO 73 (.bsl 1 [.sl 6 []] 1 [(0, 1, (.c (.nils 6)))] false), dO 74 (.apm 1 24 (.t 72) (.t 73)), dO 75 (.fa 3 (.t 6)), ⟨none, none, .stw 1 (.t 75) (.t 74)⟩])
 (.exit 1)))))
 (.skip)))
 (.seq (.reg [dO 77 (.mv (.t 4)), dO 78 (.mv (.t 7)), dO 79 (.ixa 1 none (.t 77) (.t 78)), dO 80 (.ld none (.t 79)), dO 81 (.slc (.t 80) (some (kI 1)) none), dO 82 (.callc n_flotsamref30_Read [.t 81]), dO 76 (.mv (.t 82)), dO 83 (.ext (.t 76) 0), dO 84 (.ext (.t 76) 1), dO 10 (.alloc [iZ, iZ, .int .u64 0, iZ, iZ, iZ]), ⟨none, none, .st 6 (.t 10) (.t 83)⟩, dO 11 (.tk (.t 84))])
 (.seq (.seq (.reg [dO 85 (.mv (.t 11)), dO 86 (.notb (.t 85))])
 (.cond (.t 86)
 (.seq (.reg [dO 87 (.bld [.bool false, .nils 6, .nils 11, .nils 1] []), ⟨none, none, .stw 4 (.t 2) (.t 87)⟩, dO 3 (.tk kF)])
 (.ret))
 (.skip)))
 (.seq (.reg [dO 88 (.fa 3 (.t 6)), dO 89 (.ld none (.t 88)), dO 90 (.len false (.t 89)), dO 91 (.ia .sub .i64 (.t 90) (kI 1)), dO 12 (.tk (.t 91))])
 (.seq (.reg [dO 92 (.mv (.t 12)), dO 93 (.ic .lss (.t 92) (kI 0))])
 (.cond (.t 93)
 (.reg [dO 94 (.fa 1 (.t 6)), dO 95 (.ldo (.t 94)), dO 96 (.ld (some 6) (.t 10)), dO 97 (.bsl 6 [iZ, iZ, .int .u64 0, iZ, iZ, iZ] 1 [(0, 6, .t 96)] false), dO 98 (.app 6 48 (.t 95) (.t 97) false), dO 99 (.fa 1 (.t 6)), ⟨none, none, .st 1 (.t 99) (.t 98)⟩])
 (.drw [[], [], [], [], [], [], [], [], [], [], [], [], []] [dO 100 (.fa 3 (.t 6)), dO 101 (.ld none (.t 100)), dO 102 (.mv (.t 12)), dO 103 (.fa 3 (.t 6)), dO 104 (.ld none (.t 103)), dO 105 (.mv (.t 12)), dO 106 (.ixa 1 none (.t 104) (.t 105)), dO 107 (.ldo (.t 106)), dO 108 (.ld (some 6) (.t 10)), dO 109 (.bsl 6 [iZ, iZ, .int .u64 0, iZ, iZ, iZ] 1 [(0, 6, .t 108)] false), dO 110 (.app 6 48 (.t 107) (.t 109) false), dO 111 (.ixa 1 none (.t 101) (.t 102)), ⟨none, none, .st 1 (.t 111) (.t 110)⟩]))))))))
 (.reg [dO 38 (.mv (.t 7)), dO 39 (.ia .add .i64 (.t 38) (kI 1)), dO 7 (.tk (.t 39))]))
def l_r33_Read_w_0 : AC :=
 .loop [0, 2, 4, 6, 7] b_r33_Read_w_0
def r_r33_Read_w_0 : AC :=
 .seq (.seq (.reg [dO 113 (.ldf (some 4) (.t 6)), dO 114 (.callc n_r33_Print [.t 113]), dO 112 (.mv (.t 114)), dO 115 (.ext (.t 112) 0), dO 116 (.ext (.t 112) 1), dO 13 (.tk (.t 115)), dO 14 (.tk (.t 116))])
 (.seq (.reg [dO 117 (.mv (.t 14)), dO 118 (.notb (.t 117)), dO 119 (.mv (.t 118)), ⟨some 120, (some (119, false)), .mv (.t 13)⟩, ⟨some 121, (some (119, false)), .mv (.t 0)⟩, ⟨some 122, (some (119, false)), .sop .neq (.t 120) (.t 121)⟩, dO 123 (.pick (.t 119) kT (.t 122))])
 (.cond (.t 123)
 (.seq (.reg [dO 124 (.bld [.bool false, .nils 6, .nils 11, .nils 1] []), ⟨none, none, .stw 4 (.t 2) (.t 124)⟩, dO 3 (.tk kF)])
 (.ret))
 (.skip))))
 (.seq (.reg [dO 125 (.ld (some 4) (.t 6)), ⟨none, none, .stw 4 (.t 2) (.t 125)⟩, dO 3 (.tk kT)])
 (.ret))
def c_r33_Read_w : AFunc :=
 { np := 1, res := [.cell 2 (some 4), .t 3], body := (
 .seq (.reg [dO 2 (.alloc [.bool false, .own 6 [], .own 11 [], .nils 1]), dO 3 (.tk kF)])
 (.seq (.reg [dO 16 (.mv (.t 0)), dO 17 (.callc n_r33_Lines [.t 16]), dO 15 (.mv (.t 17)), dO 18 (.ext (.t 15) 0), dO 19 (.ext (.t 15) 1), dO 4 (.tk (.t 18)), dO 5 (.tk (.t 19))])
 (.seq (.seq (.reg [dO 20 (.mv (.t 5)), dO 21 (.notb (.t 20)), dO 22 (.mv (.t 21)), ⟨some 23, (some (22, false)), .mv (.t 4)⟩, ⟨some 24, (some (22, false)), .len false (.t 23)⟩, ⟨some 25, (some (22, false)), .ic .lss (.t 24) (kI 2)⟩, dO 26 (.pick (.t 22) kT (.t 25))])
 (.cond (.t 26)
 (.seq (.reg [dO 27 (.bld [.bool false, .nils 6, .nils 11, .nils 1] []), ⟨none, none, .stw 4 (.t 2) (.t 27)⟩, dO 3 (.tk kF)])
 (.ret))
 (.skip)))
 (.seq (.reg [dO 28 (.mv (.t 4)), dO 29 (.ixa 1 none (.t 28) (kI 0)), dO 30 (.ld none (.t 29)), dO 31 (.sop .eql (.t 30) (kS [98, 97, 100])), dO 32 (.bld [.bool false, .nils 6, .nils 11, .nils 1] [(0, 1, .t 31)]), dO 6 (.alloc [.bool false, .own 6 [], .own 11 [], .nils 1]), ⟨none, none, .stw 4 (.t 6) (.t 32)⟩])
 (.seq (.seq (.reg [dO 7 (.tk (kI 1))])
 (.block 0 (l_r33_Read_w_0))) r_r33_Read_w_0))))) }
def b_report_all_w_0 : AC :=
 .seq (.reg [dO 10 (.ic .lss (.t 9) (.t 8))])
 (.seq (.cond (.t 10)
 (.skip)
 (.exit 0))
 (.seq (.block 1 (.seq (.reg [dO 11 (.ixa 1 none (.t 7) (.t 9)), dO 12 (.ld none (.t 11)), dO 6 (.tk (.t 12))])
 (.seq (.reg [dO 13 (.mv (.t 1)), dO 14 (.mv (.t 6)), dO 15 (.callvk (.t 13) [.t 14]), dO 16 (.notb (.t 15))])
 (.cond (.t 16)
 (.seq (.reg [dO 4 (.tk kF)])
 (.ret))
 (.skip)))))
 (.reg [dO 17 (.ia .add .i64 (.t 9) (kI 1)), dO 9 (.mv (.t 17))])))
def l_report_all_w_0 : AC :=
 .loop [1, 7, 8, 9] b_report_all_w_0
def r_report_all_w_0 : AC :=
 .seq (.reg [dO 4 (.tk kT)])
 (.ret)
def c_report_all_w : AFunc :=
 { np := 2, res := [.t 4], body := (
 .seq (.reg [dO 4 (.tk kF)])
 (.seq (.seq (.reg [dO 7 (.mv (.t 0)), dO 8 (.len false (.t 7)), dO 9 (.mv (kI 0))])
 (.block 0 (l_report_all_w_0))) r_report_all_w_0)) }
def c_preport_reader_take_w : AFunc :=
 { np := 2, res := [.t 4], body := (
 .seq (.reg [dO 4 (.tk kF)])
 (.seq (.seq (.reg [dO 8 (.mv (.t 1)), dO 9 (.callc n_strings_CutPrefix [.t 8, kS [9]]), dO 7 (.mv (.t 9)), dO 10 (.ext (.t 7) 0), dO 11 (.ext (.t 7) 1), dO 5 (.tk (.t 10)), dO 6 (.tk (.t 11))])
 (.seq (.reg [dO 12 (.mv (.t 6))])
 (.cond (.t 12)
 (.seq (.reg [dO 13 (.mv (.t 0)), dO 14 (.mv (.t 5)), dO 15 (.callk n_preport_reader_add [.t 13, .t 14]), dO 4 (.tk (.t 15))])
 (.ret))
 (.skip))))
 (.seq (.reg [dO 16 (.mv (.t 0)), dO 17 (.mv (.t 1)), dO 18 (.callk n_preport_reader_row [.t 16, .t 17]), dO 4 (.tk (.t 18))])
 (.ret)))) }
def c_preport_reader_add_w : AFunc :=
 { np := 2, res := [.t 4], body := (
 .seq (.reg [dO 4 (.tk kF)])
 (.seq (.reg [dO 9 (.mv (.t 1)), dO 10 (.callc n_cell_Read [.t 9]), dO 8 (.mv (.t 10)), dO 11 (.ext (.t 8) 0), dO 12 (.ext (.t 8) 1), dO 5 (.alloc [iZ, iZ, .int .u64 0, iZ, iZ, iZ]), ⟨none, none, .st 6 (.t 5) (.t 11)⟩, dO 6 (.tk (.t 12))])
 (.seq (.reg [dO 13 (.mv (.t 0)), dO 14 (.nck (.t 13)), dO 15 (.fa 0 (.t 14)), dO 16 (.fa 3 (.t 15)), dO 17 (.ld none (.t 16)), dO 18 (.len false (.t 17)), dO 19 (.ia .sub .i64 (.t 18) (kI 1)), dO 7 (.tk (.t 19))])
 (.seq (.seq (.reg [dO 20 (.mv (.t 7)), dO 21 (.ic .lss (.t 20) (kI 0))])
 (.cond (.t 21)
 (.seq (.drw [[], [], [], [], [], [], [], [], [], [], [], [], []] [dO 22 (.mv (.t 0)), dO 23 (.mv (.t 0)), dO 24 (.nck (.t 23)), dO 25 (.fa 0 (.t 24)), dO 26 (.fa 1 (.t 25)), dO 27 (.ldo (.t 26)), dO 28 (.ld (some 6) (.t 5)), dO 29 (.bsl 6 [iZ, iZ, .int .u64 0, iZ, iZ, iZ] 1 [(0, 6, .t 28)] false), dO 30 (.app 6 48 (.t 27) (.t 29) false), dO 31 (.nck (.t 22)), dO 32 (.fa 0 (.t 31)), dO 33 (.fa 1 (.t 32)), ⟨none, none, .st 1 (.t 33) (.t 30)⟩])
 (.seq (.reg [dO 34 (.mv (.t 6)), dO 4 (.tk (.t 34))])
 (.ret)))
 (.skip)))
 (.seq (.drw [[], [], [], [], [], [], [], [], [], [], [], [], [], [], [], [], [], [], []] [dO 35 (.mv (.t 0)), dO 36 (.nck (.t 35)), dO 37 (.fa 0 (.t 36)), dO 38 (.fa 3 (.t 37)), dO 39 (.ld none (.t 38)), dO 40 (.mv (.t 7)), dO 41 (.mv (.t 0)), dO 42 (.nck (.t 41)), dO 43 (.fa 0 (.t 42)), dO 44 (.fa 3 (.t 43)), dO 45 (.ld none (.t 44)), dO 46 (.mv (.t 7)), dO 47 (.ixa 1 none (.t 45) (.t 46)), dO 48 (.ldo (.t 47)), dO 49 (.ld (some 6) (.t 5)), dO 50 (.bsl 6 [iZ, iZ, .int .u64 0, iZ, iZ, iZ] 1 [(0, 6, .t 49)] false), dO 51 (.app 6 48 (.t 48) (.t 50) false), dO 52 (.ixa 1 none (.t 39) (.t 40)), ⟨none, none, .st 1 (.t 52) (.t 51)⟩])
 (.seq (.reg [dO 53 (.mv (.t 6)), dO 4 (.tk (.t 53))])
 (.ret))))))) }
def c_preport_reader_row_w : AFunc :=
 { np := 2, res := [.t 4], body := (
 .seq (.reg [dO 4 (.tk kF)])
 (.seq (.reg [dO 8 (.mv (.t 1)), dO 9 (.callc n_site_Read [.t 8]), dO 7 (.mv (.t 9)), dO 10 (.ext (.t 7) 0), dO 11 (.ext (.t 7) 1), dO 5 (.alloc [iZ, iZ, iZ, iZ, iZ, iZ, iZ, iZ, iZ, iZ, iZ]), ⟨none, none, .st 11 (.t 5) (.t 10)⟩, dO 6 (.tk (.t 11))])
 (.seq (.drw [[], [], [], [], [], [], [], [], [], [], [], [], []] [dO 12 (.mv (.t 0)), dO 13 (.mv (.t 0)), dO 14 (.nck (.t 13)), dO 15 (.fa 0 (.t 14)), dO 16 (.fa 2 (.t 15)), dO 17 (.ldo (.t 16)), dO 18 (.ld (some 11) (.t 5)), dO 19 (.bsl 11 [iZ, iZ, iZ, iZ, iZ, iZ, iZ, iZ, iZ, iZ, iZ] 1 [(0, 11, .t 18)] false), dO 20 (.app 11 88 (.t 17) (.t 19) false), dO 21 (.nck (.t 12)), dO 22 (.fa 0 (.t 21)), dO 23 (.fa 2 (.t 22)), ⟨none, none, .st 1 (.t 23) (.t 20)⟩])
 (.seq (.reg [dO 24 (.mv (.t 0)), dO 25 (.mv (.t 0)), dO 26 (.nck (.t 25)), dO 27 (.fa 0 (.t 26)), dO 28 (.fa 3 (.t 27)), dO 29 (.ldm (.t 28)), dO 30 (.bsl 1 [.sl 6 []] 1 [(0, 1, (.c (.nils 6)))] false), dO 31 (.apm 1 24 (.t 29) (.t 30)), dO 32 (.nck (.t 24)), dO 33 (.fa 0 (.t 32)), dO 34 (.fa 3 (.t 33)), ⟨none, none, .stw 1 (.t 34) (.t 31)⟩])
 (.seq (.reg [dO 35 (.mv (.t 6)), dO 4 (.tk (.t 35))])
 (.ret)))))) }
def tbl : Tbl := Tab.get [(3, c_flotsamlaw33_ReportTells), (4, c_flotsamlaw32_Few), (5, c_flotsamlaw33_knows), (6, c_report_Print), (7, c_r33_Print), (10, c_flotsamref31_Same), (11, c_report_Brief), (12, c_r33_Brief), (13, c_flotsamlaw32_One), (14, c_score_Right), (15, c_report_lines), (18, c_flotsamref32_Right), (19, c_r33_cells), (20, c_r25_Name), (21, c_r33_score), (25, c_r33_Lines), (26, c_r25_Read), (27, c_flotsamref30_Read), (28, c_flotsamref30_Same), (29, c_score_Mutants), (30, c_report_words), (31, c_report_digits), (32, c_report_total), (33, c_flotsamref32_Mutants), (34, c_r33_digits), (35, c_score_odd), (36, c_cell_Sum), (37, c_sC_Cell_api_Cell), (38, c_site_Name), (39, c_slices_Contains_api_Site_api_Site), (40, c_report_lines_1), (41, c_report_lines_1_1), (42, c_cell_Show), (44, c_flotsamref32_cells), (45, c_flotsamref30_Sum), (46, c_flotsamref30_Show), (47, c_r25_may), (48, c_r25_Word), (49, c_r01_Digits), (50, c_flotsamref32_Score), (52, c_strings_CutPrefix), (55, c_r01_Read), (56, c_flotsamref30_Words), (57, c_flotsamref30_ErrOf), (58, c_score_Mutants_1), (59, c_score_count_api_Cell_x), (60, c_score_Mutants_1_1), (62, c_num_Digits), (63, c_score_Score), (64, c_score_odd_1), (65, c_score_count_api_Cell), (66, c_cell_Right), (67, c_sI_Cell_api_Cell), (68, c_site_words), (69, c_site_may), (70, c_site_Word), (71, c_slices_Index_api_Site_api_Site), (72, c_cell_head), (73, c_trace_Err), (75, c_flotsamref30_Right), (76, c_flotsamref24_Err), (80, c_isl_CutPrefix), (81, c_cell_Read), (82, c_site_Read), (84, c_score_says), (85, c_cell_witness), (86, c_cell_limit), (88, c_trace_pick), (93, c_isl_HasPrefix), (94, c_cell_killed), (95, c_cell_errno), (96, c_num_Read), (98, c_score_says_1), (3000008, c_report_Read_w), (3000009, c_r33_Read_w), (3000023, c_report_all_w), (3000024, c_preport_reader_take_w), (3000053, c_preport_reader_add_w), (3000054, c_preport_reader_row_w), (2000600, ⟨0, .seq a_report_Print_0 y_report_Print_0, []⟩)]
theorem t_flotsamlaw33_ReportTells : tbl n_flotsamlaw33_ReportTells = some c_flotsamlaw33_ReportTells := by kernel_rfl
theorem t_flotsamlaw32_Few : tbl n_flotsamlaw32_Few = some c_flotsamlaw32_Few := by kernel_rfl
theorem t_flotsamlaw33_knows : tbl n_flotsamlaw33_knows = some c_flotsamlaw33_knows := by kernel_rfl
theorem t_report_Print : tbl n_report_Print = some c_report_Print := by kernel_rfl
theorem t_r33_Print : tbl n_r33_Print = some c_r33_Print := by kernel_rfl
theorem t_flotsamref31_Same : tbl n_flotsamref31_Same = some c_flotsamref31_Same := by kernel_rfl
theorem t_report_Brief : tbl n_report_Brief = some c_report_Brief := by kernel_rfl
theorem t_r33_Brief : tbl n_r33_Brief = some c_r33_Brief := by kernel_rfl
theorem t_flotsamlaw32_One : tbl n_flotsamlaw32_One = some c_flotsamlaw32_One := by kernel_rfl
theorem t_score_Right : tbl n_score_Right = some c_score_Right := by kernel_rfl
theorem t_report_lines : tbl n_report_lines = some c_report_lines := by kernel_rfl
theorem t_flotsamref32_Right : tbl n_flotsamref32_Right = some c_flotsamref32_Right := by kernel_rfl
theorem t_r33_cells : tbl n_r33_cells = some c_r33_cells := by kernel_rfl
theorem t_r25_Name : tbl n_r25_Name = some c_r25_Name := by kernel_rfl
theorem t_r33_score : tbl n_r33_score = some c_r33_score := by kernel_rfl
theorem t_r33_Lines : tbl n_r33_Lines = some c_r33_Lines := by kernel_rfl
theorem t_r25_Read : tbl n_r25_Read = some c_r25_Read := by kernel_rfl
theorem t_flotsamref30_Read : tbl n_flotsamref30_Read = some c_flotsamref30_Read := by kernel_rfl
theorem t_flotsamref30_Same : tbl n_flotsamref30_Same = some c_flotsamref30_Same := by kernel_rfl
theorem t_score_Mutants : tbl n_score_Mutants = some c_score_Mutants := by kernel_rfl
theorem t_report_words : tbl n_report_words = some c_report_words := by kernel_rfl
theorem t_report_digits : tbl n_report_digits = some c_report_digits := by kernel_rfl
theorem t_report_total : tbl n_report_total = some c_report_total := by kernel_rfl
theorem t_flotsamref32_Mutants : tbl n_flotsamref32_Mutants = some c_flotsamref32_Mutants := by kernel_rfl
theorem t_r33_digits : tbl n_r33_digits = some c_r33_digits := by kernel_rfl
theorem t_score_odd : tbl n_score_odd = some c_score_odd := by kernel_rfl
theorem t_cell_Sum : tbl n_cell_Sum = some c_cell_Sum := by kernel_rfl
theorem t_sC_Cell_api_Cell : tbl n_sC_Cell_api_Cell = some c_sC_Cell_api_Cell := by kernel_rfl
theorem t_site_Name : tbl n_site_Name = some c_site_Name := by kernel_rfl
theorem t_slices_Contains_api_Site_api_Site : tbl n_slices_Contains_api_Site_api_Site = some c_slices_Contains_api_Site_api_Site := by kernel_rfl
theorem t_report_lines_1 : tbl n_report_lines_1 = some c_report_lines_1 := by kernel_rfl
theorem t_report_lines_1_1 : tbl n_report_lines_1_1 = some c_report_lines_1_1 := by kernel_rfl
theorem t_cell_Show : tbl n_cell_Show = some c_cell_Show := by kernel_rfl
theorem t_flotsamref32_cells : tbl n_flotsamref32_cells = some c_flotsamref32_cells := by kernel_rfl
theorem t_flotsamref30_Sum : tbl n_flotsamref30_Sum = some c_flotsamref30_Sum := by kernel_rfl
theorem t_flotsamref30_Show : tbl n_flotsamref30_Show = some c_flotsamref30_Show := by kernel_rfl
theorem t_r25_may : tbl n_r25_may = some c_r25_may := by kernel_rfl
theorem t_r25_Word : tbl n_r25_Word = some c_r25_Word := by kernel_rfl
theorem t_r01_Digits : tbl n_r01_Digits = some c_r01_Digits := by kernel_rfl
theorem t_flotsamref32_Score : tbl n_flotsamref32_Score = some c_flotsamref32_Score := by kernel_rfl
theorem t_strings_CutPrefix : tbl n_strings_CutPrefix = some c_strings_CutPrefix := by kernel_rfl
theorem t_r01_Read : tbl n_r01_Read = some c_r01_Read := by kernel_rfl
theorem t_flotsamref30_Words : tbl n_flotsamref30_Words = some c_flotsamref30_Words := by kernel_rfl
theorem t_flotsamref30_ErrOf : tbl n_flotsamref30_ErrOf = some c_flotsamref30_ErrOf := by kernel_rfl
theorem t_score_Mutants_1 : tbl n_score_Mutants_1 = some c_score_Mutants_1 := by kernel_rfl
theorem t_score_count_api_Cell_x : tbl n_score_count_api_Cell_x = some c_score_count_api_Cell_x := by kernel_rfl
theorem t_score_Mutants_1_1 : tbl n_score_Mutants_1_1 = some c_score_Mutants_1_1 := by kernel_rfl
theorem t_num_Digits : tbl n_num_Digits = some c_num_Digits := by kernel_rfl
theorem t_score_Score : tbl n_score_Score = some c_score_Score := by kernel_rfl
theorem t_score_odd_1 : tbl n_score_odd_1 = some c_score_odd_1 := by kernel_rfl
theorem t_score_count_api_Cell : tbl n_score_count_api_Cell = some c_score_count_api_Cell := by kernel_rfl
theorem t_cell_Right : tbl n_cell_Right = some c_cell_Right := by kernel_rfl
theorem t_sI_Cell_api_Cell : tbl n_sI_Cell_api_Cell = some c_sI_Cell_api_Cell := by kernel_rfl
theorem t_site_words : tbl n_site_words = some c_site_words := by kernel_rfl
theorem t_site_may : tbl n_site_may = some c_site_may := by kernel_rfl
theorem t_site_Word : tbl n_site_Word = some c_site_Word := by kernel_rfl
theorem t_slices_Index_api_Site_api_Site : tbl n_slices_Index_api_Site_api_Site = some c_slices_Index_api_Site_api_Site := by kernel_rfl
theorem t_cell_head : tbl n_cell_head = some c_cell_head := by kernel_rfl
theorem t_trace_Err : tbl n_trace_Err = some c_trace_Err := by kernel_rfl
theorem t_flotsamref30_Right : tbl n_flotsamref30_Right = some c_flotsamref30_Right := by kernel_rfl
theorem t_flotsamref24_Err : tbl n_flotsamref24_Err = some c_flotsamref24_Err := by kernel_rfl
theorem t_isl_CutPrefix : tbl n_isl_CutPrefix = some c_isl_CutPrefix := by kernel_rfl
theorem t_cell_Read : tbl n_cell_Read = some c_cell_Read := by kernel_rfl
theorem t_site_Read : tbl n_site_Read = some c_site_Read := by kernel_rfl
theorem t_score_says : tbl n_score_says = some c_score_says := by kernel_rfl
theorem t_cell_witness : tbl n_cell_witness = some c_cell_witness := by kernel_rfl
theorem t_cell_limit : tbl n_cell_limit = some c_cell_limit := by kernel_rfl
theorem t_trace_pick : tbl n_trace_pick = some c_trace_pick := by kernel_rfl
theorem t_isl_HasPrefix : tbl n_isl_HasPrefix = some c_isl_HasPrefix := by kernel_rfl
theorem t_cell_killed : tbl n_cell_killed = some c_cell_killed := by kernel_rfl
theorem t_cell_errno : tbl n_cell_errno = some c_cell_errno := by kernel_rfl
theorem t_num_Read : tbl n_num_Read = some c_num_Read := by kernel_rfl
theorem t_score_says_1 : tbl n_score_says_1 = some c_score_says_1 := by kernel_rfl
theorem tw_report_Read : tbl (wTab n_report_Read) = some c_report_Read_w := by kernel_rfl
theorem tw_flotsamref33_Read : tbl (wTab n_r33_Read) = some c_r33_Read_w := by kernel_rfl
theorem tw_report_all : tbl (wTab n_report_all) = some c_report_all_w := by kernel_rfl
theorem tw_preport_reader_take : tbl (wTab n_preport_reader_take) = some c_preport_reader_take_w := by kernel_rfl
theorem tw_preport_reader_add : tbl (wTab n_preport_reader_add) = some c_preport_reader_add_w := by kernel_rfl
theorem tw_preport_reader_row : tbl (wTab n_preport_reader_row) = some c_preport_reader_row_w := by kernel_rfl
theorem u_report_Print_0 : tbl q_report_Print_0 = some ⟨0, .seq a_report_Print_0 y_report_Print_0, []⟩ := by kernel_rfl
def noExt : Ext := fun k => if k = n_strings_Split then some (xSplit) else if k = n_strings_Join then some (xJoin) else if k = n_strings_Fields then some (xFields) else if k = n_pstrings_Builder_WriteString then some (xWriteString bT bP bE) else if k = n_pstrings_Builder_String then some (xString bT bP bE) else none
@[simp] theorem lt_flotsamlaw33_ReportTells : n_flotsamlaw33_ReportTells < yBase := ltB rfl
@[simp] theorem ltAll : n_flotsamlaw32_Few < yBase ∧ n_flotsamlaw33_knows < yBase ∧ n_report_Print < yBase ∧ n_r33_Print < yBase ∧ n_report_Read < yBase ∧ n_r33_Read < yBase ∧ n_flotsamref31_Same < yBase ∧ n_report_Brief < yBase ∧ n_r33_Brief < yBase ∧ n_flotsamlaw32_One < yBase ∧ n_score_Right < yBase ∧ n_report_lines < yBase ∧ n_flotsamref32_Right < yBase ∧ n_r33_cells < yBase ∧ n_r25_Name < yBase ∧ n_r33_score < yBase ∧ n_report_all < yBase ∧ n_preport_reader_take < yBase ∧ n_r33_Lines < yBase ∧ n_r25_Read < yBase ∧ n_flotsamref30_Read < yBase ∧ n_flotsamref30_Same < yBase ∧ n_score_Mutants < yBase ∧ n_report_words < yBase ∧ n_report_digits < yBase ∧ n_report_total < yBase ∧ n_flotsamref32_Mutants < yBase ∧ n_r33_digits < yBase ∧ n_score_odd < yBase ∧ n_cell_Sum < yBase ∧ n_sC_Cell_api_Cell < yBase ∧ n_site_Name < yBase ∧ n_slices_Contains_api_Site_api_Site < yBase ∧ n_report_lines_1 < yBase ∧ n_report_lines_1_1 < yBase ∧ n_cell_Show < yBase ∧ n_flotsamref32_cells < yBase ∧ n_flotsamref30_Sum < yBase ∧ n_flotsamref30_Show < yBase ∧ n_r25_may < yBase ∧ n_r25_Word < yBase ∧ n_r01_Digits < yBase ∧ n_flotsamref32_Score < yBase ∧ n_strings_CutPrefix < yBase ∧ n_preport_reader_add < yBase ∧ n_preport_reader_row < yBase ∧ n_r01_Read < yBase ∧ n_flotsamref30_Words < yBase ∧ n_flotsamref30_ErrOf < yBase ∧ n_num_Digits < yBase ∧ n_score_Score < yBase ∧ n_sI_Cell_api_Cell < yBase ∧ n_site_words < yBase ∧ n_site_may < yBase ∧ n_site_Word < yBase ∧ n_slices_Index_api_Site_api_Site < yBase ∧ n_cell_head < yBase ∧ n_trace_Err < yBase ∧ n_flotsamref30_Right < yBase ∧ n_flotsamref24_Err < yBase ∧ n_isl_CutPrefix < yBase ∧ n_cell_Read < yBase ∧ n_site_Read < yBase ∧ n_score_says < yBase ∧ n_cell_witness < yBase ∧ n_cell_limit < yBase ∧ n_trace_pick < yBase ∧ n_isl_HasPrefix < yBase ∧ n_cell_killed < yBase ∧ n_cell_errno < yBase ∧ n_num_Read < yBase ∧ n_score_count_api_Cell < yBase ∧ n_score_count_api_Cell_x < yBase := by and_intros <;> exact ltB rfl
@[simp] theorem lt_pstrings_Builder_WriteString : n_pstrings_Builder_WriteString < yBase := ltB rfl
@[simp] theorem lt_pstrings_Builder_String : n_pstrings_Builder_String < yBase := ltB rfl
@[simp] theorem lt_strings_Split : n_strings_Split < yBase := ltB rfl
@[simp] theorem lt_score_Mutants_1 : n_score_Mutants_1 < yBase := ltB rfl
@[simp] theorem lt_score_Mutants_1_1 : n_score_Mutants_1_1 < yBase := ltB rfl
@[simp] theorem lt_strings_Join : n_strings_Join < yBase := ltB rfl
@[simp] theorem lt_score_odd_1 : n_score_odd_1 < yBase := ltB rfl
@[simp] theorem lt_cell_Right : n_cell_Right < yBase := ltB rfl
@[simp] theorem lt_strings_Fields : n_strings_Fields < yBase := ltB rfl
@[simp] theorem lt_score_says_1 : n_score_says_1 < yBase := ltB rfl
end Go.AM
