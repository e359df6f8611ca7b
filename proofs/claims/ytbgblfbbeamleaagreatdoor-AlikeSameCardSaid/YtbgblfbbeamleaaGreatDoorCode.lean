/-
  The abstract code of the functions, printed by a program (gen.py) out of the loaded program, and each function's place in the table.
-/
import Derived.Test.YtbgblfbbeamleaaGreatDoorXlib
namespace Go.AM

/-- Code that is not run. -/
def stuckC : AC := .dfr .skip (.c (.bool false)) .skip 0 [] .skip

abbrev bT : Nat := 232
abbrev bP : Nat := 234
abbrev bE : Nat := 5
def n_flotsamlaw41_AlikeSame : Nat := 3
def n_flotsamlaw06_Log : Nat := 4
def n_flotsamlaw41_knows : Nat := 5
def n_alike_Same : Nat := 6
def n_flotsamlaw24_Trace : Nat := 7
def n_flotsamref41_Same : Nat := 8
def n_alike_Classes : Nat := 9
def n_alike_Idle : Nat := 10
def n_trace_Of : Nat := 11
def n_flotsamlaw41_num : Nat := 12
def n_flotsamlaw04_Ints : Nat := 13
def n_alike_Alike : Nat := 14
def n_alike_Same_1 : Nat := 15
def n_slices_EqualFunc_api_Event_api_Event_api_Event_api_Event : Nat := 16
def n_alike_event : Nat := 17
def n_flotsamref05_Events : Nat := 18
def n_alike_all : Nat := 19
def n_alike_once : Nat := 20
def n_alike_Classes_1 : Nat := 21
def n_slices_IndexFunc_mutants_Mutant_mutants_Mutant : Nat := 22
def n_alike_Classes_2 : Nat := 23
def n_tree_Same : Nat := 24
def n_alike_rest : Nat := 25
def n_bdisk_From : Nat := 26
def n_layout_Empty : Nat := 27
def n_sfs_Mount : Nat := 28
def n_pbdisk_Disk_Fail : Nat := 29
def n_interp_Run : Nat := 30
def n_pbdisk_Disk_Log : Nat := 31
def n_bound_Check : Nat := 32
def n_slices_Equal_api_Tag_api_Tag : Nat := 33
def n_flotsamref05_Tags : Nat := 34
def n_campaign_Right : Nat := 35
def n_mutants_All : Nat := 36
def n_alike_once_1 : Nat := 37
def n_tree_Same_1 : Nat := 38
def n_tree_lists_api_Stmt : Nat := 39
def n_tree_statements : Nat := 40
def n_tree_Same_2 : Nat := 41
def n_tree_expressions : Nat := 42
def n_tree_lists_api_Proc : Nat := 43
def n_tree_lists_api_Oracle : Nat := 44
def n_bdisk_New : Nat := 45
def n_slices_Clone_api_Sector_api_Sector : Nat := 46
def n_layout_super : Nat := 47
def n_layout_Inode : Nat := 48
def n_pbdisk_Disk_Safe : Nat := 49
def n_look_Mounted : Nat := 50
def n_pbdisk_Disk_none : Nat := 51
def n_psfs_FS_Disk : Nat := 52
def n_interp_learn : Nat := 53
def n_pinterp_machine_block : Nat := 54
def n_tree_Count : Nat := 55
def n_slices_Clone_api_Event_api_Event : Nat := 56
def n_slices_Clone_api_Tag_api_Tag : Nat := 57
def n_types_Check : Nat := 58
def n_tree_All : Nat := 59
def n_bound_Steps : Nat := 60
def n_campaign_Right_1 : Nat := 61
def n_mutants_met_fresh : Nat := 62
def n_site_Sites : Nat := 63
def n_mutants_met_of : Nat := 64
def n_slices_EqualFunc_api_Stmt_api_Stmt_api_Stmt_api_Stmt : Nat := 65
def n_slices_EqualFunc_api_Proc_api_Proc_api_Proc_api_Proc : Nat := 67
def n_slices_EqualFunc_api_Oracle_api_Oracle_api_Oracle_api_Oracle : Nat := 68
def n_sector_Of : Nat := 69
def n_layout_RightInode : Nat := 70
def n_pbdisk_Disk_Read : Nat := 71
def n_layout_Mounts : Nat := 72
def n_psfs_FS_none : Nat := 73
def n_pinterp_machine_block_1 : Nat := 74
def n_pinterp_machine_stmt : Nat := 75
def n_tree_walk : Nat := 76
def n_tree_Right : Nat := 77
def n_ptypes_checker_block : Nat := 79
def n_tree_parts : Nat := 80
def n_tree_cloned : Nat := 81
def n_bound_fine : Nat := 82
def n_bound_known_steps : Nat := 83
def n_print_Program : Nat := 84
def n_site_parts : Nat := 85
def n_site_each : Nat := 86
def n_site_Sites_1 : Nat := 87
def n_site_Sites_2 : Nat := 88
def n_site_fits : Nat := 89
def n_rewrite_Apply : Nat := 90
def n_sector_Put : Nat := 91
def n_pbdisk_Disk_has : Nat := 99
def n_slices_Backward_api_Write_api_Write : Nat := 100
def n_layout_InodeOf : Nat := 101
def n_pinterp_machine_take : Nat := 102
def n_pinterp_machine_eval : Nat := 103
def n_pinterp_machine_note : Nat := 108
def n_pinterp_machine_stmt_1 : Nat := 109
def n_pinterp_machine_file : Nat := 110
def n_tree_walk_1 : Nat := 111
def n_tree_Right_1 : Nat := 112
def n_lex_Name : Nat := 113
def n_tree_Right_2 : Nat := 114
def n_tree_expr : Nat := 115
def n_tree_Right_3 : Nat := 116
def n_tree_block : Nat := 117
def n_slices_ContainsFunc_api_Proc_api_Proc : Nat := 118
def n_slices_ContainsFunc_api_Oracle_api_Oracle : Nat := 119
def n_slices_ContainsFunc_api_Stmt_api_Stmt : Nat := 120
def n_ptypes_checker_exprs : Nat := 121
def n_tree_each_api_Expr : Nat := 123
def n_tree_clonedExpr : Nat := 124
def n_tree_each_api_Stmt : Nat := 125
def n_pprint_printer_add : Nat := 126
def n_pprint_printer_block : Nat := 127
def n_pstrings_Builder_String : Nat := 129
def n_site_each_1 : Nat := 130
def n_site_each_2 : Nat := 131
def n_site_writes : Nat := 132
def n_site_torn : Nat := 133
def n_site_Fits : Nat := 134
def n_tree_Clone : Nat := 135
def n_rewrite_along : Nat := 136
def n_rewrite_by : Nat := 137
def n_sector_fits : Nat := 138
def n_slices_Backward_api_Write_api_Write_1 : Nat := 142
def n_flush_Barrier : Nat := 162
def n_slices_ContainsFunc_api_Expr_api_Expr : Nat := 169
def n_slices_ContainsFunc_api_Stmt_api_Stmt_x : Nat := 171
def n_tree_block_1 : Nat := 172
def n_tree_stmt : Nat := 173
def n_slices_IndexFunc_api_Proc_api_Proc : Nat := 174
def n_slices_IndexFunc_api_Oracle_api_Oracle : Nat := 175
def n_slices_IndexFunc_api_Stmt_api_Stmt : Nat := 176
def n_pstrings_Builder_WriteString : Nat := 180
def n_strings_Repeat : Nat := 181
def n_pprint_printer_stmt : Nat := 182
def n_site_lead : Nat := 188
def n_tree_each_api_Proc : Nat := 189
def n_tree_Clone_1 : Nat := 190
def n_tree_each_api_Oracle : Nat := 191
def n_tree_Clone_2 : Nat := 192
def n_rewrite_by_4 : Nat := 198
def n_slices_Delete_api_Stmt_api_Stmt : Nat := 199
def n_pbdisk_Disk_Barrier : Nat := 238
def n_slices_IndexFunc_api_Expr_api_Expr : Nat := 243
def n_slices_IndexFunc_api_Stmt_api_Stmt_x : Nat := 244
def n_tree_shape : Nat := 245
def n_print_key : Nat := 253
def n_pprint_printer_exprs : Nat := 254
def n_site_may : Nat := 257
def n_pbdisk_faults_fails : Nat := 301
def n_pbdisk_Disk_note : Nat := 302
def n_tree_Exprs : Nat := 305
def n_tree_blocks : Nat := 306
def n_tree_shape_1 : Nat := 307
def n_strings_Fields : Nat := 313

def q_tree_Count_0 : Nat := 2005500
def q_tree_All_0 : Nat := 2005900
def q_pbdisk_Disk_Read_0 : Nat := 2007100
def q_tree_walk_1_0 : Nat := 2011100

-- flotsam/flotsamlaw41.AlikeSame
def c_flotsamlaw41_AlikeSame : AFunc :=
  { np := 2, res := [.t 4], body := (
    .seq (.reg [⟨some 2, none, .box (.t 0)⟩, ⟨some 3, none, .box (.t 1)⟩, ⟨some 4, none, .tk (.c (.bool false))⟩])
    (.seq (.seq (.reg [⟨some 5, none, .fa 0 (.t 2)⟩, ⟨some 6, none, .ld none (.t 5)⟩, ⟨some 7, none, .callc n_flotsamlaw06_Log [(.t 6), (.c (.int .i64 80))]⟩, ⟨some 8, none, .notb (.t 7)⟩, ⟨some 9, none, .mv (.t 8)⟩, ⟨some 10, (some (9, false)), .fa 0 (.t 3)⟩, ⟨some 11, (some (9, false)), .ld none (.t 10)⟩, ⟨some 12, (some (9, false)), .callc n_flotsamlaw06_Log [(.t 11), (.c (.int .i64 80))]⟩, ⟨some 13, (some (9, false)), .notb (.t 12)⟩, ⟨some 14, none, .pick (.t 9) (.c (.bool true)) (.t 13)⟩, ⟨some 15, none, .mv (.t 14)⟩, ⟨some 16, (some (15, false)), .fa 1 (.t 2)⟩, ⟨some 17, (some (15, false)), .ld none (.t 16)⟩, ⟨some 18, (some (15, false)), .len false (.t 17)⟩, ⟨some 19, (some (15, false)), .ic .gtr (.t 18) (.c (.int .i64 40))⟩, ⟨some 20, none, .pick (.t 15) (.c (.bool true)) (.t 19)⟩, ⟨some 21, none, .mv (.t 20)⟩, ⟨some 22, (some (21, false)), .fa 1 (.t 3)⟩, ⟨some 23, (some (21, false)), .ld none (.t 22)⟩, ⟨some 24, (some (21, false)), .len false (.t 23)⟩, ⟨some 25, (some (21, false)), .ic .gtr (.t 24) (.c (.int .i64 40))⟩, ⟨some 26, none, .pick (.t 21) (.c (.bool true)) (.t 25)⟩, ⟨some 27, none, .mv (.t 26)⟩, ⟨some 28, (some (27, false)), .callc n_flotsamlaw41_knows []⟩, ⟨some 29, (some (27, false)), .notb (.t 28)⟩, ⟨some 30, none, .pick (.t 27) (.c (.bool true)) (.t 29)⟩])
      (.cond (.t 30)
        (.seq (.reg [⟨some 31, none, .callc n_flotsamlaw41_knows []⟩, ⟨some 4, none, .tk (.t 31)⟩])
          (.ret))
        (.skip)))
    (.seq (.drw [[], [], [], [], [], [], [], [], [], []] [⟨some 32, none, .ld (some 4) (.t 2)⟩, ⟨some 33, none, .callc n_flotsamlaw24_Trace [(.t 32)]⟩, ⟨some 34, none, .ld (some 4) (.t 3)⟩, ⟨some 35, none, .callc n_flotsamlaw24_Trace [(.t 34)]⟩, ⟨some 36, none, .callc n_alike_Same [(.t 33), (.t 35)]⟩, ⟨some 37, none, .ld (some 4) (.t 2)⟩, ⟨some 38, none, .ld (some 4) (.t 3)⟩, ⟨some 39, none, .callc n_flotsamref41_Same [(.t 37), (.t 38)]⟩, ⟨some 40, none, .eqb false (.t 36) (.t 39)⟩, ⟨some 4, none, .tk (.t 40)⟩])
    (.ret)))) }

-- flotsam/flotsamlaw06.Log
def b_flotsamlaw06_Log_0 : AC :=
  .seq (.seq (.reg [⟨some 6, none, .mv (.t 5)⟩, ⟨some 7, none, .mv (.t 0)⟩, ⟨some 8, none, .len false (.t 7)⟩, ⟨some 9, none, .ic .lss (.t 6) (.t 8)⟩, ⟨some 10, none, .mv (.t 9)⟩, ⟨some 11, (some (10, true)), .mv (.t 5)⟩, ⟨some 12, (some (10, true)), .ic .lss (.t 11) (.c (.int .i64 400))⟩, ⟨some 13, none, .pick (.t 10) (.t 12) (.c (.bool false))⟩])
    (.cond (.t 13)
      (.skip)
      (.exit 0)))
  (.seq (.block 1 (.seq (.reg [⟨some 16, none, .mv (.t 0)⟩, ⟨some 17, none, .mv (.t 5)⟩, ⟨some 18, none, .ixa 38 none (.t 16) (.t 17)⟩, ⟨some 19, none, .fa 37 (.t 18)⟩, ⟨some 20, none, .ld none (.t 19)⟩, ⟨some 21, none, .len false (.t 20)⟩, ⟨some 22, none, .ic .gtr (.t 21) (.c (.int .i64 50))⟩])
      (.cond (.t 22)
        (.seq (.reg [⟨some 4, none, .tk (.c (.bool false))⟩])
          (.ret))
        (.skip))))
  (.reg [⟨some 14, none, .mv (.t 5)⟩, ⟨some 15, none, .ia .add .i64 (.t 14) (.c (.int .i64 1))⟩, ⟨some 5, none, .tk (.t 15)⟩]))

def l_flotsamlaw06_Log_0 : AC :=
  .loop [0, 1, 5] b_flotsamlaw06_Log_0

def r_flotsamlaw06_Log_0 : AC :=
  .seq (.reg [⟨some 23, none, .mv (.t 0)⟩, ⟨some 24, none, .len false (.t 23)⟩, ⟨some 25, none, .mv (.t 1)⟩, ⟨some 26, none, .ic .leq (.t 24) (.t 25)⟩, ⟨some 4, none, .tk (.t 26)⟩])
  (.ret)

def c_flotsamlaw06_Log : AFunc :=
  { np := 2, res := [.t 4], body := (
    .seq (.reg [⟨some 4, none, .tk (.c (.bool false))⟩])
    (.seq (.seq (.reg [⟨some 5, none, .tk (.c (.int .i64 0))⟩])
      (.block 0 (l_flotsamlaw06_Log_0))) r_flotsamlaw06_Log_0)) }

-- flotsam/flotsamlaw41.knows
def c_flotsamlaw41_knows : AFunc :=
  { np := 0, res := [.t 0], body := (
    .seq (.reg [⟨some 0, none, .tk (.c (.bool false))⟩])
    (.seq (.reg [⟨some 8, none, .bld [.int .i64 0, .str [], .int .i64 0, .sl 4 [], .sl 7 [], .sl 7 [], .bool false] [(0, 1, (.c (.int .i64 11)))]⟩, ⟨some 9, none, .bsl 7 [.int .i64 0, .str [], .int .i64 0, .sl 4 [], .sl 7 [], .sl 7 [], .bool false] 1 [(0, 7, (.t 8))] false⟩, ⟨some 10, none, .bld [.sl 2 [], .sl 7 [], .sl 7 [], .sl 5 []] [(1, 1, (.t 9))]⟩, ⟨some 1, none, .alloc [.own 2 [], .own 7 [], .own 7 [], .own 5 []]⟩, ⟨none, none, .st 4 (.t 1) (.t 10)⟩])
    (.seq (.reg [⟨some 11, none, .bld [.int .i64 0, .int .i64 0, .int .i64 0, .bool false, .int .u16 0] [(0, 1, (.c (.int .i64 5))), (1, 1, (.c (.int .i64 5))), (2, 1, (.c (.int .i64 3))), (4, 1, (.c (.int .u16 255)))]⟩, ⟨some 2, none, .alloc [.int .i64 0, .int .i64 0, .int .i64 0, .bool false, .int .u16 0]⟩, ⟨none, none, .st 5 (.t 2) (.t 11)⟩])
    (.seq (.reg [⟨some 13, none, .ld (some 4) (.t 1)⟩, ⟨some 14, none, .ld (some 5) (.t 2)⟩, ⟨some 15, none, .callc n_alike_Classes [(.t 13), (.t 14)]⟩, ⟨some 12, none, .mv (.t 15)⟩, ⟨some 16, none, .ext (.t 12) 0⟩, ⟨some 17, none, .ext (.t 12) 1⟩, ⟨some 3, none, .tk (.t 16)⟩, ⟨some 4, none, .tk (.t 17)⟩])
    (.seq (.reg [⟨some 19, none, .ld (some 4) (.t 1)⟩, ⟨some 20, none, .ld (some 5) (.t 2)⟩, ⟨some 21, none, .callc n_alike_Idle [(.t 19), (.t 20)]⟩, ⟨some 18, none, .mv (.t 21)⟩, ⟨some 22, none, .ext (.t 18) 0⟩, ⟨some 23, none, .ext (.t 18) 1⟩, ⟨some 5, none, .tk (.t 22)⟩, ⟨some 6, none, .tk (.t 23)⟩])
    (.seq (.reg [⟨some 24, none, .ld (some 4) (.t 1)⟩, ⟨some 25, none, .callck n_trace_Of [(.t 24), (.c (.int .i64 5)), (.c (.own 1 []))]⟩, ⟨some 7, none, .alloc [.own 38 [], .own 5 [], .int .i64 0, .int .i64 0]⟩, ⟨none, none, .st 4 (.t 7) (.t 25)⟩])
    (.seq (.drw [[], [], [], [], [], [], [], [], [], [], [], [], [], [], [], [], [], [], [], [], [], [], [], [], [], [], [], [], [], [], [], [], [], []] [⟨some 26, none, .mv (.t 4)⟩, ⟨some 27, none, .callc n_flotsamlaw41_num [(.t 26)]⟩, ⟨some 28, none, .mv (.t 6)⟩, ⟨some 29, none, .callc n_flotsamlaw41_num [(.t 28)]⟩, ⟨some 30, none, .ia .add .i64 (.t 27) (.t 29)⟩, ⟨some 31, none, .ic .eql (.t 30) (.c (.int .i64 0))⟩, ⟨some 32, none, .mv (.t 31)⟩, ⟨some 33, (some (32, true)), .mv (.t 3)⟩, ⟨some 34, (some (32, true)), .bsl 1 [.int .i64 0] 1 [(0, 1, (.c (.int .i64 0)))] false⟩, ⟨some 35, (some (32, true)), .callc n_flotsamlaw04_Ints [(.t 33), (.t 34)]⟩, ⟨some 36, none, .pick (.t 32) (.t 35) (.c (.bool false))⟩, ⟨some 37, none, .mv (.t 36)⟩, ⟨some 38, (some (37, true)), .mv (.t 5)⟩, ⟨some 39, (some (37, true)), .len false (.t 38)⟩, ⟨some 40, (some (37, true)), .ic .eql (.t 39) (.c (.int .i64 0))⟩, ⟨some 41, none, .pick (.t 37) (.t 40) (.c (.bool false))⟩, ⟨some 42, none, .mv (.t 41)⟩, ⟨some 43, (some (42, true)), .ld (some 4) (.t 7)⟩, ⟨some 44, (some (42, true)), .ld (some 4) (.t 7)⟩, ⟨some 45, (some (42, true)), .callc n_alike_Same [(.t 43), (.t 44)]⟩, ⟨some 46, none, .pick (.t 42) (.t 45) (.c (.bool false))⟩, ⟨some 47, none, .mv (.t 46)⟩, ⟨some 48, (some (47, true)), .ld (some 4) (.t 7)⟩, ⟨some 49, (some (47, true)), .ld (some 4) (.t 1)⟩, ⟨some 50, (some (47, true)), .callck n_trace_Of [(.t 49), (.c (.int .i64 0)), (.c (.own 1 []))]⟩, ⟨some 51, (some (47, true)), .callc n_alike_Same [(.t 48), (.t 50)]⟩, ⟨some 52, (some (47, true)), .notb (.t 51)⟩, ⟨some 53, none, .pick (.t 47) (.t 52) (.c (.bool false))⟩, ⟨some 54, none, .mv (.t 53)⟩, ⟨some 55, (some (54, true)), .ld (some 4) (.t 1)⟩, ⟨some 56, (some (54, true)), .ld (some 4) (.t 1)⟩, ⟨some 57, (some (54, true)), .callc n_alike_Alike [(.t 55), (.t 56), (.c (.int .i64 5))]⟩, ⟨some 58, none, .pick (.t 54) (.t 57) (.c (.bool false))⟩, ⟨some 0, none, .tk (.t 58)⟩])
    (.ret)))))))) }

-- flotsam/alike.Same
def c_alike_Same : AFunc :=
  { np := 2, res := [.t 4], body := (
    .seq (.reg [⟨some 2, none, .box (.t 0)⟩, ⟨some 3, none, .box (.t 1)⟩, ⟨some 4, none, .tk (.c (.bool false))⟩])
    (.seq (.reg [⟨some 5, none, .tk (.c (.fn (.func n_alike_Same_1) [] []))⟩])
    (.seq (.drw [[], [], [], [], [], [], [], [], [], [], [], [], [], [], []] [⟨some 6, none, .mv (.t 5)⟩, ⟨some 7, none, .ld (some 4) (.t 2)⟩, ⟨some 8, none, .callvc (.t 6) [(.t 7)]⟩, ⟨some 9, none, .mv (.t 5)⟩, ⟨some 10, none, .ld (some 4) (.t 3)⟩, ⟨some 11, none, .callvc (.t 9) [(.t 10)]⟩, ⟨some 12, none, .eqb false (.t 8) (.t 11)⟩, ⟨some 13, none, .mv (.t 12)⟩, ⟨some 14, (some (13, true)), .fa 0 (.t 2)⟩, ⟨some 15, (some (13, true)), .ld none (.t 14)⟩, ⟨some 16, (some (13, true)), .fa 0 (.t 3)⟩, ⟨some 17, (some (13, true)), .ld none (.t 16)⟩, ⟨some 18, (some (13, true)), .callc n_slices_EqualFunc_api_Event_api_Event_api_Event_api_Event [(.t 15), (.t 17), (.c (.fn (.func n_alike_event) [] []))]⟩, ⟨some 19, none, .pick (.t 13) (.t 18) (.c (.bool false))⟩, ⟨some 4, none, .tk (.t 19)⟩])
    (.ret)))) }

-- flotsam/flotsamlaw24.Trace
def b_flotsamlaw24_Trace_0 : AC :=
  .seq (.seq (.reg [⟨some 12, none, .mv (.t 4)⟩, ⟨some 13, none, .fa 1 (.t 1)⟩, ⟨some 14, none, .ld none (.t 13)⟩, ⟨some 15, none, .len false (.t 14)⟩, ⟨some 16, none, .ic .lss (.t 12) (.t 15)⟩])
    (.cond (.t 16)
      (.skip)
      (.exit 0)))
  (.seq (.block 1 (.drw [[], [], [], [], [], [], [], [], [], [], []] [⟨some 19, none, .fa 1 (.t 3)⟩, ⟨some 20, none, .ldo (.t 19)⟩, ⟨some 21, none, .fa 1 (.t 1)⟩, ⟨some 22, none, .ld none (.t 21)⟩, ⟨some 23, none, .mv (.t 4)⟩, ⟨some 24, none, .ixa 5 none (.t 22) (.t 23)⟩, ⟨some 25, none, .ld (some 5) (.t 24)⟩, ⟨some 26, none, .bsl 5 [.int .i64 0, .int .i64 0, .int .i64 0, .int .i64 0, .int .i64 0] 1 [(0, 5, (.t 25))] false⟩, ⟨some 27, none, .app 5 40 (.t 20) (.t 26) false⟩, ⟨some 28, none, .fa 1 (.t 3)⟩, ⟨none, none, .st 1 (.t 28) (.t 27)⟩]))
  (.reg [⟨some 17, none, .mv (.t 4)⟩, ⟨some 18, none, .ia .add .i64 (.t 17) (.c (.int .i64 1))⟩, ⟨some 4, none, .tk (.t 18)⟩]))

def l_flotsamlaw24_Trace_0 : AC :=
  .loop [1, 2, 3, 4] b_flotsamlaw24_Trace_0

def r_flotsamlaw24_Trace_0 : AC :=
  .seq (.reg [⟨some 29, none, .ld (some 4) (.t 3)⟩, ⟨none, none, .st 4 (.t 2) (.t 29)⟩])
  (.ret)

def c_flotsamlaw24_Trace : AFunc :=
  { np := 1, res := [.cell 2 (some 4)], body := (
    .seq (.reg [⟨some 1, none, .box (.t 0)⟩, ⟨some 2, none, .alloc [.own 38 [], .own 5 [], .int .i64 0, .int .i64 0]⟩])
    (.seq (.reg [⟨some 5, none, .fa 0 (.t 1)⟩, ⟨some 6, none, .ld none (.t 5)⟩, ⟨some 7, none, .fa 2 (.t 1)⟩, ⟨some 8, none, .ld none (.t 7)⟩, ⟨some 9, none, .fa 3 (.t 1)⟩, ⟨some 10, none, .ld none (.t 9)⟩, ⟨some 11, none, .bld [.sl 38 [], .nils 5, .int .i64 0, .int .i64 0] [(0, 1, (.t 6)), (2, 1, (.t 8)), (3, 1, (.t 10))]⟩, ⟨some 3, none, .alloc [.own 38 [], .own 5 [], .int .i64 0, .int .i64 0]⟩, ⟨none, none, .st 4 (.t 3) (.t 11)⟩])
    (.seq (.seq (.reg [⟨some 4, none, .tk (.c (.int .i64 0))⟩])
      (.block 0 (l_flotsamlaw24_Trace_0))) r_flotsamlaw24_Trace_0))) }

-- flotsam/flotsamref41.Same
def c_flotsamref41_Same : AFunc :=
  { np := 2, res := [.t 4], body := (
    .seq (.reg [⟨some 2, none, .box (.t 0)⟩, ⟨some 3, none, .box (.t 1)⟩, ⟨some 4, none, .tk (.c (.bool false))⟩])
    (.seq (.reg [⟨some 5, none, .fa 2 (.t 2)⟩, ⟨some 6, none, .ld none (.t 5)⟩, ⟨some 7, none, .ic .eql (.t 6) (.c (.int .i64 10))⟩, ⟨some 8, none, .fa 2 (.t 3)⟩, ⟨some 9, none, .ld none (.t 8)⟩, ⟨some 10, none, .ic .eql (.t 9) (.c (.int .i64 10))⟩, ⟨some 11, none, .eqb false (.t 7) (.t 10)⟩, ⟨some 12, none, .mv (.t 11)⟩, ⟨some 13, (some (12, true)), .fa 0 (.t 2)⟩, ⟨some 14, (some (12, true)), .ld none (.t 13)⟩, ⟨some 15, (some (12, true)), .fa 0 (.t 3)⟩, ⟨some 16, (some (12, true)), .ld none (.t 15)⟩, ⟨some 17, (some (12, true)), .callc n_flotsamref05_Events [(.t 14), (.t 16)]⟩, ⟨some 18, none, .pick (.t 12) (.t 17) (.c (.bool false))⟩, ⟨some 4, none, .tk (.t 18)⟩])
    (.ret))) }

-- flotsam/alike.Classes
def b_alike_Classes_0 : AC :=
  .seq (.seq (.drw [[], [], [], [], [], [], [], [], [], [], [], [], [], [], [], [], [], [], [], [], [], [], [], [], []] [⟨some 31, none, .mv (.t 12)⟩, ⟨some 32, none, .mv (.t 10)⟩, ⟨some 33, none, .ic .lss (.t 31) (.t 32)⟩, ⟨some 34, none, .mv (.t 33)⟩, ⟨some 35, (some (34, true)), .fa 11 (.t 11)⟩, ⟨some 36, (some (34, true)), .ld (some 4) (.t 35)⟩, ⟨some 37, (some (34, true)), .callc n_alike_rest [(.t 36)]⟩, ⟨some 38, (some (34, true)), .ld none (.t 6)⟩, ⟨some 39, (some (34, true)), .mv (.t 12)⟩, ⟨some 40, (some (34, true)), .ixa 15 none (.t 38) (.t 39)⟩, ⟨some 41, (some (34, true)), .fa 11 (.t 40)⟩, ⟨some 42, (some (34, true)), .ld (some 4) (.t 41)⟩, ⟨some 43, (some (34, true)), .callc n_alike_rest [(.t 42)]⟩, ⟨some 44, (some (34, true)), .callc n_tree_Same [(.t 37), (.t 43)]⟩, ⟨some 45, (some (34, true)), .mv (.t 44)⟩, ⟨some 46, (some (45, true)), .mv (.t 8)⟩, ⟨some 47, (some (45, true)), .mv (.t 10)⟩, ⟨some 48, (some (45, true)), .callvc (.t 46) [(.t 47)]⟩, ⟨some 49, (some (45, true)), .mv (.t 8)⟩, ⟨some 50, (some (45, true)), .mv (.t 12)⟩, ⟨some 51, (some (45, true)), .callvc (.t 49) [(.t 50)]⟩, ⟨some 52, (some (45, true)), .callc n_alike_Same [(.t 48), (.t 51)]⟩, ⟨some 53, (some (34, true)), .pick (.t 45) (.t 52) (.c (.bool false))⟩, ⟨some 54, (some (34, true)), .notb (.t 53)⟩, ⟨some 55, none, .pick (.t 34) (.t 54) (.c (.bool false))⟩])
    (.cond (.t 55)
      (.skip)
      (.exit 2)))
  (stuckC)

def l_alike_Classes_0 : AC :=
  .loop [6, 7, 8, 9, 10, 11, 12, 21, 22, 23] b_alike_Classes_0

def r_alike_Classes_0 : AC :=
  .reg [⟨some 58, none, .tk (.t 9)⟩, ⟨some 59, none, .mv (.t 12)⟩, ⟨some 60, none, .bsl 1 [.int .i64 0] 1 [(0, 1, (.t 59))] false⟩, ⟨some 61, none, .app 1 8 (.t 58) (.t 60) false⟩, ⟨some 9, none, .tk (.t 61)⟩]

def r_alike_Classes_1 : AC :=
  .reg [⟨some 62, none, .ia .add .i64 (.t 23) (.c (.int .i64 1))⟩, ⟨some 23, none, .mv (.t 62)⟩]

def b_alike_Classes_1 : AC :=
  .seq (.reg [⟨some 24, none, .ic .lss (.t 23) (.t 22)⟩])
  (.seq (.cond (.t 24)
      (.skip)
      (.exit 0))
  (.seq (.block 1 (.seq (.reg [⟨some 25, none, .mv (.t 23)⟩, ⟨some 26, none, .ixa 15 none (.t 21) (.t 23)⟩, ⟨some 27, none, .ld (some 15) (.t 26)⟩, ⟨some 11, none, .alloc [.int .i64 0, .int .i64 0, .int .i64 0, .int .i64 0, .int .i64 0, .int .i64 0, .int .i64 0, .int .i64 0, .int .i64 0, .int .i64 0, .int .i64 0, .own 2 [], .own 7 [], .own 7 [], .own 5 []]⟩, ⟨some 10, none, .tk (.t 25)⟩, ⟨none, none, .st 15 (.t 11) (.t 27)⟩])
      (.seq (.reg [⟨some 28, none, .ld none (.t 6)⟩, ⟨some 29, none, .mkf (.func n_alike_Classes_2) [] [(.t 11)]⟩, ⟨some 30, none, .call n_slices_IndexFunc_mutants_Mutant_mutants_Mutant [(.t 28), (.t 29)]⟩, ⟨some 12, none, .tk (.t 30)⟩])
      (.seq (.block 2 (l_alike_Classes_0)) r_alike_Classes_0)))) r_alike_Classes_1))

def l_alike_Classes_1 : AC :=
  .loop [6, 7, 8, 9, 21, 22, 23] b_alike_Classes_1

def r_alike_Classes_2 : AC :=
  .seq (.reg [⟨some 63, none, .tk (.t 9)⟩, ⟨some 64, none, .mv (.t 7)⟩, ⟨some 4, none, .tk (.t 63)⟩, ⟨some 5, none, .tk (.t 64)⟩])
  (.ret)

def c_alike_Classes : AFunc :=
  { np := 2, res := [.t 4, .t 5], body := (
    .seq (.reg [⟨some 2, none, .box (.t 0)⟩, ⟨some 3, none, .box (.t 1)⟩, ⟨some 4, none, .tk (.c (.own 1 []))⟩, ⟨some 5, none, .tk (.c (.int .i64 0))⟩])
    (.seq (.reg [⟨some 14, none, .ld (some 4) (.t 2)⟩, ⟨some 15, none, .ld (some 5) (.t 3)⟩, ⟨some 16, none, .callc n_alike_all [(.t 14), (.t 15)]⟩, ⟨some 13, none, .mv (.t 16)⟩, ⟨some 17, none, .ext (.t 13) 0⟩, ⟨some 18, none, .ext (.t 13) 1⟩, ⟨some 6, none, .alloc [.own 15 []]⟩, ⟨none, none, .st 1 (.t 6) (.t 17)⟩, ⟨some 7, none, .tk (.t 18)⟩])
    (.seq (.reg [⟨some 19, none, .mkf (.func n_alike_Classes_1) [] [(.t 6), (.t 3)]⟩, ⟨some 20, none, .call n_alike_once [(.t 19)]⟩, ⟨some 8, none, .tk (.t 20)⟩])
    (.seq (.reg [⟨some 9, none, .tk (.c (.own 1 []))⟩])
    (.seq (.seq (.reg [⟨some 21, none, .ld none (.t 6)⟩, ⟨some 22, none, .len false (.t 21)⟩, ⟨some 23, none, .mv (.c (.int .i64 0))⟩])
      (.block 0 (l_alike_Classes_1))) r_alike_Classes_2))))) }

-- flotsam/alike.Idle
def b_alike_Idle_0 : AC :=
  .seq (.reg [⟨some 20, none, .ic .lss (.t 19) (.t 18)⟩])
  (.seq (.cond (.t 20)
      (.skip)
      (.exit 0))
  (.seq (.block 1 (.seq (.reg [⟨some 21, none, .ixa 15 none (.t 17) (.t 19)⟩, ⟨some 22, none, .ld (some 15) (.t 21)⟩, ⟨some 10, none, .alloc [.int .i64 0, .int .i64 0, .int .i64 0, .int .i64 0, .int .i64 0, .int .i64 0, .int .i64 0, .int .i64 0, .int .i64 0, .int .i64 0, .int .i64 0, .own 2 [], .own 7 [], .own 7 [], .own 5 []]⟩, ⟨none, none, .st 15 (.t 10) (.t 22)⟩])
      (.seq (.reg [⟨some 23, none, .ld (some 4) (.t 2)⟩, ⟨some 24, none, .fa 11 (.t 10)⟩, ⟨some 25, none, .ld (some 4) (.t 24)⟩, ⟨some 26, none, .fa 0 (.t 3)⟩, ⟨some 27, none, .ld none (.t 26)⟩, ⟨some 28, none, .callc n_alike_Alike [(.t 23), (.t 25), (.t 27)]⟩])
      (.cond (.t 28)
        (stuckC)
        (.skip)))))
  (.reg [⟨some 34, none, .ia .add .i64 (.t 19) (.c (.int .i64 1))⟩, ⟨some 19, none, .mv (.t 34)⟩])))

def l_alike_Idle_0 : AC :=
  .loop [2, 3, 7, 8, 17, 18, 19] b_alike_Idle_0

def r_alike_Idle_0 : AC :=
  .seq (.reg [⟨some 35, none, .tk (.t 8)⟩, ⟨some 36, none, .mv (.t 7)⟩, ⟨some 4, none, .tk (.t 35)⟩, ⟨some 5, none, .tk (.t 36)⟩])
  (.ret)

def c_alike_Idle : AFunc :=
  { np := 2, res := [.t 4, .t 5], body := (
    .seq (.reg [⟨some 2, none, .box (.t 0)⟩, ⟨some 3, none, .box (.t 1)⟩, ⟨some 4, none, .tk (.c (.own 11 []))⟩, ⟨some 5, none, .tk (.c (.int .i64 0))⟩])
    (.seq (.reg [⟨some 12, none, .ld (some 4) (.t 2)⟩, ⟨some 13, none, .ld (some 5) (.t 3)⟩, ⟨some 14, none, .callc n_alike_all [(.t 12), (.t 13)]⟩, ⟨some 11, none, .mv (.t 14)⟩, ⟨some 15, none, .ext (.t 11) 0⟩, ⟨some 16, none, .ext (.t 11) 1⟩, ⟨some 6, none, .tk (.t 15)⟩, ⟨some 7, none, .tk (.t 16)⟩])
    (.seq (.reg [⟨some 8, none, .tk (.c (.own 11 []))⟩])
    (.seq (.seq (.reg [⟨some 17, none, .mv (.t 6)⟩, ⟨some 18, none, .len false (.t 17)⟩, ⟨some 19, none, .mv (.c (.int .i64 0))⟩])
      (.block 0 (l_alike_Idle_0))) r_alike_Idle_0)))) }

-- flotsam/flotsamlaw41.num
def c_flotsamlaw41_num : AFunc :=
  { np := 1, res := [.t 2], body := (
    .seq (.reg [⟨some 2, none, .tk (.c (.int .i64 0))⟩])
    (.seq (.reg [⟨some 3, none, .mv (.t 0)⟩, ⟨some 2, none, .tk (.t 3)⟩])
    (.ret))) }

-- flotsam/flotsamlaw04.Ints
def b_flotsamlaw04_Ints_0 : AC :=
  .seq (.seq (.reg [⟨some 11, none, .mv (.t 5)⟩, ⟨some 12, none, .mv (.t 0)⟩, ⟨some 13, none, .len false (.t 12)⟩, ⟨some 14, none, .ic .lss (.t 11) (.t 13)⟩])
    (.cond (.t 14)
      (.skip)
      (.exit 0)))
  (.seq (.block 1 (.seq (.drw [[], [], [], [], [], [], [], [], []] [⟨some 17, none, .mv (.t 0)⟩, ⟨some 18, none, .mv (.t 5)⟩, ⟨some 19, none, .ixa 1 none (.t 17) (.t 18)⟩, ⟨some 20, none, .ld none (.t 19)⟩, ⟨some 21, none, .mv (.t 1)⟩, ⟨some 22, none, .mv (.t 5)⟩, ⟨some 23, none, .ixa 1 none (.t 21) (.t 22)⟩, ⟨some 24, none, .ld none (.t 23)⟩, ⟨some 25, none, .ic .neq (.t 20) (.t 24)⟩])
      (.cond (.t 25)
        (stuckC)
        (.skip))))
  (.reg [⟨some 15, none, .mv (.t 5)⟩, ⟨some 16, none, .ia .add .i64 (.t 15) (.c (.int .i64 1))⟩, ⟨some 5, none, .tk (.t 16)⟩]))

def l_flotsamlaw04_Ints_0 : AC :=
  .loop [0, 1, 5] b_flotsamlaw04_Ints_0

def r_flotsamlaw04_Ints_0 : AC :=
  .seq (.reg [⟨some 4, none, .tk (.c (.bool true))⟩])
  (.ret)

def c_flotsamlaw04_Ints : AFunc :=
  { np := 2, res := [.t 4], body := (
    .seq (.reg [⟨some 4, none, .tk (.c (.bool false))⟩])
    (.seq (.seq (.reg [⟨some 6, none, .mv (.t 0)⟩, ⟨some 7, none, .len false (.t 6)⟩, ⟨some 8, none, .mv (.t 1)⟩, ⟨some 9, none, .len false (.t 8)⟩, ⟨some 10, none, .ic .neq (.t 7) (.t 9)⟩])
      (.cond (.t 10)
        (stuckC)
        (.skip)))
    (.seq (.seq (.reg [⟨some 5, none, .tk (.c (.int .i64 0))⟩])
      (.block 0 (l_flotsamlaw04_Ints_0))) r_flotsamlaw04_Ints_0))) }

-- flotsam/alike.Alike
def c_alike_Alike : AFunc :=
  { np := 3, res := [.t 6], body := (
    .seq (.reg [⟨some 3, none, .box (.t 0)⟩, ⟨some 4, none, .box (.t 1)⟩, ⟨some 6, none, .tk (.c (.bool false))⟩])
    (.seq (.reg [⟨some 8, none, .ld (some 4) (.t 3)⟩, ⟨some 9, none, .callc n_bound_Check [(.t 8)]⟩, ⟨some 10, none, .bld [.int .i64 0, .int .i64 0] []⟩, ⟨some 11, none, .eqa false [.int .i64, .int .i64] (.t 9) (.t 10)⟩, ⟨some 12, none, .mv (.t 11)⟩, ⟨some 13, (some (12, true)), .ld (some 4) (.t 4)⟩, ⟨some 14, (some (12, true)), .callc n_bound_Check [(.t 13)]⟩, ⟨some 15, (some (12, true)), .bld [.int .i64 0, .int .i64 0] []⟩, ⟨some 16, (some (12, true)), .eqa false [.int .i64, .int .i64] (.t 14) (.t 15)⟩, ⟨some 17, none, .pick (.t 12) (.t 16) (.c (.bool false))⟩, ⟨some 7, none, .tk (.t 17)⟩])
    (.seq (.drw [[], [], [], [], [], [], [], [], [], [], [], [], [], [], [], [], [], []] [⟨some 18, none, .mv (.t 7)⟩, ⟨some 19, none, .mv (.t 18)⟩, ⟨some 20, (some (19, true)), .ld (some 4) (.t 3)⟩, ⟨some 21, (some (19, true)), .callc n_alike_rest [(.t 20)]⟩, ⟨some 22, (some (19, true)), .ld (some 4) (.t 4)⟩, ⟨some 23, (some (19, true)), .callc n_alike_rest [(.t 22)]⟩, ⟨some 24, (some (19, true)), .callc n_tree_Same [(.t 21), (.t 23)]⟩, ⟨some 25, none, .pick (.t 19) (.t 24) (.c (.bool false))⟩, ⟨some 26, none, .mv (.t 25)⟩, ⟨some 27, (some (26, true)), .ld (some 4) (.t 3)⟩, ⟨some 28, (some (26, true)), .mv (.t 2)⟩, ⟨some 29, (some (26, true)), .callck n_trace_Of [(.t 27), (.t 28), (.c (.own 1 []))]⟩, ⟨some 30, (some (26, true)), .ld (some 4) (.t 4)⟩, ⟨some 31, (some (26, true)), .mv (.t 2)⟩, ⟨some 32, (some (26, true)), .callck n_trace_Of [(.t 30), (.t 31), (.c (.own 1 []))]⟩, ⟨some 33, (some (26, true)), .callc n_alike_Same [(.t 29), (.t 32)]⟩, ⟨some 34, none, .pick (.t 26) (.t 33) (.c (.bool false))⟩, ⟨some 6, none, .tk (.t 34)⟩])
    (.ret)))) }

-- flotsam/alike.Same$1
def c_alike_Same_1 : AFunc :=
  { np := 1, res := [.t 2], body := (
    .seq (.reg [⟨some 1, none, .box (.t 0)⟩, ⟨some 2, none, .tk (.c (.bool false))⟩])
    (.seq (.reg [⟨some 3, none, .fa 2 (.t 1)⟩, ⟨some 4, none, .ld none (.t 3)⟩, ⟨some 5, none, .ic .eql (.t 4) (.c (.int .i64 10))⟩, ⟨some 2, none, .tk (.t 5)⟩])
    (.ret))) }

-- slices.EqualFunc[[]flotsam/api.Event,[]flotsam/api.Event,flotsam/api.Event,flotsam/api.Event]
def b_slices_EqualFunc_api_Event_api_Event_api_Event_api_Event_0 : AC :=
  .seq (.reg [⟨some 18, none, .ic .lss (.t 17) (.t 16)⟩])
  (.seq (.cond (.t 18)
      (.skip)
      (.exit 0))
  (.seq (.block 1 (.seq (.reg [⟨some 19, none, .mv (.t 17)⟩, ⟨some 20, none, .ixa 38 none (.t 15) (.t 17)⟩, ⟨some 21, none, .ld (some 38) (.t 20)⟩, ⟨some 8, none, .alloc [.int .i64 0, .int .i64 0, .int .u8 0, .int .u8 0, .int .u8 0, .int .u8 0, .int .u8 0, .int .u8 0, .int .u8 0, .int .u8 0, .int .u8 0, .int .u8 0, .int .u8 0, .int .u8 0, .int .u8 0, .int .u8 0, .int .u8 0, .int .u8 0, .int .u8 0, .int .u8 0, .int .u8 0, .int .u8 0, .int .u8 0, .int .u8 0, .int .u8 0, .int .u8 0, .int .u8 0, .int .u8 0, .int .u8 0, .int .u8 0, .int .u8 0, .int .u8 0, .int .u8 0, .int .u8 0, .int .i64 0, .int .i64 0, .int .i64 0, .own 2 []]⟩, ⟨some 7, none, .tk (.t 19)⟩, ⟨none, none, .st 38 (.t 8) (.t 21)⟩])
      (.seq (.reg [⟨some 22, none, .mv (.t 1)⟩, ⟨some 23, none, .mv (.t 7)⟩, ⟨some 24, none, .ixa 38 none (.t 22) (.t 23)⟩, ⟨some 25, none, .ld (some 38) (.t 24)⟩, ⟨some 9, none, .alloc [.int .i64 0, .int .i64 0, .int .u8 0, .int .u8 0, .int .u8 0, .int .u8 0, .int .u8 0, .int .u8 0, .int .u8 0, .int .u8 0, .int .u8 0, .int .u8 0, .int .u8 0, .int .u8 0, .int .u8 0, .int .u8 0, .int .u8 0, .int .u8 0, .int .u8 0, .int .u8 0, .int .u8 0, .int .u8 0, .int .u8 0, .int .u8 0, .int .u8 0, .int .u8 0, .int .u8 0, .int .u8 0, .int .u8 0, .int .u8 0, .int .u8 0, .int .u8 0, .int .u8 0, .int .u8 0, .int .i64 0, .int .i64 0, .int .i64 0, .own 2 []]⟩, ⟨none, none, .st 38 (.t 9) (.t 25)⟩])
      (.seq (.reg [⟨some 26, none, .mv (.t 2)⟩, ⟨some 27, none, .ld (some 38) (.t 8)⟩, ⟨some 28, none, .ld (some 38) (.t 9)⟩, ⟨some 29, none, .callv (.t 26) [(.t 27), (.t 28)]⟩, ⟨some 30, none, .notb (.t 29)⟩])
      (.cond (.t 30)
        (.seq (.reg [⟨some 6, none, .tk (.c (.bool false))⟩])
          (.ret))
        (.skip))))))
  (.reg [⟨some 31, none, .ia .add .i64 (.t 17) (.c (.int .i64 1))⟩, ⟨some 17, none, .mv (.t 31)⟩])))

def l_slices_EqualFunc_api_Event_api_Event_api_Event_api_Event_0 : AC :=
  .loop [1, 2, 15, 16, 17] b_slices_EqualFunc_api_Event_api_Event_api_Event_api_Event_0

def r_slices_EqualFunc_api_Event_api_Event_api_Event_api_Event_0 : AC :=
  .seq (.reg [⟨some 6, none, .tk (.c (.bool true))⟩])
  (.ret)

def c_slices_EqualFunc_api_Event_api_Event_api_Event_api_Event : AFunc :=
  { np := 3, res := [.t 6], body := (
    .seq (.reg [⟨some 6, none, .tk (.c (.bool false))⟩])
    (.seq (.seq (.reg [⟨some 10, none, .mv (.t 0)⟩, ⟨some 11, none, .len false (.t 10)⟩, ⟨some 12, none, .mv (.t 1)⟩, ⟨some 13, none, .len false (.t 12)⟩, ⟨some 14, none, .ic .neq (.t 11) (.t 13)⟩])
      (.cond (.t 14)
        (.seq (.reg [⟨some 6, none, .tk (.c (.bool false))⟩])
          (.ret))
        (.skip)))
    (.seq (.seq (.reg [⟨some 15, none, .mv (.t 0)⟩, ⟨some 16, none, .len false (.t 15)⟩, ⟨some 17, none, .mv (.c (.int .i64 0))⟩])
      (.block 0 (l_slices_EqualFunc_api_Event_api_Event_api_Event_api_Event_0))) r_slices_EqualFunc_api_Event_api_Event_api_Event_api_Event_0))) }

-- flotsam/alike.event
def c_alike_event : AFunc :=
  { np := 2, res := [.t 4], body := (
    .seq (.reg [⟨some 2, none, .box (.t 0)⟩, ⟨some 3, none, .box (.t 1)⟩, ⟨some 4, none, .tk (.c (.bool false))⟩])
    (.seq (.reg [⟨some 5, none, .fa 0 (.t 2)⟩, ⟨some 6, none, .ld none (.t 5)⟩, ⟨some 7, none, .fa 0 (.t 3)⟩, ⟨some 8, none, .ld none (.t 7)⟩, ⟨some 9, none, .ic .eql (.t 6) (.t 8)⟩, ⟨some 10, none, .mv (.t 9)⟩, ⟨some 11, (some (10, true)), .fa 1 (.t 2)⟩, ⟨some 12, (some (10, true)), .ld (some 36) (.t 11)⟩, ⟨some 13, (some (10, true)), .fa 1 (.t 3)⟩, ⟨some 14, (some (10, true)), .ld (some 36) (.t 13)⟩, ⟨some 15, (some (10, true)), .eqa false [.int .i64, .int .u8, .int .u8, .int .u8, .int .u8, .int .u8, .int .u8, .int .u8, .int .u8, .int .u8, .int .u8, .int .u8, .int .u8, .int .u8, .int .u8, .int .u8, .int .u8, .int .u8, .int .u8, .int .u8, .int .u8, .int .u8, .int .u8, .int .u8, .int .u8, .int .u8, .int .u8, .int .u8, .int .u8, .int .u8, .int .u8, .int .u8, .int .u8, .int .i64, .int .i64, .int .i64] (.t 12) (.t 14)⟩, ⟨some 16, none, .pick (.t 10) (.t 15) (.c (.bool false))⟩, ⟨some 17, none, .mv (.t 16)⟩, ⟨some 18, (some (17, true)), .fa 37 (.t 2)⟩, ⟨some 19, (some (17, true)), .ld none (.t 18)⟩, ⟨some 20, (some (17, true)), .fa 37 (.t 3)⟩, ⟨some 21, (some (17, true)), .ld none (.t 20)⟩, ⟨some 22, (some (17, true)), .callc n_slices_Equal_api_Tag_api_Tag [(.t 19), (.t 21)]⟩, ⟨some 23, none, .pick (.t 17) (.t 22) (.c (.bool false))⟩, ⟨some 4, none, .tk (.t 23)⟩])
    (.ret))) }

-- flotsam/flotsamref05.Events
def b_flotsamref05_Events_0 : AC :=
  .seq (.seq (.reg [⟨some 11, none, .mv (.t 5)⟩, ⟨some 12, none, .mv (.t 0)⟩, ⟨some 13, none, .len false (.t 12)⟩, ⟨some 14, none, .ic .lss (.t 11) (.t 13)⟩])
    (.cond (.t 14)
      (.skip)
      (.exit 0)))
  (.seq (.block 1 (.seq (.drw [[], [], [], [], [], [], [], [], [], [], [], [], [], [], [], [], [], [], [], [], [], [], [], [], [], [], [], [], [], [], [], [], [], [], [], [], [], []] [⟨some 17, none, .mv (.t 0)⟩, ⟨some 18, none, .mv (.t 5)⟩, ⟨some 19, none, .ixa 38 none (.t 17) (.t 18)⟩, ⟨some 20, none, .fa 0 (.t 19)⟩, ⟨some 21, none, .ld none (.t 20)⟩, ⟨some 22, none, .mv (.t 1)⟩, ⟨some 23, none, .mv (.t 5)⟩, ⟨some 24, none, .ixa 38 none (.t 22) (.t 23)⟩, ⟨some 25, none, .fa 0 (.t 24)⟩, ⟨some 26, none, .ld none (.t 25)⟩, ⟨some 27, none, .ic .neq (.t 21) (.t 26)⟩, ⟨some 28, none, .mv (.t 27)⟩, ⟨some 29, (some (28, false)), .mv (.t 0)⟩, ⟨some 30, (some (28, false)), .mv (.t 5)⟩, ⟨some 31, (some (28, false)), .ixa 38 none (.t 29) (.t 30)⟩, ⟨some 32, (some (28, false)), .fa 1 (.t 31)⟩, ⟨some 33, (some (28, false)), .ld (some 36) (.t 32)⟩, ⟨some 34, (some (28, false)), .mv (.t 1)⟩, ⟨some 35, (some (28, false)), .mv (.t 5)⟩, ⟨some 36, (some (28, false)), .ixa 38 none (.t 34) (.t 35)⟩, ⟨some 37, (some (28, false)), .fa 1 (.t 36)⟩, ⟨some 38, (some (28, false)), .ld (some 36) (.t 37)⟩, ⟨some 39, (some (28, false)), .eqa true [.int .i64, .int .u8, .int .u8, .int .u8, .int .u8, .int .u8, .int .u8, .int .u8, .int .u8, .int .u8, .int .u8, .int .u8, .int .u8, .int .u8, .int .u8, .int .u8, .int .u8, .int .u8, .int .u8, .int .u8, .int .u8, .int .u8, .int .u8, .int .u8, .int .u8, .int .u8, .int .u8, .int .u8, .int .u8, .int .u8, .int .u8, .int .u8, .int .u8, .int .i64, .int .i64, .int .i64] (.t 33) (.t 38)⟩, ⟨some 40, none, .pick (.t 28) (.c (.bool true)) (.t 39)⟩, ⟨some 41, none, .mv (.t 40)⟩, ⟨some 42, (some (41, false)), .mv (.t 0)⟩, ⟨some 43, (some (41, false)), .mv (.t 5)⟩, ⟨some 44, (some (41, false)), .ixa 38 none (.t 42) (.t 43)⟩, ⟨some 45, (some (41, false)), .fa 37 (.t 44)⟩, ⟨some 46, (some (41, false)), .ld none (.t 45)⟩, ⟨some 47, (some (41, false)), .mv (.t 1)⟩, ⟨some 48, (some (41, false)), .mv (.t 5)⟩, ⟨some 49, (some (41, false)), .ixa 38 none (.t 47) (.t 48)⟩, ⟨some 50, (some (41, false)), .fa 37 (.t 49)⟩, ⟨some 51, (some (41, false)), .ld none (.t 50)⟩, ⟨some 52, (some (41, false)), .callc n_flotsamref05_Tags [(.t 46), (.t 51)]⟩, ⟨some 53, (some (41, false)), .notb (.t 52)⟩, ⟨some 54, none, .pick (.t 41) (.c (.bool true)) (.t 53)⟩])
      (.cond (.t 54)
        (.seq (.reg [⟨some 4, none, .tk (.c (.bool false))⟩])
          (.ret))
        (.skip))))
  (.reg [⟨some 15, none, .mv (.t 5)⟩, ⟨some 16, none, .ia .add .i64 (.t 15) (.c (.int .i64 1))⟩, ⟨some 5, none, .tk (.t 16)⟩]))

def l_flotsamref05_Events_0 : AC :=
  .loop [0, 1, 5] b_flotsamref05_Events_0

def r_flotsamref05_Events_0 : AC :=
  .seq (.reg [⟨some 4, none, .tk (.c (.bool true))⟩])
  (.ret)

def c_flotsamref05_Events : AFunc :=
  { np := 2, res := [.t 4], body := (
    .seq (.reg [⟨some 4, none, .tk (.c (.bool false))⟩])
    (.seq (.seq (.reg [⟨some 6, none, .mv (.t 0)⟩, ⟨some 7, none, .len false (.t 6)⟩, ⟨some 8, none, .mv (.t 1)⟩, ⟨some 9, none, .len false (.t 8)⟩, ⟨some 10, none, .ic .neq (.t 7) (.t 9)⟩])
      (.cond (.t 10)
        (.seq (.reg [⟨some 4, none, .tk (.c (.bool false))⟩])
          (.ret))
        (.skip)))
    (.seq (.seq (.reg [⟨some 5, none, .tk (.c (.int .i64 0))⟩])
      (.block 0 (l_flotsamref05_Events_0))) r_flotsamref05_Events_0))) }

-- flotsam/alike.all
def c_alike_all : AFunc :=
  { np := 2, res := [.t 4, .t 5], body := (
    .seq (.reg [⟨some 2, none, .box (.t 0)⟩, ⟨some 3, none, .box (.t 1)⟩, ⟨some 4, none, .tk (.c (.own 15 []))⟩, ⟨some 5, none, .tk (.c (.int .i64 0))⟩])
    (.seq (.seq (.reg [⟨some 6, none, .ld (some 5) (.t 3)⟩, ⟨some 7, none, .callc n_campaign_Right [(.t 6)]⟩, ⟨some 8, none, .notb (.t 7)⟩])
      (.cond (.t 8)
        (stuckC)
        (.skip)))
    (.seq (.reg [⟨some 9, none, .ld (some 4) (.t 2)⟩, ⟨some 10, none, .fa 4 (.t 3)⟩, ⟨some 11, none, .ld none (.t 10)⟩, ⟨some 12, none, .callc n_mutants_All [(.t 9), (.t 11)]⟩, ⟨some 13, none, .ext (.t 12) 0⟩, ⟨some 14, none, .ext (.t 12) 1⟩, ⟨some 4, none, .tk (.t 13)⟩, ⟨some 5, none, .tk (.t 14)⟩])
    (.ret)))) }

-- flotsam/alike.once
def c_alike_once : AFunc :=
  { np := 1, res := [.t 2], body := (
    .seq (.reg [⟨some 1, none, .box (.t 0)⟩, ⟨some 2, none, .tk (.c (.nilf))⟩])
    (.seq (.reg [⟨some 4, none, .mkm false [.int .i64]⟩, ⟨some 3, none, .alloc [.nilm]⟩, ⟨none, none, .st 1 (.t 3) (.t 4)⟩])
    (.seq (.reg [⟨some 5, none, .mkf (.func n_alike_once_1) [] [(.t 3), (.t 1)]⟩, ⟨some 2, none, .tk (.t 5)⟩])
    (.ret)))) }

-- flotsam/alike.Classes$1
def c_alike_Classes_1 : AFunc :=
  { np := 3, res := [.cell 4 (some 4)], body := (
    .seq (.reg [⟨some 4, none, .alloc [.own 38 [], .own 5 [], .int .i64 0, .int .i64 0]⟩])
    (.seq (.drw [[], [], [], [], [], [], [], [], []] [⟨some 5, none, .ld none (.t 1)⟩, ⟨some 6, none, .mv (.t 0)⟩, ⟨some 7, none, .ixa 15 none (.t 5) (.t 6)⟩, ⟨some 8, none, .fa 11 (.t 7)⟩, ⟨some 9, none, .ld (some 4) (.t 8)⟩, ⟨some 10, none, .fa 0 (.t 2)⟩, ⟨some 11, none, .ld none (.t 10)⟩, ⟨some 12, none, .callck n_trace_Of [(.t 9), (.t 11), (.c (.own 1 []))]⟩, ⟨none, none, .st 4 (.t 4) (.t 12)⟩])
    (.ret))) }

-- slices.IndexFunc[[]flotsam/mutants.Mutant,flotsam/mutants.Mutant]
def b_slices_IndexFunc_mutants_Mutant_mutants_Mutant_0 : AC :=
  .seq (.reg [⟨some 9, none, .ic .lss (.t 8) (.t 7)⟩])
  (.seq (.cond (.t 9)
      (.skip)
      (.exit 0))
  (.seq (.block 1 (.seq (.reg [⟨some 10, none, .mv (.t 8)⟩, ⟨some 5, none, .tk (.t 10)⟩])
      (.seq (.reg [⟨some 11, none, .mv (.t 1)⟩, ⟨some 12, none, .mv (.t 0)⟩, ⟨some 13, none, .mv (.t 5)⟩, ⟨some 14, none, .ixa 15 none (.t 12) (.t 13)⟩, ⟨some 15, none, .ld (some 15) (.t 14)⟩, ⟨some 16, none, .callv (.t 11) [(.t 15)]⟩])
      (.cond (.t 16)
        (.seq (.reg [⟨some 17, none, .mv (.t 5)⟩, ⟨some 4, none, .tk (.t 17)⟩])
          (.ret))
        (.skip)))))
  (.reg [⟨some 18, none, .ia .add .i64 (.t 8) (.c (.int .i64 1))⟩, ⟨some 8, none, .mv (.t 18)⟩])))

def l_slices_IndexFunc_mutants_Mutant_mutants_Mutant_0 : AC :=
  .loop [0, 1, 7, 8] b_slices_IndexFunc_mutants_Mutant_mutants_Mutant_0

def r_slices_IndexFunc_mutants_Mutant_mutants_Mutant_0 : AC :=
  .seq (.reg [⟨some 4, none, .tk (.c (.int .i64 (-1)))⟩])
  (.ret)

def c_slices_IndexFunc_mutants_Mutant_mutants_Mutant : AFunc :=
  { np := 2, res := [.t 4], body := (
    .seq (.reg [⟨some 4, none, .tk (.c (.int .i64 0))⟩])
    (.seq (.seq (.reg [⟨some 6, none, .mv (.t 0)⟩, ⟨some 7, none, .len false (.t 6)⟩, ⟨some 8, none, .mv (.c (.int .i64 0))⟩])
      (.block 0 (l_slices_IndexFunc_mutants_Mutant_mutants_Mutant_0))) r_slices_IndexFunc_mutants_Mutant_mutants_Mutant_0)) }

-- flotsam/alike.Classes$2
def c_alike_Classes_2 : AFunc :=
  { np := 2, res := [.t 3], body := (
    .seq (.reg [⟨some 2, none, .box (.t 0)⟩, ⟨some 3, none, .tk (.c (.bool false))⟩])
    (.seq (.drw [[], [], [], [], [], [], [], []] [⟨some 4, none, .fa 11 (.t 1)⟩, ⟨some 5, none, .ld (some 4) (.t 4)⟩, ⟨some 6, none, .callc n_alike_rest [(.t 5)]⟩, ⟨some 7, none, .fa 11 (.t 2)⟩, ⟨some 8, none, .ld (some 4) (.t 7)⟩, ⟨some 9, none, .callc n_alike_rest [(.t 8)]⟩, ⟨some 10, none, .callc n_tree_Same [(.t 6), (.t 9)]⟩, ⟨some 3, none, .tk (.t 10)⟩])
    (.ret))) }

-- flotsam/tree.Same
def c_tree_Same : AFunc :=
  { np := 2, res := [.t 4], body := (
    .seq (.reg [⟨some 2, none, .box (.t 0)⟩, ⟨some 3, none, .box (.t 1)⟩, ⟨some 4, none, .tk (.c (.bool false))⟩])
    (.seq (.reg [⟨some 5, none, .tk (.c (.fn (.func n_tree_Same_1) [] []))⟩])
    (.seq (.reg [⟨some 6, none, .tk (.c (.fn (.func n_tree_Same_2) [] []))⟩])
    (.seq (.reg [⟨some 7, none, .fa 0 (.t 2)⟩, ⟨some 8, none, .ld none (.t 7)⟩, ⟨some 9, none, .fa 0 (.t 3)⟩, ⟨some 10, none, .ld none (.t 9)⟩, ⟨some 11, none, .mv (.t 5)⟩, ⟨some 12, none, .call n_tree_lists_api_Proc [(.t 8), (.t 10), (.t 11)]⟩, ⟨some 13, none, .mv (.t 12)⟩, ⟨some 14, (some (13, true)), .fa 1 (.t 2)⟩, ⟨some 15, (some (13, true)), .ld none (.t 14)⟩, ⟨some 16, (some (13, true)), .fa 1 (.t 3)⟩, ⟨some 17, (some (13, true)), .ld none (.t 16)⟩, ⟨some 18, (some (13, true)), .callc n_tree_lists_api_Stmt [(.t 15), (.t 17), (.c (.fn (.func n_tree_statements) [] []))]⟩, ⟨some 19, none, .pick (.t 13) (.t 18) (.c (.bool false))⟩, ⟨some 20, none, .mv (.t 19)⟩, ⟨some 21, (some (20, true)), .fa 2 (.t 2)⟩, ⟨some 22, (some (20, true)), .ld none (.t 21)⟩, ⟨some 23, (some (20, true)), .fa 2 (.t 3)⟩, ⟨some 24, (some (20, true)), .ld none (.t 23)⟩, ⟨some 25, (some (20, true)), .callc n_tree_lists_api_Stmt [(.t 22), (.t 24), (.c (.fn (.func n_tree_statements) [] []))]⟩, ⟨some 26, none, .pick (.t 20) (.t 25) (.c (.bool false))⟩, ⟨some 27, none, .mv (.t 26)⟩, ⟨some 28, (some (27, true)), .fa 3 (.t 2)⟩, ⟨some 29, (some (27, true)), .ld none (.t 28)⟩, ⟨some 30, (some (27, true)), .fa 3 (.t 3)⟩, ⟨some 31, (some (27, true)), .ld none (.t 30)⟩, ⟨some 32, (some (27, true)), .mv (.t 6)⟩, ⟨some 33, (some (27, true)), .call n_tree_lists_api_Oracle [(.t 29), (.t 31), (.t 32)]⟩, ⟨some 34, none, .pick (.t 27) (.t 33) (.c (.bool false))⟩, ⟨some 4, none, .tk (.t 34)⟩])
    (.ret))))) }

-- flotsam/alike.rest
def c_alike_rest : AFunc :=
  { np := 1, res := [.cell 2 (some 4)], body := (
    .seq (.reg [⟨some 1, none, .box (.t 0)⟩, ⟨some 2, none, .alloc [.own 2 [], .own 7 [], .own 7 [], .own 5 []]⟩])
    (.seq (.reg [⟨some 3, none, .fa 1 (.t 1)⟩, ⟨none, none, .st 1 (.t 3) (.c (.own 7 []))⟩])
    (.seq (.reg [⟨some 4, none, .ld (some 4) (.t 1)⟩, ⟨none, none, .st 4 (.t 2) (.t 4)⟩])
    (.ret)))) }

-- flotsam/bdisk.From
def c_bdisk_From : AFunc :=
  { np := 1, res := [.t 2, .t 3], body := (
    .seq (.reg [⟨some 2, none, .tk (.c (.nilp))⟩, ⟨some 3, none, .tk (.c (.int .i64 0))⟩])
    (.seq (.seq (.reg [⟨some 7, none, .mv (.t 0)⟩, ⟨some 8, none, .len false (.t 7)⟩, ⟨some 9, none, .call n_bdisk_New [(.t 8)]⟩, ⟨some 6, none, .mv (.t 9)⟩, ⟨some 10, none, .ext (.t 6) 0⟩, ⟨some 11, none, .ext (.t 6) 1⟩, ⟨some 4, none, .tk (.t 10)⟩, ⟨some 5, none, .tk (.t 11)⟩])
      (.seq (.reg [⟨some 12, none, .mv (.t 5)⟩, ⟨some 13, none, .ic .neq (.t 12) (.c (.int .i64 0))⟩])
      (.cond (.t 13)
        (stuckC)
        (.skip))))
    (.seq (.reg [⟨some 15, none, .mv (.t 0)⟩, ⟨some 16, none, .callc n_slices_Clone_api_Sector_api_Sector [(.t 15)]⟩, ⟨some 17, none, .bld [.nilm, .int .i64 0, .sl 32 [], .nils 36, .nils 38, .int .i64 0] [(2, 1, (.t 16))]⟩, ⟨some 18, none, .box (.t 17)⟩, ⟨some 2, none, .tk (.t 18)⟩, ⟨some 3, none, .tk (.c (.int .i64 0))⟩])
    (.ret)))) }

-- flotsam/layout.Empty
def c_layout_Empty : AFunc :=
  { np := 0, res := [.t 0], body := (
    .seq (.reg [⟨some 0, none, .tk (.c (.own 32 []))⟩])
    (.seq (.reg [⟨some 2, none, .mk 32 [.int .u8 0, .int .u8 0, .int .u8 0, .int .u8 0, .int .u8 0, .int .u8 0, .int .u8 0, .int .u8 0, .int .u8 0, .int .u8 0, .int .u8 0, .int .u8 0, .int .u8 0, .int .u8 0, .int .u8 0, .int .u8 0, .int .u8 0, .int .u8 0, .int .u8 0, .int .u8 0, .int .u8 0, .int .u8 0, .int .u8 0, .int .u8 0, .int .u8 0, .int .u8 0, .int .u8 0, .int .u8 0, .int .u8 0, .int .u8 0, .int .u8 0, .int .u8 0] 32 (.c (.int .i64 65)) (.c (.int .i64 65))⟩, ⟨some 1, none, .tk (.t 2)⟩])
    (.seq (.reg [⟨some 3, none, .mv (.t 1)⟩, ⟨some 4, none, .callc n_layout_super []⟩, ⟨some 5, none, .ixa 32 none (.t 3) (.c (.int .i64 0))⟩, ⟨none, none, .st 32 (.t 5) (.t 4)⟩])
    (.seq (.reg [⟨some 7, none, .mv (.t 1)⟩, ⟨some 8, none, .bld [.int .i64 0, .int .i64 0, .int .i64 0, .int .i64 0, .int .i64 0, .int .i64 0] [(0, 1, (.c (.int .i64 2)))]⟩, ⟨some 9, none, .callc n_layout_Inode [(.t 8)]⟩, ⟨some 6, none, .mv (.t 9)⟩, ⟨some 10, none, .ext (.t 6) 0⟩, ⟨some 11, none, .ext (.t 6) 1⟩, ⟨some 12, none, .ixa 32 none (.t 7) (.c (.int .i64 1))⟩, ⟨none, none, .st 32 (.t 12) (.t 10)⟩])
    (.seq (.reg [⟨some 13, none, .mv (.t 1)⟩, ⟨some 0, none, .frz 32 (.t 13)⟩])
    (.ret)))))) }

-- flotsam/sfs.Mount
def c_sfs_Mount : AFunc :=
  { np := 1, res := [.t 2, .t 3], body := (
    .seq (.reg [⟨some 2, none, .tk (.c (.nilp))⟩, ⟨some 3, none, .tk (.c (.int .i64 0))⟩])
    (.seq (.block 0 (.seq (.reg [⟨some 5, none, .mv (.t 0)⟩, ⟨some 6, none, .call n_pbdisk_Disk_Safe [(.t 5)]⟩, ⟨some 7, none, .len false (.t 6)⟩, ⟨some 8, none, .ic .eql (.t 7) (.c (.int .i64 0))⟩, ⟨some 4, none, .tk (.t 8)⟩])
        (.cond (.t 4)
          (stuckC)
          (.seq (.reg [⟨some 10, none, .mv (.t 0)⟩, ⟨some 11, none, .call n_look_Mounted [(.t 10)]⟩, ⟨some 12, none, .notb (.t 11)⟩, ⟨some 9, none, .tk (.t 12)⟩])
            (.cond (.t 9)
              (stuckC)
              (.skip))))))
    (.seq (.reg [⟨some 13, none, .mv (.t 0)⟩, ⟨some 14, none, .bld [.nilp] [(0, 1, (.t 13))]⟩, ⟨some 15, none, .box (.t 14)⟩, ⟨some 2, none, .tk (.t 15)⟩, ⟨some 3, none, .tk (.c (.int .i64 0))⟩])
    (.ret)))) }

-- (*flotsam/bdisk.Disk).Log
def b_pbdisk_Disk_Log_0 : AC :=
  .seq (.reg [⟨some 15, none, .ic .lss (.t 14) (.t 13)⟩])
  (.seq (.cond (.t 15)
      (.skip)
      (.exit 0))
  (.seq (.block 1 (.seq (.reg [⟨some 16, none, .mv (.t 14)⟩, ⟨some 4, none, .tk (.t 16)⟩])
      (.reg [⟨some 17, none, .mv (.t 3)⟩, ⟨some 18, none, .mv (.t 4)⟩, ⟨some 19, none, .mv (.t 3)⟩, ⟨some 20, none, .mv (.t 4)⟩, ⟨some 21, none, .ixa 38 none (.t 19) (.t 20)⟩, ⟨some 22, none, .fa 37 (.t 21)⟩, ⟨some 23, none, .ld none (.t 22)⟩, ⟨some 24, none, .callc n_slices_Clone_api_Tag_api_Tag [(.t 23)]⟩, ⟨some 25, none, .ixa 38 none (.t 17) (.t 18)⟩, ⟨some 26, none, .fa 37 (.t 25)⟩, ⟨none, none, .st 1 (.t 26) (.t 24)⟩])))
  (.reg [⟨some 27, none, .ia .add .i64 (.t 14) (.c (.int .i64 1))⟩, ⟨some 14, none, .mv (.t 27)⟩])))

def l_pbdisk_Disk_Log_0 : AC :=
  .loop [3, 13, 14] b_pbdisk_Disk_Log_0

def r_pbdisk_Disk_Log_0 : AC :=
  .seq (.reg [⟨some 28, none, .mv (.t 3)⟩, ⟨some 2, none, .frz 38 (.t 28)⟩])
  (.ret)

def c_pbdisk_Disk_Log : AFunc :=
  { np := 1, res := [.t 2], body := (
    .seq (.reg [⟨some 2, none, .tk (.c (.own 38 []))⟩])
    (.seq (.seq (.reg [⟨some 5, none, .mv (.t 0)⟩, ⟨some 6, none, .call n_pbdisk_Disk_none [(.t 5)]⟩])
      (.cond (.t 6)
        (stuckC)
        (.skip)))
    (.seq (.reg [⟨some 7, none, .mv (.t 0)⟩, ⟨some 8, none, .nck (.t 7)⟩, ⟨some 9, none, .fa 4 (.t 8)⟩, ⟨some 10, none, .ld none (.t 9)⟩, ⟨some 11, none, .call n_slices_Clone_api_Event_api_Event [(.t 10)]⟩, ⟨some 3, none, .tk (.t 11)⟩])
    (.seq (.seq (.reg [⟨some 12, none, .mv (.t 3)⟩, ⟨some 13, none, .len false (.t 12)⟩, ⟨some 14, none, .mv (.c (.int .i64 0))⟩])
      (.block 0 (l_pbdisk_Disk_Log_0))) r_pbdisk_Disk_Log_0)))) }

-- flotsam/bound.Check
def c_bound_Check : AFunc :=
  { np := 1, res := [.cell 2 (some 2)], body := (
    .seq (.reg [⟨some 1, none, .box (.t 0)⟩, ⟨some 2, none, .alloc [.int .i64 0, .int .i64 0]⟩])
    (.seq (.seq (.reg [⟨some 8, none, .ld (some 4) (.t 1)⟩, ⟨some 9, none, .callck n_types_Check [(.t 8)]⟩, ⟨some 3, none, .alloc [.int .i64 0, .int .i64 0]⟩, ⟨none, none, .st 2 (.t 3) (.t 9)⟩])
      (.seq (.reg [⟨some 10, none, .ld (some 2) (.t 3)⟩, ⟨some 11, none, .bld [.int .i64 0, .int .i64 0] []⟩, ⟨some 12, none, .eqa true [.int .i64, .int .i64] (.t 10) (.t 11)⟩])
      (.cond (.t 12)
        (stuckC)
        (.skip))))
    (.seq (.reg [⟨some 14, none, .fa 0 (.t 1)⟩, ⟨some 15, none, .ld none (.t 14)⟩, ⟨some 16, none, .bld [.sl 2 [], .sl 7 [], .sl 7 [], .sl 5 []] [(0, 1, (.t 15))]⟩, ⟨some 17, none, .callc n_tree_All [(.t 16)]⟩, ⟨some 18, none, .len false (.t 17)⟩, ⟨some 4, none, .tk (.t 18)⟩])
    (.seq (.seq (.reg [⟨some 20, none, .ld (some 4) (.t 1)⟩, ⟨some 21, none, .callc n_bound_Steps [(.t 20)]⟩, ⟨some 19, none, .mv (.t 21)⟩, ⟨some 22, none, .ext (.t 19) 0⟩, ⟨some 23, none, .ext (.t 19) 1⟩, ⟨some 24, none, .ext (.t 19) 2⟩, ⟨some 5, none, .tk (.t 22)⟩, ⟨some 6, none, .tk (.t 23)⟩, ⟨some 7, none, .tk (.t 24)⟩])
      (.block 0 (.seq (.reg [⟨some 26, none, .mv (.t 5)⟩, ⟨some 27, none, .ic .eql (.c (.int .i64 65537)) (.t 26)⟩, ⟨some 25, none, .tk (.t 27)⟩])
        (.cond (.t 25)
          (stuckC)
          (.seq (.reg [⟨some 31, none, .mv (.t 6)⟩, ⟨some 32, none, .ic .eql (.c (.int .i64 65537)) (.t 31)⟩, ⟨some 30, none, .tk (.t 32)⟩])
            (.cond (.t 30)
              (stuckC)
              (.skip)))))))
    (.seq (.reg [⟨some 39, none, .bld [.int .i64 0, .int .i64 0] []⟩, ⟨none, none, .st 2 (.t 2) (.t 39)⟩])
    (.ret)))))) }

-- slices.Equal[[]flotsam/api.Tag,flotsam/api.Tag]
def b_slices_Equal_api_Tag_api_Tag_0 : AC :=
  .seq (.reg [⟨some 14, none, .ic .lss (.t 13) (.t 12)⟩])
  (.seq (.cond (.t 14)
      (.skip)
      (.exit 0))
  (.seq (.block 1 (.seq (.reg [⟨some 15, none, .mv (.t 13)⟩, ⟨some 5, none, .tk (.t 15)⟩])
      (.seq (.drw [[], [], [], [], [], [], [], [], []] [⟨some 16, none, .mv (.t 0)⟩, ⟨some 17, none, .mv (.t 5)⟩, ⟨some 18, none, .ixa 2 none (.t 16) (.t 17)⟩, ⟨some 19, none, .ld (some 2) (.t 18)⟩, ⟨some 20, none, .mv (.t 1)⟩, ⟨some 21, none, .mv (.t 5)⟩, ⟨some 22, none, .ixa 2 none (.t 20) (.t 21)⟩, ⟨some 23, none, .ld (some 2) (.t 22)⟩, ⟨some 24, none, .eqa true [.int .i64, .int .i64] (.t 19) (.t 23)⟩])
      (.cond (.t 24)
        (.seq (.reg [⟨some 4, none, .tk (.c (.bool false))⟩])
          (.ret))
        (.skip)))))
  (.reg [⟨some 25, none, .ia .add .i64 (.t 13) (.c (.int .i64 1))⟩, ⟨some 13, none, .mv (.t 25)⟩])))

def l_slices_Equal_api_Tag_api_Tag_0 : AC :=
  .loop [0, 1, 12, 13] b_slices_Equal_api_Tag_api_Tag_0

def r_slices_Equal_api_Tag_api_Tag_0 : AC :=
  .seq (.reg [⟨some 4, none, .tk (.c (.bool true))⟩])
  (.ret)

def c_slices_Equal_api_Tag_api_Tag : AFunc :=
  { np := 2, res := [.t 4], body := (
    .seq (.reg [⟨some 4, none, .tk (.c (.bool false))⟩])
    (.seq (.seq (.reg [⟨some 6, none, .mv (.t 0)⟩, ⟨some 7, none, .len false (.t 6)⟩, ⟨some 8, none, .mv (.t 1)⟩, ⟨some 9, none, .len false (.t 8)⟩, ⟨some 10, none, .ic .neq (.t 7) (.t 9)⟩])
      (.cond (.t 10)
        (.seq (.reg [⟨some 4, none, .tk (.c (.bool false))⟩])
          (.ret))
        (.skip)))
    (.seq (.seq (.reg [⟨some 11, none, .mv (.t 0)⟩, ⟨some 12, none, .len false (.t 11)⟩, ⟨some 13, none, .mv (.c (.int .i64 0))⟩])
      (.block 0 (l_slices_Equal_api_Tag_api_Tag_0))) r_slices_Equal_api_Tag_api_Tag_0))) }

-- flotsam/flotsamref05.Tags
def b_flotsamref05_Tags_0 : AC :=
  .seq (.seq (.reg [⟨some 11, none, .mv (.t 5)⟩, ⟨some 12, none, .mv (.t 0)⟩, ⟨some 13, none, .len false (.t 12)⟩, ⟨some 14, none, .ic .lss (.t 11) (.t 13)⟩])
    (.cond (.t 14)
      (.skip)
      (.exit 0)))
  (.seq (.block 1 (.seq (.drw [[], [], [], [], [], [], [], [], []] [⟨some 17, none, .mv (.t 0)⟩, ⟨some 18, none, .mv (.t 5)⟩, ⟨some 19, none, .ixa 2 none (.t 17) (.t 18)⟩, ⟨some 20, none, .ld (some 2) (.t 19)⟩, ⟨some 21, none, .mv (.t 1)⟩, ⟨some 22, none, .mv (.t 5)⟩, ⟨some 23, none, .ixa 2 none (.t 21) (.t 22)⟩, ⟨some 24, none, .ld (some 2) (.t 23)⟩, ⟨some 25, none, .eqa true [.int .i64, .int .i64] (.t 20) (.t 24)⟩])
      (.cond (.t 25)
        (.seq (.reg [⟨some 4, none, .tk (.c (.bool false))⟩])
          (.ret))
        (.skip))))
  (.reg [⟨some 15, none, .mv (.t 5)⟩, ⟨some 16, none, .ia .add .i64 (.t 15) (.c (.int .i64 1))⟩, ⟨some 5, none, .tk (.t 16)⟩]))

def l_flotsamref05_Tags_0 : AC :=
  .loop [0, 1, 5] b_flotsamref05_Tags_0

def r_flotsamref05_Tags_0 : AC :=
  .seq (.reg [⟨some 4, none, .tk (.c (.bool true))⟩])
  (.ret)

def c_flotsamref05_Tags : AFunc :=
  { np := 2, res := [.t 4], body := (
    .seq (.reg [⟨some 4, none, .tk (.c (.bool false))⟩])
    (.seq (.seq (.reg [⟨some 6, none, .mv (.t 0)⟩, ⟨some 7, none, .len false (.t 6)⟩, ⟨some 8, none, .mv (.t 1)⟩, ⟨some 9, none, .len false (.t 8)⟩, ⟨some 10, none, .ic .neq (.t 7) (.t 9)⟩])
      (.cond (.t 10)
        (.seq (.reg [⟨some 4, none, .tk (.c (.bool false))⟩])
          (.ret))
        (.skip)))
    (.seq (.seq (.reg [⟨some 5, none, .tk (.c (.int .i64 0))⟩])
      (.block 0 (l_flotsamref05_Tags_0))) r_flotsamref05_Tags_0))) }

-- flotsam/campaign.Right
def c_campaign_Right : AFunc :=
  { np := 1, res := [.t 2], body := (
    .seq (.reg [⟨some 1, none, .box (.t 0)⟩, ⟨some 2, none, .tk (.c (.bool false))⟩])
    (.seq (.reg [⟨some 3, none, .tk (.c (.fn (.func n_campaign_Right_1) [] []))⟩])
    (.seq (.reg [⟨some 4, none, .mv (.t 3)⟩, ⟨some 5, none, .fa 0 (.t 1)⟩, ⟨some 6, none, .ld none (.t 5)⟩, ⟨some 7, none, .callv (.t 4) [(.t 6), (.c (.int .i64 65536))]⟩, ⟨some 8, none, .mv (.t 7)⟩, ⟨some 9, (some (8, true)), .mv (.t 3)⟩, ⟨some 10, (some (8, true)), .fa 1 (.t 1)⟩, ⟨some 11, (some (8, true)), .ld none (.t 10)⟩, ⟨some 12, (some (8, true)), .callv (.t 9) [(.t 11), (.c (.int .i64 65536))]⟩, ⟨some 13, none, .pick (.t 8) (.t 12) (.c (.bool false))⟩, ⟨some 14, none, .mv (.t 13)⟩, ⟨some 15, (some (14, true)), .mv (.t 3)⟩, ⟨some 16, (some (14, true)), .fa 2 (.t 1)⟩, ⟨some 17, (some (14, true)), .ld none (.t 16)⟩, ⟨some 18, (some (14, true)), .callv (.t 15) [(.t 17), (.c (.int .i64 8))]⟩, ⟨some 19, none, .pick (.t 14) (.t 18) (.c (.bool false))⟩, ⟨some 20, none, .mv (.t 19)⟩, ⟨some 21, (some (20, true)), .fa 4 (.t 1)⟩, ⟨some 22, (some (20, true)), .ld none (.t 21)⟩, ⟨some 23, (some (20, true)), .ic .leq (.t 22) (.c (.int .u16 255))⟩, ⟨some 24, none, .pick (.t 20) (.t 23) (.c (.bool false))⟩, ⟨some 2, none, .tk (.t 24)⟩])
    (.ret)))) }

-- flotsam/mutants.All
def b_mutants_All_0 : AC :=
  .seq (.reg [⟨some 29, none, .ic .lss (.t 28) (.t 27)⟩])
  (.seq (.cond (.t 29)
      (.skip)
      (.exit 0))
  (.seq (.block 1 (.seq (.reg [⟨some 30, none, .ixa 11 none (.t 26) (.t 28)⟩, ⟨some 31, none, .ld (some 11) (.t 30)⟩, ⟨some 10, none, .alloc [.int .i64 0, .int .i64 0, .int .i64 0, .int .i64 0, .int .i64 0, .int .i64 0, .int .i64 0, .int .i64 0, .int .i64 0, .int .i64 0, .int .i64 0]⟩, ⟨none, none, .st 11 (.t 10) (.t 31)⟩])
      (.seq (.reg [⟨some 33, none, .mv (.t 7)⟩, ⟨some 34, none, .ld (some 4) (.t 2)⟩, ⟨some 35, none, .ld (some 11) (.t 10)⟩, ⟨some 36, none, .call n_mutants_met_of [(.t 33), (.t 34), (.t 35)]⟩, ⟨some 32, none, .mv (.t 36)⟩, ⟨some 37, none, .ext (.t 32) 0⟩, ⟨some 38, none, .ext (.t 32) 1⟩, ⟨some 11, none, .alloc [.int .i64 0, .int .i64 0, .int .i64 0, .int .i64 0, .int .i64 0, .int .i64 0, .int .i64 0, .int .i64 0, .int .i64 0, .int .i64 0, .int .i64 0, .own 2 [], .own 7 [], .own 7 [], .own 5 []]⟩, ⟨none, none, .st 15 (.t 11) (.t 37)⟩, ⟨some 12, none, .tk (.t 38)⟩])
      (.seq (.reg [⟨some 39, none, .mv (.t 12)⟩])
      (.cond (.t 39)
        (.reg [⟨some 40, none, .tk (.t 8)⟩, ⟨some 41, none, .ld (some 15) (.t 11)⟩, ⟨some 42, none, .bsl 15 [.int .i64 0, .int .i64 0, .int .i64 0, .int .i64 0, .int .i64 0, .int .i64 0, .int .i64 0, .int .i64 0, .int .i64 0, .int .i64 0, .int .i64 0, .sl 2 [], .sl 7 [], .sl 7 [], .sl 5 []] 1 [(0, 15, (.t 41))] false⟩, ⟨some 43, none, .app 15 184 (.t 40) (.t 42) false⟩, ⟨some 8, none, .tk (.t 43)⟩])
        (.skip))))))
  (.reg [⟨some 44, none, .ia .add .i64 (.t 28) (.c (.int .i64 1))⟩, ⟨some 28, none, .mv (.t 44)⟩])))

def l_mutants_All_0 : AC :=
  .loop [2, 7, 8, 26, 27, 28] b_mutants_All_0

def r_mutants_All_0 : AC :=
  .seq (.seq (.reg [⟨some 45, none, .mv (.t 8)⟩, ⟨some 46, none, .len false (.t 45)⟩, ⟨some 47, none, .ic .gtr (.t 46) (.c (.int .i64 512))⟩])
    (.cond (.t 47)
      (stuckC)
      (.skip)))
  (.seq (.reg [⟨some 48, none, .tk (.t 8)⟩, ⟨some 4, none, .tk (.t 48)⟩, ⟨some 5, none, .tk (.c (.int .i64 0))⟩])
  (.ret))

def c_mutants_All : AFunc :=
  { np := 2, res := [.t 4, .t 5], body := (
    .seq (.reg [⟨some 2, none, .box (.t 0)⟩, ⟨some 4, none, .tk (.c (.own 15 []))⟩, ⟨some 5, none, .tk (.c (.int .i64 0))⟩])
    (.seq (.seq (.reg [⟨some 13, none, .ld (some 4) (.t 2)⟩, ⟨some 14, none, .callc n_bound_Check [(.t 13)]⟩, ⟨some 6, none, .alloc [.int .i64 0, .int .i64 0]⟩, ⟨none, none, .st 2 (.t 6) (.t 14)⟩])
      (.seq (.reg [⟨some 15, none, .ld (some 2) (.t 6)⟩, ⟨some 16, none, .bld [.int .i64 0, .int .i64 0] []⟩, ⟨some 17, none, .eqa true [.int .i64, .int .i64] (.t 15) (.t 16)⟩])
      (.cond (.t 17)
        (stuckC)
        (.skip))))
    (.seq (.reg [⟨some 20, none, .mkm false [.str]⟩, ⟨some 7, none, .tk (.t 20)⟩])
    (.seq (.reg [⟨some 21, none, .mv (.t 7)⟩, ⟨some 22, none, .ld (some 4) (.t 2)⟩, ⟨some 23, none, .call n_mutants_met_fresh [(.t 21), (.t 22)]⟩])
    (.seq (.reg [⟨some 8, none, .tk (.c (.own 15 []))⟩])
    (.seq (.seq (.reg [⟨some 24, none, .ld (some 4) (.t 2)⟩, ⟨some 25, none, .mv (.t 1)⟩, ⟨some 26, none, .callc n_site_Sites [(.t 24), (.t 25)]⟩, ⟨some 27, none, .len false (.t 26)⟩, ⟨some 28, none, .mv (.c (.int .i64 0))⟩])
      (.block 0 (l_mutants_All_0))) r_mutants_All_0)))))) }

-- flotsam/alike.once$1
def c_alike_once_1 : AFunc :=
  { np := 3, res := [.cell 4 (some 4)], body := (
    .seq (.reg [⟨some 4, none, .alloc [.own 38 [], .own 5 [], .int .i64 0, .int .i64 0]⟩])
    (stuckC)) }

-- flotsam/tree.Same$1
def c_tree_Same_1 : AFunc :=
  { np := 2, res := [.t 4], body := (
    .seq (.reg [⟨some 2, none, .box (.t 0)⟩, ⟨some 3, none, .box (.t 1)⟩, ⟨some 4, none, .tk (.c (.bool false))⟩])
    (.seq (.reg [⟨some 5, none, .fa 0 (.t 2)⟩, ⟨some 6, none, .ld none (.t 5)⟩, ⟨some 7, none, .fa 0 (.t 3)⟩, ⟨some 8, none, .ld none (.t 7)⟩, ⟨some 9, none, .sop .eql (.t 6) (.t 8)⟩, ⟨some 10, none, .mv (.t 9)⟩, ⟨some 11, (some (10, true)), .fa 1 (.t 2)⟩, ⟨some 12, (some (10, true)), .ld none (.t 11)⟩, ⟨some 13, (some (10, true)), .fa 1 (.t 3)⟩, ⟨some 14, (some (10, true)), .ld none (.t 13)⟩, ⟨some 15, (some (10, true)), .callc n_tree_lists_api_Stmt [(.t 12), (.t 14), (.c (.fn (.func n_tree_statements) [] []))]⟩, ⟨some 16, none, .pick (.t 10) (.t 15) (.c (.bool false))⟩, ⟨some 4, none, .tk (.t 16)⟩])
    (.ret))) }

-- flotsam/tree.lists[flotsam/api.Stmt]
def c_tree_lists_api_Stmt : AFunc :=
  { np := 3, res := [.t 6], body := (
    .seq (.reg [⟨some 6, none, .tk (.c (.bool false))⟩])
    (.seq (.reg [⟨some 7, none, .mv (.t 0)⟩, ⟨some 8, none, .len false (.t 7)⟩, ⟨some 9, none, .mv (.t 1)⟩, ⟨some 10, none, .len false (.t 9)⟩, ⟨some 11, none, .ic .eql (.t 8) (.t 10)⟩, ⟨some 12, none, .mv (.t 11)⟩, ⟨some 13, (some (12, true)), .mv (.t 0)⟩, ⟨some 14, (some (12, true)), .mv (.t 1)⟩, ⟨some 15, (some (12, true)), .mv (.t 2)⟩, ⟨some 16, (some (12, true)), .call n_slices_EqualFunc_api_Stmt_api_Stmt_api_Stmt_api_Stmt [(.t 13), (.t 14), (.t 15)]⟩, ⟨some 17, none, .pick (.t 12) (.t 16) (.c (.bool false))⟩, ⟨some 6, none, .tk (.t 17)⟩])
    (.ret))) }

-- flotsam/tree.statements
def c_tree_statements : AFunc :=
  { np := 2, res := [.t 4], body := (
    .seq (.reg [⟨some 2, none, .box (.t 0)⟩, ⟨some 3, none, .box (.t 1)⟩, ⟨some 4, none, .tk (.c (.bool false))⟩])
    (stuckC)) }

-- flotsam/tree.Same$2
def c_tree_Same_2 : AFunc :=
  { np := 2, res := [.t 4], body := (
    .seq (.reg [⟨some 2, none, .box (.t 0)⟩, ⟨some 3, none, .box (.t 1)⟩, ⟨some 4, none, .tk (.c (.bool false))⟩])
    (.seq (.reg [⟨some 5, none, .fa 0 (.t 2)⟩, ⟨some 6, none, .ld none (.t 5)⟩, ⟨some 7, none, .fa 0 (.t 3)⟩, ⟨some 8, none, .ld none (.t 7)⟩, ⟨some 9, none, .sop .eql (.t 6) (.t 8)⟩, ⟨some 10, none, .mv (.t 9)⟩, ⟨some 11, (some (10, true)), .fa 1 (.t 2)⟩, ⟨some 12, (some (10, true)), .ld (some 4) (.t 11)⟩, ⟨some 13, (some (10, true)), .fa 1 (.t 3)⟩, ⟨some 14, (some (10, true)), .ld (some 4) (.t 13)⟩, ⟨some 15, (some (10, true)), .callc n_tree_expressions [(.t 12), (.t 14)]⟩, ⟨some 16, none, .pick (.t 10) (.t 15) (.c (.bool false))⟩, ⟨some 4, none, .tk (.t 16)⟩])
    (.ret))) }

-- flotsam/tree.expressions
def c_tree_expressions : AFunc :=
  { np := 2, res := [.t 4], body := (
    .seq (.reg [⟨some 2, none, .box (.t 0)⟩, ⟨some 3, none, .box (.t 1)⟩, ⟨some 4, none, .tk (.c (.bool false))⟩])
    (stuckC)) }

-- flotsam/tree.lists[flotsam/api.Proc]
def c_tree_lists_api_Proc : AFunc :=
  { np := 3, res := [.t 6], body := (
    .seq (.reg [⟨some 6, none, .tk (.c (.bool false))⟩])
    (.seq (.reg [⟨some 7, none, .mv (.t 0)⟩, ⟨some 8, none, .len false (.t 7)⟩, ⟨some 9, none, .mv (.t 1)⟩, ⟨some 10, none, .len false (.t 9)⟩, ⟨some 11, none, .ic .eql (.t 8) (.t 10)⟩, ⟨some 12, none, .mv (.t 11)⟩, ⟨some 13, (some (12, true)), .mv (.t 0)⟩, ⟨some 14, (some (12, true)), .mv (.t 1)⟩, ⟨some 15, (some (12, true)), .mv (.t 2)⟩, ⟨some 16, (some (12, true)), .call n_slices_EqualFunc_api_Proc_api_Proc_api_Proc_api_Proc [(.t 13), (.t 14), (.t 15)]⟩, ⟨some 17, none, .pick (.t 12) (.t 16) (.c (.bool false))⟩, ⟨some 6, none, .tk (.t 17)⟩])
    (.ret))) }

-- flotsam/tree.lists[flotsam/api.Oracle]
def c_tree_lists_api_Oracle : AFunc :=
  { np := 3, res := [.t 6], body := (
    .seq (.reg [⟨some 6, none, .tk (.c (.bool false))⟩])
    (.seq (.reg [⟨some 7, none, .mv (.t 0)⟩, ⟨some 8, none, .len false (.t 7)⟩, ⟨some 9, none, .mv (.t 1)⟩, ⟨some 10, none, .len false (.t 9)⟩, ⟨some 11, none, .ic .eql (.t 8) (.t 10)⟩, ⟨some 12, none, .mv (.t 11)⟩, ⟨some 13, (some (12, true)), .mv (.t 0)⟩, ⟨some 14, (some (12, true)), .mv (.t 1)⟩, ⟨some 15, (some (12, true)), .mv (.t 2)⟩, ⟨some 16, (some (12, true)), .call n_slices_EqualFunc_api_Oracle_api_Oracle_api_Oracle_api_Oracle [(.t 13), (.t 14), (.t 15)]⟩, ⟨some 17, none, .pick (.t 12) (.t 16) (.c (.bool false))⟩, ⟨some 6, none, .tk (.t 17)⟩])
    (.ret))) }

-- flotsam/bdisk.New
def c_bdisk_New : AFunc :=
  { np := 1, res := [.t 2, .t 3], body := (
    .seq (.reg [⟨some 2, none, .tk (.c (.nilp))⟩, ⟨some 3, none, .tk (.c (.int .i64 0))⟩])
    (.seq (.seq (.reg [⟨some 4, none, .mv (.t 0)⟩, ⟨some 5, none, .ic .lss (.t 4) (.c (.int .i64 1))⟩, ⟨some 6, none, .mv (.t 5)⟩, ⟨some 7, (some (6, false)), .mv (.t 0)⟩, ⟨some 8, (some (6, false)), .ic .gtr (.t 7) (.c (.int .i64 65))⟩, ⟨some 9, none, .pick (.t 6) (.c (.bool true)) (.t 8)⟩])
      (.cond (.t 9)
        (stuckC)
        (.skip)))
    (.seq (.reg [⟨some 10, none, .mv (.t 0)⟩, ⟨some 11, none, .mkz 32 [.int .u8 0, .int .u8 0, .int .u8 0, .int .u8 0, .int .u8 0, .int .u8 0, .int .u8 0, .int .u8 0, .int .u8 0, .int .u8 0, .int .u8 0, .int .u8 0, .int .u8 0, .int .u8 0, .int .u8 0, .int .u8 0, .int .u8 0, .int .u8 0, .int .u8 0, .int .u8 0, .int .u8 0, .int .u8 0, .int .u8 0, .int .u8 0, .int .u8 0, .int .u8 0, .int .u8 0, .int .u8 0, .int .u8 0, .int .u8 0, .int .u8 0, .int .u8 0] 32 (.t 10) (.t 10)⟩, ⟨some 12, none, .bld [.nilm, .int .i64 0, .sl 32 [], .sl 36 [], .sl 38 [], .int .i64 0] [(2, 1, (.t 11))]⟩, ⟨some 13, none, .box (.t 12)⟩, ⟨some 2, none, .tk (.t 13)⟩, ⟨some 3, none, .tk (.c (.int .i64 0))⟩])
    (.ret)))) }

-- slices.Clone[[]flotsam/api.Sector,flotsam/api.Sector]
def c_slices_Clone_api_Sector_api_Sector : AFunc :=
  { np := 1, res := [.t 2], body := (
    .seq (.reg [⟨some 2, none, .tk (.c (.own 32 []))⟩])
    (.seq (.seq (.reg [⟨some 3, none, .mv (.t 0)⟩, ⟨some 4, none, .isn false (.t 3)⟩])
      (.cond (.t 4)
        (.seq (.reg [⟨some 2, none, .tk (.c (.own 32 []))⟩])
          (.ret))
        (.skip)))
    (.seq (.reg [⟨some 5, none, .bsl 32 [.int .u8 0, .int .u8 0, .int .u8 0, .int .u8 0, .int .u8 0, .int .u8 0, .int .u8 0, .int .u8 0, .int .u8 0, .int .u8 0, .int .u8 0, .int .u8 0, .int .u8 0, .int .u8 0, .int .u8 0, .int .u8 0, .int .u8 0, .int .u8 0, .int .u8 0, .int .u8 0, .int .u8 0, .int .u8 0, .int .u8 0, .int .u8 0, .int .u8 0, .int .u8 0, .int .u8 0, .int .u8 0, .int .u8 0, .int .u8 0, .int .u8 0, .int .u8 0] 0 [] false⟩, ⟨some 6, none, .mv (.t 0)⟩, ⟨some 7, none, .app 32 32 (.t 5) (.t 6) false⟩, ⟨some 2, none, .tk (.t 7)⟩])
    (.ret)))) }

-- flotsam/layout.Inode
def b_layout_Inode_0 : AC :=
  .seq (.reg [⟨some 22, none, .ic .lss (.t 21) (.c (.int .i64 4))⟩])
  (.seq (.cond (.t 22)
      (.skip)
      (.exit 0))
  (.seq (.block 1 (.seq (.reg [⟨some 23, none, .mv (.t 21)⟩, ⟨some 24, none, .ixv none 1 4 (.t 20) (.t 21)⟩, ⟨some 5, none, .tk (.t 23)⟩, ⟨some 6, none, .tk (.t 24)⟩])
      (.reg [⟨some 25, none, .mv (.t 5)⟩, ⟨some 26, none, .ia .add .i64 (.c (.int .i64 2)) (.t 25)⟩, ⟨some 27, none, .mv (.t 6)⟩, ⟨some 28, none, .conv .u8 (.t 27)⟩, ⟨some 29, none, .ixa 1 (some 32) (.t 4) (.t 26)⟩, ⟨none, none, .st 1 (.t 29) (.t 28)⟩])))
  (.reg [⟨some 30, none, .ia .add .i64 (.t 21) (.c (.int .i64 1))⟩, ⟨some 21, none, .mv (.t 30)⟩])))

def l_layout_Inode_0 : AC :=
  .loop [2, 4, 20, 21] b_layout_Inode_0

def r_layout_Inode_0 : AC :=
  .seq (.reg [⟨some 31, none, .ld (some 32) (.t 4)⟩, ⟨none, none, .st 32 (.t 2) (.t 31)⟩, ⟨some 3, none, .tk (.c (.bool true))⟩])
  (.ret)

def c_layout_Inode : AFunc :=
  { np := 1, res := [.cell 2 (some 32), .t 3], body := (
    .seq (.reg [⟨some 1, none, .box (.t 0)⟩, ⟨some 2, none, .alloc [.int .u8 0, .int .u8 0, .int .u8 0, .int .u8 0, .int .u8 0, .int .u8 0, .int .u8 0, .int .u8 0, .int .u8 0, .int .u8 0, .int .u8 0, .int .u8 0, .int .u8 0, .int .u8 0, .int .u8 0, .int .u8 0, .int .u8 0, .int .u8 0, .int .u8 0, .int .u8 0, .int .u8 0, .int .u8 0, .int .u8 0, .int .u8 0, .int .u8 0, .int .u8 0, .int .u8 0, .int .u8 0, .int .u8 0, .int .u8 0, .int .u8 0, .int .u8 0]⟩, ⟨some 3, none, .tk (.c (.bool false))⟩])
    (.seq (.reg [⟨some 4, none, .alloc [.int .u8 0, .int .u8 0, .int .u8 0, .int .u8 0, .int .u8 0, .int .u8 0, .int .u8 0, .int .u8 0, .int .u8 0, .int .u8 0, .int .u8 0, .int .u8 0, .int .u8 0, .int .u8 0, .int .u8 0, .int .u8 0, .int .u8 0, .int .u8 0, .int .u8 0, .int .u8 0, .int .u8 0, .int .u8 0, .int .u8 0, .int .u8 0, .int .u8 0, .int .u8 0, .int .u8 0, .int .u8 0, .int .u8 0, .int .u8 0, .int .u8 0, .int .u8 0]⟩])
    (.seq (.seq (.reg [⟨some 7, none, .ld (some 6) (.t 1)⟩, ⟨some 8, none, .callc n_layout_RightInode [(.t 7)]⟩, ⟨some 9, none, .notb (.t 8)⟩])
      (.cond (.t 9)
        (stuckC)
        (.skip)))
    (.seq (.drw [[], [], [], [], [], [], [], [], [], []] [⟨some 11, none, .fa 0 (.t 1)⟩, ⟨some 12, none, .ld none (.t 11)⟩, ⟨some 13, none, .conv .u8 (.t 12)⟩, ⟨some 14, none, .fa 1 (.t 1)⟩, ⟨some 15, none, .ldq none (.t 14) (.t 1)⟩, ⟨some 16, none, .conv .u8 (.t 15)⟩, ⟨some 17, none, .ixa 1 (some 32) (.t 4) (.c (.int .i64 0))⟩, ⟨none, none, .stq 1 (.t 17) (.t 13) [(.t 1)]⟩, ⟨some 18, none, .ixa 1 (some 32) (.t 4) (.c (.int .i64 1))⟩, ⟨none, none, .st 1 (.t 18) (.t 16)⟩])
    (.seq (.seq (.reg [⟨some 19, none, .fa 2 (.t 1)⟩, ⟨some 20, none, .ld (some 4) (.t 19)⟩, ⟨some 21, none, .mv (.c (.int .i64 0))⟩])
      (.block 0 (l_layout_Inode_0))) r_layout_Inode_0))))) }

-- (*flotsam/bdisk.Disk).Safe
def c_pbdisk_Disk_Safe : AFunc :=
  { np := 1, res := [.t 2], body := (
    .seq (.reg [⟨some 2, none, .tk (.c (.own 32 []))⟩])
    (.seq (.seq (.reg [⟨some 3, none, .mv (.t 0)⟩, ⟨some 4, none, .call n_pbdisk_Disk_none [(.t 3)]⟩])
      (.cond (.t 4)
        (stuckC)
        (.skip)))
    (.seq (.reg [⟨some 5, none, .mv (.t 0)⟩, ⟨some 6, none, .nck (.t 5)⟩, ⟨some 7, none, .fa 2 (.t 6)⟩, ⟨some 8, none, .ld none (.t 7)⟩, ⟨some 9, none, .callc n_slices_Clone_api_Sector_api_Sector [(.t 8)]⟩, ⟨some 2, none, .tk (.t 9)⟩])
    (.ret)))) }

-- flotsam/look.Mounted
def b_look_Mounted_0 : AC :=
  .seq (.reg [⟨some 8, none, .ic .lss (.t 7) (.c (.int .i64 65))⟩])
  (.seq (.cond (.t 8)
      (.skip)
      (.exit 0))
  (.seq (.block 1 (.seq (.reg [⟨some 9, none, .mv (.t 7)⟩, ⟨some 4, none, .tk (.t 9)⟩])
      (.seq (.reg [⟨some 11, none, .mv (.t 0)⟩, ⟨some 12, none, .mv (.t 4)⟩, ⟨some 13, none, .call n_pbdisk_Disk_Read [(.t 11), (.t 12)]⟩, ⟨some 10, none, .mv (.t 13)⟩, ⟨some 14, none, .ext (.t 10) 0⟩, ⟨some 15, none, .ext (.t 10) 1⟩, ⟨some 5, none, .alloc [.int .u8 0, .int .u8 0, .int .u8 0, .int .u8 0, .int .u8 0, .int .u8 0, .int .u8 0, .int .u8 0, .int .u8 0, .int .u8 0, .int .u8 0, .int .u8 0, .int .u8 0, .int .u8 0, .int .u8 0, .int .u8 0, .int .u8 0, .int .u8 0, .int .u8 0, .int .u8 0, .int .u8 0, .int .u8 0, .int .u8 0, .int .u8 0, .int .u8 0, .int .u8 0, .int .u8 0, .int .u8 0, .int .u8 0, .int .u8 0, .int .u8 0, .int .u8 0]⟩, ⟨none, none, .st 32 (.t 5) (.t 14)⟩, ⟨some 6, none, .tk (.t 15)⟩])
      (.seq (.seq (.reg [⟨some 16, none, .mv (.t 6)⟩, ⟨some 17, none, .ic .neq (.t 16) (.c (.int .i64 0))⟩])
        (.cond (.t 17)
          (.exit 0)
          (.skip)))
      (.reg [⟨some 18, none, .tk (.t 3)⟩, ⟨some 19, none, .ld (some 32) (.t 5)⟩, ⟨some 20, none, .bsl 32 [.int .u8 0, .int .u8 0, .int .u8 0, .int .u8 0, .int .u8 0, .int .u8 0, .int .u8 0, .int .u8 0, .int .u8 0, .int .u8 0, .int .u8 0, .int .u8 0, .int .u8 0, .int .u8 0, .int .u8 0, .int .u8 0, .int .u8 0, .int .u8 0, .int .u8 0, .int .u8 0, .int .u8 0, .int .u8 0, .int .u8 0, .int .u8 0, .int .u8 0, .int .u8 0, .int .u8 0, .int .u8 0, .int .u8 0, .int .u8 0, .int .u8 0, .int .u8 0] 1 [(0, 32, (.t 19))] false⟩, ⟨some 21, none, .app 32 32 (.t 18) (.t 20) false⟩, ⟨some 3, none, .tk (.t 21)⟩])))))
  (.reg [⟨some 22, none, .ia .add .i64 (.t 7) (.c (.int .i64 1))⟩, ⟨some 7, none, .mv (.t 22)⟩])))

def l_look_Mounted_0 : AC :=
  .loop [0, 3, 7] b_look_Mounted_0

def r_look_Mounted_0 : AC :=
  .seq (.reg [⟨some 23, none, .mv (.t 3)⟩, ⟨some 24, none, .callc n_layout_Mounts [(.t 23)]⟩, ⟨some 2, none, .tk (.t 24)⟩])
  (.ret)

def c_look_Mounted : AFunc :=
  { np := 1, res := [.t 2], body := (
    .seq (.reg [⟨some 2, none, .tk (.c (.bool false))⟩])
    (.seq (.reg [⟨some 3, none, .tk (.c (.own 32 []))⟩])
    (.seq (.seq (.reg [⟨some 7, none, .mv (.c (.int .i64 0))⟩])
      (.block 0 (l_look_Mounted_0))) r_look_Mounted_0))) }

-- (*flotsam/bdisk.Disk).none
def c_pbdisk_Disk_none : AFunc :=
  { np := 1, res := [.t 2], body := (
    .seq (.reg [⟨some 2, none, .tk (.c (.bool false))⟩])
    (.seq (.reg [⟨some 3, none, .mv (.t 0)⟩, ⟨some 4, none, .isp false (.t 3)⟩, ⟨some 5, none, .mv (.t 4)⟩, ⟨some 6, (some (5, false)), .mv (.t 0)⟩, ⟨some 7, (some (5, false)), .nck (.t 6)⟩, ⟨some 8, (some (5, false)), .fa 2 (.t 7)⟩, ⟨some 9, (some (5, false)), .ld none (.t 8)⟩, ⟨some 10, (some (5, false)), .len false (.t 9)⟩, ⟨some 11, (some (5, false)), .ic .eql (.t 10) (.c (.int .i64 0))⟩, ⟨some 12, none, .pick (.t 5) (.c (.bool true)) (.t 11)⟩, ⟨some 2, none, .tk (.t 12)⟩])
    (.ret))) }

-- (*flotsam/sfs.FS).Disk
def c_psfs_FS_Disk : AFunc :=
  { np := 1, res := [.t 2], body := (
    .seq (.reg [⟨some 2, none, .tk (.c (.nilp))⟩])
    (.seq (.seq (.reg [⟨some 3, none, .mv (.t 0)⟩, ⟨some 4, none, .call n_psfs_FS_none [(.t 3)]⟩])
      (.cond (.t 4)
        (stuckC)
        (.skip)))
    (.seq (.reg [⟨some 5, none, .mv (.t 0)⟩, ⟨some 6, none, .nck (.t 5)⟩, ⟨some 7, none, .fa 0 (.t 6)⟩, ⟨some 8, none, .ld none (.t 7)⟩, ⟨some 2, none, .tk (.t 8)⟩])
    (.ret)))) }

-- (*flotsam/interp.machine).block
def b_pinterp_machine_block_0 : AC :=
  .seq (.reg [⟨some 20, none, .ic .lss (.t 19) (.t 18)⟩])
  (.seq (.cond (.t 20)
      (.skip)
      (.exit 0))
  (.seq (.block 1 (.seq (.reg [⟨some 21, none, .ixa 7 none (.t 17) (.t 19)⟩, ⟨some 22, none, .ld (some 7) (.t 21)⟩, ⟨some 9, none, .alloc [.int .i64 0, .str [], .int .i64 0, .own 4 [], .own 7 [], .own 7 [], .bool false]⟩, ⟨none, none, .st 7 (.t 9) (.t 22)⟩])
      (.seq (.seq (.reg [⟨some 23, none, .ld none (.t 3)⟩, ⟨some 24, none, .ld (some 7) (.t 9)⟩, ⟨some 25, none, .mv (.t 2)⟩, ⟨some 26, none, .call n_pinterp_machine_stmt [(.t 23), (.t 24), (.t 25)]⟩, ⟨some 10, none, .tk (.t 26)⟩])
        (.seq (.reg [⟨some 27, none, .mv (.t 10)⟩, ⟨some 28, none, .ic .neq (.t 27) (.c (.int .i64 0))⟩])
        (.cond (.t 28)
          (.seq (.reg [⟨some 29, none, .mv (.t 10)⟩, ⟨some 6, none, .tk (.t 29)⟩])
            (.ret))
          (.skip))))
      (.reg [⟨some 30, none, .mv (.t 2)⟩, ⟨some 31, none, .ld (some 7) (.t 9)⟩, ⟨some 32, none, .bsl 7 [.int .i64 0, .str [], .int .i64 0, .sl 4 [], .sl 7 [], .sl 7 [], .bool false] 1 [(0, 7, (.t 31))] false⟩, ⟨some 33, none, .callc n_tree_Count [(.t 32)]⟩, ⟨some 34, none, .ia .add .i64 (.t 30) (.t 33)⟩, ⟨some 2, none, .tk (.t 34)⟩]))))
  (.reg [⟨some 35, none, .ia .add .i64 (.t 19) (.c (.int .i64 1))⟩, ⟨some 19, none, .mv (.t 35)⟩])))

def l_pinterp_machine_block_0 : AC :=
  .loop [2, 3, 17, 18, 19] b_pinterp_machine_block_0

def r_pinterp_machine_block_0 : AC :=
  .seq (.reg [⟨some 6, none, .tk (.c (.int .i64 0))⟩])
  (.ret)

def c_pinterp_machine_block : AFunc :=
  { np := 3, res := [.t 6], body := (
    .dfr (.seq (.reg [⟨some 3, none, .box (.t 0)⟩, ⟨some 6, none, .tk (.c (.int .i64 0))⟩])
      (.reg [⟨some 11, none, .ld none (.t 3)⟩, ⟨some 12, none, .nck (.t 11)⟩, ⟨some 13, none, .fa 4 (.t 12)⟩, ⟨some 14, none, .ld none (.t 13)⟩, ⟨some 15, none, .len false (.t 14)⟩, ⟨some 7, none, .alloc [.int .i64 0]⟩, ⟨none, none, .st 1 (.t 7) (.t 15)⟩]))
    (.c (.bool true))
    (.seq .skip
      (.reg [⟨some 16, none, .mkf (.func n_pinterp_machine_block_1) [] [(.t 3), (.t 7)]⟩]))
    n_pinterp_machine_block_1 [3, 7] (
    .seq (.seq (.reg [⟨some 17, none, .mv (.t 1)⟩, ⟨some 18, none, .len false (.t 17)⟩, ⟨some 19, none, .mv (.c (.int .i64 0))⟩])
      (.block 0 (l_pinterp_machine_block_0))) r_pinterp_machine_block_0)) }

-- flotsam/tree.Count
def a_tree_Count_0 : AC :=
  .skip

def y_tree_Count_0 : AC :=
  .block 1 (.reg [⟨some 7, none, .ld none (.t 3)⟩, ⟨some 8, none, .ia .add .i64 (.t 7) (.c (.int .i64 1))⟩, ⟨none, none, .st 1 (.t 3) (.t 8)⟩])

def r_tree_Count_0 : AC :=
  .seq (.reg [⟨some 9, none, .ld none (.t 3)⟩, ⟨some 2, none, .tk (.t 9)⟩])
  (.ret)

def c_tree_Count : AFunc :=
  { np := 1, res := [.t 2], body := (
    .seq (.reg [⟨some 2, none, .tk (.c (.int .i64 0))⟩])
    (.seq (.reg [⟨some 3, none, .alloc [.int .i64 0]⟩, ⟨none, none, .st 1 (.t 3) (.c (.int .i64 0))⟩])
    (.seq (.seq (.reg [⟨some 4, none, .mv (.t 0)⟩, ⟨some 5, none, .call n_tree_walk [(.t 4)]⟩])
      (.block 0 (.rfn (.t 5) [3] q_tree_Count_0 [6] a_tree_Count_0 y_tree_Count_0))) r_tree_Count_0))) }

-- slices.Clone[[]flotsam/api.Event,flotsam/api.Event]
def c_slices_Clone_api_Event_api_Event : AFunc :=
  { np := 1, res := [.t 2], body := (
    .seq (.reg [⟨some 2, none, .tk (.c (.own 38 []))⟩])
    (.seq (.seq (.reg [⟨some 3, none, .mv (.t 0)⟩, ⟨some 4, none, .isn false (.t 3)⟩])
      (.cond (.t 4)
        (.seq (.reg [⟨some 2, none, .tk (.c (.own 38 []))⟩])
          (.ret))
        (.skip)))
    (.seq (.reg [⟨some 5, none, .bsl 38 [.int .i64 0, .int .i64 0, .int .u8 0, .int .u8 0, .int .u8 0, .int .u8 0, .int .u8 0, .int .u8 0, .int .u8 0, .int .u8 0, .int .u8 0, .int .u8 0, .int .u8 0, .int .u8 0, .int .u8 0, .int .u8 0, .int .u8 0, .int .u8 0, .int .u8 0, .int .u8 0, .int .u8 0, .int .u8 0, .int .u8 0, .int .u8 0, .int .u8 0, .int .u8 0, .int .u8 0, .int .u8 0, .int .u8 0, .int .u8 0, .int .u8 0, .int .u8 0, .int .u8 0, .int .u8 0, .int .i64 0, .int .i64 0, .int .i64 0, .sl 2 []] 0 [] false⟩, ⟨some 6, none, .mv (.t 0)⟩, ⟨some 7, none, .app 38 96 (.t 5) (.t 6) true⟩, ⟨some 2, none, .tk (.t 7)⟩])
    (.ret)))) }

-- slices.Clone[[]flotsam/api.Tag,flotsam/api.Tag]
def c_slices_Clone_api_Tag_api_Tag : AFunc :=
  { np := 1, res := [.t 2], body := (
    .seq (.reg [⟨some 2, none, .tk (.c (.own 2 []))⟩])
    (.seq (.seq (.reg [⟨some 3, none, .mv (.t 0)⟩, ⟨some 4, none, .isn false (.t 3)⟩])
      (.cond (.t 4)
        (.seq (.reg [⟨some 2, none, .tk (.c (.own 2 []))⟩])
          (.ret))
        (.skip)))
    (.seq (.reg [⟨some 5, none, .bsl 2 [.int .i64 0, .int .i64 0] 0 [] false⟩, ⟨some 6, none, .mv (.t 0)⟩, ⟨some 7, none, .app 2 16 (.t 5) (.t 6) false⟩, ⟨some 2, none, .tk (.t 7)⟩])
    (.ret)))) }

-- flotsam/tree.All
def a_tree_All_0 : AC :=
  .reg [⟨some 6, none, .alloc [.int .i64 0, .str [], .int .i64 0, .own 4 [], .own 7 [], .own 7 [], .bool false]⟩, ⟨none, none, .st 7 (.t 6) (.t 16)⟩]

def y_tree_All_0 : AC :=
  .block 3 (.drw [[], [], [], [], [], [], [], [], []] [⟨some 17, none, .ldo (.t 3)⟩, ⟨some 18, none, .ld (some 7) (.t 6)⟩, ⟨some 19, none, .callc n_tree_cloned [(.t 18)]⟩, ⟨some 20, none, .len false (.t 17)⟩, ⟨some 21, none, .bsl 7 [.int .i64 0, .str [], .int .i64 0, .sl 4 [], .sl 7 [], .sl 7 [], .bool false] 1 [(0, 7, (.c (.agg [.int .i64 0, .str [], .int .i64 0, .sl 4 [], .sl 7 [], .sl 7 [], .bool false])))] false⟩, ⟨some 22, none, .apz 7 112 (.t 17) (.t 21)⟩, ⟨some 23, none, .ixa 7 none (.t 22) (.t 20)⟩, ⟨none, none, .st 7 (.t 23) (.t 19)⟩, ⟨none, none, .stf (.t 3) (.t 22)⟩])

def r_tree_All_0 : AC :=
  .reg [⟨some 24, none, .ia .add .i64 (.t 10) (.c (.int .i64 1))⟩, ⟨some 10, none, .mv (.t 24)⟩]

def b_tree_All_0 : AC :=
  .seq (.reg [⟨some 11, none, .ic .lss (.t 10) (.t 9)⟩])
  (.seq (.cond (.t 11)
      (.skip)
      (.exit 0))
  (.seq (.block 1 (.seq (.reg [⟨some 12, none, .ixa 1 none (.t 8) (.t 10)⟩, ⟨some 13, none, .ld none (.t 12)⟩, ⟨some 5, none, .tk (.t 13)⟩])
      (.seq (.reg [⟨some 14, none, .mv (.t 5)⟩, ⟨some 15, none, .call n_tree_walk [(.t 14)]⟩])
      (.block 2 (.rfn (.t 15) [3] q_tree_All_0 [16] a_tree_All_0 y_tree_All_0))))) r_tree_All_0))

def l_tree_All_0 : AC :=
  .loop [3, 8, 9, 10] b_tree_All_0

def r_tree_All_1 : AC :=
  .seq (.reg [⟨some 25, none, .ld none (.t 3)⟩, ⟨some 2, none, .tk (.t 25)⟩])
  (.ret)

def c_tree_All : AFunc :=
  { np := 1, res := [.t 2], body := (
    .seq (.reg [⟨some 1, none, .box (.t 0)⟩, ⟨some 2, none, .tk (.c (.own 7 []))⟩])
    (.seq (.reg [⟨some 3, none, .alloc [.own 7 []]⟩])
    (.seq (.seq (.reg [⟨some 7, none, .ld (some 4) (.t 1)⟩, ⟨some 8, none, .callc n_tree_parts [(.t 7)]⟩, ⟨some 9, none, .len false (.t 8)⟩, ⟨some 10, none, .mv (.c (.int .i64 0))⟩])
      (.block 0 (l_tree_All_0))) r_tree_All_1))) }

-- flotsam/bound.Steps
def b_bound_Steps_0 : AC :=
  .seq (.reg [⟨some 16, none, .ic .lss (.t 15) (.t 14)⟩])
  (.seq (.cond (.t 16)
      (.skip)
      (.exit 0))
  (.seq (.block 1 (.seq (.reg [⟨some 17, none, .ixa 2 none (.t 13) (.t 15)⟩, ⟨some 18, none, .ld (some 2) (.t 17)⟩, ⟨some 7, none, .alloc [.str [], .own 7 []]⟩, ⟨none, none, .st 2 (.t 7) (.t 18)⟩])
      (stuckC)))
  (.reg [⟨some 26, none, .ia .add .i64 (.t 15) (.c (.int .i64 1))⟩, ⟨some 15, none, .mv (.t 26)⟩])))

def l_bound_Steps_0 : AC :=
  .loop [1, 5, 13, 14, 15] b_bound_Steps_0

def r_bound_Steps_0 : AC :=
  .seq (.drw [[], [], [], [], [], [], [], [], [], [], []] [⟨some 27, none, .mv (.t 5)⟩, ⟨some 28, none, .fa 1 (.t 1)⟩, ⟨some 29, none, .ld none (.t 28)⟩, ⟨some 30, none, .callr n_bound_known_steps [(.t 27), (.t 29)]⟩, ⟨some 31, none, .mv (.t 5)⟩, ⟨some 32, none, .fa 2 (.t 1)⟩, ⟨some 33, none, .ld none (.t 32)⟩, ⟨some 34, none, .callr n_bound_known_steps [(.t 31), (.t 33)]⟩, ⟨some 2, none, .tk (.t 30)⟩, ⟨some 3, none, .tk (.t 34)⟩, ⟨some 4, none, .tk (.c (.bool true))⟩])
  (.ret)

def c_bound_Steps : AFunc :=
  { np := 1, res := [.t 2, .t 3, .t 4], body := (
    .seq (.reg [⟨some 1, none, .box (.t 0)⟩, ⟨some 2, none, .tk (.c (.int .i64 0))⟩, ⟨some 3, none, .tk (.c (.int .i64 0))⟩, ⟨some 4, none, .tk (.c (.bool false))⟩])
    (.seq (.seq (.reg [⟨some 8, none, .ld (some 4) (.t 1)⟩, ⟨some 9, none, .callc n_bound_fine [(.t 8)]⟩, ⟨some 10, none, .notb (.t 9)⟩])
      (.cond (.t 10)
        (stuckC)
        (.skip)))
    (.seq (.reg [⟨some 11, none, .mkm false [.str]⟩, ⟨some 5, none, .tk (.t 11)⟩])
    (.seq (.seq (.reg [⟨some 12, none, .fa 0 (.t 1)⟩, ⟨some 13, none, .ld none (.t 12)⟩, ⟨some 14, none, .len false (.t 13)⟩, ⟨some 15, none, .mv (.c (.int .i64 0))⟩])
      (.block 0 (l_bound_Steps_0))) r_bound_Steps_0)))) }

-- flotsam/campaign.Right$1
def c_campaign_Right_1 : AFunc :=
  { np := 2, res := [.t 4], body := (
    .seq (.reg [⟨some 4, none, .tk (.c (.bool false))⟩])
    (.seq (.reg [⟨some 5, none, .mv (.t 0)⟩, ⟨some 6, none, .ic .geq (.t 5) (.c (.int .i64 0))⟩, ⟨some 7, none, .mv (.t 6)⟩, ⟨some 8, (some (7, true)), .mv (.t 0)⟩, ⟨some 9, (some (7, true)), .mv (.t 1)⟩, ⟨some 10, (some (7, true)), .ic .leq (.t 8) (.t 9)⟩, ⟨some 11, none, .pick (.t 7) (.t 10) (.c (.bool false))⟩, ⟨some 4, none, .tk (.t 11)⟩])
    (.ret))) }

-- (flotsam/mutants.met).fresh
def c_mutants_met_fresh : AFunc :=
  { np := 2, res := [.t 4], body := (
    .seq (.reg [⟨some 3, none, .box (.t 1)⟩, ⟨some 4, none, .tk (.c (.bool false))⟩])
    (.seq (.reg [⟨some 8, none, .ld (some 4) (.t 3)⟩, ⟨some 9, none, .callc n_print_Program [(.t 8)]⟩, ⟨some 7, none, .mv (.t 9)⟩, ⟨some 10, none, .ext (.t 7) 0⟩, ⟨some 11, none, .ext (.t 7) 1⟩, ⟨some 5, none, .tk (.t 10)⟩, ⟨some 6, none, .tk (.t 11)⟩])
    (.seq (.reg [⟨some 12, none, .mv (.t 0)⟩, ⟨some 13, none, .mv (.t 5)⟩, ⟨some 14, none, .mlk false (.int .i64 0) false [.str] (.t 12) (.t 13)⟩, ⟨some 15, none, .ia .add .i64 (.t 14) (.c (.int .i64 1))⟩, ⟨none, none, .mst false [.str] (.t 12) (.t 13) (.t 15)⟩])
    (.seq (.reg [⟨some 16, none, .mv (.t 0)⟩, ⟨some 17, none, .mv (.t 5)⟩, ⟨some 18, none, .mlk false (.int .i64 0) false [.str] (.t 16) (.t 17)⟩, ⟨some 19, none, .ic .eql (.t 18) (.c (.int .i64 1))⟩, ⟨some 4, none, .tk (.t 19)⟩])
    (.ret))))) }

-- flotsam/site.Sites
def b_site_Sites_0 : AC :=
  .seq (.reg [⟨some 12, none, .ic .lss (.t 11) (.t 10)⟩])
  (.seq (.cond (.t 12)
      (.skip)
      (.exit 0))
  (.seq (.block 1 (.seq (.reg [⟨some 13, none, .mv (.t 11)⟩, ⟨some 14, none, .ixa 1 none (.t 9) (.t 11)⟩, ⟨some 15, none, .ld none (.t 14)⟩, ⟨some 6, none, .tk (.t 13)⟩, ⟨some 7, none, .tk (.t 15)⟩])
      (.reg [⟨some 16, none, .mv (.t 7)⟩, ⟨some 17, none, .mv (.t 6)⟩, ⟨some 18, none, .bld [.int .i64 0, .int .i64 0, .int .i64 0, .int .i64 0, .int .i64 0, .int .i64 0, .int .i64 0, .int .i64 0, .int .i64 0, .int .i64 0, .int .i64 0] [(1, 1, (.t 17))]⟩, ⟨some 19, none, .mkf (.func n_site_Sites_2) [] [(.t 3), (.t 5)]⟩, ⟨some 20, none, .call n_site_each [(.t 16), (.t 18), (.c (.fn (.func n_site_Sites_1) [] [])), (.t 19)]⟩])))
  (.reg [⟨some 21, none, .ia .add .i64 (.t 11) (.c (.int .i64 1))⟩, ⟨some 11, none, .mv (.t 21)⟩])))

def l_site_Sites_0 : AC :=
  .loop [3, 5, 9, 10, 11] b_site_Sites_0

def r_site_Sites_0 : AC :=
  .seq (.reg [⟨some 22, none, .ld none (.t 5)⟩, ⟨some 4, none, .tk (.t 22)⟩])
  (.ret)

def c_site_Sites : AFunc :=
  { np := 2, res := [.t 4], body := (
    .seq (.reg [⟨some 2, none, .box (.t 0)⟩, ⟨some 3, none, .box (.t 1)⟩, ⟨some 4, none, .tk (.c (.own 11 []))⟩])
    (.seq (.reg [⟨some 5, none, .alloc [.own 11 []]⟩])
    (.seq (.seq (.reg [⟨some 8, none, .ld (some 4) (.t 2)⟩, ⟨some 9, none, .callc n_site_parts [(.t 8)]⟩, ⟨some 10, none, .len false (.t 9)⟩, ⟨some 11, none, .mv (.c (.int .i64 0))⟩])
      (.block 0 (l_site_Sites_0))) r_site_Sites_0))) }

-- (flotsam/mutants.met).of
def c_mutants_met_of : AFunc :=
  { np := 3, res := [.cell 6 (some 15), .t 7], body := (
    .seq (.reg [⟨some 4, none, .box (.t 1)⟩, ⟨some 5, none, .box (.t 2)⟩, ⟨some 6, none, .alloc [.int .i64 0, .int .i64 0, .int .i64 0, .int .i64 0, .int .i64 0, .int .i64 0, .int .i64 0, .int .i64 0, .int .i64 0, .int .i64 0, .int .i64 0, .own 2 [], .own 7 [], .own 7 [], .own 5 []]⟩, ⟨some 7, none, .tk (.c (.bool false))⟩])
    (.seq (.reg [⟨some 11, none, .ld (some 4) (.t 4)⟩, ⟨some 12, none, .ld (some 11) (.t 5)⟩, ⟨some 13, none, .callck n_rewrite_Apply [(.t 11), (.t 12)]⟩, ⟨some 10, none, .mv (.t 13)⟩, ⟨some 14, none, .ext (.t 10) 0⟩, ⟨some 15, none, .ext (.t 10) 1⟩, ⟨some 8, none, .alloc [.own 2 [], .own 7 [], .own 7 [], .own 5 []]⟩, ⟨none, none, .st 4 (.t 8) (.t 14)⟩, ⟨some 9, none, .tk (.t 15)⟩])
    (.seq (.seq (.reg [⟨some 16, none, .mv (.t 9)⟩, ⟨some 17, none, .notb (.t 16)⟩, ⟨some 18, none, .mv (.t 17)⟩, ⟨some 19, (some (18, false)), .ld (some 4) (.t 8)⟩, ⟨some 20, (some (18, false)), .callc n_bound_Check [(.t 19)]⟩, ⟨some 21, (some (18, false)), .bld [.int .i64 0, .int .i64 0] []⟩, ⟨some 22, (some (18, false)), .eqa true [.int .i64, .int .i64] (.t 20) (.t 21)⟩, ⟨some 23, none, .pick (.t 18) (.c (.bool true)) (.t 22)⟩, ⟨some 24, none, .mv (.t 23)⟩, ⟨some 25, (some (24, false)), .mv (.t 0)⟩, ⟨some 26, (some (24, false)), .ld (some 4) (.t 8)⟩, ⟨some 27, (some (24, false)), .call n_mutants_met_fresh [(.t 25), (.t 26)]⟩, ⟨some 28, (some (24, false)), .notb (.t 27)⟩, ⟨some 29, none, .pick (.t 24) (.c (.bool true)) (.t 28)⟩])
      (.cond (.t 29)
        (stuckC)
        (.skip)))
    (.seq (.reg [⟨some 31, none, .ld (some 11) (.t 5)⟩, ⟨some 32, none, .ld (some 4) (.t 8)⟩, ⟨some 33, none, .bld [.int .i64 0, .int .i64 0, .int .i64 0, .int .i64 0, .int .i64 0, .int .i64 0, .int .i64 0, .int .i64 0, .int .i64 0, .int .i64 0, .int .i64 0, .sl 2 [], .sl 7 [], .sl 7 [], .sl 5 []] [(0, 11, (.t 31)), (11, 4, (.t 32))]⟩, ⟨none, none, .st 15 (.t 6) (.t 33)⟩, ⟨some 7, none, .tk (.c (.bool true))⟩])
    (.ret))))) }

-- slices.EqualFunc[[]flotsam/api.Stmt,[]flotsam/api.Stmt,flotsam/api.Stmt,flotsam/api.Stmt]
def b_slices_EqualFunc_api_Stmt_api_Stmt_api_Stmt_api_Stmt_0 : AC :=
  .seq (.reg [⟨some 18, none, .ic .lss (.t 17) (.t 16)⟩])
  (.seq (.cond (.t 18)
      (.skip)
      (.exit 0))
  (.seq (.block 1 (.seq (.reg [⟨some 19, none, .mv (.t 17)⟩, ⟨some 20, none, .ixa 7 none (.t 15) (.t 17)⟩, ⟨some 21, none, .ld (some 7) (.t 20)⟩, ⟨some 8, none, .alloc [.int .i64 0, .str [], .int .i64 0, .own 4 [], .own 7 [], .own 7 [], .bool false]⟩, ⟨some 7, none, .tk (.t 19)⟩, ⟨none, none, .st 7 (.t 8) (.t 21)⟩])
      (.seq (.reg [⟨some 22, none, .mv (.t 1)⟩, ⟨some 23, none, .mv (.t 7)⟩, ⟨some 24, none, .ixa 7 none (.t 22) (.t 23)⟩, ⟨some 25, none, .ld (some 7) (.t 24)⟩, ⟨some 9, none, .alloc [.int .i64 0, .str [], .int .i64 0, .own 4 [], .own 7 [], .own 7 [], .bool false]⟩, ⟨none, none, .st 7 (.t 9) (.t 25)⟩])
      (.seq (.reg [⟨some 26, none, .mv (.t 2)⟩, ⟨some 27, none, .ld (some 7) (.t 8)⟩, ⟨some 28, none, .ld (some 7) (.t 9)⟩, ⟨some 29, none, .callv (.t 26) [(.t 27), (.t 28)]⟩, ⟨some 30, none, .notb (.t 29)⟩])
      (.cond (.t 30)
        (.seq (.reg [⟨some 6, none, .tk (.c (.bool false))⟩])
          (.ret))
        (.skip))))))
  (.reg [⟨some 31, none, .ia .add .i64 (.t 17) (.c (.int .i64 1))⟩, ⟨some 17, none, .mv (.t 31)⟩])))

def l_slices_EqualFunc_api_Stmt_api_Stmt_api_Stmt_api_Stmt_0 : AC :=
  .loop [1, 2, 15, 16, 17] b_slices_EqualFunc_api_Stmt_api_Stmt_api_Stmt_api_Stmt_0

def r_slices_EqualFunc_api_Stmt_api_Stmt_api_Stmt_api_Stmt_0 : AC :=
  .seq (.reg [⟨some 6, none, .tk (.c (.bool true))⟩])
  (.ret)

def c_slices_EqualFunc_api_Stmt_api_Stmt_api_Stmt_api_Stmt : AFunc :=
  { np := 3, res := [.t 6], body := (
    .seq (.reg [⟨some 6, none, .tk (.c (.bool false))⟩])
    (.seq (.seq (.reg [⟨some 10, none, .mv (.t 0)⟩, ⟨some 11, none, .len false (.t 10)⟩, ⟨some 12, none, .mv (.t 1)⟩, ⟨some 13, none, .len false (.t 12)⟩, ⟨some 14, none, .ic .neq (.t 11) (.t 13)⟩])
      (.cond (.t 14)
        (.seq (.reg [⟨some 6, none, .tk (.c (.bool false))⟩])
          (.ret))
        (.skip)))
    (.seq (.seq (.reg [⟨some 15, none, .mv (.t 0)⟩, ⟨some 16, none, .len false (.t 15)⟩, ⟨some 17, none, .mv (.c (.int .i64 0))⟩])
      (.block 0 (l_slices_EqualFunc_api_Stmt_api_Stmt_api_Stmt_api_Stmt_0))) r_slices_EqualFunc_api_Stmt_api_Stmt_api_Stmt_api_Stmt_0))) }

-- slices.EqualFunc[[]flotsam/api.Proc,[]flotsam/api.Proc,flotsam/api.Proc,flotsam/api.Proc]
def b_slices_EqualFunc_api_Proc_api_Proc_api_Proc_api_Proc_0 : AC :=
  .seq (.reg [⟨some 18, none, .ic .lss (.t 17) (.t 16)⟩])
  (.seq (.cond (.t 18)
      (.skip)
      (.exit 0))
  (.seq (.block 1 (.seq (.reg [⟨some 19, none, .mv (.t 17)⟩, ⟨some 20, none, .ixa 2 none (.t 15) (.t 17)⟩, ⟨some 21, none, .ld (some 2) (.t 20)⟩, ⟨some 8, none, .alloc [.str [], .own 7 []]⟩, ⟨some 7, none, .tk (.t 19)⟩, ⟨none, none, .st 2 (.t 8) (.t 21)⟩])
      (.seq (.reg [⟨some 22, none, .mv (.t 1)⟩, ⟨some 23, none, .mv (.t 7)⟩, ⟨some 24, none, .ixa 2 none (.t 22) (.t 23)⟩, ⟨some 25, none, .ld (some 2) (.t 24)⟩, ⟨some 9, none, .alloc [.str [], .own 7 []]⟩, ⟨none, none, .st 2 (.t 9) (.t 25)⟩])
      (.seq (.reg [⟨some 26, none, .mv (.t 2)⟩, ⟨some 27, none, .ld (some 2) (.t 8)⟩, ⟨some 28, none, .ld (some 2) (.t 9)⟩, ⟨some 29, none, .callv (.t 26) [(.t 27), (.t 28)]⟩, ⟨some 30, none, .notb (.t 29)⟩])
      (.cond (.t 30)
        (.seq (.reg [⟨some 6, none, .tk (.c (.bool false))⟩])
          (.ret))
        (.skip))))))
  (.reg [⟨some 31, none, .ia .add .i64 (.t 17) (.c (.int .i64 1))⟩, ⟨some 17, none, .mv (.t 31)⟩])))

def l_slices_EqualFunc_api_Proc_api_Proc_api_Proc_api_Proc_0 : AC :=
  .loop [1, 2, 15, 16, 17] b_slices_EqualFunc_api_Proc_api_Proc_api_Proc_api_Proc_0

def r_slices_EqualFunc_api_Proc_api_Proc_api_Proc_api_Proc_0 : AC :=
  .seq (.reg [⟨some 6, none, .tk (.c (.bool true))⟩])
  (.ret)

def c_slices_EqualFunc_api_Proc_api_Proc_api_Proc_api_Proc : AFunc :=
  { np := 3, res := [.t 6], body := (
    .seq (.reg [⟨some 6, none, .tk (.c (.bool false))⟩])
    (.seq (.seq (.reg [⟨some 10, none, .mv (.t 0)⟩, ⟨some 11, none, .len false (.t 10)⟩, ⟨some 12, none, .mv (.t 1)⟩, ⟨some 13, none, .len false (.t 12)⟩, ⟨some 14, none, .ic .neq (.t 11) (.t 13)⟩])
      (.cond (.t 14)
        (.seq (.reg [⟨some 6, none, .tk (.c (.bool false))⟩])
          (.ret))
        (.skip)))
    (.seq (.seq (.reg [⟨some 15, none, .mv (.t 0)⟩, ⟨some 16, none, .len false (.t 15)⟩, ⟨some 17, none, .mv (.c (.int .i64 0))⟩])
      (.block 0 (l_slices_EqualFunc_api_Proc_api_Proc_api_Proc_api_Proc_0))) r_slices_EqualFunc_api_Proc_api_Proc_api_Proc_api_Proc_0))) }

-- slices.EqualFunc[[]flotsam/api.Oracle,[]flotsam/api.Oracle,flotsam/api.Oracle,flotsam/api.Oracle]
def b_slices_EqualFunc_api_Oracle_api_Oracle_api_Oracle_api_Oracle_0 : AC :=
  .seq (.reg [⟨some 18, none, .ic .lss (.t 17) (.t 16)⟩])
  (.seq (.cond (.t 18)
      (.skip)
      (.exit 0))
  (.seq (.block 1 (.seq (.reg [⟨some 19, none, .mv (.t 17)⟩, ⟨some 20, none, .ixa 5 none (.t 15) (.t 17)⟩, ⟨some 21, none, .ld (some 5) (.t 20)⟩, ⟨some 8, none, .alloc [.str [], .int .i64 0, .int .i64 0, .str [], .own 4 []]⟩, ⟨some 7, none, .tk (.t 19)⟩, ⟨none, none, .st 5 (.t 8) (.t 21)⟩])
      (.seq (.reg [⟨some 22, none, .mv (.t 1)⟩, ⟨some 23, none, .mv (.t 7)⟩, ⟨some 24, none, .ixa 5 none (.t 22) (.t 23)⟩, ⟨some 25, none, .ld (some 5) (.t 24)⟩, ⟨some 9, none, .alloc [.str [], .int .i64 0, .int .i64 0, .str [], .own 4 []]⟩, ⟨none, none, .st 5 (.t 9) (.t 25)⟩])
      (.seq (.reg [⟨some 26, none, .mv (.t 2)⟩, ⟨some 27, none, .ld (some 5) (.t 8)⟩, ⟨some 28, none, .ld (some 5) (.t 9)⟩, ⟨some 29, none, .callv (.t 26) [(.t 27), (.t 28)]⟩, ⟨some 30, none, .notb (.t 29)⟩])
      (.cond (.t 30)
        (.seq (.reg [⟨some 6, none, .tk (.c (.bool false))⟩])
          (.ret))
        (.skip))))))
  (.reg [⟨some 31, none, .ia .add .i64 (.t 17) (.c (.int .i64 1))⟩, ⟨some 17, none, .mv (.t 31)⟩])))

def l_slices_EqualFunc_api_Oracle_api_Oracle_api_Oracle_api_Oracle_0 : AC :=
  .loop [1, 2, 15, 16, 17] b_slices_EqualFunc_api_Oracle_api_Oracle_api_Oracle_api_Oracle_0

def r_slices_EqualFunc_api_Oracle_api_Oracle_api_Oracle_api_Oracle_0 : AC :=
  .seq (.reg [⟨some 6, none, .tk (.c (.bool true))⟩])
  (.ret)

def c_slices_EqualFunc_api_Oracle_api_Oracle_api_Oracle_api_Oracle : AFunc :=
  { np := 3, res := [.t 6], body := (
    .seq (.reg [⟨some 6, none, .tk (.c (.bool false))⟩])
    (.seq (.seq (.reg [⟨some 10, none, .mv (.t 0)⟩, ⟨some 11, none, .len false (.t 10)⟩, ⟨some 12, none, .mv (.t 1)⟩, ⟨some 13, none, .len false (.t 12)⟩, ⟨some 14, none, .ic .neq (.t 11) (.t 13)⟩])
      (.cond (.t 14)
        (.seq (.reg [⟨some 6, none, .tk (.c (.bool false))⟩])
          (.ret))
        (.skip)))
    (.seq (.seq (.reg [⟨some 15, none, .mv (.t 0)⟩, ⟨some 16, none, .len false (.t 15)⟩, ⟨some 17, none, .mv (.c (.int .i64 0))⟩])
      (.block 0 (l_slices_EqualFunc_api_Oracle_api_Oracle_api_Oracle_api_Oracle_0))) r_slices_EqualFunc_api_Oracle_api_Oracle_api_Oracle_api_Oracle_0))) }

-- flotsam/sector.Of
def c_sector_Of : AFunc :=
  { np := 1, res := [.cell 2 (some 32), .t 3], body := (
    .seq (.reg [⟨some 2, none, .alloc [.int .u8 0, .int .u8 0, .int .u8 0, .int .u8 0, .int .u8 0, .int .u8 0, .int .u8 0, .int .u8 0, .int .u8 0, .int .u8 0, .int .u8 0, .int .u8 0, .int .u8 0, .int .u8 0, .int .u8 0, .int .u8 0, .int .u8 0, .int .u8 0, .int .u8 0, .int .u8 0, .int .u8 0, .int .u8 0, .int .u8 0, .int .u8 0, .int .u8 0, .int .u8 0, .int .u8 0, .int .u8 0, .int .u8 0, .int .u8 0, .int .u8 0, .int .u8 0]⟩, ⟨some 3, none, .tk (.c (.bool false))⟩])
    (.seq (.reg [⟨some 4, none, .bld [.int .u8 0, .int .u8 0, .int .u8 0, .int .u8 0, .int .u8 0, .int .u8 0, .int .u8 0, .int .u8 0, .int .u8 0, .int .u8 0, .int .u8 0, .int .u8 0, .int .u8 0, .int .u8 0, .int .u8 0, .int .u8 0, .int .u8 0, .int .u8 0, .int .u8 0, .int .u8 0, .int .u8 0, .int .u8 0, .int .u8 0, .int .u8 0, .int .u8 0, .int .u8 0, .int .u8 0, .int .u8 0, .int .u8 0, .int .u8 0, .int .u8 0, .int .u8 0] []⟩, ⟨some 5, none, .mv (.t 0)⟩, ⟨some 6, none, .callc n_sector_Put [(.t 4), (.c (.int .i64 0)), (.t 5)]⟩, ⟨some 7, none, .ext (.t 6) 0⟩, ⟨some 8, none, .ext (.t 6) 1⟩, ⟨none, none, .st 32 (.t 2) (.t 7)⟩, ⟨some 3, none, .tk (.t 8)⟩])
    (.ret))) }

-- flotsam/layout.RightInode
def c_layout_RightInode : AFunc :=
  { np := 1, res := [.t 2], body := (
    .seq (.reg [⟨some 1, none, .box (.t 0)⟩, ⟨some 2, none, .tk (.c (.bool false))⟩])
    (.seq (.seq (.reg [⟨some 5, none, .fa 0 (.t 1)⟩, ⟨some 6, none, .ld none (.t 5)⟩])
      (.block 0 (.seq (.seq (.reg [⟨some 8, none, .ic .eql (.t 6) (.c (.int .i64 0))⟩, ⟨some 7, none, .tk (.t 8)⟩])
          (.cond (.t 7)
            (.skip)
            (.reg [⟨some 9, none, .ic .eql (.t 6) (.c (.int .i64 2))⟩, ⟨some 7, none, .tk (.t 9)⟩])))
        (.cond (.t 7)
          (.seq (.reg [⟨some 10, none, .ld (some 6) (.t 1)⟩, ⟨some 11, none, .fa 0 (.t 1)⟩, ⟨some 12, none, .ld none (.t 11)⟩, ⟨some 13, none, .bld [.int .i64 0, .int .i64 0, .int .i64 0, .int .i64 0, .int .i64 0, .int .i64 0] [(0, 1, (.t 12))]⟩, ⟨some 14, none, .eqa false [.int .i64, .int .i64, .int .i64, .int .i64, .int .i64, .int .i64] (.t 10) (.t 13)⟩, ⟨some 2, none, .tk (.t 14)⟩])
            (.ret))
          (stuckC)))))
    (stuckC))) }

-- (*flotsam/bdisk.Disk).Read
def a_pbdisk_Disk_Read_0 : AC :=
  .reg [⟨some 7, none, .alloc [.int .i64 0, .int .u8 0, .int .u8 0, .int .u8 0, .int .u8 0, .int .u8 0, .int .u8 0, .int .u8 0, .int .u8 0, .int .u8 0, .int .u8 0, .int .u8 0, .int .u8 0, .int .u8 0, .int .u8 0, .int .u8 0, .int .u8 0, .int .u8 0, .int .u8 0, .int .u8 0, .int .u8 0, .int .u8 0, .int .u8 0, .int .u8 0, .int .u8 0, .int .u8 0, .int .u8 0, .int .u8 0, .int .u8 0, .int .u8 0, .int .u8 0, .int .u8 0, .int .u8 0, .int .i64 0, .int .i64 0, .int .i64 0]⟩, ⟨none, none, .st 36 (.t 7) (.t 19)⟩]

def y_pbdisk_Disk_Read_0 : AC :=
  stuckC

def r_pbdisk_Disk_Read_0 : AC :=
  .seq (.drw [[], [], [], [], [], [], [], [], []] [⟨some 26, none, .mv (.t 0)⟩, ⟨some 27, none, .nck (.t 26)⟩, ⟨some 28, none, .fa 2 (.t 27)⟩, ⟨some 29, none, .ld none (.t 28)⟩, ⟨some 30, none, .ld none (.t 3)⟩, ⟨some 31, none, .ixa 32 none (.t 29) (.t 30)⟩, ⟨some 32, none, .ld (some 32) (.t 31)⟩, ⟨none, none, .st 32 (.t 4) (.t 32)⟩, ⟨none, none, .st 1 (.t 5) (.c (.int .i64 0))⟩])
  (.ret)

def c_pbdisk_Disk_Read : AFunc :=
  { np := 2, res := [.cell 4 (some 32), .cell 5 none], body := (
    .seq (.reg [⟨some 3, none, .box (.t 1)⟩, ⟨some 4, none, .alloc [.int .u8 0, .int .u8 0, .int .u8 0, .int .u8 0, .int .u8 0, .int .u8 0, .int .u8 0, .int .u8 0, .int .u8 0, .int .u8 0, .int .u8 0, .int .u8 0, .int .u8 0, .int .u8 0, .int .u8 0, .int .u8 0, .int .u8 0, .int .u8 0, .int .u8 0, .int .u8 0, .int .u8 0, .int .u8 0, .int .u8 0, .int .u8 0, .int .u8 0, .int .u8 0, .int .u8 0, .int .u8 0, .int .u8 0, .int .u8 0, .int .u8 0, .int .u8 0]⟩, ⟨some 5, none, .alloc [.int .i64 0]⟩])
    (.seq (.seq (.reg [⟨some 8, none, .mv (.t 0)⟩, ⟨some 9, none, .ld none (.t 3)⟩, ⟨some 10, none, .call n_pbdisk_Disk_has [(.t 8), (.t 9)]⟩, ⟨some 11, none, .notb (.t 10)⟩])
      (.cond (.t 11)
        (stuckC)
        (.skip)))
    (.seq (.seq (.reg [⟨some 13, none, .mv (.t 0)⟩, ⟨some 14, none, .nck (.t 13)⟩, ⟨some 15, none, .fa 3 (.t 14)⟩, ⟨some 16, none, .ld none (.t 15)⟩, ⟨some 17, none, .call n_slices_Backward_api_Write_api_Write [(.t 16)]⟩])
      (.block 0 (.rfn (.t 17) [3, 4, 5] q_pbdisk_Disk_Read_0 [18, 19] a_pbdisk_Disk_Read_0 y_pbdisk_Disk_Read_0))) r_pbdisk_Disk_Read_0))) }

-- flotsam/layout.Mounts
def c_layout_Mounts : AFunc :=
  { np := 1, res := [.t 2], body := (
    .seq (.reg [⟨some 2, none, .tk (.c (.bool false))⟩])
    (.seq (.seq (.drw [[], [], [], [], [], [], [], [], [], []] [⟨some 5, none, .mv (.t 0)⟩, ⟨some 6, none, .len false (.t 5)⟩, ⟨some 7, none, .ic .neq (.t 6) (.c (.int .i64 65))⟩, ⟨some 8, none, .mv (.t 7)⟩, ⟨some 9, (some (8, false)), .mv (.t 0)⟩, ⟨some 10, (some (8, false)), .ixa 32 none (.t 9) (.c (.int .i64 0))⟩, ⟨some 11, (some (8, false)), .ld (some 32) (.t 10)⟩, ⟨some 12, (some (8, false)), .callc n_layout_super []⟩, ⟨some 13, (some (8, false)), .eqa true [.int .u8, .int .u8, .int .u8, .int .u8, .int .u8, .int .u8, .int .u8, .int .u8, .int .u8, .int .u8, .int .u8, .int .u8, .int .u8, .int .u8, .int .u8, .int .u8, .int .u8, .int .u8, .int .u8, .int .u8, .int .u8, .int .u8, .int .u8, .int .u8, .int .u8, .int .u8, .int .u8, .int .u8, .int .u8, .int .u8, .int .u8, .int .u8] (.t 11) (.t 12)⟩, ⟨some 14, none, .pick (.t 8) (.c (.bool true)) (.t 13)⟩])
      (.cond (.t 14)
        (stuckC)
        (.skip)))
    (.seq (.reg [⟨some 16, none, .mv (.t 0)⟩, ⟨some 17, none, .ixa 32 none (.t 16) (.c (.int .i64 1))⟩, ⟨some 18, none, .ld (some 32) (.t 17)⟩, ⟨some 19, none, .callc n_layout_InodeOf [(.t 18)]⟩, ⟨some 15, none, .mv (.t 19)⟩, ⟨some 20, none, .ext (.t 15) 0⟩, ⟨some 21, none, .ext (.t 15) 1⟩, ⟨some 3, none, .alloc [.int .i64 0, .int .i64 0, .int .i64 0, .int .i64 0, .int .i64 0, .int .i64 0]⟩, ⟨none, none, .st 6 (.t 3) (.t 20)⟩, ⟨some 4, none, .tk (.t 21)⟩])
    (.seq (.reg [⟨some 22, none, .mv (.t 4)⟩, ⟨some 23, none, .mv (.t 22)⟩, ⟨some 24, (some (23, true)), .fa 0 (.t 3)⟩, ⟨some 25, (some (23, true)), .ld none (.t 24)⟩, ⟨some 26, (some (23, true)), .ic .eql (.t 25) (.c (.int .i64 2))⟩, ⟨some 27, none, .pick (.t 23) (.t 26) (.c (.bool false))⟩, ⟨some 2, none, .tk (.t 27)⟩])
    (.ret))))) }

-- (*flotsam/sfs.FS).none
def c_psfs_FS_none : AFunc :=
  { np := 1, res := [.t 2], body := (
    .seq (.reg [⟨some 2, none, .tk (.c (.bool false))⟩])
    (.seq (.reg [⟨some 3, none, .mv (.t 0)⟩, ⟨some 4, none, .isp false (.t 3)⟩, ⟨some 5, none, .mv (.t 4)⟩, ⟨some 6, (some (5, false)), .mv (.t 0)⟩, ⟨some 7, (some (5, false)), .nck (.t 6)⟩, ⟨some 8, (some (5, false)), .fa 0 (.t 7)⟩, ⟨some 9, (some (5, false)), .ld none (.t 8)⟩, ⟨some 10, (some (5, false)), .isp false (.t 9)⟩, ⟨some 11, none, .pick (.t 5) (.c (.bool true)) (.t 10)⟩, ⟨some 2, none, .tk (.t 11)⟩])
    (.ret))) }

-- (*flotsam/interp.machine).block$1
def c_pinterp_machine_block_1 : AFunc :=
  { np := 2, res := [], body := (
    .drw [[], [], [], [], [], [], [], [], [], []] [⟨some 2, none, .ld none (.t 0)⟩, ⟨some 3, none, .ld none (.t 0)⟩, ⟨some 4, none, .nck (.t 3)⟩, ⟨some 5, none, .fa 4 (.t 4)⟩, ⟨some 6, none, .ld none (.t 5)⟩, ⟨some 7, none, .ld none (.t 1)⟩, ⟨some 8, none, .sls 4 (.t 6) none (some (.t 7)) none⟩, ⟨some 9, none, .nck (.t 2)⟩, ⟨some 10, none, .fa 4 (.t 9)⟩, ⟨none, none, .st 1 (.t 10) (.t 8)⟩]) }

-- (*flotsam/interp.machine).stmt
def r_pinterp_machine_stmt_0 : AC :=
  .seq (.reg [⟨some 105, none, .ld none (.t 3)⟩, ⟨some 106, none, .fa 0 (.t 4)⟩, ⟨some 107, none, .ld none (.t 106)⟩, ⟨some 108, none, .mv (.t 2)⟩, ⟨some 109, none, .mkf (.func n_pinterp_machine_stmt_1) [] [(.t 3), (.t 4), (.t 8)]⟩, ⟨some 110, none, .call n_pinterp_machine_note [(.t 105), (.t 107), (.t 108), (.t 109)]⟩, ⟨some 6, none, .tk (.t 110)⟩])
  (.ret)

def c_pinterp_machine_stmt : AFunc :=
  { np := 3, res := [.t 6], body := (
    .seq (.reg [⟨some 3, none, .box (.t 0)⟩, ⟨some 4, none, .box (.t 1)⟩, ⟨some 6, none, .tk (.c (.int .i64 0))⟩])
    (.seq (.seq (.reg [⟨some 11, none, .ld none (.t 3)⟩, ⟨some 12, none, .call n_pinterp_machine_take [(.t 11)]⟩, ⟨some 7, none, .tk (.t 12)⟩])
      (.seq (.reg [⟨some 13, none, .mv (.t 7)⟩, ⟨some 14, none, .ic .neq (.t 13) (.c (.int .i64 0))⟩])
      (.cond (.t 14)
        (.seq (.reg [⟨some 15, none, .mv (.t 7)⟩, ⟨some 6, none, .tk (.t 15)⟩])
          (.ret))
        (.skip))))
    (.seq (.reg [⟨some 17, none, .ld none (.t 3)⟩, ⟨some 18, none, .fa 3 (.t 4)⟩, ⟨some 19, none, .ld none (.t 18)⟩, ⟨some 20, none, .call n_pinterp_machine_eval [(.t 17), (.t 19)]⟩, ⟨some 16, none, .mv (.t 20)⟩, ⟨some 21, none, .ext (.t 16) 0⟩, ⟨some 22, none, .ext (.t 16) 1⟩, ⟨some 8, none, .alloc [.own 3 []]⟩, ⟨none, none, .st 1 (.t 8) (.t 21)⟩, ⟨some 9, none, .tk (.t 22)⟩])
    (.seq (.seq (.reg [⟨some 23, none, .mv (.t 9)⟩, ⟨some 24, none, .ic .neq (.t 23) (.c (.int .i64 0))⟩])
      (.cond (.t 24)
        (stuckC)
        (.skip)))
    (.seq (.seq (.reg [⟨some 26, none, .fa 0 (.t 4)⟩, ⟨some 27, none, .ld none (.t 26)⟩])
      (.block 0 (.seq (.reg [⟨some 29, none, .ic .eql (.t 27) (.c (.int .i64 12))⟩, ⟨some 28, none, .tk (.t 29)⟩])
        (.cond (.t 28)
          (stuckC)
          (.seq (.reg [⟨some 44, none, .ic .eql (.t 27) (.c (.int .i64 13))⟩, ⟨some 43, none, .tk (.t 44)⟩])
            (.cond (.t 43)
              (stuckC)
              (.seq (.reg [⟨some 67, none, .ic .eql (.t 27) (.c (.int .i64 14))⟩, ⟨some 66, none, .tk (.t 67)⟩])
                (.cond (.t 66)
                  (stuckC)
                  (.seq (.reg [⟨some 83, none, .ic .eql (.t 27) (.c (.int .i64 15))⟩, ⟨some 82, none, .tk (.t 83)⟩])
                    (.cond (.t 82)
                      (stuckC)
                      (.seq (.reg [⟨some 89, none, .ic .eql (.t 27) (.c (.int .i64 16))⟩, ⟨some 88, none, .tk (.t 89)⟩])
                        (.cond (.t 88)
                          (stuckC)
                          (.seq (.reg [⟨some 99, none, .ic .eql (.t 27) (.c (.int .i64 18))⟩, ⟨some 98, none, .tk (.t 99)⟩])
                            (.cond (.t 98)
                              (stuckC)
                              (.skip))))))))))))))) r_pinterp_machine_stmt_0))))) }

-- flotsam/tree.walk
def c_tree_walk : AFunc :=
  { np := 1, res := [.t 2], body := (
    .seq (.reg [⟨some 1, none, .box (.t 0)⟩, ⟨some 2, none, .tk (.c (.nilf))⟩])
    (.seq (.reg [⟨some 3, none, .mkf (.func n_tree_walk_1) [] [(.t 1)]⟩, ⟨some 2, none, .tk (.t 3)⟩])
    (.ret))) }

-- flotsam/tree.Right
def c_tree_Right : AFunc :=
  { np := 1, res := [.t 2], body := (
    .seq (.reg [⟨some 1, none, .box (.t 0)⟩, ⟨some 2, none, .tk (.c (.bool false))⟩])
    (.seq (.seq (.reg [⟨some 6, none, .fa 0 (.t 1)⟩, ⟨some 7, none, .ld none (.t 6)⟩, ⟨some 8, none, .len false (.t 7)⟩, ⟨some 9, none, .ic .gtr (.t 8) (.c (.int .i64 16))⟩, ⟨some 10, none, .mv (.t 9)⟩, ⟨some 11, (some (10, false)), .fa 3 (.t 1)⟩, ⟨some 12, (some (10, false)), .ld none (.t 11)⟩, ⟨some 13, (some (10, false)), .len false (.t 12)⟩, ⟨some 14, (some (10, false)), .ic .gtr (.t 13) (.c (.int .i64 16))⟩, ⟨some 15, none, .pick (.t 10) (.c (.bool true)) (.t 14)⟩, ⟨some 16, none, .mv (.t 15)⟩, ⟨some 17, (some (16, false)), .ld (some 4) (.t 1)⟩, ⟨some 18, (some (16, false)), .callc n_tree_All [(.t 17)]⟩, ⟨some 19, (some (16, false)), .len false (.t 18)⟩, ⟨some 20, (some (16, false)), .ic .gtr (.t 19) (.c (.int .i64 256))⟩, ⟨some 21, none, .pick (.t 16) (.c (.bool true)) (.t 20)⟩])
      (.cond (.t 21)
        (stuckC)
        (.skip)))
    (.seq (.reg [⟨some 3, none, .tk (.c (.fn (.func n_tree_Right_1) [] []))⟩])
    (.seq (.reg [⟨some 4, none, .tk (.c (.fn (.func n_tree_Right_2) [] []))⟩])
    (.seq (.reg [⟨some 5, none, .tk (.c (.fn (.func n_tree_Right_3) [] []))⟩])
    (.seq (.reg [⟨some 22, none, .fa 0 (.t 1)⟩, ⟨some 23, none, .ld none (.t 22)⟩, ⟨some 24, none, .mv (.t 3)⟩, ⟨some 25, none, .call n_slices_ContainsFunc_api_Proc_api_Proc [(.t 23), (.t 24)]⟩, ⟨some 26, none, .notb (.t 25)⟩, ⟨some 27, none, .mv (.t 26)⟩, ⟨some 28, (some (27, true)), .fa 3 (.t 1)⟩, ⟨some 29, (some (27, true)), .ld none (.t 28)⟩, ⟨some 30, (some (27, true)), .mv (.t 4)⟩, ⟨some 31, (some (27, true)), .call n_slices_ContainsFunc_api_Oracle_api_Oracle [(.t 29), (.t 30)]⟩, ⟨some 32, (some (27, true)), .notb (.t 31)⟩, ⟨some 33, none, .pick (.t 27) (.t 32) (.c (.bool false))⟩, ⟨some 34, none, .mv (.t 33)⟩, ⟨some 35, (some (34, true)), .ld (some 4) (.t 1)⟩, ⟨some 36, (some (34, true)), .callc n_tree_parts [(.t 35)]⟩, ⟨some 37, (some (34, true)), .mv (.t 5)⟩, ⟨some 38, (some (34, true)), .call n_slices_ContainsFunc_api_Stmt_api_Stmt [(.t 36), (.t 37)]⟩, ⟨some 39, (some (34, true)), .notb (.t 38)⟩, ⟨some 40, none, .pick (.t 34) (.t 39) (.c (.bool false))⟩, ⟨some 2, none, .tk (.t 40)⟩])
    (.ret))))))) }

-- flotsam/tree.parts
def b_tree_parts_0 : AC :=
  .seq (.reg [⟨some 10, none, .ic .lss (.t 9) (.t 8)⟩])
  (.seq (.cond (.t 10)
      (.skip)
      (.exit 0))
  (.seq (.block 1 (.seq (.reg [⟨some 11, none, .ixa 2 none (.t 7) (.t 9)⟩, ⟨some 12, none, .ld (some 2) (.t 11)⟩, ⟨some 5, none, .alloc [.str [], .own 7 []]⟩, ⟨none, none, .st 2 (.t 5) (.t 12)⟩])
      (stuckC)))
  (.reg [⟨some 18, none, .ia .add .i64 (.t 9) (.c (.int .i64 1))⟩, ⟨some 9, none, .mv (.t 18)⟩])))

def l_tree_parts_0 : AC :=
  .loop [1, 3, 7, 8, 9] b_tree_parts_0

def r_tree_parts_0 : AC :=
  .seq (.reg [⟨some 19, none, .tk (.t 3)⟩, ⟨some 20, none, .fa 1 (.t 1)⟩, ⟨some 21, none, .ld none (.t 20)⟩, ⟨some 22, none, .fa 2 (.t 1)⟩, ⟨some 23, none, .ld none (.t 22)⟩, ⟨some 24, none, .bsl 1 [.sl 7 []] 2 [(0, 1, (.t 21)), (1, 1, (.t 23))] false⟩, ⟨some 25, none, .app 1 24 (.t 19) (.t 24) false⟩, ⟨some 2, none, .tk (.t 25)⟩])
  (.ret)

def c_tree_parts : AFunc :=
  { np := 1, res := [.t 2], body := (
    .seq (.reg [⟨some 1, none, .box (.t 0)⟩, ⟨some 2, none, .tk (.c (.own 1 []))⟩])
    (.seq (.reg [⟨some 3, none, .tk (.c (.own 1 []))⟩])
    (.seq (.seq (.reg [⟨some 6, none, .fa 0 (.t 1)⟩, ⟨some 7, none, .ld none (.t 6)⟩, ⟨some 8, none, .len false (.t 7)⟩, ⟨some 9, none, .mv (.c (.int .i64 0))⟩])
      (.block 0 (l_tree_parts_0))) r_tree_parts_0))) }

-- flotsam/tree.cloned
def c_tree_cloned : AFunc :=
  { np := 1, res := [.cell 2 (some 7)], body := (
    .seq (.reg [⟨some 1, none, .box (.t 0)⟩, ⟨some 2, none, .alloc [.int .i64 0, .str [], .int .i64 0, .own 4 [], .own 7 [], .own 7 [], .bool false]⟩])
    (.seq (.reg [⟨some 3, none, .fa 3 (.t 1)⟩, ⟨some 4, none, .ld none (.t 3)⟩, ⟨some 5, none, .callc n_tree_each_api_Expr [(.t 4), (.c (.fn (.func n_tree_clonedExpr) [] []))]⟩, ⟨some 6, none, .fa 3 (.t 1)⟩, ⟨none, none, .st 1 (.t 6) (.t 5)⟩])
    (.seq (.reg [⟨some 7, none, .fa 4 (.t 1)⟩, ⟨some 8, none, .ld none (.t 7)⟩, ⟨some 9, none, .callc n_tree_each_api_Stmt [(.t 8), (.c (.fn (.func n_tree_cloned) [] []))]⟩, ⟨some 10, none, .fa 4 (.t 1)⟩, ⟨none, none, .st 1 (.t 10) (.t 9)⟩])
    (.seq (.reg [⟨some 11, none, .fa 5 (.t 1)⟩, ⟨some 12, none, .ld none (.t 11)⟩, ⟨some 13, none, .callc n_tree_each_api_Stmt [(.t 12), (.c (.fn (.func n_tree_cloned) [] []))]⟩, ⟨some 14, none, .fa 5 (.t 1)⟩, ⟨none, none, .st 1 (.t 14) (.t 13)⟩])
    (.seq (.reg [⟨some 15, none, .ld (some 7) (.t 1)⟩, ⟨none, none, .st 7 (.t 2) (.t 15)⟩])
    (.ret)))))) }

-- flotsam/bound.fine
def c_bound_fine : AFunc :=
  { np := 1, res := [.t 2], body := (
    .seq (.reg [⟨some 1, none, .box (.t 0)⟩, ⟨some 2, none, .tk (.c (.bool false))⟩])
    (.seq (.reg [⟨some 3, none, .ld (some 4) (.t 1)⟩, ⟨some 4, none, .callck n_types_Check [(.t 3)]⟩, ⟨some 5, none, .bld [.int .i64 0, .int .i64 0] []⟩, ⟨some 6, none, .eqa false [.int .i64, .int .i64] (.t 4) (.t 5)⟩, ⟨some 2, none, .tk (.t 6)⟩])
    (.ret))) }

-- (flotsam/bound.known).steps
def b_bound_known_steps_0 : AC :=
  .seq (.reg [⟨some 11, none, .ic .lss (.t 10) (.t 9)⟩])
  (.seq (.cond (.t 11)
      (.skip)
      (.exit 0))
  (.seq (.block 1 (.seq (.reg [⟨some 12, none, .ixa 7 none (.t 8) (.t 10)⟩, ⟨some 13, none, .ld (some 7) (.t 12)⟩, ⟨some 7, none, .alloc [.int .i64 0, .str [], .int .i64 0, .own 4 [], .own 7 [], .own 7 [], .bool false]⟩, ⟨none, none, .st 7 (.t 7) (.t 13)⟩])
      (.seq (.reg [⟨some 14, none, .mv (.t 5)⟩, ⟨some 15, none, .ia .add .i64 (.t 14) (.c (.int .i64 1))⟩, ⟨some 5, none, .tk (.t 15)⟩])
      (.seq (.seq (.reg [⟨some 16, none, .fa 0 (.t 7)⟩, ⟨some 17, none, .ld none (.t 16)⟩])
        (.block 2 (.seq (.reg [⟨some 19, none, .ic .eql (.t 17) (.c (.int .i64 14))⟩, ⟨some 18, none, .tk (.t 19)⟩])
          (.cond (.t 18)
            (stuckC)
            (.seq (.reg [⟨some 30, none, .ic .eql (.t 17) (.c (.int .i64 13))⟩, ⟨some 29, none, .tk (.t 30)⟩])
              (.cond (.t 29)
                (stuckC)
                (.seq (.reg [⟨some 43, none, .ic .eql (.t 17) (.c (.int .i64 16))⟩, ⟨some 42, none, .tk (.t 43)⟩])
                  (.cond (.t 42)
                    (stuckC)
                    (.seq (.reg [⟨some 50, none, .ic .eql (.t 17) (.c (.int .i64 15))⟩, ⟨some 49, none, .tk (.t 50)⟩])
                      (.cond (.t 49)
                        (stuckC)
                        (.skip)))))))))))
      (.reg [⟨some 57, none, .mv (.t 5)⟩, ⟨some 58, none, .mx false [(.t 57), (.c (.int .i64 65537))]⟩, ⟨some 5, none, .tk (.t 58)⟩])))))
  (.reg [⟨some 59, none, .ia .add .i64 (.t 10) (.c (.int .i64 1))⟩, ⟨some 10, none, .mv (.t 59)⟩])))

def l_bound_known_steps_0 : AC :=
  .loop [0, 5, 8, 9, 10] b_bound_known_steps_0

def r_bound_known_steps_0 : AC :=
  .seq (.reg [⟨some 60, none, .mv (.t 5)⟩, ⟨some 4, none, .tk (.t 60)⟩])
  (.ret)

def c_bound_known_steps : AFunc :=
  { np := 2, res := [.t 4], body := (
    .seq (.reg [⟨some 4, none, .tk (.c (.int .i64 0))⟩])
    (.seq (.reg [⟨some 5, none, .tk (.c (.int .i64 0))⟩])
    (.seq (.seq (.reg [⟨some 8, none, .mv (.t 1)⟩, ⟨some 9, none, .len false (.t 8)⟩, ⟨some 10, none, .mv (.c (.int .i64 0))⟩])
      (.block 0 (l_bound_known_steps_0))) r_bound_known_steps_0))) }

-- flotsam/print.Program
def b_print_Program_0 : AC :=
  .seq (.reg [⟨some 16, none, .ic .lss (.t 15) (.t 14)⟩])
  (.seq (.cond (.t 16)
      (.skip)
      (.exit 0))
  (.seq (.block 1 (.seq (.reg [⟨some 17, none, .ixa 2 none (.t 13) (.t 15)⟩, ⟨some 18, none, .ld (some 2) (.t 17)⟩, ⟨some 6, none, .alloc [.str [], .own 7 []]⟩, ⟨none, none, .st 2 (.t 6) (.t 18)⟩])
      (stuckC)))
  (.reg [⟨some 28, none, .ia .add .i64 (.t 15) (.c (.int .i64 1))⟩, ⟨some 15, none, .mv (.t 28)⟩])))

def l_print_Program_0 : AC :=
  .loop [1, 4, 13, 14, 15] b_print_Program_0

def b_print_Program_1 : AC :=
  .seq (.reg [⟨some 51, none, .ic .lss (.t 50) (.t 49)⟩])
  (.seq (.cond (.t 51)
      (.skip)
      (.exit 2))
  (.seq (.block 3 (.seq (.reg [⟨some 52, none, .ixa 5 none (.t 48) (.t 50)⟩, ⟨some 53, none, .ld (some 5) (.t 52)⟩, ⟨some 8, none, .alloc [.str [], .int .i64 0, .int .i64 0, .str [], .own 4 []]⟩, ⟨none, none, .st 5 (.t 8) (.t 53)⟩])
      (stuckC)))
  (.reg [⟨some 63, none, .ia .add .i64 (.t 50) (.c (.int .i64 1))⟩, ⟨some 50, none, .mv (.t 63)⟩])))

def l_print_Program_1 : AC :=
  .loop [4, 48, 49, 50] b_print_Program_1

def r_print_Program_0 : AC :=
  .seq (.reg [⟨some 64, none, .fa 0 (.t 4)⟩, ⟨some 65, none, .call n_pstrings_Builder_String [(.t 64)]⟩, ⟨some 2, none, .tk (.t 65)⟩, ⟨some 3, none, .tk (.c (.bool true))⟩])
  (.ret)

def r_print_Program_1 : AC :=
  .seq (.reg [⟨some 29, none, .bsl 1 [.str []] 1 [(0, 1, (.c (.str [109, 97, 105, 110])))] false⟩, ⟨some 30, none, .call n_pprint_printer_add [(.t 4), (.t 29)]⟩])
  (.seq (.reg [⟨some 31, none, .fa 1 (.t 1)⟩, ⟨some 32, none, .ld none (.t 31)⟩, ⟨some 33, none, .call n_pprint_printer_block [(.t 4), (.t 32), (.c (.int .i64 0))]⟩])
  (.seq (.reg [⟨some 34, none, .bsl 1 [.str []] 1 [(0, 1, (.c (.str [10])))] false⟩, ⟨some 35, none, .call n_pprint_printer_add [(.t 4), (.t 34)]⟩])
  (.seq (.seq (.reg [⟨some 36, none, .fa 2 (.t 1)⟩, ⟨some 37, none, .ld none (.t 36)⟩, ⟨some 38, none, .len false (.t 37)⟩, ⟨some 39, none, .ic .gtr (.t 38) (.c (.int .i64 0))⟩])
    (.cond (.t 39)
      (stuckC)
      (.skip)))
  (.seq (.seq (.reg [⟨some 47, none, .fa 3 (.t 1)⟩, ⟨some 48, none, .ld none (.t 47)⟩, ⟨some 49, none, .len false (.t 48)⟩, ⟨some 50, none, .mv (.c (.int .i64 0))⟩])
    (.block 2 (l_print_Program_1))) r_print_Program_0))))

def c_print_Program : AFunc :=
  { np := 1, res := [.t 2, .t 3], body := (
    .seq (.reg [⟨some 1, none, .box (.t 0)⟩, ⟨some 2, none, .tk (.c (.str []))⟩, ⟨some 3, none, .tk (.c (.bool false))⟩])
    (.seq (.seq (.reg [⟨some 9, none, .ld (some 4) (.t 1)⟩, ⟨some 10, none, .callc n_tree_Right [(.t 9)]⟩, ⟨some 11, none, .notb (.t 10)⟩])
      (.cond (.t 11)
        (stuckC)
        (.skip)))
    (.seq (.reg [⟨some 4, none, .allocb bP bE⟩])
    (.seq (.seq (.reg [⟨some 12, none, .fa 0 (.t 1)⟩, ⟨some 13, none, .ld none (.t 12)⟩, ⟨some 14, none, .len false (.t 13)⟩, ⟨some 15, none, .mv (.c (.int .i64 0))⟩])
      (.block 0 (l_print_Program_0))) r_print_Program_1)))) }

-- flotsam/site.parts
def b_site_parts_0 : AC :=
  .seq (.reg [⟨some 13, none, .ic .lss (.t 12) (.t 11)⟩])
  (.seq (.cond (.t 13)
      (.skip)
      (.exit 0))
  (.seq (.block 1 (.seq (.reg [⟨some 14, none, .ixa 2 none (.t 10) (.t 12)⟩, ⟨some 15, none, .ld (some 2) (.t 14)⟩, ⟨some 5, none, .alloc [.str [], .own 7 []]⟩, ⟨none, none, .st 2 (.t 5) (.t 15)⟩])
      (stuckC)))
  (.reg [⟨some 21, none, .ia .add .i64 (.t 12) (.c (.int .i64 1))⟩, ⟨some 12, none, .mv (.t 21)⟩])))

def l_site_parts_0 : AC :=
  .loop [3, 10, 11, 12] b_site_parts_0

def r_site_parts_0 : AC :=
  .seq (.reg [⟨some 22, none, .tk (.t 3)⟩, ⟨some 2, none, .tk (.t 22)⟩])
  (.ret)

def c_site_parts : AFunc :=
  { np := 1, res := [.t 2], body := (
    .seq (.reg [⟨some 1, none, .box (.t 0)⟩, ⟨some 2, none, .tk (.c (.own 1 []))⟩])
    (.seq (.reg [⟨some 6, none, .fa 1 (.t 1)⟩, ⟨some 7, none, .ld none (.t 6)⟩, ⟨some 8, none, .bsl 1 [.sl 7 []] 1 [(0, 1, (.t 7))] false⟩, ⟨some 3, none, .tk (.t 8)⟩])
    (.seq (.seq (.reg [⟨some 9, none, .fa 0 (.t 1)⟩, ⟨some 10, none, .ld none (.t 9)⟩, ⟨some 11, none, .len false (.t 10)⟩, ⟨some 12, none, .mv (.c (.int .i64 0))⟩])
      (.block 0 (l_site_parts_0))) r_site_parts_0))) }

-- flotsam/site.each
def b_site_each_0 : AC :=
  .seq (.reg [⟨some 23, none, .ic .lss (.t 22) (.t 21)⟩])
  (.seq (.cond (.t 23)
      (.skip)
      (.exit 0))
  (.seq (.block 1 (.seq (.reg [⟨some 24, none, .mv (.t 22)⟩, ⟨some 25, none, .ixa 7 none (.t 20) (.t 22)⟩, ⟨some 26, none, .ld (some 7) (.t 25)⟩, ⟨some 10, none, .alloc [.int .i64 0, .str [], .int .i64 0, .own 4 [], .own 7 [], .own 7 [], .bool false]⟩, ⟨some 9, none, .tk (.t 24)⟩, ⟨none, none, .st 7 (.t 10) (.t 26)⟩])
      (.seq (.reg [⟨some 27, none, .mv (.t 8)⟩, ⟨some 28, none, .mv (.t 2)⟩, ⟨some 29, none, .mv (.t 9)⟩, ⟨some 30, none, .callv (.t 28) [(.t 29)]⟩, ⟨some 31, none, .fa 2 (.t 5)⟩, ⟨some 32, none, .ixa 1 (some 8) (.t 31) (.t 27)⟩, ⟨none, none, .st 1 (.t 32) (.t 30)⟩])
      (.seq (.drw [[], [], [], [], [], []] [⟨some 33, none, .mv (.t 3)⟩, ⟨some 34, none, .ld (some 11) (.t 5)⟩, ⟨some 35, none, .mv (.t 0)⟩, ⟨some 36, none, .mv (.t 9)⟩, ⟨some 37, none, .sls 7 (.t 35) (some (.t 36)) none none⟩, ⟨some 38, none, .callv (.t 33) [(.t 34), (.t 37)]⟩])
      (.seq (.reg [⟨some 39, none, .fa 4 (.t 10)⟩, ⟨some 40, none, .ld none (.t 39)⟩, ⟨some 41, none, .ld (some 11) (.t 5)⟩, ⟨some 42, none, .mv (.t 3)⟩, ⟨some 43, none, .call n_site_each [(.t 40), (.t 41), (.c (.fn (.func n_site_each_1) [] [])), (.t 42)]⟩])
      (.reg [⟨some 44, none, .fa 5 (.t 10)⟩, ⟨some 45, none, .ld none (.t 44)⟩, ⟨some 46, none, .ld (some 11) (.t 5)⟩, ⟨some 47, none, .mv (.t 3)⟩, ⟨some 48, none, .call n_site_each [(.t 45), (.t 46), (.c (.fn (.func n_site_each_2) [] [])), (.t 47)]⟩]))))))
  (.reg [⟨some 49, none, .ia .add .i64 (.t 22) (.c (.int .i64 1))⟩, ⟨some 22, none, .mv (.t 49)⟩])))

def l_site_each_0 : AC :=
  .loop [0, 2, 3, 5, 8, 20, 21, 22] b_site_each_0

def c_site_each : AFunc :=
  { np := 4, res := [], body := (
    .seq (.reg [⟨some 5, none, .box (.t 1)⟩])
    (.seq (.seq (.reg [⟨some 11, none, .fa 10 (.t 5)⟩, ⟨some 12, none, .ld none (.t 11)⟩, ⟨some 13, none, .ic .eql (.t 12) (.c (.int .i64 8))⟩])
      (.cond (.t 13)
        (.ret)
        (.skip)))
    (.seq (.reg [⟨some 14, none, .fa 10 (.t 5)⟩, ⟨some 15, none, .ld none (.t 14)⟩, ⟨some 8, none, .tk (.t 15)⟩])
    (.seq (.reg [⟨some 16, none, .fa 10 (.t 5)⟩, ⟨some 17, none, .ld none (.t 16)⟩, ⟨some 18, none, .ia .add .i64 (.t 17) (.c (.int .i64 1))⟩, ⟨some 19, none, .fa 10 (.t 5)⟩, ⟨none, none, .st 1 (.t 19) (.t 18)⟩])
    (.seq (.reg [⟨some 20, none, .mv (.t 0)⟩, ⟨some 21, none, .len false (.t 20)⟩, ⟨some 22, none, .mv (.c (.int .i64 0))⟩])
    (.block 0 (l_site_each_0))))))) }

-- flotsam/site.Sites$1
def c_site_Sites_1 : AFunc :=
  { np := 1, res := [.t 2], body := (
    .seq (.reg [⟨some 2, none, .tk (.c (.int .i64 0))⟩])
    (.seq (.reg [⟨some 3, none, .mv (.t 0)⟩, ⟨some 2, none, .tk (.t 3)⟩])
    (.ret))) }

-- flotsam/site.Sites$2
def b_site_Sites_2_0 : AC :=
  .seq (.seq (.reg [⟨some 8, none, .mv (.t 6)⟩, ⟨some 9, none, .ic .neq (.t 8) (.c (.int .u16 0))⟩])
    (.cond (.t 9)
      (.skip)
      (.exit 0)))
  (.seq (.block 1 (.seq (.reg [⟨some 12, none, .fa 0 (.t 4)⟩, ⟨some 13, none, .ld none (.t 12)⟩, ⟨some 14, none, .ia .add .i64 (.t 13) (.c (.int .i64 1))⟩, ⟨some 15, none, .fa 0 (.t 4)⟩, ⟨none, none, .st 1 (.t 15) (.t 14)⟩])
      (.seq (.reg [⟨some 16, none, .mv (.t 6)⟩, ⟨some 17, none, .ia .and .u16 (.t 16) (.c (.int .u16 1))⟩, ⟨some 18, none, .ic .eql (.t 17) (.c (.int .u16 1))⟩, ⟨some 19, none, .mv (.t 18)⟩, ⟨some 20, (some (19, true)), .fa 0 (.t 4)⟩, ⟨some 21, (some (19, true)), .ld none (.t 20)⟩, ⟨some 22, (some (19, true)), .mv (.t 1)⟩, ⟨some 23, (some (19, true)), .callc n_site_fits [(.t 21), (.t 22)]⟩, ⟨some 24, none, .pick (.t 19) (.t 23) (.c (.bool false))⟩])
      (.cond (.t 24)
        (.reg [⟨some 25, none, .ldo (.t 3)⟩, ⟨some 26, none, .ld (some 11) (.t 4)⟩, ⟨some 27, none, .bsl 11 [.int .i64 0, .int .i64 0, .int .i64 0, .int .i64 0, .int .i64 0, .int .i64 0, .int .i64 0, .int .i64 0, .int .i64 0, .int .i64 0, .int .i64 0] 1 [(0, 11, (.t 26))] false⟩, ⟨some 28, none, .app 11 88 (.t 25) (.t 27) false⟩, ⟨none, none, .st 1 (.t 3) (.t 28)⟩])
        (.skip)))))
  (.reg [⟨some 10, none, .mv (.t 6)⟩, ⟨some 11, none, .ia .shr .u16 (.t 10) (.c (.int .u64 1))⟩, ⟨some 6, none, .tk (.t 11)⟩]))

def l_site_Sites_2_0 : AC :=
  .loop [1, 3, 4, 6] b_site_Sites_2_0

def c_site_Sites_2 : AFunc :=
  { np := 4, res := [], body := (
    .seq (.reg [⟨some 4, none, .box (.t 0)⟩])
    (.seq (.reg [⟨some 7, none, .ld none (.t 2)⟩, ⟨some 6, none, .tk (.t 7)⟩])
    (.block 0 (l_site_Sites_2_0)))) }

-- flotsam/site.fits
def c_site_fits : AFunc :=
  { np := 2, res := [.t 4], body := (
    .seq (.reg [⟨some 4, none, .tk (.c (.bool false))⟩])
    (.seq (.seq (.reg [⟨some 6, none, .mv (.t 1)⟩, ⟨some 7, none, .len false (.t 6)⟩, ⟨some 8, none, .ic .eql (.t 7) (.c (.int .i64 0))⟩])
      (.cond (.t 8)
        (stuckC)
        (.skip)))
    (.seq (.seq (.reg [⟨some 9, none, .mv (.t 1)⟩, ⟨some 10, none, .ixa 7 none (.t 9) (.c (.int .i64 0))⟩, ⟨some 11, none, .ld (some 7) (.t 10)⟩, ⟨some 5, none, .alloc [.int .i64 0, .str [], .int .i64 0, .own 4 [], .own 7 [], .own 7 [], .bool false]⟩, ⟨none, none, .st 7 (.t 5) (.t 11)⟩])
      (.seq (.reg [⟨some 12, none, .mv (.t 0)⟩])
      (.block 0 (.seq (.reg [⟨some 14, none, .ic .eql (.t 12) (.c (.int .i64 1))⟩, ⟨some 13, none, .tk (.t 14)⟩])
        (.cond (.t 13)
          (.seq (.reg [⟨some 15, none, .fa 0 (.t 5)⟩, ⟨some 16, none, .ld none (.t 15)⟩, ⟨some 17, none, .ic .eql (.t 16) (.c (.int .i64 8))⟩, ⟨some 18, none, .mv (.t 17)⟩, ⟨some 19, (some (18, false)), .fa 0 (.t 5)⟩, ⟨some 20, (some (18, false)), .ld none (.t 19)⟩, ⟨some 21, (some (18, false)), .ic .eql (.t 20) (.c (.int .i64 9))⟩, ⟨some 22, none, .pick (.t 18) (.c (.bool true)) (.t 21)⟩, ⟨some 4, none, .tk (.t 22)⟩])
            (.ret))
          (.seq (.reg [⟨some 24, none, .ic .eql (.t 12) (.c (.int .i64 2))⟩, ⟨some 23, none, .tk (.t 24)⟩])
            (.cond (.t 23)
              (.seq (.reg [⟨some 25, none, .fa 0 (.t 5)⟩, ⟨some 26, none, .ld none (.t 25)⟩, ⟨some 27, none, .ic .eql (.t 26) (.c (.int .i64 8))⟩, ⟨some 4, none, .tk (.t 27)⟩])
                (.ret))
              (.seq (.reg [⟨some 29, none, .ic .eql (.t 12) (.c (.int .i64 3))⟩, ⟨some 28, none, .tk (.t 29)⟩])
                (.cond (.t 28)
                  (.seq (.reg [⟨some 30, none, .fa 0 (.t 5)⟩, ⟨some 31, none, .ld none (.t 30)⟩, ⟨some 32, none, .ic .eql (.t 31) (.c (.int .i64 10))⟩, ⟨some 4, none, .tk (.t 32)⟩])
                    (.ret))
                  (.seq (.reg [⟨some 34, none, .ic .eql (.t 12) (.c (.int .i64 4))⟩, ⟨some 33, none, .tk (.t 34)⟩])
                    (.cond (.t 33)
                      (.seq (.reg [⟨some 35, none, .fa 0 (.t 5)⟩, ⟨some 36, none, .ld none (.t 35)⟩, ⟨some 37, none, .ic .eql (.t 36) (.c (.int .i64 11))⟩, ⟨some 4, none, .tk (.t 37)⟩])
                        (.ret))
                      (.seq (.reg [⟨some 39, none, .ic .eql (.t 12) (.c (.int .i64 5))⟩, ⟨some 38, none, .tk (.t 39)⟩])
                        (.cond (.t 38)
                          (.seq (.reg [⟨some 40, none, .ld (some 7) (.t 5)⟩, ⟨some 41, none, .callc n_site_writes [(.t 40)]⟩, ⟨some 42, none, .mv (.t 41)⟩, ⟨some 43, (some (42, true)), .mv (.t 1)⟩, ⟨some 44, (some (42, true)), .len false (.t 43)⟩, ⟨some 45, (some (42, true)), .ic .gtr (.t 44) (.c (.int .i64 1))⟩, ⟨some 46, none, .pick (.t 42) (.t 45) (.c (.bool false))⟩, ⟨some 47, none, .mv (.t 46)⟩, ⟨some 48, (some (47, true)), .mv (.t 1)⟩, ⟨some 49, (some (47, true)), .ixa 7 none (.t 48) (.c (.int .i64 1))⟩, ⟨some 50, (some (47, true)), .ld (some 7) (.t 49)⟩, ⟨some 51, (some (47, true)), .callc n_site_writes [(.t 50)]⟩, ⟨some 52, none, .pick (.t 47) (.t 51) (.c (.bool false))⟩, ⟨some 4, none, .tk (.t 52)⟩])
                            (.ret))
                          (.seq (.reg [⟨some 54, none, .ic .eql (.t 12) (.c (.int .i64 6))⟩, ⟨some 53, none, .tk (.t 54)⟩])
                            (.cond (.t 53)
                              (.seq (.reg [⟨some 55, none, .fa 0 (.t 5)⟩, ⟨some 56, none, .ld none (.t 55)⟩, ⟨some 57, none, .ic .eql (.t 56) (.c (.int .i64 16))⟩, ⟨some 58, none, .mv (.t 57)⟩, ⟨some 59, (some (58, true)), .fa 6 (.t 5)⟩, ⟨some 60, (some (58, true)), .ld none (.t 59)⟩, ⟨some 61, none, .pick (.t 58) (.t 60) (.c (.bool false))⟩, ⟨some 4, none, .tk (.t 61)⟩])
                                (.ret))
                              (.seq (.reg [⟨some 63, none, .ic .eql (.t 12) (.c (.int .i64 7))⟩, ⟨some 62, none, .tk (.t 63)⟩])
                                (.cond (.t 62)
                                  (.seq (.reg [⟨some 64, none, .ld (some 7) (.t 5)⟩, ⟨some 65, none, .callc n_site_torn [(.t 64)]⟩, ⟨some 4, none, .tk (.t 65)⟩])
                                    (.ret))
                                  (.seq (.reg [⟨some 67, none, .ic .eql (.t 12) (.c (.int .i64 8))⟩, ⟨some 66, none, .tk (.t 67)⟩])
                                    (.cond (.t 66)
                                      (.seq (.reg [⟨some 68, none, .ld (some 7) (.t 5)⟩, ⟨some 69, none, .callc n_site_writes [(.t 68)]⟩, ⟨some 4, none, .tk (.t 69)⟩])
                                        (.ret))
                                      (.skip))))))))))))))))))))
    (stuckC)))) }

-- flotsam/sector.Put
def c_sector_Put : AFunc :=
  { np := 3, res := [.cell 6 (some 32), .t 7], body := (
    .seq (.reg [⟨some 3, none, .box (.t 0)⟩, ⟨some 6, none, .alloc [.int .u8 0, .int .u8 0, .int .u8 0, .int .u8 0, .int .u8 0, .int .u8 0, .int .u8 0, .int .u8 0, .int .u8 0, .int .u8 0, .int .u8 0, .int .u8 0, .int .u8 0, .int .u8 0, .int .u8 0, .int .u8 0, .int .u8 0, .int .u8 0, .int .u8 0, .int .u8 0, .int .u8 0, .int .u8 0, .int .u8 0, .int .u8 0, .int .u8 0, .int .u8 0, .int .u8 0, .int .u8 0, .int .u8 0, .int .u8 0, .int .u8 0, .int .u8 0]⟩, ⟨some 7, none, .tk (.c (.bool false))⟩])
    (.seq (.seq (.reg [⟨some 8, none, .mv (.t 1)⟩, ⟨some 9, none, .mv (.t 2)⟩, ⟨some 10, none, .len false (.t 9)⟩, ⟨some 11, none, .callc n_sector_fits [(.t 8), (.t 10)]⟩, ⟨some 12, none, .notb (.t 11)⟩])
      (.cond (.t 12)
        (stuckC)
        (.skip)))
    (.seq (.reg [⟨some 14, none, .mv (.t 1)⟩, ⟨some 15, none, .slp 1 32 (.t 3) (some (.t 14)) none none⟩, ⟨some 16, none, .mv (.t 2)⟩, ⟨some 17, none, .cpy 1 (.t 15) (.t 16)⟩])
    (.seq (.reg [⟨some 18, none, .ld (some 32) (.t 3)⟩, ⟨none, none, .st 32 (.t 6) (.t 18)⟩, ⟨some 7, none, .tk (.c (.bool true))⟩])
    (.ret))))) }

-- (*flotsam/bdisk.Disk).has
def c_pbdisk_Disk_has : AFunc :=
  { np := 2, res := [.t 4], body := (
    .seq (.reg [⟨some 4, none, .tk (.c (.bool false))⟩])
    (.seq (.reg [⟨some 5, none, .mv (.t 0)⟩, ⟨some 6, none, .call n_pbdisk_Disk_none [(.t 5)]⟩, ⟨some 7, none, .notb (.t 6)⟩, ⟨some 8, none, .mv (.t 7)⟩, ⟨some 9, (some (8, true)), .mv (.t 1)⟩, ⟨some 10, (some (8, true)), .ic .geq (.t 9) (.c (.int .i64 0))⟩, ⟨some 11, none, .pick (.t 8) (.t 10) (.c (.bool false))⟩, ⟨some 12, none, .mv (.t 11)⟩, ⟨some 13, (some (12, true)), .mv (.t 1)⟩, ⟨some 14, (some (12, true)), .mv (.t 0)⟩, ⟨some 15, (some (12, true)), .nck (.t 14)⟩, ⟨some 16, (some (12, true)), .fa 2 (.t 15)⟩, ⟨some 17, (some (12, true)), .ld none (.t 16)⟩, ⟨some 18, (some (12, true)), .len false (.t 17)⟩, ⟨some 19, (some (12, true)), .ic .lss (.t 13) (.t 18)⟩, ⟨some 20, none, .pick (.t 12) (.t 19) (.c (.bool false))⟩, ⟨some 4, none, .tk (.t 20)⟩])
    (.ret))) }

-- slices.Backward[[]flotsam/api.Write,flotsam/api.Write]
def c_slices_Backward_api_Write_api_Write : AFunc :=
  { np := 1, res := [.t 2], body := (
    .seq (.reg [⟨some 1, none, .box (.t 0)⟩, ⟨some 2, none, .tk (.c (.nilf))⟩])
    (.seq (.reg [⟨some 3, none, .mkf (.func n_slices_Backward_api_Write_api_Write_1) [] [(.t 1)]⟩, ⟨some 2, none, .tk (.t 3)⟩])
    (.ret))) }

-- flotsam/layout.InodeOf
def b_layout_InodeOf_0 : AC :=
  .seq (.reg [⟨some 16, none, .ic .lss (.t 15) (.c (.int .i64 4))⟩])
  (.seq (.cond (.t 16)
      (.skip)
      (.exit 0))
  (.seq (.block 1 (.seq (.reg [⟨some 17, none, .mv (.t 15)⟩, ⟨some 5, none, .tk (.t 17)⟩])
      (.reg [⟨some 18, none, .mv (.t 5)⟩, ⟨some 19, none, .mv (.t 5)⟩, ⟨some 20, none, .ia .add .i64 (.c (.int .i64 2)) (.t 19)⟩, ⟨some 21, none, .ixa 1 (some 32) (.t 1) (.t 20)⟩, ⟨some 22, none, .ld none (.t 21)⟩, ⟨some 23, none, .conv .i64 (.t 22)⟩, ⟨some 24, none, .fa 2 (.t 4)⟩, ⟨some 25, none, .ixa 1 (some 4) (.t 24) (.t 18)⟩, ⟨none, none, .st 1 (.t 25) (.t 23)⟩])))
  (.reg [⟨some 26, none, .ia .add .i64 (.t 15) (.c (.int .i64 1))⟩, ⟨some 15, none, .mv (.t 26)⟩])))

def l_layout_InodeOf_0 : AC :=
  .loop [1, 2, 4, 15] b_layout_InodeOf_0

def r_layout_InodeOf_0 : AC :=
  .seq (.seq (.reg [⟨some 28, none, .ld (some 6) (.t 4)⟩, ⟨some 29, none, .callc n_layout_Inode [(.t 28)]⟩, ⟨some 27, none, .mv (.t 29)⟩, ⟨some 30, none, .ext (.t 27) 0⟩, ⟨some 31, none, .ext (.t 27) 1⟩, ⟨some 6, none, .alloc [.int .u8 0, .int .u8 0, .int .u8 0, .int .u8 0, .int .u8 0, .int .u8 0, .int .u8 0, .int .u8 0, .int .u8 0, .int .u8 0, .int .u8 0, .int .u8 0, .int .u8 0, .int .u8 0, .int .u8 0, .int .u8 0, .int .u8 0, .int .u8 0, .int .u8 0, .int .u8 0, .int .u8 0, .int .u8 0, .int .u8 0, .int .u8 0, .int .u8 0, .int .u8 0, .int .u8 0, .int .u8 0, .int .u8 0, .int .u8 0, .int .u8 0, .int .u8 0]⟩, ⟨none, none, .st 32 (.t 6) (.t 30)⟩, ⟨some 7, none, .tk (.t 31)⟩])
    (.seq (.reg [⟨some 32, none, .mv (.t 7)⟩, ⟨some 33, none, .notb (.t 32)⟩, ⟨some 34, none, .mv (.t 33)⟩, ⟨some 35, (some (34, false)), .ld (some 32) (.t 1)⟩, ⟨some 36, (some (34, false)), .ld (some 32) (.t 6)⟩, ⟨some 37, (some (34, false)), .eqa true [.int .u8, .int .u8, .int .u8, .int .u8, .int .u8, .int .u8, .int .u8, .int .u8, .int .u8, .int .u8, .int .u8, .int .u8, .int .u8, .int .u8, .int .u8, .int .u8, .int .u8, .int .u8, .int .u8, .int .u8, .int .u8, .int .u8, .int .u8, .int .u8, .int .u8, .int .u8, .int .u8, .int .u8, .int .u8, .int .u8, .int .u8, .int .u8] (.t 35) (.t 36)⟩, ⟨some 38, none, .pick (.t 34) (.c (.bool true)) (.t 37)⟩])
    (.cond (.t 38)
      (stuckC)
      (.skip))))
  (.seq (.reg [⟨some 40, none, .ld (some 6) (.t 4)⟩, ⟨none, none, .st 6 (.t 2) (.t 40)⟩, ⟨some 3, none, .tk (.c (.bool true))⟩])
  (.ret))

def c_layout_InodeOf : AFunc :=
  { np := 1, res := [.cell 2 (some 6), .t 3], body := (
    .seq (.reg [⟨some 1, none, .box (.t 0)⟩, ⟨some 2, none, .alloc [.int .i64 0, .int .i64 0, .int .i64 0, .int .i64 0, .int .i64 0, .int .i64 0]⟩, ⟨some 3, none, .tk (.c (.bool false))⟩])
    (.seq (.reg [⟨some 8, none, .ixa 1 (some 32) (.t 1) (.c (.int .i64 0))⟩, ⟨some 9, none, .ld none (.t 8)⟩, ⟨some 10, none, .conv .i64 (.t 9)⟩, ⟨some 11, none, .ixa 1 (some 32) (.t 1) (.c (.int .i64 1))⟩, ⟨some 12, none, .ld none (.t 11)⟩, ⟨some 13, none, .conv .i64 (.t 12)⟩, ⟨some 14, none, .bld [.int .i64 0, .int .i64 0, .int .i64 0, .int .i64 0, .int .i64 0, .int .i64 0] [(0, 1, (.t 10)), (1, 1, (.t 13))]⟩, ⟨some 4, none, .alloc [.int .i64 0, .int .i64 0, .int .i64 0, .int .i64 0, .int .i64 0, .int .i64 0]⟩, ⟨none, none, .st 6 (.t 4) (.t 14)⟩])
    (.seq (.seq (.reg [⟨some 15, none, .mv (.c (.int .i64 0))⟩])
      (.block 0 (l_layout_InodeOf_0))) r_layout_InodeOf_0))) }

-- (*flotsam/interp.machine).take
def c_pinterp_machine_take : AFunc :=
  { np := 1, res := [.t 2], body := (
    .seq (.reg [⟨some 2, none, .tk (.c (.int .i64 0))⟩])
    (.seq (.seq (.reg [⟨some 3, none, .mv (.t 0)⟩, ⟨some 4, none, .nck (.t 3)⟩, ⟨some 5, none, .fa 3 (.t 4)⟩, ⟨some 6, none, .ld none (.t 5)⟩, ⟨some 7, none, .ic .eql (.t 6) (.c (.int .i64 0))⟩])
      (.cond (.t 7)
        (.seq (.reg [⟨some 2, none, .tk (.c (.int .i64 10))⟩])
          (.ret))
        (.skip)))
    (.seq (.reg [⟨some 8, none, .mv (.t 0)⟩, ⟨some 9, none, .nck (.t 8)⟩, ⟨some 10, none, .fa 3 (.t 9)⟩, ⟨some 11, none, .ld none (.t 10)⟩, ⟨some 12, none, .ia .sub .i64 (.t 11) (.c (.int .i64 1))⟩, ⟨some 13, none, .nck (.t 8)⟩, ⟨some 14, none, .fa 3 (.t 13)⟩, ⟨none, none, .st 1 (.t 14) (.t 12)⟩])
    (.seq (.reg [⟨some 2, none, .tk (.c (.int .i64 0))⟩])
    (.ret))))) }

-- (*flotsam/interp.machine).eval
def b_pinterp_machine_eval_0 : AC :=
  .seq (.reg [⟨some 14, none, .ic .lss (.t 13) (.t 12)⟩])
  (.seq (.cond (.t 14)
      (.skip)
      (.exit 0))
  (.seq (.block 1 (.seq (.reg [⟨some 15, none, .ixa 4 none (.t 11) (.t 13)⟩, ⟨some 16, none, .ld (some 4) (.t 15)⟩, ⟨some 8, none, .alloc [.int .i64 0, .int .i64 0, .str [], .own 4 []]⟩, ⟨none, none, .st 4 (.t 8) (.t 16)⟩])
      (stuckC)))
  (.reg [⟨some 37, none, .ia .add .i64 (.t 13) (.c (.int .i64 1))⟩, ⟨some 13, none, .mv (.t 37)⟩])))

def l_pinterp_machine_eval_0 : AC :=
  .loop [0, 6, 11, 12, 13] b_pinterp_machine_eval_0

def r_pinterp_machine_eval_0 : AC :=
  .seq (.reg [⟨some 38, none, .tk (.t 6)⟩, ⟨some 4, none, .tk (.t 38)⟩, ⟨some 5, none, .tk (.c (.int .i64 0))⟩])
  (.ret)

def c_pinterp_machine_eval : AFunc :=
  { np := 2, res := [.t 4, .t 5], body := (
    .seq (.reg [⟨some 4, none, .tk (.c (.own 3 []))⟩, ⟨some 5, none, .tk (.c (.int .i64 0))⟩])
    (.seq (.reg [⟨some 6, none, .tk (.c (.own 3 []))⟩])
    (.seq (.seq (.reg [⟨some 11, none, .mv (.t 1)⟩, ⟨some 12, none, .len false (.t 11)⟩, ⟨some 13, none, .mv (.c (.int .i64 0))⟩])
      (.block 0 (l_pinterp_machine_eval_0))) r_pinterp_machine_eval_0))) }

-- (*flotsam/interp.machine).note
def c_pinterp_machine_note : AFunc :=
  { np := 4, res := [.t 8], body := (
    .seq (.reg [⟨some 8, none, .tk (.c (.int .i64 0))⟩])
    (.seq (.reg [⟨some 10, none, .mv (.t 2)⟩, ⟨some 11, none, .mv (.t 1)⟩, ⟨some 12, none, .mv (.t 0)⟩, ⟨some 13, none, .nck (.t 12)⟩, ⟨some 14, none, .fa 2 (.t 13)⟩, ⟨some 15, none, .ld none (.t 14)⟩, ⟨some 16, none, .call n_psfs_FS_Disk [(.t 15)]⟩, ⟨some 17, none, .call n_pbdisk_Disk_Log [(.t 16)]⟩, ⟨some 18, none, .len false (.t 17)⟩, ⟨some 19, none, .bld [.int .i64 0, .int .i64 0, .int .i64 0, .int .i64 0, .int .i64 0] [(0, 1, (.t 10)), (1, 1, (.t 11)), (2, 1, (.t 18))]⟩, ⟨some 9, none, .alloc [.int .i64 0, .int .i64 0, .int .i64 0, .int .i64 0, .int .i64 0]⟩, ⟨none, none, .st 5 (.t 9) (.t 19)⟩])
    (.seq (.reg [⟨some 20, none, .mv (.t 3)⟩, ⟨some 21, none, .callv (.t 20) []⟩, ⟨some 22, none, .fa 4 (.t 9)⟩, ⟨none, none, .st 1 (.t 22) (.t 21)⟩])
    (.seq (.reg [⟨some 23, none, .mv (.t 0)⟩, ⟨some 24, none, .nck (.t 23)⟩, ⟨some 25, none, .fa 2 (.t 24)⟩, ⟨some 26, none, .ld none (.t 25)⟩, ⟨some 27, none, .call n_psfs_FS_Disk [(.t 26)]⟩, ⟨some 28, none, .call n_pbdisk_Disk_Log [(.t 27)]⟩, ⟨some 29, none, .len false (.t 28)⟩, ⟨some 30, none, .fa 3 (.t 9)⟩, ⟨none, none, .st 1 (.t 30) (.t 29)⟩])
    (.seq (.drw [[], [], [], [], [], [], [], [], [], [], []] [⟨some 31, none, .mv (.t 0)⟩, ⟨some 32, none, .mv (.t 0)⟩, ⟨some 33, none, .nck (.t 32)⟩, ⟨some 34, none, .fa 5 (.t 33)⟩, ⟨some 35, none, .ldo (.t 34)⟩, ⟨some 36, none, .ld (some 5) (.t 9)⟩, ⟨some 37, none, .bsl 5 [.int .i64 0, .int .i64 0, .int .i64 0, .int .i64 0, .int .i64 0] 1 [(0, 5, (.t 36))] false⟩, ⟨some 38, none, .app 5 40 (.t 35) (.t 37) false⟩, ⟨some 39, none, .nck (.t 31)⟩, ⟨some 40, none, .fa 5 (.t 39)⟩, ⟨none, none, .st 1 (.t 40) (.t 38)⟩])
    (.seq (.reg [⟨some 41, none, .fa 4 (.t 9)⟩, ⟨some 42, none, .ld none (.t 41)⟩, ⟨some 8, none, .tk (.t 42)⟩])
    (.ret))))))) }

-- (*flotsam/interp.machine).stmt$1
def c_pinterp_machine_stmt_1 : AFunc :=
  { np := 3, res := [.t 3], body := (
    .seq (.reg [⟨some 3, none, .tk (.c (.int .i64 0))⟩])
    (.seq (.reg [⟨some 4, none, .ld none (.t 0)⟩, ⟨some 5, none, .fa 0 (.t 1)⟩, ⟨some 6, none, .ld none (.t 5)⟩, ⟨some 7, none, .ld none (.t 2)⟩, ⟨some 8, none, .call n_pinterp_machine_file [(.t 4), (.t 6), (.t 7)]⟩, ⟨some 3, none, .tk (.t 8)⟩])
    (.ret))) }

-- (*flotsam/interp.machine).file
def c_pinterp_machine_file : AFunc :=
  { np := 3, res := [.t 6], body := (
    .seq (.reg [⟨some 6, none, .tk (.c (.int .i64 0))⟩])
    (.seq (.reg [⟨some 8, none, .mv (.t 0)⟩, ⟨some 9, none, .nck (.t 8)⟩, ⟨some 10, none, .fa 2 (.t 9)⟩, ⟨some 11, none, .ld none (.t 10)⟩, ⟨some 7, none, .tk (.t 11)⟩])
    (.seq (.seq (.reg [⟨some 12, none, .mv (.t 1)⟩])
      (.block 0 (.seq (.reg [⟨some 14, none, .ic .eql (.t 12) (.c (.int .i64 1))⟩, ⟨some 13, none, .tk (.t 14)⟩])
        (.cond (.t 13)
          (stuckC)
          (.seq (.reg [⟨some 22, none, .ic .eql (.t 12) (.c (.int .i64 2))⟩, ⟨some 21, none, .tk (.t 22)⟩])
            (.cond (.t 21)
              (stuckC)
              (.seq (.reg [⟨some 30, none, .ic .eql (.t 12) (.c (.int .i64 3))⟩, ⟨some 29, none, .tk (.t 30)⟩])
                (.cond (.t 29)
                  (stuckC)
                  (.seq (.reg [⟨some 47, none, .ic .eql (.t 12) (.c (.int .i64 4))⟩, ⟨some 46, none, .tk (.t 47)⟩])
                    (.cond (.t 46)
                      (stuckC)
                      (.seq (.reg [⟨some 60, none, .ic .eql (.t 12) (.c (.int .i64 5))⟩, ⟨some 59, none, .tk (.t 60)⟩])
                        (.cond (.t 59)
                          (stuckC)
                          (.seq (.reg [⟨some 72, none, .ic .eql (.t 12) (.c (.int .i64 6))⟩, ⟨some 71, none, .tk (.t 72)⟩])
                            (.cond (.t 71)
                              (stuckC)
                              (.seq (.reg [⟨some 84, none, .ic .eql (.t 12) (.c (.int .i64 7))⟩, ⟨some 83, none, .tk (.t 84)⟩])
                                (.cond (.t 83)
                                  (stuckC)
                                  (.seq (.reg [⟨some 92, none, .ic .eql (.t 12) (.c (.int .i64 8))⟩, ⟨some 91, none, .tk (.t 92)⟩])
                                    (.cond (.t 91)
                                      (stuckC)
                                      (.seq (.reg [⟨some 100, none, .ic .eql (.t 12) (.c (.int .i64 9))⟩, ⟨some 99, none, .tk (.t 100)⟩])
                                        (.cond (.t 99)
                                          (stuckC)
                                          (.seq (.reg [⟨some 108, none, .ic .eql (.t 12) (.c (.int .i64 10))⟩, ⟨some 107, none, .tk (.t 108)⟩])
                                            (.cond (.t 107)
                                              (stuckC)
                                              (.seq (.reg [⟨some 116, none, .ic .eql (.t 12) (.c (.int .i64 17))⟩, ⟨some 115, none, .tk (.t 116)⟩])
                                                (.cond (.t 115)
                                                  (stuckC)
                                                  (.skip)))))))))))))))))))))))))
    (.seq (.reg [⟨some 123, none, .mv (.t 7)⟩, ⟨some 124, none, .call n_flush_Barrier [(.t 123)]⟩, ⟨some 6, none, .tk (.t 124)⟩])
    (.ret))))) }

-- flotsam/tree.walk$1
def a_tree_walk_1_0 : AC :=
  .reg [⟨some 7, none, .alloc [.int .i64 0, .str [], .int .i64 0, .own 4 [], .own 7 [], .own 7 [], .bool false]⟩, ⟨none, none, .st 7 (.t 7) (.t 30)⟩]

def y_tree_walk_1_0 : AC :=
  stuckC

def r_tree_walk_1_0 : AC :=
  .reg [⟨some 35, none, .ia .add .i64 (.t 24) (.c (.int .i64 1))⟩, ⟨some 24, none, .mv (.t 35)⟩]

def b_tree_walk_1_0 : AC :=
  .seq (.reg [⟨some 25, none, .ic .lss (.t 24) (.t 23)⟩])
  (.seq (.cond (.t 25)
      (.skip)
      (.exit 2))
  (.seq (.block 3 (.seq (.reg [⟨some 26, none, .ixa 1 none (.t 22) (.t 24)⟩, ⟨some 27, none, .ld none (.t 26)⟩, ⟨some 6, none, .tk (.t 27)⟩])
      (.seq (.reg [⟨some 28, none, .mv (.t 6)⟩, ⟨some 29, none, .call n_tree_walk [(.t 28)]⟩])
      (.block 4 (.rfn (.t 29) [2] q_tree_walk_1_0 [30] a_tree_walk_1_0 y_tree_walk_1_0))))) r_tree_walk_1_0))

def l_tree_walk_1_0 : AC :=
  .loop [2, 8, 9, 10, 22, 23, 24] b_tree_walk_1_0

def r_tree_walk_1_1 : AC :=
  .reg [⟨some 36, none, .ia .add .i64 (.t 10) (.c (.int .i64 1))⟩, ⟨some 10, none, .mv (.t 36)⟩]

def b_tree_walk_1_1 : AC :=
  .seq (.reg [⟨some 11, none, .ic .lss (.t 10) (.t 9)⟩])
  (.seq (.cond (.t 11)
      (.skip)
      (.exit 0))
  (.seq (.block 1 (.seq (.reg [⟨some 12, none, .ixa 7 none (.t 8) (.t 10)⟩, ⟨some 13, none, .ld (some 7) (.t 12)⟩, ⟨some 4, none, .alloc [.int .i64 0, .str [], .int .i64 0, .own 4 [], .own 7 [], .own 7 [], .bool false]⟩, ⟨none, none, .st 7 (.t 4) (.t 13)⟩])
      (.seq (.seq (.reg [⟨some 14, none, .ld none (.t 2)⟩, ⟨some 15, none, .ld (some 7) (.t 4)⟩, ⟨some 16, none, .callv (.t 14) [(.t 15)]⟩, ⟨some 17, none, .notb (.t 16)⟩])
        (.cond (.t 17)
          (.ret)
          (.skip)))
      (.seq (.reg [⟨some 18, none, .fa 4 (.t 4)⟩, ⟨some 19, none, .ld none (.t 18)⟩, ⟨some 20, none, .fa 5 (.t 4)⟩, ⟨some 21, none, .ld none (.t 20)⟩, ⟨some 22, none, .bsl 1 [.sl 7 []] 2 [(0, 1, (.t 19)), (1, 1, (.t 21))] false⟩, ⟨some 23, none, .len false (.t 22)⟩, ⟨some 24, none, .mv (.c (.int .i64 0))⟩])
      (.block 2 (l_tree_walk_1_0)))))) r_tree_walk_1_1))

def l_tree_walk_1_1 : AC :=
  .loop [2, 8, 9, 10] b_tree_walk_1_1

def c_tree_walk_1 : AFunc :=
  { np := 2, res := [], body := (
    .seq (.reg [⟨some 2, none, .box (.t 0)⟩])
    (.seq (.reg [⟨some 8, none, .ld none (.t 1)⟩, ⟨some 9, none, .len false (.t 8)⟩, ⟨some 10, none, .mv (.c (.int .i64 0))⟩])
    (.block 0 (l_tree_walk_1_1)))) }

-- flotsam/tree.Right$1
def c_tree_Right_1 : AFunc :=
  { np := 1, res := [.t 2], body := (
    .seq (.reg [⟨some 1, none, .box (.t 0)⟩, ⟨some 2, none, .tk (.c (.bool false))⟩])
    (.seq (.reg [⟨some 3, none, .fa 0 (.t 1)⟩, ⟨some 4, none, .ld none (.t 3)⟩, ⟨some 5, none, .callc n_lex_Name [(.t 4)]⟩, ⟨some 6, none, .notb (.t 5)⟩, ⟨some 2, none, .tk (.t 6)⟩])
    (.ret))) }

-- flotsam/lex.Name
def c_lex_Name : AFunc :=
  { np := 1, res := [.t 2], body := (
    .seq (.reg [⟨some 2, none, .tk (.c (.bool false))⟩])
    (stuckC)) }

-- flotsam/tree.Right$2
def c_tree_Right_2 : AFunc :=
  { np := 1, res := [.t 2], body := (
    .seq (.reg [⟨some 1, none, .box (.t 0)⟩, ⟨some 2, none, .tk (.c (.bool false))⟩])
    (.seq (.reg [⟨some 3, none, .fa 0 (.t 1)⟩, ⟨some 4, none, .ld none (.t 3)⟩, ⟨some 5, none, .callc n_lex_Name [(.t 4)]⟩, ⟨some 6, none, .notb (.t 5)⟩, ⟨some 7, none, .mv (.t 6)⟩, ⟨some 8, (some (7, false)), .fa 1 (.t 1)⟩, ⟨some 9, (some (7, false)), .ld (some 4) (.t 8)⟩, ⟨some 10, (some (7, false)), .callc n_tree_expr [(.t 9), (.c (.int .i64 8))]⟩, ⟨some 11, (some (7, false)), .notb (.t 10)⟩, ⟨some 12, none, .pick (.t 7) (.c (.bool true)) (.t 11)⟩, ⟨some 2, none, .tk (.t 12)⟩])
    (.ret))) }

-- flotsam/tree.expr
def c_tree_expr : AFunc :=
  { np := 2, res := [.t 4], body := (
    .seq (.reg [⟨some 2, none, .box (.t 0)⟩, ⟨some 3, none, .box (.t 1)⟩, ⟨some 4, none, .tk (.c (.bool false))⟩])
    (stuckC)) }

-- flotsam/tree.Right$3
def c_tree_Right_3 : AFunc :=
  { np := 1, res := [.t 2], body := (
    .seq (.reg [⟨some 2, none, .tk (.c (.bool false))⟩])
    (.seq (.reg [⟨some 3, none, .mv (.t 0)⟩, ⟨some 4, none, .callc n_tree_block [(.t 3), (.c (.int .i64 1))]⟩, ⟨some 5, none, .notb (.t 4)⟩, ⟨some 2, none, .tk (.t 5)⟩])
    (.ret))) }

-- flotsam/tree.block
def c_tree_block : AFunc :=
  { np := 2, res := [.t 4], body := (
    .seq (.reg [⟨some 3, none, .box (.t 1)⟩, ⟨some 4, none, .tk (.c (.bool false))⟩])
    (.seq (.reg [⟨some 5, none, .mv (.t 0)⟩, ⟨some 6, none, .mkf (.func n_tree_block_1) [] [(.t 3)]⟩, ⟨some 7, none, .call n_slices_ContainsFunc_api_Stmt_api_Stmt_x [(.t 5), (.t 6)]⟩, ⟨some 8, none, .notb (.t 7)⟩, ⟨some 4, none, .tk (.t 8)⟩])
    (.ret))) }

-- slices.ContainsFunc[[]flotsam/api.Proc,flotsam/api.Proc]
def c_slices_ContainsFunc_api_Proc_api_Proc : AFunc :=
  { np := 2, res := [.t 4], body := (
    .seq (.reg [⟨some 4, none, .tk (.c (.bool false))⟩])
    (.seq (.reg [⟨some 5, none, .mv (.t 0)⟩, ⟨some 6, none, .mv (.t 1)⟩, ⟨some 7, none, .call n_slices_IndexFunc_api_Proc_api_Proc [(.t 5), (.t 6)]⟩, ⟨some 8, none, .ic .geq (.t 7) (.c (.int .i64 0))⟩, ⟨some 4, none, .tk (.t 8)⟩])
    (.ret))) }

-- slices.ContainsFunc[[]flotsam/api.Oracle,flotsam/api.Oracle]
def c_slices_ContainsFunc_api_Oracle_api_Oracle : AFunc :=
  { np := 2, res := [.t 4], body := (
    .seq (.reg [⟨some 4, none, .tk (.c (.bool false))⟩])
    (.seq (.reg [⟨some 5, none, .mv (.t 0)⟩, ⟨some 6, none, .mv (.t 1)⟩, ⟨some 7, none, .call n_slices_IndexFunc_api_Oracle_api_Oracle [(.t 5), (.t 6)]⟩, ⟨some 8, none, .ic .geq (.t 7) (.c (.int .i64 0))⟩, ⟨some 4, none, .tk (.t 8)⟩])
    (.ret))) }

-- slices.ContainsFunc[[][]flotsam/api.Stmt,[]flotsam/api.Stmt]
def c_slices_ContainsFunc_api_Stmt_api_Stmt : AFunc :=
  { np := 2, res := [.t 4], body := (
    .seq (.reg [⟨some 4, none, .tk (.c (.bool false))⟩])
    (.seq (.reg [⟨some 5, none, .mv (.t 0)⟩, ⟨some 6, none, .mv (.t 1)⟩, ⟨some 7, none, .call n_slices_IndexFunc_api_Stmt_api_Stmt [(.t 5), (.t 6)]⟩, ⟨some 8, none, .ic .geq (.t 7) (.c (.int .i64 0))⟩, ⟨some 4, none, .tk (.t 8)⟩])
    (.ret))) }

-- (*flotsam/types.checker).exprs
def b_ptypes_checker_exprs_0 : AC :=
  .seq (.reg [⟨some 16, none, .ic .lss (.t 15) (.t 14)⟩])
  (.seq (.cond (.t 16)
      (.skip)
      (.exit 0))
  (.seq (.block 1 (.seq (.reg [⟨some 17, none, .mv (.t 15)⟩, ⟨some 18, none, .ixa 4 none (.t 13) (.t 15)⟩, ⟨some 19, none, .ld (some 4) (.t 18)⟩, ⟨some 9, none, .alloc [.int .i64 0, .int .i64 0, .str [], .own 4 []]⟩, ⟨some 8, none, .tk (.t 17)⟩, ⟨none, none, .st 4 (.t 9) (.t 19)⟩])
      (stuckC)))
  (.reg [⟨some 46, none, .ia .add .i64 (.t 15) (.c (.int .i64 1))⟩, ⟨some 15, none, .mv (.t 46)⟩])))

def l_ptypes_checker_exprs_0 : AC :=
  .loop [0, 2, 4, 7, 13, 14, 15] b_ptypes_checker_exprs_0

def r_ptypes_checker_exprs_0 : AC :=
  .seq (.reg [⟨some 47, none, .mv (.t 7)⟩, ⟨some 6, none, .tk (.t 47)⟩])
  (.ret)

def c_ptypes_checker_exprs : AFunc :=
  { np := 3, res := [.t 6], body := (
    .seq (.reg [⟨some 4, none, .box (.t 1)⟩, ⟨some 6, none, .tk (.c (.int .i64 0))⟩])
    (.seq (.reg [⟨some 7, none, .tk (.c (.int .i64 0))⟩])
    (.seq (.seq (.reg [⟨some 12, none, .fa 3 (.t 4)⟩, ⟨some 13, none, .ld none (.t 12)⟩, ⟨some 14, none, .len false (.t 13)⟩, ⟨some 15, none, .mv (.c (.int .i64 0))⟩])
      (.block 0 (l_ptypes_checker_exprs_0))) r_ptypes_checker_exprs_0))) }

-- flotsam/tree.each[flotsam/api.Expr]
def b_tree_each_api_Expr_0 : AC :=
  .seq (.reg [⟨some 11, none, .ic .lss (.t 10) (.t 9)⟩])
  (.seq (.cond (.t 11)
      (.skip)
      (.exit 0))
  (.seq (.block 1 (.seq (.reg [⟨some 12, none, .ixa 4 none (.t 8) (.t 10)⟩, ⟨some 13, none, .ld (some 4) (.t 12)⟩, ⟨some 7, none, .alloc [.int .i64 0, .int .i64 0, .str [], .own 4 []]⟩, ⟨none, none, .st 4 (.t 7) (.t 13)⟩])
      (.reg [⟨some 14, none, .tk (.t 5)⟩, ⟨some 15, none, .mv (.t 1)⟩, ⟨some 16, none, .ld (some 4) (.t 7)⟩, ⟨some 17, none, .callv (.t 15) [(.t 16)]⟩, ⟨some 18, none, .bsl 4 [.int .i64 0, .int .i64 0, .str [], .sl 4 []] 1 [(0, 4, (.t 17))] false⟩, ⟨some 19, none, .app 4 56 (.t 14) (.t 18) false⟩, ⟨some 5, none, .tk (.t 19)⟩])))
  (.reg [⟨some 20, none, .ia .add .i64 (.t 10) (.c (.int .i64 1))⟩, ⟨some 10, none, .mv (.t 20)⟩])))

def l_tree_each_api_Expr_0 : AC :=
  .loop [1, 5, 8, 9, 10] b_tree_each_api_Expr_0

def r_tree_each_api_Expr_0 : AC :=
  .seq (.reg [⟨some 21, none, .tk (.t 5)⟩, ⟨some 4, none, .tk (.t 21)⟩])
  (.ret)

def c_tree_each_api_Expr : AFunc :=
  { np := 2, res := [.t 4], body := (
    .seq (.reg [⟨some 4, none, .tk (.c (.own 4 []))⟩])
    (.seq (.reg [⟨some 5, none, .tk (.c (.own 4 []))⟩])
    (.seq (.seq (.reg [⟨some 8, none, .mv (.t 0)⟩, ⟨some 9, none, .len false (.t 8)⟩, ⟨some 10, none, .mv (.c (.int .i64 0))⟩])
      (.block 0 (l_tree_each_api_Expr_0))) r_tree_each_api_Expr_0))) }

-- flotsam/tree.clonedExpr
def c_tree_clonedExpr : AFunc :=
  { np := 1, res := [.cell 2 (some 4)], body := (
    .seq (.reg [⟨some 1, none, .box (.t 0)⟩, ⟨some 2, none, .alloc [.int .i64 0, .int .i64 0, .str [], .own 4 []]⟩])
    (stuckC)) }

-- flotsam/tree.each[flotsam/api.Stmt]
def b_tree_each_api_Stmt_0 : AC :=
  .seq (.reg [⟨some 11, none, .ic .lss (.t 10) (.t 9)⟩])
  (.seq (.cond (.t 11)
      (.skip)
      (.exit 0))
  (.seq (.block 1 (.seq (.reg [⟨some 12, none, .ixa 7 none (.t 8) (.t 10)⟩, ⟨some 13, none, .ld (some 7) (.t 12)⟩, ⟨some 7, none, .alloc [.int .i64 0, .str [], .int .i64 0, .own 4 [], .own 7 [], .own 7 [], .bool false]⟩, ⟨none, none, .st 7 (.t 7) (.t 13)⟩])
      (.reg [⟨some 14, none, .tk (.t 5)⟩, ⟨some 15, none, .mv (.t 1)⟩, ⟨some 16, none, .ld (some 7) (.t 7)⟩, ⟨some 17, none, .callv (.t 15) [(.t 16)]⟩, ⟨some 18, none, .bsl 7 [.int .i64 0, .str [], .int .i64 0, .sl 4 [], .sl 7 [], .sl 7 [], .bool false] 1 [(0, 7, (.t 17))] false⟩, ⟨some 19, none, .app 7 112 (.t 14) (.t 18) false⟩, ⟨some 5, none, .tk (.t 19)⟩])))
  (.reg [⟨some 20, none, .ia .add .i64 (.t 10) (.c (.int .i64 1))⟩, ⟨some 10, none, .mv (.t 20)⟩])))

def l_tree_each_api_Stmt_0 : AC :=
  .loop [1, 5, 8, 9, 10] b_tree_each_api_Stmt_0

def r_tree_each_api_Stmt_0 : AC :=
  .seq (.reg [⟨some 21, none, .tk (.t 5)⟩, ⟨some 4, none, .tk (.t 21)⟩])
  (.ret)

def c_tree_each_api_Stmt : AFunc :=
  { np := 2, res := [.t 4], body := (
    .seq (.reg [⟨some 4, none, .tk (.c (.own 7 []))⟩])
    (.seq (.reg [⟨some 5, none, .tk (.c (.own 7 []))⟩])
    (.seq (.seq (.reg [⟨some 8, none, .mv (.t 0)⟩, ⟨some 9, none, .len false (.t 8)⟩, ⟨some 10, none, .mv (.c (.int .i64 0))⟩])
      (.block 0 (l_tree_each_api_Stmt_0))) r_tree_each_api_Stmt_0))) }

-- (*flotsam/print.printer).add
def b_pprint_printer_add_0 : AC :=
  .seq (.reg [⟨some 9, none, .ic .lss (.t 8) (.t 7)⟩])
  (.seq (.cond (.t 9)
      (.skip)
      (.exit 0))
  (.seq (.block 1 (.seq (.reg [⟨some 10, none, .ixa 1 none (.t 6) (.t 8)⟩, ⟨some 11, none, .ld none (.t 10)⟩, ⟨some 5, none, .tk (.t 11)⟩])
      (.reg [⟨some 12, none, .mv (.t 0)⟩, ⟨some 13, none, .nck (.t 12)⟩, ⟨some 14, none, .fa 0 (.t 13)⟩, ⟨some 15, none, .mv (.t 5)⟩, ⟨some 16, none, .call n_pstrings_Builder_WriteString [(.t 14), (.t 15)]⟩])))
  (.reg [⟨some 17, none, .ia .add .i64 (.t 8) (.c (.int .i64 1))⟩, ⟨some 8, none, .mv (.t 17)⟩])))

def l_pprint_printer_add_0 : AC :=
  .loop [0, 6, 7, 8] b_pprint_printer_add_0

def c_pprint_printer_add : AFunc :=
  { np := 2, res := [], body := (
    .seq (.reg [⟨some 6, none, .mv (.t 1)⟩, ⟨some 7, none, .len false (.t 6)⟩, ⟨some 8, none, .mv (.c (.int .i64 0))⟩])
    (.block 0 (l_pprint_printer_add_0))) }

-- (*flotsam/print.printer).block
def b_pprint_printer_block_0 : AC :=
  .seq (.reg [⟨some 14, none, .ic .lss (.t 13) (.t 12)⟩])
  (.seq (.cond (.t 14)
      (.skip)
      (.exit 0))
  (.seq (.block 1 (.seq (.reg [⟨some 15, none, .ixa 7 none (.t 11) (.t 13)⟩, ⟨some 16, none, .ld (some 7) (.t 15)⟩, ⟨some 7, none, .alloc [.int .i64 0, .str [], .int .i64 0, .own 4 [], .own 7 [], .own 7 [], .bool false]⟩, ⟨none, none, .st 7 (.t 7) (.t 16)⟩])
      (.seq (.reg [⟨some 17, none, .mv (.t 0)⟩, ⟨some 18, none, .mv (.t 2)⟩, ⟨some 19, none, .ia .add .i64 (.t 18) (.c (.int .i64 1))⟩, ⟨some 20, none, .callc n_strings_Repeat [(.c (.str [9])), (.t 19)]⟩, ⟨some 21, none, .bsl 1 [.str []] 1 [(0, 1, (.t 20))] false⟩, ⟨some 22, none, .call n_pprint_printer_add [(.t 17), (.t 21)]⟩])
      (.seq (.reg [⟨some 23, none, .mv (.t 0)⟩, ⟨some 24, none, .ld (some 7) (.t 7)⟩, ⟨some 25, none, .mv (.t 2)⟩, ⟨some 26, none, .ia .add .i64 (.t 25) (.c (.int .i64 1))⟩, ⟨some 27, none, .call n_pprint_printer_stmt [(.t 23), (.t 24), (.t 26)]⟩])
      (.reg [⟨some 28, none, .mv (.t 0)⟩, ⟨some 29, none, .bsl 1 [.str []] 1 [(0, 1, (.c (.str [10])))] false⟩, ⟨some 30, none, .call n_pprint_printer_add [(.t 28), (.t 29)]⟩])))))
  (.reg [⟨some 31, none, .ia .add .i64 (.t 13) (.c (.int .i64 1))⟩, ⟨some 13, none, .mv (.t 31)⟩])))

def l_pprint_printer_block_0 : AC :=
  .loop [0, 2, 11, 12, 13] b_pprint_printer_block_0

def r_pprint_printer_block_0 : AC :=
  .reg [⟨some 32, none, .mv (.t 0)⟩, ⟨some 33, none, .mv (.t 2)⟩, ⟨some 34, none, .callc n_strings_Repeat [(.c (.str [9])), (.t 33)]⟩, ⟨some 35, none, .bsl 1 [.str []] 2 [(0, 1, (.t 34)), (1, 1, (.c (.str [125])))] false⟩, ⟨some 36, none, .call n_pprint_printer_add [(.t 32), (.t 35)]⟩]

def c_pprint_printer_block : AFunc :=
  { np := 3, res := [], body := (
    .seq (.reg [⟨some 8, none, .mv (.t 0)⟩, ⟨some 9, none, .bsl 1 [.str []] 1 [(0, 1, (.c (.str [32, 123, 10])))] false⟩, ⟨some 10, none, .call n_pprint_printer_add [(.t 8), (.t 9)]⟩])
    (.seq (.seq (.reg [⟨some 11, none, .mv (.t 1)⟩, ⟨some 12, none, .len false (.t 11)⟩, ⟨some 13, none, .mv (.c (.int .i64 0))⟩])
      (.block 0 (l_pprint_printer_block_0))) r_pprint_printer_block_0)) }

-- flotsam/site.each$1
def c_site_each_1 : AFunc :=
  { np := 1, res := [.t 2], body := (
    .seq (.reg [⟨some 2, none, .tk (.c (.int .i64 0))⟩])
    (.seq (.reg [⟨some 3, none, .mv (.t 0)⟩, ⟨some 4, none, .ia .shl .i64 (.t 3) (.c (.int .u64 1))⟩, ⟨some 2, none, .tk (.t 4)⟩])
    (.ret))) }

-- flotsam/site.each$2
def c_site_each_2 : AFunc :=
  { np := 1, res := [.t 2], body := (
    .seq (.reg [⟨some 2, none, .tk (.c (.int .i64 0))⟩])
    (.seq (.reg [⟨some 3, none, .mv (.t 0)⟩, ⟨some 4, none, .ia .shl .i64 (.t 3) (.c (.int .u64 1))⟩, ⟨some 5, none, .ia .or .i64 (.t 4) (.c (.int .i64 1))⟩, ⟨some 2, none, .tk (.t 5)⟩])
    (.ret))) }

-- flotsam/site.writes
def c_site_writes : AFunc :=
  { np := 1, res := [.t 2], body := (
    .seq (.reg [⟨some 1, none, .box (.t 0)⟩, ⟨some 2, none, .tk (.c (.bool false))⟩])
    (.seq (.reg [⟨some 3, none, .fa 0 (.t 1)⟩, ⟨some 4, none, .ld none (.t 3)⟩, ⟨some 5, none, .ic .eql (.t 4) (.c (.int .i64 3))⟩, ⟨some 6, none, .mv (.t 5)⟩, ⟨some 7, (some (6, false)), .fa 0 (.t 1)⟩, ⟨some 8, (some (6, false)), .ld none (.t 7)⟩, ⟨some 9, (some (6, false)), .ic .eql (.t 8) (.c (.int .i64 4))⟩, ⟨some 10, none, .pick (.t 6) (.c (.bool true)) (.t 9)⟩, ⟨some 2, none, .tk (.t 10)⟩])
    (.ret))) }

-- flotsam/site.torn
def c_site_torn : AFunc :=
  { np := 1, res := [.t 2], body := (
    .seq (.reg [⟨some 1, none, .box (.t 0)⟩, ⟨some 2, none, .tk (.c (.bool false))⟩])
    (.seq (.seq (.reg [⟨some 4, none, .ld (some 7) (.t 1)⟩, ⟨some 5, none, .callc n_site_writes [(.t 4)]⟩, ⟨some 6, none, .notb (.t 5)⟩, ⟨some 7, none, .mv (.t 6)⟩, ⟨some 8, (some (7, false)), .fa 3 (.t 1)⟩, ⟨some 9, (some (7, false)), .ld none (.t 8)⟩, ⟨some 10, (some (7, false)), .len false (.t 9)⟩, ⟨some 11, (some (7, false)), .ic .eql (.t 10) (.c (.int .i64 0))⟩, ⟨some 12, none, .pick (.t 7) (.c (.bool true)) (.t 11)⟩])
      (.cond (.t 12)
        (.seq (.reg [⟨some 2, none, .tk (.c (.bool false))⟩])
          (.ret))
        (.skip)))
    (stuckC))) }

-- flotsam/site.Fits
def c_site_Fits : AFunc :=
  { np := 2, res := [.t 4], body := (
    .seq (.reg [⟨some 2, none, .box (.t 0)⟩, ⟨some 3, none, .box (.t 1)⟩, ⟨some 4, none, .tk (.c (.bool false))⟩])
    (.seq (.drw [[], [], [], [], [], [], []] [⟨some 5, none, .fa 0 (.t 3)⟩, ⟨some 6, none, .ld none (.t 5)⟩, ⟨some 7, none, .ld (some 4) (.t 2)⟩, ⟨some 8, none, .ld (some 11) (.t 3)⟩, ⟨some 9, none, .callc n_site_lead [(.t 7), (.t 8)]⟩, ⟨some 10, none, .callc n_site_fits [(.t 6), (.t 9)]⟩, ⟨some 4, none, .tk (.t 10)⟩])
    (.ret))) }

-- flotsam/tree.Clone
def c_tree_Clone : AFunc :=
  { np := 1, res := [.cell 2 (some 4)], body := (
    .seq (.reg [⟨some 1, none, .box (.t 0)⟩, ⟨some 2, none, .alloc [.own 2 [], .own 7 [], .own 7 [], .own 5 []]⟩])
    (.seq (.drw [[], [], [], [], [], [], [], [], [], [], [], [], [], []] [⟨some 3, none, .fa 0 (.t 1)⟩, ⟨some 4, none, .ld none (.t 3)⟩, ⟨some 5, none, .callc n_tree_each_api_Proc [(.t 4), (.c (.fn (.func n_tree_Clone_1) [] []))]⟩, ⟨some 6, none, .fa 1 (.t 1)⟩, ⟨some 7, none, .ld none (.t 6)⟩, ⟨some 8, none, .callc n_tree_each_api_Stmt [(.t 7), (.c (.fn (.func n_tree_cloned) [] []))]⟩, ⟨some 9, none, .fa 2 (.t 1)⟩, ⟨some 10, none, .ld none (.t 9)⟩, ⟨some 11, none, .callc n_tree_each_api_Stmt [(.t 10), (.c (.fn (.func n_tree_cloned) [] []))]⟩, ⟨some 12, none, .fa 3 (.t 1)⟩, ⟨some 13, none, .ld none (.t 12)⟩, ⟨some 14, none, .callc n_tree_each_api_Oracle [(.t 13), (.c (.fn (.func n_tree_Clone_2) [] []))]⟩, ⟨some 15, none, .bld [.sl 2 [], .sl 7 [], .sl 7 [], .sl 5 []] [(0, 1, (.t 5)), (1, 1, (.t 8)), (2, 1, (.t 11)), (3, 1, (.t 14))]⟩, ⟨none, none, .st 4 (.t 2) (.t 15)⟩])
    (.ret))) }

-- flotsam/sector.fits
def c_sector_fits : AFunc :=
  { np := 2, res := [.t 4], body := (
    .seq (.reg [⟨some 4, none, .tk (.c (.bool false))⟩])
    (.seq (.reg [⟨some 5, none, .mv (.t 0)⟩, ⟨some 6, none, .ic .geq (.t 5) (.c (.int .i64 0))⟩, ⟨some 7, none, .mv (.t 6)⟩, ⟨some 8, (some (7, true)), .mv (.t 0)⟩, ⟨some 9, (some (7, true)), .ic .leq (.t 8) (.c (.int .i64 32))⟩, ⟨some 10, none, .pick (.t 7) (.t 9) (.c (.bool false))⟩, ⟨some 11, none, .mv (.t 10)⟩, ⟨some 12, (some (11, true)), .mv (.t 1)⟩, ⟨some 13, (some (11, true)), .ic .geq (.t 12) (.c (.int .i64 0))⟩, ⟨some 14, none, .pick (.t 11) (.t 13) (.c (.bool false))⟩, ⟨some 15, none, .mv (.t 14)⟩, ⟨some 16, (some (15, true)), .mv (.t 1)⟩, ⟨some 17, (some (15, true)), .mv (.t 0)⟩, ⟨some 18, (some (15, true)), .ia .sub .i64 (.c (.int .i64 32)) (.t 17)⟩, ⟨some 19, (some (15, true)), .ic .leq (.t 16) (.t 18)⟩, ⟨some 20, none, .pick (.t 15) (.t 19) (.c (.bool false))⟩, ⟨some 4, none, .tk (.t 20)⟩])
    (.ret))) }

-- slices.Backward[[]flotsam/api.Write,flotsam/api.Write]$1
def b_slices_Backward_api_Write_api_Write_1_0 : AC :=
  .seq (.seq (.reg [⟨some 7, none, .mv (.t 3)⟩, ⟨some 8, none, .ic .geq (.t 7) (.c (.int .i64 0))⟩])
    (.cond (.t 8)
      (.skip)
      (.exit 0)))
  (.seq (.block 1 (.seq (.reg [⟨some 11, none, .mv (.t 0)⟩, ⟨some 12, none, .mv (.t 3)⟩, ⟨some 13, none, .ld none (.t 1)⟩, ⟨some 14, none, .mv (.t 3)⟩, ⟨some 15, none, .ixa 36 none (.t 13) (.t 14)⟩, ⟨some 16, none, .ld (some 36) (.t 15)⟩, ⟨some 17, none, .callv (.t 11) [(.t 12), (.t 16)]⟩, ⟨some 18, none, .notb (.t 17)⟩])
      (.cond (.t 18)
        (.ret)
        (.skip))))
  (.reg [⟨some 9, none, .mv (.t 3)⟩, ⟨some 10, none, .ia .sub .i64 (.t 9) (.c (.int .i64 1))⟩, ⟨some 3, none, .tk (.t 10)⟩]))

def l_slices_Backward_api_Write_api_Write_1_0 : AC :=
  .loop [0, 1, 3] b_slices_Backward_api_Write_api_Write_1_0

def c_slices_Backward_api_Write_api_Write_1 : AFunc :=
  { np := 2, res := [], body := (
    .seq (.reg [⟨some 4, none, .ld none (.t 1)⟩, ⟨some 5, none, .len false (.t 4)⟩, ⟨some 6, none, .ia .sub .i64 (.t 5) (.c (.int .i64 1))⟩, ⟨some 3, none, .tk (.t 6)⟩])
    (.block 0 (l_slices_Backward_api_Write_api_Write_1_0))) }

-- flotsam/flush.Barrier
def c_flush_Barrier : AFunc :=
  { np := 1, res := [.t 2], body := (
    .seq (.reg [⟨some 2, none, .tk (.c (.int .i64 0))⟩])
    (.seq (.reg [⟨some 3, none, .mv (.t 0)⟩, ⟨some 4, none, .call n_psfs_FS_Disk [(.t 3)]⟩, ⟨some 5, none, .call n_pbdisk_Disk_Barrier [(.t 4)]⟩, ⟨some 2, none, .tk (.t 5)⟩])
    (.ret))) }

-- slices.ContainsFunc[[]flotsam/api.Expr,flotsam/api.Expr]
def c_slices_ContainsFunc_api_Expr_api_Expr : AFunc :=
  { np := 2, res := [.t 4], body := (
    .seq (.reg [⟨some 4, none, .tk (.c (.bool false))⟩])
    (.seq (.reg [⟨some 5, none, .mv (.t 0)⟩, ⟨some 6, none, .mv (.t 1)⟩, ⟨some 7, none, .call n_slices_IndexFunc_api_Expr_api_Expr [(.t 5), (.t 6)]⟩, ⟨some 8, none, .ic .geq (.t 7) (.c (.int .i64 0))⟩, ⟨some 4, none, .tk (.t 8)⟩])
    (.ret))) }

-- slices.ContainsFunc[[]flotsam/api.Stmt,flotsam/api.Stmt]
def c_slices_ContainsFunc_api_Stmt_api_Stmt_x : AFunc :=
  { np := 2, res := [.t 4], body := (
    .seq (.reg [⟨some 4, none, .tk (.c (.bool false))⟩])
    (.seq (.reg [⟨some 5, none, .mv (.t 0)⟩, ⟨some 6, none, .mv (.t 1)⟩, ⟨some 7, none, .call n_slices_IndexFunc_api_Stmt_api_Stmt_x [(.t 5), (.t 6)]⟩, ⟨some 8, none, .ic .geq (.t 7) (.c (.int .i64 0))⟩, ⟨some 4, none, .tk (.t 8)⟩])
    (.ret))) }

-- flotsam/tree.block$1
def c_tree_block_1 : AFunc :=
  { np := 2, res := [.t 3], body := (
    .seq (.reg [⟨some 2, none, .box (.t 0)⟩, ⟨some 3, none, .tk (.c (.bool false))⟩])
    (.seq (.reg [⟨some 4, none, .ld (some 7) (.t 2)⟩, ⟨some 5, none, .ld none (.t 1)⟩, ⟨some 6, none, .callc n_tree_stmt [(.t 4), (.t 5)]⟩, ⟨some 7, none, .notb (.t 6)⟩, ⟨some 3, none, .tk (.t 7)⟩])
    (.ret))) }

-- flotsam/tree.stmt
def c_tree_stmt : AFunc :=
  { np := 2, res := [.t 4], body := (
    .seq (.reg [⟨some 2, none, .box (.t 0)⟩, ⟨some 4, none, .tk (.c (.bool false))⟩])
    (.seq (.seq (.reg [⟨some 6, none, .mv (.t 1)⟩, ⟨some 7, none, .ic .gtr (.t 6) (.c (.int .i64 8))⟩, ⟨some 8, none, .mv (.t 7)⟩, ⟨some 9, (some (8, false)), .ld (some 7) (.t 2)⟩, ⟨some 10, (some (8, false)), .callc n_tree_shape [(.t 9)]⟩, ⟨some 11, (some (8, false)), .notb (.t 10)⟩, ⟨some 12, none, .pick (.t 8) (.c (.bool true)) (.t 11)⟩])
      (.cond (.t 12)
        (stuckC)
        (.skip)))
    (.seq (.seq (.reg [⟨some 13, none, .fa 0 (.t 2)⟩, ⟨some 14, none, .ld none (.t 13)⟩, ⟨some 15, none, .ic .eql (.t 14) (.c (.int .i64 16))⟩])
      (.cond (.t 15)
        (stuckC)
        (.skip)))
    (.seq (.reg [⟨some 26, none, .fa 4 (.t 2)⟩, ⟨some 27, none, .ld none (.t 26)⟩, ⟨some 28, none, .mv (.t 1)⟩, ⟨some 29, none, .ia .add .i64 (.t 28) (.c (.int .i64 1))⟩, ⟨some 30, none, .callc n_tree_block [(.t 27), (.t 29)]⟩, ⟨some 31, none, .mv (.t 30)⟩, ⟨some 32, (some (31, true)), .fa 5 (.t 2)⟩, ⟨some 33, (some (31, true)), .ld none (.t 32)⟩, ⟨some 34, (some (31, true)), .mv (.t 1)⟩, ⟨some 35, (some (31, true)), .ia .add .i64 (.t 34) (.c (.int .i64 1))⟩, ⟨some 36, (some (31, true)), .callc n_tree_block [(.t 33), (.t 35)]⟩, ⟨some 37, none, .pick (.t 31) (.t 36) (.c (.bool false))⟩, ⟨some 4, none, .tk (.t 37)⟩])
    (.ret))))) }

-- slices.IndexFunc[[]flotsam/api.Proc,flotsam/api.Proc]
def b_slices_IndexFunc_api_Proc_api_Proc_0 : AC :=
  .seq (.reg [⟨some 9, none, .ic .lss (.t 8) (.t 7)⟩])
  (.seq (.cond (.t 9)
      (.skip)
      (.exit 0))
  (.seq (.block 1 (.seq (.reg [⟨some 10, none, .mv (.t 8)⟩, ⟨some 5, none, .tk (.t 10)⟩])
      (.seq (.reg [⟨some 11, none, .mv (.t 1)⟩, ⟨some 12, none, .mv (.t 0)⟩, ⟨some 13, none, .mv (.t 5)⟩, ⟨some 14, none, .ixa 2 none (.t 12) (.t 13)⟩, ⟨some 15, none, .ld (some 2) (.t 14)⟩, ⟨some 16, none, .callv (.t 11) [(.t 15)]⟩])
      (.cond (.t 16)
        (.seq (.reg [⟨some 17, none, .mv (.t 5)⟩, ⟨some 4, none, .tk (.t 17)⟩])
          (.ret))
        (.skip)))))
  (.reg [⟨some 18, none, .ia .add .i64 (.t 8) (.c (.int .i64 1))⟩, ⟨some 8, none, .mv (.t 18)⟩])))

def l_slices_IndexFunc_api_Proc_api_Proc_0 : AC :=
  .loop [0, 1, 7, 8] b_slices_IndexFunc_api_Proc_api_Proc_0

def r_slices_IndexFunc_api_Proc_api_Proc_0 : AC :=
  .seq (.reg [⟨some 4, none, .tk (.c (.int .i64 (-1)))⟩])
  (.ret)

def c_slices_IndexFunc_api_Proc_api_Proc : AFunc :=
  { np := 2, res := [.t 4], body := (
    .seq (.reg [⟨some 4, none, .tk (.c (.int .i64 0))⟩])
    (.seq (.seq (.reg [⟨some 6, none, .mv (.t 0)⟩, ⟨some 7, none, .len false (.t 6)⟩, ⟨some 8, none, .mv (.c (.int .i64 0))⟩])
      (.block 0 (l_slices_IndexFunc_api_Proc_api_Proc_0))) r_slices_IndexFunc_api_Proc_api_Proc_0)) }

-- slices.IndexFunc[[]flotsam/api.Oracle,flotsam/api.Oracle]
def b_slices_IndexFunc_api_Oracle_api_Oracle_0 : AC :=
  .seq (.reg [⟨some 9, none, .ic .lss (.t 8) (.t 7)⟩])
  (.seq (.cond (.t 9)
      (.skip)
      (.exit 0))
  (.seq (.block 1 (.seq (.reg [⟨some 10, none, .mv (.t 8)⟩, ⟨some 5, none, .tk (.t 10)⟩])
      (.seq (.reg [⟨some 11, none, .mv (.t 1)⟩, ⟨some 12, none, .mv (.t 0)⟩, ⟨some 13, none, .mv (.t 5)⟩, ⟨some 14, none, .ixa 5 none (.t 12) (.t 13)⟩, ⟨some 15, none, .ld (some 5) (.t 14)⟩, ⟨some 16, none, .callv (.t 11) [(.t 15)]⟩])
      (.cond (.t 16)
        (.seq (.reg [⟨some 17, none, .mv (.t 5)⟩, ⟨some 4, none, .tk (.t 17)⟩])
          (.ret))
        (.skip)))))
  (.reg [⟨some 18, none, .ia .add .i64 (.t 8) (.c (.int .i64 1))⟩, ⟨some 8, none, .mv (.t 18)⟩])))

def l_slices_IndexFunc_api_Oracle_api_Oracle_0 : AC :=
  .loop [0, 1, 7, 8] b_slices_IndexFunc_api_Oracle_api_Oracle_0

def r_slices_IndexFunc_api_Oracle_api_Oracle_0 : AC :=
  .seq (.reg [⟨some 4, none, .tk (.c (.int .i64 (-1)))⟩])
  (.ret)

def c_slices_IndexFunc_api_Oracle_api_Oracle : AFunc :=
  { np := 2, res := [.t 4], body := (
    .seq (.reg [⟨some 4, none, .tk (.c (.int .i64 0))⟩])
    (.seq (.seq (.reg [⟨some 6, none, .mv (.t 0)⟩, ⟨some 7, none, .len false (.t 6)⟩, ⟨some 8, none, .mv (.c (.int .i64 0))⟩])
      (.block 0 (l_slices_IndexFunc_api_Oracle_api_Oracle_0))) r_slices_IndexFunc_api_Oracle_api_Oracle_0)) }

-- slices.IndexFunc[[][]flotsam/api.Stmt,[]flotsam/api.Stmt]
def b_slices_IndexFunc_api_Stmt_api_Stmt_0 : AC :=
  .seq (.reg [⟨some 9, none, .ic .lss (.t 8) (.t 7)⟩])
  (.seq (.cond (.t 9)
      (.skip)
      (.exit 0))
  (.seq (.block 1 (.seq (.reg [⟨some 10, none, .mv (.t 8)⟩, ⟨some 5, none, .tk (.t 10)⟩])
      (.seq (.reg [⟨some 11, none, .mv (.t 1)⟩, ⟨some 12, none, .mv (.t 0)⟩, ⟨some 13, none, .mv (.t 5)⟩, ⟨some 14, none, .ixa 1 none (.t 12) (.t 13)⟩, ⟨some 15, none, .ld none (.t 14)⟩, ⟨some 16, none, .callv (.t 11) [(.t 15)]⟩])
      (.cond (.t 16)
        (.seq (.reg [⟨some 17, none, .mv (.t 5)⟩, ⟨some 4, none, .tk (.t 17)⟩])
          (.ret))
        (.skip)))))
  (.reg [⟨some 18, none, .ia .add .i64 (.t 8) (.c (.int .i64 1))⟩, ⟨some 8, none, .mv (.t 18)⟩])))

def l_slices_IndexFunc_api_Stmt_api_Stmt_0 : AC :=
  .loop [0, 1, 7, 8] b_slices_IndexFunc_api_Stmt_api_Stmt_0

def r_slices_IndexFunc_api_Stmt_api_Stmt_0 : AC :=
  .seq (.reg [⟨some 4, none, .tk (.c (.int .i64 (-1)))⟩])
  (.ret)

def c_slices_IndexFunc_api_Stmt_api_Stmt : AFunc :=
  { np := 2, res := [.t 4], body := (
    .seq (.reg [⟨some 4, none, .tk (.c (.int .i64 0))⟩])
    (.seq (.seq (.reg [⟨some 6, none, .mv (.t 0)⟩, ⟨some 7, none, .len false (.t 6)⟩, ⟨some 8, none, .mv (.c (.int .i64 0))⟩])
      (.block 0 (l_slices_IndexFunc_api_Stmt_api_Stmt_0))) r_slices_IndexFunc_api_Stmt_api_Stmt_0)) }

-- (*flotsam/print.printer).stmt
def c_pprint_printer_stmt : AFunc :=
  { np := 3, res := [], body := (
    .seq (.reg [⟨some 4, none, .box (.t 1)⟩])
    (.seq (.reg [⟨some 6, none, .mv (.t 0)⟩, ⟨some 7, none, .fa 0 (.t 4)⟩, ⟨some 8, none, .ld none (.t 7)⟩, ⟨some 9, none, .callc n_print_key [(.t 8)]⟩, ⟨some 10, none, .bsl 1 [.str []] 1 [(0, 1, (.t 9))] false⟩, ⟨some 11, none, .call n_pprint_printer_add [(.t 6), (.t 10)]⟩])
    (.seq (.seq (.reg [⟨some 12, none, .fa 0 (.t 4)⟩, ⟨some 13, none, .ld none (.t 12)⟩])
      (.block 0 (.seq (.reg [⟨some 15, none, .ic .eql (.t 13) (.c (.int .i64 12))⟩, ⟨some 14, none, .tk (.t 15)⟩])
        (.cond (.t 14)
          (stuckC)
          (.seq (.reg [⟨some 22, none, .ic .eql (.t 13) (.c (.int .i64 15))⟩, ⟨some 21, none, .tk (.t 22)⟩])
            (.cond (.t 21)
              (stuckC)
              (.seq (.reg [⟨some 29, none, .ic .eql (.t 13) (.c (.int .i64 14))⟩, ⟨some 28, none, .tk (.t 29)⟩])
                (.cond (.t 28)
                  (stuckC)
                  (.skip)))))))))
    (.seq (.reg [⟨some 36, none, .mv (.t 0)⟩, ⟨some 37, none, .fa 3 (.t 4)⟩, ⟨some 38, none, .ld none (.t 37)⟩, ⟨some 39, none, .call n_pprint_printer_exprs [(.t 36), (.t 38)]⟩])
    (.seq (.seq (.reg [⟨some 40, none, .fa 0 (.t 4)⟩, ⟨some 41, none, .ld none (.t 40)⟩])
      (.block 1 (.seq (.seq (.reg [⟨some 43, none, .ic .eql (.t 41) (.c (.int .i64 13))⟩, ⟨some 42, none, .tk (.t 43)⟩])
          (.cond (.t 42)
            (.skip)
            (.reg [⟨some 44, none, .ic .eql (.t 41) (.c (.int .i64 14))⟩, ⟨some 42, none, .tk (.t 44)⟩])))
        (.cond (.t 42)
          (stuckC)
          (.seq (.reg [⟨some 63, none, .ic .eql (.t 41) (.c (.int .i64 16))⟩, ⟨some 62, none, .tk (.t 63)⟩])
            (.cond (.t 62)
              (stuckC)
              (.skip)))))))
    (.reg [⟨some 74, none, .mv (.t 0)⟩, ⟨some 75, none, .bsl 1 [.str []] 1 [(0, 1, (.c (.str [59])))] false⟩, ⟨some 76, none, .call n_pprint_printer_add [(.t 74), (.t 75)]⟩])))))) }

-- flotsam/site.lead
def b_site_lead_0 : AC :=
  .seq (.reg [⟨some 41, none, .ic .lss (.t 40) (.t 39)⟩])
  (.seq (.cond (.t 41)
      (.skip)
      (.exit 0))
  (.seq (.block 1 (.seq (.reg [⟨some 42, none, .ixa 1 none (.t 38) (.t 40)⟩, ⟨some 43, none, .ld none (.t 42)⟩, ⟨some 9, none, .tk (.t 43)⟩])
      (stuckC)))
  (.reg [⟨some 57, none, .ia .add .i64 (.t 40) (.c (.int .i64 1))⟩, ⟨some 40, none, .mv (.t 57)⟩])))

def l_site_lead_0 : AC :=
  .loop [6, 7, 38, 39, 40] b_site_lead_0

def r_site_lead_0 : AC :=
  .seq (.reg [⟨some 58, none, .mv (.t 6)⟩, ⟨some 59, none, .mv (.t 7)⟩, ⟨some 60, none, .mv (.t 6)⟩, ⟨some 61, none, .len false (.t 60)⟩, ⟨some 62, none, .mx false [(.t 59), (.t 61)]⟩, ⟨some 63, none, .sls 7 (.t 58) (some (.t 62)) none none⟩, ⟨some 4, none, .tk (.t 63)⟩])
  (.ret)

def c_site_lead : AFunc :=
  { np := 2, res := [.t 4], body := (
    .seq (.reg [⟨some 2, none, .box (.t 0)⟩, ⟨some 3, none, .box (.t 1)⟩, ⟨some 4, none, .tk (.c (.own 7 []))⟩])
    (.seq (.reg [⟨some 10, none, .ld (some 4) (.t 2)⟩, ⟨some 11, none, .callc n_site_parts [(.t 10)]⟩, ⟨some 5, none, .tk (.t 11)⟩])
    (.seq (.seq (.reg [⟨some 12, none, .fa 1 (.t 3)⟩, ⟨some 13, none, .ld none (.t 12)⟩, ⟨some 14, none, .ic .lss (.t 13) (.c (.int .i64 0))⟩, ⟨some 15, none, .mv (.t 14)⟩, ⟨some 16, (some (15, false)), .fa 1 (.t 3)⟩, ⟨some 17, (some (15, false)), .ld none (.t 16)⟩, ⟨some 18, (some (15, false)), .mv (.t 5)⟩, ⟨some 19, (some (15, false)), .len false (.t 18)⟩, ⟨some 20, (some (15, false)), .ic .geq (.t 17) (.t 19)⟩, ⟨some 21, none, .pick (.t 15) (.c (.bool true)) (.t 20)⟩, ⟨some 22, none, .mv (.t 21)⟩, ⟨some 23, (some (22, false)), .ld (some 11) (.t 3)⟩, ⟨some 24, (some (22, false)), .callc n_site_may [(.t 23)]⟩, ⟨some 25, (some (22, false)), .notb (.t 24)⟩, ⟨some 26, none, .pick (.t 22) (.c (.bool true)) (.t 25)⟩])
      (.cond (.t 26)
        (stuckC)
        (.skip)))
    (.seq (.drw [[], [], [], [], [], [], [], [], [], []] [⟨some 27, none, .mv (.t 5)⟩, ⟨some 28, none, .fa 1 (.t 3)⟩, ⟨some 29, none, .ld none (.t 28)⟩, ⟨some 30, none, .ixa 1 none (.t 27) (.t 29)⟩, ⟨some 31, none, .ld none (.t 30)⟩, ⟨some 32, none, .fa 2 (.t 3)⟩, ⟨some 33, none, .ixa 1 (some 8) (.t 32) (.c (.int .i64 0))⟩, ⟨some 34, none, .ld none (.t 33)⟩, ⟨some 6, none, .tk (.t 31)⟩, ⟨some 7, none, .tk (.t 34)⟩])
    (.seq (.seq (.reg [⟨some 35, none, .fa 2 (.t 3)⟩, ⟨some 36, none, .fa 10 (.t 3)⟩, ⟨some 37, none, .ld none (.t 36)⟩, ⟨some 38, none, .slp 1 8 (.t 35) (some (.c (.int .i64 1))) (some (.t 37)) none⟩, ⟨some 39, none, .len false (.t 38)⟩, ⟨some 40, none, .mv (.c (.int .i64 0))⟩])
      (.block 0 (l_site_lead_0))) r_site_lead_0))))) }

-- flotsam/tree.each[flotsam/api.Proc]
def b_tree_each_api_Proc_0 : AC :=
  .seq (.reg [⟨some 11, none, .ic .lss (.t 10) (.t 9)⟩])
  (.seq (.cond (.t 11)
      (.skip)
      (.exit 0))
  (.seq (.block 1 (.seq (.reg [⟨some 12, none, .ixa 2 none (.t 8) (.t 10)⟩, ⟨some 13, none, .ld (some 2) (.t 12)⟩, ⟨some 7, none, .alloc [.str [], .own 7 []]⟩, ⟨none, none, .st 2 (.t 7) (.t 13)⟩])
      (.reg [⟨some 14, none, .tk (.t 5)⟩, ⟨some 15, none, .mv (.t 1)⟩, ⟨some 16, none, .ld (some 2) (.t 7)⟩, ⟨some 17, none, .callv (.t 15) [(.t 16)]⟩, ⟨some 18, none, .bsl 2 [.str [], .sl 7 []] 1 [(0, 2, (.t 17))] false⟩, ⟨some 19, none, .app 2 40 (.t 14) (.t 18) false⟩, ⟨some 5, none, .tk (.t 19)⟩])))
  (.reg [⟨some 20, none, .ia .add .i64 (.t 10) (.c (.int .i64 1))⟩, ⟨some 10, none, .mv (.t 20)⟩])))

def l_tree_each_api_Proc_0 : AC :=
  .loop [1, 5, 8, 9, 10] b_tree_each_api_Proc_0

def r_tree_each_api_Proc_0 : AC :=
  .seq (.reg [⟨some 21, none, .tk (.t 5)⟩, ⟨some 4, none, .tk (.t 21)⟩])
  (.ret)

def c_tree_each_api_Proc : AFunc :=
  { np := 2, res := [.t 4], body := (
    .seq (.reg [⟨some 4, none, .tk (.c (.own 2 []))⟩])
    (.seq (.reg [⟨some 5, none, .tk (.c (.own 2 []))⟩])
    (.seq (.seq (.reg [⟨some 8, none, .mv (.t 0)⟩, ⟨some 9, none, .len false (.t 8)⟩, ⟨some 10, none, .mv (.c (.int .i64 0))⟩])
      (.block 0 (l_tree_each_api_Proc_0))) r_tree_each_api_Proc_0))) }

-- flotsam/tree.Clone$1
def c_tree_Clone_1 : AFunc :=
  { np := 1, res := [.cell 2 (some 2)], body := (
    .seq (.reg [⟨some 1, none, .box (.t 0)⟩, ⟨some 2, none, .alloc [.str [], .own 7 []]⟩])
    (.seq (.drw [[], [], [], [], [], [], []] [⟨some 3, none, .fa 0 (.t 1)⟩, ⟨some 4, none, .ld none (.t 3)⟩, ⟨some 5, none, .fa 1 (.t 1)⟩, ⟨some 6, none, .ld none (.t 5)⟩, ⟨some 7, none, .callc n_tree_each_api_Stmt [(.t 6), (.c (.fn (.func n_tree_cloned) [] []))]⟩, ⟨some 8, none, .bld [.str [], .sl 7 []] [(0, 1, (.t 4)), (1, 1, (.t 7))]⟩, ⟨none, none, .st 2 (.t 2) (.t 8)⟩])
    (.ret))) }

-- flotsam/tree.each[flotsam/api.Oracle]
def b_tree_each_api_Oracle_0 : AC :=
  .seq (.reg [⟨some 11, none, .ic .lss (.t 10) (.t 9)⟩])
  (.seq (.cond (.t 11)
      (.skip)
      (.exit 0))
  (.seq (.block 1 (.seq (.reg [⟨some 12, none, .ixa 5 none (.t 8) (.t 10)⟩, ⟨some 13, none, .ld (some 5) (.t 12)⟩, ⟨some 7, none, .alloc [.str [], .int .i64 0, .int .i64 0, .str [], .own 4 []]⟩, ⟨none, none, .st 5 (.t 7) (.t 13)⟩])
      (.reg [⟨some 14, none, .tk (.t 5)⟩, ⟨some 15, none, .mv (.t 1)⟩, ⟨some 16, none, .ld (some 5) (.t 7)⟩, ⟨some 17, none, .callv (.t 15) [(.t 16)]⟩, ⟨some 18, none, .bsl 5 [.str [], .int .i64 0, .int .i64 0, .str [], .sl 4 []] 1 [(0, 5, (.t 17))] false⟩, ⟨some 19, none, .app 5 72 (.t 14) (.t 18) false⟩, ⟨some 5, none, .tk (.t 19)⟩])))
  (.reg [⟨some 20, none, .ia .add .i64 (.t 10) (.c (.int .i64 1))⟩, ⟨some 10, none, .mv (.t 20)⟩])))

def l_tree_each_api_Oracle_0 : AC :=
  .loop [1, 5, 8, 9, 10] b_tree_each_api_Oracle_0

def r_tree_each_api_Oracle_0 : AC :=
  .seq (.reg [⟨some 21, none, .tk (.t 5)⟩, ⟨some 4, none, .tk (.t 21)⟩])
  (.ret)

def c_tree_each_api_Oracle : AFunc :=
  { np := 2, res := [.t 4], body := (
    .seq (.reg [⟨some 4, none, .tk (.c (.own 5 []))⟩])
    (.seq (.reg [⟨some 5, none, .tk (.c (.own 5 []))⟩])
    (.seq (.seq (.reg [⟨some 8, none, .mv (.t 0)⟩, ⟨some 9, none, .len false (.t 8)⟩, ⟨some 10, none, .mv (.c (.int .i64 0))⟩])
      (.block 0 (l_tree_each_api_Oracle_0))) r_tree_each_api_Oracle_0))) }

-- (*flotsam/bdisk.Disk).Barrier
def c_pbdisk_Disk_Barrier : AFunc :=
  { np := 1, res := [.t 2], body := (
    .seq (.reg [⟨some 2, none, .tk (.c (.int .i64 0))⟩])
    (.seq (.block 0 (.seq (.reg [⟨some 4, none, .mv (.t 0)⟩, ⟨some 5, none, .call n_pbdisk_Disk_none [(.t 4)]⟩, ⟨some 3, none, .tk (.t 5)⟩])
        (.cond (.t 3)
          (stuckC)
          (.seq (.reg [⟨some 7, none, .mv (.t 0)⟩, ⟨some 8, none, .nck (.t 7)⟩, ⟨some 9, none, .fa 0 (.t 8)⟩, ⟨some 10, none, .call n_pbdisk_faults_fails [(.t 9)]⟩, ⟨some 6, none, .tk (.t 10)⟩])
            (.cond (.t 6)
              (stuckC)
              (.skip))))))
    (.seq (.reg [⟨some 11, none, .mv (.t 0)⟩, ⟨some 12, none, .nck (.t 11)⟩, ⟨some 13, none, .fa 5 (.t 12)⟩, ⟨some 14, none, .ld none (.t 13)⟩, ⟨some 15, none, .ia .add .i64 (.t 14) (.c (.int .i64 1))⟩, ⟨some 16, none, .nck (.t 11)⟩, ⟨some 17, none, .fa 5 (.t 16)⟩, ⟨none, none, .st 1 (.t 17) (.t 15)⟩])
    (.seq (.reg [⟨some 18, none, .mv (.t 0)⟩, ⟨some 19, none, .bld [.int .i64 0, .int .i64 0, .int .u8 0, .int .u8 0, .int .u8 0, .int .u8 0, .int .u8 0, .int .u8 0, .int .u8 0, .int .u8 0, .int .u8 0, .int .u8 0, .int .u8 0, .int .u8 0, .int .u8 0, .int .u8 0, .int .u8 0, .int .u8 0, .int .u8 0, .int .u8 0, .int .u8 0, .int .u8 0, .int .u8 0, .int .u8 0, .int .u8 0, .int .u8 0, .int .u8 0, .int .u8 0, .int .u8 0, .int .u8 0, .int .u8 0, .int .u8 0, .int .u8 0, .int .u8 0, .int .i64 0, .int .i64 0, .int .i64 0, .sl 2 []] [(0, 1, (.c (.int .i64 3)))]⟩, ⟨some 20, none, .call n_pbdisk_Disk_note [(.t 18), (.t 19)]⟩, ⟨some 2, none, .tk (.t 20)⟩])
    (.ret))))) }

-- slices.IndexFunc[[]flotsam/api.Expr,flotsam/api.Expr]
def b_slices_IndexFunc_api_Expr_api_Expr_0 : AC :=
  .seq (.reg [⟨some 9, none, .ic .lss (.t 8) (.t 7)⟩])
  (.seq (.cond (.t 9)
      (.skip)
      (.exit 0))
  (.seq (.block 1 (.seq (.reg [⟨some 10, none, .mv (.t 8)⟩, ⟨some 5, none, .tk (.t 10)⟩])
      (.seq (.reg [⟨some 11, none, .mv (.t 1)⟩, ⟨some 12, none, .mv (.t 0)⟩, ⟨some 13, none, .mv (.t 5)⟩, ⟨some 14, none, .ixa 4 none (.t 12) (.t 13)⟩, ⟨some 15, none, .ld (some 4) (.t 14)⟩, ⟨some 16, none, .callv (.t 11) [(.t 15)]⟩])
      (.cond (.t 16)
        (.seq (.reg [⟨some 17, none, .mv (.t 5)⟩, ⟨some 4, none, .tk (.t 17)⟩])
          (.ret))
        (.skip)))))
  (.reg [⟨some 18, none, .ia .add .i64 (.t 8) (.c (.int .i64 1))⟩, ⟨some 8, none, .mv (.t 18)⟩])))

def l_slices_IndexFunc_api_Expr_api_Expr_0 : AC :=
  .loop [0, 1, 7, 8] b_slices_IndexFunc_api_Expr_api_Expr_0

def r_slices_IndexFunc_api_Expr_api_Expr_0 : AC :=
  .seq (.reg [⟨some 4, none, .tk (.c (.int .i64 (-1)))⟩])
  (.ret)

def c_slices_IndexFunc_api_Expr_api_Expr : AFunc :=
  { np := 2, res := [.t 4], body := (
    .seq (.reg [⟨some 4, none, .tk (.c (.int .i64 0))⟩])
    (.seq (.seq (.reg [⟨some 6, none, .mv (.t 0)⟩, ⟨some 7, none, .len false (.t 6)⟩, ⟨some 8, none, .mv (.c (.int .i64 0))⟩])
      (.block 0 (l_slices_IndexFunc_api_Expr_api_Expr_0))) r_slices_IndexFunc_api_Expr_api_Expr_0)) }

-- slices.IndexFunc[[]flotsam/api.Stmt,flotsam/api.Stmt]
def b_slices_IndexFunc_api_Stmt_api_Stmt_x_0 : AC :=
  .seq (.reg [⟨some 9, none, .ic .lss (.t 8) (.t 7)⟩])
  (.seq (.cond (.t 9)
      (.skip)
      (.exit 0))
  (.seq (.block 1 (.seq (.reg [⟨some 10, none, .mv (.t 8)⟩, ⟨some 5, none, .tk (.t 10)⟩])
      (.seq (.reg [⟨some 11, none, .mv (.t 1)⟩, ⟨some 12, none, .mv (.t 0)⟩, ⟨some 13, none, .mv (.t 5)⟩, ⟨some 14, none, .ixa 7 none (.t 12) (.t 13)⟩, ⟨some 15, none, .ld (some 7) (.t 14)⟩, ⟨some 16, none, .callv (.t 11) [(.t 15)]⟩])
      (.cond (.t 16)
        (.seq (.reg [⟨some 17, none, .mv (.t 5)⟩, ⟨some 4, none, .tk (.t 17)⟩])
          (.ret))
        (.skip)))))
  (.reg [⟨some 18, none, .ia .add .i64 (.t 8) (.c (.int .i64 1))⟩, ⟨some 8, none, .mv (.t 18)⟩])))

def l_slices_IndexFunc_api_Stmt_api_Stmt_x_0 : AC :=
  .loop [0, 1, 7, 8] b_slices_IndexFunc_api_Stmt_api_Stmt_x_0

def r_slices_IndexFunc_api_Stmt_api_Stmt_x_0 : AC :=
  .seq (.reg [⟨some 4, none, .tk (.c (.int .i64 (-1)))⟩])
  (.ret)

def c_slices_IndexFunc_api_Stmt_api_Stmt_x : AFunc :=
  { np := 2, res := [.t 4], body := (
    .seq (.reg [⟨some 4, none, .tk (.c (.int .i64 0))⟩])
    (.seq (.seq (.reg [⟨some 6, none, .mv (.t 0)⟩, ⟨some 7, none, .len false (.t 6)⟩, ⟨some 8, none, .mv (.c (.int .i64 0))⟩])
      (.block 0 (l_slices_IndexFunc_api_Stmt_api_Stmt_x_0))) r_slices_IndexFunc_api_Stmt_api_Stmt_x_0)) }

-- flotsam/tree.shape
def c_tree_shape : AFunc :=
  { np := 1, res := [.t 2], body := (
    .seq (.reg [⟨some 1, none, .box (.t 0)⟩, ⟨some 2, none, .tk (.c (.bool false))⟩])
    (.seq (.reg [⟨some 9, none, .fa 0 (.t 1)⟩, ⟨some 10, none, .ld none (.t 9)⟩, ⟨some 11, none, .callc n_tree_Exprs [(.t 10)]⟩, ⟨some 8, none, .mv (.t 11)⟩, ⟨some 12, none, .ext (.t 8) 0⟩, ⟨some 13, none, .ext (.t 8) 1⟩, ⟨some 3, none, .tk (.t 12)⟩, ⟨some 4, none, .tk (.t 13)⟩])
    (.seq (.reg [⟨some 15, none, .fa 0 (.t 1)⟩, ⟨some 16, none, .ld none (.t 15)⟩, ⟨some 17, none, .callc n_tree_blocks [(.t 16)]⟩, ⟨some 14, none, .mv (.t 17)⟩, ⟨some 18, none, .ext (.t 14) 0⟩, ⟨some 19, none, .ext (.t 14) 1⟩, ⟨some 5, none, .tk (.t 18)⟩, ⟨some 6, none, .tk (.t 19)⟩])
    (.seq (.reg [⟨some 20, none, .fa 0 (.t 1)⟩, ⟨some 21, none, .ld none (.t 20)⟩, ⟨some 22, none, .ic .eql (.t 21) (.c (.int .i64 12))⟩, ⟨some 23, none, .mv (.t 22)⟩, ⟨some 24, (some (23, false)), .fa 0 (.t 1)⟩, ⟨some 25, (some (23, false)), .ld none (.t 24)⟩, ⟨some 26, (some (23, false)), .ic .eql (.t 25) (.c (.int .i64 15))⟩, ⟨some 27, none, .pick (.t 23) (.c (.bool true)) (.t 26)⟩, ⟨some 7, none, .tk (.t 27)⟩])
    (.seq (.block 0 (.seq (.reg [⟨some 29, none, .mv (.t 4)⟩, ⟨some 30, none, .notb (.t 29)⟩, ⟨some 31, none, .mv (.t 30)⟩, ⟨some 32, (some (31, false)), .fa 3 (.t 1)⟩, ⟨some 33, (some (31, false)), .ld none (.t 32)⟩, ⟨some 34, (some (31, false)), .len false (.t 33)⟩, ⟨some 35, (some (31, false)), .mv (.t 3)⟩, ⟨some 36, (some (31, false)), .ic .neq (.t 34) (.t 35)⟩, ⟨some 37, none, .pick (.t 31) (.c (.bool true)) (.t 36)⟩, ⟨some 38, none, .mv (.t 37)⟩, ⟨some 39, (some (38, false)), .mv (.t 7)⟩, ⟨some 40, (some (38, false)), .fa 1 (.t 1)⟩, ⟨some 41, (some (38, false)), .ld none (.t 40)⟩, ⟨some 42, (some (38, false)), .sop .neq (.t 41) (.c (.str []))⟩, ⟨some 43, (some (38, false)), .eqb true (.t 39) (.t 42)⟩, ⟨some 44, none, .pick (.t 38) (.c (.bool true)) (.t 43)⟩, ⟨some 45, none, .mv (.t 44)⟩, ⟨some 46, (some (45, false)), .mv (.t 7)⟩, ⟨some 47, (some (45, false)), .mv (.t 46)⟩, ⟨some 48, (some (47, true)), .fa 1 (.t 1)⟩, ⟨some 49, (some (47, true)), .ld none (.t 48)⟩, ⟨some 50, (some (47, true)), .callc n_lex_Name [(.t 49)]⟩, ⟨some 51, (some (47, true)), .notb (.t 50)⟩, ⟨some 52, (some (45, false)), .pick (.t 47) (.t 51) (.c (.bool false))⟩, ⟨some 53, none, .pick (.t 45) (.c (.bool true)) (.t 52)⟩, ⟨some 28, none, .tk (.t 53)⟩])
        (.cond (.t 28)
          (stuckC)
          (.seq (.reg [⟨some 55, none, .fa 2 (.t 1)⟩, ⟨some 56, none, .ld none (.t 55)⟩, ⟨some 57, none, .ic .neq (.t 56) (.c (.int .i64 0))⟩, ⟨some 58, none, .mv (.t 57)⟩, ⟨some 59, (some (58, true)), .fa 0 (.t 1)⟩, ⟨some 60, (some (58, true)), .ld none (.t 59)⟩, ⟨some 61, (some (58, true)), .ic .neq (.t 60) (.c (.int .i64 14))⟩, ⟨some 62, none, .pick (.t 58) (.t 61) (.c (.bool false))⟩, ⟨some 63, none, .mv (.t 62)⟩, ⟨some 64, (some (63, false)), .fa 2 (.t 1)⟩, ⟨some 65, (some (63, false)), .ld none (.t 64)⟩, ⟨some 66, (some (63, false)), .ic .lss (.t 65) (.c (.int .i64 0))⟩, ⟨some 67, none, .pick (.t 63) (.c (.bool true)) (.t 66)⟩, ⟨some 68, none, .mv (.t 67)⟩, ⟨some 69, (some (68, false)), .fa 2 (.t 1)⟩, ⟨some 70, (some (68, false)), .ld none (.t 69)⟩, ⟨some 71, (some (68, false)), .ic .gtr (.t 70) (.c (.int .i64 16))⟩, ⟨some 72, none, .pick (.t 68) (.c (.bool true)) (.t 71)⟩, ⟨some 54, none, .tk (.t 72)⟩])
            (.cond (.t 54)
              (stuckC)
              (.seq (.reg [⟨some 74, none, .fa 6 (.t 1)⟩, ⟨some 75, none, .ld none (.t 74)⟩, ⟨some 76, none, .mv (.t 75)⟩, ⟨some 77, (some (76, true)), .fa 0 (.t 1)⟩, ⟨some 78, (some (76, true)), .ld none (.t 77)⟩, ⟨some 79, (some (76, true)), .ic .neq (.t 78) (.c (.int .i64 16))⟩, ⟨some 80, none, .pick (.t 76) (.t 79) (.c (.bool false))⟩, ⟨some 81, none, .mv (.t 80)⟩, ⟨some 82, (some (81, false)), .mv (.t 5)⟩, ⟨some 83, (some (81, false)), .notb (.t 82)⟩, ⟨some 84, (some (81, false)), .mv (.t 83)⟩, ⟨some 85, (some (84, true)), .fa 4 (.t 1)⟩, ⟨some 86, (some (84, true)), .ld none (.t 85)⟩, ⟨some 87, (some (84, true)), .len false (.t 86)⟩, ⟨some 88, (some (84, true)), .ic .gtr (.t 87) (.c (.int .i64 0))⟩, ⟨some 89, (some (81, false)), .pick (.t 84) (.t 88) (.c (.bool false))⟩, ⟨some 90, none, .pick (.t 81) (.c (.bool true)) (.t 89)⟩, ⟨some 91, none, .mv (.t 90)⟩, ⟨some 92, (some (91, false)), .mv (.t 6)⟩, ⟨some 93, (some (91, false)), .notb (.t 92)⟩, ⟨some 94, (some (91, false)), .mv (.t 93)⟩, ⟨some 95, (some (94, true)), .fa 5 (.t 1)⟩, ⟨some 96, (some (94, true)), .ld none (.t 95)⟩, ⟨some 97, (some (94, true)), .len false (.t 96)⟩, ⟨some 98, (some (94, true)), .ic .gtr (.t 97) (.c (.int .i64 0))⟩, ⟨some 99, (some (91, false)), .pick (.t 94) (.t 98) (.c (.bool false))⟩, ⟨some 100, none, .pick (.t 91) (.c (.bool true)) (.t 99)⟩, ⟨some 73, none, .tk (.t 100)⟩])
                (.cond (.t 73)
                  (stuckC)
                  (.skip))))))))
    (.seq (.reg [⟨some 101, none, .fa 3 (.t 1)⟩, ⟨some 102, none, .ld none (.t 101)⟩, ⟨some 103, none, .callc n_slices_ContainsFunc_api_Expr_api_Expr [(.t 102), (.c (.fn (.func n_tree_shape_1) [] []))]⟩, ⟨some 104, none, .notb (.t 103)⟩, ⟨some 2, none, .tk (.t 104)⟩])
    (.ret))))))) }

-- flotsam/print.key
def c_print_key : AFunc :=
  { np := 1, res := [.t 2], body := (
    .seq (.reg [⟨some 2, none, .tk (.c (.str []))⟩])
    (.seq (.reg [⟨some 4, none, .callc n_strings_Fields [(.c (.str [99, 114, 101, 97, 116, 101, 32, 109, 107, 100, 105, 114, 32, 119, 114, 105, 116, 101, 32, 97, 112, 112, 101, 110, 100, 32, 116, 114, 117, 110, 99, 97, 116, 101, 32, 114, 101, 110, 97, 109, 101, 32, 117, 110, 108, 105, 110, 107, 32, 102, 115, 121, 110, 99, 32, 102, 100, 97, 116, 97, 115, 121, 110, 99, 32, 115, 121, 110, 99, 100, 105, 114, 32, 98, 97, 114, 114, 105, 101, 114, 32, 108, 101, 116, 32, 105, 102, 32, 114, 101, 112, 101, 97, 116, 32, 99, 97, 108, 108, 32, 116, 120, 110, 32, 114, 101, 112, 108, 97, 121, 32, 97, 115, 115, 101, 114, 116]))]⟩, ⟨some 3, none, .tk (.t 4)⟩])
    (.seq (.reg [⟨some 5, none, .mv (.t 3)⟩, ⟨some 6, none, .mv (.t 0)⟩, ⟨some 7, none, .ia .sub .i64 (.t 6) (.c (.int .i64 1))⟩, ⟨some 8, none, .ixa 1 none (.t 5) (.t 7)⟩, ⟨some 9, none, .ld none (.t 8)⟩, ⟨some 2, none, .tk (.t 9)⟩])
    (.ret)))) }

-- (*flotsam/print.printer).exprs
def b_pprint_printer_exprs_0 : AC :=
  .seq (.reg [⟨some 9, none, .ic .lss (.t 8) (.t 7)⟩])
  (.seq (.cond (.t 9)
      (.skip)
      (.exit 0))
  (.seq (.block 1 (.seq (.reg [⟨some 10, none, .mv (.t 8)⟩, ⟨some 11, none, .ixa 4 none (.t 6) (.t 8)⟩, ⟨some 12, none, .ld (some 4) (.t 11)⟩, ⟨some 5, none, .alloc [.int .i64 0, .int .i64 0, .str [], .own 4 []]⟩, ⟨some 4, none, .tk (.t 10)⟩, ⟨none, none, .st 4 (.t 5) (.t 12)⟩])
      (stuckC)))
  (.reg [⟨some 24, none, .ia .add .i64 (.t 8) (.c (.int .i64 1))⟩, ⟨some 8, none, .mv (.t 24)⟩])))

def l_pprint_printer_exprs_0 : AC :=
  .loop [0, 6, 7, 8] b_pprint_printer_exprs_0

def c_pprint_printer_exprs : AFunc :=
  { np := 2, res := [], body := (
    .seq (.reg [⟨some 6, none, .mv (.t 1)⟩, ⟨some 7, none, .len false (.t 6)⟩, ⟨some 8, none, .mv (.c (.int .i64 0))⟩])
    (.block 0 (l_pprint_printer_exprs_0))) }

-- flotsam/site.may
def b_site_may_0 : AC :=
  .seq (.reg [⟨some 17, none, .ic .lss (.t 16) (.c (.int .i64 8))⟩])
  (.seq (.cond (.t 17)
      (.skip)
      (.exit 0))
  (.seq (.block 1 (.seq (.reg [⟨some 18, none, .ixv none 1 8 (.t 15) (.t 16)⟩, ⟨some 4, none, .tk (.t 18)⟩])
      (.seq (.reg [⟨some 19, none, .mv (.t 4)⟩, ⟨some 20, none, .ic .lss (.t 19) (.c (.int .i64 0))⟩])
      (.cond (.t 20)
        (stuckC)
        (.skip)))))
  (.reg [⟨some 21, none, .ia .add .i64 (.t 16) (.c (.int .i64 1))⟩, ⟨some 16, none, .mv (.t 21)⟩])))

def l_site_may_0 : AC :=
  .loop [1, 15, 16] b_site_may_0

def r_site_may_0 : AC :=
  .seq (.reg [⟨some 22, none, .ld (some 11) (.t 1)⟩, ⟨some 5, none, .alloc [.int .i64 0, .int .i64 0, .int .i64 0, .int .i64 0, .int .i64 0, .int .i64 0, .int .i64 0, .int .i64 0, .int .i64 0, .int .i64 0, .int .i64 0]⟩, ⟨none, none, .st 11 (.t 5) (.t 22)⟩])
  (.seq (.reg [⟨some 23, none, .fa 2 (.t 5)⟩, ⟨some 24, none, .fa 10 (.t 1)⟩, ⟨some 25, none, .ld none (.t 24)⟩, ⟨some 26, none, .slp 1 8 (.t 23) (some (.t 25)) none none⟩, ⟨none, none, .clr 1 [.int .i64 0] (.t 26)⟩])
  (.seq (.reg [⟨some 27, none, .fa 2 (.t 5)⟩, ⟨some 28, none, .ld (some 8) (.t 27)⟩, ⟨some 29, none, .fa 2 (.t 1)⟩, ⟨some 30, none, .ld (some 8) (.t 29)⟩, ⟨some 31, none, .eqa false [.int .i64, .int .i64, .int .i64, .int .i64, .int .i64, .int .i64, .int .i64, .int .i64] (.t 28) (.t 30)⟩, ⟨some 2, none, .tk (.t 31)⟩])
  (.ret)))

def c_site_may : AFunc :=
  { np := 1, res := [.t 2], body := (
    .seq (.reg [⟨some 1, none, .box (.t 0)⟩, ⟨some 2, none, .tk (.c (.bool false))⟩])
    (.seq (.seq (.reg [⟨some 6, none, .fa 10 (.t 1)⟩, ⟨some 7, none, .ld none (.t 6)⟩, ⟨some 8, none, .ic .lss (.t 7) (.c (.int .i64 1))⟩, ⟨some 9, none, .mv (.t 8)⟩, ⟨some 10, (some (9, false)), .fa 10 (.t 1)⟩, ⟨some 11, (some (9, false)), .ld none (.t 10)⟩, ⟨some 12, (some (9, false)), .ic .gtr (.t 11) (.c (.int .i64 8))⟩, ⟨some 13, none, .pick (.t 9) (.c (.bool true)) (.t 12)⟩])
      (.cond (.t 13)
        (stuckC)
        (.skip)))
    (.seq (.seq (.reg [⟨some 14, none, .fa 2 (.t 1)⟩, ⟨some 15, none, .ld (some 8) (.t 14)⟩, ⟨some 16, none, .mv (.c (.int .i64 0))⟩])
      (.block 0 (l_site_may_0))) r_site_may_0))) }

-- (*flotsam/bdisk.faults).fails
def c_pbdisk_faults_fails : AFunc :=
  { np := 1, res := [.t 2], body := (
    .seq (.reg [⟨some 2, none, .tk (.c (.bool false))⟩])
    (.seq (.reg [⟨some 4, none, .mv (.t 0)⟩, ⟨some 5, none, .nck (.t 4)⟩, ⟨some 6, none, .fa 1 (.t 5)⟩, ⟨some 7, none, .ld none (.t 6)⟩, ⟨some 3, none, .tk (.t 7)⟩])
    (.seq (.reg [⟨some 8, none, .mv (.t 0)⟩, ⟨some 9, none, .nck (.t 8)⟩, ⟨some 10, none, .fa 1 (.t 9)⟩, ⟨some 11, none, .ld none (.t 10)⟩, ⟨some 12, none, .ia .add .i64 (.t 11) (.c (.int .i64 1))⟩, ⟨some 13, none, .nck (.t 8)⟩, ⟨some 14, none, .fa 1 (.t 13)⟩, ⟨none, none, .st 1 (.t 14) (.t 12)⟩])
    (.seq (.reg [⟨some 15, none, .mv (.t 0)⟩, ⟨some 16, none, .nck (.t 15)⟩, ⟨some 17, none, .fa 0 (.t 16)⟩, ⟨some 18, none, .ld none (.t 17)⟩, ⟨some 19, none, .mv (.t 3)⟩, ⟨some 20, none, .mlk false (.int .i64 0) false [.int .i64] (.t 18) (.t 19)⟩, ⟨some 21, none, .ic .gtr (.t 20) (.c (.int .i64 0))⟩, ⟨some 2, none, .tk (.t 21)⟩])
    (.ret))))) }

-- (*flotsam/bdisk.Disk).note
def c_pbdisk_Disk_note : AFunc :=
  { np := 2, res := [.t 4], body := (
    .seq (.reg [⟨some 3, none, .box (.t 1)⟩, ⟨some 4, none, .tk (.c (.int .i64 0))⟩])
    (.seq (.drw [[], [], [], [], [], [], [], [], [], [], []] [⟨some 5, none, .mv (.t 0)⟩, ⟨some 6, none, .mv (.t 0)⟩, ⟨some 7, none, .nck (.t 6)⟩, ⟨some 8, none, .fa 4 (.t 7)⟩, ⟨some 9, none, .ldo (.t 8)⟩, ⟨some 10, none, .ld (some 38) (.t 3)⟩, ⟨some 11, none, .bsl 38 [.int .i64 0, .int .i64 0, .int .u8 0, .int .u8 0, .int .u8 0, .int .u8 0, .int .u8 0, .int .u8 0, .int .u8 0, .int .u8 0, .int .u8 0, .int .u8 0, .int .u8 0, .int .u8 0, .int .u8 0, .int .u8 0, .int .u8 0, .int .u8 0, .int .u8 0, .int .u8 0, .int .u8 0, .int .u8 0, .int .u8 0, .int .u8 0, .int .u8 0, .int .u8 0, .int .u8 0, .int .u8 0, .int .u8 0, .int .u8 0, .int .u8 0, .int .u8 0, .int .u8 0, .int .u8 0, .int .i64 0, .int .i64 0, .int .i64 0, .sl 2 []] 1 [(0, 38, (.t 10))] false⟩, ⟨some 12, none, .app 38 96 (.t 9) (.t 11) false⟩, ⟨some 13, none, .nck (.t 5)⟩, ⟨some 14, none, .fa 4 (.t 13)⟩, ⟨none, none, .st 1 (.t 14) (.t 12)⟩])
    (.seq (.reg [⟨some 4, none, .tk (.c (.int .i64 0))⟩])
    (.ret)))) }

-- flotsam/tree.Exprs
def c_tree_Exprs : AFunc :=
  { np := 1, res := [.t 2, .t 3], body := (
    .seq (.reg [⟨some 2, none, .tk (.c (.int .i64 0))⟩, ⟨some 3, none, .tk (.c (.bool false))⟩])
    (.seq (.seq (.reg [⟨some 4, none, .mv (.t 0)⟩])
      (.block 0 (.seq (.seq (.reg [⟨some 6, none, .ic .eql (.t 4) (.c (.int .i64 11))⟩, ⟨some 5, none, .tk (.t 6)⟩])
          (.cond (.t 5)
            (.skip)
            (.seq (.reg [⟨some 7, none, .ic .eql (.t 4) (.c (.int .i64 14))⟩, ⟨some 5, none, .tk (.t 7)⟩])
              (.cond (.t 5)
                (.skip)
                (.reg [⟨some 8, none, .ic .eql (.t 4) (.c (.int .i64 15))⟩, ⟨some 5, none, .tk (.t 8)⟩])))))
        (.cond (.t 5)
          (.seq (.reg [⟨some 2, none, .tk (.c (.int .i64 0))⟩, ⟨some 3, none, .tk (.c (.bool true))⟩])
            (.ret))
          (.seq (.seq (.reg [⟨some 10, none, .ic .eql (.t 4) (.c (.int .i64 4))⟩, ⟨some 9, none, .tk (.t 10)⟩])
              (.cond (.t 9)
                (.skip)
                (.seq (.reg [⟨some 11, none, .ic .eql (.t 4) (.c (.int .i64 5))⟩, ⟨some 9, none, .tk (.t 11)⟩])
                  (.cond (.t 9)
                    (.skip)
                    (.reg [⟨some 12, none, .ic .eql (.t 4) (.c (.int .i64 6))⟩, ⟨some 9, none, .tk (.t 12)⟩])))))
            (.cond (.t 9)
              (stuckC)
              (.seq (.reg [⟨some 14, none, .ic .eql (.t 4) (.c (.int .i64 3))⟩, ⟨some 13, none, .tk (.t 14)⟩])
                (.cond (.t 13)
                  (stuckC)
                  (.skip)))))))))
    (stuckC))) }

-- flotsam/tree.blocks
def c_tree_blocks : AFunc :=
  { np := 1, res := [.t 2, .t 3], body := (
    .seq (.reg [⟨some 2, none, .tk (.c (.bool false))⟩, ⟨some 3, none, .tk (.c (.bool false))⟩])
    (.seq (.reg [⟨some 4, none, .mv (.t 0)⟩, ⟨some 5, none, .ic .eql (.t 4) (.c (.int .i64 13))⟩, ⟨some 6, none, .mv (.t 5)⟩, ⟨some 7, (some (6, false)), .mv (.t 0)⟩, ⟨some 8, (some (6, false)), .ic .eql (.t 7) (.c (.int .i64 14))⟩, ⟨some 9, none, .pick (.t 6) (.c (.bool true)) (.t 8)⟩, ⟨some 10, none, .mv (.t 9)⟩, ⟨some 11, (some (10, false)), .mv (.t 0)⟩, ⟨some 12, (some (10, false)), .ic .eql (.t 11) (.c (.int .i64 16))⟩, ⟨some 13, none, .pick (.t 10) (.c (.bool true)) (.t 12)⟩, ⟨some 14, none, .mv (.t 0)⟩, ⟨some 15, none, .ic .eql (.t 14) (.c (.int .i64 13))⟩, ⟨some 2, none, .tk (.t 13)⟩, ⟨some 3, none, .tk (.t 15)⟩])
    (.ret))) }

-- flotsam/tree.shape$1
def c_tree_shape_1 : AFunc :=
  { np := 1, res := [.t 2], body := (
    .seq (.reg [⟨some 1, none, .box (.t 0)⟩, ⟨some 2, none, .tk (.c (.bool false))⟩])
    (.seq (.reg [⟨some 3, none, .ld (some 4) (.t 1)⟩, ⟨some 4, none, .callc n_tree_expr [(.t 3), (.c (.int .i64 8))]⟩, ⟨some 5, none, .notb (.t 4)⟩, ⟨some 2, none, .tk (.t 5)⟩])
    (.ret))) }

-- the wide form of flotsam/trace.Of
def c_trace_Of_w : AFunc :=
  { np := 3, res := [.cell 6 (some 4)], body := (
    .seq (.reg [⟨some 3, none, .box (.t 0)⟩, ⟨some 6, none, .alloc [.own 38 [], .own 5 [], .int .i64 0, .int .i64 0]⟩])
    (.seq (.reg [⟨some 13, none, .callc n_layout_Empty []⟩, ⟨some 14, none, .call n_bdisk_From [(.t 13)]⟩, ⟨some 12, none, .mv (.t 14)⟩, ⟨some 15, none, .ext (.t 12) 0⟩, ⟨some 16, none, .ext (.t 12) 1⟩, ⟨some 7, none, .tk (.t 15)⟩, ⟨some 8, none, .tk (.t 16)⟩])
    (.seq (.reg [⟨some 18, none, .mv (.t 7)⟩, ⟨some 19, none, .call n_sfs_Mount [(.t 18)]⟩, ⟨some 17, none, .mv (.t 19)⟩, ⟨some 20, none, .ext (.t 17) 0⟩, ⟨some 21, none, .ext (.t 17) 1⟩, ⟨some 9, none, .tk (.t 20)⟩, ⟨some 10, none, .tk (.t 21)⟩])
    (.seq (.reg [⟨some 22, none, .mv (.t 7)⟩, ⟨some 23, none, .mv (.t 2)⟩, ⟨some 24, none, .callk n_pbdisk_Disk_Fail [(.t 22), (.t 23)]⟩])
    (.seq (.reg [⟨some 25, none, .mv (.t 9)⟩, ⟨some 26, none, .ld (some 4) (.t 3)⟩, ⟨some 27, none, .mv (.t 1)⟩, ⟨some 28, none, .callk n_interp_Run [(.t 25), (.t 26), (.c (.bool false)), (.t 27)]⟩, ⟨some 11, none, .alloc [.int .i64 0, .int .i64 0, .own 5 []]⟩, ⟨none, none, .st 3 (.t 11) (.t 28)⟩])
    (.seq (.drw [[], [], [], [], [], [], [], [], [], []] [⟨some 29, none, .mv (.t 7)⟩, ⟨some 30, none, .callr n_pbdisk_Disk_Log [(.t 29)]⟩, ⟨some 31, none, .fa 2 (.t 11)⟩, ⟨some 32, none, .ld none (.t 31)⟩, ⟨some 33, none, .fa 0 (.t 11)⟩, ⟨some 34, none, .ld none (.t 33)⟩, ⟨some 35, none, .fa 1 (.t 11)⟩, ⟨some 36, none, .ld none (.t 35)⟩, ⟨some 37, none, .bld [.sl 38 [], .sl 5 [], .int .i64 0, .int .i64 0] [(0, 1, (.t 30)), (1, 1, (.t 32)), (2, 1, (.t 34)), (3, 1, (.t 36))]⟩, ⟨none, none, .st 4 (.t 6) (.t 37)⟩])
    (.ret))))))) }

-- the wide form of (*flotsam/bdisk.Disk).Fail
def b_pbdisk_Disk_Fail_w_0 : AC :=
  .seq (.reg [⟨some 16, none, .ic .lss (.t 15) (.t 14)⟩])
  (.seq (.cond (.t 16)
      (.skip)
      (.exit 0))
  (.seq (.block 1 (.seq (.reg [⟨some 17, none, .ixa 1 none (.t 13) (.t 15)⟩, ⟨some 18, none, .ld none (.t 17)⟩, ⟨some 5, none, .tk (.t 18)⟩])
      (stuckC)))
  (.reg [⟨some 25, none, .ia .add .i64 (.t 15) (.c (.int .i64 1))⟩, ⟨some 15, none, .mv (.t 25)⟩])))

def l_pbdisk_Disk_Fail_w_0 : AC :=
  .loop [0, 13, 14, 15] b_pbdisk_Disk_Fail_w_0

def c_pbdisk_Disk_Fail_w : AFunc :=
  { np := 2, res := [], body := (
    .seq (.seq (.reg [⟨some 6, none, .mv (.t 0)⟩, ⟨some 7, none, .call n_pbdisk_Disk_none [(.t 6)]⟩])
      (.cond (.t 7)
        (.ret)
        (.skip)))
    (.seq (.reg [⟨some 8, none, .mv (.t 0)⟩, ⟨some 9, none, .mkm false [.int .i64]⟩, ⟨some 10, none, .bld [.nilm, .int .i64 0] [(0, 1, (.t 9))]⟩, ⟨some 11, none, .nck (.t 8)⟩, ⟨some 12, none, .fa 0 (.t 11)⟩, ⟨none, none, .stw 2 (.t 12) (.t 10)⟩])
    (.seq (.reg [⟨some 13, none, .mv (.t 1)⟩, ⟨some 14, none, .len false (.t 13)⟩, ⟨some 15, none, .mv (.c (.int .i64 0))⟩])
    (.block 0 (l_pbdisk_Disk_Fail_w_0))))) }

-- the wide form of flotsam/interp.Run
def c_interp_Run_w : AFunc :=
  { np := 4, res := [.cell 8 (some 3)], body := (
    .seq (.reg [⟨some 5, none, .box (.t 1)⟩, ⟨some 8, none, .alloc [.int .i64 0, .int .i64 0, .own 5 []]⟩])
    (.seq (.seq (.reg [⟨some 12, none, .mv (.t 0)⟩, ⟨some 13, none, .call n_psfs_FS_Disk [(.t 12)]⟩, ⟨some 14, none, .isp false (.t 13)⟩])
      (.cond (.t 14)
        (stuckC)
        (.skip)))
    (.seq (.seq (.reg [⟨some 16, none, .ld (some 4) (.t 5)⟩, ⟨some 17, none, .callc n_bound_Check [(.t 16)]⟩, ⟨some 9, none, .alloc [.int .i64 0, .int .i64 0]⟩, ⟨none, none, .st 2 (.t 9) (.t 17)⟩])
      (.seq (.reg [⟨some 18, none, .fa 0 (.t 9)⟩, ⟨some 19, none, .ld none (.t 18)⟩, ⟨some 20, none, .ic .neq (.t 19) (.c (.int .i64 0))⟩])
      (.cond (.t 20)
        (stuckC)
        (.skip))))
    (.seq (.reg [⟨some 24, none, .ld (some 4) (.t 5)⟩, ⟨some 25, none, .callk n_interp_learn [(.t 24)]⟩, ⟨some 26, none, .mv (.t 0)⟩, ⟨some 27, none, .mv (.t 3)⟩, ⟨some 28, none, .mx true [(.c (.int .i64 0)), (.t 27)]⟩, ⟨some 29, none, .bld [.nilm, .int .i64 0, .nilp, .int .i64 0, .nils 4, .nils 5] [(0, 2, (.t 25)), (2, 1, (.t 26)), (3, 1, (.t 28))]⟩, ⟨some 30, none, .box (.t 29)⟩, ⟨some 10, none, .tk (.t 30)⟩])
    (.seq (.reg [⟨some 11, none, .tk (.c (.int .i64 0))⟩])
    (.seq (.seq (.reg [⟨some 31, none, .mv (.t 2)⟩])
      (.cond (.t 31)
        (stuckC)
        (.drw [[], [], [], [], [], [], [], [], [], []] [⟨some 45, none, .mv (.t 10)⟩, ⟨some 46, none, .fa 1 (.t 5)⟩, ⟨some 47, none, .ld none (.t 46)⟩, ⟨some 48, none, .mv (.t 10)⟩, ⟨some 49, none, .nck (.t 48)⟩, ⟨some 50, none, .fa 0 (.t 49)⟩, ⟨some 51, none, .fa 1 (.t 50)⟩, ⟨some 52, none, .ld none (.t 51)⟩, ⟨some 53, none, .call n_pinterp_machine_block [(.t 45), (.t 47), (.t 52)]⟩, ⟨some 11, none, .tk (.t 53)⟩])))
    (.seq (.drw [[], [], [], [], [], [], [], [], [], [], []] [⟨some 54, none, .mv (.t 11)⟩, ⟨some 55, none, .mv (.t 10)⟩, ⟨some 56, none, .nck (.t 55)⟩, ⟨some 57, none, .fa 3 (.t 56)⟩, ⟨some 58, none, .ld none (.t 57)⟩, ⟨some 59, none, .mv (.t 10)⟩, ⟨some 60, none, .nck (.t 59)⟩, ⟨some 61, none, .fa 5 (.t 60)⟩, ⟨some 62, none, .ld none (.t 61)⟩, ⟨some 63, none, .bld [.int .i64 0, .int .i64 0, .sl 5 []] [(0, 1, (.t 54)), (1, 1, (.t 58)), (2, 1, (.t 62))]⟩, ⟨none, none, .st 3 (.t 8) (.t 63)⟩])
    (.ret)))))))) }

-- the wide form of flotsam/interp.learn
def b_interp_learn_w_0 : AC :=
  .seq (.reg [⟨some 12, none, .ic .lss (.t 11) (.t 10)⟩])
  (.seq (.cond (.t 12)
      (.skip)
      (.exit 0))
  (.seq (.block 1 (.seq (.reg [⟨some 13, none, .ixa 2 none (.t 9) (.t 11)⟩, ⟨some 14, none, .ld (some 2) (.t 13)⟩, ⟨some 5, none, .alloc [.str [], .own 7 []]⟩, ⟨none, none, .st 2 (.t 5) (.t 14)⟩])
      (stuckC)))
  (.reg [⟨some 31, none, .ia .add .i64 (.t 11) (.c (.int .i64 1))⟩, ⟨some 11, none, .mv (.t 31)⟩])))

def l_interp_learn_w_0 : AC :=
  .loop [2, 3, 9, 10, 11] b_interp_learn_w_0

def r_interp_learn_w_0 : AC :=
  .seq (.reg [⟨some 32, none, .ld (some 2) (.t 3)⟩, ⟨none, none, .stw 2 (.t 2) (.t 32)⟩])
  (.ret)

def c_interp_learn_w : AFunc :=
  { np := 1, res := [.cell 2 (some 2)], body := (
    .seq (.reg [⟨some 1, none, .box (.t 0)⟩, ⟨some 2, none, .alloc [.nilm, .int .i64 0]⟩])
    (.seq (.reg [⟨some 6, none, .mkm false [.str]⟩, ⟨some 7, none, .bld [.nilm, .int .i64 0] [(0, 1, (.t 6))]⟩, ⟨some 3, none, .alloc [.nilm, .int .i64 0]⟩, ⟨none, none, .stw 2 (.t 3) (.t 7)⟩])
    (.seq (.seq (.reg [⟨some 8, none, .fa 0 (.t 1)⟩, ⟨some 9, none, .ld none (.t 8)⟩, ⟨some 10, none, .len false (.t 9)⟩, ⟨some 11, none, .mv (.c (.int .i64 0))⟩])
      (.block 0 (l_interp_learn_w_0))) r_interp_learn_w_0))) }

-- the wide form of flotsam/types.Check
def b_types_Check_w_0 : AC :=
  .seq (.reg [⟨some 20, none, .ic .lss (.t 19) (.t 18)⟩])
  (.seq (.cond (.t 20)
      (.skip)
      (.exit 0))
  (.seq (.block 1 (.seq (.reg [⟨some 21, none, .ixa 2 none (.t 17) (.t 19)⟩, ⟨some 22, none, .ld (some 2) (.t 21)⟩, ⟨some 5, none, .alloc [.str [], .own 7 []]⟩, ⟨none, none, .st 2 (.t 5) (.t 22)⟩])
      (stuckC)))
  (.reg [⟨some 49, none, .ia .add .i64 (.t 19) (.c (.int .i64 1))⟩, ⟨some 19, none, .mv (.t 49)⟩])))

def l_types_Check_w_0 : AC :=
  .loop [1, 2, 3, 17, 18, 19] b_types_Check_w_0

def b_types_Check_w_1 : AC :=
  .seq (.reg [⟨some 63, none, .ic .lss (.t 62) (.t 61)⟩])
  (.seq (.cond (.t 63)
      (.skip)
      (.exit 2))
  (.seq (.block 3 (.seq (.reg [⟨some 64, none, .ixa 5 none (.t 60) (.t 62)⟩, ⟨some 65, none, .ld (some 5) (.t 64)⟩, ⟨some 8, none, .alloc [.str [], .int .i64 0, .int .i64 0, .str [], .own 4 []]⟩, ⟨none, none, .st 5 (.t 8) (.t 65)⟩])
      (stuckC)))
  (.reg [⟨some 89, none, .ia .add .i64 (.t 62) (.c (.int .i64 1))⟩, ⟨some 62, none, .mv (.t 89)⟩])))

def l_types_Check_w_1 : AC :=
  .loop [2, 3, 6, 60, 61, 62] b_types_Check_w_1

def r_types_Check_w_0 : AC :=
  .seq (.reg [⟨some 90, none, .mv (.t 3)⟩, ⟨some 91, none, .nck (.t 90)⟩, ⟨some 92, none, .fa 3 (.t 91)⟩, ⟨some 93, none, .ld (some 2) (.t 92)⟩, ⟨none, none, .st 2 (.t 2) (.t 93)⟩])
  (.ret)

def r_types_Check_w_1 : AC :=
  .seq (.reg [⟨some 50, none, .mv (.t 3)⟩, ⟨some 51, none, .fa 1 (.t 1)⟩, ⟨some 52, none, .ld none (.t 51)⟩, ⟨some 53, none, .callk n_ptypes_checker_block [(.t 50), (.t 52)]⟩])
  (.seq (.reg [⟨some 54, none, .mv (.t 3)⟩, ⟨some 55, none, .fa 2 (.t 1)⟩, ⟨some 56, none, .ld none (.t 55)⟩, ⟨some 57, none, .callk n_ptypes_checker_block [(.t 54), (.t 56)]⟩])
  (.seq (.reg [⟨some 58, none, .mkm false [.str]⟩, ⟨some 6, none, .tk (.t 58)⟩])
  (.seq (.seq (.reg [⟨some 59, none, .fa 3 (.t 1)⟩, ⟨some 60, none, .ld none (.t 59)⟩, ⟨some 61, none, .len false (.t 60)⟩, ⟨some 62, none, .mv (.c (.int .i64 0))⟩])
    (.block 2 (l_types_Check_w_1))) r_types_Check_w_0)))

def c_types_Check_w : AFunc :=
  { np := 1, res := [.cell 2 (some 2)], body := (
    .seq (.reg [⟨some 1, none, .box (.t 0)⟩, ⟨some 2, none, .alloc [.int .i64 0, .int .i64 0]⟩])
    (.seq (.seq (.reg [⟨some 9, none, .ld (some 4) (.t 1)⟩, ⟨some 10, none, .callc n_tree_Right [(.t 9)]⟩, ⟨some 11, none, .notb (.t 10)⟩])
      (.cond (.t 11)
        (stuckC)
        (.skip)))
    (.seq (.reg [⟨some 13, none, .mkm false [.str]⟩, ⟨some 14, none, .bld [.nils 1, .nilm, .int .i64 0, .int .i64 0, .int .i64 0] [(1, 1, (.t 13))]⟩, ⟨some 15, none, .box (.t 14)⟩, ⟨some 3, none, .tk (.t 15)⟩])
    (.seq (.seq (.reg [⟨some 16, none, .fa 0 (.t 1)⟩, ⟨some 17, none, .ld none (.t 16)⟩, ⟨some 18, none, .len false (.t 17)⟩, ⟨some 19, none, .mv (.c (.int .i64 0))⟩])
      (.block 0 (l_types_Check_w_0))) r_types_Check_w_1)))) }

-- the wide form of (*flotsam/types.checker).block
def b_ptypes_checker_block_w_0 : AC :=
  .seq (.reg [⟨some 21, none, .ic .lss (.t 20) (.t 19)⟩])
  (.seq (.cond (.t 21)
      (.skip)
      (.exit 0))
  (.seq (.block 1 (.seq (.reg [⟨some 22, none, .ixa 7 none (.t 18) (.t 20)⟩, ⟨some 23, none, .ld (some 7) (.t 22)⟩, ⟨some 5, none, .alloc [.int .i64 0, .str [], .int .i64 0, .own 4 [], .own 7 [], .own 7 [], .bool false]⟩, ⟨none, none, .st 7 (.t 5) (.t 23)⟩])
      (.seq (.reg [⟨some 24, none, .mv (.t 0)⟩, ⟨some 25, none, .nck (.t 24)⟩, ⟨some 26, none, .fa 2 (.t 25)⟩, ⟨some 27, none, .ld none (.t 26)⟩, ⟨some 6, none, .tk (.t 27)⟩])
      (.seq (.reg [⟨some 28, none, .mv (.t 0)⟩, ⟨some 29, none, .nck (.t 28)⟩, ⟨some 30, none, .fa 2 (.t 29)⟩, ⟨some 31, none, .ld none (.t 30)⟩, ⟨some 32, none, .ia .add .i64 (.t 31) (.c (.int .i64 1))⟩, ⟨some 33, none, .nck (.t 28)⟩, ⟨some 34, none, .fa 2 (.t 33)⟩, ⟨none, none, .st 1 (.t 34) (.t 32)⟩])
      (.seq (.reg [⟨some 35, none, .mv (.t 0)⟩, ⟨some 36, none, .ld (some 7) (.t 5)⟩, ⟨some 37, none, .mv (.t 6)⟩, ⟨some 38, none, .call n_ptypes_checker_exprs [(.t 35), (.t 36), (.t 37)]⟩, ⟨some 7, none, .tk (.t 38)⟩])
      (.seq (.seq (.reg [⟨some 39, none, .fa 0 (.t 5)⟩, ⟨some 40, none, .ld none (.t 39)⟩])
        (.block 2 (.seq (.reg [⟨some 42, none, .ic .eql (.t 40) (.c (.int .i64 12))⟩, ⟨some 41, none, .tk (.t 42)⟩])
          (.cond (.t 41)
            (stuckC)
            (.seq (.reg [⟨some 50, none, .ic .eql (.t 40) (.c (.int .i64 15))⟩, ⟨some 49, none, .tk (.t 50)⟩])
              (.cond (.t 49)
                (stuckC)
                (.skip)))))))
      (.seq (.reg [⟨some 62, none, .mv (.t 0)⟩, ⟨some 63, none, .fa 4 (.t 5)⟩, ⟨some 64, none, .ld none (.t 63)⟩, ⟨some 65, none, .callk n_ptypes_checker_block [(.t 62), (.t 64)]⟩])
      (.reg [⟨some 66, none, .mv (.t 0)⟩, ⟨some 67, none, .fa 5 (.t 5)⟩, ⟨some 68, none, .ld none (.t 67)⟩, ⟨some 69, none, .callk n_ptypes_checker_block [(.t 66), (.t 68)]⟩]))))))))
  (.reg [⟨some 70, none, .ia .add .i64 (.t 20) (.c (.int .i64 1))⟩, ⟨some 20, none, .mv (.t 70)⟩])))

def l_ptypes_checker_block_w_0 : AC :=
  .loop [0, 18, 19, 20] b_ptypes_checker_block_w_0

def r_ptypes_checker_block_w_0 : AC :=
  .drw [[], [], [], [], [], [], [], [], [], [], [], [], [], [], []] [⟨some 71, none, .mv (.t 0)⟩, ⟨some 72, none, .mv (.t 0)⟩, ⟨some 73, none, .nck (.t 72)⟩, ⟨some 74, none, .fa 0 (.t 73)⟩, ⟨some 75, none, .ld none (.t 74)⟩, ⟨some 76, none, .mv (.t 0)⟩, ⟨some 77, none, .nck (.t 76)⟩, ⟨some 78, none, .fa 0 (.t 77)⟩, ⟨some 79, none, .ld none (.t 78)⟩, ⟨some 80, none, .len false (.t 79)⟩, ⟨some 81, none, .ia .sub .i64 (.t 80) (.c (.int .i64 1))⟩, ⟨some 82, none, .sls 1 (.t 75) none (some (.t 81)) none⟩, ⟨some 83, none, .nck (.t 71)⟩, ⟨some 84, none, .fa 0 (.t 83)⟩, ⟨none, none, .stw 1 (.t 84) (.t 82)⟩]

def c_ptypes_checker_block_w : AFunc :=
  { np := 2, res := [], body := (
    .seq (.reg [⟨some 8, none, .mv (.t 0)⟩, ⟨some 9, none, .mv (.t 0)⟩, ⟨some 10, none, .nck (.t 9)⟩, ⟨some 11, none, .fa 0 (.t 10)⟩, ⟨some 12, none, .ldm (.t 11)⟩, ⟨some 13, none, .mkm false [.str]⟩, ⟨some 14, none, .bsl 1 [.nilm] 1 [(0, 1, (.t 13))] true⟩, ⟨some 15, none, .apm 1 8 (.t 12) (.t 14)⟩, ⟨some 16, none, .nck (.t 8)⟩, ⟨some 17, none, .fa 0 (.t 16)⟩, ⟨none, none, .stw 1 (.t 17) (.t 15)⟩])
    (.seq (.seq (.reg [⟨some 18, none, .mv (.t 1)⟩, ⟨some 19, none, .len false (.t 18)⟩, ⟨some 20, none, .mv (.c (.int .i64 0))⟩])
      (.block 0 (l_ptypes_checker_block_w_0))) r_ptypes_checker_block_w_0)) }

-- the wide form of flotsam/tree.cloned
def c_tree_cloned_w : AFunc :=
  { np := 1, res := [.cell 2 (some 7)], body := (
    .seq (.reg [⟨some 1, none, .box (.t 0)⟩, ⟨some 2, none, .alloc [.int .i64 0, .str [], .int .i64 0, .own 4 [], .own 7 [], .own 7 [], .bool false]⟩])
    (.seq (.reg [⟨some 3, none, .fa 3 (.t 1)⟩, ⟨some 4, none, .ld none (.t 3)⟩, ⟨some 5, none, .callx (wNo n_tree_each_api_Expr) [(.t 4), (.c (.fn (.func n_tree_clonedExpr) [] []))]⟩, ⟨some 6, none, .fa 3 (.t 1)⟩, ⟨none, none, .stw 1 (.t 6) (.t 5)⟩])
    (.seq (.reg [⟨some 7, none, .fa 4 (.t 1)⟩, ⟨some 8, none, .ld none (.t 7)⟩, ⟨some 9, none, .callx (wNo n_tree_each_api_Stmt) [(.t 8), (.c (.fn (.func n_tree_cloned) [] []))]⟩, ⟨some 10, none, .fa 4 (.t 1)⟩, ⟨none, none, .stw 1 (.t 10) (.t 9)⟩])
    (.seq (.reg [⟨some 11, none, .fa 5 (.t 1)⟩, ⟨some 12, none, .ld none (.t 11)⟩, ⟨some 13, none, .callx (wNo n_tree_each_api_Stmt) [(.t 12), (.c (.fn (.func n_tree_cloned) [] []))]⟩, ⟨some 14, none, .fa 5 (.t 1)⟩, ⟨none, none, .stw 1 (.t 14) (.t 13)⟩])
    (.seq (.reg [⟨some 15, none, .ld (some 7) (.t 1)⟩, ⟨none, none, .stw 7 (.t 2) (.t 15)⟩])
    (.ret)))))) }

-- the wide form of flotsam/rewrite.Apply
def c_rewrite_Apply_w : AFunc :=
  { np := 2, res := [.cell 4 (some 4), .t 5], body := (
    .seq (.reg [⟨some 2, none, .box (.t 0)⟩, ⟨some 3, none, .box (.t 1)⟩, ⟨some 4, none, .alloc [.own 2 [], .own 7 [], .own 7 [], .own 5 []]⟩, ⟨some 5, none, .tk (.c (.bool false))⟩])
    (.seq (.seq (.reg [⟨some 8, none, .ld (some 4) (.t 2)⟩, ⟨some 9, none, .ld (some 11) (.t 3)⟩, ⟨some 10, none, .callc n_site_Fits [(.t 8), (.t 9)]⟩, ⟨some 11, none, .notb (.t 10)⟩])
      (.cond (.t 11)
        (.seq (.reg [⟨some 12, none, .bld [.sl 2 [], .sl 7 [], .sl 7 [], .sl 5 []] []⟩, ⟨none, none, .stw 4 (.t 4) (.t 12)⟩, ⟨some 5, none, .tk (.c (.bool false))⟩])
          (.ret))
        (.skip)))
    (.seq (.reg [⟨some 13, none, .ld (some 4) (.t 2)⟩, ⟨some 14, none, .callx (wNo n_tree_Clone) [(.t 13)]⟩, ⟨some 6, none, .alloc [.own 2 [], .own 7 [], .own 7 [], .own 5 []]⟩, ⟨none, none, .stw 4 (.t 6) (.t 14)⟩])
    (.seq (.reg [⟨some 15, none, .fa 1 (.t 6)⟩, ⟨some 7, none, .tk (.t 15)⟩])
    (.seq (.seq (.reg [⟨some 16, none, .fa 1 (.t 3)⟩, ⟨some 17, none, .ld none (.t 16)⟩, ⟨some 18, none, .ic .gtr (.t 17) (.c (.int .i64 0))⟩])
      (.cond (.t 18)
        (.reg [⟨some 19, none, .fa 0 (.t 6)⟩, ⟨some 20, none, .ld none (.t 19)⟩, ⟨some 21, none, .fa 1 (.t 3)⟩, ⟨some 22, none, .ld none (.t 21)⟩, ⟨some 23, none, .ia .sub .i64 (.t 22) (.c (.int .i64 1))⟩, ⟨some 24, none, .ixa 2 none (.t 20) (.t 23)⟩, ⟨some 25, none, .fa 1 (.t 24)⟩, ⟨some 7, none, .tk (.t 25)⟩])
        (.skip)))
    (.seq (.drw [[], [], [], [], [], [], [], [], [], [], [], [6, 9]] [⟨some 26, none, .mv (.t 7)⟩, ⟨some 27, none, .fa 2 (.t 3)⟩, ⟨some 28, none, .ixa 1 (some 8) (.t 27) (.c (.int .i64 0))⟩, ⟨some 29, none, .ld none (.t 28)⟩, ⟨some 30, none, .fa 2 (.t 3)⟩, ⟨some 31, none, .fa 10 (.t 3)⟩, ⟨some 32, none, .ld none (.t 31)⟩, ⟨some 33, none, .slp 1 8 (.t 30) (some (.c (.int .i64 1))) (some (.t 32)) none⟩, ⟨some 34, none, .fa 0 (.t 3)⟩, ⟨some 35, none, .ld none (.t 34)⟩, ⟨some 36, none, .callx (wNo n_rewrite_by) [(.t 35)]⟩, ⟨some 37, none, .callk n_rewrite_along [(.t 26), (.t 29), (.t 33), (.t 36)]⟩])
    (.seq (.reg [⟨some 38, none, .ldf (some 4) (.t 6)⟩, ⟨none, none, .stw 4 (.t 4) (.t 38)⟩, ⟨some 5, none, .tk (.c (.bool true))⟩])
    (.ret)))))))) }

-- the wide form of flotsam/tree.each[flotsam/api.Expr]
def b_tree_each_api_Expr_w_0 : AC :=
  .seq (.reg [⟨some 11, none, .ic .lss (.t 10) (.t 9)⟩])
  (.seq (.cond (.t 11)
      (.skip)
      (.exit 0))
  (.seq (.block 1 (.seq (.reg [⟨some 12, none, .ixa 4 none (.t 8) (.t 10)⟩, ⟨some 13, none, .ld (some 4) (.t 12)⟩, ⟨some 7, none, .alloc [.int .i64 0, .int .i64 0, .str [], .nils 4]⟩, ⟨none, none, .stw 4 (.t 7) (.t 13)⟩])
      (.reg [⟨some 14, none, .tk (.t 5)⟩, ⟨some 15, none, .mv (.t 1)⟩, ⟨some 16, none, .ld (some 4) (.t 7)⟩, ⟨some 17, none, .callvk (.t 15) [(.t 16)]⟩, ⟨some 18, none, .bsl 4 [.int .i64 0, .int .i64 0, .str [], .sl 4 []] 1 [(0, 4, (.t 17))] true⟩, ⟨some 19, none, .apm 4 56 (.t 14) (.t 18)⟩, ⟨some 5, none, .tk (.t 19)⟩])))
  (.reg [⟨some 20, none, .ia .add .i64 (.t 10) (.c (.int .i64 1))⟩, ⟨some 10, none, .mv (.t 20)⟩])))

def l_tree_each_api_Expr_w_0 : AC :=
  .loop [1, 5, 8, 9, 10] b_tree_each_api_Expr_w_0

def r_tree_each_api_Expr_w_0 : AC :=
  .seq (.reg [⟨some 21, none, .tk (.t 5)⟩, ⟨some 4, none, .tk (.t 21)⟩])
  (.ret)

def c_tree_each_api_Expr_w : AFunc :=
  { np := 2, res := [.t 4], body := (
    .seq (.reg [⟨some 4, none, .tk (.c (.nils 4))⟩])
    (.seq (.reg [⟨some 5, none, .tk (.c (.nils 4))⟩])
    (.seq (.seq (.reg [⟨some 8, none, .tk (.t 0)⟩, ⟨some 9, none, .len false (.t 8)⟩, ⟨some 10, none, .mv (.c (.int .i64 0))⟩])
      (.block 0 (l_tree_each_api_Expr_w_0))) r_tree_each_api_Expr_w_0))) }

-- the wide form of flotsam/tree.clonedExpr
def c_tree_clonedExpr_w : AFunc :=
  { np := 1, res := [.cell 2 (some 4)], body := (
    .seq (.reg [⟨some 1, none, .box (.t 0)⟩, ⟨some 2, none, .alloc [.int .i64 0, .int .i64 0, .str [], .own 4 []]⟩])
    (stuckC)) }

-- the wide form of flotsam/tree.each[flotsam/api.Stmt]
def b_tree_each_api_Stmt_w_0 : AC :=
  .seq (.reg [⟨some 11, none, .ic .lss (.t 10) (.t 9)⟩])
  (.seq (.cond (.t 11)
      (.skip)
      (.exit 0))
  (.seq (.block 1 (.seq (.reg [⟨some 12, none, .ixa 7 none (.t 8) (.t 10)⟩, ⟨some 13, none, .ld (some 7) (.t 12)⟩, ⟨some 7, none, .alloc [.int .i64 0, .str [], .int .i64 0, .nils 4, .nils 7, .nils 7, .bool false]⟩, ⟨none, none, .stw 7 (.t 7) (.t 13)⟩])
      (.reg [⟨some 14, none, .tk (.t 5)⟩, ⟨some 15, none, .mv (.t 1)⟩, ⟨some 16, none, .ld (some 7) (.t 7)⟩, ⟨some 17, none, .callvk (.t 15) [(.t 16)]⟩, ⟨some 18, none, .bsl 7 [.int .i64 0, .str [], .int .i64 0, .sl 4 [], .sl 7 [], .sl 7 [], .bool false] 1 [(0, 7, (.t 17))] true⟩, ⟨some 19, none, .apm 7 112 (.t 14) (.t 18)⟩, ⟨some 5, none, .tk (.t 19)⟩])))
  (.reg [⟨some 20, none, .ia .add .i64 (.t 10) (.c (.int .i64 1))⟩, ⟨some 10, none, .mv (.t 20)⟩])))

def l_tree_each_api_Stmt_w_0 : AC :=
  .loop [1, 5, 8, 9, 10] b_tree_each_api_Stmt_w_0

def r_tree_each_api_Stmt_w_0 : AC :=
  .seq (.reg [⟨some 21, none, .tk (.t 5)⟩, ⟨some 4, none, .tk (.t 21)⟩])
  (.ret)

def c_tree_each_api_Stmt_w : AFunc :=
  { np := 2, res := [.t 4], body := (
    .seq (.reg [⟨some 4, none, .tk (.c (.nils 7))⟩])
    (.seq (.reg [⟨some 5, none, .tk (.c (.nils 7))⟩])
    (.seq (.seq (.reg [⟨some 8, none, .tk (.t 0)⟩, ⟨some 9, none, .len false (.t 8)⟩, ⟨some 10, none, .mv (.c (.int .i64 0))⟩])
      (.block 0 (l_tree_each_api_Stmt_w_0))) r_tree_each_api_Stmt_w_0))) }

-- the wide form of flotsam/tree.Clone
def c_tree_Clone_w : AFunc :=
  { np := 1, res := [.cell 2 (some 4)], body := (
    .seq (.reg [⟨some 1, none, .box (.t 0)⟩, ⟨some 2, none, .alloc [.own 2 [], .own 7 [], .own 7 [], .own 5 []]⟩])
    (.seq (.drw [[], [], [], [], [], [], [], [], [2], [], [], [2, 5], [], []] [⟨some 3, none, .fa 0 (.t 1)⟩, ⟨some 4, none, .ld none (.t 3)⟩, ⟨some 5, none, .callx (wNo n_tree_each_api_Proc) [(.t 4), (.c (.fn (.func n_tree_Clone_1) [] []))]⟩, ⟨some 6, none, .fa 1 (.t 1)⟩, ⟨some 7, none, .ld none (.t 6)⟩, ⟨some 8, none, .callx (wNo n_tree_each_api_Stmt) [(.t 7), (.c (.fn (.func n_tree_cloned) [] []))]⟩, ⟨some 9, none, .fa 2 (.t 1)⟩, ⟨some 10, none, .ld none (.t 9)⟩, ⟨some 11, none, .callx (wNo n_tree_each_api_Stmt) [(.t 10), (.c (.fn (.func n_tree_cloned) [] []))]⟩, ⟨some 12, none, .fa 3 (.t 1)⟩, ⟨some 13, none, .ld none (.t 12)⟩, ⟨some 14, none, .callx (wNo n_tree_each_api_Oracle) [(.t 13), (.c (.fn (.func n_tree_Clone_2) [] []))]⟩, ⟨some 15, none, .bld [.sl 2 [], .sl 7 [], .sl 7 [], .sl 5 []] [(0, 1, (.t 5)), (1, 1, (.t 8)), (2, 1, (.t 11)), (3, 1, (.t 14))]⟩, ⟨none, none, .stw 4 (.t 2) (.t 15)⟩])
    (.ret))) }

-- the wide form of flotsam/rewrite.along
def c_rewrite_along_w : AFunc :=
  { np := 4, res := [], body := (
    .seq (.seq (.reg [⟨some 11, none, .mv (.t 2)⟩, ⟨some 12, none, .len false (.t 11)⟩, ⟨some 13, none, .ic .eql (.t 12) (.c (.int .i64 0))⟩])
      (.cond (.t 13)
        (.seq (.reg [⟨some 14, none, .mv (.t 0)⟩, ⟨some 15, none, .mv (.t 3)⟩, ⟨some 16, none, .mv (.t 0)⟩, ⟨some 17, none, .nck (.t 16)⟩, ⟨some 18, none, .ld none (.t 17)⟩, ⟨some 19, none, .mv (.t 1)⟩, ⟨some 20, none, .callvk (.t 15) [(.t 18), (.t 19)]⟩, ⟨some 21, none, .nck (.t 14)⟩, ⟨none, none, .stw 1 (.t 21) (.t 20)⟩])
          (.ret))
        (.skip)))
    (stuckC)) }

-- the wide form of flotsam/rewrite.by
def c_rewrite_by_w : AFunc :=
  { np := 1, res := [.t 2], body := (
    .seq (.reg [⟨some 2, none, .tk (.c (.nilf))⟩])
    (.seq (.seq (.reg [⟨some 3, none, .mv (.t 0)⟩])
      (.block 0 (.seq (.reg [⟨some 5, none, .ic .eql (.t 3) (.c (.int .i64 2))⟩, ⟨some 4, none, .tk (.t 5)⟩])
        (.cond (.t 4)
          (stuckC)
          (.seq (.reg [⟨some 8, none, .ic .eql (.t 3) (.c (.int .i64 6))⟩, ⟨some 7, none, .tk (.t 8)⟩])
            (.cond (.t 7)
              (stuckC)
              (.seq (.reg [⟨some 11, none, .ic .eql (.t 3) (.c (.int .i64 7))⟩, ⟨some 10, none, .tk (.t 11)⟩])
                (.cond (.t 10)
                  (stuckC)
                  (.seq (.reg [⟨some 14, none, .ic .eql (.t 3) (.c (.int .i64 5))⟩, ⟨some 13, none, .tk (.t 14)⟩])
                    (.cond (.t 13)
                      (stuckC)
                      (.skip)))))))))))
    (.seq (.reg [⟨some 2, none, .tk (.c (.fn (.func n_rewrite_by_4) [] []))⟩])
    (.ret)))) }

-- the wide form of flotsam/tree.each[flotsam/api.Proc]
def b_tree_each_api_Proc_w_0 : AC :=
  .seq (.reg [⟨some 11, none, .ic .lss (.t 10) (.t 9)⟩])
  (.seq (.cond (.t 11)
      (.skip)
      (.exit 0))
  (.seq (.block 1 (.seq (.reg [⟨some 12, none, .ixa 2 none (.t 8) (.t 10)⟩, ⟨some 13, none, .ld (some 2) (.t 12)⟩, ⟨some 7, none, .alloc [.str [], .nils 7]⟩, ⟨none, none, .stw 2 (.t 7) (.t 13)⟩])
      (.reg [⟨some 14, none, .tk (.t 5)⟩, ⟨some 15, none, .mv (.t 1)⟩, ⟨some 16, none, .ld (some 2) (.t 7)⟩, ⟨some 17, none, .callvk (.t 15) [(.t 16)]⟩, ⟨some 18, none, .bsl 2 [.str [], .sl 7 []] 1 [(0, 2, (.t 17))] true⟩, ⟨some 19, none, .apm 2 40 (.t 14) (.t 18)⟩, ⟨some 5, none, .tk (.t 19)⟩])))
  (.reg [⟨some 20, none, .ia .add .i64 (.t 10) (.c (.int .i64 1))⟩, ⟨some 10, none, .mv (.t 20)⟩])))

def l_tree_each_api_Proc_w_0 : AC :=
  .loop [1, 5, 8, 9, 10] b_tree_each_api_Proc_w_0

def r_tree_each_api_Proc_w_0 : AC :=
  .seq (.reg [⟨some 21, none, .tk (.t 5)⟩, ⟨some 4, none, .tk (.t 21)⟩])
  (.ret)

def c_tree_each_api_Proc_w : AFunc :=
  { np := 2, res := [.t 4], body := (
    .seq (.reg [⟨some 4, none, .tk (.c (.nils 2))⟩])
    (.seq (.reg [⟨some 5, none, .tk (.c (.nils 2))⟩])
    (.seq (.seq (.reg [⟨some 8, none, .tk (.t 0)⟩, ⟨some 9, none, .len false (.t 8)⟩, ⟨some 10, none, .mv (.c (.int .i64 0))⟩])
      (.block 0 (l_tree_each_api_Proc_w_0))) r_tree_each_api_Proc_w_0))) }

-- the wide form of flotsam/tree.Clone$1
def c_tree_Clone_1_w : AFunc :=
  { np := 1, res := [.cell 2 (some 2)], body := (
    .seq (.reg [⟨some 1, none, .box (.t 0)⟩, ⟨some 2, none, .alloc [.str [], .own 7 []]⟩])
    (.seq (.drw [[], [], [], [], [], [], []] [⟨some 3, none, .fa 0 (.t 1)⟩, ⟨some 4, none, .ld none (.t 3)⟩, ⟨some 5, none, .fa 1 (.t 1)⟩, ⟨some 6, none, .ld none (.t 5)⟩, ⟨some 7, none, .callx (wNo n_tree_each_api_Stmt) [(.t 6), (.c (.fn (.func n_tree_cloned) [] []))]⟩, ⟨some 8, none, .bld [.str [], .sl 7 []] [(0, 1, (.t 4)), (1, 1, (.t 7))]⟩, ⟨none, none, .stw 2 (.t 2) (.t 8)⟩])
    (.ret))) }

-- the wide form of flotsam/tree.each[flotsam/api.Oracle]
def b_tree_each_api_Oracle_w_0 : AC :=
  .seq (.reg [⟨some 11, none, .ic .lss (.t 10) (.t 9)⟩])
  (.seq (.cond (.t 11)
      (.skip)
      (.exit 0))
  (.seq (.block 1 (.seq (.reg [⟨some 12, none, .ixa 5 none (.t 8) (.t 10)⟩, ⟨some 13, none, .ld (some 5) (.t 12)⟩, ⟨some 7, none, .alloc [.str [], .int .i64 0, .int .i64 0, .str [], .nils 4]⟩, ⟨none, none, .stw 5 (.t 7) (.t 13)⟩])
      (.reg [⟨some 14, none, .tk (.t 5)⟩, ⟨some 15, none, .mv (.t 1)⟩, ⟨some 16, none, .ld (some 5) (.t 7)⟩, ⟨some 17, none, .callvk (.t 15) [(.t 16)]⟩, ⟨some 18, none, .bsl 5 [.str [], .int .i64 0, .int .i64 0, .str [], .sl 4 []] 1 [(0, 5, (.t 17))] true⟩, ⟨some 19, none, .apm 5 72 (.t 14) (.t 18)⟩, ⟨some 5, none, .tk (.t 19)⟩])))
  (.reg [⟨some 20, none, .ia .add .i64 (.t 10) (.c (.int .i64 1))⟩, ⟨some 10, none, .mv (.t 20)⟩])))

def l_tree_each_api_Oracle_w_0 : AC :=
  .loop [1, 5, 8, 9, 10] b_tree_each_api_Oracle_w_0

def r_tree_each_api_Oracle_w_0 : AC :=
  .seq (.reg [⟨some 21, none, .tk (.t 5)⟩, ⟨some 4, none, .tk (.t 21)⟩])
  (.ret)

def c_tree_each_api_Oracle_w : AFunc :=
  { np := 2, res := [.t 4], body := (
    .seq (.reg [⟨some 4, none, .tk (.c (.nils 5))⟩])
    (.seq (.reg [⟨some 5, none, .tk (.c (.nils 5))⟩])
    (.seq (.seq (.reg [⟨some 8, none, .tk (.t 0)⟩, ⟨some 9, none, .len false (.t 8)⟩, ⟨some 10, none, .mv (.c (.int .i64 0))⟩])
      (.block 0 (l_tree_each_api_Oracle_w_0))) r_tree_each_api_Oracle_w_0))) }

-- the wide form of flotsam/rewrite.by$4
def c_rewrite_by_4_w : AFunc :=
  { np := 2, res := [.t 4], body := (
    .seq (.reg [⟨some 4, none, .tk (.c (.own 7 []))⟩])
    (.seq (.reg [⟨some 5, none, .mv (.t 0)⟩, ⟨some 6, none, .mv (.t 1)⟩, ⟨some 7, none, .mv (.t 1)⟩, ⟨some 8, none, .ia .add .i64 (.t 7) (.c (.int .i64 1))⟩, ⟨some 9, none, .callk n_slices_Delete_api_Stmt_api_Stmt [(.t 5), (.t 6), (.t 8)]⟩, ⟨some 4, none, .tk (.t 9)⟩])
    (.ret))) }

-- the wide form of slices.Delete[[]flotsam/api.Stmt,flotsam/api.Stmt]
def c_slices_Delete_api_Stmt_api_Stmt_w : AFunc :=
  { np := 3, res := [.t 6], body := (
    .seq (.reg [⟨some 6, none, .tk (.c (.own 7 []))⟩])
    (.seq (.reg [⟨some 8, none, .mv (.t 0)⟩, ⟨some 9, none, .mv (.t 1)⟩, ⟨some 10, none, .mv (.t 2)⟩, ⟨some 11, none, .mv (.t 0)⟩, ⟨some 12, none, .len false (.t 11)⟩, ⟨some 13, none, .sls 7 (.t 8) (some (.t 9)) (some (.t 10)) (some (.t 12))⟩])
    (.seq (.seq (.reg [⟨some 14, none, .mv (.t 1)⟩, ⟨some 15, none, .mv (.t 2)⟩, ⟨some 16, none, .ic .eql (.t 14) (.t 15)⟩])
      (.cond (.t 16)
        (.seq (.reg [⟨some 17, none, .mv (.t 0)⟩, ⟨some 6, none, .tk (.t 17)⟩])
          (.ret))
        (.skip)))
    (.seq (.reg [⟨some 18, none, .mv (.t 0)⟩, ⟨some 19, none, .len false (.t 18)⟩, ⟨some 7, none, .tk (.t 19)⟩])
    (.seq (.drw [[], [], [], [], [], [], [], []] [⟨some 20, none, .mv (.t 0)⟩, ⟨some 21, none, .mv (.t 1)⟩, ⟨some 22, none, .sls 7 (.t 20) none (some (.t 21)) none⟩, ⟨some 23, none, .mv (.t 0)⟩, ⟨some 24, none, .mv (.t 2)⟩, ⟨some 25, none, .sls 7 (.t 23) (some (.t 24)) none none⟩, ⟨some 26, none, .apm 7 112 (.t 22) (.t 25)⟩, ⟨some 0, none, .tk (.t 26)⟩])
    (.seq (.reg [⟨some 27, none, .mv (.t 0)⟩, ⟨some 28, none, .mv (.t 0)⟩, ⟨some 29, none, .len false (.t 28)⟩, ⟨some 30, none, .mv (.t 7)⟩, ⟨some 31, none, .sls 7 (.t 27) (some (.t 29)) (some (.t 30)) none⟩, ⟨none, none, .clr 7 [.int .i64 0, .str [], .int .i64 0, .sl 4 [], .sl 7 [], .sl 7 [], .bool false] (.t 31)⟩])
    (.seq (.reg [⟨some 32, none, .mv (.t 0)⟩, ⟨some 6, none, .tk (.t 32)⟩])
    (.ret)))))))) }

def tbl : Tbl := Tab.get [(3, c_flotsamlaw41_AlikeSame), (4, c_flotsamlaw06_Log), (5, c_flotsamlaw41_knows), (6, c_alike_Same), (7, c_flotsamlaw24_Trace), (8, c_flotsamref41_Same), (9, c_alike_Classes), (10, c_alike_Idle), (12, c_flotsamlaw41_num), (13, c_flotsamlaw04_Ints), (14, c_alike_Alike), (15, c_alike_Same_1), (16, c_slices_EqualFunc_api_Event_api_Event_api_Event_api_Event), (17, c_alike_event), (18, c_flotsamref05_Events), (19, c_alike_all), (20, c_alike_once), (21, c_alike_Classes_1), (22, c_slices_IndexFunc_mutants_Mutant_mutants_Mutant), (23, c_alike_Classes_2), (24, c_tree_Same), (25, c_alike_rest), (26, c_bdisk_From), (27, c_layout_Empty), (28, c_sfs_Mount), (31, c_pbdisk_Disk_Log), (32, c_bound_Check), (33, c_slices_Equal_api_Tag_api_Tag), (34, c_flotsamref05_Tags), (35, c_campaign_Right), (36, c_mutants_All), (37, c_alike_once_1), (38, c_tree_Same_1), (39, c_tree_lists_api_Stmt), (40, c_tree_statements), (41, c_tree_Same_2), (42, c_tree_expressions), (43, c_tree_lists_api_Proc), (44, c_tree_lists_api_Oracle), (45, c_bdisk_New), (46, c_slices_Clone_api_Sector_api_Sector), (48, c_layout_Inode), (49, c_pbdisk_Disk_Safe), (50, c_look_Mounted), (51, c_pbdisk_Disk_none), (52, c_psfs_FS_Disk), (54, c_pinterp_machine_block), (55, c_tree_Count), (56, c_slices_Clone_api_Event_api_Event), (57, c_slices_Clone_api_Tag_api_Tag), (59, c_tree_All), (60, c_bound_Steps), (61, c_campaign_Right_1), (62, c_mutants_met_fresh), (63, c_site_Sites), (64, c_mutants_met_of), (65, c_slices_EqualFunc_api_Stmt_api_Stmt_api_Stmt_api_Stmt), (67, c_slices_EqualFunc_api_Proc_api_Proc_api_Proc_api_Proc), (68, c_slices_EqualFunc_api_Oracle_api_Oracle_api_Oracle_api_Oracle), (69, c_sector_Of), (70, c_layout_RightInode), (71, c_pbdisk_Disk_Read), (72, c_layout_Mounts), (73, c_psfs_FS_none), (74, c_pinterp_machine_block_1), (75, c_pinterp_machine_stmt), (76, c_tree_walk), (77, c_tree_Right), (80, c_tree_parts), (81, c_tree_cloned), (82, c_bound_fine), (83, c_bound_known_steps), (84, c_print_Program), (85, c_site_parts), (86, c_site_each), (87, c_site_Sites_1), (88, c_site_Sites_2), (89, c_site_fits), (91, c_sector_Put), (99, c_pbdisk_Disk_has), (100, c_slices_Backward_api_Write_api_Write), (101, c_layout_InodeOf), (102, c_pinterp_machine_take), (103, c_pinterp_machine_eval), (108, c_pinterp_machine_note), (109, c_pinterp_machine_stmt_1), (110, c_pinterp_machine_file), (111, c_tree_walk_1), (112, c_tree_Right_1), (113, c_lex_Name), (114, c_tree_Right_2), (115, c_tree_expr), (116, c_tree_Right_3), (117, c_tree_block), (118, c_slices_ContainsFunc_api_Proc_api_Proc), (119, c_slices_ContainsFunc_api_Oracle_api_Oracle), (120, c_slices_ContainsFunc_api_Stmt_api_Stmt), (121, c_ptypes_checker_exprs), (123, c_tree_each_api_Expr), (124, c_tree_clonedExpr), (125, c_tree_each_api_Stmt), (126, c_pprint_printer_add), (127, c_pprint_printer_block), (130, c_site_each_1), (131, c_site_each_2), (132, c_site_writes), (133, c_site_torn), (134, c_site_Fits), (135, c_tree_Clone), (138, c_sector_fits), (142, c_slices_Backward_api_Write_api_Write_1), (162, c_flush_Barrier), (169, c_slices_ContainsFunc_api_Expr_api_Expr), (171, c_slices_ContainsFunc_api_Stmt_api_Stmt_x), (172, c_tree_block_1), (173, c_tree_stmt), (174, c_slices_IndexFunc_api_Proc_api_Proc), (175, c_slices_IndexFunc_api_Oracle_api_Oracle), (176, c_slices_IndexFunc_api_Stmt_api_Stmt), (182, c_pprint_printer_stmt), (188, c_site_lead), (189, c_tree_each_api_Proc), (190, c_tree_Clone_1), (191, c_tree_each_api_Oracle), (238, c_pbdisk_Disk_Barrier), (243, c_slices_IndexFunc_api_Expr_api_Expr), (244, c_slices_IndexFunc_api_Stmt_api_Stmt_x), (245, c_tree_shape), (253, c_print_key), (254, c_pprint_printer_exprs), (257, c_site_may), (301, c_pbdisk_faults_fails), (302, c_pbdisk_Disk_note), (305, c_tree_Exprs), (306, c_tree_blocks), (307, c_tree_shape_1), (3000011, c_trace_Of_w), (3000029, c_pbdisk_Disk_Fail_w), (3000030, c_interp_Run_w), (3000053, c_interp_learn_w), (3000058, c_types_Check_w), (3000079, c_ptypes_checker_block_w), (3000081, c_tree_cloned_w), (3000090, c_rewrite_Apply_w), (3000123, c_tree_each_api_Expr_w), (3000124, c_tree_clonedExpr_w), (3000125, c_tree_each_api_Stmt_w), (3000135, c_tree_Clone_w), (3000136, c_rewrite_along_w), (3000137, c_rewrite_by_w), (3000189, c_tree_each_api_Proc_w), (3000190, c_tree_Clone_1_w), (3000191, c_tree_each_api_Oracle_w), (3000198, c_rewrite_by_4_w), (3000199, c_slices_Delete_api_Stmt_api_Stmt_w), (2005500, ⟨0, .seq a_tree_Count_0 y_tree_Count_0, []⟩), (2005900, ⟨0, .seq a_tree_All_0 y_tree_All_0, []⟩), (2007100, ⟨0, .seq a_pbdisk_Disk_Read_0 y_pbdisk_Disk_Read_0, []⟩), (2011100, ⟨0, .seq a_tree_walk_1_0 y_tree_walk_1_0, []⟩)]

theorem t_flotsamlaw41_AlikeSame : tbl n_flotsamlaw41_AlikeSame = some c_flotsamlaw41_AlikeSame := by kernel_rfl
theorem t_flotsamlaw06_Log : tbl n_flotsamlaw06_Log = some c_flotsamlaw06_Log := by kernel_rfl
theorem t_flotsamlaw41_knows : tbl n_flotsamlaw41_knows = some c_flotsamlaw41_knows := by kernel_rfl
theorem t_alike_Same : tbl n_alike_Same = some c_alike_Same := by kernel_rfl
theorem t_flotsamlaw24_Trace : tbl n_flotsamlaw24_Trace = some c_flotsamlaw24_Trace := by kernel_rfl
theorem t_flotsamref41_Same : tbl n_flotsamref41_Same = some c_flotsamref41_Same := by kernel_rfl
theorem t_alike_Classes : tbl n_alike_Classes = some c_alike_Classes := by kernel_rfl
theorem t_alike_Idle : tbl n_alike_Idle = some c_alike_Idle := by kernel_rfl
theorem t_flotsamlaw41_num : tbl n_flotsamlaw41_num = some c_flotsamlaw41_num := by kernel_rfl
theorem t_flotsamlaw04_Ints : tbl n_flotsamlaw04_Ints = some c_flotsamlaw04_Ints := by kernel_rfl
theorem t_alike_Alike : tbl n_alike_Alike = some c_alike_Alike := by kernel_rfl
theorem t_alike_Same_1 : tbl n_alike_Same_1 = some c_alike_Same_1 := by kernel_rfl
theorem t_slices_EqualFunc_api_Event_api_Event_api_Event_api_Event : tbl n_slices_EqualFunc_api_Event_api_Event_api_Event_api_Event = some c_slices_EqualFunc_api_Event_api_Event_api_Event_api_Event := by kernel_rfl
theorem t_alike_event : tbl n_alike_event = some c_alike_event := by kernel_rfl
theorem t_flotsamref05_Events : tbl n_flotsamref05_Events = some c_flotsamref05_Events := by kernel_rfl
theorem t_alike_all : tbl n_alike_all = some c_alike_all := by kernel_rfl
theorem t_alike_once : tbl n_alike_once = some c_alike_once := by kernel_rfl
theorem t_alike_Classes_1 : tbl n_alike_Classes_1 = some c_alike_Classes_1 := by kernel_rfl
theorem t_slices_IndexFunc_mutants_Mutant_mutants_Mutant : tbl n_slices_IndexFunc_mutants_Mutant_mutants_Mutant = some c_slices_IndexFunc_mutants_Mutant_mutants_Mutant := by kernel_rfl
theorem t_alike_Classes_2 : tbl n_alike_Classes_2 = some c_alike_Classes_2 := by kernel_rfl
theorem t_tree_Same : tbl n_tree_Same = some c_tree_Same := by kernel_rfl
theorem t_alike_rest : tbl n_alike_rest = some c_alike_rest := by kernel_rfl
theorem t_bdisk_From : tbl n_bdisk_From = some c_bdisk_From := by kernel_rfl
theorem t_layout_Empty : tbl n_layout_Empty = some c_layout_Empty := by kernel_rfl
theorem t_sfs_Mount : tbl n_sfs_Mount = some c_sfs_Mount := by kernel_rfl
theorem t_pbdisk_Disk_Log : tbl n_pbdisk_Disk_Log = some c_pbdisk_Disk_Log := by kernel_rfl
theorem t_bound_Check : tbl n_bound_Check = some c_bound_Check := by kernel_rfl
theorem t_slices_Equal_api_Tag_api_Tag : tbl n_slices_Equal_api_Tag_api_Tag = some c_slices_Equal_api_Tag_api_Tag := by kernel_rfl
theorem t_flotsamref05_Tags : tbl n_flotsamref05_Tags = some c_flotsamref05_Tags := by kernel_rfl
theorem t_campaign_Right : tbl n_campaign_Right = some c_campaign_Right := by kernel_rfl
theorem t_mutants_All : tbl n_mutants_All = some c_mutants_All := by kernel_rfl
theorem t_alike_once_1 : tbl n_alike_once_1 = some c_alike_once_1 := by kernel_rfl
theorem t_tree_Same_1 : tbl n_tree_Same_1 = some c_tree_Same_1 := by kernel_rfl
theorem t_tree_lists_api_Stmt : tbl n_tree_lists_api_Stmt = some c_tree_lists_api_Stmt := by kernel_rfl
theorem t_tree_statements : tbl n_tree_statements = some c_tree_statements := by kernel_rfl
theorem t_tree_Same_2 : tbl n_tree_Same_2 = some c_tree_Same_2 := by kernel_rfl
theorem t_tree_expressions : tbl n_tree_expressions = some c_tree_expressions := by kernel_rfl
theorem t_tree_lists_api_Proc : tbl n_tree_lists_api_Proc = some c_tree_lists_api_Proc := by kernel_rfl
theorem t_tree_lists_api_Oracle : tbl n_tree_lists_api_Oracle = some c_tree_lists_api_Oracle := by kernel_rfl
theorem t_bdisk_New : tbl n_bdisk_New = some c_bdisk_New := by kernel_rfl
theorem t_slices_Clone_api_Sector_api_Sector : tbl n_slices_Clone_api_Sector_api_Sector = some c_slices_Clone_api_Sector_api_Sector := by kernel_rfl
theorem t_layout_Inode : tbl n_layout_Inode = some c_layout_Inode := by kernel_rfl
theorem t_pbdisk_Disk_Safe : tbl n_pbdisk_Disk_Safe = some c_pbdisk_Disk_Safe := by kernel_rfl
theorem t_look_Mounted : tbl n_look_Mounted = some c_look_Mounted := by kernel_rfl
theorem t_pbdisk_Disk_none : tbl n_pbdisk_Disk_none = some c_pbdisk_Disk_none := by kernel_rfl
theorem t_psfs_FS_Disk : tbl n_psfs_FS_Disk = some c_psfs_FS_Disk := by kernel_rfl
theorem t_pinterp_machine_block : tbl n_pinterp_machine_block = some c_pinterp_machine_block := by kernel_rfl
theorem t_tree_Count : tbl n_tree_Count = some c_tree_Count := by kernel_rfl
theorem t_slices_Clone_api_Event_api_Event : tbl n_slices_Clone_api_Event_api_Event = some c_slices_Clone_api_Event_api_Event := by kernel_rfl
theorem t_slices_Clone_api_Tag_api_Tag : tbl n_slices_Clone_api_Tag_api_Tag = some c_slices_Clone_api_Tag_api_Tag := by kernel_rfl
theorem t_tree_All : tbl n_tree_All = some c_tree_All := by kernel_rfl
theorem t_bound_Steps : tbl n_bound_Steps = some c_bound_Steps := by kernel_rfl
theorem t_campaign_Right_1 : tbl n_campaign_Right_1 = some c_campaign_Right_1 := by kernel_rfl
theorem t_mutants_met_fresh : tbl n_mutants_met_fresh = some c_mutants_met_fresh := by kernel_rfl
theorem t_site_Sites : tbl n_site_Sites = some c_site_Sites := by kernel_rfl
theorem t_mutants_met_of : tbl n_mutants_met_of = some c_mutants_met_of := by kernel_rfl
theorem t_slices_EqualFunc_api_Stmt_api_Stmt_api_Stmt_api_Stmt : tbl n_slices_EqualFunc_api_Stmt_api_Stmt_api_Stmt_api_Stmt = some c_slices_EqualFunc_api_Stmt_api_Stmt_api_Stmt_api_Stmt := by kernel_rfl
theorem t_slices_EqualFunc_api_Proc_api_Proc_api_Proc_api_Proc : tbl n_slices_EqualFunc_api_Proc_api_Proc_api_Proc_api_Proc = some c_slices_EqualFunc_api_Proc_api_Proc_api_Proc_api_Proc := by kernel_rfl
theorem t_slices_EqualFunc_api_Oracle_api_Oracle_api_Oracle_api_Oracle : tbl n_slices_EqualFunc_api_Oracle_api_Oracle_api_Oracle_api_Oracle = some c_slices_EqualFunc_api_Oracle_api_Oracle_api_Oracle_api_Oracle := by kernel_rfl
theorem t_sector_Of : tbl n_sector_Of = some c_sector_Of := by kernel_rfl
theorem t_layout_RightInode : tbl n_layout_RightInode = some c_layout_RightInode := by kernel_rfl
theorem t_pbdisk_Disk_Read : tbl n_pbdisk_Disk_Read = some c_pbdisk_Disk_Read := by kernel_rfl
theorem t_layout_Mounts : tbl n_layout_Mounts = some c_layout_Mounts := by kernel_rfl
theorem t_psfs_FS_none : tbl n_psfs_FS_none = some c_psfs_FS_none := by kernel_rfl
theorem t_pinterp_machine_block_1 : tbl n_pinterp_machine_block_1 = some c_pinterp_machine_block_1 := by kernel_rfl
theorem t_pinterp_machine_stmt : tbl n_pinterp_machine_stmt = some c_pinterp_machine_stmt := by kernel_rfl
theorem t_tree_walk : tbl n_tree_walk = some c_tree_walk := by kernel_rfl
theorem t_tree_Right : tbl n_tree_Right = some c_tree_Right := by kernel_rfl
theorem t_tree_parts : tbl n_tree_parts = some c_tree_parts := by kernel_rfl
theorem t_tree_cloned : tbl n_tree_cloned = some c_tree_cloned := by kernel_rfl
theorem t_bound_fine : tbl n_bound_fine = some c_bound_fine := by kernel_rfl
theorem t_bound_known_steps : tbl n_bound_known_steps = some c_bound_known_steps := by kernel_rfl
theorem t_print_Program : tbl n_print_Program = some c_print_Program := by kernel_rfl
theorem t_site_parts : tbl n_site_parts = some c_site_parts := by kernel_rfl
theorem t_site_each : tbl n_site_each = some c_site_each := by kernel_rfl
theorem t_site_Sites_1 : tbl n_site_Sites_1 = some c_site_Sites_1 := by kernel_rfl
theorem t_site_Sites_2 : tbl n_site_Sites_2 = some c_site_Sites_2 := by kernel_rfl
theorem t_site_fits : tbl n_site_fits = some c_site_fits := by kernel_rfl
theorem t_sector_Put : tbl n_sector_Put = some c_sector_Put := by kernel_rfl
theorem t_pbdisk_Disk_has : tbl n_pbdisk_Disk_has = some c_pbdisk_Disk_has := by kernel_rfl
theorem t_slices_Backward_api_Write_api_Write : tbl n_slices_Backward_api_Write_api_Write = some c_slices_Backward_api_Write_api_Write := by kernel_rfl
theorem t_layout_InodeOf : tbl n_layout_InodeOf = some c_layout_InodeOf := by kernel_rfl
theorem t_pinterp_machine_take : tbl n_pinterp_machine_take = some c_pinterp_machine_take := by kernel_rfl
theorem t_pinterp_machine_eval : tbl n_pinterp_machine_eval = some c_pinterp_machine_eval := by kernel_rfl
theorem t_pinterp_machine_note : tbl n_pinterp_machine_note = some c_pinterp_machine_note := by kernel_rfl
theorem t_pinterp_machine_stmt_1 : tbl n_pinterp_machine_stmt_1 = some c_pinterp_machine_stmt_1 := by kernel_rfl
theorem t_pinterp_machine_file : tbl n_pinterp_machine_file = some c_pinterp_machine_file := by kernel_rfl
theorem t_tree_walk_1 : tbl n_tree_walk_1 = some c_tree_walk_1 := by kernel_rfl
theorem t_tree_Right_1 : tbl n_tree_Right_1 = some c_tree_Right_1 := by kernel_rfl
theorem t_lex_Name : tbl n_lex_Name = some c_lex_Name := by kernel_rfl
theorem t_tree_Right_2 : tbl n_tree_Right_2 = some c_tree_Right_2 := by kernel_rfl
theorem t_tree_expr : tbl n_tree_expr = some c_tree_expr := by kernel_rfl
theorem t_tree_Right_3 : tbl n_tree_Right_3 = some c_tree_Right_3 := by kernel_rfl
theorem t_tree_block : tbl n_tree_block = some c_tree_block := by kernel_rfl
theorem t_slices_ContainsFunc_api_Proc_api_Proc : tbl n_slices_ContainsFunc_api_Proc_api_Proc = some c_slices_ContainsFunc_api_Proc_api_Proc := by kernel_rfl
theorem t_slices_ContainsFunc_api_Oracle_api_Oracle : tbl n_slices_ContainsFunc_api_Oracle_api_Oracle = some c_slices_ContainsFunc_api_Oracle_api_Oracle := by kernel_rfl
theorem t_slices_ContainsFunc_api_Stmt_api_Stmt : tbl n_slices_ContainsFunc_api_Stmt_api_Stmt = some c_slices_ContainsFunc_api_Stmt_api_Stmt := by kernel_rfl
theorem t_ptypes_checker_exprs : tbl n_ptypes_checker_exprs = some c_ptypes_checker_exprs := by kernel_rfl
theorem t_tree_each_api_Expr : tbl n_tree_each_api_Expr = some c_tree_each_api_Expr := by kernel_rfl
theorem t_tree_clonedExpr : tbl n_tree_clonedExpr = some c_tree_clonedExpr := by kernel_rfl
theorem t_tree_each_api_Stmt : tbl n_tree_each_api_Stmt = some c_tree_each_api_Stmt := by kernel_rfl
theorem t_pprint_printer_add : tbl n_pprint_printer_add = some c_pprint_printer_add := by kernel_rfl
theorem t_pprint_printer_block : tbl n_pprint_printer_block = some c_pprint_printer_block := by kernel_rfl
theorem t_site_each_1 : tbl n_site_each_1 = some c_site_each_1 := by kernel_rfl
theorem t_site_each_2 : tbl n_site_each_2 = some c_site_each_2 := by kernel_rfl
theorem t_site_writes : tbl n_site_writes = some c_site_writes := by kernel_rfl
theorem t_site_torn : tbl n_site_torn = some c_site_torn := by kernel_rfl
theorem t_site_Fits : tbl n_site_Fits = some c_site_Fits := by kernel_rfl
theorem t_tree_Clone : tbl n_tree_Clone = some c_tree_Clone := by kernel_rfl
theorem t_sector_fits : tbl n_sector_fits = some c_sector_fits := by kernel_rfl
theorem t_slices_Backward_api_Write_api_Write_1 : tbl n_slices_Backward_api_Write_api_Write_1 = some c_slices_Backward_api_Write_api_Write_1 := by kernel_rfl
theorem t_flush_Barrier : tbl n_flush_Barrier = some c_flush_Barrier := by kernel_rfl
theorem t_slices_ContainsFunc_api_Expr_api_Expr : tbl n_slices_ContainsFunc_api_Expr_api_Expr = some c_slices_ContainsFunc_api_Expr_api_Expr := by kernel_rfl
theorem t_slices_ContainsFunc_api_Stmt_api_Stmt_x : tbl n_slices_ContainsFunc_api_Stmt_api_Stmt_x = some c_slices_ContainsFunc_api_Stmt_api_Stmt_x := by kernel_rfl
theorem t_tree_block_1 : tbl n_tree_block_1 = some c_tree_block_1 := by kernel_rfl
theorem t_tree_stmt : tbl n_tree_stmt = some c_tree_stmt := by kernel_rfl
theorem t_slices_IndexFunc_api_Proc_api_Proc : tbl n_slices_IndexFunc_api_Proc_api_Proc = some c_slices_IndexFunc_api_Proc_api_Proc := by kernel_rfl
theorem t_slices_IndexFunc_api_Oracle_api_Oracle : tbl n_slices_IndexFunc_api_Oracle_api_Oracle = some c_slices_IndexFunc_api_Oracle_api_Oracle := by kernel_rfl
theorem t_slices_IndexFunc_api_Stmt_api_Stmt : tbl n_slices_IndexFunc_api_Stmt_api_Stmt = some c_slices_IndexFunc_api_Stmt_api_Stmt := by kernel_rfl
theorem t_pprint_printer_stmt : tbl n_pprint_printer_stmt = some c_pprint_printer_stmt := by kernel_rfl
theorem t_site_lead : tbl n_site_lead = some c_site_lead := by kernel_rfl
theorem t_tree_each_api_Proc : tbl n_tree_each_api_Proc = some c_tree_each_api_Proc := by kernel_rfl
theorem t_tree_Clone_1 : tbl n_tree_Clone_1 = some c_tree_Clone_1 := by kernel_rfl
theorem t_tree_each_api_Oracle : tbl n_tree_each_api_Oracle = some c_tree_each_api_Oracle := by kernel_rfl
theorem t_pbdisk_Disk_Barrier : tbl n_pbdisk_Disk_Barrier = some c_pbdisk_Disk_Barrier := by kernel_rfl
theorem t_slices_IndexFunc_api_Expr_api_Expr : tbl n_slices_IndexFunc_api_Expr_api_Expr = some c_slices_IndexFunc_api_Expr_api_Expr := by kernel_rfl
theorem t_slices_IndexFunc_api_Stmt_api_Stmt_x : tbl n_slices_IndexFunc_api_Stmt_api_Stmt_x = some c_slices_IndexFunc_api_Stmt_api_Stmt_x := by kernel_rfl
theorem t_tree_shape : tbl n_tree_shape = some c_tree_shape := by kernel_rfl
theorem t_print_key : tbl n_print_key = some c_print_key := by kernel_rfl
theorem t_pprint_printer_exprs : tbl n_pprint_printer_exprs = some c_pprint_printer_exprs := by kernel_rfl
theorem t_site_may : tbl n_site_may = some c_site_may := by kernel_rfl
theorem t_pbdisk_faults_fails : tbl n_pbdisk_faults_fails = some c_pbdisk_faults_fails := by kernel_rfl
theorem t_pbdisk_Disk_note : tbl n_pbdisk_Disk_note = some c_pbdisk_Disk_note := by kernel_rfl
theorem t_tree_Exprs : tbl n_tree_Exprs = some c_tree_Exprs := by kernel_rfl
theorem t_tree_blocks : tbl n_tree_blocks = some c_tree_blocks := by kernel_rfl
theorem t_tree_shape_1 : tbl n_tree_shape_1 = some c_tree_shape_1 := by kernel_rfl
theorem tw_trace_Of : tbl (wTab n_trace_Of) = some c_trace_Of_w := by kernel_rfl
theorem tw_pbdisk_Disk_Fail : tbl (wTab n_pbdisk_Disk_Fail) = some c_pbdisk_Disk_Fail_w := by kernel_rfl
theorem tw_interp_Run : tbl (wTab n_interp_Run) = some c_interp_Run_w := by kernel_rfl
theorem tw_interp_learn : tbl (wTab n_interp_learn) = some c_interp_learn_w := by kernel_rfl
theorem tw_types_Check : tbl (wTab n_types_Check) = some c_types_Check_w := by kernel_rfl
theorem tw_ptypes_checker_block : tbl (wTab n_ptypes_checker_block) = some c_ptypes_checker_block_w := by kernel_rfl
theorem tw_tree_cloned : tbl (wTab n_tree_cloned) = some c_tree_cloned_w := by kernel_rfl
theorem tw_rewrite_Apply : tbl (wTab n_rewrite_Apply) = some c_rewrite_Apply_w := by kernel_rfl
theorem tw_tree_each_api_Expr : tbl (wTab n_tree_each_api_Expr) = some c_tree_each_api_Expr_w := by kernel_rfl
theorem tw_tree_clonedExpr : tbl (wTab n_tree_clonedExpr) = some c_tree_clonedExpr_w := by kernel_rfl
theorem tw_tree_each_api_Stmt : tbl (wTab n_tree_each_api_Stmt) = some c_tree_each_api_Stmt_w := by kernel_rfl
theorem tw_tree_Clone : tbl (wTab n_tree_Clone) = some c_tree_Clone_w := by kernel_rfl
theorem tw_rewrite_along : tbl (wTab n_rewrite_along) = some c_rewrite_along_w := by kernel_rfl
theorem tw_rewrite_by : tbl (wTab n_rewrite_by) = some c_rewrite_by_w := by kernel_rfl
theorem tw_tree_each_api_Proc : tbl (wTab n_tree_each_api_Proc) = some c_tree_each_api_Proc_w := by kernel_rfl
theorem tw_tree_Clone_1 : tbl (wTab n_tree_Clone_1) = some c_tree_Clone_1_w := by kernel_rfl
theorem tw_tree_each_api_Oracle : tbl (wTab n_tree_each_api_Oracle) = some c_tree_each_api_Oracle_w := by kernel_rfl
theorem tw_rewrite_by_4 : tbl (wTab n_rewrite_by_4) = some c_rewrite_by_4_w := by kernel_rfl
theorem tw_slices_Delete_api_Stmt_api_Stmt : tbl (wTab n_slices_Delete_api_Stmt_api_Stmt) = some c_slices_Delete_api_Stmt_api_Stmt_w := by kernel_rfl
theorem u_tree_Count_0 : tbl q_tree_Count_0 = some ⟨0, .seq a_tree_Count_0 y_tree_Count_0, []⟩ := by kernel_rfl
theorem u_tree_All_0 : tbl q_tree_All_0 = some ⟨0, .seq a_tree_All_0 y_tree_All_0, []⟩ := by kernel_rfl
theorem u_pbdisk_Disk_Read_0 : tbl q_pbdisk_Disk_Read_0 = some ⟨0, .seq a_pbdisk_Disk_Read_0 y_pbdisk_Disk_Read_0, []⟩ := by kernel_rfl
theorem u_tree_walk_1_0 : tbl q_tree_walk_1_0 = some ⟨0, .seq a_tree_walk_1_0 y_tree_walk_1_0, []⟩ := by kernel_rfl

/-- The functions that are taken as given. -/
def noExt : Ext := fun k => if k = n_strings_Fields then some (xFields) else if k = n_strings_Repeat then some (xRepeat) else if k = n_layout_super then some (xSuper) else if k = n_pstrings_Builder_WriteString then some (xWriteString bT bP bE) else if k = n_pstrings_Builder_String then some (xString bT bP bE) else if k = n_slices_Clone_api_Event_api_Event then some (xOne tbl n_slices_Clone_api_Event_api_Event 38) else if k = n_slices_Clone_api_Tag_api_Tag then some (xOne tbl n_slices_Clone_api_Tag_api_Tag 2) else none

theorem lt_flotsamlaw41_AlikeSame : n_flotsamlaw41_AlikeSame < yBase := Nat.le_of_ble_eq_true rfl
theorem lt_flotsamlaw06_Log : n_flotsamlaw06_Log < yBase := Nat.le_of_ble_eq_true rfl
theorem lt_flotsamlaw41_knows : n_flotsamlaw41_knows < yBase := Nat.le_of_ble_eq_true rfl
theorem lt_alike_Same : n_alike_Same < yBase := Nat.le_of_ble_eq_true rfl
theorem lt_flotsamlaw24_Trace : n_flotsamlaw24_Trace < yBase := Nat.le_of_ble_eq_true rfl
theorem lt_flotsamref41_Same : n_flotsamref41_Same < yBase := Nat.le_of_ble_eq_true rfl
theorem lt_alike_Classes : n_alike_Classes < yBase := Nat.le_of_ble_eq_true rfl
theorem lt_alike_Idle : n_alike_Idle < yBase := Nat.le_of_ble_eq_true rfl
theorem lt_trace_Of : n_trace_Of < yBase := Nat.le_of_ble_eq_true rfl
theorem lt_flotsamlaw41_num : n_flotsamlaw41_num < yBase := Nat.le_of_ble_eq_true rfl
theorem lt_flotsamlaw04_Ints : n_flotsamlaw04_Ints < yBase := Nat.le_of_ble_eq_true rfl
theorem lt_alike_Alike : n_alike_Alike < yBase := Nat.le_of_ble_eq_true rfl
theorem lt_alike_Same_1 : n_alike_Same_1 < yBase := Nat.le_of_ble_eq_true rfl
theorem lt_slices_EqualFunc_api_Event_api_Event_api_Event_api_Event : n_slices_EqualFunc_api_Event_api_Event_api_Event_api_Event < yBase := Nat.le_of_ble_eq_true rfl
theorem lt_alike_event : n_alike_event < yBase := Nat.le_of_ble_eq_true rfl
theorem lt_flotsamref05_Events : n_flotsamref05_Events < yBase := Nat.le_of_ble_eq_true rfl
theorem lt_alike_all : n_alike_all < yBase := Nat.le_of_ble_eq_true rfl
theorem lt_alike_once : n_alike_once < yBase := Nat.le_of_ble_eq_true rfl
theorem lt_alike_Classes_1 : n_alike_Classes_1 < yBase := Nat.le_of_ble_eq_true rfl
theorem lt_slices_IndexFunc_mutants_Mutant_mutants_Mutant : n_slices_IndexFunc_mutants_Mutant_mutants_Mutant < yBase := Nat.le_of_ble_eq_true rfl
theorem lt_alike_Classes_2 : n_alike_Classes_2 < yBase := Nat.le_of_ble_eq_true rfl
theorem lt_tree_Same : n_tree_Same < yBase := Nat.le_of_ble_eq_true rfl
theorem lt_alike_rest : n_alike_rest < yBase := Nat.le_of_ble_eq_true rfl
theorem lt_bdisk_From : n_bdisk_From < yBase := Nat.le_of_ble_eq_true rfl
theorem lt_layout_Empty : n_layout_Empty < yBase := Nat.le_of_ble_eq_true rfl
theorem lt_sfs_Mount : n_sfs_Mount < yBase := Nat.le_of_ble_eq_true rfl
theorem lt_pbdisk_Disk_Fail : n_pbdisk_Disk_Fail < yBase := Nat.le_of_ble_eq_true rfl
theorem lt_interp_Run : n_interp_Run < yBase := Nat.le_of_ble_eq_true rfl
theorem lt_pbdisk_Disk_Log : n_pbdisk_Disk_Log < yBase := Nat.le_of_ble_eq_true rfl
theorem lt_bound_Check : n_bound_Check < yBase := Nat.le_of_ble_eq_true rfl
theorem lt_slices_Equal_api_Tag_api_Tag : n_slices_Equal_api_Tag_api_Tag < yBase := Nat.le_of_ble_eq_true rfl
theorem lt_flotsamref05_Tags : n_flotsamref05_Tags < yBase := Nat.le_of_ble_eq_true rfl
theorem lt_campaign_Right : n_campaign_Right < yBase := Nat.le_of_ble_eq_true rfl
theorem lt_mutants_All : n_mutants_All < yBase := Nat.le_of_ble_eq_true rfl
theorem lt_alike_once_1 : n_alike_once_1 < yBase := Nat.le_of_ble_eq_true rfl
theorem lt_tree_Same_1 : n_tree_Same_1 < yBase := Nat.le_of_ble_eq_true rfl
theorem lt_tree_lists_api_Stmt : n_tree_lists_api_Stmt < yBase := Nat.le_of_ble_eq_true rfl
theorem lt_tree_statements : n_tree_statements < yBase := Nat.le_of_ble_eq_true rfl
theorem lt_tree_Same_2 : n_tree_Same_2 < yBase := Nat.le_of_ble_eq_true rfl
theorem lt_tree_expressions : n_tree_expressions < yBase := Nat.le_of_ble_eq_true rfl
theorem lt_tree_lists_api_Proc : n_tree_lists_api_Proc < yBase := Nat.le_of_ble_eq_true rfl
theorem lt_tree_lists_api_Oracle : n_tree_lists_api_Oracle < yBase := Nat.le_of_ble_eq_true rfl
theorem lt_bdisk_New : n_bdisk_New < yBase := Nat.le_of_ble_eq_true rfl
theorem lt_slices_Clone_api_Sector_api_Sector : n_slices_Clone_api_Sector_api_Sector < yBase := Nat.le_of_ble_eq_true rfl
theorem lt_layout_super : n_layout_super < yBase := Nat.le_of_ble_eq_true rfl
theorem lt_layout_Inode : n_layout_Inode < yBase := Nat.le_of_ble_eq_true rfl
theorem lt_pbdisk_Disk_Safe : n_pbdisk_Disk_Safe < yBase := Nat.le_of_ble_eq_true rfl
theorem lt_look_Mounted : n_look_Mounted < yBase := Nat.le_of_ble_eq_true rfl
theorem lt_pbdisk_Disk_none : n_pbdisk_Disk_none < yBase := Nat.le_of_ble_eq_true rfl
theorem lt_psfs_FS_Disk : n_psfs_FS_Disk < yBase := Nat.le_of_ble_eq_true rfl
theorem lt_interp_learn : n_interp_learn < yBase := Nat.le_of_ble_eq_true rfl
theorem lt_pinterp_machine_block : n_pinterp_machine_block < yBase := Nat.le_of_ble_eq_true rfl
theorem lt_tree_Count : n_tree_Count < yBase := Nat.le_of_ble_eq_true rfl
theorem lt_slices_Clone_api_Event_api_Event : n_slices_Clone_api_Event_api_Event < yBase := Nat.le_of_ble_eq_true rfl
theorem lt_slices_Clone_api_Tag_api_Tag : n_slices_Clone_api_Tag_api_Tag < yBase := Nat.le_of_ble_eq_true rfl
theorem lt_types_Check : n_types_Check < yBase := Nat.le_of_ble_eq_true rfl
theorem lt_tree_All : n_tree_All < yBase := Nat.le_of_ble_eq_true rfl
theorem lt_bound_Steps : n_bound_Steps < yBase := Nat.le_of_ble_eq_true rfl
theorem lt_campaign_Right_1 : n_campaign_Right_1 < yBase := Nat.le_of_ble_eq_true rfl
theorem lt_mutants_met_fresh : n_mutants_met_fresh < yBase := Nat.le_of_ble_eq_true rfl
theorem lt_site_Sites : n_site_Sites < yBase := Nat.le_of_ble_eq_true rfl
theorem lt_mutants_met_of : n_mutants_met_of < yBase := Nat.le_of_ble_eq_true rfl
theorem lt_slices_EqualFunc_api_Stmt_api_Stmt_api_Stmt_api_Stmt : n_slices_EqualFunc_api_Stmt_api_Stmt_api_Stmt_api_Stmt < yBase := Nat.le_of_ble_eq_true rfl
theorem lt_slices_EqualFunc_api_Proc_api_Proc_api_Proc_api_Proc : n_slices_EqualFunc_api_Proc_api_Proc_api_Proc_api_Proc < yBase := Nat.le_of_ble_eq_true rfl
theorem lt_slices_EqualFunc_api_Oracle_api_Oracle_api_Oracle_api_Oracle : n_slices_EqualFunc_api_Oracle_api_Oracle_api_Oracle_api_Oracle < yBase := Nat.le_of_ble_eq_true rfl
theorem lt_sector_Of : n_sector_Of < yBase := Nat.le_of_ble_eq_true rfl
theorem lt_layout_RightInode : n_layout_RightInode < yBase := Nat.le_of_ble_eq_true rfl
theorem lt_pbdisk_Disk_Read : n_pbdisk_Disk_Read < yBase := Nat.le_of_ble_eq_true rfl
theorem lt_layout_Mounts : n_layout_Mounts < yBase := Nat.le_of_ble_eq_true rfl
theorem lt_psfs_FS_none : n_psfs_FS_none < yBase := Nat.le_of_ble_eq_true rfl
theorem lt_pinterp_machine_block_1 : n_pinterp_machine_block_1 < yBase := Nat.le_of_ble_eq_true rfl
theorem lt_pinterp_machine_stmt : n_pinterp_machine_stmt < yBase := Nat.le_of_ble_eq_true rfl
theorem lt_tree_walk : n_tree_walk < yBase := Nat.le_of_ble_eq_true rfl
theorem lt_tree_Right : n_tree_Right < yBase := Nat.le_of_ble_eq_true rfl
theorem lt_ptypes_checker_block : n_ptypes_checker_block < yBase := Nat.le_of_ble_eq_true rfl
theorem lt_tree_parts : n_tree_parts < yBase := Nat.le_of_ble_eq_true rfl
theorem lt_tree_cloned : n_tree_cloned < yBase := Nat.le_of_ble_eq_true rfl
theorem lt_bound_fine : n_bound_fine < yBase := Nat.le_of_ble_eq_true rfl
theorem lt_bound_known_steps : n_bound_known_steps < yBase := Nat.le_of_ble_eq_true rfl
theorem lt_print_Program : n_print_Program < yBase := Nat.le_of_ble_eq_true rfl
theorem lt_site_parts : n_site_parts < yBase := Nat.le_of_ble_eq_true rfl
theorem lt_site_each : n_site_each < yBase := Nat.le_of_ble_eq_true rfl
theorem lt_site_Sites_1 : n_site_Sites_1 < yBase := Nat.le_of_ble_eq_true rfl
theorem lt_site_Sites_2 : n_site_Sites_2 < yBase := Nat.le_of_ble_eq_true rfl
theorem lt_site_fits : n_site_fits < yBase := Nat.le_of_ble_eq_true rfl
theorem lt_rewrite_Apply : n_rewrite_Apply < yBase := Nat.le_of_ble_eq_true rfl
theorem lt_sector_Put : n_sector_Put < yBase := Nat.le_of_ble_eq_true rfl
theorem lt_pbdisk_Disk_has : n_pbdisk_Disk_has < yBase := Nat.le_of_ble_eq_true rfl
theorem lt_slices_Backward_api_Write_api_Write : n_slices_Backward_api_Write_api_Write < yBase := Nat.le_of_ble_eq_true rfl
theorem lt_layout_InodeOf : n_layout_InodeOf < yBase := Nat.le_of_ble_eq_true rfl
theorem lt_pinterp_machine_take : n_pinterp_machine_take < yBase := Nat.le_of_ble_eq_true rfl
theorem lt_pinterp_machine_eval : n_pinterp_machine_eval < yBase := Nat.le_of_ble_eq_true rfl
theorem lt_pinterp_machine_note : n_pinterp_machine_note < yBase := Nat.le_of_ble_eq_true rfl
theorem lt_pinterp_machine_stmt_1 : n_pinterp_machine_stmt_1 < yBase := Nat.le_of_ble_eq_true rfl
theorem lt_pinterp_machine_file : n_pinterp_machine_file < yBase := Nat.le_of_ble_eq_true rfl
theorem lt_tree_walk_1 : n_tree_walk_1 < yBase := Nat.le_of_ble_eq_true rfl
theorem lt_tree_Right_1 : n_tree_Right_1 < yBase := Nat.le_of_ble_eq_true rfl
theorem lt_lex_Name : n_lex_Name < yBase := Nat.le_of_ble_eq_true rfl
theorem lt_tree_Right_2 : n_tree_Right_2 < yBase := Nat.le_of_ble_eq_true rfl
theorem lt_tree_expr : n_tree_expr < yBase := Nat.le_of_ble_eq_true rfl
theorem lt_tree_Right_3 : n_tree_Right_3 < yBase := Nat.le_of_ble_eq_true rfl
theorem lt_tree_block : n_tree_block < yBase := Nat.le_of_ble_eq_true rfl
theorem lt_slices_ContainsFunc_api_Proc_api_Proc : n_slices_ContainsFunc_api_Proc_api_Proc < yBase := Nat.le_of_ble_eq_true rfl
theorem lt_slices_ContainsFunc_api_Oracle_api_Oracle : n_slices_ContainsFunc_api_Oracle_api_Oracle < yBase := Nat.le_of_ble_eq_true rfl
theorem lt_slices_ContainsFunc_api_Stmt_api_Stmt : n_slices_ContainsFunc_api_Stmt_api_Stmt < yBase := Nat.le_of_ble_eq_true rfl
theorem lt_ptypes_checker_exprs : n_ptypes_checker_exprs < yBase := Nat.le_of_ble_eq_true rfl
theorem lt_tree_each_api_Expr : n_tree_each_api_Expr < yBase := Nat.le_of_ble_eq_true rfl
theorem lt_tree_clonedExpr : n_tree_clonedExpr < yBase := Nat.le_of_ble_eq_true rfl
theorem lt_tree_each_api_Stmt : n_tree_each_api_Stmt < yBase := Nat.le_of_ble_eq_true rfl
theorem lt_pprint_printer_add : n_pprint_printer_add < yBase := Nat.le_of_ble_eq_true rfl
theorem lt_pprint_printer_block : n_pprint_printer_block < yBase := Nat.le_of_ble_eq_true rfl
theorem lt_pstrings_Builder_String : n_pstrings_Builder_String < yBase := Nat.le_of_ble_eq_true rfl
theorem lt_site_each_1 : n_site_each_1 < yBase := Nat.le_of_ble_eq_true rfl
theorem lt_site_each_2 : n_site_each_2 < yBase := Nat.le_of_ble_eq_true rfl
theorem lt_site_writes : n_site_writes < yBase := Nat.le_of_ble_eq_true rfl
theorem lt_site_torn : n_site_torn < yBase := Nat.le_of_ble_eq_true rfl
theorem lt_site_Fits : n_site_Fits < yBase := Nat.le_of_ble_eq_true rfl
theorem lt_tree_Clone : n_tree_Clone < yBase := Nat.le_of_ble_eq_true rfl
theorem lt_rewrite_along : n_rewrite_along < yBase := Nat.le_of_ble_eq_true rfl
theorem lt_rewrite_by : n_rewrite_by < yBase := Nat.le_of_ble_eq_true rfl
theorem lt_sector_fits : n_sector_fits < yBase := Nat.le_of_ble_eq_true rfl
theorem lt_slices_Backward_api_Write_api_Write_1 : n_slices_Backward_api_Write_api_Write_1 < yBase := Nat.le_of_ble_eq_true rfl
theorem lt_flush_Barrier : n_flush_Barrier < yBase := Nat.le_of_ble_eq_true rfl
theorem lt_slices_ContainsFunc_api_Expr_api_Expr : n_slices_ContainsFunc_api_Expr_api_Expr < yBase := Nat.le_of_ble_eq_true rfl
theorem lt_slices_ContainsFunc_api_Stmt_api_Stmt_x : n_slices_ContainsFunc_api_Stmt_api_Stmt_x < yBase := Nat.le_of_ble_eq_true rfl
theorem lt_tree_block_1 : n_tree_block_1 < yBase := Nat.le_of_ble_eq_true rfl
theorem lt_tree_stmt : n_tree_stmt < yBase := Nat.le_of_ble_eq_true rfl
theorem lt_slices_IndexFunc_api_Proc_api_Proc : n_slices_IndexFunc_api_Proc_api_Proc < yBase := Nat.le_of_ble_eq_true rfl
theorem lt_slices_IndexFunc_api_Oracle_api_Oracle : n_slices_IndexFunc_api_Oracle_api_Oracle < yBase := Nat.le_of_ble_eq_true rfl
theorem lt_slices_IndexFunc_api_Stmt_api_Stmt : n_slices_IndexFunc_api_Stmt_api_Stmt < yBase := Nat.le_of_ble_eq_true rfl
theorem lt_pstrings_Builder_WriteString : n_pstrings_Builder_WriteString < yBase := Nat.le_of_ble_eq_true rfl
theorem lt_strings_Repeat : n_strings_Repeat < yBase := Nat.le_of_ble_eq_true rfl
theorem lt_pprint_printer_stmt : n_pprint_printer_stmt < yBase := Nat.le_of_ble_eq_true rfl
theorem lt_site_lead : n_site_lead < yBase := Nat.le_of_ble_eq_true rfl
theorem lt_tree_each_api_Proc : n_tree_each_api_Proc < yBase := Nat.le_of_ble_eq_true rfl
theorem lt_tree_Clone_1 : n_tree_Clone_1 < yBase := Nat.le_of_ble_eq_true rfl
theorem lt_tree_each_api_Oracle : n_tree_each_api_Oracle < yBase := Nat.le_of_ble_eq_true rfl
theorem lt_tree_Clone_2 : n_tree_Clone_2 < yBase := Nat.le_of_ble_eq_true rfl
theorem lt_rewrite_by_4 : n_rewrite_by_4 < yBase := Nat.le_of_ble_eq_true rfl
theorem lt_slices_Delete_api_Stmt_api_Stmt : n_slices_Delete_api_Stmt_api_Stmt < yBase := Nat.le_of_ble_eq_true rfl
theorem lt_pbdisk_Disk_Barrier : n_pbdisk_Disk_Barrier < yBase := Nat.le_of_ble_eq_true rfl
theorem lt_slices_IndexFunc_api_Expr_api_Expr : n_slices_IndexFunc_api_Expr_api_Expr < yBase := Nat.le_of_ble_eq_true rfl
theorem lt_slices_IndexFunc_api_Stmt_api_Stmt_x : n_slices_IndexFunc_api_Stmt_api_Stmt_x < yBase := Nat.le_of_ble_eq_true rfl
theorem lt_tree_shape : n_tree_shape < yBase := Nat.le_of_ble_eq_true rfl
theorem lt_print_key : n_print_key < yBase := Nat.le_of_ble_eq_true rfl
theorem lt_pprint_printer_exprs : n_pprint_printer_exprs < yBase := Nat.le_of_ble_eq_true rfl
theorem lt_site_may : n_site_may < yBase := Nat.le_of_ble_eq_true rfl
theorem lt_pbdisk_faults_fails : n_pbdisk_faults_fails < yBase := Nat.le_of_ble_eq_true rfl
theorem lt_pbdisk_Disk_note : n_pbdisk_Disk_note < yBase := Nat.le_of_ble_eq_true rfl
theorem lt_tree_Exprs : n_tree_Exprs < yBase := Nat.le_of_ble_eq_true rfl
theorem lt_tree_blocks : n_tree_blocks < yBase := Nat.le_of_ble_eq_true rfl
theorem lt_tree_shape_1 : n_tree_shape_1 < yBase := Nat.le_of_ble_eq_true rfl
theorem lt_strings_Fields : n_strings_Fields < yBase := Nat.le_of_ble_eq_true rfl

end Go.AM
