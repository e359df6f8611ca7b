/-
 The abstract code of the functions, printed by a program (gen.py) out of the loaded program, and each function's place in the table.
-/
import Derived.Test.YtfmbdcpdoffdeabDoorXlib
namespace Go.AM
theorem ltB {n : Nat} (h : Nat.ble (n + 1) yBase = true) : n < yBase := Nat.le_of_ble_eq_true h
abbrev kI (n : Int) : AX := .c (.int .i64 n)
@[simp] theorem kI_eq (n : Int) : kI n = .c (.int .i64 n) := rfl
abbrev kS (n : List UInt8) : AX := .c (.str n)
@[simp] theorem kS_eq (n : List UInt8) : kS n = .c (.str n) := rfl
abbrev iZ : V := .int .i64 0
@[simp] theorem iZ_eq : iZ = .int .i64 0 := rfl
abbrev kT : AX := .c (.bool true)
@[simp] theorem kT_eq : kT = .c (.bool true) := rfl
abbrev kF : AX := .c (.bool false)
@[simp] theorem kF_eq : kF = .c (.bool false) := rfl
abbrev dO (d : Nat) (p : AOp) : AOper := ⟨some d, none, p⟩
@[simp] theorem dO_eq (d : Nat) (p : AOp) : dO d p = ⟨some d, none, p⟩ := rfl
abbrev bT : Nat := 0
abbrev bP : Nat := 0
abbrev bE : Nat := 5
def n_flotsamlaw10_AllocFree : Nat := 3
def n_flotsamlaw10_knows : Nat := 4
def n_flotsamlaw09_Disk : Nat := 5
def n_alloc_Count : Nat := 6
def n_alloc_Inode : Nat := 7
def n_alloc_Slot : Nat := 8
def n_alloc_Blocks : Nat := 9
def n_look_Taken : Nat := 10
def n_look_Entry : Nat := 11
def n_flotsamlaw10_owned : Nat := 12
def n_flotsamlaw04_Ints : Nat := 13
def n_flotsamref07_Empty : Nat := 14
def n_bdisk_From : Nat := 15
def n_pbdisk_Disk_Write : Nat := 16
def n_alloc_Count_1 : Nat := 17
def n_alloc_inodes : Nat := 18
def n_alloc_blocks : Nat := 19
def n_slices_Clone_bool_bool : Nat := 20
def n_alloc_one : Nat := 21
def n_alloc_first : Nat := 22
def n_alloc_Inode_1 : Nat := 23
def n_alloc_Slot_1 : Nat := 24
def n_alloc_Blocks_1 : Nat := 25
def n_look_used : Nat := 26
def n_layout_EntryOf : Nat := 27
def n_look_at : Nat := 28
def n_look_Inode : Nat := 29
def n_flotsamref07_Super : Nat := 30
def n_bdisk_New : Nat := 31
def n_slices_Clone_api_Sector_api_Sector : Nat := 32
def n_pbdisk_Disk_none : Nat := 33
def n_pbdisk_faults_fails : Nat := 34
def n_pbdisk_Disk_has : Nat := 35
def n_pbdisk_Disk_note : Nat := 36
def n_look_used_1 : Nat := 37
def n_sector_Zero : Nat := 38
def n_sector_Cut : Nat := 39
def n_layout_Entry : Nat := 40
def n_pbdisk_Disk_Read : Nat := 41
def n_layout_InodeOf : Nat := 42
def n_sector_fits : Nat := 43
def n_bytes_Clone : Nat := 44
def n_layout_RightEntry : Nat := 45
def n_slices_Backward_api_Write_api_Write : Nat := 46
def n_layout_Inode : Nat := 47
def n_layout_RightEntry_1 : Nat := 48
def n_layout_Name : Nat := 49
def n_slices_Backward_api_Write_api_Write_1 : Nat := 50
def n_layout_RightInode : Nat := 51
def n_strings_Trim : Nat := 52
def n_slices_Clone_int_int : Nat := 53
def n_layout_need : Nat := 54
def n_layout_RightInode_1 : Nat := 55
def n_slices_ContainsFunc_int_int : Nat := 56
def n_layout_RightInode_2 : Nat := 57
def n_slices_Sort_int_int : Nat := 58
def n_slices_Compact_int_int : Nat := 59
def n_slices_IndexFunc_int_int : Nat := 67
def q_look_Taken_0 : Nat := 2001000
def q_pbdisk_Disk_Read_0 : Nat := 2004100
def b_flotsamlaw10_AllocFree_0 : AC :=
 .seq (.seq (.reg [dO 99 (.mv (.t 17)), dO 100 (.ic .lss (.t 99) (kI 16))])
 (.cond (.t 100)
 (.skip)
 (.exit 0)))
 (.seq (.block 1 (.seq (.reg [dO 103 (.mv (.t 10)), dO 104 (.notb (.t 103)), dO 105 (.mv (.t 104)), ⟨some 106, (some (105, false)), .mv (.t 17)⟩, ⟨some 107, (some (105, false)), .mv (.t 9)⟩, ⟨some 108, (some (105, false)), .ic .lss (.t 106) (.t 107)⟩, dO 109 (.pick (.t 105) kT (.t 108)), dO 110 (.mv (.t 109)), ⟨some 111, (some (110, true)), .mv (.t 5)⟩, ⟨some 112, (some (110, true)), .mv (.t 17)⟩, ⟨some 113, (some (110, true)), .call n_look_Taken [.t 111, .t 112]⟩, ⟨some 114, (some (110, true)), .notb (.t 113)⟩, dO 115 (.pick (.t 110) (.t 114) kF), dO 116 (.mv (.t 115)), ⟨some 117, (some (116, false)), .mv (.t 10)⟩, ⟨some 118, (some (116, false)), .mv (.t 117)⟩, ⟨some 119, (some (118, true)), .mv (.t 17)⟩, ⟨some 120, (some (118, true)), .mv (.t 9)⟩, ⟨some 121, (some (118, true)), .ic .eql (.t 119) (.t 120)⟩, ⟨some 122, (some (116, false)), .pick (.t 118) (.t 121) kF⟩, ⟨some 123, (some (116, false)), .mv (.t 122)⟩, ⟨some 124, (some (123, true)), .mv (.t 5)⟩, ⟨some 125, (some (123, true)), .mv (.t 17)⟩, ⟨some 126, (some (123, true)), .call n_look_Taken [.t 124, .t 125]⟩, ⟨some 127, (some (116, false)), .pick (.t 123) (.t 126) kF⟩, dO 128 (.pick (.t 116) kT (.t 127))])
 (.cond (.t 128)
 (.seq (.reg [dO 4 (.tk kF)])
 (.ret))
 (.skip))))
 (.reg [dO 101 (.mv (.t 17)), dO 102 (.ia .add .i64 (.t 101) (kI 1)), dO 17 (.tk (.t 102))]))
def l_flotsamlaw10_AllocFree_0 : AC :=
 .loop [5, 9, 10, 11, 12, 13, 17] b_flotsamlaw10_AllocFree_0
def b_flotsamlaw10_AllocFree_1 : AC :=
 .seq (.seq (.reg [dO 129 (.mv (.t 18)), dO 130 (.ic .lss (.t 129) (kI 24))])
 (.cond (.t 130)
 (.skip)
 (.exit 2)))
 (.seq (.block 3 (.seq (.reg [dO 133 (.mv (.t 5)), dO 134 (.mv (.t 18)), dO 135 (.call n_look_Entry [.t 133, .t 134]), dO 19 (.alloc [.bool false, iZ, .str [], iZ]), ⟨none, none, .st 4 (.t 19) (.t 135)⟩])
 (.seq (.reg [dO 136 (.mv (.t 12)), dO 137 (.notb (.t 136)), dO 138 (.mv (.t 137)), ⟨some 139, (some (138, false)), .mv (.t 18)⟩, ⟨some 140, (some (138, false)), .mv (.t 11)⟩, ⟨some 141, (some (138, false)), .ic .lss (.t 139) (.t 140)⟩, dO 142 (.pick (.t 138) kT (.t 141)), dO 143 (.mv (.t 142)), ⟨some 144, (some (143, true)), .fa 0 (.t 19)⟩, ⟨some 145, (some (143, true)), .ld none (.t 144)⟩, ⟨some 146, (some (143, true)), .notb (.t 145)⟩, dO 147 (.pick (.t 143) (.t 146) kF), dO 148 (.mv (.t 147)), ⟨some 149, (some (148, false)), .mv (.t 12)⟩, ⟨some 150, (some (148, false)), .mv (.t 149)⟩, ⟨some 151, (some (150, true)), .mv (.t 18)⟩, ⟨some 152, (some (150, true)), .mv (.t 11)⟩, ⟨some 153, (some (150, true)), .ic .eql (.t 151) (.t 152)⟩, ⟨some 154, (some (148, false)), .pick (.t 150) (.t 153) kF⟩, ⟨some 155, (some (148, false)), .mv (.t 154)⟩, ⟨some 156, (some (155, true)), .fa 0 (.t 19)⟩, ⟨some 157, (some (155, true)), .ld none (.t 156)⟩, ⟨some 158, (some (148, false)), .pick (.t 155) (.t 157) kF⟩, dO 159 (.pick (.t 148) kT (.t 158))])
 (.cond (.t 159)
 (.seq (.reg [dO 4 (.tk kF)])
 (.ret))
 (.skip)))))
 (.reg [dO 131 (.mv (.t 18)), dO 132 (.ia .add .i64 (.t 131) (kI 1)), dO 18 (.tk (.t 132))]))
def l_flotsamlaw10_AllocFree_1 : AC :=
 .loop [5, 11, 12, 13, 18] b_flotsamlaw10_AllocFree_1
def b_flotsamlaw10_AllocFree_2 : AC :=
 .seq (.seq (.reg [dO 160 (.mv (.t 20)), dO 161 (.mv (.t 13)), dO 162 (.len false (.t 161)), dO 163 (.ic .lss (.t 160) (.t 162))])
 (.cond (.t 163)
 (.skip)
 (.exit 4)))
 (.seq (.block 5 (.seq (.drw [[], [], [], [], [], [3], [], [], [], [], [], [3, 9], [3, 9], [], [], [], [], [], [], [], [], [], [], [], [], [], [19, 24], [3, 9, 19, 24], [3, 9, 19, 24], [3, 9, 19, 24], [], [], [], [], [3, 9, 19, 24], []] [dO 166 (.mv (.t 13)), dO 167 (.mv (.t 20)), dO 168 (.ixa 1 none (.t 166) (.t 167)), dO 169 (.ld none (.t 168)), dO 170 (.ic .lss (.t 169) (kI 1)), dO 171 (.mv (.t 170)), ⟨some 172, (some (171, false)), .mv (.t 13)⟩, ⟨some 173, (some (171, false)), .mv (.t 20)⟩, ⟨some 174, (some (171, false)), .ixa 1 none (.t 172) (.t 173)⟩, ⟨some 175, (some (171, false)), .ld none (.t 174)⟩, ⟨some 176, (some (171, false)), .ic .gtr (.t 175) (kI 24)⟩, dO 177 (.pick (.t 171) kT (.t 176)), dO 178 (.mv (.t 177)), ⟨some 179, (some (178, false)), .mv (.t 20)⟩, ⟨some 180, (some (178, false)), .ic .gtr (.t 179) (kI 0)⟩, ⟨some 181, (some (178, false)), .mv (.t 180)⟩, ⟨some 182, (some (181, true)), .mv (.t 13)⟩, ⟨some 183, (some (181, true)), .mv (.t 20)⟩, ⟨some 184, (some (181, true)), .ixa 1 none (.t 182) (.t 183)⟩, ⟨some 185, (some (181, true)), .ld none (.t 184)⟩, ⟨some 186, (some (181, true)), .mv (.t 13)⟩, ⟨some 187, (some (181, true)), .mv (.t 20)⟩, ⟨some 188, (some (181, true)), .ia .sub .i64 (.t 187) (kI 1)⟩, ⟨some 189, (some (181, true)), .ixa 1 none (.t 186) (.t 188)⟩, ⟨some 190, (some (181, true)), .ld none (.t 189)⟩, ⟨some 191, (some (181, true)), .ic .leq (.t 185) (.t 190)⟩, ⟨some 192, (some (178, false)), .pick (.t 181) (.t 191) kF⟩, dO 193 (.pick (.t 178) kT (.t 192)), dO 194 (.mv (.t 193)), ⟨some 195, (some (194, false)), .mv (.t 5)⟩, ⟨some 196, (some (194, false)), .mv (.t 13)⟩, ⟨some 197, (some (194, false)), .mv (.t 20)⟩, ⟨some 198, (some (194, false)), .ixa 1 none (.t 196) (.t 197)⟩, ⟨some 199, (some (194, false)), .ld none (.t 198)⟩, ⟨some 200, (some (194, false)), .call n_flotsamlaw10_owned [.t 195, .t 199]⟩, dO 201 (.pick (.t 194) kT (.t 200))])
 (.cond (.t 201)
 (.seq (.reg [dO 4 (.tk kF)])
 (.ret))
 (.skip))))
 (.reg [dO 164 (.mv (.t 20)), dO 165 (.ia .add .i64 (.t 164) (kI 1)), dO 20 (.tk (.t 165))]))
def l_flotsamlaw10_AllocFree_2 : AC :=
 .loop [5, 13, 20] b_flotsamlaw10_AllocFree_2
def r_flotsamlaw10_AllocFree_0 : AC :=
 .seq (.reg [dO 203 (.mv (.t 5)), dO 204 (.mv (.t 13)), dO 205 (.len false (.t 204)), dO 206 (.ia .quo .i64 (.t 205) (kI 2)), dO 207 (.call n_alloc_Blocks [.t 203, .t 206]), dO 202 (.mv (.t 207)), dO 208 (.ext (.t 202) 0), dO 209 (.ext (.t 202) 1), dO 21 (.tk (.t 208)), dO 22 (.tk (.t 209))])
 (.seq (.reg [dO 210 (.mv (.t 22)), dO 211 (.mv (.t 210)), ⟨some 212, (some (211, true)), .mv (.t 21)⟩, ⟨some 213, (some (211, true)), .mv (.t 13)⟩, ⟨some 214, (some (211, true)), .mv (.t 13)⟩, ⟨some 215, (some (211, true)), .len false (.t 214)⟩, ⟨some 216, (some (211, true)), .ia .quo .i64 (.t 215) (kI 2)⟩, ⟨some 217, (some (211, true)), .sls 1 (.t 213) none (some (.t 216)) none⟩, ⟨some 218, (some (211, true)), .callc n_flotsamlaw04_Ints [.t 212, .t 217]⟩, dO 219 (.pick (.t 211) (.t 218) kF), dO 4 (.tk (.t 219))])
 (.ret))
def r_flotsamlaw10_AllocFree_1 : AC :=
 .seq (.seq (.reg [dO 20 (.tk (kI 0))])
 (.block 4 (l_flotsamlaw10_AllocFree_2))) r_flotsamlaw10_AllocFree_0
def r_flotsamlaw10_AllocFree_2 : AC :=
 .seq (.seq (.reg [dO 18 (.tk (kI 0))])
 (.block 2 (l_flotsamlaw10_AllocFree_1))) r_flotsamlaw10_AllocFree_1
def c_flotsamlaw10_AllocFree : AFunc :=
 { np := 2, res := [.t 4], body := (
 .seq (.reg [dO 4 (.tk kF)])
 (.seq (.seq (.reg [dO 23 (.mv (.t 0)), dO 24 (.len false (.t 23)), dO 25 (.ic .gtr (.t 24) (kI 200)), dO 26 (.mv (.t 25)), ⟨some 27, (some (26, false)), .mv (.t 1)⟩, ⟨some 28, (some (26, false)), .len false (.t 27)⟩, ⟨some 29, (some (26, false)), .ic .gtr (.t 28) (kI 40)⟩, dO 30 (.pick (.t 26) kT (.t 29)), dO 31 (.mv (.t 30)), ⟨some 32, (some (31, false)), .callc n_flotsamlaw10_knows []⟩, ⟨some 33, (some (31, false)), .notb (.t 32)⟩, dO 34 (.pick (.t 31) kT (.t 33))])
 (.cond (.t 34)
 (.seq (.reg [dO 35 (.callc n_flotsamlaw10_knows []), dO 4 (.tk (.t 35))])
 (.ret))
 (.skip)))
 (.seq (.reg [dO 36 (.mv (.t 0)), dO 37 (.mv (.t 1)), dO 38 (.call n_flotsamlaw09_Disk [.t 36, .t 37]), dO 5 (.tk (.t 38))])
 (.seq (.reg [dO 40 (.mv (.t 5)), dO 41 (.call n_alloc_Count [.t 40]), dO 39 (.mv (.t 41)), dO 42 (.ext (.t 39) 0), dO 43 (.ext (.t 39) 1), dO 44 (.ext (.t 39) 2), dO 6 (.tk (.t 42)), dO 7 (.tk (.t 43)), dO 8 (.tk (.t 44))])
 (.seq (.reg [dO 46 (.mv (.t 5)), dO 47 (.call n_alloc_Inode [.t 46]), dO 45 (.mv (.t 47)), dO 48 (.ext (.t 45) 0), dO 49 (.ext (.t 45) 1), dO 9 (.tk (.t 48)), dO 10 (.tk (.t 49))])
 (.seq (.reg [dO 51 (.mv (.t 5)), dO 52 (.call n_alloc_Slot [.t 51]), dO 50 (.mv (.t 52)), dO 53 (.ext (.t 50) 0), dO 54 (.ext (.t 50) 1), dO 11 (.tk (.t 53)), dO 12 (.tk (.t 54))])
 (.seq (.reg [dO 56 (.mv (.t 5)), dO 57 (.mv (.t 8)), dO 58 (.ia .sub .i64 (kI 24) (.t 57)), dO 59 (.call n_alloc_Blocks [.t 56, .t 58]), dO 55 (.mv (.t 59)), dO 60 (.ext (.t 55) 0), dO 61 (.ext (.t 55) 1), dO 13 (.tk (.t 60)), dO 14 (.tk (.t 61))])
 (.seq (.reg [dO 63 (.mv (.t 5)), dO 64 (.mv (.t 8)), dO 65 (.ia .sub .i64 (kI 24) (.t 64)), dO 66 (.ia .add .i64 (.t 65) (kI 1)), dO 67 (.call n_alloc_Blocks [.t 63, .t 66]), dO 62 (.mv (.t 67)), dO 68 (.ext (.t 62) 0), dO 69 (.ext (.t 62) 1), dO 15 (.tk (.t 68)), dO 16 (.tk (.t 69))])
 (.seq (.seq (.reg [dO 70 (.mv (.t 10)), dO 71 (.mv (.t 6)), dO 72 (.ic .lss (.t 71) (kI 16)), dO 73 (.eqb true (.t 70) (.t 72)), dO 74 (.mv (.t 73)), ⟨some 75, (some (74, false)), .mv (.t 12)⟩, ⟨some 76, (some (74, false)), .mv (.t 7)⟩, ⟨some 77, (some (74, false)), .ic .lss (.t 76) (kI 24)⟩, ⟨some 78, (some (74, false)), .eqb true (.t 75) (.t 77)⟩, dO 79 (.pick (.t 74) kT (.t 78)), dO 80 (.mv (.t 79)), ⟨some 81, (some (80, false)), .mv (.t 14)⟩, ⟨some 82, (some (80, false)), .notb (.t 81)⟩, dO 83 (.pick (.t 80) kT (.t 82)), dO 84 (.mv (.t 83)), ⟨some 85, (some (84, false)), .mv (.t 16)⟩, dO 86 (.pick (.t 84) kT (.t 85)), dO 87 (.mv (.t 86)), ⟨some 88, (some (87, false)), .mv (.t 15)⟩, ⟨some 89, (some (87, false)), .len false (.t 88)⟩, ⟨some 90, (some (87, false)), .ic .neq (.t 89) (kI 0)⟩, dO 91 (.pick (.t 87) kT (.t 90)), dO 92 (.mv (.t 91)), ⟨some 93, (some (92, false)), .mv (.t 13)⟩, ⟨some 94, (some (92, false)), .len false (.t 93)⟩, ⟨some 95, (some (92, false)), .mv (.t 8)⟩, ⟨some 96, (some (92, false)), .ia .sub .i64 (kI 24) (.t 95)⟩, ⟨some 97, (some (92, false)), .ic .neq (.t 94) (.t 96)⟩, dO 98 (.pick (.t 92) kT (.t 97))])
 (.cond (.t 98)
 (.seq (.reg [dO 4 (.tk kF)])
 (.ret))
 (.skip)))
 (.seq (.seq (.reg [dO 17 (.tk (kI 0))])
 (.block 0 (l_flotsamlaw10_AllocFree_0))) r_flotsamlaw10_AllocFree_2)))))))))) }
def c_flotsamlaw10_knows : AFunc :=
 { np := 0, res := [.t 0], body := (
 .seq (.reg [dO 0 (.tk kF)])
 (.seq (.reg [dO 11 (.callc n_flotsamref07_Empty []), dO 12 (.call n_flotsamlaw09_Disk [.t 11, (.c (.own 36 []))]), dO 1 (.tk (.t 12))])
 (.seq (.reg [dO 14 (.mv (.t 1)), dO 15 (.call n_alloc_Inode [.t 14]), dO 13 (.mv (.t 15)), dO 16 (.ext (.t 13) 0), dO 17 (.ext (.t 13) 1), dO 2 (.tk (.t 16)), dO 3 (.tk (.t 17))])
 (.seq (.reg [dO 19 (.mv (.t 1)), dO 20 (.call n_alloc_Slot [.t 19]), dO 18 (.mv (.t 20)), dO 21 (.ext (.t 18) 0), dO 22 (.ext (.t 18) 1), dO 4 (.tk (.t 21)), dO 5 (.tk (.t 22))])
 (.seq (.reg [dO 24 (.mv (.t 1)), dO 25 (.call n_alloc_Blocks [.t 24, kI 2]), dO 23 (.mv (.t 25)), dO 26 (.ext (.t 23) 0), dO 27 (.ext (.t 23) 1), dO 6 (.tk (.t 26)), dO 7 (.tk (.t 27))])
 (.seq (.reg [dO 29 (.mv (.t 1)), dO 30 (.call n_alloc_Count [.t 29]), dO 28 (.mv (.t 30)), dO 31 (.ext (.t 28) 0), dO 32 (.ext (.t 28) 1), dO 33 (.ext (.t 28) 2), dO 8 (.tk (.t 31)), dO 9 (.tk (.t 32)), dO 10 (.tk (.t 33))])
 (.seq (.reg [dO 34 (.mv (.t 2)), dO 35 (.ic .eql (.t 34) (kI 1)), dO 36 (.mv (.t 35)), ⟨some 37, (some (36, true)), .mv (.t 3)⟩, dO 38 (.pick (.t 36) (.t 37) kF), dO 39 (.mv (.t 38)), ⟨some 40, (some (39, true)), .mv (.t 4)⟩, ⟨some 41, (some (39, true)), .ic .eql (.t 40) (kI 0)⟩, dO 42 (.pick (.t 39) (.t 41) kF), dO 43 (.mv (.t 42)), ⟨some 44, (some (43, true)), .mv (.t 5)⟩, dO 45 (.pick (.t 43) (.t 44) kF), dO 46 (.mv (.t 45)), ⟨some 47, (some (46, true)), .mv (.t 6)⟩, ⟨some 48, (some (46, true)), .bsl 1 [iZ] 2 [(0, 1, kI 1), (1, 1, kI 2)] false⟩, ⟨some 49, (some (46, true)), .callc n_flotsamlaw04_Ints [.t 47, .t 48]⟩, dO 50 (.pick (.t 46) (.t 49) kF), dO 51 (.mv (.t 50)), ⟨some 52, (some (51, true)), .mv (.t 7)⟩, dO 53 (.pick (.t 51) (.t 52) kF), dO 54 (.mv (.t 53)), ⟨some 55, (some (54, true)), .mv (.t 8)⟩, ⟨some 56, (some (54, true)), .ic .eql (.t 55) (kI 1)⟩, dO 57 (.pick (.t 54) (.t 56) kF), dO 58 (.mv (.t 57)), ⟨some 59, (some (58, true)), .mv (.t 9)⟩, ⟨some 60, (some (58, true)), .ic .eql (.t 59) (kI 0)⟩, dO 61 (.pick (.t 58) (.t 60) kF), dO 62 (.mv (.t 61)), ⟨some 63, (some (62, true)), .mv (.t 10)⟩, ⟨some 64, (some (62, true)), .ic .eql (.t 63) (kI 0)⟩, dO 65 (.pick (.t 62) (.t 64) kF), dO 0 (.tk (.t 65))])
 (.ret)))))))) }
def b_flotsamlaw09_Disk_0 : AC :=
 .seq (.seq (.reg [dO 13 (.mv (.t 7)), dO 14 (.mv (.t 1)), dO 15 (.len false (.t 14)), dO 16 (.ic .lss (.t 13) (.t 15))])
 (.cond (.t 16)
 (.skip)
 (.exit 0)))
 (.seq (.block 1 (.drw [[], [], [], [], [], [], [], [], [], [], [], [], [], [], [], [], []] [dO 19 (.mv (.t 5)), dO 20 (.mv (.t 1)), dO 21 (.mv (.t 7)), dO 22 (.ixa 36 none (.t 20) (.t 21)), dO 23 (.fa 0 (.t 22)), dO 24 (.ld none (.t 23)), dO 25 (.mv (.t 1)), dO 26 (.mv (.t 7)), dO 27 (.ixa 36 none (.t 25) (.t 26)), dO 28 (.fa 1 (.t 27)), dO 29 (.ld (some 32) (.t 28)), dO 30 (.mv (.t 1)), dO 31 (.mv (.t 7)), dO 32 (.ixa 36 none (.t 30) (.t 31)), dO 33 (.fa 33 (.t 32)), dO 34 (.ld (some 2) (.t 33)), dO 35 (.call n_pbdisk_Disk_Write [.t 19, .t 24, .t 29, .t 34])]))
 (.reg [dO 17 (.mv (.t 7)), dO 18 (.ia .add .i64 (.t 17) (kI 1)), dO 7 (.tk (.t 18))]))
def l_flotsamlaw09_Disk_0 : AC :=
 .loop [1, 5, 7] b_flotsamlaw09_Disk_0
def r_flotsamlaw09_Disk_0 : AC :=
 .seq (.reg [dO 36 (.mv (.t 5)), dO 4 (.tk (.t 36))])
 (.ret)
def c_flotsamlaw09_Disk : AFunc :=
 { np := 2, res := [.t 4], body := (
 .seq (.reg [dO 4 (.tk (.c (.nilp)))])
 (.seq (.reg [dO 9 (.mv (.t 0)), dO 10 (.call n_bdisk_From [.t 9]), dO 8 (.mv (.t 10)), dO 11 (.ext (.t 8) 0), dO 12 (.ext (.t 8) 1), dO 5 (.tk (.t 11)), dO 6 (.tk (.t 12))])
 (.seq (.seq (.reg [dO 7 (.tk (kI 0))])
 (.block 0 (l_flotsamlaw09_Disk_0))) r_flotsamlaw09_Disk_0))) }
def b_alloc_Count_0 : AC :=
 .seq (.reg [dO 18 (.ic .lss (.t 17) (.t 16))])
 (.seq (.cond (.t 18)
 (.skip)
 (.exit 0))
 (.seq (.block 1 (.seq (.reg [dO 19 (.mv (.t 17)), dO 9 (.tk (.t 19))])
 (.reg [dO 20 (.mv (.t 8)), dO 21 (.mv (.t 9)), dO 22 (.mv (.t 0)), dO 23 (.mv (.t 9)), dO 24 (.call n_look_Entry [.t 22, .t 23]), dO 25 (.fld none 0 (.t 24)), dO 26 (.ixa 1 none (.t 20) (.t 21)), ⟨none, none, .st 1 (.t 26) (.t 25)⟩])))
 (.reg [dO 27 (.ia .add .i64 (.t 17) (kI 1)), dO 17 (.mv (.t 27))])))
def l_alloc_Count_0 : AC :=
 .loop [0, 5, 6, 7, 8, 16, 17] b_alloc_Count_0
def r_alloc_Count_0 : AC :=
 .seq (.drw [[], [], [], [], [], [], [2], [], [], [2], [], [], [], []] [dO 28 (.mv (.t 5)), dO 29 (.slp 1 16 (.t 6) none none none), dO 30 (.call n_slices_Clone_bool_bool [.t 29]), dO 31 (.callvc (.t 28) [.t 30]), dO 32 (.mv (.t 5)), dO 33 (.mv (.t 8)), dO 34 (.callv (.t 32) [.t 33]), dO 35 (.mv (.t 5)), dO 36 (.slp 1 25 (.t 7) none none none), dO 37 (.call n_slices_Clone_bool_bool [.t 36]), dO 38 (.callvc (.t 35) [.t 37]), dO 2 (.tk (.t 31)), dO 3 (.tk (.t 34)), dO 4 (.tk (.t 38))])
 (.ret)
def c_alloc_Count : AFunc :=
 { np := 1, res := [.t 2, .t 3, .t 4], body := (
 .seq (.reg [dO 2 (.tk (kI 0)), dO 3 (.tk (kI 0)), dO 4 (.tk (kI 0))])
 (.seq (.reg [dO 5 (.tk (.c (.fn (.func n_alloc_Count_1) [] [])))])
 (.seq (.reg [dO 10 (.mv (.t 0)), dO 11 (.call n_alloc_inodes [.t 10]), dO 12 (.mv (.t 0)), dO 13 (.call n_alloc_blocks [.t 12]), dO 6 (.alloc [.bool false, .bool false, .bool false, .bool false, .bool false, .bool false, .bool false, .bool false, .bool false, .bool false, .bool false, .bool false, .bool false, .bool false, .bool false, .bool false]), dO 7 (.alloc [.bool false, .bool false, .bool false, .bool false, .bool false, .bool false, .bool false, .bool false, .bool false, .bool false, .bool false, .bool false, .bool false, .bool false, .bool false, .bool false, .bool false, .bool false, .bool false, .bool false, .bool false, .bool false, .bool false, .bool false, .bool false]), ⟨none, none, .st 16 (.t 6) (.t 11)⟩, ⟨none, none, .st 25 (.t 7) (.t 13)⟩])
 (.seq (.reg [dO 14 (.mk 1 [.bool false] 1 (kI 24) (kI 24)), dO 8 (.tk (.t 14))])
 (.seq (.seq (.reg [dO 15 (.mv (.t 8)), dO 16 (.len false (.t 15)), dO 17 (.mv (kI 0))])
 (.block 0 (l_alloc_Count_0))) r_alloc_Count_0))))) }
def c_alloc_Inode : AFunc :=
 { np := 1, res := [.t 2, .t 3], body := (
 .seq (.reg [dO 2 (.tk (kI 0)), dO 3 (.tk kF)])
 (.seq (.reg [dO 5 (.mv (.t 0)), dO 6 (.call n_alloc_inodes [.t 5]), dO 4 (.alloc [.bool false, .bool false, .bool false, .bool false, .bool false, .bool false, .bool false, .bool false, .bool false, .bool false, .bool false, .bool false, .bool false, .bool false, .bool false, .bool false]), ⟨none, none, .st 16 (.t 4) (.t 6)⟩])
 (.seq (.reg [dO 7 (.mkf (.func n_alloc_Inode_1) [] [.t 4]), dO 8 (.call n_alloc_first [kI 0, kI 16, kI 1, .t 7]), dO 9 (.callc n_alloc_one [.t 8]), dO 10 (.ext (.t 9) 0), dO 11 (.ext (.t 9) 1), dO 2 (.tk (.t 10)), dO 3 (.tk (.t 11))])
 (.ret)))) }
def c_alloc_Slot : AFunc :=
 { np := 1, res := [.t 2, .t 3], body := (
 .seq (.reg [dO 1 (.box (.t 0)), dO 2 (.tk (kI 0)), dO 3 (.tk kF)])
 (.seq (.reg [dO 4 (.mkf (.func n_alloc_Slot_1) [] [.t 1]), dO 5 (.call n_alloc_first [kI 0, kI 24, kI 1, .t 4]), dO 6 (.callc n_alloc_one [.t 5]), dO 7 (.ext (.t 6) 0), dO 8 (.ext (.t 6) 1), dO 2 (.tk (.t 7)), dO 3 (.tk (.t 8))])
 (.ret))) }
def c_alloc_Blocks : AFunc :=
 { np := 2, res := [.t 4, .t 5], body := (
 .seq (.reg [dO 4 (.tk (.c (.own 1 []))), dO 5 (.tk kF)])
 (.seq (.reg [dO 8 (.mv (.t 0)), dO 9 (.call n_alloc_blocks [.t 8]), dO 6 (.alloc [.bool false, .bool false, .bool false, .bool false, .bool false, .bool false, .bool false, .bool false, .bool false, .bool false, .bool false, .bool false, .bool false, .bool false, .bool false, .bool false, .bool false, .bool false, .bool false, .bool false, .bool false, .bool false, .bool false, .bool false, .bool false]), ⟨none, none, .st 25 (.t 6) (.t 9)⟩])
 (.seq (.reg [dO 10 (.mv (.t 1)), dO 11 (.mkf (.func n_alloc_Blocks_1) [] [.t 6]), dO 12 (.call n_alloc_first [kI 1, kI 25, .t 10, .t 11]), dO 7 (.tk (.t 12))])
 (.seq (.seq (.reg [dO 13 (.mv (.t 7)), dO 14 (.len false (.t 13)), dO 15 (.mv (.t 1)), dO 16 (.ic .neq (.t 14) (.t 15))])
 (.cond (.t 16)
 (.seq (.reg [dO 4 (.tk (.c (.own 1 []))), dO 5 (.tk kF)])
 (.ret))
 (.skip)))
 (.seq (.reg [dO 17 (.tk (.t 7)), dO 4 (.tk (.t 17)), dO 5 (.tk kT)])
 (.ret)))))) }
def a_look_Taken_0 : AC :=
 .reg [dO 6 (.alloc [.bool false, iZ, .str [], iZ]), ⟨none, none, .st 4 (.t 6) (.t 10)⟩]
def y_look_Taken_0 : AC :=
 .block 1 (.seq (.reg [dO 11 (.fa 3 (.t 6)), dO 12 (.ld none (.t 11)), dO 13 (.ld none (.t 3)), dO 14 (.ic .eql (.t 12) (.t 13))])
 (.cond (.t 14)
 (.seq (.reg [⟨none, none, .st 1 (.t 4) kT⟩])
 (.ret))
 (.skip)))
def r_look_Taken_0 : AC :=
 .seq (.reg [dO 15 (.ld none (.t 3)), dO 16 (.ic .eql (.t 15) (kI 0)), ⟨none, none, .st 1 (.t 4) (.t 16)⟩])
 (.ret)
def c_look_Taken : AFunc :=
 { np := 2, res := [.cell 4 none], body := (
 .seq (.reg [dO 3 (.box (.t 1)), dO 4 (.alloc [.bool false])])
 (.seq (.seq (.reg [dO 7 (.mv (.t 0)), dO 8 (.call n_look_used [.t 7])])
 (.block 0 (.rfn (.t 8) [3, 4] q_look_Taken_0 [9, 10] a_look_Taken_0 y_look_Taken_0))) r_look_Taken_0)) }
def c_look_Entry : AFunc :=
 { np := 2, res := [.cell 4 (some 4)], body := (
 .seq (.reg [dO 4 (.alloc [.bool false, iZ, .str [], iZ])])
 (.seq (.seq (.reg [dO 7 (.mv (.t 1)), dO 8 (.ic .lss (.t 7) (kI 0)), dO 9 (.mv (.t 8)), ⟨some 10, (some (9, false)), .mv (.t 1)⟩, ⟨some 11, (some (9, false)), .ic .geq (.t 10) (kI 24)⟩, dO 12 (.pick (.t 9) kT (.t 11))])
 (.cond (.t 12)
 (.seq (.reg [dO 13 (.bld [.bool false, iZ, .str [], iZ] []), ⟨none, none, .st 4 (.t 4) (.t 13)⟩])
 (.ret))
 (.skip)))
 (.seq (.reg [dO 15 (.mv (.t 0)), dO 16 (.mv (.t 1)), dO 17 (.ia .add .i64 (kI 17) (.t 16)), dO 18 (.call n_look_at [.t 15, .t 17]), dO 19 (.callc n_layout_EntryOf [.t 18]), dO 14 (.mv (.t 19)), dO 20 (.ext (.t 14) 0), dO 21 (.ext (.t 14) 1), dO 5 (.alloc [.bool false, iZ, .str [], iZ]), ⟨none, none, .st 4 (.t 5) (.t 20)⟩, dO 6 (.tk (.t 21))])
 (.seq (.reg [dO 22 (.ld (some 4) (.t 5)), ⟨none, none, .st 4 (.t 4) (.t 22)⟩])
 (.ret))))) }
def b_flotsamlaw10_owned_0 : AC :=
 .seq (.seq (.reg [dO 15 (.mv (.t 7)), dO 16 (.ic .lss (.t 15) (kI 4))])
 (.cond (.t 16)
 (.skip)
 (.exit 2)))
 (.seq (.block 3 (.seq (.reg [dO 19 (.mv (.t 7)), dO 20 (.fa 2 (.t 6)), dO 21 (.ixa 1 (some 4) (.t 20) (.t 19)), dO 22 (.ld none (.t 21)), dO 23 (.mv (.t 1)), dO 24 (.ic .eql (.t 22) (.t 23)), dO 25 (.mv (.t 24)), ⟨some 26, (some (25, true)), .mv (.t 0)⟩, ⟨some 27, (some (25, true)), .mv (.t 5)⟩, ⟨some 28, (some (25, true)), .call n_look_Taken [.t 26, .t 27]⟩, dO 29 (.pick (.t 25) (.t 28) kF)])
 (.cond (.t 29)
 (.seq (.reg [dO 4 (.tk kT)])
 (.ret))
 (.skip))))
 (.reg [dO 17 (.mv (.t 7)), dO 18 (.ia .add .i64 (.t 17) (kI 1)), dO 7 (.tk (.t 18))]))
def l_flotsamlaw10_owned_0 : AC :=
 .loop [0, 1, 5, 6, 7] b_flotsamlaw10_owned_0
def r_flotsamlaw10_owned_0 : AC :=
 .reg [dO 10 (.mv (.t 5)), dO 11 (.ia .add .i64 (.t 10) (kI 1)), dO 5 (.tk (.t 11))]
def b_flotsamlaw10_owned_1 : AC :=
 .seq (.seq (.reg [dO 8 (.mv (.t 5)), dO 9 (.ic .lss (.t 8) (kI 16))])
 (.cond (.t 9)
 (.skip)
 (.exit 0)))
 (.seq (.block 1 (.seq (.reg [dO 12 (.mv (.t 0)), dO 13 (.mv (.t 5)), dO 14 (.call n_look_Inode [.t 12, .t 13]), dO 6 (.alloc [iZ, iZ, iZ, iZ, iZ, iZ]), ⟨none, none, .st 6 (.t 6) (.t 14)⟩])
 (.seq (.reg [dO 7 (.tk (kI 0))])
 (.block 2 (l_flotsamlaw10_owned_0))))) r_flotsamlaw10_owned_0)
def l_flotsamlaw10_owned_1 : AC :=
 .loop [0, 1, 5] b_flotsamlaw10_owned_1
def r_flotsamlaw10_owned_1 : AC :=
 .seq (.reg [dO 4 (.tk kF)])
 (.ret)
def c_flotsamlaw10_owned : AFunc :=
 { np := 2, res := [.t 4], body := (
 .seq (.reg [dO 4 (.tk kF)])
 (.seq (.seq (.reg [dO 5 (.tk (kI 0))])
 (.block 0 (l_flotsamlaw10_owned_1))) r_flotsamlaw10_owned_1)) }
def b_flotsamlaw04_Ints_0 : AC :=
 .seq (.seq (.reg [dO 11 (.mv (.t 5)), dO 12 (.mv (.t 0)), dO 13 (.len false (.t 12)), dO 14 (.ic .lss (.t 11) (.t 13))])
 (.cond (.t 14)
 (.skip)
 (.exit 0)))
 (.seq (.block 1 (.seq (.drw [[], [], [], [], [], [], [], [], []] [dO 17 (.mv (.t 0)), dO 18 (.mv (.t 5)), dO 19 (.ixa 1 none (.t 17) (.t 18)), dO 20 (.ld none (.t 19)), dO 21 (.mv (.t 1)), dO 22 (.mv (.t 5)), dO 23 (.ixa 1 none (.t 21) (.t 22)), dO 24 (.ld none (.t 23)), dO 25 (.ic .neq (.t 20) (.t 24))])
 (.cond (.t 25)
 (.seq (.reg [dO 4 (.tk kF)])
 (.ret))
 (.skip))))
 (.reg [dO 15 (.mv (.t 5)), dO 16 (.ia .add .i64 (.t 15) (kI 1)), dO 5 (.tk (.t 16))]))
def l_flotsamlaw04_Ints_0 : AC :=
 .loop [0, 1, 5] b_flotsamlaw04_Ints_0
def r_flotsamlaw04_Ints_0 : AC :=
 .seq (.reg [dO 4 (.tk kT)])
 (.ret)
def c_flotsamlaw04_Ints : AFunc :=
 { np := 2, res := [.t 4], body := (
 .seq (.reg [dO 4 (.tk kF)])
 (.seq (.seq (.reg [dO 6 (.mv (.t 0)), dO 7 (.len false (.t 6)), dO 8 (.mv (.t 1)), dO 9 (.len false (.t 8)), dO 10 (.ic .neq (.t 7) (.t 9))])
 (.cond (.t 10)
 (.seq (.reg [dO 4 (.tk kF)])
 (.ret))
 (.skip)))
 (.seq (.seq (.reg [dO 5 (.tk (kI 0))])
 (.block 0 (l_flotsamlaw04_Ints_0))) r_flotsamlaw04_Ints_0))) }
def c_flotsamref07_Empty : AFunc :=
 { np := 0, res := [.t 0], body := (
 .seq (.reg [dO 0 (.tk (.c (.own 32 [])))])
 (.seq (.reg [dO 2 (.mk 32 [.int .u8 0, .int .u8 0, .int .u8 0, .int .u8 0, .int .u8 0, .int .u8 0, .int .u8 0, .int .u8 0, .int .u8 0, .int .u8 0, .int .u8 0, .int .u8 0, .int .u8 0, .int .u8 0, .int .u8 0, .int .u8 0, .int .u8 0, .int .u8 0, .int .u8 0, .int .u8 0, .int .u8 0, .int .u8 0, .int .u8 0, .int .u8 0, .int .u8 0, .int .u8 0, .int .u8 0, .int .u8 0, .int .u8 0, .int .u8 0, .int .u8 0, .int .u8 0] 32 (kI 65) (kI 65)), dO 1 (.tk (.t 2))])
 (.seq (.reg [dO 3 (.mv (.t 1)), dO 4 (.callc n_flotsamref07_Super []), dO 5 (.ixa 32 none (.t 3) (kI 0)), ⟨none, none, .st 32 (.t 5) (.t 4)⟩])
 (.seq (.reg [dO 6 (.mv (.t 1)), dO 7 (.ixa 32 none (.t 6) (kI 1)), dO 8 (.ixa 1 (some 32) (.t 7) (kI 0)), ⟨none, none, .st 1 (.t 8) (.c (.int .u8 2))⟩])
 (.seq (.reg [dO 9 (.mv (.t 1)), dO 0 (.frz 32 (.t 9))])
 (.ret)))))) }
def c_bdisk_From : AFunc :=
 { np := 1, res := [.t 2, .t 3], body := (
 .seq (.reg [dO 2 (.tk (.c (.nilp))), dO 3 (.tk (kI 0))])
 (.seq (.seq (.reg [dO 7 (.mv (.t 0)), dO 8 (.len false (.t 7)), dO 9 (.call n_bdisk_New [.t 8]), dO 6 (.mv (.t 9)), dO 10 (.ext (.t 6) 0), dO 11 (.ext (.t 6) 1), dO 4 (.tk (.t 10)), dO 5 (.tk (.t 11))])
 (.seq (.reg [dO 12 (.mv (.t 5)), dO 13 (.ic .neq (.t 12) (kI 0))])
 (.cond (.t 13)
 (.seq (.reg [dO 14 (.mv (.t 5)), dO 2 (.tk (.c (.nilp))), dO 3 (.tk (.t 14))])
 (.ret))
 (.skip))))
 (.seq (.reg [dO 15 (.mv (.t 0)), dO 16 (.callc n_slices_Clone_api_Sector_api_Sector [.t 15]), dO 17 (.bld [.nilm, iZ, .sl 32 [], .nils 36, .nils 38, iZ] [(2, 1, .t 16)]), dO 18 (.box (.t 17)), dO 2 (.tk (.t 18)), dO 3 (.tk (kI 0))])
 (.ret)))) }
def c_pbdisk_Disk_Write : AFunc :=
 { np := 4, res := [.t 8], body := (
 .seq (.reg [dO 6 (.box (.t 2)), dO 7 (.box (.t 3)), dO 8 (.tk (kI 0))])
 (.seq (.seq (.reg [dO 11 (.mv (.t 0)), dO 12 (.call n_pbdisk_Disk_none [.t 11])])
 (.cond (.t 12)
 (.seq (.reg [dO 8 (.tk (kI 1))])
 (.ret))
 (.skip)))
 (.seq (.seq (.reg [dO 13 (.mv (.t 0)), dO 14 (.nck (.t 13)), dO 15 (.fa 0 (.t 14)), dO 16 (.call n_pbdisk_faults_fails [.t 15]), dO 9 (.tk (.t 16))])
 (.block 0 (.seq (.reg [dO 18 (.mv (.t 0)), dO 19 (.mv (.t 1)), dO 20 (.call n_pbdisk_Disk_has [.t 18, .t 19]), dO 21 (.notb (.t 20)), dO 17 (.tk (.t 21))])
 (.cond (.t 17)
 (.seq (.reg [dO 8 (.tk (kI 1))])
 (.ret))
 (.seq (.reg [dO 23 (.mv (.t 9)), dO 22 (.tk (.t 23))])
 (.cond (.t 22)
 (.seq (.reg [dO 8 (.tk (kI 3))])
 (.ret))
 (.skip)))))))
 (.seq (.drw [[], [], [], [], [], [], [], [], [], []] [dO 24 (.mv (.t 1)), dO 25 (.ld (some 32) (.t 6)), dO 26 (.ld (some 2) (.t 7)), dO 27 (.mv (.t 0)), dO 28 (.nck (.t 27)), dO 29 (.fa 5 (.t 28)), dO 30 (.ld none (.t 29)), dO 31 (.bld [iZ, .int .u8 0, .int .u8 0, .int .u8 0, .int .u8 0, .int .u8 0, .int .u8 0, .int .u8 0, .int .u8 0, .int .u8 0, .int .u8 0, .int .u8 0, .int .u8 0, .int .u8 0, .int .u8 0, .int .u8 0, .int .u8 0, .int .u8 0, .int .u8 0, .int .u8 0, .int .u8 0, .int .u8 0, .int .u8 0, .int .u8 0, .int .u8 0, .int .u8 0, .int .u8 0, .int .u8 0, .int .u8 0, .int .u8 0, .int .u8 0, .int .u8 0, .int .u8 0, iZ, iZ, iZ] [(0, 1, .t 24), (1, 32, .t 25), (33, 2, .t 26), (35, 1, .t 30)]), dO 10 (.alloc [iZ, .int .u8 0, .int .u8 0, .int .u8 0, .int .u8 0, .int .u8 0, .int .u8 0, .int .u8 0, .int .u8 0, .int .u8 0, .int .u8 0, .int .u8 0, .int .u8 0, .int .u8 0, .int .u8 0, .int .u8 0, .int .u8 0, .int .u8 0, .int .u8 0, .int .u8 0, .int .u8 0, .int .u8 0, .int .u8 0, .int .u8 0, .int .u8 0, .int .u8 0, .int .u8 0, .int .u8 0, .int .u8 0, .int .u8 0, .int .u8 0, .int .u8 0, .int .u8 0, iZ, iZ, iZ]), ⟨none, none, .st 36 (.t 10) (.t 31)⟩])
 (.seq (.drw [[], [], [], [], [], [], [], [], [], [], []] [dO 32 (.mv (.t 0)), dO 33 (.mv (.t 0)), dO 34 (.nck (.t 33)), dO 35 (.fa 3 (.t 34)), dO 36 (.ldo (.t 35)), dO 37 (.ld (some 36) (.t 10)), dO 38 (.bsl 36 [iZ, .int .u8 0, .int .u8 0, .int .u8 0, .int .u8 0, .int .u8 0, .int .u8 0, .int .u8 0, .int .u8 0, .int .u8 0, .int .u8 0, .int .u8 0, .int .u8 0, .int .u8 0, .int .u8 0, .int .u8 0, .int .u8 0, .int .u8 0, .int .u8 0, .int .u8 0, .int .u8 0, .int .u8 0, .int .u8 0, .int .u8 0, .int .u8 0, .int .u8 0, .int .u8 0, .int .u8 0, .int .u8 0, .int .u8 0, .int .u8 0, .int .u8 0, .int .u8 0, iZ, iZ, iZ] 1 [(0, 36, .t 37)] false), dO 39 (.app 36 64 (.t 36) (.t 38) false), dO 40 (.nck (.t 32)), dO 41 (.fa 3 (.t 40)), ⟨none, none, .st 1 (.t 41) (.t 39)⟩])
 (.seq (.reg [dO 42 (.mv (.t 0)), dO 43 (.ld (some 36) (.t 10)), dO 44 (.bld [iZ, iZ, .int .u8 0, .int .u8 0, .int .u8 0, .int .u8 0, .int .u8 0, .int .u8 0, .int .u8 0, .int .u8 0, .int .u8 0, .int .u8 0, .int .u8 0, .int .u8 0, .int .u8 0, .int .u8 0, .int .u8 0, .int .u8 0, .int .u8 0, .int .u8 0, .int .u8 0, .int .u8 0, .int .u8 0, .int .u8 0, .int .u8 0, .int .u8 0, .int .u8 0, .int .u8 0, .int .u8 0, .int .u8 0, .int .u8 0, .int .u8 0, .int .u8 0, .int .u8 0, iZ, iZ, iZ, .sl 2 []] [(0, 1, kI 1), (1, 36, .t 43)]), dO 45 (.call n_pbdisk_Disk_note [.t 42, .t 44]), dO 8 (.tk (.t 45))])
 (.ret))))))) }
def b_alloc_Count_1_0 : AC :=
 .seq (.reg [dO 9 (.ic .lss (.t 8) (.t 7))])
 (.seq (.cond (.t 9)
 (.skip)
 (.exit 0))
 (.seq (.block 1 (.seq (.reg [dO 10 (.ixa 1 none (.t 6) (.t 8)), dO 11 (.ld none (.t 10)), dO 5 (.tk (.t 11))])
 (.seq (.reg [dO 12 (.mv (.t 5))])
 (.cond (.t 12)
 (.reg [dO 13 (.mv (.t 3)), dO 14 (.ia .add .i64 (.t 13) (kI 1)), dO 3 (.tk (.t 14))])
 (.skip)))))
 (.reg [dO 15 (.ia .add .i64 (.t 8) (kI 1)), dO 8 (.mv (.t 15))])))
def l_alloc_Count_1_0 : AC :=
 .loop [3, 6, 7, 8] b_alloc_Count_1_0
def r_alloc_Count_1_0 : AC :=
 .seq (.reg [dO 16 (.mv (.t 3)), dO 2 (.tk (.t 16))])
 (.ret)
def c_alloc_Count_1 : AFunc :=
 { np := 1, res := [.t 2], body := (
 .seq (.reg [dO 2 (.tk (kI 0))])
 (.seq (.reg [dO 3 (.tk (kI 0))])
 (.seq (.seq (.reg [dO 6 (.mv (.t 0)), dO 7 (.len false (.t 6)), dO 8 (.mv (kI 0))])
 (.block 0 (l_alloc_Count_1_0))) r_alloc_Count_1_0))) }
def b_alloc_inodes_0 : AC :=
 .seq (.reg [dO 8 (.ic .lss (.t 7) (kI 24))])
 (.seq (.cond (.t 8)
 (.skip)
 (.exit 0))
 (.seq (.block 1 (.seq (.reg [dO 9 (.mv (.t 7)), dO 4 (.tk (.t 9))])
 (.seq (.reg [dO 10 (.mv (.t 0)), dO 11 (.mv (.t 4)), dO 12 (.call n_look_Entry [.t 10, .t 11]), dO 5 (.alloc [.bool false, iZ, .str [], iZ]), ⟨none, none, .st 4 (.t 5) (.t 12)⟩])
 (.seq (.reg [dO 13 (.fa 0 (.t 5)), dO 14 (.ld none (.t 13))])
 (.cond (.t 14)
 (.reg [dO 15 (.fa 3 (.t 5)), dO 16 (.ld none (.t 15)), dO 17 (.ixa 1 (some 16) (.t 3) (.t 16)), ⟨none, none, .st 1 (.t 17) kT⟩])
 (.skip))))))
 (.reg [dO 18 (.ia .add .i64 (.t 7) (kI 1)), dO 7 (.mv (.t 18))])))
def l_alloc_inodes_0 : AC :=
 .loop [0, 2, 3, 7] b_alloc_inodes_0
def r_alloc_inodes_0 : AC :=
 .seq (.reg [dO 19 (.ld (some 16) (.t 3)), ⟨none, none, .st 16 (.t 2) (.t 19)⟩])
 (.ret)
def c_alloc_inodes : AFunc :=
 { np := 1, res := [.cell 2 (some 16)], body := (
 .seq (.reg [dO 2 (.alloc [.bool false, .bool false, .bool false, .bool false, .bool false, .bool false, .bool false, .bool false, .bool false, .bool false, .bool false, .bool false, .bool false, .bool false, .bool false, .bool false])])
 (.seq (.reg [dO 6 (.bld [.bool false, .bool false, .bool false, .bool false, .bool false, .bool false, .bool false, .bool false, .bool false, .bool false, .bool false, .bool false, .bool false, .bool false, .bool false, .bool false] [(0, 1, kT)]), dO 3 (.alloc [.bool false, .bool false, .bool false, .bool false, .bool false, .bool false, .bool false, .bool false, .bool false, .bool false, .bool false, .bool false, .bool false, .bool false, .bool false, .bool false]), ⟨none, none, .st 16 (.t 3) (.t 6)⟩])
 (.seq (.seq (.reg [dO 7 (.mv (kI 0))])
 (.block 0 (l_alloc_inodes_0))) r_alloc_inodes_0))) }
def b_alloc_blocks_0 : AC :=
 .seq (.reg [dO 21 (.ic .lss (.t 20) (kI 4))])
 (.seq (.cond (.t 21)
 (.skip)
 (.exit 2))
 (.seq (.block 3 (.seq (.reg [dO 22 (.ixv none 1 4 (.t 19) (.t 20)), dO 7 (.tk (.t 22))])
 (.reg [dO 23 (.mv (.t 7)), dO 24 (.mv (.t 7)), dO 25 (.ic .gtr (.t 24) (kI 0)), dO 26 (.ixa 1 (some 25) (.t 3) (.t 23)), ⟨none, none, .st 1 (.t 26) (.t 25)⟩])))
 (.reg [dO 27 (.ia .add .i64 (.t 20) (kI 1)), dO 20 (.mv (.t 27))])))
def l_alloc_blocks_0 : AC :=
 .loop [0, 2, 3, 9, 10, 19, 20] b_alloc_blocks_0
def r_alloc_blocks_0 : AC :=
 .reg [dO 28 (.ia .add .i64 (.t 10) (kI 1)), dO 10 (.mv (.t 28))]
def b_alloc_blocks_1 : AC :=
 .seq (.reg [dO 11 (.ic .lss (.t 10) (kI 16))])
 (.seq (.cond (.t 11)
 (.skip)
 (.exit 0))
 (.seq (.block 1 (.seq (.reg [dO 12 (.mv (.t 10)), dO 13 (.ixv none 1 16 (.t 9) (.t 10)), dO 4 (.tk (.t 12)), dO 5 (.tk (.t 13))])
 (.seq (.seq (.reg [dO 14 (.mv (.t 5)), dO 15 (.notb (.t 14))])
 (.cond (.t 15)
 (.exit 1)
 (.skip)))
 (.seq (.reg [dO 16 (.mv (.t 0)), dO 17 (.mv (.t 4)), dO 18 (.call n_look_Inode [.t 16, .t 17]), dO 19 (.fld (some 4) 2 (.t 18)), dO 20 (.mv (kI 0))])
 (.block 2 (l_alloc_blocks_0)))))) r_alloc_blocks_0))
def l_alloc_blocks_1 : AC :=
 .loop [0, 2, 3, 9, 10] b_alloc_blocks_1
def r_alloc_blocks_1 : AC :=
 .seq (.reg [dO 29 (.ld (some 25) (.t 3)), ⟨none, none, .st 25 (.t 2) (.t 29)⟩])
 (.ret)
def c_alloc_blocks : AFunc :=
 { np := 1, res := [.cell 2 (some 25)], body := (
 .seq (.reg [dO 2 (.alloc [.bool false, .bool false, .bool false, .bool false, .bool false, .bool false, .bool false, .bool false, .bool false, .bool false, .bool false, .bool false, .bool false, .bool false, .bool false, .bool false, .bool false, .bool false, .bool false, .bool false, .bool false, .bool false, .bool false, .bool false, .bool false])])
 (.seq (.reg [dO 3 (.alloc [.bool false, .bool false, .bool false, .bool false, .bool false, .bool false, .bool false, .bool false, .bool false, .bool false, .bool false, .bool false, .bool false, .bool false, .bool false, .bool false, .bool false, .bool false, .bool false, .bool false, .bool false, .bool false, .bool false, .bool false, .bool false])])
 (.seq (.seq (.reg [dO 8 (.mv (.t 0)), dO 9 (.call n_alloc_inodes [.t 8]), dO 10 (.mv (kI 0))])
 (.block 0 (l_alloc_blocks_1))) r_alloc_blocks_1))) }
def c_slices_Clone_bool_bool : AFunc :=
 { np := 1, res := [.t 2], body := (
 .seq (.reg [dO 2 (.tk (.c (.own 1 [])))])
 (.seq (.seq (.reg [dO 3 (.mv (.t 0)), dO 4 (.isn false (.t 3))])
 (.cond (.t 4)
 (.seq (.reg [dO 2 (.tk (.c (.own 1 [])))])
 (.ret))
 (.skip)))
 (.seq (.reg [dO 5 (.bsl 1 [.bool false] 0 [] false), dO 6 (.mv (.t 0)), dO 7 (.app 1 1 (.t 5) (.t 6) false), dO 2 (.tk (.t 7))])
 (.ret)))) }
def c_alloc_one : AFunc :=
 { np := 1, res := [.t 2, .t 3], body := (
 .seq (.reg [dO 2 (.tk (kI 0)), dO 3 (.tk kF)])
 (.seq (.seq (.reg [dO 4 (.mv (.t 0)), dO 5 (.len false (.t 4)), dO 6 (.ic .eql (.t 5) (kI 0))])
 (.cond (.t 6)
 (.seq (.reg [dO 2 (.tk (kI 0)), dO 3 (.tk kF)])
 (.ret))
 (.skip)))
 (.seq (.reg [dO 7 (.mv (.t 0)), dO 8 (.ixa 1 none (.t 7) (kI 0)), dO 9 (.ld none (.t 8)), dO 2 (.tk (.t 9)), dO 3 (.tk kT)])
 (.ret)))) }
def b_alloc_first_0 : AC :=
 .seq (.seq (.reg [dO 12 (.mv (.t 10)), dO 13 (.mv (.t 1)), dO 14 (.ic .lss (.t 12) (.t 13)), dO 15 (.mv (.t 14)), ⟨some 16, (some (15, true)), .mv (.t 9)⟩, ⟨some 17, (some (15, true)), .len false (.t 16)⟩, ⟨some 18, (some (15, true)), .mv (.t 2)⟩, ⟨some 19, (some (15, true)), .ic .lss (.t 17) (.t 18)⟩, dO 20 (.pick (.t 15) (.t 19) kF)])
 (.cond (.t 20)
 (.skip)
 (.exit 0)))
 (.seq (.block 1 (.seq (.reg [dO 23 (.mv (.t 3)), dO 24 (.mv (.t 10)), dO 25 (.callv (.t 23) [.t 24]), dO 26 (.notb (.t 25))])
 (.cond (.t 26)
 (.reg [dO 27 (.tk (.t 9)), dO 28 (.mv (.t 10)), dO 29 (.bsl 1 [iZ] 1 [(0, 1, .t 28)] false), dO 30 (.app 1 8 (.t 27) (.t 29) false), dO 9 (.tk (.t 30))])
 (.skip))))
 (.reg [dO 21 (.mv (.t 10)), dO 22 (.ia .add .i64 (.t 21) (kI 1)), dO 10 (.tk (.t 22))]))
def l_alloc_first_0 : AC :=
 .loop [1, 2, 3, 9, 10] b_alloc_first_0
def r_alloc_first_0 : AC :=
 .seq (.reg [dO 31 (.tk (.t 9)), dO 8 (.tk (.t 31))])
 (.ret)
def c_alloc_first : AFunc :=
 { np := 4, res := [.t 8], body := (
 .seq (.reg [dO 8 (.tk (.c (.own 1 [])))])
 (.seq (.reg [dO 9 (.tk (.c (.own 1 [])))])
 (.seq (.seq (.reg [dO 11 (.mv (.t 0)), dO 10 (.tk (.t 11))])
 (.block 0 (l_alloc_first_0))) r_alloc_first_0))) }
def c_alloc_Inode_1 : AFunc :=
 { np := 2, res := [.t 3], body := (
 .seq (.reg [dO 3 (.tk kF)])
 (.seq (.reg [dO 4 (.mv (.t 0)), dO 5 (.ixa 1 (some 16) (.t 1) (.t 4)), dO 6 (.ld none (.t 5)), dO 3 (.tk (.t 6))])
 (.ret))) }
def c_alloc_Slot_1 : AFunc :=
 { np := 2, res := [.t 3], body := (
 .seq (.reg [dO 3 (.tk kF)])
 (.seq (.reg [dO 4 (.ld none (.t 1)), dO 5 (.mv (.t 0)), dO 6 (.call n_look_Entry [.t 4, .t 5]), dO 7 (.fld none 0 (.t 6)), dO 3 (.tk (.t 7))])
 (.ret))) }
def c_alloc_Blocks_1 : AFunc :=
 { np := 2, res := [.t 3], body := (
 .seq (.reg [dO 3 (.tk kF)])
 (.seq (.reg [dO 4 (.mv (.t 0)), dO 5 (.ixa 1 (some 25) (.t 1) (.t 4)), dO 6 (.ld none (.t 5)), dO 3 (.tk (.t 6))])
 (.ret))) }
def c_look_used : AFunc :=
 { np := 1, res := [.t 2], body := (
 .seq (.reg [dO 1 (.box (.t 0)), dO 2 (.tk (.c (.nilf)))])
 (.seq (.reg [dO 3 (.mkf (.func n_look_used_1) [] [.t 1]), dO 2 (.tk (.t 3))])
 (.ret))) }
def c_layout_EntryOf : AFunc :=
 { np := 1, res := [.cell 2 (some 4), .t 3], body := (
 .seq (.reg [dO 1 (.box (.t 0)), dO 2 (.alloc [.bool false, iZ, .str [], iZ]), dO 3 (.tk kF)])
 (.seq (.seq (.reg [dO 7 (.ld (some 32) (.t 1)), dO 8 (.callc n_sector_Zero [.t 7])])
 (.cond (.t 8)
 (.seq (.reg [dO 9 (.bld [.bool false, iZ, .str [], iZ] []), ⟨none, none, .st 4 (.t 2) (.t 9)⟩, dO 3 (.tk kT)])
 (.ret))
 (.skip)))
 (.seq (.drw [[], [], [], [], [], [], [], [], [], [], [], [], [], [], []] [dO 10 (.ixa 1 (some 32) (.t 1) (kI 1)), dO 11 (.ld none (.t 10)), dO 12 (.conv .i64 (.t 11)), dO 13 (.ixa 1 (some 32) (.t 1) (kI 2)), dO 14 (.ld none (.t 13)), dO 15 (.conv .i64 (.t 14)), dO 16 (.ld (some 32) (.t 1)), dO 17 (.ixa 1 (some 32) (.t 1) (kI 3)), dO 18 (.ld none (.t 17)), dO 19 (.conv .i64 (.t 18)), dO 20 (.callc n_sector_Cut [.t 16, kI 16, .t 19]), dO 21 (.b2s (.t 20)), dO 22 (.bld [.bool false, iZ, .str [], iZ] [(0, 1, kT), (1, 1, .t 12), (3, 1, .t 15), (2, 1, .t 21)]), dO 4 (.alloc [.bool false, iZ, .str [], iZ]), ⟨none, none, .st 4 (.t 4) (.t 22)⟩])
 (.seq (.seq (.reg [dO 24 (.ld (some 4) (.t 4)), dO 25 (.callc n_layout_Entry [.t 24]), dO 23 (.mv (.t 25)), dO 26 (.ext (.t 23) 0), dO 27 (.ext (.t 23) 1), dO 5 (.alloc [.int .u8 0, .int .u8 0, .int .u8 0, .int .u8 0, .int .u8 0, .int .u8 0, .int .u8 0, .int .u8 0, .int .u8 0, .int .u8 0, .int .u8 0, .int .u8 0, .int .u8 0, .int .u8 0, .int .u8 0, .int .u8 0, .int .u8 0, .int .u8 0, .int .u8 0, .int .u8 0, .int .u8 0, .int .u8 0, .int .u8 0, .int .u8 0, .int .u8 0, .int .u8 0, .int .u8 0, .int .u8 0, .int .u8 0, .int .u8 0, .int .u8 0, .int .u8 0]), ⟨none, none, .st 32 (.t 5) (.t 26)⟩, dO 6 (.tk (.t 27))])
 (.seq (.reg [dO 28 (.mv (.t 6)), dO 29 (.notb (.t 28)), dO 30 (.mv (.t 29)), ⟨some 31, (some (30, false)), .ld (some 32) (.t 1)⟩, ⟨some 32, (some (30, false)), .ld (some 32) (.t 5)⟩, ⟨some 33, (some (30, false)), .eqa true [.int .u8, .int .u8, .int .u8, .int .u8, .int .u8, .int .u8, .int .u8, .int .u8, .int .u8, .int .u8, .int .u8, .int .u8, .int .u8, .int .u8, .int .u8, .int .u8, .int .u8, .int .u8, .int .u8, .int .u8, .int .u8, .int .u8, .int .u8, .int .u8, .int .u8, .int .u8, .int .u8, .int .u8, .int .u8, .int .u8, .int .u8, .int .u8] (.t 31) (.t 32)⟩, dO 34 (.pick (.t 30) kT (.t 33))])
 (.cond (.t 34)
 (.seq (.reg [dO 35 (.bld [.bool false, iZ, .str [], iZ] []), ⟨none, none, .st 4 (.t 2) (.t 35)⟩, dO 3 (.tk kF)])
 (.ret))
 (.skip))))
 (.seq (.reg [dO 36 (.ld (some 4) (.t 4)), ⟨none, none, .st 4 (.t 2) (.t 36)⟩, dO 3 (.tk kT)])
 (.ret)))))) }
def c_look_at : AFunc :=
 { np := 2, res := [.cell 4 (some 32)], body := (
 .seq (.reg [dO 4 (.alloc [.int .u8 0, .int .u8 0, .int .u8 0, .int .u8 0, .int .u8 0, .int .u8 0, .int .u8 0, .int .u8 0, .int .u8 0, .int .u8 0, .int .u8 0, .int .u8 0, .int .u8 0, .int .u8 0, .int .u8 0, .int .u8 0, .int .u8 0, .int .u8 0, .int .u8 0, .int .u8 0, .int .u8 0, .int .u8 0, .int .u8 0, .int .u8 0, .int .u8 0, .int .u8 0, .int .u8 0, .int .u8 0, .int .u8 0, .int .u8 0, .int .u8 0, .int .u8 0])])
 (.seq (.reg [dO 8 (.mv (.t 0)), dO 9 (.mv (.t 1)), dO 10 (.call n_pbdisk_Disk_Read [.t 8, .t 9]), dO 7 (.mv (.t 10)), dO 11 (.ext (.t 7) 0), dO 12 (.ext (.t 7) 1), dO 5 (.alloc [.int .u8 0, .int .u8 0, .int .u8 0, .int .u8 0, .int .u8 0, .int .u8 0, .int .u8 0, .int .u8 0, .int .u8 0, .int .u8 0, .int .u8 0, .int .u8 0, .int .u8 0, .int .u8 0, .int .u8 0, .int .u8 0, .int .u8 0, .int .u8 0, .int .u8 0, .int .u8 0, .int .u8 0, .int .u8 0, .int .u8 0, .int .u8 0, .int .u8 0, .int .u8 0, .int .u8 0, .int .u8 0, .int .u8 0, .int .u8 0, .int .u8 0, .int .u8 0]), ⟨none, none, .st 32 (.t 5) (.t 11)⟩, dO 6 (.tk (.t 12))])
 (.seq (.reg [dO 13 (.ld (some 32) (.t 5)), ⟨none, none, .st 32 (.t 4) (.t 13)⟩])
 (.ret)))) }
def c_look_Inode : AFunc :=
 { np := 2, res := [.cell 4 (some 6)], body := (
 .seq (.reg [dO 4 (.alloc [iZ, iZ, iZ, iZ, iZ, iZ])])
 (.seq (.seq (.reg [dO 7 (.mv (.t 1)), dO 8 (.ic .lss (.t 7) (kI 0)), dO 9 (.mv (.t 8)), ⟨some 10, (some (9, false)), .mv (.t 1)⟩, ⟨some 11, (some (9, false)), .ic .geq (.t 10) (kI 16)⟩, dO 12 (.pick (.t 9) kT (.t 11))])
 (.cond (.t 12)
 (.seq (.reg [dO 13 (.bld [iZ, iZ, iZ, iZ, iZ, iZ] []), ⟨none, none, .st 6 (.t 4) (.t 13)⟩])
 (.ret))
 (.skip)))
 (.seq (.reg [dO 15 (.mv (.t 0)), dO 16 (.mv (.t 1)), dO 17 (.ia .add .i64 (kI 1) (.t 16)), dO 18 (.call n_look_at [.t 15, .t 17]), dO 19 (.callc n_layout_InodeOf [.t 18]), dO 14 (.mv (.t 19)), dO 20 (.ext (.t 14) 0), dO 21 (.ext (.t 14) 1), dO 5 (.alloc [iZ, iZ, iZ, iZ, iZ, iZ]), ⟨none, none, .st 6 (.t 5) (.t 20)⟩, dO 6 (.tk (.t 21))])
 (.seq (.reg [dO 22 (.ld (some 6) (.t 5)), ⟨none, none, .st 6 (.t 4) (.t 22)⟩])
 (.ret))))) }
def c_flotsamref07_Super : AFunc :=
 { np := 0, res := [.cell 0 (some 32)], body := (
 .seq (.reg [dO 0 (.alloc [.int .u8 0, .int .u8 0, .int .u8 0, .int .u8 0, .int .u8 0, .int .u8 0, .int .u8 0, .int .u8 0, .int .u8 0, .int .u8 0, .int .u8 0, .int .u8 0, .int .u8 0, .int .u8 0, .int .u8 0, .int .u8 0, .int .u8 0, .int .u8 0, .int .u8 0, .int .u8 0, .int .u8 0, .int .u8 0, .int .u8 0, .int .u8 0, .int .u8 0, .int .u8 0, .int .u8 0, .int .u8 0, .int .u8 0, .int .u8 0, .int .u8 0, .int .u8 0])])
 (.seq (.reg [dO 1 (.bld [.int .u8 0, .int .u8 0, .int .u8 0, .int .u8 0, .int .u8 0, .int .u8 0, .int .u8 0, .int .u8 0, .int .u8 0, .int .u8 0, .int .u8 0, .int .u8 0, .int .u8 0, .int .u8 0, .int .u8 0, .int .u8 0, .int .u8 0, .int .u8 0, .int .u8 0, .int .u8 0, .int .u8 0, .int .u8 0, .int .u8 0, .int .u8 0, .int .u8 0, .int .u8 0, .int .u8 0, .int .u8 0, .int .u8 0, .int .u8 0, .int .u8 0, .int .u8 0] [(0, 1, (.c (.int .u8 70))), (1, 1, (.c (.int .u8 76))), (2, 1, (.c (.int .u8 79))), (3, 1, (.c (.int .u8 84)))]), ⟨none, none, .st 32 (.t 0) (.t 1)⟩])
 (.ret))) }
def c_bdisk_New : AFunc :=
 { np := 1, res := [.t 2, .t 3], body := (
 .seq (.reg [dO 2 (.tk (.c (.nilp))), dO 3 (.tk (kI 0))])
 (.seq (.seq (.reg [dO 4 (.mv (.t 0)), dO 5 (.ic .lss (.t 4) (kI 1)), dO 6 (.mv (.t 5)), ⟨some 7, (some (6, false)), .mv (.t 0)⟩, ⟨some 8, (some (6, false)), .ic .gtr (.t 7) (kI 65)⟩, dO 9 (.pick (.t 6) kT (.t 8))])
 (.cond (.t 9)
 (.seq (.reg [dO 2 (.tk (.c (.nilp))), dO 3 (.tk (kI 1))])
 (.ret))
 (.skip)))
 (.seq (.reg [dO 10 (.mv (.t 0)), dO 11 (.mkz 32 [.int .u8 0, .int .u8 0, .int .u8 0, .int .u8 0, .int .u8 0, .int .u8 0, .int .u8 0, .int .u8 0, .int .u8 0, .int .u8 0, .int .u8 0, .int .u8 0, .int .u8 0, .int .u8 0, .int .u8 0, .int .u8 0, .int .u8 0, .int .u8 0, .int .u8 0, .int .u8 0, .int .u8 0, .int .u8 0, .int .u8 0, .int .u8 0, .int .u8 0, .int .u8 0, .int .u8 0, .int .u8 0, .int .u8 0, .int .u8 0, .int .u8 0, .int .u8 0] 32 (.t 10) (.t 10)), dO 12 (.bld [.nilm, iZ, .sl 32 [], .sl 36 [], .sl 38 [], iZ] [(2, 1, .t 11)]), dO 13 (.box (.t 12)), dO 2 (.tk (.t 13)), dO 3 (.tk (kI 0))])
 (.ret)))) }
def c_slices_Clone_api_Sector_api_Sector : AFunc :=
 { np := 1, res := [.t 2], body := (
 .seq (.reg [dO 2 (.tk (.c (.own 32 [])))])
 (.seq (.seq (.reg [dO 3 (.mv (.t 0)), dO 4 (.isn false (.t 3))])
 (.cond (.t 4)
 (.seq (.reg [dO 2 (.tk (.c (.own 32 [])))])
 (.ret))
 (.skip)))
 (.seq (.reg [dO 5 (.bsl 32 [.int .u8 0, .int .u8 0, .int .u8 0, .int .u8 0, .int .u8 0, .int .u8 0, .int .u8 0, .int .u8 0, .int .u8 0, .int .u8 0, .int .u8 0, .int .u8 0, .int .u8 0, .int .u8 0, .int .u8 0, .int .u8 0, .int .u8 0, .int .u8 0, .int .u8 0, .int .u8 0, .int .u8 0, .int .u8 0, .int .u8 0, .int .u8 0, .int .u8 0, .int .u8 0, .int .u8 0, .int .u8 0, .int .u8 0, .int .u8 0, .int .u8 0, .int .u8 0] 0 [] false), dO 6 (.mv (.t 0)), dO 7 (.app 32 32 (.t 5) (.t 6) false), dO 2 (.tk (.t 7))])
 (.ret)))) }
def c_pbdisk_Disk_none : AFunc :=
 { np := 1, res := [.t 2], body := (
 .seq (.reg [dO 2 (.tk kF)])
 (.seq (.reg [dO 3 (.mv (.t 0)), dO 4 (.isp false (.t 3)), dO 5 (.mv (.t 4)), ⟨some 6, (some (5, false)), .mv (.t 0)⟩, ⟨some 7, (some (5, false)), .nck (.t 6)⟩, ⟨some 8, (some (5, false)), .fa 2 (.t 7)⟩, ⟨some 9, (some (5, false)), .ld none (.t 8)⟩, ⟨some 10, (some (5, false)), .len false (.t 9)⟩, ⟨some 11, (some (5, false)), .ic .eql (.t 10) (kI 0)⟩, dO 12 (.pick (.t 5) kT (.t 11)), dO 2 (.tk (.t 12))])
 (.ret))) }
def c_pbdisk_faults_fails : AFunc :=
 { np := 1, res := [.t 2], body := (
 .seq (.reg [dO 2 (.tk kF)])
 (.seq (.reg [dO 4 (.mv (.t 0)), dO 5 (.nck (.t 4)), dO 6 (.fa 1 (.t 5)), dO 7 (.ld none (.t 6)), dO 3 (.tk (.t 7))])
 (.seq (.reg [dO 8 (.mv (.t 0)), dO 9 (.nck (.t 8)), dO 10 (.fa 1 (.t 9)), dO 11 (.ld none (.t 10)), dO 12 (.ia .add .i64 (.t 11) (kI 1)), dO 13 (.nck (.t 8)), dO 14 (.fa 1 (.t 13)), ⟨none, none, .st 1 (.t 14) (.t 12)⟩])
 (.seq (.reg [dO 15 (.mv (.t 0)), dO 16 (.nck (.t 15)), dO 17 (.fa 0 (.t 16)), dO 18 (.ld none (.t 17)), dO 19 (.mv (.t 3)), dO 20 (.mlk false (.int .i64 0) false [.int .i64] (.t 18) (.t 19)), dO 21 (.ic .gtr (.t 20) (kI 0)), dO 2 (.tk (.t 21))])
 (.ret))))) }
def c_pbdisk_Disk_has : AFunc :=
 { np := 2, res := [.t 4], body := (
 .seq (.reg [dO 4 (.tk kF)])
 (.seq (.reg [dO 5 (.mv (.t 0)), dO 6 (.call n_pbdisk_Disk_none [.t 5]), dO 7 (.notb (.t 6)), dO 8 (.mv (.t 7)), ⟨some 9, (some (8, true)), .mv (.t 1)⟩, ⟨some 10, (some (8, true)), .ic .geq (.t 9) (kI 0)⟩, dO 11 (.pick (.t 8) (.t 10) kF), dO 12 (.mv (.t 11)), ⟨some 13, (some (12, true)), .mv (.t 1)⟩, ⟨some 14, (some (12, true)), .mv (.t 0)⟩, ⟨some 15, (some (12, true)), .nck (.t 14)⟩, ⟨some 16, (some (12, true)), .fa 2 (.t 15)⟩, ⟨some 17, (some (12, true)), .ld none (.t 16)⟩, ⟨some 18, (some (12, true)), .len false (.t 17)⟩, ⟨some 19, (some (12, true)), .ic .lss (.t 13) (.t 18)⟩, dO 20 (.pick (.t 12) (.t 19) kF), dO 4 (.tk (.t 20))])
 (.ret))) }
def c_pbdisk_Disk_note : AFunc :=
 { np := 2, res := [.t 4], body := (
 .seq (.reg [dO 3 (.box (.t 1)), dO 4 (.tk (kI 0))])
 (.seq (.drw [[], [], [], [], [], [], [], [], [], [], []] [dO 5 (.mv (.t 0)), dO 6 (.mv (.t 0)), dO 7 (.nck (.t 6)), dO 8 (.fa 4 (.t 7)), dO 9 (.ldo (.t 8)), dO 10 (.ld (some 38) (.t 3)), dO 11 (.bsl 38 [iZ, iZ, .int .u8 0, .int .u8 0, .int .u8 0, .int .u8 0, .int .u8 0, .int .u8 0, .int .u8 0, .int .u8 0, .int .u8 0, .int .u8 0, .int .u8 0, .int .u8 0, .int .u8 0, .int .u8 0, .int .u8 0, .int .u8 0, .int .u8 0, .int .u8 0, .int .u8 0, .int .u8 0, .int .u8 0, .int .u8 0, .int .u8 0, .int .u8 0, .int .u8 0, .int .u8 0, .int .u8 0, .int .u8 0, .int .u8 0, .int .u8 0, .int .u8 0, .int .u8 0, iZ, iZ, iZ, .sl 2 []] 1 [(0, 38, .t 10)] false), dO 12 (.app 38 96 (.t 9) (.t 11) false), dO 13 (.nck (.t 5)), dO 14 (.fa 4 (.t 13)), ⟨none, none, .st 1 (.t 14) (.t 12)⟩])
 (.seq (.reg [dO 4 (.tk (kI 0))])
 (.ret)))) }
def b_look_used_1_0 : AC :=
 .seq (.reg [dO 6 (.ic .lss (.t 5) (kI 24))])
 (.seq (.cond (.t 6)
 (.skip)
 (.exit 0))
 (.seq (.block 1 (.seq (.reg [dO 7 (.mv (.t 5)), dO 3 (.tk (.t 7))])
 (.seq (.reg [dO 8 (.ld none (.t 1)), dO 9 (.mv (.t 3)), dO 10 (.call n_look_Entry [.t 8, .t 9]), dO 4 (.alloc [.bool false, iZ, .str [], iZ]), ⟨none, none, .st 4 (.t 4) (.t 10)⟩])
 (.seq (.reg [dO 11 (.fa 0 (.t 4)), dO 12 (.ld none (.t 11)), dO 13 (.mv (.t 12)), ⟨some 14, (some (13, true)), .mv (.t 0)⟩, ⟨some 15, (some (13, true)), .mv (.t 3)⟩, ⟨some 16, (some (13, true)), .ld (some 4) (.t 4)⟩, ⟨some 17, (some (13, true)), .callv (.t 14) [.t 15, .t 16]⟩, ⟨some 18, (some (13, true)), .notb (.t 17)⟩, dO 19 (.pick (.t 13) (.t 18) kF)])
 (.cond (.t 19)
 (.ret)
 (.skip))))))
 (.reg [dO 20 (.ia .add .i64 (.t 5) (kI 1)), dO 5 (.mv (.t 20))])))
def l_look_used_1_0 : AC :=
 .loop [0, 1, 5] b_look_used_1_0
def c_look_used_1 : AFunc :=
 { np := 2, res := [], body := (
 .seq (.reg [dO 5 (.mv (kI 0))])
 (.block 0 (l_look_used_1_0))) }
def c_sector_Zero : AFunc :=
 { np := 1, res := [.t 2], body := (
 .seq (.reg [dO 1 (.box (.t 0)), dO 2 (.tk kF)])
 (.seq (.reg [dO 3 (.ld (some 32) (.t 1)), dO 4 (.bld [.int .u8 0, .int .u8 0, .int .u8 0, .int .u8 0, .int .u8 0, .int .u8 0, .int .u8 0, .int .u8 0, .int .u8 0, .int .u8 0, .int .u8 0, .int .u8 0, .int .u8 0, .int .u8 0, .int .u8 0, .int .u8 0, .int .u8 0, .int .u8 0, .int .u8 0, .int .u8 0, .int .u8 0, .int .u8 0, .int .u8 0, .int .u8 0, .int .u8 0, .int .u8 0, .int .u8 0, .int .u8 0, .int .u8 0, .int .u8 0, .int .u8 0, .int .u8 0] []), dO 5 (.eqa false [.int .u8, .int .u8, .int .u8, .int .u8, .int .u8, .int .u8, .int .u8, .int .u8, .int .u8, .int .u8, .int .u8, .int .u8, .int .u8, .int .u8, .int .u8, .int .u8, .int .u8, .int .u8, .int .u8, .int .u8, .int .u8, .int .u8, .int .u8, .int .u8, .int .u8, .int .u8, .int .u8, .int .u8, .int .u8, .int .u8, .int .u8, .int .u8] (.t 3) (.t 4)), dO 2 (.tk (.t 5))])
 (.ret))) }
def c_sector_Cut : AFunc :=
 { np := 3, res := [.t 6], body := (
 .seq (.reg [dO 3 (.box (.t 0)), dO 6 (.tk (.c (.own 1 [])))])
 (.seq (.seq (.reg [dO 7 (.mv (.t 1)), dO 8 (.mv (.t 2)), dO 9 (.callc n_sector_fits [.t 7, .t 8]), dO 10 (.notb (.t 9))])
 (.cond (.t 10)
 (.seq (.reg [dO 6 (.tk (.c (.own 1 [])))])
 (.ret))
 (.skip)))
 (.seq (.reg [dO 11 (.mv (.t 1)), dO 12 (.mv (.t 1)), dO 13 (.mv (.t 2)), dO 14 (.ia .add .i64 (.t 12) (.t 13)), dO 15 (.slp 1 32 (.t 3) (some (.t 11)) (some (.t 14)) none), dO 16 (.call n_bytes_Clone [.t 15]), dO 6 (.tk (.t 16))])
 (.ret)))) }
def c_layout_Entry : AFunc :=
 { np := 1, res := [.cell 2 (some 32), .t 3], body := (
 .seq (.reg [dO 1 (.box (.t 0)), dO 2 (.alloc [.int .u8 0, .int .u8 0, .int .u8 0, .int .u8 0, .int .u8 0, .int .u8 0, .int .u8 0, .int .u8 0, .int .u8 0, .int .u8 0, .int .u8 0, .int .u8 0, .int .u8 0, .int .u8 0, .int .u8 0, .int .u8 0, .int .u8 0, .int .u8 0, .int .u8 0, .int .u8 0, .int .u8 0, .int .u8 0, .int .u8 0, .int .u8 0, .int .u8 0, .int .u8 0, .int .u8 0, .int .u8 0, .int .u8 0, .int .u8 0, .int .u8 0, .int .u8 0]), dO 3 (.tk kF)])
 (.seq (.reg [dO 4 (.alloc [.int .u8 0, .int .u8 0, .int .u8 0, .int .u8 0, .int .u8 0, .int .u8 0, .int .u8 0, .int .u8 0, .int .u8 0, .int .u8 0, .int .u8 0, .int .u8 0, .int .u8 0, .int .u8 0, .int .u8 0, .int .u8 0, .int .u8 0, .int .u8 0, .int .u8 0, .int .u8 0, .int .u8 0, .int .u8 0, .int .u8 0, .int .u8 0, .int .u8 0, .int .u8 0, .int .u8 0, .int .u8 0, .int .u8 0, .int .u8 0, .int .u8 0, .int .u8 0])])
 (.seq (.seq (.reg [dO 5 (.ld (some 4) (.t 1)), dO 6 (.callc n_layout_RightEntry [.t 5]), dO 7 (.notb (.t 6))])
 (.cond (.t 7)
 (.seq (.reg [dO 8 (.ld (some 32) (.t 4)), ⟨none, none, .st 32 (.t 2) (.t 8)⟩, dO 3 (.tk kF)])
 (.ret))
 (.skip)))
 (.seq (.seq (.reg [dO 9 (.fa 0 (.t 1)), dO 10 (.ld none (.t 9))])
 (.cond (.t 10)
 (.seq (.drw [[], [], [], [], [], [], [], [], [], [], [8], [2, 5, 8], [2, 5, 8]] [dO 11 (.slp 1 32 (.t 4) none none none), dO 12 (.fa 1 (.t 1)), dO 13 (.ld none (.t 12)), dO 14 (.conv .u8 (.t 13)), dO 15 (.fa 3 (.t 1)), dO 16 (.ld none (.t 15)), dO 17 (.conv .u8 (.t 16)), dO 18 (.fa 2 (.t 1)), dO 19 (.ld none (.t 18)), dO 20 (.len true (.t 19)), dO 21 (.conv .u8 (.t 20)), dO 22 (.bsl 1 [.int .u8 0] 4 [(0, 1, (.c (.int .u8 1))), (1, 1, .t 14), (2, 1, .t 17), (3, 1, .t 21)] false), dO 23 (.cpy 1 (.t 11) (.t 22))])
 (.drw [[], [], [], []] [dO 24 (.slp 1 32 (.t 4) (some (kI 16)) none none), dO 25 (.fa 2 (.t 1)), dO 26 (.ld none (.t 25)), dO 27 (.cpy 1 (.t 24) (.t 26))]))
 (.skip)))
 (.seq (.reg [dO 28 (.ld (some 32) (.t 4)), ⟨none, none, .st 32 (.t 2) (.t 28)⟩, dO 3 (.tk kT)])
 (.ret)))))) }
def a_pbdisk_Disk_Read_0 : AC :=
 .reg [dO 7 (.alloc [iZ, .int .u8 0, .int .u8 0, .int .u8 0, .int .u8 0, .int .u8 0, .int .u8 0, .int .u8 0, .int .u8 0, .int .u8 0, .int .u8 0, .int .u8 0, .int .u8 0, .int .u8 0, .int .u8 0, .int .u8 0, .int .u8 0, .int .u8 0, .int .u8 0, .int .u8 0, .int .u8 0, .int .u8 0, .int .u8 0, .int .u8 0, .int .u8 0, .int .u8 0, .int .u8 0, .int .u8 0, .int .u8 0, .int .u8 0, .int .u8 0, .int .u8 0, .int .u8 0, iZ, iZ, iZ]), ⟨none, none, .st 36 (.t 7) (.t 19)⟩]
def y_pbdisk_Disk_Read_0 : AC :=
 .block 1 (.seq (.reg [dO 20 (.fa 0 (.t 7)), dO 21 (.ld none (.t 20)), dO 22 (.ld none (.t 3)), dO 23 (.ic .eql (.t 21) (.t 22))])
 (.cond (.t 23)
 (.seq (.reg [dO 24 (.fa 1 (.t 7)), dO 25 (.ld (some 32) (.t 24)), ⟨none, none, .st 32 (.t 4) (.t 25)⟩, ⟨none, none, .st 1 (.t 5) (kI 0)⟩])
 (.ret))
 (.skip)))
def r_pbdisk_Disk_Read_0 : AC :=
 .seq (.drw [[], [], [], [], [], [], [], [], []] [dO 26 (.mv (.t 0)), dO 27 (.nck (.t 26)), dO 28 (.fa 2 (.t 27)), dO 29 (.ld none (.t 28)), dO 30 (.ld none (.t 3)), dO 31 (.ixa 32 none (.t 29) (.t 30)), dO 32 (.ld (some 32) (.t 31)), ⟨none, none, .st 32 (.t 4) (.t 32)⟩, ⟨none, none, .st 1 (.t 5) (kI 0)⟩])
 (.ret)
def c_pbdisk_Disk_Read : AFunc :=
 { np := 2, res := [.cell 4 (some 32), .cell 5 none], body := (
 .seq (.reg [dO 3 (.box (.t 1)), dO 4 (.alloc [.int .u8 0, .int .u8 0, .int .u8 0, .int .u8 0, .int .u8 0, .int .u8 0, .int .u8 0, .int .u8 0, .int .u8 0, .int .u8 0, .int .u8 0, .int .u8 0, .int .u8 0, .int .u8 0, .int .u8 0, .int .u8 0, .int .u8 0, .int .u8 0, .int .u8 0, .int .u8 0, .int .u8 0, .int .u8 0, .int .u8 0, .int .u8 0, .int .u8 0, .int .u8 0, .int .u8 0, .int .u8 0, .int .u8 0, .int .u8 0, .int .u8 0, .int .u8 0]), dO 5 (.alloc [iZ])])
 (.seq (.seq (.reg [dO 8 (.mv (.t 0)), dO 9 (.ld none (.t 3)), dO 10 (.call n_pbdisk_Disk_has [.t 8, .t 9]), dO 11 (.notb (.t 10))])
 (.cond (.t 11)
 (.seq (.reg [dO 12 (.bld [.int .u8 0, .int .u8 0, .int .u8 0, .int .u8 0, .int .u8 0, .int .u8 0, .int .u8 0, .int .u8 0, .int .u8 0, .int .u8 0, .int .u8 0, .int .u8 0, .int .u8 0, .int .u8 0, .int .u8 0, .int .u8 0, .int .u8 0, .int .u8 0, .int .u8 0, .int .u8 0, .int .u8 0, .int .u8 0, .int .u8 0, .int .u8 0, .int .u8 0, .int .u8 0, .int .u8 0, .int .u8 0, .int .u8 0, .int .u8 0, .int .u8 0, .int .u8 0] []), ⟨none, none, .st 32 (.t 4) (.t 12)⟩, ⟨none, none, .st 1 (.t 5) (kI 1)⟩])
 (.ret))
 (.skip)))
 (.seq (.seq (.reg [dO 13 (.mv (.t 0)), dO 14 (.nck (.t 13)), dO 15 (.fa 3 (.t 14)), dO 16 (.ld none (.t 15)), dO 17 (.call n_slices_Backward_api_Write_api_Write [.t 16])])
 (.block 0 (.rfn (.t 17) [3, 4, 5] q_pbdisk_Disk_Read_0 [18, 19] a_pbdisk_Disk_Read_0 y_pbdisk_Disk_Read_0))) r_pbdisk_Disk_Read_0))) }
def b_layout_InodeOf_0 : AC :=
 .seq (.reg [dO 16 (.ic .lss (.t 15) (kI 4))])
 (.seq (.cond (.t 16)
 (.skip)
 (.exit 0))
 (.seq (.block 1 (.seq (.reg [dO 17 (.mv (.t 15)), dO 5 (.tk (.t 17))])
 (.reg [dO 18 (.mv (.t 5)), dO 19 (.mv (.t 5)), dO 20 (.ia .add .i64 (kI 2) (.t 19)), dO 21 (.ixa 1 (some 32) (.t 1) (.t 20)), dO 22 (.ld none (.t 21)), dO 23 (.conv .i64 (.t 22)), dO 24 (.fa 2 (.t 4)), dO 25 (.ixa 1 (some 4) (.t 24) (.t 18)), ⟨none, none, .st 1 (.t 25) (.t 23)⟩])))
 (.reg [dO 26 (.ia .add .i64 (.t 15) (kI 1)), dO 15 (.mv (.t 26))])))
def l_layout_InodeOf_0 : AC :=
 .loop [1, 2, 4, 15] b_layout_InodeOf_0
def r_layout_InodeOf_0 : AC :=
 .seq (.seq (.reg [dO 28 (.ld (some 6) (.t 4)), dO 29 (.callc n_layout_Inode [.t 28]), dO 27 (.mv (.t 29)), dO 30 (.ext (.t 27) 0), dO 31 (.ext (.t 27) 1), dO 6 (.alloc [.int .u8 0, .int .u8 0, .int .u8 0, .int .u8 0, .int .u8 0, .int .u8 0, .int .u8 0, .int .u8 0, .int .u8 0, .int .u8 0, .int .u8 0, .int .u8 0, .int .u8 0, .int .u8 0, .int .u8 0, .int .u8 0, .int .u8 0, .int .u8 0, .int .u8 0, .int .u8 0, .int .u8 0, .int .u8 0, .int .u8 0, .int .u8 0, .int .u8 0, .int .u8 0, .int .u8 0, .int .u8 0, .int .u8 0, .int .u8 0, .int .u8 0, .int .u8 0]), ⟨none, none, .st 32 (.t 6) (.t 30)⟩, dO 7 (.tk (.t 31))])
 (.seq (.reg [dO 32 (.mv (.t 7)), dO 33 (.notb (.t 32)), dO 34 (.mv (.t 33)), ⟨some 35, (some (34, false)), .ld (some 32) (.t 1)⟩, ⟨some 36, (some (34, false)), .ld (some 32) (.t 6)⟩, ⟨some 37, (some (34, false)), .eqa true [.int .u8, .int .u8, .int .u8, .int .u8, .int .u8, .int .u8, .int .u8, .int .u8, .int .u8, .int .u8, .int .u8, .int .u8, .int .u8, .int .u8, .int .u8, .int .u8, .int .u8, .int .u8, .int .u8, .int .u8, .int .u8, .int .u8, .int .u8, .int .u8, .int .u8, .int .u8, .int .u8, .int .u8, .int .u8, .int .u8, .int .u8, .int .u8] (.t 35) (.t 36)⟩, dO 38 (.pick (.t 34) kT (.t 37))])
 (.cond (.t 38)
 (.seq (.reg [dO 39 (.bld [iZ, iZ, iZ, iZ, iZ, iZ] []), ⟨none, none, .st 6 (.t 2) (.t 39)⟩, dO 3 (.tk kF)])
 (.ret))
 (.skip))))
 (.seq (.reg [dO 40 (.ld (some 6) (.t 4)), ⟨none, none, .st 6 (.t 2) (.t 40)⟩, dO 3 (.tk kT)])
 (.ret))
def c_layout_InodeOf : AFunc :=
 { np := 1, res := [.cell 2 (some 6), .t 3], body := (
 .seq (.reg [dO 1 (.box (.t 0)), dO 2 (.alloc [iZ, iZ, iZ, iZ, iZ, iZ]), dO 3 (.tk kF)])
 (.seq (.reg [dO 8 (.ixa 1 (some 32) (.t 1) (kI 0)), dO 9 (.ld none (.t 8)), dO 10 (.conv .i64 (.t 9)), dO 11 (.ixa 1 (some 32) (.t 1) (kI 1)), dO 12 (.ld none (.t 11)), dO 13 (.conv .i64 (.t 12)), dO 14 (.bld [iZ, iZ, iZ, iZ, iZ, iZ] [(0, 1, .t 10), (1, 1, .t 13)]), dO 4 (.alloc [iZ, iZ, iZ, iZ, iZ, iZ]), ⟨none, none, .st 6 (.t 4) (.t 14)⟩])
 (.seq (.seq (.reg [dO 15 (.mv (kI 0))])
 (.block 0 (l_layout_InodeOf_0))) r_layout_InodeOf_0))) }
def c_sector_fits : AFunc :=
 { np := 2, res := [.t 4], body := (
 .seq (.reg [dO 4 (.tk kF)])
 (.seq (.reg [dO 5 (.mv (.t 0)), dO 6 (.ic .geq (.t 5) (kI 0)), dO 7 (.mv (.t 6)), ⟨some 8, (some (7, true)), .mv (.t 0)⟩, ⟨some 9, (some (7, true)), .ic .leq (.t 8) (kI 32)⟩, dO 10 (.pick (.t 7) (.t 9) kF), dO 11 (.mv (.t 10)), ⟨some 12, (some (11, true)), .mv (.t 1)⟩, ⟨some 13, (some (11, true)), .ic .geq (.t 12) (kI 0)⟩, dO 14 (.pick (.t 11) (.t 13) kF), dO 15 (.mv (.t 14)), ⟨some 16, (some (15, true)), .mv (.t 1)⟩, ⟨some 17, (some (15, true)), .mv (.t 0)⟩, ⟨some 18, (some (15, true)), .ia .sub .i64 (kI 32) (.t 17)⟩, ⟨some 19, (some (15, true)), .ic .leq (.t 16) (.t 18)⟩, dO 20 (.pick (.t 15) (.t 19) kF), dO 4 (.tk (.t 20))])
 (.ret))) }
def c_bytes_Clone : AFunc :=
 { np := 1, res := [.t 2], body := (
 .seq (.reg [dO 2 (.tk (.c (.own 1 [])))])
 (.seq (.seq (.reg [dO 3 (.mv (.t 0)), dO 4 (.isn false (.t 3))])
 (.cond (.t 4)
 (.seq (.reg [dO 2 (.tk (.c (.own 1 [])))])
 (.ret))
 (.skip)))
 (.seq (.reg [dO 5 (.bsl 1 [.int .u8 0] 0 [] false), dO 6 (.mv (.t 0)), dO 7 (.app 1 1 (.t 5) (.t 6) false), dO 2 (.tk (.t 7))])
 (.ret)))) }
def c_layout_RightEntry : AFunc :=
 { np := 1, res := [.t 2], body := (
 .seq (.reg [dO 1 (.box (.t 0)), dO 2 (.tk kF)])
 (.seq (.reg [dO 3 (.tk (.c (.fn (.func n_layout_RightEntry_1) [] [])))])
 (.seq (.seq (.reg [dO 4 (.fa 0 (.t 1)), dO 5 (.ld none (.t 4)), dO 6 (.notb (.t 5))])
 (.cond (.t 6)
 (.seq (.reg [dO 7 (.ld (some 4) (.t 1)), dO 8 (.bld [.bool false, iZ, .str [], iZ] []), dO 9 (.eqa false [.bool, .int .i64, .str, .int .i64] (.t 7) (.t 8)), dO 2 (.tk (.t 9))])
 (.ret))
 (.skip)))
 (.seq (.reg [dO 10 (.mv (.t 3)), dO 11 (.fa 1 (.t 1)), dO 12 (.ld none (.t 11)), dO 13 (.callv (.t 10) [.t 12, kI 0]), dO 14 (.mv (.t 13)), ⟨some 15, (some (14, true)), .mv (.t 3)⟩, ⟨some 16, (some (14, true)), .fa 3 (.t 1)⟩, ⟨some 17, (some (14, true)), .ld none (.t 16)⟩, ⟨some 18, (some (14, true)), .callv (.t 15) [.t 17, kI 1]⟩, dO 19 (.pick (.t 14) (.t 18) kF), dO 20 (.mv (.t 19)), ⟨some 21, (some (20, true)), .fa 2 (.t 1)⟩, ⟨some 22, (some (20, true)), .ld none (.t 21)⟩, ⟨some 23, (some (20, true)), .callc n_layout_Name [.t 22]⟩, dO 24 (.pick (.t 20) (.t 23) kF), dO 2 (.tk (.t 24))])
 (.ret))))) }
def c_slices_Backward_api_Write_api_Write : AFunc :=
 { np := 1, res := [.t 2], body := (
 .seq (.reg [dO 1 (.box (.t 0)), dO 2 (.tk (.c (.nilf)))])
 (.seq (.reg [dO 3 (.mkf (.func n_slices_Backward_api_Write_api_Write_1) [] [.t 1]), dO 2 (.tk (.t 3))])
 (.ret))) }
def b_layout_Inode_0 : AC :=
 .seq (.reg [dO 22 (.ic .lss (.t 21) (kI 4))])
 (.seq (.cond (.t 22)
 (.skip)
 (.exit 0))
 (.seq (.block 1 (.seq (.reg [dO 23 (.mv (.t 21)), dO 24 (.ixv none 1 4 (.t 20) (.t 21)), dO 5 (.tk (.t 23)), dO 6 (.tk (.t 24))])
 (.reg [dO 25 (.mv (.t 5)), dO 26 (.ia .add .i64 (kI 2) (.t 25)), dO 27 (.mv (.t 6)), dO 28 (.conv .u8 (.t 27)), dO 29 (.ixa 1 (some 32) (.t 4) (.t 26)), ⟨none, none, .st 1 (.t 29) (.t 28)⟩])))
 (.reg [dO 30 (.ia .add .i64 (.t 21) (kI 1)), dO 21 (.mv (.t 30))])))
def l_layout_Inode_0 : AC :=
 .loop [2, 4, 20, 21] b_layout_Inode_0
def r_layout_Inode_0 : AC :=
 .seq (.reg [dO 31 (.ld (some 32) (.t 4)), ⟨none, none, .st 32 (.t 2) (.t 31)⟩, dO 3 (.tk kT)])
 (.ret)
def c_layout_Inode : AFunc :=
 { np := 1, res := [.cell 2 (some 32), .t 3], body := (
 .seq (.reg [dO 1 (.box (.t 0)), dO 2 (.alloc [.int .u8 0, .int .u8 0, .int .u8 0, .int .u8 0, .int .u8 0, .int .u8 0, .int .u8 0, .int .u8 0, .int .u8 0, .int .u8 0, .int .u8 0, .int .u8 0, .int .u8 0, .int .u8 0, .int .u8 0, .int .u8 0, .int .u8 0, .int .u8 0, .int .u8 0, .int .u8 0, .int .u8 0, .int .u8 0, .int .u8 0, .int .u8 0, .int .u8 0, .int .u8 0, .int .u8 0, .int .u8 0, .int .u8 0, .int .u8 0, .int .u8 0, .int .u8 0]), dO 3 (.tk kF)])
 (.seq (.reg [dO 4 (.alloc [.int .u8 0, .int .u8 0, .int .u8 0, .int .u8 0, .int .u8 0, .int .u8 0, .int .u8 0, .int .u8 0, .int .u8 0, .int .u8 0, .int .u8 0, .int .u8 0, .int .u8 0, .int .u8 0, .int .u8 0, .int .u8 0, .int .u8 0, .int .u8 0, .int .u8 0, .int .u8 0, .int .u8 0, .int .u8 0, .int .u8 0, .int .u8 0, .int .u8 0, .int .u8 0, .int .u8 0, .int .u8 0, .int .u8 0, .int .u8 0, .int .u8 0, .int .u8 0])])
 (.seq (.seq (.reg [dO 7 (.ld (some 6) (.t 1)), dO 8 (.callc n_layout_RightInode [.t 7]), dO 9 (.notb (.t 8))])
 (.cond (.t 9)
 (.seq (.reg [dO 10 (.ld (some 32) (.t 4)), ⟨none, none, .st 32 (.t 2) (.t 10)⟩, dO 3 (.tk kF)])
 (.ret))
 (.skip)))
 (.seq (.drw [[], [], [], [], [], [], [], [], [], []] [dO 11 (.fa 0 (.t 1)), dO 12 (.ld none (.t 11)), dO 13 (.conv .u8 (.t 12)), dO 14 (.fa 1 (.t 1)), dO 15 (.ldq none (.t 14) (.t 1)), dO 16 (.conv .u8 (.t 15)), dO 17 (.ixa 1 (some 32) (.t 4) (kI 0)), ⟨none, none, .stq 1 (.t 17) (.t 13) [.t 1]⟩, dO 18 (.ixa 1 (some 32) (.t 4) (kI 1)), ⟨none, none, .st 1 (.t 18) (.t 16)⟩])
 (.seq (.seq (.reg [dO 19 (.fa 2 (.t 1)), dO 20 (.ld (some 4) (.t 19)), dO 21 (.mv (kI 0))])
 (.block 0 (l_layout_Inode_0))) r_layout_Inode_0))))) }
def c_layout_RightEntry_1 : AFunc :=
 { np := 2, res := [.t 4], body := (
 .seq (.reg [dO 4 (.tk kF)])
 (.seq (.reg [dO 5 (.mv (.t 0)), dO 6 (.mv (.t 1)), dO 7 (.ic .geq (.t 5) (.t 6)), dO 8 (.mv (.t 7)), ⟨some 9, (some (8, true)), .mv (.t 0)⟩, ⟨some 10, (some (8, true)), .ic .lss (.t 9) (kI 16)⟩, dO 11 (.pick (.t 8) (.t 10) kF), dO 4 (.tk (.t 11))])
 (.ret))) }
def c_layout_Name : AFunc :=
 { np := 1, res := [.t 2], body := (
 .seq (.reg [dO 2 (.tk kF)])
 (.seq (.reg [dO 3 (.mv (.t 0)), dO 4 (.sop .neq (.t 3) (kS [])), dO 5 (.mv (.t 4)), ⟨some 6, (some (5, true)), .mv (.t 0)⟩, ⟨some 7, (some (5, true)), .len true (.t 6)⟩, ⟨some 8, (some (5, true)), .ic .leq (.t 7) (kI 8)⟩, dO 9 (.pick (.t 5) (.t 8) kF), dO 10 (.mv (.t 9)), ⟨some 11, (some (10, true)), .mv (.t 0)⟩, ⟨some 12, (some (10, true)), .sop .neq (.t 11) (kS [46])⟩, dO 13 (.pick (.t 10) (.t 12) kF), dO 14 (.mv (.t 13)), ⟨some 15, (some (14, true)), .mv (.t 0)⟩, ⟨some 16, (some (14, true)), .sop .neq (.t 15) (kS [46, 46])⟩, dO 17 (.pick (.t 14) (.t 16) kF), dO 18 (.mv (.t 17)), ⟨some 19, (some (18, true)), .mv (.t 0)⟩, ⟨some 20, (some (18, true)), .callc n_strings_Trim [.t 19, kS [97, 98, 99, 100, 101, 102, 103, 104, 105, 106, 107, 108, 109, 110, 111, 112, 113, 114, 115, 116, 117, 118, 119, 120, 121, 122, 48, 49, 50, 51, 52, 53, 54, 55, 56, 57, 46, 95]]⟩, ⟨some 21, (some (18, true)), .sop .eql (.t 20) (kS [])⟩, dO 22 (.pick (.t 18) (.t 21) kF), dO 2 (.tk (.t 22))])
 (.ret))) }
def b_slices_Backward_api_Write_api_Write_1_0 : AC :=
 .seq (.seq (.reg [dO 7 (.mv (.t 3)), dO 8 (.ic .geq (.t 7) (kI 0))])
 (.cond (.t 8)
 (.skip)
 (.exit 0)))
 (.seq (.block 1 (.seq (.reg [dO 11 (.mv (.t 0)), dO 12 (.mv (.t 3)), dO 13 (.ld none (.t 1)), dO 14 (.mv (.t 3)), dO 15 (.ixa 36 none (.t 13) (.t 14)), dO 16 (.ld (some 36) (.t 15)), dO 17 (.callv (.t 11) [.t 12, .t 16]), dO 18 (.notb (.t 17))])
 (.cond (.t 18)
 (.ret)
 (.skip))))
 (.reg [dO 9 (.mv (.t 3)), dO 10 (.ia .sub .i64 (.t 9) (kI 1)), dO 3 (.tk (.t 10))]))
def l_slices_Backward_api_Write_api_Write_1_0 : AC :=
 .loop [0, 1, 3] b_slices_Backward_api_Write_api_Write_1_0
def c_slices_Backward_api_Write_api_Write_1 : AFunc :=
 { np := 2, res := [], body := (
 .seq (.reg [dO 4 (.ld none (.t 1)), dO 5 (.len false (.t 4)), dO 6 (.ia .sub .i64 (.t 5) (kI 1)), dO 3 (.tk (.t 6))])
 (.block 0 (l_slices_Backward_api_Write_api_Write_1_0))) }
def c_layout_RightInode : AFunc :=
 { np := 1, res := [.t 2], body := (
 .seq (.reg [dO 1 (.box (.t 0)), dO 2 (.tk kF)])
 (.seq (.seq (.reg [dO 5 (.fa 0 (.t 1)), dO 6 (.ld none (.t 5))])
 (.block 0 (.seq (.seq (.reg [dO 8 (.ic .eql (.t 6) (kI 0)), dO 7 (.tk (.t 8))])
 (.cond (.t 7)
 (.skip)
 (.reg [dO 9 (.ic .eql (.t 6) (kI 2)), dO 7 (.tk (.t 9))])))
 (.cond (.t 7)
 (.seq (.reg [dO 10 (.ld (some 6) (.t 1)), dO 11 (.fa 0 (.t 1)), dO 12 (.ld none (.t 11)), dO 13 (.bld [iZ, iZ, iZ, iZ, iZ, iZ] [(0, 1, .t 12)]), dO 14 (.eqa false [.int .i64, .int .i64, .int .i64, .int .i64, .int .i64, .int .i64] (.t 10) (.t 13)), dO 2 (.tk (.t 14))])
 (.ret))
 (.seq (.reg [dO 16 (.ic .eql (.t 6) (kI 1)), dO 15 (.tk (.t 16))])
 (.cond (.t 15)
 (.skip)
 (.seq (.reg [dO 2 (.tk kF)])
 (.ret))))))))
 (.seq (.seq (.reg [dO 17 (.fa 1 (.t 1)), dO 18 (.ld none (.t 17)), dO 19 (.ic .lss (.t 18) (kI 0)), dO 20 (.mv (.t 19)), ⟨some 21, (some (20, false)), .fa 1 (.t 1)⟩, ⟨some 22, (some (20, false)), .ld none (.t 21)⟩, ⟨some 23, (some (20, false)), .ic .gtr (.t 22) (kI 128)⟩, dO 24 (.pick (.t 20) kT (.t 23))])
 (.cond (.t 24)
 (.seq (.reg [dO 2 (.tk kF)])
 (.ret))
 (.skip)))
 (.seq (.reg [dO 25 (.fa 2 (.t 1)), dO 26 (.fa 1 (.t 1)), dO 27 (.ld none (.t 26)), dO 28 (.callc n_layout_need [.t 27]), dO 29 (.slp 1 4 (.t 25) none (some (.t 28)) none), dO 30 (.call n_slices_Clone_int_int [.t 29]), dO 3 (.tk (.t 30))])
 (.seq (.reg [dO 4 (.tk (.c (.fn (.func n_layout_RightInode_1) [] [])))])
 (.seq (.seq (.reg [dO 31 (.mv (.t 3)), dO 32 (.mv (.t 4)), dO 33 (.call n_slices_ContainsFunc_int_int [.t 31, .t 32]), dO 34 (.mv (.t 33)), ⟨some 35, (some (34, false)), .fa 2 (.t 1)⟩, ⟨some 36, (some (34, false)), .mv (.t 3)⟩, ⟨some 37, (some (34, false)), .len false (.t 36)⟩, ⟨some 38, (some (34, false)), .slp 1 4 (.t 35) (some (.t 37)) none none⟩, ⟨some 39, (some (34, false)), .call n_slices_ContainsFunc_int_int [.t 38, (.c (.fn (.func n_layout_RightInode_2) [] []))]⟩, dO 40 (.pick (.t 34) kT (.t 39))])
 (.cond (.t 40)
 (.seq (.reg [dO 2 (.tk kF)])
 (.ret))
 (.skip)))
 (.seq (.reg [dO 41 (.mv (.t 3)), dO 42 (.callc n_slices_Sort_int_int [.t 41])])
 (.seq (.drw [[], [], [], [], [], [], [], []] [dO 43 (.mv (.t 3)), dO 44 (.callc n_slices_Compact_int_int [.t 43]), dO 45 (.len false (.t 44)), dO 46 (.fa 1 (.t 1)), dO 47 (.ld none (.t 46)), dO 48 (.callc n_layout_need [.t 47]), dO 49 (.ic .eql (.t 45) (.t 48)), dO 2 (.tk (.t 49))])
 (.ret))))))))) }
def c_slices_Clone_int_int : AFunc :=
 { np := 1, res := [.t 2], body := (
 .seq (.reg [dO 2 (.tk (.c (.own 1 [])))])
 (.seq (.seq (.reg [dO 3 (.mv (.t 0)), dO 4 (.isn false (.t 3))])
 (.cond (.t 4)
 (.seq (.reg [dO 2 (.tk (.c (.own 1 [])))])
 (.ret))
 (.skip)))
 (.seq (.reg [dO 5 (.bsl 1 [iZ] 0 [] false), dO 6 (.mv (.t 0)), dO 7 (.app 1 8 (.t 5) (.t 6) false), dO 2 (.tk (.t 7))])
 (.ret)))) }
def c_layout_need : AFunc :=
 { np := 1, res := [.t 2], body := (
 .seq (.reg [dO 2 (.tk (kI 0))])
 (.seq (.reg [dO 3 (.mv (.t 0)), dO 4 (.ia .add .i64 (.t 3) (kI 32)), dO 5 (.ia .sub .i64 (.t 4) (kI 1)), dO 6 (.ia .quo .i64 (.t 5) (kI 32)), dO 2 (.tk (.t 6))])
 (.ret))) }
def c_layout_RightInode_1 : AFunc :=
 { np := 1, res := [.t 2], body := (
 .seq (.reg [dO 2 (.tk kF)])
 (.seq (.reg [dO 3 (.mv (.t 0)), dO 4 (.ic .lss (.t 3) (kI 1)), dO 5 (.mv (.t 4)), ⟨some 6, (some (5, false)), .mv (.t 0)⟩, ⟨some 7, (some (5, false)), .ic .gtr (.t 6) (kI 24)⟩, dO 8 (.pick (.t 5) kT (.t 7)), dO 2 (.tk (.t 8))])
 (.ret))) }
def c_slices_ContainsFunc_int_int : AFunc :=
 { np := 2, res := [.t 4], body := (
 .seq (.reg [dO 4 (.tk kF)])
 (.seq (.reg [dO 5 (.mv (.t 0)), dO 6 (.mv (.t 1)), dO 7 (.call n_slices_IndexFunc_int_int [.t 5, .t 6]), dO 8 (.ic .geq (.t 7) (kI 0)), dO 4 (.tk (.t 8))])
 (.ret))) }
def c_layout_RightInode_2 : AFunc :=
 { np := 1, res := [.t 2], body := (
 .seq (.reg [dO 2 (.tk kF)])
 (.seq (.reg [dO 3 (.mv (.t 0)), dO 4 (.ic .neq (.t 3) (kI 0)), dO 2 (.tk (.t 4))])
 (.ret))) }
def b_slices_IndexFunc_int_int_0 : AC :=
 .seq (.reg [dO 9 (.ic .lss (.t 8) (.t 7))])
 (.seq (.cond (.t 9)
 (.skip)
 (.exit 0))
 (.seq (.block 1 (.seq (.reg [dO 10 (.mv (.t 8)), dO 5 (.tk (.t 10))])
 (.seq (.reg [dO 11 (.mv (.t 1)), dO 12 (.mv (.t 0)), dO 13 (.mv (.t 5)), dO 14 (.ixa 1 none (.t 12) (.t 13)), dO 15 (.ld none (.t 14)), dO 16 (.callv (.t 11) [.t 15])])
 (.cond (.t 16)
 (.seq (.reg [dO 17 (.mv (.t 5)), dO 4 (.tk (.t 17))])
 (.ret))
 (.skip)))))
 (.reg [dO 18 (.ia .add .i64 (.t 8) (kI 1)), dO 8 (.mv (.t 18))])))
def l_slices_IndexFunc_int_int_0 : AC :=
 .loop [0, 1, 7, 8] b_slices_IndexFunc_int_int_0
def r_slices_IndexFunc_int_int_0 : AC :=
 .seq (.reg [dO 4 (.tk (kI (-1)))])
 (.ret)
def c_slices_IndexFunc_int_int : AFunc :=
 { np := 2, res := [.t 4], body := (
 .seq (.reg [dO 4 (.tk (kI 0))])
 (.seq (.seq (.reg [dO 6 (.mv (.t 0)), dO 7 (.len false (.t 6)), dO 8 (.mv (kI 0))])
 (.block 0 (l_slices_IndexFunc_int_int_0))) r_slices_IndexFunc_int_int_0)) }
def tbl : Tbl := Tab.get [(3, c_flotsamlaw10_AllocFree), (4, c_flotsamlaw10_knows), (5, c_flotsamlaw09_Disk), (6, c_alloc_Count), (7, c_alloc_Inode), (8, c_alloc_Slot), (9, c_alloc_Blocks), (10, c_look_Taken), (11, c_look_Entry), (12, c_flotsamlaw10_owned), (13, c_flotsamlaw04_Ints), (14, c_flotsamref07_Empty), (15, c_bdisk_From), (16, c_pbdisk_Disk_Write), (17, c_alloc_Count_1), (18, c_alloc_inodes), (19, c_alloc_blocks), (20, c_slices_Clone_bool_bool), (21, c_alloc_one), (22, c_alloc_first), (23, c_alloc_Inode_1), (24, c_alloc_Slot_1), (25, c_alloc_Blocks_1), (26, c_look_used), (27, c_layout_EntryOf), (28, c_look_at), (29, c_look_Inode), (30, c_flotsamref07_Super), (31, c_bdisk_New), (32, c_slices_Clone_api_Sector_api_Sector), (33, c_pbdisk_Disk_none), (34, c_pbdisk_faults_fails), (35, c_pbdisk_Disk_has), (36, c_pbdisk_Disk_note), (37, c_look_used_1), (38, c_sector_Zero), (39, c_sector_Cut), (40, c_layout_Entry), (41, c_pbdisk_Disk_Read), (42, c_layout_InodeOf), (43, c_sector_fits), (44, c_bytes_Clone), (45, c_layout_RightEntry), (46, c_slices_Backward_api_Write_api_Write), (47, c_layout_Inode), (48, c_layout_RightEntry_1), (49, c_layout_Name), (50, c_slices_Backward_api_Write_api_Write_1), (51, c_layout_RightInode), (53, c_slices_Clone_int_int), (54, c_layout_need), (55, c_layout_RightInode_1), (56, c_slices_ContainsFunc_int_int), (57, c_layout_RightInode_2), (67, c_slices_IndexFunc_int_int), (2001000, ⟨0, .seq a_look_Taken_0 y_look_Taken_0, []⟩), (2004100, ⟨0, .seq a_pbdisk_Disk_Read_0 y_pbdisk_Disk_Read_0, []⟩)]
theorem t_flotsamlaw10_AllocFree : tbl n_flotsamlaw10_AllocFree = some c_flotsamlaw10_AllocFree := by kernel_rfl
theorem t_flotsamlaw10_knows : tbl n_flotsamlaw10_knows = some c_flotsamlaw10_knows := by kernel_rfl
theorem t_flotsamlaw09_Disk : tbl n_flotsamlaw09_Disk = some c_flotsamlaw09_Disk := by kernel_rfl
theorem t_alloc_Count : tbl n_alloc_Count = some c_alloc_Count := by kernel_rfl
theorem t_alloc_Inode : tbl n_alloc_Inode = some c_alloc_Inode := by kernel_rfl
theorem t_alloc_Slot : tbl n_alloc_Slot = some c_alloc_Slot := by kernel_rfl
theorem t_alloc_Blocks : tbl n_alloc_Blocks = some c_alloc_Blocks := by kernel_rfl
theorem t_look_Taken : tbl n_look_Taken = some c_look_Taken := by kernel_rfl
theorem t_look_Entry : tbl n_look_Entry = some c_look_Entry := by kernel_rfl
theorem t_flotsamlaw10_owned : tbl n_flotsamlaw10_owned = some c_flotsamlaw10_owned := by kernel_rfl
theorem t_flotsamlaw04_Ints : tbl n_flotsamlaw04_Ints = some c_flotsamlaw04_Ints := by kernel_rfl
theorem t_flotsamref07_Empty : tbl n_flotsamref07_Empty = some c_flotsamref07_Empty := by kernel_rfl
theorem t_bdisk_From : tbl n_bdisk_From = some c_bdisk_From := by kernel_rfl
theorem t_pbdisk_Disk_Write : tbl n_pbdisk_Disk_Write = some c_pbdisk_Disk_Write := by kernel_rfl
theorem t_alloc_Count_1 : tbl n_alloc_Count_1 = some c_alloc_Count_1 := by kernel_rfl
theorem t_alloc_inodes : tbl n_alloc_inodes = some c_alloc_inodes := by kernel_rfl
theorem t_alloc_blocks : tbl n_alloc_blocks = some c_alloc_blocks := by kernel_rfl
theorem t_slices_Clone_bool_bool : tbl n_slices_Clone_bool_bool = some c_slices_Clone_bool_bool := by kernel_rfl
theorem t_alloc_one : tbl n_alloc_one = some c_alloc_one := by kernel_rfl
theorem t_alloc_first : tbl n_alloc_first = some c_alloc_first := by kernel_rfl
theorem t_alloc_Inode_1 : tbl n_alloc_Inode_1 = some c_alloc_Inode_1 := by kernel_rfl
theorem t_alloc_Slot_1 : tbl n_alloc_Slot_1 = some c_alloc_Slot_1 := by kernel_rfl
theorem t_alloc_Blocks_1 : tbl n_alloc_Blocks_1 = some c_alloc_Blocks_1 := by kernel_rfl
theorem t_look_used : tbl n_look_used = some c_look_used := by kernel_rfl
theorem t_layout_EntryOf : tbl n_layout_EntryOf = some c_layout_EntryOf := by kernel_rfl
theorem t_look_at : tbl n_look_at = some c_look_at := by kernel_rfl
theorem t_look_Inode : tbl n_look_Inode = some c_look_Inode := by kernel_rfl
theorem t_flotsamref07_Super : tbl n_flotsamref07_Super = some c_flotsamref07_Super := by kernel_rfl
theorem t_bdisk_New : tbl n_bdisk_New = some c_bdisk_New := by kernel_rfl
theorem t_slices_Clone_api_Sector_api_Sector : tbl n_slices_Clone_api_Sector_api_Sector = some c_slices_Clone_api_Sector_api_Sector := by kernel_rfl
theorem t_pbdisk_Disk_none : tbl n_pbdisk_Disk_none = some c_pbdisk_Disk_none := by kernel_rfl
theorem t_pbdisk_faults_fails : tbl n_pbdisk_faults_fails = some c_pbdisk_faults_fails := by kernel_rfl
theorem t_pbdisk_Disk_has : tbl n_pbdisk_Disk_has = some c_pbdisk_Disk_has := by kernel_rfl
theorem t_pbdisk_Disk_note : tbl n_pbdisk_Disk_note = some c_pbdisk_Disk_note := by kernel_rfl
theorem t_look_used_1 : tbl n_look_used_1 = some c_look_used_1 := by kernel_rfl
theorem t_sector_Zero : tbl n_sector_Zero = some c_sector_Zero := by kernel_rfl
theorem t_sector_Cut : tbl n_sector_Cut = some c_sector_Cut := by kernel_rfl
theorem t_layout_Entry : tbl n_layout_Entry = some c_layout_Entry := by kernel_rfl
theorem t_pbdisk_Disk_Read : tbl n_pbdisk_Disk_Read = some c_pbdisk_Disk_Read := by kernel_rfl
theorem t_layout_InodeOf : tbl n_layout_InodeOf = some c_layout_InodeOf := by kernel_rfl
theorem t_sector_fits : tbl n_sector_fits = some c_sector_fits := by kernel_rfl
theorem t_bytes_Clone : tbl n_bytes_Clone = some c_bytes_Clone := by kernel_rfl
theorem t_layout_RightEntry : tbl n_layout_RightEntry = some c_layout_RightEntry := by kernel_rfl
theorem t_slices_Backward_api_Write_api_Write : tbl n_slices_Backward_api_Write_api_Write = some c_slices_Backward_api_Write_api_Write := by kernel_rfl
theorem t_layout_Inode : tbl n_layout_Inode = some c_layout_Inode := by kernel_rfl
theorem t_layout_RightEntry_1 : tbl n_layout_RightEntry_1 = some c_layout_RightEntry_1 := by kernel_rfl
theorem t_layout_Name : tbl n_layout_Name = some c_layout_Name := by kernel_rfl
theorem t_slices_Backward_api_Write_api_Write_1 : tbl n_slices_Backward_api_Write_api_Write_1 = some c_slices_Backward_api_Write_api_Write_1 := by kernel_rfl
theorem t_layout_RightInode : tbl n_layout_RightInode = some c_layout_RightInode := by kernel_rfl
theorem t_slices_Clone_int_int : tbl n_slices_Clone_int_int = some c_slices_Clone_int_int := by kernel_rfl
theorem t_layout_need : tbl n_layout_need = some c_layout_need := by kernel_rfl
theorem t_layout_RightInode_1 : tbl n_layout_RightInode_1 = some c_layout_RightInode_1 := by kernel_rfl
theorem t_slices_ContainsFunc_int_int : tbl n_slices_ContainsFunc_int_int = some c_slices_ContainsFunc_int_int := by kernel_rfl
theorem t_layout_RightInode_2 : tbl n_layout_RightInode_2 = some c_layout_RightInode_2 := by kernel_rfl
theorem t_slices_IndexFunc_int_int : tbl n_slices_IndexFunc_int_int = some c_slices_IndexFunc_int_int := by kernel_rfl
theorem u_look_Taken_0 : tbl q_look_Taken_0 = some ⟨0, .seq a_look_Taken_0 y_look_Taken_0, []⟩ := by kernel_rfl
theorem u_pbdisk_Disk_Read_0 : tbl q_pbdisk_Disk_Read_0 = some ⟨0, .seq a_pbdisk_Disk_Read_0 y_pbdisk_Disk_Read_0, []⟩ := by kernel_rfl
def noExt : Ext := fun k => if k = n_strings_Trim then some (xTrim) else if k = n_layout_RightInode then some (xRightInode) else none
@[simp] theorem lt_flotsamlaw10_AllocFree : n_flotsamlaw10_AllocFree < yBase := ltB rfl
@[simp] theorem ltAll : n_flotsamlaw10_knows < yBase ∧ n_flotsamlaw09_Disk < yBase ∧ n_alloc_Count < yBase ∧ n_alloc_Inode < yBase ∧ n_alloc_Slot < yBase ∧ n_alloc_Blocks < yBase ∧ n_look_Taken < yBase ∧ n_look_Entry < yBase ∧ n_flotsamlaw10_owned < yBase ∧ n_flotsamlaw04_Ints < yBase ∧ n_flotsamref07_Empty < yBase ∧ n_bdisk_From < yBase ∧ n_pbdisk_Disk_Write < yBase ∧ n_alloc_Count_1 < yBase ∧ n_alloc_inodes < yBase ∧ n_alloc_blocks < yBase ∧ n_slices_Clone_bool_bool < yBase ∧ n_alloc_one < yBase ∧ n_alloc_first < yBase ∧ n_look_used < yBase ∧ n_layout_EntryOf < yBase ∧ n_look_at < yBase ∧ n_look_Inode < yBase ∧ n_flotsamref07_Super < yBase ∧ n_bdisk_New < yBase ∧ n_slices_Clone_api_Sector_api_Sector < yBase ∧ n_pbdisk_Disk_none < yBase ∧ n_pbdisk_faults_fails < yBase ∧ n_pbdisk_Disk_has < yBase ∧ n_pbdisk_Disk_note < yBase ∧ n_look_used_1 < yBase ∧ n_sector_Zero < yBase ∧ n_sector_Cut < yBase ∧ n_layout_Entry < yBase ∧ n_pbdisk_Disk_Read < yBase ∧ n_layout_InodeOf < yBase ∧ n_sector_fits < yBase ∧ n_bytes_Clone < yBase ∧ n_layout_RightEntry < yBase ∧ n_slices_Backward_api_Write_api_Write < yBase ∧ n_layout_Inode < yBase ∧ n_layout_Name < yBase ∧ n_slices_Backward_api_Write_api_Write_1 < yBase ∧ n_slices_Clone_int_int < yBase ∧ n_layout_need < yBase ∧ n_slices_Sort_int_int < yBase ∧ n_slices_Compact_int_int < yBase ∧ n_slices_IndexFunc_int_int < yBase := by and_intros <;> exact ltB rfl
@[simp] theorem lt_alloc_Inode_1 : n_alloc_Inode_1 < yBase := ltB rfl
@[simp] theorem lt_alloc_Slot_1 : n_alloc_Slot_1 < yBase := ltB rfl
@[simp] theorem lt_alloc_Blocks_1 : n_alloc_Blocks_1 < yBase := ltB rfl
@[simp] theorem lt_layout_RightEntry_1 : n_layout_RightEntry_1 < yBase := ltB rfl
@[simp] theorem lt_layout_RightInode : n_layout_RightInode < yBase := ltB rfl
@[simp] theorem lt_strings_Trim : n_strings_Trim < yBase := ltB rfl
@[simp] theorem lt_layout_RightInode_1 : n_layout_RightInode_1 < yBase := ltB rfl
@[simp] theorem lt_slices_ContainsFunc_int_int : n_slices_ContainsFunc_int_int < yBase := ltB rfl
@[simp] theorem lt_layout_RightInode_2 : n_layout_RightInode_2 < yBase := ltB rfl
end Go.AM
