/-
  The abstract code of the functions, printed by a program (gen.py) out of the loaded program, and each function's place in the table.
-/
import Derived.Test.YtfmpfhfeokemcaaDoorXlib
namespace Go.AM

def n_flotsamlaw07_LayoutInodes : Nat := 3
def n_flotsamlaw07_LayoutMounts : Nat := 4
def n_flotsamlaw07_LayoutEntries : Nat := 5
def n_flotsamlaw07_LayoutBack : Nat := 6
def n_layout_Inode : Nat := 7
def n_flotsamref07_Inode : Nat := 8
def n_layout_InodeOf : Nat := 9
def n_flotsamref07_InodeOf : Nat := 10
def n_layout_RightInode : Nat := 11
def n_flotsamref07_RightInode : Nat := 12
def n_flotsamlaw07_knows : Nat := 13
def n_flotsamlaw04_Same : Nat := 14
def n_layout_Empty : Nat := 15
def n_flotsamref07_Empty : Nat := 16
def n_layout_Mounts : Nat := 17
def n_flotsamref07_Mounts : Nat := 18
def n_layout_Entry : Nat := 19
def n_flotsamref07_Entry : Nat := 20
def n_layout_EntryOf : Nat := 21
def n_flotsamref07_EntryOf : Nat := 22
def n_layout_RightEntry : Nat := 23
def n_flotsamref07_RightEntry : Nat := 24
def n_layout_Name : Nat := 25
def n_flotsamref07_Name : Nat := 26
def n_sector_Torn : Nat := 27
def n_slices_Clone_int_int : Nat := 28
def n_layout_need : Nat := 29
def n_layout_RightInode_1 : Nat := 30
def n_slices_ContainsFunc_int_int : Nat := 31
def n_layout_RightInode_2 : Nat := 32
def n_slices_Sort_int_int : Nat := 33
def n_slices_Compact_int_int : Nat := 34
def n_flotsamref07_Need : Nat := 35
def n_flotsamref04_Unlike : Nat := 36
def n_layout_super : Nat := 37
def n_flotsamref07_Super : Nat := 38
def n_sector_Zero : Nat := 39
def n_sector_Cut : Nat := 40
def n_layout_RightEntry_1 : Nat := 41
def n_strings_Trim : Nat := 42
def n_slices_IndexFunc_int_int : Nat := 43
def n_slices_pdqsortOrdered_int : Nat := 44
def n_math_bits_Len : Nat := 45
def n_sector_Of : Nat := 46
def n_sector_fits : Nat := 47
def n_bytes_Clone : Nat := 48
def n_slices_insertionSortOrdered_int : Nat := 56
def n_slices_heapSortOrdered_int : Nat := 57
def n_slices_breakPatternsOrdered_int : Nat := 58
def n_slices_choosePivotOrdered_int : Nat := 59
def n_slices_reverseRangeOrdered_int : Nat := 60
def n_slices_partialInsertionSortOrdered_int : Nat := 61
def n_cmp_Less_int : Nat := 62
def n_slices_partitionEqualOrdered_int : Nat := 63
def n_slices_partitionOrdered_int : Nat := 64
def n_math_bits_Len32 : Nat := 65
def n_math_bits_Len64 : Nat := 66
def n_sector_Put : Nat := 67
def n_slices_siftDownOrdered_int : Nat := 72
def n_slices_nextPowerOfTwo : Nat := 73
def n_pslices_xorshift_Next : Nat := 74
def n_slices_medianAdjacentOrdered_int : Nat := 75
def n_slices_medianOrdered_int : Nat := 76
def n_cmp_isNaN_int : Nat := 77
def n_slices_order2Ordered_int : Nat := 81


-- flotsam/flotsamlaw07.LayoutInodes
def c_flotsamlaw07_LayoutInodes : AFunc :=
  { np := 2, res := [.t 4], body := (
    .seq (.reg [⟨some 2, none, .box (.t 0)⟩, ⟨some 3, none, .box (.t 1)⟩, ⟨some 4, none, .tk (.c (.bool false))⟩])
    (.seq (.reg [⟨some 14, none, .ld (some 6) (.t 2)⟩, ⟨some 15, none, .callc n_layout_Inode [(.t 14)]⟩, ⟨some 13, none, .mv (.t 15)⟩, ⟨some 16, none, .ext (.t 13) 0⟩, ⟨some 17, none, .ext (.t 13) 1⟩, ⟨some 5, none, .alloc [.int .u8 0, .int .u8 0, .int .u8 0, .int .u8 0, .int .u8 0, .int .u8 0, .int .u8 0, .int .u8 0, .int .u8 0, .int .u8 0, .int .u8 0, .int .u8 0, .int .u8 0, .int .u8 0, .int .u8 0, .int .u8 0, .int .u8 0, .int .u8 0, .int .u8 0, .int .u8 0, .int .u8 0, .int .u8 0, .int .u8 0, .int .u8 0, .int .u8 0, .int .u8 0, .int .u8 0, .int .u8 0, .int .u8 0, .int .u8 0, .int .u8 0, .int .u8 0]⟩, ⟨none, none, .st 32 (.t 5) (.t 16)⟩, ⟨some 6, none, .tk (.t 17)⟩])
    (.seq (.reg [⟨some 19, none, .ld (some 6) (.t 2)⟩, ⟨some 20, none, .callc n_flotsamref07_Inode [(.t 19)]⟩, ⟨some 18, none, .mv (.t 20)⟩, ⟨some 21, none, .ext (.t 18) 0⟩, ⟨some 22, none, .ext (.t 18) 1⟩, ⟨some 7, none, .alloc [.int .u8 0, .int .u8 0, .int .u8 0, .int .u8 0, .int .u8 0, .int .u8 0, .int .u8 0, .int .u8 0, .int .u8 0, .int .u8 0, .int .u8 0, .int .u8 0, .int .u8 0, .int .u8 0, .int .u8 0, .int .u8 0, .int .u8 0, .int .u8 0, .int .u8 0, .int .u8 0, .int .u8 0, .int .u8 0, .int .u8 0, .int .u8 0, .int .u8 0, .int .u8 0, .int .u8 0, .int .u8 0, .int .u8 0, .int .u8 0, .int .u8 0, .int .u8 0]⟩, ⟨none, none, .st 32 (.t 7) (.t 21)⟩, ⟨some 8, none, .tk (.t 22)⟩])
    (.seq (.reg [⟨some 24, none, .ld (some 32) (.t 3)⟩, ⟨some 25, none, .callc n_layout_InodeOf [(.t 24)]⟩, ⟨some 23, none, .mv (.t 25)⟩, ⟨some 26, none, .ext (.t 23) 0⟩, ⟨some 27, none, .ext (.t 23) 1⟩, ⟨some 9, none, .alloc [.int .i64 0, .int .i64 0, .int .i64 0, .int .i64 0, .int .i64 0, .int .i64 0]⟩, ⟨none, none, .st 6 (.t 9) (.t 26)⟩, ⟨some 10, none, .tk (.t 27)⟩])
    (.seq (.reg [⟨some 29, none, .ld (some 32) (.t 3)⟩, ⟨some 30, none, .callc n_flotsamref07_InodeOf [(.t 29)]⟩, ⟨some 28, none, .mv (.t 30)⟩, ⟨some 31, none, .ext (.t 28) 0⟩, ⟨some 32, none, .ext (.t 28) 1⟩, ⟨some 11, none, .alloc [.int .i64 0, .int .i64 0, .int .i64 0, .int .i64 0, .int .i64 0, .int .i64 0]⟩, ⟨none, none, .st 6 (.t 11) (.t 31)⟩, ⟨some 12, none, .tk (.t 32)⟩])
    (.seq (.drw [[], [], [], [], [], [], [], [], [], [], [], [], [], [], [], [], [], [], [], [], [], [], [], [], [], [], [], [], []] [⟨some 33, none, .ld (some 32) (.t 5)⟩, ⟨some 34, none, .ld (some 32) (.t 7)⟩, ⟨some 35, none, .eqa false [.int .u8, .int .u8, .int .u8, .int .u8, .int .u8, .int .u8, .int .u8, .int .u8, .int .u8, .int .u8, .int .u8, .int .u8, .int .u8, .int .u8, .int .u8, .int .u8, .int .u8, .int .u8, .int .u8, .int .u8, .int .u8, .int .u8, .int .u8, .int .u8, .int .u8, .int .u8, .int .u8, .int .u8, .int .u8, .int .u8, .int .u8, .int .u8] (.t 33) (.t 34)⟩, ⟨some 36, none, .mv (.t 35)⟩, ⟨some 37, (some (36, true)), .mv (.t 6)⟩, ⟨some 38, (some (36, true)), .mv (.t 8)⟩, ⟨some 39, (some (36, true)), .eqb false (.t 37) (.t 38)⟩, ⟨some 40, none, .pick (.t 36) (.t 39) (.c (.bool false))⟩, ⟨some 41, none, .mv (.t 40)⟩, ⟨some 42, (some (41, true)), .ld (some 6) (.t 9)⟩, ⟨some 43, (some (41, true)), .ld (some 6) (.t 11)⟩, ⟨some 44, (some (41, true)), .eqa false [.int .i64, .int .i64, .int .i64, .int .i64, .int .i64, .int .i64] (.t 42) (.t 43)⟩, ⟨some 45, none, .pick (.t 41) (.t 44) (.c (.bool false))⟩, ⟨some 46, none, .mv (.t 45)⟩, ⟨some 47, (some (46, true)), .mv (.t 10)⟩, ⟨some 48, (some (46, true)), .mv (.t 12)⟩, ⟨some 49, (some (46, true)), .eqb false (.t 47) (.t 48)⟩, ⟨some 50, none, .pick (.t 46) (.t 49) (.c (.bool false))⟩, ⟨some 51, none, .mv (.t 50)⟩, ⟨some 52, (some (51, true)), .ld (some 6) (.t 2)⟩, ⟨some 53, (some (51, true)), .callc n_layout_RightInode [(.t 52)]⟩, ⟨some 54, (some (51, true)), .ld (some 6) (.t 2)⟩, ⟨some 55, (some (51, true)), .callc n_flotsamref07_RightInode [(.t 54)]⟩, ⟨some 56, (some (51, true)), .eqb false (.t 53) (.t 55)⟩, ⟨some 57, none, .pick (.t 51) (.t 56) (.c (.bool false))⟩, ⟨some 58, none, .mv (.t 57)⟩, ⟨some 59, (some (58, true)), .callc n_flotsamlaw07_knows []⟩, ⟨some 60, none, .pick (.t 58) (.t 59) (.c (.bool false))⟩, ⟨some 4, none, .tk (.t 60)⟩])
    (.ret))))))) }

-- flotsam/flotsamlaw07.LayoutMounts
def c_flotsamlaw07_LayoutMounts : AFunc :=
  { np := 1, res := [.t 2], body := (
    .seq (.reg [⟨some 2, none, .tk (.c (.bool false))⟩])
    (.seq (.seq (.reg [⟨some 3, none, .mv (.t 0)⟩, ⟨some 4, none, .len false (.t 3)⟩, ⟨some 5, none, .ic .gtr (.t 4) (.c (.int .i64 200))⟩])
      (.cond (.t 5)
        (.seq (.reg [⟨some 6, none, .callc n_flotsamlaw07_knows []⟩, ⟨some 2, none, .tk (.t 6)⟩])
          (.ret))
        (.skip)))
    (.seq (.reg [⟨some 7, none, .callc n_layout_Empty []⟩, ⟨some 8, none, .callc n_flotsamref07_Empty []⟩, ⟨some 9, none, .callc n_flotsamlaw04_Same [(.t 7), (.t 8)]⟩, ⟨some 10, none, .mv (.t 9)⟩, ⟨some 11, (some (10, true)), .mv (.t 0)⟩, ⟨some 12, (some (10, true)), .callc n_layout_Mounts [(.t 11)]⟩, ⟨some 13, (some (10, true)), .mv (.t 0)⟩, ⟨some 14, (some (10, true)), .callc n_flotsamref07_Mounts [(.t 13)]⟩, ⟨some 15, (some (10, true)), .eqb false (.t 12) (.t 14)⟩, ⟨some 16, none, .pick (.t 10) (.t 15) (.c (.bool false))⟩, ⟨some 17, none, .mv (.t 16)⟩, ⟨some 18, (some (17, true)), .callc n_flotsamlaw07_knows []⟩, ⟨some 19, none, .pick (.t 17) (.t 18) (.c (.bool false))⟩, ⟨some 2, none, .tk (.t 19)⟩])
    (.ret)))) }

-- flotsam/flotsamlaw07.LayoutEntries
def c_flotsamlaw07_LayoutEntries : AFunc :=
  { np := 3, res := [.t 6], body := (
    .seq (.reg [⟨some 3, none, .box (.t 0)⟩, ⟨some 4, none, .box (.t 1)⟩, ⟨some 6, none, .tk (.c (.bool false))⟩])
    (.seq (.seq (.reg [⟨some 15, none, .fa 2 (.t 3)⟩, ⟨some 16, none, .ld none (.t 15)⟩, ⟨some 17, none, .len true (.t 16)⟩, ⟨some 18, none, .ic .gtr (.t 17) (.c (.int .i64 300))⟩, ⟨some 19, none, .mv (.t 18)⟩, ⟨some 20, (some (19, false)), .mv (.t 2)⟩, ⟨some 21, (some (19, false)), .len true (.t 20)⟩, ⟨some 22, (some (19, false)), .ic .gtr (.t 21) (.c (.int .i64 300))⟩, ⟨some 23, none, .pick (.t 19) (.c (.bool true)) (.t 22)⟩])
      (.cond (.t 23)
        (.seq (.reg [⟨some 24, none, .callc n_flotsamlaw07_knows []⟩, ⟨some 6, none, .tk (.t 24)⟩])
          (.ret))
        (.skip)))
    (.seq (.reg [⟨some 26, none, .ld (some 4) (.t 3)⟩, ⟨some 27, none, .callc n_layout_Entry [(.t 26)]⟩, ⟨some 25, none, .mv (.t 27)⟩, ⟨some 28, none, .ext (.t 25) 0⟩, ⟨some 29, none, .ext (.t 25) 1⟩, ⟨some 7, none, .alloc [.int .u8 0, .int .u8 0, .int .u8 0, .int .u8 0, .int .u8 0, .int .u8 0, .int .u8 0, .int .u8 0, .int .u8 0, .int .u8 0, .int .u8 0, .int .u8 0, .int .u8 0, .int .u8 0, .int .u8 0, .int .u8 0, .int .u8 0, .int .u8 0, .int .u8 0, .int .u8 0, .int .u8 0, .int .u8 0, .int .u8 0, .int .u8 0, .int .u8 0, .int .u8 0, .int .u8 0, .int .u8 0, .int .u8 0, .int .u8 0, .int .u8 0, .int .u8 0]⟩, ⟨none, none, .st 32 (.t 7) (.t 28)⟩, ⟨some 8, none, .tk (.t 29)⟩])
    (.seq (.reg [⟨some 31, none, .ld (some 4) (.t 3)⟩, ⟨some 32, none, .callc n_flotsamref07_Entry [(.t 31)]⟩, ⟨some 30, none, .mv (.t 32)⟩, ⟨some 33, none, .ext (.t 30) 0⟩, ⟨some 34, none, .ext (.t 30) 1⟩, ⟨some 9, none, .alloc [.int .u8 0, .int .u8 0, .int .u8 0, .int .u8 0, .int .u8 0, .int .u8 0, .int .u8 0, .int .u8 0, .int .u8 0, .int .u8 0, .int .u8 0, .int .u8 0, .int .u8 0, .int .u8 0, .int .u8 0, .int .u8 0, .int .u8 0, .int .u8 0, .int .u8 0, .int .u8 0, .int .u8 0, .int .u8 0, .int .u8 0, .int .u8 0, .int .u8 0, .int .u8 0, .int .u8 0, .int .u8 0, .int .u8 0, .int .u8 0, .int .u8 0, .int .u8 0]⟩, ⟨none, none, .st 32 (.t 9) (.t 33)⟩, ⟨some 10, none, .tk (.t 34)⟩])
    (.seq (.reg [⟨some 36, none, .ld (some 32) (.t 4)⟩, ⟨some 37, none, .callc n_layout_EntryOf [(.t 36)]⟩, ⟨some 35, none, .mv (.t 37)⟩, ⟨some 38, none, .ext (.t 35) 0⟩, ⟨some 39, none, .ext (.t 35) 1⟩, ⟨some 11, none, .alloc [.bool false, .int .i64 0, .str [], .int .i64 0]⟩, ⟨none, none, .st 4 (.t 11) (.t 38)⟩, ⟨some 12, none, .tk (.t 39)⟩])
    (.seq (.reg [⟨some 41, none, .ld (some 32) (.t 4)⟩, ⟨some 42, none, .callc n_flotsamref07_EntryOf [(.t 41)]⟩, ⟨some 40, none, .mv (.t 42)⟩, ⟨some 43, none, .ext (.t 40) 0⟩, ⟨some 44, none, .ext (.t 40) 1⟩, ⟨some 13, none, .alloc [.bool false, .int .i64 0, .str [], .int .i64 0]⟩, ⟨none, none, .st 4 (.t 13) (.t 43)⟩, ⟨some 14, none, .tk (.t 44)⟩])
    (.seq (.drw [[], [], [], [], [], [], [], [], [], [], [], [], [], [], [], [], [], [], [], [], [], [], [], [], [], [], [], [], [], [], [], [], [], [], [], []] [⟨some 45, none, .ld (some 32) (.t 7)⟩, ⟨some 46, none, .ld (some 32) (.t 9)⟩, ⟨some 47, none, .eqa false [.int .u8, .int .u8, .int .u8, .int .u8, .int .u8, .int .u8, .int .u8, .int .u8, .int .u8, .int .u8, .int .u8, .int .u8, .int .u8, .int .u8, .int .u8, .int .u8, .int .u8, .int .u8, .int .u8, .int .u8, .int .u8, .int .u8, .int .u8, .int .u8, .int .u8, .int .u8, .int .u8, .int .u8, .int .u8, .int .u8, .int .u8, .int .u8] (.t 45) (.t 46)⟩, ⟨some 48, none, .mv (.t 47)⟩, ⟨some 49, (some (48, true)), .mv (.t 8)⟩, ⟨some 50, (some (48, true)), .mv (.t 10)⟩, ⟨some 51, (some (48, true)), .eqb false (.t 49) (.t 50)⟩, ⟨some 52, none, .pick (.t 48) (.t 51) (.c (.bool false))⟩, ⟨some 53, none, .mv (.t 52)⟩, ⟨some 54, (some (53, true)), .ld (some 4) (.t 11)⟩, ⟨some 55, (some (53, true)), .ld (some 4) (.t 13)⟩, ⟨some 56, (some (53, true)), .eqa false [.bool, .int .i64, .str, .int .i64] (.t 54) (.t 55)⟩, ⟨some 57, none, .pick (.t 53) (.t 56) (.c (.bool false))⟩, ⟨some 58, none, .mv (.t 57)⟩, ⟨some 59, (some (58, true)), .mv (.t 12)⟩, ⟨some 60, (some (58, true)), .mv (.t 14)⟩, ⟨some 61, (some (58, true)), .eqb false (.t 59) (.t 60)⟩, ⟨some 62, none, .pick (.t 58) (.t 61) (.c (.bool false))⟩, ⟨some 63, none, .mv (.t 62)⟩, ⟨some 64, (some (63, true)), .ld (some 4) (.t 3)⟩, ⟨some 65, (some (63, true)), .callc n_layout_RightEntry [(.t 64)]⟩, ⟨some 66, (some (63, true)), .ld (some 4) (.t 3)⟩, ⟨some 67, (some (63, true)), .callc n_flotsamref07_RightEntry [(.t 66)]⟩, ⟨some 68, (some (63, true)), .eqb false (.t 65) (.t 67)⟩, ⟨some 69, none, .pick (.t 63) (.t 68) (.c (.bool false))⟩, ⟨some 70, none, .mv (.t 69)⟩, ⟨some 71, (some (70, true)), .mv (.t 2)⟩, ⟨some 72, (some (70, true)), .callc n_layout_Name [(.t 71)]⟩, ⟨some 73, (some (70, true)), .mv (.t 2)⟩, ⟨some 74, (some (70, true)), .callc n_flotsamref07_Name [(.t 73)]⟩, ⟨some 75, (some (70, true)), .eqb false (.t 72) (.t 74)⟩, ⟨some 76, none, .pick (.t 70) (.t 75) (.c (.bool false))⟩, ⟨some 77, none, .mv (.t 76)⟩, ⟨some 78, (some (77, true)), .callc n_flotsamlaw07_knows []⟩, ⟨some 79, none, .pick (.t 77) (.t 78) (.c (.bool false))⟩, ⟨some 6, none, .tk (.t 79)⟩])
    (.ret)))))))) }

-- flotsam/flotsamlaw07.LayoutBack
def c_flotsamlaw07_LayoutBack : AFunc :=
  { np := 4, res := [.t 8], body := (
    .seq (.reg [⟨some 4, none, .box (.t 0)⟩, ⟨some 5, none, .box (.t 1)⟩, ⟨some 6, none, .box (.t 2)⟩, ⟨some 7, none, .box (.t 3)⟩, ⟨some 8, none, .tk (.c (.bool false))⟩])
    (.seq (.seq (.reg [⟨some 27, none, .fa 2 (.t 6)⟩, ⟨some 28, none, .ld none (.t 27)⟩, ⟨some 29, none, .len true (.t 28)⟩, ⟨some 30, none, .ic .gtr (.t 29) (.c (.int .i64 300))⟩, ⟨some 31, none, .mv (.t 30)⟩, ⟨some 32, (some (31, false)), .callc n_flotsamlaw07_knows []⟩, ⟨some 33, (some (31, false)), .notb (.t 32)⟩, ⟨some 34, none, .pick (.t 31) (.c (.bool true)) (.t 33)⟩])
      (.cond (.t 34)
        (.seq (.reg [⟨some 35, none, .callc n_flotsamlaw07_knows []⟩, ⟨some 8, none, .tk (.t 35)⟩])
          (.ret))
        (.skip)))
    (.seq (.reg [⟨some 37, none, .ld (some 6) (.t 4)⟩, ⟨some 38, none, .callc n_layout_Inode [(.t 37)]⟩, ⟨some 36, none, .mv (.t 38)⟩, ⟨some 39, none, .ext (.t 36) 0⟩, ⟨some 40, none, .ext (.t 36) 1⟩, ⟨some 9, none, .alloc [.int .u8 0, .int .u8 0, .int .u8 0, .int .u8 0, .int .u8 0, .int .u8 0, .int .u8 0, .int .u8 0, .int .u8 0, .int .u8 0, .int .u8 0, .int .u8 0, .int .u8 0, .int .u8 0, .int .u8 0, .int .u8 0, .int .u8 0, .int .u8 0, .int .u8 0, .int .u8 0, .int .u8 0, .int .u8 0, .int .u8 0, .int .u8 0, .int .u8 0, .int .u8 0, .int .u8 0, .int .u8 0, .int .u8 0, .int .u8 0, .int .u8 0, .int .u8 0]⟩, ⟨none, none, .st 32 (.t 9) (.t 39)⟩, ⟨some 10, none, .tk (.t 40)⟩])
    (.seq (.reg [⟨some 42, none, .ld (some 6) (.t 5)⟩, ⟨some 43, none, .callc n_layout_Inode [(.t 42)]⟩, ⟨some 41, none, .mv (.t 43)⟩, ⟨some 44, none, .ext (.t 41) 0⟩, ⟨some 45, none, .ext (.t 41) 1⟩, ⟨some 11, none, .alloc [.int .u8 0, .int .u8 0, .int .u8 0, .int .u8 0, .int .u8 0, .int .u8 0, .int .u8 0, .int .u8 0, .int .u8 0, .int .u8 0, .int .u8 0, .int .u8 0, .int .u8 0, .int .u8 0, .int .u8 0, .int .u8 0, .int .u8 0, .int .u8 0, .int .u8 0, .int .u8 0, .int .u8 0, .int .u8 0, .int .u8 0, .int .u8 0, .int .u8 0, .int .u8 0, .int .u8 0, .int .u8 0, .int .u8 0, .int .u8 0, .int .u8 0, .int .u8 0]⟩, ⟨none, none, .st 32 (.t 11) (.t 44)⟩, ⟨some 12, none, .tk (.t 45)⟩])
    (.seq (.reg [⟨some 47, none, .ld (some 4) (.t 6)⟩, ⟨some 48, none, .callc n_layout_Entry [(.t 47)]⟩, ⟨some 46, none, .mv (.t 48)⟩, ⟨some 49, none, .ext (.t 46) 0⟩, ⟨some 50, none, .ext (.t 46) 1⟩, ⟨some 13, none, .alloc [.int .u8 0, .int .u8 0, .int .u8 0, .int .u8 0, .int .u8 0, .int .u8 0, .int .u8 0, .int .u8 0, .int .u8 0, .int .u8 0, .int .u8 0, .int .u8 0, .int .u8 0, .int .u8 0, .int .u8 0, .int .u8 0, .int .u8 0, .int .u8 0, .int .u8 0, .int .u8 0, .int .u8 0, .int .u8 0, .int .u8 0, .int .u8 0, .int .u8 0, .int .u8 0, .int .u8 0, .int .u8 0, .int .u8 0, .int .u8 0, .int .u8 0, .int .u8 0]⟩, ⟨none, none, .st 32 (.t 13) (.t 49)⟩, ⟨some 14, none, .tk (.t 50)⟩])
    (.seq (.seq (.reg [⟨some 51, none, .mv (.t 10)⟩])
      (.cond (.t 51)
        (.seq (.reg [⟨some 53, none, .ld (some 32) (.t 9)⟩, ⟨some 54, none, .callc n_layout_InodeOf [(.t 53)]⟩, ⟨some 52, none, .mv (.t 54)⟩, ⟨some 55, none, .ext (.t 52) 0⟩, ⟨some 56, none, .ext (.t 52) 1⟩, ⟨some 15, none, .alloc [.int .i64 0, .int .i64 0, .int .i64 0, .int .i64 0, .int .i64 0, .int .i64 0]⟩, ⟨none, none, .st 6 (.t 15) (.t 55)⟩, ⟨some 16, none, .tk (.t 56)⟩])
          (.seq (.drw [[], [], [], [], [], [], [], [], [], [], [], [], [], [], [], [], []] [⟨some 57, none, .mv (.t 16)⟩, ⟨some 58, none, .notb (.t 57)⟩, ⟨some 59, none, .mv (.t 58)⟩, ⟨some 60, (some (59, false)), .ld (some 6) (.t 15)⟩, ⟨some 61, (some (59, false)), .ld (some 6) (.t 4)⟩, ⟨some 62, (some (59, false)), .eqa true [.int .i64, .int .i64, .int .i64, .int .i64, .int .i64, .int .i64] (.t 60) (.t 61)⟩, ⟨some 63, none, .pick (.t 59) (.c (.bool true)) (.t 62)⟩, ⟨some 64, none, .mv (.t 63)⟩, ⟨some 65, (some (64, false)), .mv (.t 12)⟩, ⟨some 66, (some (64, false)), .mv (.t 65)⟩, ⟨some 67, (some (66, true)), .ld (some 32) (.t 11)⟩, ⟨some 68, (some (66, true)), .ld (some 32) (.t 9)⟩, ⟨some 69, (some (66, true)), .callc n_sector_Torn [(.t 67), (.t 68)]⟩, ⟨some 70, (some (66, true)), .ld (some 32) (.t 9)⟩, ⟨some 71, (some (66, true)), .eqa true [.int .u8, .int .u8, .int .u8, .int .u8, .int .u8, .int .u8, .int .u8, .int .u8, .int .u8, .int .u8, .int .u8, .int .u8, .int .u8, .int .u8, .int .u8, .int .u8, .int .u8, .int .u8, .int .u8, .int .u8, .int .u8, .int .u8, .int .u8, .int .u8, .int .u8, .int .u8, .int .u8, .int .u8, .int .u8, .int .u8, .int .u8, .int .u8] (.t 69) (.t 70)⟩, ⟨some 72, (some (64, false)), .pick (.t 66) (.t 71) (.c (.bool false))⟩, ⟨some 73, none, .pick (.t 64) (.c (.bool true)) (.t 72)⟩])
          (.cond (.t 73)
            (.seq (.reg [⟨some 8, none, .tk (.c (.bool false))⟩])
              (.ret))
            (.skip))))
        (.skip)))
    (.seq (.seq (.reg [⟨some 74, none, .mv (.t 14)⟩])
      (.cond (.t 74)
        (.seq (.reg [⟨some 76, none, .ld (some 32) (.t 13)⟩, ⟨some 77, none, .callc n_layout_EntryOf [(.t 76)]⟩, ⟨some 75, none, .mv (.t 77)⟩, ⟨some 78, none, .ext (.t 75) 0⟩, ⟨some 79, none, .ext (.t 75) 1⟩, ⟨some 17, none, .alloc [.bool false, .int .i64 0, .str [], .int .i64 0]⟩, ⟨none, none, .st 4 (.t 17) (.t 78)⟩, ⟨some 18, none, .tk (.t 79)⟩])
          (.seq (.reg [⟨some 80, none, .mv (.t 18)⟩, ⟨some 81, none, .notb (.t 80)⟩, ⟨some 82, none, .mv (.t 81)⟩, ⟨some 83, (some (82, false)), .ld (some 4) (.t 17)⟩, ⟨some 84, (some (82, false)), .ld (some 4) (.t 6)⟩, ⟨some 85, (some (82, false)), .eqa true [.bool, .int .i64, .str, .int .i64] (.t 83) (.t 84)⟩, ⟨some 86, none, .pick (.t 82) (.c (.bool true)) (.t 85)⟩])
          (.cond (.t 86)
            (.seq (.reg [⟨some 8, none, .tk (.c (.bool false))⟩])
              (.ret))
            (.skip))))
        (.skip)))
    (.seq (.reg [⟨some 88, none, .ld (some 32) (.t 7)⟩, ⟨some 89, none, .callc n_layout_InodeOf [(.t 88)]⟩, ⟨some 87, none, .mv (.t 89)⟩, ⟨some 90, none, .ext (.t 87) 0⟩, ⟨some 91, none, .ext (.t 87) 1⟩, ⟨some 19, none, .alloc [.int .i64 0, .int .i64 0, .int .i64 0, .int .i64 0, .int .i64 0, .int .i64 0]⟩, ⟨none, none, .st 6 (.t 19) (.t 90)⟩, ⟨some 20, none, .tk (.t 91)⟩])
    (.seq (.reg [⟨some 93, none, .ld (some 32) (.t 7)⟩, ⟨some 94, none, .callc n_layout_EntryOf [(.t 93)]⟩, ⟨some 92, none, .mv (.t 94)⟩, ⟨some 95, none, .ext (.t 92) 0⟩, ⟨some 96, none, .ext (.t 92) 1⟩, ⟨some 21, none, .alloc [.bool false, .int .i64 0, .str [], .int .i64 0]⟩, ⟨none, none, .st 4 (.t 21) (.t 95)⟩, ⟨some 22, none, .tk (.t 96)⟩])
    (.seq (.reg [⟨some 98, none, .ld (some 6) (.t 19)⟩, ⟨some 99, none, .callc n_layout_Inode [(.t 98)]⟩, ⟨some 97, none, .mv (.t 99)⟩, ⟨some 100, none, .ext (.t 97) 0⟩, ⟨some 101, none, .ext (.t 97) 1⟩, ⟨some 23, none, .alloc [.int .u8 0, .int .u8 0, .int .u8 0, .int .u8 0, .int .u8 0, .int .u8 0, .int .u8 0, .int .u8 0, .int .u8 0, .int .u8 0, .int .u8 0, .int .u8 0, .int .u8 0, .int .u8 0, .int .u8 0, .int .u8 0, .int .u8 0, .int .u8 0, .int .u8 0, .int .u8 0, .int .u8 0, .int .u8 0, .int .u8 0, .int .u8 0, .int .u8 0, .int .u8 0, .int .u8 0, .int .u8 0, .int .u8 0, .int .u8 0, .int .u8 0, .int .u8 0]⟩, ⟨none, none, .st 32 (.t 23) (.t 100)⟩, ⟨some 24, none, .tk (.t 101)⟩])
    (.seq (.reg [⟨some 103, none, .ld (some 4) (.t 21)⟩, ⟨some 104, none, .callc n_layout_Entry [(.t 103)]⟩, ⟨some 102, none, .mv (.t 104)⟩, ⟨some 105, none, .ext (.t 102) 0⟩, ⟨some 106, none, .ext (.t 102) 1⟩, ⟨some 25, none, .alloc [.int .u8 0, .int .u8 0, .int .u8 0, .int .u8 0, .int .u8 0, .int .u8 0, .int .u8 0, .int .u8 0, .int .u8 0, .int .u8 0, .int .u8 0, .int .u8 0, .int .u8 0, .int .u8 0, .int .u8 0, .int .u8 0, .int .u8 0, .int .u8 0, .int .u8 0, .int .u8 0, .int .u8 0, .int .u8 0, .int .u8 0, .int .u8 0, .int .u8 0, .int .u8 0, .int .u8 0, .int .u8 0, .int .u8 0, .int .u8 0, .int .u8 0, .int .u8 0]⟩, ⟨none, none, .st 32 (.t 25) (.t 105)⟩, ⟨some 26, none, .tk (.t 106)⟩])
    (.seq (.reg [⟨some 107, none, .mv (.t 20)⟩, ⟨some 108, none, .notb (.t 107)⟩, ⟨some 109, none, .mv (.t 108)⟩, ⟨some 110, (some (109, false)), .ld (some 32) (.t 23)⟩, ⟨some 111, (some (109, false)), .ld (some 32) (.t 7)⟩, ⟨some 112, (some (109, false)), .eqa false [.int .u8, .int .u8, .int .u8, .int .u8, .int .u8, .int .u8, .int .u8, .int .u8, .int .u8, .int .u8, .int .u8, .int .u8, .int .u8, .int .u8, .int .u8, .int .u8, .int .u8, .int .u8, .int .u8, .int .u8, .int .u8, .int .u8, .int .u8, .int .u8, .int .u8, .int .u8, .int .u8, .int .u8, .int .u8, .int .u8, .int .u8, .int .u8] (.t 110) (.t 111)⟩, ⟨some 113, none, .pick (.t 109) (.c (.bool true)) (.t 112)⟩, ⟨some 114, none, .mv (.t 113)⟩, ⟨some 115, (some (114, true)), .mv (.t 22)⟩, ⟨some 116, (some (114, true)), .notb (.t 115)⟩, ⟨some 117, (some (114, true)), .mv (.t 116)⟩, ⟨some 118, (some (117, false)), .ld (some 32) (.t 25)⟩, ⟨some 119, (some (117, false)), .ld (some 32) (.t 7)⟩, ⟨some 120, (some (117, false)), .eqa false [.int .u8, .int .u8, .int .u8, .int .u8, .int .u8, .int .u8, .int .u8, .int .u8, .int .u8, .int .u8, .int .u8, .int .u8, .int .u8, .int .u8, .int .u8, .int .u8, .int .u8, .int .u8, .int .u8, .int .u8, .int .u8, .int .u8, .int .u8, .int .u8, .int .u8, .int .u8, .int .u8, .int .u8, .int .u8, .int .u8, .int .u8, .int .u8] (.t 118) (.t 119)⟩, ⟨some 121, (some (114, true)), .pick (.t 117) (.c (.bool true)) (.t 120)⟩, ⟨some 122, none, .pick (.t 114) (.t 121) (.c (.bool false))⟩, ⟨some 8, none, .tk (.t 122)⟩])
    (.ret))))))))))))) }

-- flotsam/layout.Inode
def b_layout_Inode_0 : AC :=
  .seq (.reg [⟨some 22, none, .ic .lss (.t 21) (.c (.int .i64 4))⟩])
  (.seq (.cond (.t 22)
      (.skip)
      (.exit 0))
  (.seq (.block 1 (.seq (.reg [⟨some 23, none, .mv (.t 21)⟩, ⟨some 24, none, .ixv none 1 4 (.t 20) (.t 21)⟩, ⟨some 5, none, .tk (.t 23)⟩, ⟨some 6, none, .tk (.t 24)⟩])
      (.reg [⟨some 25, none, .mv (.t 5)⟩, ⟨some 26, none, .ia .add .i64 (.c (.int .i64 2)) (.t 25)⟩, ⟨some 27, none, .mv (.t 6)⟩, ⟨some 28, none, .conv .u8 (.t 27)⟩, ⟨some 29, none, .ixa 1 (some 32) (.t 4) (.t 26)⟩, ⟨none, none, .st 1 (.t 29) (.t 28)⟩])))
  (.reg [⟨some 30, none, .ia .add .i64 (.t 21) (.c (.int .i64 1))⟩, ⟨some 21, none, .mv (.t 30)⟩])))

def l_layout_Inode_0 : AC :=
  .loop [2, 4, 20, 21] b_layout_Inode_0

def r_layout_Inode_0 : AC :=
  .seq (.reg [⟨some 31, none, .ld (some 32) (.t 4)⟩, ⟨none, none, .st 32 (.t 2) (.t 31)⟩, ⟨some 3, none, .tk (.c (.bool true))⟩])
  (.ret)

def c_layout_Inode : AFunc :=
  { np := 1, res := [.cell 2 (some 32), .t 3], body := (
    .seq (.reg [⟨some 1, none, .box (.t 0)⟩, ⟨some 2, none, .alloc [.int .u8 0, .int .u8 0, .int .u8 0, .int .u8 0, .int .u8 0, .int .u8 0, .int .u8 0, .int .u8 0, .int .u8 0, .int .u8 0, .int .u8 0, .int .u8 0, .int .u8 0, .int .u8 0, .int .u8 0, .int .u8 0, .int .u8 0, .int .u8 0, .int .u8 0, .int .u8 0, .int .u8 0, .int .u8 0, .int .u8 0, .int .u8 0, .int .u8 0, .int .u8 0, .int .u8 0, .int .u8 0, .int .u8 0, .int .u8 0, .int .u8 0, .int .u8 0]⟩, ⟨some 3, none, .tk (.c (.bool false))⟩])
    (.seq (.reg [⟨some 4, none, .alloc [.int .u8 0, .int .u8 0, .int .u8 0, .int .u8 0, .int .u8 0, .int .u8 0, .int .u8 0, .int .u8 0, .int .u8 0, .int .u8 0, .int .u8 0, .int .u8 0, .int .u8 0, .int .u8 0, .int .u8 0, .int .u8 0, .int .u8 0, .int .u8 0, .int .u8 0, .int .u8 0, .int .u8 0, .int .u8 0, .int .u8 0, .int .u8 0, .int .u8 0, .int .u8 0, .int .u8 0, .int .u8 0, .int .u8 0, .int .u8 0, .int .u8 0, .int .u8 0]⟩])
    (.seq (.seq (.reg [⟨some 7, none, .ld (some 6) (.t 1)⟩, ⟨some 8, none, .callc n_layout_RightInode [(.t 7)]⟩, ⟨some 9, none, .notb (.t 8)⟩])
      (.cond (.t 9)
        (.seq (.reg [⟨some 10, none, .ld (some 32) (.t 4)⟩, ⟨none, none, .st 32 (.t 2) (.t 10)⟩, ⟨some 3, none, .tk (.c (.bool false))⟩])
          (.ret))
        (.skip)))
    (.seq (.drw [[], [], [], [], [], [], [], [], [], []] [⟨some 11, none, .fa 0 (.t 1)⟩, ⟨some 12, none, .ld none (.t 11)⟩, ⟨some 13, none, .conv .u8 (.t 12)⟩, ⟨some 14, none, .fa 1 (.t 1)⟩, ⟨some 15, none, .ldq none (.t 14) (.t 1)⟩, ⟨some 16, none, .conv .u8 (.t 15)⟩, ⟨some 17, none, .ixa 1 (some 32) (.t 4) (.c (.int .i64 0))⟩, ⟨none, none, .stq 1 (.t 17) (.t 13) [(.t 1)]⟩, ⟨some 18, none, .ixa 1 (some 32) (.t 4) (.c (.int .i64 1))⟩, ⟨none, none, .st 1 (.t 18) (.t 16)⟩])
    (.seq (.seq (.reg [⟨some 19, none, .fa 2 (.t 1)⟩, ⟨some 20, none, .ld (some 4) (.t 19)⟩, ⟨some 21, none, .mv (.c (.int .i64 0))⟩])
      (.block 0 (l_layout_Inode_0))) r_layout_Inode_0))))) }

-- flotsam/flotsamref07.Inode
def b_flotsamref07_Inode_0 : AC :=
  .seq (.seq (.reg [⟨some 17, none, .mv (.t 5)⟩, ⟨some 18, none, .ic .lss (.t 17) (.c (.int .i64 4))⟩])
    (.cond (.t 18)
      (.skip)
      (.exit 0)))
  (.seq (.block 1 (.reg [⟨some 21, none, .mv (.t 5)⟩, ⟨some 22, none, .ia .add .i64 (.c (.int .i64 2)) (.t 21)⟩, ⟨some 23, none, .mv (.t 5)⟩, ⟨some 24, none, .fa 2 (.t 1)⟩, ⟨some 25, none, .ixa 1 (some 4) (.t 24) (.t 23)⟩, ⟨some 26, none, .ld none (.t 25)⟩, ⟨some 27, none, .conv .u8 (.t 26)⟩, ⟨some 28, none, .ixa 1 (some 32) (.t 4) (.t 22)⟩, ⟨none, none, .st 1 (.t 28) (.t 27)⟩]))
  (.reg [⟨some 19, none, .mv (.t 5)⟩, ⟨some 20, none, .ia .add .i64 (.t 19) (.c (.int .i64 1))⟩, ⟨some 5, none, .tk (.t 20)⟩]))

def l_flotsamref07_Inode_0 : AC :=
  .loop [1, 2, 4, 5] b_flotsamref07_Inode_0

def r_flotsamref07_Inode_0 : AC :=
  .seq (.reg [⟨some 29, none, .ld (some 32) (.t 4)⟩, ⟨none, none, .st 32 (.t 2) (.t 29)⟩, ⟨some 3, none, .tk (.c (.bool true))⟩])
  (.ret)

def c_flotsamref07_Inode : AFunc :=
  { np := 1, res := [.cell 2 (some 32), .t 3], body := (
    .seq (.reg [⟨some 1, none, .box (.t 0)⟩, ⟨some 2, none, .alloc [.int .u8 0, .int .u8 0, .int .u8 0, .int .u8 0, .int .u8 0, .int .u8 0, .int .u8 0, .int .u8 0, .int .u8 0, .int .u8 0, .int .u8 0, .int .u8 0, .int .u8 0, .int .u8 0, .int .u8 0, .int .u8 0, .int .u8 0, .int .u8 0, .int .u8 0, .int .u8 0, .int .u8 0, .int .u8 0, .int .u8 0, .int .u8 0, .int .u8 0, .int .u8 0, .int .u8 0, .int .u8 0, .int .u8 0, .int .u8 0, .int .u8 0, .int .u8 0]⟩, ⟨some 3, none, .tk (.c (.bool false))⟩])
    (.seq (.seq (.reg [⟨some 6, none, .ld (some 6) (.t 1)⟩, ⟨some 7, none, .callc n_flotsamref07_RightInode [(.t 6)]⟩, ⟨some 8, none, .notb (.t 7)⟩])
      (.cond (.t 8)
        (.seq (.reg [⟨some 9, none, .bld [.int .u8 0, .int .u8 0, .int .u8 0, .int .u8 0, .int .u8 0, .int .u8 0, .int .u8 0, .int .u8 0, .int .u8 0, .int .u8 0, .int .u8 0, .int .u8 0, .int .u8 0, .int .u8 0, .int .u8 0, .int .u8 0, .int .u8 0, .int .u8 0, .int .u8 0, .int .u8 0, .int .u8 0, .int .u8 0, .int .u8 0, .int .u8 0, .int .u8 0, .int .u8 0, .int .u8 0, .int .u8 0, .int .u8 0, .int .u8 0, .int .u8 0, .int .u8 0] []⟩, ⟨none, none, .st 32 (.t 2) (.t 9)⟩, ⟨some 3, none, .tk (.c (.bool false))⟩])
          (.ret))
        (.skip)))
    (.seq (.reg [⟨some 10, none, .fa 0 (.t 1)⟩, ⟨some 11, none, .ld none (.t 10)⟩, ⟨some 12, none, .conv .u8 (.t 11)⟩, ⟨some 13, none, .fa 1 (.t 1)⟩, ⟨some 14, none, .ld none (.t 13)⟩, ⟨some 15, none, .conv .u8 (.t 14)⟩, ⟨some 16, none, .bld [.int .u8 0, .int .u8 0, .int .u8 0, .int .u8 0, .int .u8 0, .int .u8 0, .int .u8 0, .int .u8 0, .int .u8 0, .int .u8 0, .int .u8 0, .int .u8 0, .int .u8 0, .int .u8 0, .int .u8 0, .int .u8 0, .int .u8 0, .int .u8 0, .int .u8 0, .int .u8 0, .int .u8 0, .int .u8 0, .int .u8 0, .int .u8 0, .int .u8 0, .int .u8 0, .int .u8 0, .int .u8 0, .int .u8 0, .int .u8 0, .int .u8 0, .int .u8 0] [(0, 1, (.t 12)), (1, 1, (.t 15))]⟩, ⟨some 4, none, .alloc [.int .u8 0, .int .u8 0, .int .u8 0, .int .u8 0, .int .u8 0, .int .u8 0, .int .u8 0, .int .u8 0, .int .u8 0, .int .u8 0, .int .u8 0, .int .u8 0, .int .u8 0, .int .u8 0, .int .u8 0, .int .u8 0, .int .u8 0, .int .u8 0, .int .u8 0, .int .u8 0, .int .u8 0, .int .u8 0, .int .u8 0, .int .u8 0, .int .u8 0, .int .u8 0, .int .u8 0, .int .u8 0, .int .u8 0, .int .u8 0, .int .u8 0, .int .u8 0]⟩, ⟨none, none, .st 32 (.t 4) (.t 16)⟩])
    (.seq (.seq (.reg [⟨some 5, none, .tk (.c (.int .i64 0))⟩])
      (.block 0 (l_flotsamref07_Inode_0))) r_flotsamref07_Inode_0)))) }

-- flotsam/layout.InodeOf
def b_layout_InodeOf_0 : AC :=
  .seq (.reg [⟨some 16, none, .ic .lss (.t 15) (.c (.int .i64 4))⟩])
  (.seq (.cond (.t 16)
      (.skip)
      (.exit 0))
  (.seq (.block 1 (.seq (.reg [⟨some 17, none, .mv (.t 15)⟩, ⟨some 5, none, .tk (.t 17)⟩])
      (.reg [⟨some 18, none, .mv (.t 5)⟩, ⟨some 19, none, .mv (.t 5)⟩, ⟨some 20, none, .ia .add .i64 (.c (.int .i64 2)) (.t 19)⟩, ⟨some 21, none, .ixa 1 (some 32) (.t 1) (.t 20)⟩, ⟨some 22, none, .ld none (.t 21)⟩, ⟨some 23, none, .conv .i64 (.t 22)⟩, ⟨some 24, none, .fa 2 (.t 4)⟩, ⟨some 25, none, .ixa 1 (some 4) (.t 24) (.t 18)⟩, ⟨none, none, .st 1 (.t 25) (.t 23)⟩])))
  (.reg [⟨some 26, none, .ia .add .i64 (.t 15) (.c (.int .i64 1))⟩, ⟨some 15, none, .mv (.t 26)⟩])))

def l_layout_InodeOf_0 : AC :=
  .loop [1, 2, 4, 15] b_layout_InodeOf_0

def r_layout_InodeOf_0 : AC :=
  .seq (.seq (.reg [⟨some 28, none, .ld (some 6) (.t 4)⟩, ⟨some 29, none, .callc n_layout_Inode [(.t 28)]⟩, ⟨some 27, none, .mv (.t 29)⟩, ⟨some 30, none, .ext (.t 27) 0⟩, ⟨some 31, none, .ext (.t 27) 1⟩, ⟨some 6, none, .alloc [.int .u8 0, .int .u8 0, .int .u8 0, .int .u8 0, .int .u8 0, .int .u8 0, .int .u8 0, .int .u8 0, .int .u8 0, .int .u8 0, .int .u8 0, .int .u8 0, .int .u8 0, .int .u8 0, .int .u8 0, .int .u8 0, .int .u8 0, .int .u8 0, .int .u8 0, .int .u8 0, .int .u8 0, .int .u8 0, .int .u8 0, .int .u8 0, .int .u8 0, .int .u8 0, .int .u8 0, .int .u8 0, .int .u8 0, .int .u8 0, .int .u8 0, .int .u8 0]⟩, ⟨none, none, .st 32 (.t 6) (.t 30)⟩, ⟨some 7, none, .tk (.t 31)⟩])
    (.seq (.reg [⟨some 32, none, .mv (.t 7)⟩, ⟨some 33, none, .notb (.t 32)⟩, ⟨some 34, none, .mv (.t 33)⟩, ⟨some 35, (some (34, false)), .ld (some 32) (.t 1)⟩, ⟨some 36, (some (34, false)), .ld (some 32) (.t 6)⟩, ⟨some 37, (some (34, false)), .eqa true [.int .u8, .int .u8, .int .u8, .int .u8, .int .u8, .int .u8, .int .u8, .int .u8, .int .u8, .int .u8, .int .u8, .int .u8, .int .u8, .int .u8, .int .u8, .int .u8, .int .u8, .int .u8, .int .u8, .int .u8, .int .u8, .int .u8, .int .u8, .int .u8, .int .u8, .int .u8, .int .u8, .int .u8, .int .u8, .int .u8, .int .u8, .int .u8] (.t 35) (.t 36)⟩, ⟨some 38, none, .pick (.t 34) (.c (.bool true)) (.t 37)⟩])
    (.cond (.t 38)
      (.seq (.reg [⟨some 39, none, .bld [.int .i64 0, .int .i64 0, .int .i64 0, .int .i64 0, .int .i64 0, .int .i64 0] []⟩, ⟨none, none, .st 6 (.t 2) (.t 39)⟩, ⟨some 3, none, .tk (.c (.bool false))⟩])
        (.ret))
      (.skip))))
  (.seq (.reg [⟨some 40, none, .ld (some 6) (.t 4)⟩, ⟨none, none, .st 6 (.t 2) (.t 40)⟩, ⟨some 3, none, .tk (.c (.bool true))⟩])
  (.ret))

def c_layout_InodeOf : AFunc :=
  { np := 1, res := [.cell 2 (some 6), .t 3], body := (
    .seq (.reg [⟨some 1, none, .box (.t 0)⟩, ⟨some 2, none, .alloc [.int .i64 0, .int .i64 0, .int .i64 0, .int .i64 0, .int .i64 0, .int .i64 0]⟩, ⟨some 3, none, .tk (.c (.bool false))⟩])
    (.seq (.reg [⟨some 8, none, .ixa 1 (some 32) (.t 1) (.c (.int .i64 0))⟩, ⟨some 9, none, .ld none (.t 8)⟩, ⟨some 10, none, .conv .i64 (.t 9)⟩, ⟨some 11, none, .ixa 1 (some 32) (.t 1) (.c (.int .i64 1))⟩, ⟨some 12, none, .ld none (.t 11)⟩, ⟨some 13, none, .conv .i64 (.t 12)⟩, ⟨some 14, none, .bld [.int .i64 0, .int .i64 0, .int .i64 0, .int .i64 0, .int .i64 0, .int .i64 0] [(0, 1, (.t 10)), (1, 1, (.t 13))]⟩, ⟨some 4, none, .alloc [.int .i64 0, .int .i64 0, .int .i64 0, .int .i64 0, .int .i64 0, .int .i64 0]⟩, ⟨none, none, .st 6 (.t 4) (.t 14)⟩])
    (.seq (.seq (.reg [⟨some 15, none, .mv (.c (.int .i64 0))⟩])
      (.block 0 (l_layout_InodeOf_0))) r_layout_InodeOf_0))) }

-- flotsam/flotsamref07.InodeOf
def b_flotsamref07_InodeOf_0 : AC :=
  .seq (.seq (.reg [⟨some 15, none, .mv (.t 5)⟩, ⟨some 16, none, .ic .lss (.t 15) (.c (.int .i64 4))⟩])
    (.cond (.t 16)
      (.skip)
      (.exit 0)))
  (.seq (.block 1 (.reg [⟨some 19, none, .mv (.t 5)⟩, ⟨some 20, none, .mv (.t 5)⟩, ⟨some 21, none, .ia .add .i64 (.c (.int .i64 2)) (.t 20)⟩, ⟨some 22, none, .ixa 1 (some 32) (.t 1) (.t 21)⟩, ⟨some 23, none, .ld none (.t 22)⟩, ⟨some 24, none, .conv .i64 (.t 23)⟩, ⟨some 25, none, .fa 2 (.t 4)⟩, ⟨some 26, none, .ixa 1 (some 4) (.t 25) (.t 19)⟩, ⟨none, none, .st 1 (.t 26) (.t 24)⟩]))
  (.reg [⟨some 17, none, .mv (.t 5)⟩, ⟨some 18, none, .ia .add .i64 (.t 17) (.c (.int .i64 1))⟩, ⟨some 5, none, .tk (.t 18)⟩]))

def l_flotsamref07_InodeOf_0 : AC :=
  .loop [1, 2, 4, 5] b_flotsamref07_InodeOf_0

def r_flotsamref07_InodeOf_0 : AC :=
  .seq (.seq (.reg [⟨some 28, none, .ld (some 6) (.t 4)⟩, ⟨some 29, none, .callc n_flotsamref07_Inode [(.t 28)]⟩, ⟨some 27, none, .mv (.t 29)⟩, ⟨some 30, none, .ext (.t 27) 0⟩, ⟨some 31, none, .ext (.t 27) 1⟩, ⟨some 6, none, .alloc [.int .u8 0, .int .u8 0, .int .u8 0, .int .u8 0, .int .u8 0, .int .u8 0, .int .u8 0, .int .u8 0, .int .u8 0, .int .u8 0, .int .u8 0, .int .u8 0, .int .u8 0, .int .u8 0, .int .u8 0, .int .u8 0, .int .u8 0, .int .u8 0, .int .u8 0, .int .u8 0, .int .u8 0, .int .u8 0, .int .u8 0, .int .u8 0, .int .u8 0, .int .u8 0, .int .u8 0, .int .u8 0, .int .u8 0, .int .u8 0, .int .u8 0, .int .u8 0]⟩, ⟨none, none, .st 32 (.t 6) (.t 30)⟩, ⟨some 7, none, .tk (.t 31)⟩])
    (.seq (.reg [⟨some 32, none, .mv (.t 7)⟩, ⟨some 33, none, .notb (.t 32)⟩, ⟨some 34, none, .mv (.t 33)⟩, ⟨some 35, (some (34, false)), .ld (some 32) (.t 6)⟩, ⟨some 36, (some (34, false)), .ld (some 32) (.t 1)⟩, ⟨some 37, (some (34, false)), .eqa true [.int .u8, .int .u8, .int .u8, .int .u8, .int .u8, .int .u8, .int .u8, .int .u8, .int .u8, .int .u8, .int .u8, .int .u8, .int .u8, .int .u8, .int .u8, .int .u8, .int .u8, .int .u8, .int .u8, .int .u8, .int .u8, .int .u8, .int .u8, .int .u8, .int .u8, .int .u8, .int .u8, .int .u8, .int .u8, .int .u8, .int .u8, .int .u8] (.t 35) (.t 36)⟩, ⟨some 38, none, .pick (.t 34) (.c (.bool true)) (.t 37)⟩])
    (.cond (.t 38)
      (.seq (.reg [⟨some 39, none, .bld [.int .i64 0, .int .i64 0, .int .i64 0, .int .i64 0, .int .i64 0, .int .i64 0] []⟩, ⟨none, none, .st 6 (.t 2) (.t 39)⟩, ⟨some 3, none, .tk (.c (.bool false))⟩])
        (.ret))
      (.skip))))
  (.seq (.reg [⟨some 40, none, .ld (some 6) (.t 4)⟩, ⟨none, none, .st 6 (.t 2) (.t 40)⟩, ⟨some 3, none, .tk (.c (.bool true))⟩])
  (.ret))

def c_flotsamref07_InodeOf : AFunc :=
  { np := 1, res := [.cell 2 (some 6), .t 3], body := (
    .seq (.reg [⟨some 1, none, .box (.t 0)⟩, ⟨some 2, none, .alloc [.int .i64 0, .int .i64 0, .int .i64 0, .int .i64 0, .int .i64 0, .int .i64 0]⟩, ⟨some 3, none, .tk (.c (.bool false))⟩])
    (.seq (.reg [⟨some 8, none, .ixa 1 (some 32) (.t 1) (.c (.int .i64 0))⟩, ⟨some 9, none, .ld none (.t 8)⟩, ⟨some 10, none, .conv .i64 (.t 9)⟩, ⟨some 11, none, .ixa 1 (some 32) (.t 1) (.c (.int .i64 1))⟩, ⟨some 12, none, .ld none (.t 11)⟩, ⟨some 13, none, .conv .i64 (.t 12)⟩, ⟨some 14, none, .bld [.int .i64 0, .int .i64 0, .int .i64 0, .int .i64 0, .int .i64 0, .int .i64 0] [(0, 1, (.t 10)), (1, 1, (.t 13))]⟩, ⟨some 4, none, .alloc [.int .i64 0, .int .i64 0, .int .i64 0, .int .i64 0, .int .i64 0, .int .i64 0]⟩, ⟨none, none, .st 6 (.t 4) (.t 14)⟩])
    (.seq (.seq (.reg [⟨some 5, none, .tk (.c (.int .i64 0))⟩])
      (.block 0 (l_flotsamref07_InodeOf_0))) r_flotsamref07_InodeOf_0))) }

-- flotsam/layout.RightInode
def c_layout_RightInode : AFunc :=
  { np := 1, res := [.t 2], body := (
    .seq (.reg [⟨some 1, none, .box (.t 0)⟩, ⟨some 2, none, .tk (.c (.bool false))⟩])
    (.seq (.seq (.reg [⟨some 5, none, .fa 0 (.t 1)⟩, ⟨some 6, none, .ld none (.t 5)⟩])
      (.block 0 (.seq (.seq (.reg [⟨some 8, none, .ic .eql (.t 6) (.c (.int .i64 0))⟩, ⟨some 7, none, .tk (.t 8)⟩])
          (.cond (.t 7)
            (.skip)
            (.reg [⟨some 9, none, .ic .eql (.t 6) (.c (.int .i64 2))⟩, ⟨some 7, none, .tk (.t 9)⟩])))
        (.cond (.t 7)
          (.seq (.reg [⟨some 10, none, .ld (some 6) (.t 1)⟩, ⟨some 11, none, .fa 0 (.t 1)⟩, ⟨some 12, none, .ld none (.t 11)⟩, ⟨some 13, none, .bld [.int .i64 0, .int .i64 0, .int .i64 0, .int .i64 0, .int .i64 0, .int .i64 0] [(0, 1, (.t 12))]⟩, ⟨some 14, none, .eqa false [.int .i64, .int .i64, .int .i64, .int .i64, .int .i64, .int .i64] (.t 10) (.t 13)⟩, ⟨some 2, none, .tk (.t 14)⟩])
            (.ret))
          (.seq (.reg [⟨some 16, none, .ic .eql (.t 6) (.c (.int .i64 1))⟩, ⟨some 15, none, .tk (.t 16)⟩])
            (.cond (.t 15)
              (.skip)
              (.seq (.reg [⟨some 2, none, .tk (.c (.bool false))⟩])
                (.ret))))))))
    (.seq (.seq (.reg [⟨some 17, none, .fa 1 (.t 1)⟩, ⟨some 18, none, .ld none (.t 17)⟩, ⟨some 19, none, .ic .lss (.t 18) (.c (.int .i64 0))⟩, ⟨some 20, none, .mv (.t 19)⟩, ⟨some 21, (some (20, false)), .fa 1 (.t 1)⟩, ⟨some 22, (some (20, false)), .ld none (.t 21)⟩, ⟨some 23, (some (20, false)), .ic .gtr (.t 22) (.c (.int .i64 128))⟩, ⟨some 24, none, .pick (.t 20) (.c (.bool true)) (.t 23)⟩])
      (.cond (.t 24)
        (.seq (.reg [⟨some 2, none, .tk (.c (.bool false))⟩])
          (.ret))
        (.skip)))
    (.seq (.reg [⟨some 25, none, .fa 2 (.t 1)⟩, ⟨some 26, none, .fa 1 (.t 1)⟩, ⟨some 27, none, .ld none (.t 26)⟩, ⟨some 28, none, .callc n_layout_need [(.t 27)]⟩, ⟨some 29, none, .slp 1 4 (.t 25) none (some (.t 28)) none⟩, ⟨some 30, none, .call n_slices_Clone_int_int [(.t 29)]⟩, ⟨some 3, none, .tk (.t 30)⟩])
    (.seq (.reg [⟨some 4, none, .tk (.c (.fn (.func n_layout_RightInode_1) [] []))⟩])
    (.seq (.seq (.reg [⟨some 31, none, .mv (.t 3)⟩, ⟨some 32, none, .mv (.t 4)⟩, ⟨some 33, none, .call n_slices_ContainsFunc_int_int [(.t 31), (.t 32)]⟩, ⟨some 34, none, .mv (.t 33)⟩, ⟨some 35, (some (34, false)), .fa 2 (.t 1)⟩, ⟨some 36, (some (34, false)), .mv (.t 3)⟩, ⟨some 37, (some (34, false)), .len false (.t 36)⟩, ⟨some 38, (some (34, false)), .slp 1 4 (.t 35) (some (.t 37)) none none⟩, ⟨some 39, (some (34, false)), .call n_slices_ContainsFunc_int_int [(.t 38), (.c (.fn (.func n_layout_RightInode_2) [] []))]⟩, ⟨some 40, none, .pick (.t 34) (.c (.bool true)) (.t 39)⟩])
      (.cond (.t 40)
        (.seq (.reg [⟨some 2, none, .tk (.c (.bool false))⟩])
          (.ret))
        (.skip)))
    (.seq (.reg [⟨some 41, none, .mv (.t 3)⟩, ⟨some 42, none, .callc n_slices_Sort_int_int [(.t 41)]⟩])
    (.seq (.drw [[], [], [], [], [], [], [], []] [⟨some 43, none, .mv (.t 3)⟩, ⟨some 44, none, .callc n_slices_Compact_int_int [(.t 43)]⟩, ⟨some 45, none, .len false (.t 44)⟩, ⟨some 46, none, .fa 1 (.t 1)⟩, ⟨some 47, none, .ld none (.t 46)⟩, ⟨some 48, none, .callc n_layout_need [(.t 47)]⟩, ⟨some 49, none, .ic .eql (.t 45) (.t 48)⟩, ⟨some 2, none, .tk (.t 49)⟩])
    (.ret))))))))) }

-- flotsam/flotsamref07.RightInode
def b_flotsamref07_RightInode_0 : AC :=
  .seq (.seq (.reg [⟨some 57, none, .mv (.t 5)⟩, ⟨some 58, none, .mv (.t 3)⟩, ⟨some 59, none, .ic .lss (.t 57) (.t 58)⟩])
    (.cond (.t 59)
      (.skip)
      (.exit 2)))
  (.seq (.block 3 (.seq (.reg [⟨some 62, none, .mv (.t 5)⟩, ⟨some 63, none, .fa 2 (.t 1)⟩, ⟨some 64, none, .ixa 1 (some 4) (.t 63) (.t 62)⟩, ⟨some 65, none, .ld none (.t 64)⟩, ⟨some 66, none, .mv (.t 4)⟩, ⟨some 67, none, .ic .eql (.t 65) (.t 66)⟩])
      (.cond (.t 67)
        (.seq (.reg [⟨some 2, none, .tk (.c (.bool false))⟩])
          (.ret))
        (.skip))))
  (.reg [⟨some 60, none, .mv (.t 5)⟩, ⟨some 61, none, .ia .add .i64 (.t 60) (.c (.int .i64 1))⟩, ⟨some 5, none, .tk (.t 61)⟩]))

def l_flotsamref07_RightInode_0 : AC :=
  .loop [1, 3, 4, 5] b_flotsamref07_RightInode_0

def r_flotsamref07_RightInode_0 : AC :=
  .reg [⟨some 38, none, .mv (.t 3)⟩, ⟨some 39, none, .ia .add .i64 (.t 38) (.c (.int .i64 1))⟩, ⟨some 3, none, .tk (.t 39)⟩]

def b_flotsamref07_RightInode_1 : AC :=
  .seq (.seq (.reg [⟨some 36, none, .mv (.t 3)⟩, ⟨some 37, none, .ic .lss (.t 36) (.c (.int .i64 4))⟩])
    (.cond (.t 37)
      (.skip)
      (.exit 0)))
  (.seq (.block 1 (.seq (.reg [⟨some 40, none, .mv (.t 3)⟩, ⟨some 41, none, .fa 2 (.t 1)⟩, ⟨some 42, none, .ixa 1 (some 4) (.t 41) (.t 40)⟩, ⟨some 43, none, .ld none (.t 42)⟩, ⟨some 4, none, .tk (.t 43)⟩])
      (.seq (.seq (.reg [⟨some 44, none, .mv (.t 3)⟩, ⟨some 45, none, .fa 1 (.t 1)⟩, ⟨some 46, none, .ld none (.t 45)⟩, ⟨some 47, none, .callc n_flotsamref07_Need [(.t 46)]⟩, ⟨some 48, none, .ic .geq (.t 44) (.t 47)⟩])
        (.cond (.t 48)
          (.seq (.seq (.reg [⟨some 49, none, .mv (.t 4)⟩, ⟨some 50, none, .ic .neq (.t 49) (.c (.int .i64 0))⟩])
              (.cond (.t 50)
                (.seq (.reg [⟨some 2, none, .tk (.c (.bool false))⟩])
                  (.ret))
                (.skip)))
            (.exit 1))
          (.skip)))
      (.seq (.seq (.reg [⟨some 51, none, .mv (.t 4)⟩, ⟨some 52, none, .ic .lss (.t 51) (.c (.int .i64 1))⟩, ⟨some 53, none, .mv (.t 52)⟩, ⟨some 54, (some (53, false)), .mv (.t 4)⟩, ⟨some 55, (some (53, false)), .ic .gtr (.t 54) (.c (.int .i64 24))⟩, ⟨some 56, none, .pick (.t 53) (.c (.bool true)) (.t 55)⟩])
        (.cond (.t 56)
          (.seq (.reg [⟨some 2, none, .tk (.c (.bool false))⟩])
            (.ret))
          (.skip)))
      (.seq (.reg [⟨some 5, none, .tk (.c (.int .i64 0))⟩])
      (.block 2 (l_flotsamref07_RightInode_0))))))) r_flotsamref07_RightInode_0)

def l_flotsamref07_RightInode_1 : AC :=
  .loop [1, 3] b_flotsamref07_RightInode_1

def r_flotsamref07_RightInode_1 : AC :=
  .seq (.reg [⟨some 2, none, .tk (.c (.bool true))⟩])
  (.ret)

def c_flotsamref07_RightInode : AFunc :=
  { np := 1, res := [.t 2], body := (
    .seq (.reg [⟨some 1, none, .box (.t 0)⟩, ⟨some 2, none, .tk (.c (.bool false))⟩])
    (.seq (.seq (.reg [⟨some 6, none, .fa 0 (.t 1)⟩, ⟨some 7, none, .ld none (.t 6)⟩, ⟨some 8, none, .ic .eql (.t 7) (.c (.int .i64 0))⟩, ⟨some 9, none, .mv (.t 8)⟩, ⟨some 10, (some (9, false)), .fa 0 (.t 1)⟩, ⟨some 11, (some (9, false)), .ld none (.t 10)⟩, ⟨some 12, (some (9, false)), .ic .eql (.t 11) (.c (.int .i64 2))⟩, ⟨some 13, none, .pick (.t 9) (.c (.bool true)) (.t 12)⟩])
      (.cond (.t 13)
        (.seq (.reg [⟨some 14, none, .fa 1 (.t 1)⟩, ⟨some 15, none, .ld none (.t 14)⟩, ⟨some 16, none, .ic .eql (.t 15) (.c (.int .i64 0))⟩, ⟨some 17, none, .mv (.t 16)⟩, ⟨some 18, (some (17, true)), .fa 2 (.t 1)⟩, ⟨some 19, (some (17, true)), .ld (some 4) (.t 18)⟩, ⟨some 20, (some (17, true)), .bld [.int .i64 0, .int .i64 0, .int .i64 0, .int .i64 0] []⟩, ⟨some 21, (some (17, true)), .eqa false [.int .i64, .int .i64, .int .i64, .int .i64] (.t 19) (.t 20)⟩, ⟨some 22, none, .pick (.t 17) (.t 21) (.c (.bool false))⟩, ⟨some 2, none, .tk (.t 22)⟩])
          (.ret))
        (.skip)))
    (.seq (.seq (.reg [⟨some 23, none, .fa 0 (.t 1)⟩, ⟨some 24, none, .ld none (.t 23)⟩, ⟨some 25, none, .ic .neq (.t 24) (.c (.int .i64 1))⟩, ⟨some 26, none, .mv (.t 25)⟩, ⟨some 27, (some (26, false)), .fa 1 (.t 1)⟩, ⟨some 28, (some (26, false)), .ld none (.t 27)⟩, ⟨some 29, (some (26, false)), .ic .lss (.t 28) (.c (.int .i64 0))⟩, ⟨some 30, none, .pick (.t 26) (.c (.bool true)) (.t 29)⟩, ⟨some 31, none, .mv (.t 30)⟩, ⟨some 32, (some (31, false)), .fa 1 (.t 1)⟩, ⟨some 33, (some (31, false)), .ld none (.t 32)⟩, ⟨some 34, (some (31, false)), .ic .gtr (.t 33) (.c (.int .i64 128))⟩, ⟨some 35, none, .pick (.t 31) (.c (.bool true)) (.t 34)⟩])
      (.cond (.t 35)
        (.seq (.reg [⟨some 2, none, .tk (.c (.bool false))⟩])
          (.ret))
        (.skip)))
    (.seq (.seq (.reg [⟨some 3, none, .tk (.c (.int .i64 0))⟩])
      (.block 0 (l_flotsamref07_RightInode_1))) r_flotsamref07_RightInode_1)))) }

-- flotsam/flotsamlaw07.knows
def c_flotsamlaw07_knows : AFunc :=
  { np := 0, res := [.t 0], body := (
    .seq (.reg [⟨some 0, none, .tk (.c (.bool false))⟩])
    (.seq (.reg [⟨some 4, none, .bld [.bool false, .int .i64 0, .str [], .int .i64 0] [(0, 1, (.c (.bool true))), (2, 1, (.c (.str [98]))), (3, 1, (.c (.int .i64 3)))]⟩, ⟨some 5, none, .callc n_layout_Entry [(.t 4)]⟩, ⟨some 3, none, .mv (.t 5)⟩, ⟨some 6, none, .ext (.t 3) 0⟩, ⟨some 7, none, .ext (.t 3) 1⟩, ⟨some 1, none, .alloc [.int .u8 0, .int .u8 0, .int .u8 0, .int .u8 0, .int .u8 0, .int .u8 0, .int .u8 0, .int .u8 0, .int .u8 0, .int .u8 0, .int .u8 0, .int .u8 0, .int .u8 0, .int .u8 0, .int .u8 0, .int .u8 0, .int .u8 0, .int .u8 0, .int .u8 0, .int .u8 0, .int .u8 0, .int .u8 0, .int .u8 0, .int .u8 0, .int .u8 0, .int .u8 0, .int .u8 0, .int .u8 0, .int .u8 0, .int .u8 0, .int .u8 0, .int .u8 0]⟩, ⟨none, none, .st 32 (.t 1) (.t 6)⟩, ⟨some 2, none, .tk (.t 7)⟩])
    (.seq (.reg [⟨some 8, none, .mv (.t 2)⟩, ⟨some 9, none, .mv (.t 8)⟩, ⟨some 10, (some (9, true)), .ld (some 32) (.t 1)⟩, ⟨some 11, (some (9, true)), .bld [.int .u8 0, .int .u8 0, .int .u8 0, .int .u8 0, .int .u8 0, .int .u8 0, .int .u8 0, .int .u8 0, .int .u8 0, .int .u8 0, .int .u8 0, .int .u8 0, .int .u8 0, .int .u8 0, .int .u8 0, .int .u8 0, .int .u8 0, .int .u8 0, .int .u8 0, .int .u8 0, .int .u8 0, .int .u8 0, .int .u8 0, .int .u8 0, .int .u8 0, .int .u8 0, .int .u8 0, .int .u8 0, .int .u8 0, .int .u8 0, .int .u8 0, .int .u8 0] [(0, 1, (.c (.int .u8 1))), (2, 1, (.c (.int .u8 3))), (3, 1, (.c (.int .u8 1))), (16, 1, (.c (.int .u8 98)))]⟩, ⟨some 12, (some (9, true)), .eqa false [.int .u8, .int .u8, .int .u8, .int .u8, .int .u8, .int .u8, .int .u8, .int .u8, .int .u8, .int .u8, .int .u8, .int .u8, .int .u8, .int .u8, .int .u8, .int .u8, .int .u8, .int .u8, .int .u8, .int .u8, .int .u8, .int .u8, .int .u8, .int .u8, .int .u8, .int .u8, .int .u8, .int .u8, .int .u8, .int .u8, .int .u8, .int .u8] (.t 10) (.t 11)⟩, ⟨some 13, none, .pick (.t 9) (.t 12) (.c (.bool false))⟩, ⟨some 14, none, .mv (.t 13)⟩, ⟨some 15, (some (14, true)), .callc n_layout_Empty []⟩, ⟨some 16, (some (14, true)), .callc n_layout_Mounts [(.t 15)]⟩, ⟨some 17, none, .pick (.t 14) (.t 16) (.c (.bool false))⟩, ⟨some 18, none, .mv (.t 17)⟩, ⟨some 19, (some (18, true)), .callc n_layout_Name [(.c (.str [97, 46, 49]))]⟩, ⟨some 20, none, .pick (.t 18) (.t 19) (.c (.bool false))⟩, ⟨some 0, none, .tk (.t 20)⟩])
    (.ret)))) }

-- flotsam/flotsamlaw04.Same
def c_flotsamlaw04_Same : AFunc :=
  { np := 2, res := [.t 4], body := (
    .seq (.reg [⟨some 4, none, .tk (.c (.bool false))⟩])
    (.seq (.reg [⟨some 5, none, .mv (.t 0)⟩, ⟨some 6, none, .len false (.t 5)⟩, ⟨some 7, none, .mv (.t 1)⟩, ⟨some 8, none, .len false (.t 7)⟩, ⟨some 9, none, .ic .eql (.t 6) (.t 8)⟩, ⟨some 10, none, .mv (.t 9)⟩, ⟨some 11, (some (10, true)), .mv (.t 0)⟩, ⟨some 12, (some (10, true)), .mv (.t 1)⟩, ⟨some 13, (some (10, true)), .callc n_flotsamref04_Unlike [(.t 11), (.t 12)]⟩, ⟨some 14, (some (10, true)), .len false (.t 13)⟩, ⟨some 15, (some (10, true)), .ic .eql (.t 14) (.c (.int .i64 0))⟩, ⟨some 16, none, .pick (.t 10) (.t 15) (.c (.bool false))⟩, ⟨some 4, none, .tk (.t 16)⟩])
    (.ret))) }

-- flotsam/layout.Empty
def c_layout_Empty : AFunc :=
  { np := 0, res := [.t 0], body := (
    .seq (.reg [⟨some 0, none, .tk (.c (.own 32 []))⟩])
    (.seq (.reg [⟨some 2, none, .mk 32 [.int .u8 0, .int .u8 0, .int .u8 0, .int .u8 0, .int .u8 0, .int .u8 0, .int .u8 0, .int .u8 0, .int .u8 0, .int .u8 0, .int .u8 0, .int .u8 0, .int .u8 0, .int .u8 0, .int .u8 0, .int .u8 0, .int .u8 0, .int .u8 0, .int .u8 0, .int .u8 0, .int .u8 0, .int .u8 0, .int .u8 0, .int .u8 0, .int .u8 0, .int .u8 0, .int .u8 0, .int .u8 0, .int .u8 0, .int .u8 0, .int .u8 0, .int .u8 0] 32 (.c (.int .i64 65)) (.c (.int .i64 65))⟩, ⟨some 1, none, .tk (.t 2)⟩])
    (.seq (.reg [⟨some 3, none, .mv (.t 1)⟩, ⟨some 4, none, .callc n_layout_super []⟩, ⟨some 5, none, .ixa 32 none (.t 3) (.c (.int .i64 0))⟩, ⟨none, none, .st 32 (.t 5) (.t 4)⟩])
    (.seq (.reg [⟨some 7, none, .mv (.t 1)⟩, ⟨some 8, none, .bld [.int .i64 0, .int .i64 0, .int .i64 0, .int .i64 0, .int .i64 0, .int .i64 0] [(0, 1, (.c (.int .i64 2)))]⟩, ⟨some 9, none, .callc n_layout_Inode [(.t 8)]⟩, ⟨some 6, none, .mv (.t 9)⟩, ⟨some 10, none, .ext (.t 6) 0⟩, ⟨some 11, none, .ext (.t 6) 1⟩, ⟨some 12, none, .ixa 32 none (.t 7) (.c (.int .i64 1))⟩, ⟨none, none, .st 32 (.t 12) (.t 10)⟩])
    (.seq (.reg [⟨some 13, none, .mv (.t 1)⟩, ⟨some 0, none, .frz 32 (.t 13)⟩])
    (.ret)))))) }

-- flotsam/flotsamref07.Empty
def c_flotsamref07_Empty : AFunc :=
  { np := 0, res := [.t 0], body := (
    .seq (.reg [⟨some 0, none, .tk (.c (.own 32 []))⟩])
    (.seq (.reg [⟨some 2, none, .mk 32 [.int .u8 0, .int .u8 0, .int .u8 0, .int .u8 0, .int .u8 0, .int .u8 0, .int .u8 0, .int .u8 0, .int .u8 0, .int .u8 0, .int .u8 0, .int .u8 0, .int .u8 0, .int .u8 0, .int .u8 0, .int .u8 0, .int .u8 0, .int .u8 0, .int .u8 0, .int .u8 0, .int .u8 0, .int .u8 0, .int .u8 0, .int .u8 0, .int .u8 0, .int .u8 0, .int .u8 0, .int .u8 0, .int .u8 0, .int .u8 0, .int .u8 0, .int .u8 0] 32 (.c (.int .i64 65)) (.c (.int .i64 65))⟩, ⟨some 1, none, .tk (.t 2)⟩])
    (.seq (.reg [⟨some 3, none, .mv (.t 1)⟩, ⟨some 4, none, .callc n_flotsamref07_Super []⟩, ⟨some 5, none, .ixa 32 none (.t 3) (.c (.int .i64 0))⟩, ⟨none, none, .st 32 (.t 5) (.t 4)⟩])
    (.seq (.reg [⟨some 6, none, .mv (.t 1)⟩, ⟨some 7, none, .ixa 32 none (.t 6) (.c (.int .i64 1))⟩, ⟨some 8, none, .ixa 1 (some 32) (.t 7) (.c (.int .i64 0))⟩, ⟨none, none, .st 1 (.t 8) (.c (.int .u8 2))⟩])
    (.seq (.reg [⟨some 9, none, .mv (.t 1)⟩, ⟨some 0, none, .frz 32 (.t 9)⟩])
    (.ret)))))) }

-- flotsam/layout.Mounts
def c_layout_Mounts : AFunc :=
  { np := 1, res := [.t 2], body := (
    .seq (.reg [⟨some 2, none, .tk (.c (.bool false))⟩])
    (.seq (.seq (.drw [[], [], [], [], [], [], [], [], [], []] [⟨some 5, none, .mv (.t 0)⟩, ⟨some 6, none, .len false (.t 5)⟩, ⟨some 7, none, .ic .neq (.t 6) (.c (.int .i64 65))⟩, ⟨some 8, none, .mv (.t 7)⟩, ⟨some 9, (some (8, false)), .mv (.t 0)⟩, ⟨some 10, (some (8, false)), .ixa 32 none (.t 9) (.c (.int .i64 0))⟩, ⟨some 11, (some (8, false)), .ld (some 32) (.t 10)⟩, ⟨some 12, (some (8, false)), .callc n_layout_super []⟩, ⟨some 13, (some (8, false)), .eqa true [.int .u8, .int .u8, .int .u8, .int .u8, .int .u8, .int .u8, .int .u8, .int .u8, .int .u8, .int .u8, .int .u8, .int .u8, .int .u8, .int .u8, .int .u8, .int .u8, .int .u8, .int .u8, .int .u8, .int .u8, .int .u8, .int .u8, .int .u8, .int .u8, .int .u8, .int .u8, .int .u8, .int .u8, .int .u8, .int .u8, .int .u8, .int .u8] (.t 11) (.t 12)⟩, ⟨some 14, none, .pick (.t 8) (.c (.bool true)) (.t 13)⟩])
      (.cond (.t 14)
        (.seq (.reg [⟨some 2, none, .tk (.c (.bool false))⟩])
          (.ret))
        (.skip)))
    (.seq (.reg [⟨some 16, none, .mv (.t 0)⟩, ⟨some 17, none, .ixa 32 none (.t 16) (.c (.int .i64 1))⟩, ⟨some 18, none, .ld (some 32) (.t 17)⟩, ⟨some 19, none, .callc n_layout_InodeOf [(.t 18)]⟩, ⟨some 15, none, .mv (.t 19)⟩, ⟨some 20, none, .ext (.t 15) 0⟩, ⟨some 21, none, .ext (.t 15) 1⟩, ⟨some 3, none, .alloc [.int .i64 0, .int .i64 0, .int .i64 0, .int .i64 0, .int .i64 0, .int .i64 0]⟩, ⟨none, none, .st 6 (.t 3) (.t 20)⟩, ⟨some 4, none, .tk (.t 21)⟩])
    (.seq (.reg [⟨some 22, none, .mv (.t 4)⟩, ⟨some 23, none, .mv (.t 22)⟩, ⟨some 24, (some (23, true)), .fa 0 (.t 3)⟩, ⟨some 25, (some (23, true)), .ld none (.t 24)⟩, ⟨some 26, (some (23, true)), .ic .eql (.t 25) (.c (.int .i64 2))⟩, ⟨some 27, none, .pick (.t 23) (.t 26) (.c (.bool false))⟩, ⟨some 2, none, .tk (.t 27)⟩])
    (.ret))))) }

-- flotsam/flotsamref07.Mounts
def c_flotsamref07_Mounts : AFunc :=
  { np := 1, res := [.t 2], body := (
    .seq (.reg [⟨some 2, none, .tk (.c (.bool false))⟩])
    (.seq (.seq (.drw [[], [], [], [], [], [], [], [], [], []] [⟨some 5, none, .mv (.t 0)⟩, ⟨some 6, none, .len false (.t 5)⟩, ⟨some 7, none, .ic .neq (.t 6) (.c (.int .i64 65))⟩, ⟨some 8, none, .mv (.t 7)⟩, ⟨some 9, (some (8, false)), .mv (.t 0)⟩, ⟨some 10, (some (8, false)), .ixa 32 none (.t 9) (.c (.int .i64 0))⟩, ⟨some 11, (some (8, false)), .ld (some 32) (.t 10)⟩, ⟨some 12, (some (8, false)), .callc n_flotsamref07_Super []⟩, ⟨some 13, (some (8, false)), .eqa true [.int .u8, .int .u8, .int .u8, .int .u8, .int .u8, .int .u8, .int .u8, .int .u8, .int .u8, .int .u8, .int .u8, .int .u8, .int .u8, .int .u8, .int .u8, .int .u8, .int .u8, .int .u8, .int .u8, .int .u8, .int .u8, .int .u8, .int .u8, .int .u8, .int .u8, .int .u8, .int .u8, .int .u8, .int .u8, .int .u8, .int .u8, .int .u8] (.t 11) (.t 12)⟩, ⟨some 14, none, .pick (.t 8) (.c (.bool true)) (.t 13)⟩])
      (.cond (.t 14)
        (.seq (.reg [⟨some 2, none, .tk (.c (.bool false))⟩])
          (.ret))
        (.skip)))
    (.seq (.reg [⟨some 16, none, .mv (.t 0)⟩, ⟨some 17, none, .ixa 32 none (.t 16) (.c (.int .i64 1))⟩, ⟨some 18, none, .ld (some 32) (.t 17)⟩, ⟨some 19, none, .callc n_flotsamref07_InodeOf [(.t 18)]⟩, ⟨some 15, none, .mv (.t 19)⟩, ⟨some 20, none, .ext (.t 15) 0⟩, ⟨some 21, none, .ext (.t 15) 1⟩, ⟨some 3, none, .alloc [.int .i64 0, .int .i64 0, .int .i64 0, .int .i64 0, .int .i64 0, .int .i64 0]⟩, ⟨none, none, .st 6 (.t 3) (.t 20)⟩, ⟨some 4, none, .tk (.t 21)⟩])
    (.seq (.reg [⟨some 22, none, .mv (.t 4)⟩, ⟨some 23, none, .mv (.t 22)⟩, ⟨some 24, (some (23, true)), .fa 0 (.t 3)⟩, ⟨some 25, (some (23, true)), .ld none (.t 24)⟩, ⟨some 26, (some (23, true)), .ic .eql (.t 25) (.c (.int .i64 2))⟩, ⟨some 27, none, .pick (.t 23) (.t 26) (.c (.bool false))⟩, ⟨some 2, none, .tk (.t 27)⟩])
    (.ret))))) }

-- flotsam/layout.Entry
def c_layout_Entry : AFunc :=
  { np := 1, res := [.cell 2 (some 32), .t 3], body := (
    .seq (.reg [⟨some 1, none, .box (.t 0)⟩, ⟨some 2, none, .alloc [.int .u8 0, .int .u8 0, .int .u8 0, .int .u8 0, .int .u8 0, .int .u8 0, .int .u8 0, .int .u8 0, .int .u8 0, .int .u8 0, .int .u8 0, .int .u8 0, .int .u8 0, .int .u8 0, .int .u8 0, .int .u8 0, .int .u8 0, .int .u8 0, .int .u8 0, .int .u8 0, .int .u8 0, .int .u8 0, .int .u8 0, .int .u8 0, .int .u8 0, .int .u8 0, .int .u8 0, .int .u8 0, .int .u8 0, .int .u8 0, .int .u8 0, .int .u8 0]⟩, ⟨some 3, none, .tk (.c (.bool false))⟩])
    (.seq (.reg [⟨some 4, none, .alloc [.int .u8 0, .int .u8 0, .int .u8 0, .int .u8 0, .int .u8 0, .int .u8 0, .int .u8 0, .int .u8 0, .int .u8 0, .int .u8 0, .int .u8 0, .int .u8 0, .int .u8 0, .int .u8 0, .int .u8 0, .int .u8 0, .int .u8 0, .int .u8 0, .int .u8 0, .int .u8 0, .int .u8 0, .int .u8 0, .int .u8 0, .int .u8 0, .int .u8 0, .int .u8 0, .int .u8 0, .int .u8 0, .int .u8 0, .int .u8 0, .int .u8 0, .int .u8 0]⟩])
    (.seq (.seq (.reg [⟨some 5, none, .ld (some 4) (.t 1)⟩, ⟨some 6, none, .callc n_layout_RightEntry [(.t 5)]⟩, ⟨some 7, none, .notb (.t 6)⟩])
      (.cond (.t 7)
        (.seq (.reg [⟨some 8, none, .ld (some 32) (.t 4)⟩, ⟨none, none, .st 32 (.t 2) (.t 8)⟩, ⟨some 3, none, .tk (.c (.bool false))⟩])
          (.ret))
        (.skip)))
    (.seq (.seq (.reg [⟨some 9, none, .fa 0 (.t 1)⟩, ⟨some 10, none, .ld none (.t 9)⟩])
      (.cond (.t 10)
        (.seq (.drw [[], [], [], [], [], [], [], [], [], [], [8], [2, 5, 8], [2, 5, 8]] [⟨some 11, none, .slp 1 32 (.t 4) none none none⟩, ⟨some 12, none, .fa 1 (.t 1)⟩, ⟨some 13, none, .ld none (.t 12)⟩, ⟨some 14, none, .conv .u8 (.t 13)⟩, ⟨some 15, none, .fa 3 (.t 1)⟩, ⟨some 16, none, .ld none (.t 15)⟩, ⟨some 17, none, .conv .u8 (.t 16)⟩, ⟨some 18, none, .fa 2 (.t 1)⟩, ⟨some 19, none, .ld none (.t 18)⟩, ⟨some 20, none, .len true (.t 19)⟩, ⟨some 21, none, .conv .u8 (.t 20)⟩, ⟨some 22, none, .bsl 1 [.int .u8 0] 4 [(0, 1, (.c (.int .u8 1))), (1, 1, (.t 14)), (2, 1, (.t 17)), (3, 1, (.t 21))] false⟩, ⟨some 23, none, .cpy 1 (.t 11) (.t 22)⟩])
          (.drw [[], [], [], []] [⟨some 24, none, .slp 1 32 (.t 4) (some (.c (.int .i64 16))) none none⟩, ⟨some 25, none, .fa 2 (.t 1)⟩, ⟨some 26, none, .ld none (.t 25)⟩, ⟨some 27, none, .cpy 1 (.t 24) (.t 26)⟩]))
        (.skip)))
    (.seq (.reg [⟨some 28, none, .ld (some 32) (.t 4)⟩, ⟨none, none, .st 32 (.t 2) (.t 28)⟩, ⟨some 3, none, .tk (.c (.bool true))⟩])
    (.ret)))))) }

-- flotsam/flotsamref07.Entry
def b_flotsamref07_Entry_0 : AC :=
  .seq (.seq (.reg [⟨some 28, none, .mv (.t 5)⟩, ⟨some 29, none, .fa 2 (.t 1)⟩, ⟨some 30, none, .ld none (.t 29)⟩, ⟨some 31, none, .len true (.t 30)⟩, ⟨some 32, none, .ic .lss (.t 28) (.t 31)⟩])
    (.cond (.t 32)
      (.skip)
      (.exit 0)))
  (.seq (.block 1 (.reg [⟨some 35, none, .mv (.t 5)⟩, ⟨some 36, none, .ia .add .i64 (.c (.int .i64 16)) (.t 35)⟩, ⟨some 37, none, .fa 2 (.t 1)⟩, ⟨some 38, none, .ld none (.t 37)⟩, ⟨some 39, none, .mv (.t 5)⟩, ⟨some 40, none, .ixs (.t 38) (.t 39)⟩, ⟨some 41, none, .ixa 1 (some 32) (.t 4) (.t 36)⟩, ⟨none, none, .st 1 (.t 41) (.t 40)⟩]))
  (.reg [⟨some 33, none, .mv (.t 5)⟩, ⟨some 34, none, .ia .add .i64 (.t 33) (.c (.int .i64 1))⟩, ⟨some 5, none, .tk (.t 34)⟩]))

def l_flotsamref07_Entry_0 : AC :=
  .loop [1, 2, 4, 5] b_flotsamref07_Entry_0

def r_flotsamref07_Entry_0 : AC :=
  .seq (.reg [⟨some 42, none, .ld (some 32) (.t 4)⟩, ⟨none, none, .st 32 (.t 2) (.t 42)⟩, ⟨some 3, none, .tk (.c (.bool true))⟩])
  (.ret)

def c_flotsamref07_Entry : AFunc :=
  { np := 1, res := [.cell 2 (some 32), .t 3], body := (
    .seq (.reg [⟨some 1, none, .box (.t 0)⟩, ⟨some 2, none, .alloc [.int .u8 0, .int .u8 0, .int .u8 0, .int .u8 0, .int .u8 0, .int .u8 0, .int .u8 0, .int .u8 0, .int .u8 0, .int .u8 0, .int .u8 0, .int .u8 0, .int .u8 0, .int .u8 0, .int .u8 0, .int .u8 0, .int .u8 0, .int .u8 0, .int .u8 0, .int .u8 0, .int .u8 0, .int .u8 0, .int .u8 0, .int .u8 0, .int .u8 0, .int .u8 0, .int .u8 0, .int .u8 0, .int .u8 0, .int .u8 0, .int .u8 0, .int .u8 0]⟩, ⟨some 3, none, .tk (.c (.bool false))⟩])
    (.seq (.seq (.reg [⟨some 6, none, .ld (some 4) (.t 1)⟩, ⟨some 7, none, .callc n_flotsamref07_RightEntry [(.t 6)]⟩, ⟨some 8, none, .notb (.t 7)⟩, ⟨some 9, none, .mv (.t 8)⟩, ⟨some 10, (some (9, false)), .fa 0 (.t 1)⟩, ⟨some 11, (some (9, false)), .ld none (.t 10)⟩, ⟨some 12, (some (9, false)), .notb (.t 11)⟩, ⟨some 13, none, .pick (.t 9) (.c (.bool true)) (.t 12)⟩])
      (.cond (.t 13)
        (.seq (.reg [⟨some 14, none, .bld [.int .u8 0, .int .u8 0, .int .u8 0, .int .u8 0, .int .u8 0, .int .u8 0, .int .u8 0, .int .u8 0, .int .u8 0, .int .u8 0, .int .u8 0, .int .u8 0, .int .u8 0, .int .u8 0, .int .u8 0, .int .u8 0, .int .u8 0, .int .u8 0, .int .u8 0, .int .u8 0, .int .u8 0, .int .u8 0, .int .u8 0, .int .u8 0, .int .u8 0, .int .u8 0, .int .u8 0, .int .u8 0, .int .u8 0, .int .u8 0, .int .u8 0, .int .u8 0] []⟩, ⟨some 15, none, .ld (some 4) (.t 1)⟩, ⟨some 16, none, .callc n_flotsamref07_RightEntry [(.t 15)]⟩, ⟨none, none, .st 32 (.t 2) (.t 14)⟩, ⟨some 3, none, .tk (.t 16)⟩])
          (.ret))
        (.skip)))
    (.seq (.reg [⟨some 17, none, .fa 1 (.t 1)⟩, ⟨some 18, none, .ld none (.t 17)⟩, ⟨some 19, none, .conv .u8 (.t 18)⟩, ⟨some 20, none, .fa 3 (.t 1)⟩, ⟨some 21, none, .ld none (.t 20)⟩, ⟨some 22, none, .conv .u8 (.t 21)⟩, ⟨some 23, none, .fa 2 (.t 1)⟩, ⟨some 24, none, .ld none (.t 23)⟩, ⟨some 25, none, .len true (.t 24)⟩, ⟨some 26, none, .conv .u8 (.t 25)⟩, ⟨some 27, none, .bld [.int .u8 0, .int .u8 0, .int .u8 0, .int .u8 0, .int .u8 0, .int .u8 0, .int .u8 0, .int .u8 0, .int .u8 0, .int .u8 0, .int .u8 0, .int .u8 0, .int .u8 0, .int .u8 0, .int .u8 0, .int .u8 0, .int .u8 0, .int .u8 0, .int .u8 0, .int .u8 0, .int .u8 0, .int .u8 0, .int .u8 0, .int .u8 0, .int .u8 0, .int .u8 0, .int .u8 0, .int .u8 0, .int .u8 0, .int .u8 0, .int .u8 0, .int .u8 0] [(0, 1, (.c (.int .u8 1))), (1, 1, (.t 19)), (2, 1, (.t 22)), (3, 1, (.t 26))]⟩, ⟨some 4, none, .alloc [.int .u8 0, .int .u8 0, .int .u8 0, .int .u8 0, .int .u8 0, .int .u8 0, .int .u8 0, .int .u8 0, .int .u8 0, .int .u8 0, .int .u8 0, .int .u8 0, .int .u8 0, .int .u8 0, .int .u8 0, .int .u8 0, .int .u8 0, .int .u8 0, .int .u8 0, .int .u8 0, .int .u8 0, .int .u8 0, .int .u8 0, .int .u8 0, .int .u8 0, .int .u8 0, .int .u8 0, .int .u8 0, .int .u8 0, .int .u8 0, .int .u8 0, .int .u8 0]⟩, ⟨none, none, .st 32 (.t 4) (.t 27)⟩])
    (.seq (.seq (.reg [⟨some 5, none, .tk (.c (.int .i64 0))⟩])
      (.block 0 (l_flotsamref07_Entry_0))) r_flotsamref07_Entry_0)))) }

-- flotsam/layout.EntryOf
def c_layout_EntryOf : AFunc :=
  { np := 1, res := [.cell 2 (some 4), .t 3], body := (
    .seq (.reg [⟨some 1, none, .box (.t 0)⟩, ⟨some 2, none, .alloc [.bool false, .int .i64 0, .str [], .int .i64 0]⟩, ⟨some 3, none, .tk (.c (.bool false))⟩])
    (.seq (.seq (.reg [⟨some 7, none, .ld (some 32) (.t 1)⟩, ⟨some 8, none, .callc n_sector_Zero [(.t 7)]⟩])
      (.cond (.t 8)
        (.seq (.reg [⟨some 9, none, .bld [.bool false, .int .i64 0, .str [], .int .i64 0] []⟩, ⟨none, none, .st 4 (.t 2) (.t 9)⟩, ⟨some 3, none, .tk (.c (.bool true))⟩])
          (.ret))
        (.skip)))
    (.seq (.drw [[], [], [], [], [], [], [], [], [], [], [], [], [], [], []] [⟨some 10, none, .ixa 1 (some 32) (.t 1) (.c (.int .i64 1))⟩, ⟨some 11, none, .ld none (.t 10)⟩, ⟨some 12, none, .conv .i64 (.t 11)⟩, ⟨some 13, none, .ixa 1 (some 32) (.t 1) (.c (.int .i64 2))⟩, ⟨some 14, none, .ld none (.t 13)⟩, ⟨some 15, none, .conv .i64 (.t 14)⟩, ⟨some 16, none, .ld (some 32) (.t 1)⟩, ⟨some 17, none, .ixa 1 (some 32) (.t 1) (.c (.int .i64 3))⟩, ⟨some 18, none, .ld none (.t 17)⟩, ⟨some 19, none, .conv .i64 (.t 18)⟩, ⟨some 20, none, .callc n_sector_Cut [(.t 16), (.c (.int .i64 16)), (.t 19)]⟩, ⟨some 21, none, .b2s (.t 20)⟩, ⟨some 22, none, .bld [.bool false, .int .i64 0, .str [], .int .i64 0] [(0, 1, (.c (.bool true))), (1, 1, (.t 12)), (3, 1, (.t 15)), (2, 1, (.t 21))]⟩, ⟨some 4, none, .alloc [.bool false, .int .i64 0, .str [], .int .i64 0]⟩, ⟨none, none, .st 4 (.t 4) (.t 22)⟩])
    (.seq (.seq (.reg [⟨some 24, none, .ld (some 4) (.t 4)⟩, ⟨some 25, none, .callc n_layout_Entry [(.t 24)]⟩, ⟨some 23, none, .mv (.t 25)⟩, ⟨some 26, none, .ext (.t 23) 0⟩, ⟨some 27, none, .ext (.t 23) 1⟩, ⟨some 5, none, .alloc [.int .u8 0, .int .u8 0, .int .u8 0, .int .u8 0, .int .u8 0, .int .u8 0, .int .u8 0, .int .u8 0, .int .u8 0, .int .u8 0, .int .u8 0, .int .u8 0, .int .u8 0, .int .u8 0, .int .u8 0, .int .u8 0, .int .u8 0, .int .u8 0, .int .u8 0, .int .u8 0, .int .u8 0, .int .u8 0, .int .u8 0, .int .u8 0, .int .u8 0, .int .u8 0, .int .u8 0, .int .u8 0, .int .u8 0, .int .u8 0, .int .u8 0, .int .u8 0]⟩, ⟨none, none, .st 32 (.t 5) (.t 26)⟩, ⟨some 6, none, .tk (.t 27)⟩])
      (.seq (.reg [⟨some 28, none, .mv (.t 6)⟩, ⟨some 29, none, .notb (.t 28)⟩, ⟨some 30, none, .mv (.t 29)⟩, ⟨some 31, (some (30, false)), .ld (some 32) (.t 1)⟩, ⟨some 32, (some (30, false)), .ld (some 32) (.t 5)⟩, ⟨some 33, (some (30, false)), .eqa true [.int .u8, .int .u8, .int .u8, .int .u8, .int .u8, .int .u8, .int .u8, .int .u8, .int .u8, .int .u8, .int .u8, .int .u8, .int .u8, .int .u8, .int .u8, .int .u8, .int .u8, .int .u8, .int .u8, .int .u8, .int .u8, .int .u8, .int .u8, .int .u8, .int .u8, .int .u8, .int .u8, .int .u8, .int .u8, .int .u8, .int .u8, .int .u8] (.t 31) (.t 32)⟩, ⟨some 34, none, .pick (.t 30) (.c (.bool true)) (.t 33)⟩])
      (.cond (.t 34)
        (.seq (.reg [⟨some 35, none, .bld [.bool false, .int .i64 0, .str [], .int .i64 0] []⟩, ⟨none, none, .st 4 (.t 2) (.t 35)⟩, ⟨some 3, none, .tk (.c (.bool false))⟩])
          (.ret))
        (.skip))))
    (.seq (.reg [⟨some 36, none, .ld (some 4) (.t 4)⟩, ⟨none, none, .st 4 (.t 2) (.t 36)⟩, ⟨some 3, none, .tk (.c (.bool true))⟩])
    (.ret)))))) }

-- flotsam/flotsamref07.EntryOf
def c_flotsamref07_EntryOf : AFunc :=
  { np := 1, res := [.cell 2 (some 4), .t 3], body := (
    .seq (.reg [⟨some 1, none, .box (.t 0)⟩, ⟨some 2, none, .alloc [.bool false, .int .i64 0, .str [], .int .i64 0]⟩, ⟨some 3, none, .tk (.c (.bool false))⟩])
    (.seq (.reg [⟨some 4, none, .alloc [.bool false, .int .i64 0, .str [], .int .i64 0]⟩])
    (.seq (.seq (.reg [⟨some 7, none, .ixa 1 (some 32) (.t 1) (.c (.int .i64 0))⟩, ⟨some 8, none, .ld none (.t 7)⟩, ⟨some 9, none, .ic .eql (.t 8) (.c (.int .u8 1))⟩, ⟨some 10, none, .mv (.t 9)⟩, ⟨some 11, (some (10, true)), .ixa 1 (some 32) (.t 1) (.c (.int .i64 3))⟩, ⟨some 12, (some (10, true)), .ld none (.t 11)⟩, ⟨some 13, (some (10, true)), .ic .leq (.t 12) (.c (.int .u8 8))⟩, ⟨some 14, none, .pick (.t 10) (.t 13) (.c (.bool false))⟩])
      (.cond (.t 14)
        (.drw [[], [], [], [], [], [], [], [], [], [], [], [], [], []] [⟨some 15, none, .ixa 1 (some 32) (.t 1) (.c (.int .i64 1))⟩, ⟨some 16, none, .ld none (.t 15)⟩, ⟨some 17, none, .conv .i64 (.t 16)⟩, ⟨some 18, none, .ixa 1 (some 32) (.t 1) (.c (.int .i64 2))⟩, ⟨some 19, none, .ld none (.t 18)⟩, ⟨some 20, none, .conv .i64 (.t 19)⟩, ⟨some 21, none, .ixa 1 (some 32) (.t 1) (.c (.int .i64 3))⟩, ⟨some 22, none, .ld none (.t 21)⟩, ⟨some 23, none, .conv .i64 (.t 22)⟩, ⟨some 24, none, .ia .add .i64 (.c (.int .i64 16)) (.t 23)⟩, ⟨some 25, none, .slp 1 32 (.t 1) (some (.c (.int .i64 16))) (some (.t 24)) none⟩, ⟨some 26, none, .b2s (.t 25)⟩, ⟨some 27, none, .bld [.bool false, .int .i64 0, .str [], .int .i64 0] [(0, 1, (.c (.bool true))), (1, 1, (.t 17)), (3, 1, (.t 20)), (2, 1, (.t 26))]⟩, ⟨none, none, .st 4 (.t 4) (.t 27)⟩])
        (.skip)))
    (.seq (.seq (.reg [⟨some 29, none, .ld (some 4) (.t 4)⟩, ⟨some 30, none, .callc n_flotsamref07_Entry [(.t 29)]⟩, ⟨some 28, none, .mv (.t 30)⟩, ⟨some 31, none, .ext (.t 28) 0⟩, ⟨some 32, none, .ext (.t 28) 1⟩, ⟨some 5, none, .alloc [.int .u8 0, .int .u8 0, .int .u8 0, .int .u8 0, .int .u8 0, .int .u8 0, .int .u8 0, .int .u8 0, .int .u8 0, .int .u8 0, .int .u8 0, .int .u8 0, .int .u8 0, .int .u8 0, .int .u8 0, .int .u8 0, .int .u8 0, .int .u8 0, .int .u8 0, .int .u8 0, .int .u8 0, .int .u8 0, .int .u8 0, .int .u8 0, .int .u8 0, .int .u8 0, .int .u8 0, .int .u8 0, .int .u8 0, .int .u8 0, .int .u8 0, .int .u8 0]⟩, ⟨none, none, .st 32 (.t 5) (.t 31)⟩, ⟨some 6, none, .tk (.t 32)⟩])
      (.seq (.reg [⟨some 33, none, .mv (.t 6)⟩, ⟨some 34, none, .notb (.t 33)⟩, ⟨some 35, none, .mv (.t 34)⟩, ⟨some 36, (some (35, false)), .ld (some 32) (.t 5)⟩, ⟨some 37, (some (35, false)), .ld (some 32) (.t 1)⟩, ⟨some 38, (some (35, false)), .eqa true [.int .u8, .int .u8, .int .u8, .int .u8, .int .u8, .int .u8, .int .u8, .int .u8, .int .u8, .int .u8, .int .u8, .int .u8, .int .u8, .int .u8, .int .u8, .int .u8, .int .u8, .int .u8, .int .u8, .int .u8, .int .u8, .int .u8, .int .u8, .int .u8, .int .u8, .int .u8, .int .u8, .int .u8, .int .u8, .int .u8, .int .u8, .int .u8] (.t 36) (.t 37)⟩, ⟨some 39, none, .pick (.t 35) (.c (.bool true)) (.t 38)⟩])
      (.cond (.t 39)
        (.seq (.reg [⟨some 40, none, .bld [.bool false, .int .i64 0, .str [], .int .i64 0] []⟩, ⟨none, none, .st 4 (.t 2) (.t 40)⟩, ⟨some 3, none, .tk (.c (.bool false))⟩])
          (.ret))
        (.skip))))
    (.seq (.reg [⟨some 41, none, .ld (some 4) (.t 4)⟩, ⟨none, none, .st 4 (.t 2) (.t 41)⟩, ⟨some 3, none, .tk (.c (.bool true))⟩])
    (.ret)))))) }

-- flotsam/layout.RightEntry
def c_layout_RightEntry : AFunc :=
  { np := 1, res := [.t 2], body := (
    .seq (.reg [⟨some 1, none, .box (.t 0)⟩, ⟨some 2, none, .tk (.c (.bool false))⟩])
    (.seq (.reg [⟨some 3, none, .tk (.c (.fn (.func n_layout_RightEntry_1) [] []))⟩])
    (.seq (.seq (.reg [⟨some 4, none, .fa 0 (.t 1)⟩, ⟨some 5, none, .ld none (.t 4)⟩, ⟨some 6, none, .notb (.t 5)⟩])
      (.cond (.t 6)
        (.seq (.reg [⟨some 7, none, .ld (some 4) (.t 1)⟩, ⟨some 8, none, .bld [.bool false, .int .i64 0, .str [], .int .i64 0] []⟩, ⟨some 9, none, .eqa false [.bool, .int .i64, .str, .int .i64] (.t 7) (.t 8)⟩, ⟨some 2, none, .tk (.t 9)⟩])
          (.ret))
        (.skip)))
    (.seq (.reg [⟨some 10, none, .mv (.t 3)⟩, ⟨some 11, none, .fa 1 (.t 1)⟩, ⟨some 12, none, .ld none (.t 11)⟩, ⟨some 13, none, .callv (.t 10) [(.t 12), (.c (.int .i64 0))]⟩, ⟨some 14, none, .mv (.t 13)⟩, ⟨some 15, (some (14, true)), .mv (.t 3)⟩, ⟨some 16, (some (14, true)), .fa 3 (.t 1)⟩, ⟨some 17, (some (14, true)), .ld none (.t 16)⟩, ⟨some 18, (some (14, true)), .callv (.t 15) [(.t 17), (.c (.int .i64 1))]⟩, ⟨some 19, none, .pick (.t 14) (.t 18) (.c (.bool false))⟩, ⟨some 20, none, .mv (.t 19)⟩, ⟨some 21, (some (20, true)), .fa 2 (.t 1)⟩, ⟨some 22, (some (20, true)), .ld none (.t 21)⟩, ⟨some 23, (some (20, true)), .callc n_layout_Name [(.t 22)]⟩, ⟨some 24, none, .pick (.t 20) (.t 23) (.c (.bool false))⟩, ⟨some 2, none, .tk (.t 24)⟩])
    (.ret))))) }

-- flotsam/flotsamref07.RightEntry
def c_flotsamref07_RightEntry : AFunc :=
  { np := 1, res := [.t 2], body := (
    .seq (.reg [⟨some 1, none, .box (.t 0)⟩, ⟨some 2, none, .tk (.c (.bool false))⟩])
    (.seq (.seq (.reg [⟨some 3, none, .fa 0 (.t 1)⟩, ⟨some 4, none, .ld none (.t 3)⟩, ⟨some 5, none, .notb (.t 4)⟩])
      (.cond (.t 5)
        (.seq (.reg [⟨some 6, none, .ld (some 4) (.t 1)⟩, ⟨some 7, none, .bld [.bool false, .int .i64 0, .str [], .int .i64 0] []⟩, ⟨some 8, none, .eqa false [.bool, .int .i64, .str, .int .i64] (.t 6) (.t 7)⟩, ⟨some 2, none, .tk (.t 8)⟩])
          (.ret))
        (.skip)))
    (.seq (.reg [⟨some 9, none, .fa 1 (.t 1)⟩, ⟨some 10, none, .ld none (.t 9)⟩, ⟨some 11, none, .ic .geq (.t 10) (.c (.int .i64 0))⟩, ⟨some 12, none, .mv (.t 11)⟩, ⟨some 13, (some (12, true)), .fa 1 (.t 1)⟩, ⟨some 14, (some (12, true)), .ld none (.t 13)⟩, ⟨some 15, (some (12, true)), .ic .lss (.t 14) (.c (.int .i64 16))⟩, ⟨some 16, none, .pick (.t 12) (.t 15) (.c (.bool false))⟩, ⟨some 17, none, .mv (.t 16)⟩, ⟨some 18, (some (17, true)), .fa 3 (.t 1)⟩, ⟨some 19, (some (17, true)), .ld none (.t 18)⟩, ⟨some 20, (some (17, true)), .ic .geq (.t 19) (.c (.int .i64 1))⟩, ⟨some 21, none, .pick (.t 17) (.t 20) (.c (.bool false))⟩, ⟨some 22, none, .mv (.t 21)⟩, ⟨some 23, (some (22, true)), .fa 3 (.t 1)⟩, ⟨some 24, (some (22, true)), .ld none (.t 23)⟩, ⟨some 25, (some (22, true)), .ic .lss (.t 24) (.c (.int .i64 16))⟩, ⟨some 26, none, .pick (.t 22) (.t 25) (.c (.bool false))⟩, ⟨some 27, none, .mv (.t 26)⟩, ⟨some 28, (some (27, true)), .fa 2 (.t 1)⟩, ⟨some 29, (some (27, true)), .ld none (.t 28)⟩, ⟨some 30, (some (27, true)), .callc n_flotsamref07_Name [(.t 29)]⟩, ⟨some 31, none, .pick (.t 27) (.t 30) (.c (.bool false))⟩, ⟨some 2, none, .tk (.t 31)⟩])
    (.ret)))) }

-- flotsam/layout.Name
def c_layout_Name : AFunc :=
  { np := 1, res := [.t 2], body := (
    .seq (.reg [⟨some 2, none, .tk (.c (.bool false))⟩])
    (.seq (.reg [⟨some 3, none, .mv (.t 0)⟩, ⟨some 4, none, .sop .neq (.t 3) (.c (.str []))⟩, ⟨some 5, none, .mv (.t 4)⟩, ⟨some 6, (some (5, true)), .mv (.t 0)⟩, ⟨some 7, (some (5, true)), .len true (.t 6)⟩, ⟨some 8, (some (5, true)), .ic .leq (.t 7) (.c (.int .i64 8))⟩, ⟨some 9, none, .pick (.t 5) (.t 8) (.c (.bool false))⟩, ⟨some 10, none, .mv (.t 9)⟩, ⟨some 11, (some (10, true)), .mv (.t 0)⟩, ⟨some 12, (some (10, true)), .sop .neq (.t 11) (.c (.str [46]))⟩, ⟨some 13, none, .pick (.t 10) (.t 12) (.c (.bool false))⟩, ⟨some 14, none, .mv (.t 13)⟩, ⟨some 15, (some (14, true)), .mv (.t 0)⟩, ⟨some 16, (some (14, true)), .sop .neq (.t 15) (.c (.str [46, 46]))⟩, ⟨some 17, none, .pick (.t 14) (.t 16) (.c (.bool false))⟩, ⟨some 18, none, .mv (.t 17)⟩, ⟨some 19, (some (18, true)), .mv (.t 0)⟩, ⟨some 20, (some (18, true)), .callc n_strings_Trim [(.t 19), (.c (.str [97, 98, 99, 100, 101, 102, 103, 104, 105, 106, 107, 108, 109, 110, 111, 112, 113, 114, 115, 116, 117, 118, 119, 120, 121, 122, 48, 49, 50, 51, 52, 53, 54, 55, 56, 57, 46, 95]))]⟩, ⟨some 21, (some (18, true)), .sop .eql (.t 20) (.c (.str []))⟩, ⟨some 22, none, .pick (.t 18) (.t 21) (.c (.bool false))⟩, ⟨some 2, none, .tk (.t 22)⟩])
    (.ret))) }

-- flotsam/flotsamref07.Name
def b_flotsamref07_Name_0 : AC :=
  .seq (.seq (.reg [⟨some 21, none, .mv (.t 3)⟩, ⟨some 22, none, .mv (.t 0)⟩, ⟨some 23, none, .len true (.t 22)⟩, ⟨some 24, none, .ic .lss (.t 21) (.t 23)⟩])
    (.cond (.t 24)
      (.skip)
      (.exit 0)))
  (.seq (.block 1 (.seq (.reg [⟨some 27, none, .mv (.t 0)⟩, ⟨some 28, none, .mv (.t 3)⟩, ⟨some 29, none, .ixs (.t 27) (.t 28)⟩, ⟨some 4, none, .tk (.t 29)⟩])
      (.seq (.reg [⟨some 30, none, .mv (.t 4)⟩, ⟨some 31, none, .ic .geq (.t 30) (.c (.int .u8 97))⟩, ⟨some 32, none, .mv (.t 31)⟩, ⟨some 33, (some (32, true)), .mv (.t 4)⟩, ⟨some 34, (some (32, true)), .ic .leq (.t 33) (.c (.int .u8 122))⟩, ⟨some 35, none, .pick (.t 32) (.t 34) (.c (.bool false))⟩, ⟨some 36, none, .mv (.t 35)⟩, ⟨some 37, (some (36, false)), .mv (.t 4)⟩, ⟨some 38, (some (36, false)), .ic .geq (.t 37) (.c (.int .u8 48))⟩, ⟨some 39, (some (36, false)), .mv (.t 38)⟩, ⟨some 40, (some (39, true)), .mv (.t 4)⟩, ⟨some 41, (some (39, true)), .ic .leq (.t 40) (.c (.int .u8 57))⟩, ⟨some 42, (some (36, false)), .pick (.t 39) (.t 41) (.c (.bool false))⟩, ⟨some 43, none, .pick (.t 36) (.c (.bool true)) (.t 42)⟩, ⟨some 44, none, .mv (.t 43)⟩, ⟨some 45, (some (44, false)), .mv (.t 4)⟩, ⟨some 46, (some (44, false)), .ic .eql (.t 45) (.c (.int .u8 46))⟩, ⟨some 47, none, .pick (.t 44) (.c (.bool true)) (.t 46)⟩, ⟨some 48, none, .mv (.t 47)⟩, ⟨some 49, (some (48, false)), .mv (.t 4)⟩, ⟨some 50, (some (48, false)), .ic .eql (.t 49) (.c (.int .u8 95))⟩, ⟨some 51, none, .pick (.t 48) (.c (.bool true)) (.t 50)⟩, ⟨some 52, none, .notb (.t 51)⟩])
      (.cond (.t 52)
        (.seq (.reg [⟨some 2, none, .tk (.c (.bool false))⟩])
          (.ret))
        (.skip)))))
  (.reg [⟨some 25, none, .mv (.t 3)⟩, ⟨some 26, none, .ia .add .i64 (.t 25) (.c (.int .i64 1))⟩, ⟨some 3, none, .tk (.t 26)⟩]))

def l_flotsamref07_Name_0 : AC :=
  .loop [0, 3] b_flotsamref07_Name_0

def r_flotsamref07_Name_0 : AC :=
  .seq (.reg [⟨some 2, none, .tk (.c (.bool true))⟩])
  (.ret)

def c_flotsamref07_Name : AFunc :=
  { np := 1, res := [.t 2], body := (
    .seq (.reg [⟨some 2, none, .tk (.c (.bool false))⟩])
    (.seq (.seq (.reg [⟨some 5, none, .mv (.t 0)⟩, ⟨some 6, none, .len true (.t 5)⟩, ⟨some 7, none, .ic .lss (.t 6) (.c (.int .i64 1))⟩, ⟨some 8, none, .mv (.t 7)⟩, ⟨some 9, (some (8, false)), .mv (.t 0)⟩, ⟨some 10, (some (8, false)), .len true (.t 9)⟩, ⟨some 11, (some (8, false)), .ic .gtr (.t 10) (.c (.int .i64 8))⟩, ⟨some 12, none, .pick (.t 8) (.c (.bool true)) (.t 11)⟩, ⟨some 13, none, .mv (.t 12)⟩, ⟨some 14, (some (13, false)), .mv (.t 0)⟩, ⟨some 15, (some (13, false)), .sop .eql (.t 14) (.c (.str [46]))⟩, ⟨some 16, none, .pick (.t 13) (.c (.bool true)) (.t 15)⟩, ⟨some 17, none, .mv (.t 16)⟩, ⟨some 18, (some (17, false)), .mv (.t 0)⟩, ⟨some 19, (some (17, false)), .sop .eql (.t 18) (.c (.str [46, 46]))⟩, ⟨some 20, none, .pick (.t 17) (.c (.bool true)) (.t 19)⟩])
      (.cond (.t 20)
        (.seq (.reg [⟨some 2, none, .tk (.c (.bool false))⟩])
          (.ret))
        (.skip)))
    (.seq (.seq (.reg [⟨some 3, none, .tk (.c (.int .i64 0))⟩])
      (.block 0 (l_flotsamref07_Name_0))) r_flotsamref07_Name_0))) }

-- flotsam/sector.Torn
def c_sector_Torn : AFunc :=
  { np := 2, res := [.cell 4 (some 32)], body := (
    .seq (.reg [⟨some 2, none, .box (.t 0)⟩, ⟨some 3, none, .box (.t 1)⟩, ⟨some 4, none, .alloc [.int .u8 0, .int .u8 0, .int .u8 0, .int .u8 0, .int .u8 0, .int .u8 0, .int .u8 0, .int .u8 0, .int .u8 0, .int .u8 0, .int .u8 0, .int .u8 0, .int .u8 0, .int .u8 0, .int .u8 0, .int .u8 0, .int .u8 0, .int .u8 0, .int .u8 0, .int .u8 0, .int .u8 0, .int .u8 0, .int .u8 0, .int .u8 0, .int .u8 0, .int .u8 0, .int .u8 0, .int .u8 0, .int .u8 0, .int .u8 0, .int .u8 0, .int .u8 0]⟩])
    (.seq (.drw [[], [], []] [⟨some 5, none, .slp 1 32 (.t 2) none (some (.c (.int .i64 16))) none⟩, ⟨some 6, none, .slp 1 32 (.t 3) none none none⟩, ⟨some 7, none, .cpy 1 (.t 5) (.t 6)⟩])
    (.seq (.reg [⟨some 8, none, .ld (some 32) (.t 2)⟩, ⟨none, none, .st 32 (.t 4) (.t 8)⟩])
    (.ret)))) }

-- slices.Clone[[]int,int]
def c_slices_Clone_int_int : AFunc :=
  { np := 1, res := [.t 2], body := (
    .seq (.reg [⟨some 2, none, .tk (.c (.own 1 []))⟩])
    (.seq (.seq (.reg [⟨some 3, none, .mv (.t 0)⟩, ⟨some 4, none, .isn false (.t 3)⟩])
      (.cond (.t 4)
        (.seq (.reg [⟨some 2, none, .tk (.c (.own 1 []))⟩])
          (.ret))
        (.skip)))
    (.seq (.reg [⟨some 5, none, .bsl 1 [.int .i64 0] 0 [] false⟩, ⟨some 6, none, .mv (.t 0)⟩, ⟨some 7, none, .app 1 8 (.t 5) (.t 6) false⟩, ⟨some 2, none, .tk (.t 7)⟩])
    (.ret)))) }

-- flotsam/layout.need
def c_layout_need : AFunc :=
  { np := 1, res := [.t 2], body := (
    .seq (.reg [⟨some 2, none, .tk (.c (.int .i64 0))⟩])
    (.seq (.reg [⟨some 3, none, .mv (.t 0)⟩, ⟨some 4, none, .ia .add .i64 (.t 3) (.c (.int .i64 32))⟩, ⟨some 5, none, .ia .sub .i64 (.t 4) (.c (.int .i64 1))⟩, ⟨some 6, none, .ia .quo .i64 (.t 5) (.c (.int .i64 32))⟩, ⟨some 2, none, .tk (.t 6)⟩])
    (.ret))) }

-- flotsam/layout.RightInode$1
def c_layout_RightInode_1 : AFunc :=
  { np := 1, res := [.t 2], body := (
    .seq (.reg [⟨some 2, none, .tk (.c (.bool false))⟩])
    (.seq (.reg [⟨some 3, none, .mv (.t 0)⟩, ⟨some 4, none, .ic .lss (.t 3) (.c (.int .i64 1))⟩, ⟨some 5, none, .mv (.t 4)⟩, ⟨some 6, (some (5, false)), .mv (.t 0)⟩, ⟨some 7, (some (5, false)), .ic .gtr (.t 6) (.c (.int .i64 24))⟩, ⟨some 8, none, .pick (.t 5) (.c (.bool true)) (.t 7)⟩, ⟨some 2, none, .tk (.t 8)⟩])
    (.ret))) }

-- slices.ContainsFunc[[]int,int]
def c_slices_ContainsFunc_int_int : AFunc :=
  { np := 2, res := [.t 4], body := (
    .seq (.reg [⟨some 4, none, .tk (.c (.bool false))⟩])
    (.seq (.reg [⟨some 5, none, .mv (.t 0)⟩, ⟨some 6, none, .mv (.t 1)⟩, ⟨some 7, none, .call n_slices_IndexFunc_int_int [(.t 5), (.t 6)]⟩, ⟨some 8, none, .ic .geq (.t 7) (.c (.int .i64 0))⟩, ⟨some 4, none, .tk (.t 8)⟩])
    (.ret))) }

-- flotsam/layout.RightInode$2
def c_layout_RightInode_2 : AFunc :=
  { np := 1, res := [.t 2], body := (
    .seq (.reg [⟨some 2, none, .tk (.c (.bool false))⟩])
    (.seq (.reg [⟨some 3, none, .mv (.t 0)⟩, ⟨some 4, none, .ic .neq (.t 3) (.c (.int .i64 0))⟩, ⟨some 2, none, .tk (.t 4)⟩])
    (.ret))) }

-- slices.Sort[[]int,int]
def c_slices_Sort_int_int : AFunc :=
  { np := 1, res := [], body := (
    .seq (.reg [⟨some 3, none, .mv (.t 0)⟩, ⟨some 4, none, .len false (.t 3)⟩, ⟨some 2, none, .tk (.t 4)⟩])
    (.reg [⟨some 5, none, .mv (.t 0)⟩, ⟨some 6, none, .mv (.t 2)⟩, ⟨some 7, none, .mv (.t 2)⟩, ⟨some 8, none, .conv .u64 (.t 7)⟩, ⟨some 9, none, .callc n_math_bits_Len [(.t 8)]⟩, ⟨some 10, none, .callc n_slices_pdqsortOrdered_int [(.t 5), (.c (.int .i64 0)), (.t 6), (.t 9)]⟩])) }

-- slices.Compact[[]int,int]
def b_slices_Compact_int_int_0 : AC :=
  .seq (.seq (.reg [⟨some 29, none, .mv (.t 5)⟩, ⟨some 30, none, .mv (.t 4)⟩, ⟨some 31, none, .len false (.t 30)⟩, ⟨some 32, none, .ic .lss (.t 29) (.t 31)⟩])
    (.cond (.t 32)
      (.skip)
      (.exit 2)))
  (.seq (.block 3 (.seq (.drw [[], [], [], [], [], [], [], [], [], []] [⟨some 35, none, .mv (.t 4)⟩, ⟨some 36, none, .mv (.t 5)⟩, ⟨some 37, none, .ixa 1 none (.t 35) (.t 36)⟩, ⟨some 38, none, .ld none (.t 37)⟩, ⟨some 39, none, .mv (.t 4)⟩, ⟨some 40, none, .mv (.t 5)⟩, ⟨some 41, none, .ia .sub .i64 (.t 40) (.c (.int .i64 1))⟩, ⟨some 42, none, .ixa 1 none (.t 39) (.t 41)⟩, ⟨some 43, none, .ld none (.t 42)⟩, ⟨some 44, none, .ic .neq (.t 38) (.t 43)⟩])
      (.cond (.t 44)
        (.seq (.reg [⟨some 45, none, .mv (.t 0)⟩, ⟨some 46, none, .mv (.t 3)⟩, ⟨some 47, none, .mv (.t 4)⟩, ⟨some 48, none, .mv (.t 5)⟩, ⟨some 49, none, .ixa 1 none (.t 47) (.t 48)⟩, ⟨some 50, none, .ld none (.t 49)⟩, ⟨some 51, none, .ixa 1 none (.t 45) (.t 46)⟩, ⟨none, none, .st 1 (.t 51) (.t 50)⟩])
          (.reg [⟨some 52, none, .mv (.t 3)⟩, ⟨some 53, none, .ia .add .i64 (.t 52) (.c (.int .i64 1))⟩, ⟨some 3, none, .tk (.t 53)⟩]))
        (.skip))))
  (.reg [⟨some 33, none, .mv (.t 5)⟩, ⟨some 34, none, .ia .add .i64 (.t 33) (.c (.int .i64 1))⟩, ⟨some 5, none, .tk (.t 34)⟩]))

def l_slices_Compact_int_int_0 : AC :=
  .loop [0, 3, 4, 5] b_slices_Compact_int_int_0

def r_slices_Compact_int_int_0 : AC :=
  .seq (.reg [⟨some 54, none, .mv (.t 0)⟩, ⟨some 55, none, .mv (.t 3)⟩, ⟨some 56, none, .sls 1 (.t 54) (some (.t 55)) none none⟩, ⟨none, none, .clr 1 [.int .i64 0] (.t 56)⟩])
  (.seq (.reg [⟨some 57, none, .mv (.t 0)⟩, ⟨some 58, none, .mv (.t 3)⟩, ⟨some 59, none, .sls 1 (.t 57) none (some (.t 58)) none⟩, ⟨some 2, none, .frz 1 (.t 59)⟩])
  (.ret))

def r_slices_Compact_int_int_1 : AC :=
  .reg [⟨some 14, none, .mv (.t 3)⟩, ⟨some 15, none, .ia .add .i64 (.t 14) (.c (.int .i64 1))⟩, ⟨some 3, none, .tk (.t 15)⟩]

def b_slices_Compact_int_int_1 : AC :=
  .seq (.seq (.reg [⟨some 10, none, .mv (.t 3)⟩, ⟨some 11, none, .mv (.t 0)⟩, ⟨some 12, none, .len false (.t 11)⟩, ⟨some 13, none, .ic .lss (.t 10) (.t 12)⟩])
    (.cond (.t 13)
      (.skip)
      (.exit 0)))
  (.seq (.block 1 (.seq (.drw [[], [], [], [], [], [], [], [], [], []] [⟨some 16, none, .mv (.t 0)⟩, ⟨some 17, none, .mv (.t 3)⟩, ⟨some 18, none, .ixa 1 none (.t 16) (.t 17)⟩, ⟨some 19, none, .ld none (.t 18)⟩, ⟨some 20, none, .mv (.t 0)⟩, ⟨some 21, none, .mv (.t 3)⟩, ⟨some 22, none, .ia .sub .i64 (.t 21) (.c (.int .i64 1))⟩, ⟨some 23, none, .ixa 1 none (.t 20) (.t 22)⟩, ⟨some 24, none, .ld none (.t 23)⟩, ⟨some 25, none, .ic .eql (.t 19) (.t 24)⟩])
      (.cond (.t 25)
        (.seq (.reg [⟨some 26, none, .mv (.t 0)⟩, ⟨some 27, none, .mv (.t 3)⟩, ⟨some 28, none, .sls 1 (.t 26) (some (.t 27)) none none⟩, ⟨some 4, none, .tk (.t 28)⟩])
          (.seq (.seq (.reg [⟨some 5, none, .tk (.c (.int .i64 1))⟩])
            (.block 2 (l_slices_Compact_int_int_0))) r_slices_Compact_int_int_0))
        (.skip)))) r_slices_Compact_int_int_1)

def l_slices_Compact_int_int_1 : AC :=
  .loop [0, 3] b_slices_Compact_int_int_1

def r_slices_Compact_int_int_2 : AC :=
  .seq (.reg [⟨some 60, none, .mv (.t 0)⟩, ⟨some 2, none, .frz 1 (.t 60)⟩])
  (.ret)

def c_slices_Compact_int_int : AFunc :=
  { np := 1, res := [.t 2], body := (
    .seq (.reg [⟨some 2, none, .tk (.c (.own 1 []))⟩])
    (.seq (.seq (.reg [⟨some 6, none, .mv (.t 0)⟩, ⟨some 7, none, .len false (.t 6)⟩, ⟨some 8, none, .ic .lss (.t 7) (.c (.int .i64 2))⟩])
      (.cond (.t 8)
        (.seq (.reg [⟨some 9, none, .mv (.t 0)⟩, ⟨some 2, none, .frz 1 (.t 9)⟩])
          (.ret))
        (.skip)))
    (.seq (.seq (.reg [⟨some 3, none, .tk (.c (.int .i64 1))⟩])
      (.block 0 (l_slices_Compact_int_int_1))) r_slices_Compact_int_int_2))) }

-- flotsam/flotsamref07.Need
def b_flotsamref07_Need_0 : AC :=
  .seq (.seq (.reg [⟨some 4, none, .mv (.t 3)⟩, ⟨some 5, none, .ia .mul .i64 (.t 4) (.c (.int .i64 32))⟩, ⟨some 6, none, .mv (.t 0)⟩, ⟨some 7, none, .ic .lss (.t 5) (.t 6)⟩])
    (.cond (.t 7)
      (.skip)
      (.exit 0)))
  (.block 1 (.reg [⟨some 8, none, .mv (.t 3)⟩, ⟨some 9, none, .ia .add .i64 (.t 8) (.c (.int .i64 1))⟩, ⟨some 3, none, .tk (.t 9)⟩]))

def l_flotsamref07_Need_0 : AC :=
  .loop [0, 3] b_flotsamref07_Need_0

def r_flotsamref07_Need_0 : AC :=
  .seq (.reg [⟨some 10, none, .mv (.t 3)⟩, ⟨some 2, none, .tk (.t 10)⟩])
  (.ret)

def c_flotsamref07_Need : AFunc :=
  { np := 1, res := [.t 2], body := (
    .seq (.reg [⟨some 2, none, .tk (.c (.int .i64 0))⟩])
    (.seq (.reg [⟨some 3, none, .tk (.c (.int .i64 0))⟩])
    (.seq (.block 0 (l_flotsamref07_Need_0)) r_flotsamref07_Need_0))) }

-- flotsam/flotsamref04.Unlike
def b_flotsamref04_Unlike_0 : AC :=
  .seq (.seq (.reg [⟨some 7, none, .mv (.t 6)⟩, ⟨some 8, none, .mv (.t 0)⟩, ⟨some 9, none, .len false (.t 8)⟩, ⟨some 10, none, .ic .lss (.t 7) (.t 9)⟩, ⟨some 11, none, .mv (.t 10)⟩, ⟨some 12, (some (11, false)), .mv (.t 6)⟩, ⟨some 13, (some (11, false)), .mv (.t 1)⟩, ⟨some 14, (some (11, false)), .len false (.t 13)⟩, ⟨some 15, (some (11, false)), .ic .lss (.t 12) (.t 14)⟩, ⟨some 16, none, .pick (.t 11) (.c (.bool true)) (.t 15)⟩])
    (.cond (.t 16)
      (.skip)
      (.exit 0)))
  (.seq (.block 1 (.seq (.drw [[], [], [], [], [], [], [], [], [], [], [], [], [], [], [], [], [], [], [], [], []] [⟨some 19, none, .mv (.t 6)⟩, ⟨some 20, none, .mv (.t 0)⟩, ⟨some 21, none, .len false (.t 20)⟩, ⟨some 22, none, .ic .geq (.t 19) (.t 21)⟩, ⟨some 23, none, .mv (.t 22)⟩, ⟨some 24, (some (23, false)), .mv (.t 6)⟩, ⟨some 25, (some (23, false)), .mv (.t 1)⟩, ⟨some 26, (some (23, false)), .len false (.t 25)⟩, ⟨some 27, (some (23, false)), .ic .geq (.t 24) (.t 26)⟩, ⟨some 28, none, .pick (.t 23) (.c (.bool true)) (.t 27)⟩, ⟨some 29, none, .mv (.t 28)⟩, ⟨some 30, (some (29, false)), .mv (.t 0)⟩, ⟨some 31, (some (29, false)), .mv (.t 6)⟩, ⟨some 32, (some (29, false)), .ixa 32 none (.t 30) (.t 31)⟩, ⟨some 33, (some (29, false)), .ld (some 32) (.t 32)⟩, ⟨some 34, (some (29, false)), .mv (.t 1)⟩, ⟨some 35, (some (29, false)), .mv (.t 6)⟩, ⟨some 36, (some (29, false)), .ixa 32 none (.t 34) (.t 35)⟩, ⟨some 37, (some (29, false)), .ld (some 32) (.t 36)⟩, ⟨some 38, (some (29, false)), .eqa true [.int .u8, .int .u8, .int .u8, .int .u8, .int .u8, .int .u8, .int .u8, .int .u8, .int .u8, .int .u8, .int .u8, .int .u8, .int .u8, .int .u8, .int .u8, .int .u8, .int .u8, .int .u8, .int .u8, .int .u8, .int .u8, .int .u8, .int .u8, .int .u8, .int .u8, .int .u8, .int .u8, .int .u8, .int .u8, .int .u8, .int .u8, .int .u8] (.t 33) (.t 37)⟩, ⟨some 39, none, .pick (.t 29) (.c (.bool true)) (.t 38)⟩])
      (.cond (.t 39)
        (.reg [⟨some 40, none, .tk (.t 5)⟩, ⟨some 41, none, .mv (.t 6)⟩, ⟨some 42, none, .bsl 1 [.int .i64 0] 1 [(0, 1, (.t 41))] false⟩, ⟨some 43, none, .app 1 8 (.t 40) (.t 42) false⟩, ⟨some 5, none, .tk (.t 43)⟩])
        (.skip))))
  (.reg [⟨some 17, none, .mv (.t 6)⟩, ⟨some 18, none, .ia .add .i64 (.t 17) (.c (.int .i64 1))⟩, ⟨some 6, none, .tk (.t 18)⟩]))

def l_flotsamref04_Unlike_0 : AC :=
  .loop [0, 1, 5, 6] b_flotsamref04_Unlike_0

def r_flotsamref04_Unlike_0 : AC :=
  .seq (.reg [⟨some 44, none, .tk (.t 5)⟩, ⟨some 4, none, .tk (.t 44)⟩])
  (.ret)

def c_flotsamref04_Unlike : AFunc :=
  { np := 2, res := [.t 4], body := (
    .seq (.reg [⟨some 4, none, .tk (.c (.own 1 []))⟩])
    (.seq (.reg [⟨some 5, none, .tk (.c (.own 1 []))⟩])
    (.seq (.seq (.reg [⟨some 6, none, .tk (.c (.int .i64 0))⟩])
      (.block 0 (l_flotsamref04_Unlike_0))) r_flotsamref04_Unlike_0))) }

-- flotsam/flotsamref07.Super
def c_flotsamref07_Super : AFunc :=
  { np := 0, res := [.cell 0 (some 32)], body := (
    .seq (.reg [⟨some 0, none, .alloc [.int .u8 0, .int .u8 0, .int .u8 0, .int .u8 0, .int .u8 0, .int .u8 0, .int .u8 0, .int .u8 0, .int .u8 0, .int .u8 0, .int .u8 0, .int .u8 0, .int .u8 0, .int .u8 0, .int .u8 0, .int .u8 0, .int .u8 0, .int .u8 0, .int .u8 0, .int .u8 0, .int .u8 0, .int .u8 0, .int .u8 0, .int .u8 0, .int .u8 0, .int .u8 0, .int .u8 0, .int .u8 0, .int .u8 0, .int .u8 0, .int .u8 0, .int .u8 0]⟩])
    (.seq (.reg [⟨some 1, none, .bld [.int .u8 0, .int .u8 0, .int .u8 0, .int .u8 0, .int .u8 0, .int .u8 0, .int .u8 0, .int .u8 0, .int .u8 0, .int .u8 0, .int .u8 0, .int .u8 0, .int .u8 0, .int .u8 0, .int .u8 0, .int .u8 0, .int .u8 0, .int .u8 0, .int .u8 0, .int .u8 0, .int .u8 0, .int .u8 0, .int .u8 0, .int .u8 0, .int .u8 0, .int .u8 0, .int .u8 0, .int .u8 0, .int .u8 0, .int .u8 0, .int .u8 0, .int .u8 0] [(0, 1, (.c (.int .u8 70))), (1, 1, (.c (.int .u8 76))), (2, 1, (.c (.int .u8 79))), (3, 1, (.c (.int .u8 84)))]⟩, ⟨none, none, .st 32 (.t 0) (.t 1)⟩])
    (.ret))) }

-- flotsam/sector.Zero
def c_sector_Zero : AFunc :=
  { np := 1, res := [.t 2], body := (
    .seq (.reg [⟨some 1, none, .box (.t 0)⟩, ⟨some 2, none, .tk (.c (.bool false))⟩])
    (.seq (.reg [⟨some 3, none, .ld (some 32) (.t 1)⟩, ⟨some 4, none, .bld [.int .u8 0, .int .u8 0, .int .u8 0, .int .u8 0, .int .u8 0, .int .u8 0, .int .u8 0, .int .u8 0, .int .u8 0, .int .u8 0, .int .u8 0, .int .u8 0, .int .u8 0, .int .u8 0, .int .u8 0, .int .u8 0, .int .u8 0, .int .u8 0, .int .u8 0, .int .u8 0, .int .u8 0, .int .u8 0, .int .u8 0, .int .u8 0, .int .u8 0, .int .u8 0, .int .u8 0, .int .u8 0, .int .u8 0, .int .u8 0, .int .u8 0, .int .u8 0] []⟩, ⟨some 5, none, .eqa false [.int .u8, .int .u8, .int .u8, .int .u8, .int .u8, .int .u8, .int .u8, .int .u8, .int .u8, .int .u8, .int .u8, .int .u8, .int .u8, .int .u8, .int .u8, .int .u8, .int .u8, .int .u8, .int .u8, .int .u8, .int .u8, .int .u8, .int .u8, .int .u8, .int .u8, .int .u8, .int .u8, .int .u8, .int .u8, .int .u8, .int .u8, .int .u8] (.t 3) (.t 4)⟩, ⟨some 2, none, .tk (.t 5)⟩])
    (.ret))) }

-- flotsam/sector.Cut
def c_sector_Cut : AFunc :=
  { np := 3, res := [.t 6], body := (
    .seq (.reg [⟨some 3, none, .box (.t 0)⟩, ⟨some 6, none, .tk (.c (.own 1 []))⟩])
    (.seq (.seq (.reg [⟨some 7, none, .mv (.t 1)⟩, ⟨some 8, none, .mv (.t 2)⟩, ⟨some 9, none, .callc n_sector_fits [(.t 7), (.t 8)]⟩, ⟨some 10, none, .notb (.t 9)⟩])
      (.cond (.t 10)
        (.seq (.reg [⟨some 6, none, .tk (.c (.own 1 []))⟩])
          (.ret))
        (.skip)))
    (.seq (.reg [⟨some 11, none, .mv (.t 1)⟩, ⟨some 12, none, .mv (.t 1)⟩, ⟨some 13, none, .mv (.t 2)⟩, ⟨some 14, none, .ia .add .i64 (.t 12) (.t 13)⟩, ⟨some 15, none, .slp 1 32 (.t 3) (some (.t 11)) (some (.t 14)) none⟩, ⟨some 16, none, .call n_bytes_Clone [(.t 15)]⟩, ⟨some 6, none, .tk (.t 16)⟩])
    (.ret)))) }

-- flotsam/layout.RightEntry$1
def c_layout_RightEntry_1 : AFunc :=
  { np := 2, res := [.t 4], body := (
    .seq (.reg [⟨some 4, none, .tk (.c (.bool false))⟩])
    (.seq (.reg [⟨some 5, none, .mv (.t 0)⟩, ⟨some 6, none, .mv (.t 1)⟩, ⟨some 7, none, .ic .geq (.t 5) (.t 6)⟩, ⟨some 8, none, .mv (.t 7)⟩, ⟨some 9, (some (8, true)), .mv (.t 0)⟩, ⟨some 10, (some (8, true)), .ic .lss (.t 9) (.c (.int .i64 16))⟩, ⟨some 11, none, .pick (.t 8) (.t 10) (.c (.bool false))⟩, ⟨some 4, none, .tk (.t 11)⟩])
    (.ret))) }

-- slices.IndexFunc[[]int,int]
def b_slices_IndexFunc_int_int_0 : AC :=
  .seq (.reg [⟨some 9, none, .ic .lss (.t 8) (.t 7)⟩])
  (.seq (.cond (.t 9)
      (.skip)
      (.exit 0))
  (.seq (.block 1 (.seq (.reg [⟨some 10, none, .mv (.t 8)⟩, ⟨some 5, none, .tk (.t 10)⟩])
      (.seq (.reg [⟨some 11, none, .mv (.t 1)⟩, ⟨some 12, none, .mv (.t 0)⟩, ⟨some 13, none, .mv (.t 5)⟩, ⟨some 14, none, .ixa 1 none (.t 12) (.t 13)⟩, ⟨some 15, none, .ld none (.t 14)⟩, ⟨some 16, none, .callv (.t 11) [(.t 15)]⟩])
      (.cond (.t 16)
        (.seq (.reg [⟨some 17, none, .mv (.t 5)⟩, ⟨some 4, none, .tk (.t 17)⟩])
          (.ret))
        (.skip)))))
  (.reg [⟨some 18, none, .ia .add .i64 (.t 8) (.c (.int .i64 1))⟩, ⟨some 8, none, .mv (.t 18)⟩])))

def l_slices_IndexFunc_int_int_0 : AC :=
  .loop [0, 1, 7, 8] b_slices_IndexFunc_int_int_0

def r_slices_IndexFunc_int_int_0 : AC :=
  .seq (.reg [⟨some 4, none, .tk (.c (.int .i64 (-1)))⟩])
  (.ret)

def c_slices_IndexFunc_int_int : AFunc :=
  { np := 2, res := [.t 4], body := (
    .seq (.reg [⟨some 4, none, .tk (.c (.int .i64 0))⟩])
    (.seq (.seq (.reg [⟨some 6, none, .mv (.t 0)⟩, ⟨some 7, none, .len false (.t 6)⟩, ⟨some 8, none, .mv (.c (.int .i64 0))⟩])
      (.block 0 (l_slices_IndexFunc_int_int_0))) r_slices_IndexFunc_int_int_0)) }

-- slices.pdqsortOrdered[int]
def b_slices_pdqsortOrdered_int_0 : AC :=
  .block 1 (.seq (.reg [⟨some 19, none, .mv (.t 2)⟩, ⟨some 20, none, .mv (.t 1)⟩, ⟨some 21, none, .ia .sub .i64 (.t 19) (.t 20)⟩, ⟨some 10, none, .tk (.t 21)⟩])
    (.seq (.seq (.reg [⟨some 22, none, .mv (.t 10)⟩, ⟨some 23, none, .ic .leq (.t 22) (.c (.int .i64 12))⟩])
      (.cond (.t 23)
        (.seq (.reg [⟨some 24, none, .mv (.t 0)⟩, ⟨some 25, none, .mv (.t 1)⟩, ⟨some 26, none, .mv (.t 2)⟩, ⟨some 27, none, .callc n_slices_insertionSortOrdered_int [(.t 24), (.t 25), (.t 26)]⟩])
          (.ret))
        (.skip)))
    (.seq (.seq (.reg [⟨some 28, none, .mv (.t 3)⟩, ⟨some 29, none, .ic .eql (.t 28) (.c (.int .i64 0))⟩])
      (.cond (.t 29)
        (.seq (.reg [⟨some 30, none, .mv (.t 0)⟩, ⟨some 31, none, .mv (.t 1)⟩, ⟨some 32, none, .mv (.t 2)⟩, ⟨some 33, none, .callc n_slices_heapSortOrdered_int [(.t 30), (.t 31), (.t 32)]⟩])
          (.ret))
        (.skip)))
    (.seq (.seq (.reg [⟨some 34, none, .mv (.t 8)⟩, ⟨some 35, none, .notb (.t 34)⟩])
      (.cond (.t 35)
        (.seq (.reg [⟨some 36, none, .mv (.t 0)⟩, ⟨some 37, none, .mv (.t 1)⟩, ⟨some 38, none, .mv (.t 2)⟩, ⟨some 39, none, .callc n_slices_breakPatternsOrdered_int [(.t 36), (.t 37), (.t 38)]⟩])
          (.reg [⟨some 40, none, .mv (.t 3)⟩, ⟨some 41, none, .ia .sub .i64 (.t 40) (.c (.int .i64 1))⟩, ⟨some 3, none, .tk (.t 41)⟩]))
        (.skip)))
    (.seq (.reg [⟨some 43, none, .mv (.t 0)⟩, ⟨some 44, none, .mv (.t 1)⟩, ⟨some 45, none, .mv (.t 2)⟩, ⟨some 46, none, .callc n_slices_choosePivotOrdered_int [(.t 43), (.t 44), (.t 45)]⟩, ⟨some 42, none, .mv (.t 46)⟩, ⟨some 47, none, .ext (.t 42) 0⟩, ⟨some 48, none, .ext (.t 42) 1⟩, ⟨some 11, none, .tk (.t 47)⟩, ⟨some 12, none, .tk (.t 48)⟩])
    (.seq (.seq (.reg [⟨some 49, none, .mv (.t 12)⟩, ⟨some 50, none, .ic .eql (.t 49) (.c (.int .i64 2))⟩])
      (.cond (.t 50)
        (.seq (.reg [⟨some 51, none, .mv (.t 0)⟩, ⟨some 52, none, .mv (.t 1)⟩, ⟨some 53, none, .mv (.t 2)⟩, ⟨some 54, none, .callc n_slices_reverseRangeOrdered_int [(.t 51), (.t 52), (.t 53)]⟩])
          (.seq (.reg [⟨some 55, none, .mv (.t 2)⟩, ⟨some 56, none, .ia .sub .i64 (.t 55) (.c (.int .i64 1))⟩, ⟨some 57, none, .mv (.t 11)⟩, ⟨some 58, none, .mv (.t 1)⟩, ⟨some 59, none, .ia .sub .i64 (.t 57) (.t 58)⟩, ⟨some 60, none, .ia .sub .i64 (.t 56) (.t 59)⟩, ⟨some 11, none, .tk (.t 60)⟩])
          (.reg [⟨some 12, none, .tk (.c (.int .i64 1))⟩])))
        (.skip)))
    (.seq (.seq (.reg [⟨some 61, none, .mv (.t 8)⟩, ⟨some 62, none, .mv (.t 61)⟩, ⟨some 63, (some (62, true)), .mv (.t 9)⟩, ⟨some 64, none, .pick (.t 62) (.t 63) (.c (.bool false))⟩, ⟨some 65, none, .mv (.t 64)⟩, ⟨some 66, (some (65, true)), .mv (.t 12)⟩, ⟨some 67, (some (65, true)), .ic .eql (.t 66) (.c (.int .i64 1))⟩, ⟨some 68, none, .pick (.t 65) (.t 67) (.c (.bool false))⟩])
      (.cond (.t 68)
        (.seq (.reg [⟨some 69, none, .mv (.t 0)⟩, ⟨some 70, none, .mv (.t 1)⟩, ⟨some 71, none, .mv (.t 2)⟩, ⟨some 72, none, .callc n_slices_partialInsertionSortOrdered_int [(.t 69), (.t 70), (.t 71)]⟩])
          (.cond (.t 72)
            (.ret)
            (.skip)))
        (.skip)))
    (.seq (.seq (.drw [[], [], [], [], [], [], [], [], [], [], [], [], [], [], []] [⟨some 73, none, .mv (.t 1)⟩, ⟨some 74, none, .ic .gtr (.t 73) (.c (.int .i64 0))⟩, ⟨some 75, none, .mv (.t 74)⟩, ⟨some 76, (some (75, true)), .mv (.t 0)⟩, ⟨some 77, (some (75, true)), .mv (.t 1)⟩, ⟨some 78, (some (75, true)), .ia .sub .i64 (.t 77) (.c (.int .i64 1))⟩, ⟨some 79, (some (75, true)), .ixa 1 none (.t 76) (.t 78)⟩, ⟨some 80, (some (75, true)), .ld none (.t 79)⟩, ⟨some 81, (some (75, true)), .mv (.t 0)⟩, ⟨some 82, (some (75, true)), .mv (.t 11)⟩, ⟨some 83, (some (75, true)), .ixa 1 none (.t 81) (.t 82)⟩, ⟨some 84, (some (75, true)), .ld none (.t 83)⟩, ⟨some 85, (some (75, true)), .callc n_cmp_Less_int [(.t 80), (.t 84)]⟩, ⟨some 86, (some (75, true)), .notb (.t 85)⟩, ⟨some 87, none, .pick (.t 75) (.t 86) (.c (.bool false))⟩])
      (.cond (.t 87)
        (.seq (.reg [⟨some 88, none, .mv (.t 0)⟩, ⟨some 89, none, .mv (.t 1)⟩, ⟨some 90, none, .mv (.t 2)⟩, ⟨some 91, none, .mv (.t 11)⟩, ⟨some 92, none, .callc n_slices_partitionEqualOrdered_int [(.t 88), (.t 89), (.t 90), (.t 91)]⟩, ⟨some 13, none, .tk (.t 92)⟩])
          (.seq (.reg [⟨some 93, none, .mv (.t 13)⟩, ⟨some 1, none, .tk (.t 93)⟩])
          (.exit 1)))
        (.skip)))
    (.seq (.reg [⟨some 95, none, .mv (.t 0)⟩, ⟨some 96, none, .mv (.t 1)⟩, ⟨some 97, none, .mv (.t 2)⟩, ⟨some 98, none, .mv (.t 11)⟩, ⟨some 99, none, .callc n_slices_partitionOrdered_int [(.t 95), (.t 96), (.t 97), (.t 98)]⟩, ⟨some 94, none, .mv (.t 99)⟩, ⟨some 100, none, .ext (.t 94) 0⟩, ⟨some 101, none, .ext (.t 94) 1⟩, ⟨some 14, none, .tk (.t 100)⟩, ⟨some 15, none, .tk (.t 101)⟩])
    (.seq (.reg [⟨some 102, none, .mv (.t 15)⟩, ⟨some 9, none, .tk (.t 102)⟩])
    (.seq (.reg [⟨some 103, none, .mv (.t 14)⟩, ⟨some 104, none, .mv (.t 1)⟩, ⟨some 105, none, .ia .sub .i64 (.t 103) (.t 104)⟩, ⟨some 106, none, .mv (.t 2)⟩, ⟨some 107, none, .mv (.t 14)⟩, ⟨some 108, none, .ia .sub .i64 (.t 106) (.t 107)⟩, ⟨some 16, none, .tk (.t 105)⟩, ⟨some 17, none, .tk (.t 108)⟩])
    (.seq (.reg [⟨some 109, none, .mv (.t 10)⟩, ⟨some 110, none, .ia .quo .i64 (.t 109) (.c (.int .i64 8))⟩, ⟨some 18, none, .tk (.t 110)⟩])
    (.seq (.reg [⟨some 111, none, .mv (.t 16)⟩, ⟨some 112, none, .mv (.t 17)⟩, ⟨some 113, none, .ic .lss (.t 111) (.t 112)⟩])
    (.cond (.t 113)
      (.seq (.reg [⟨some 114, none, .mv (.t 16)⟩, ⟨some 115, none, .mv (.t 18)⟩, ⟨some 116, none, .ic .geq (.t 114) (.t 115)⟩, ⟨some 8, none, .tk (.t 116)⟩])
        (.seq (.reg [⟨some 117, none, .mv (.t 0)⟩, ⟨some 118, none, .mv (.t 1)⟩, ⟨some 119, none, .mv (.t 14)⟩, ⟨some 120, none, .mv (.t 3)⟩, ⟨some 121, none, .callc n_slices_pdqsortOrdered_int [(.t 117), (.t 118), (.t 119), (.t 120)]⟩])
        (.reg [⟨some 122, none, .mv (.t 14)⟩, ⟨some 123, none, .ia .add .i64 (.t 122) (.c (.int .i64 1))⟩, ⟨some 1, none, .tk (.t 123)⟩])))
      (.seq (.reg [⟨some 124, none, .mv (.t 17)⟩, ⟨some 125, none, .mv (.t 18)⟩, ⟨some 126, none, .ic .geq (.t 124) (.t 125)⟩, ⟨some 8, none, .tk (.t 126)⟩])
        (.seq (.reg [⟨some 127, none, .mv (.t 0)⟩, ⟨some 128, none, .mv (.t 14)⟩, ⟨some 129, none, .ia .add .i64 (.t 128) (.c (.int .i64 1))⟩, ⟨some 130, none, .mv (.t 2)⟩, ⟨some 131, none, .mv (.t 3)⟩, ⟨some 132, none, .callc n_slices_pdqsortOrdered_int [(.t 127), (.t 129), (.t 130), (.t 131)]⟩])
        (.reg [⟨some 133, none, .mv (.t 14)⟩, ⟨some 2, none, .tk (.t 133)⟩])))))))))))))))))

def l_slices_pdqsortOrdered_int_0 : AC :=
  .loop [0, 1, 2, 3, 8, 9] b_slices_pdqsortOrdered_int_0

def c_slices_pdqsortOrdered_int : AFunc :=
  { np := 4, res := [], body := (
    .seq (.reg [⟨some 8, none, .tk (.c (.bool true))⟩])
    (.seq (.reg [⟨some 9, none, .tk (.c (.bool true))⟩])
    (.block 0 (l_slices_pdqsortOrdered_int_0)))) }

-- math/bits.Len
def c_math_bits_Len : AFunc :=
  { np := 1, res := [.t 2], body := (
    .seq (.reg [⟨some 2, none, .tk (.c (.int .i64 0))⟩])
    (.seq (.cond (.c (.bool false))
        (.seq (.reg [⟨some 3, none, .mv (.t 0)⟩, ⟨some 4, none, .conv .u32 (.t 3)⟩, ⟨some 5, none, .callc n_math_bits_Len32 [(.t 4)]⟩, ⟨some 2, none, .tk (.t 5)⟩])
          (.ret))
        (.skip))
    (.seq (.reg [⟨some 6, none, .mv (.t 0)⟩, ⟨some 7, none, .callc n_math_bits_Len64 [(.t 6)]⟩, ⟨some 2, none, .tk (.t 7)⟩])
    (.ret)))) }

-- flotsam/sector.Of
def c_sector_Of : AFunc :=
  { np := 1, res := [.cell 2 (some 32), .t 3], body := (
    .seq (.reg [⟨some 2, none, .alloc [.int .u8 0, .int .u8 0, .int .u8 0, .int .u8 0, .int .u8 0, .int .u8 0, .int .u8 0, .int .u8 0, .int .u8 0, .int .u8 0, .int .u8 0, .int .u8 0, .int .u8 0, .int .u8 0, .int .u8 0, .int .u8 0, .int .u8 0, .int .u8 0, .int .u8 0, .int .u8 0, .int .u8 0, .int .u8 0, .int .u8 0, .int .u8 0, .int .u8 0, .int .u8 0, .int .u8 0, .int .u8 0, .int .u8 0, .int .u8 0, .int .u8 0, .int .u8 0]⟩, ⟨some 3, none, .tk (.c (.bool false))⟩])
    (.seq (.reg [⟨some 4, none, .bld [.int .u8 0, .int .u8 0, .int .u8 0, .int .u8 0, .int .u8 0, .int .u8 0, .int .u8 0, .int .u8 0, .int .u8 0, .int .u8 0, .int .u8 0, .int .u8 0, .int .u8 0, .int .u8 0, .int .u8 0, .int .u8 0, .int .u8 0, .int .u8 0, .int .u8 0, .int .u8 0, .int .u8 0, .int .u8 0, .int .u8 0, .int .u8 0, .int .u8 0, .int .u8 0, .int .u8 0, .int .u8 0, .int .u8 0, .int .u8 0, .int .u8 0, .int .u8 0] []⟩, ⟨some 5, none, .mv (.t 0)⟩, ⟨some 6, none, .callc n_sector_Put [(.t 4), (.c (.int .i64 0)), (.t 5)]⟩, ⟨some 7, none, .ext (.t 6) 0⟩, ⟨some 8, none, .ext (.t 6) 1⟩, ⟨none, none, .st 32 (.t 2) (.t 7)⟩, ⟨some 3, none, .tk (.t 8)⟩])
    (.ret))) }

-- flotsam/sector.fits
def c_sector_fits : AFunc :=
  { np := 2, res := [.t 4], body := (
    .seq (.reg [⟨some 4, none, .tk (.c (.bool false))⟩])
    (.seq (.reg [⟨some 5, none, .mv (.t 0)⟩, ⟨some 6, none, .ic .geq (.t 5) (.c (.int .i64 0))⟩, ⟨some 7, none, .mv (.t 6)⟩, ⟨some 8, (some (7, true)), .mv (.t 0)⟩, ⟨some 9, (some (7, true)), .ic .leq (.t 8) (.c (.int .i64 32))⟩, ⟨some 10, none, .pick (.t 7) (.t 9) (.c (.bool false))⟩, ⟨some 11, none, .mv (.t 10)⟩, ⟨some 12, (some (11, true)), .mv (.t 1)⟩, ⟨some 13, (some (11, true)), .ic .geq (.t 12) (.c (.int .i64 0))⟩, ⟨some 14, none, .pick (.t 11) (.t 13) (.c (.bool false))⟩, ⟨some 15, none, .mv (.t 14)⟩, ⟨some 16, (some (15, true)), .mv (.t 1)⟩, ⟨some 17, (some (15, true)), .mv (.t 0)⟩, ⟨some 18, (some (15, true)), .ia .sub .i64 (.c (.int .i64 32)) (.t 17)⟩, ⟨some 19, (some (15, true)), .ic .leq (.t 16) (.t 18)⟩, ⟨some 20, none, .pick (.t 15) (.t 19) (.c (.bool false))⟩, ⟨some 4, none, .tk (.t 20)⟩])
    (.ret))) }

-- bytes.Clone
def c_bytes_Clone : AFunc :=
  { np := 1, res := [.t 2], body := (
    .seq (.reg [⟨some 2, none, .tk (.c (.own 1 []))⟩])
    (.seq (.seq (.reg [⟨some 3, none, .mv (.t 0)⟩, ⟨some 4, none, .isn false (.t 3)⟩])
      (.cond (.t 4)
        (.seq (.reg [⟨some 2, none, .tk (.c (.own 1 []))⟩])
          (.ret))
        (.skip)))
    (.seq (.reg [⟨some 5, none, .bsl 1 [.int .u8 0] 0 [] false⟩, ⟨some 6, none, .mv (.t 0)⟩, ⟨some 7, none, .app 1 1 (.t 5) (.t 6) false⟩, ⟨some 2, none, .tk (.t 7)⟩])
    (.ret)))) }

-- slices.insertionSortOrdered[int]
def b_slices_insertionSortOrdered_int_0 : AC :=
  .seq (.seq (.drw [[], [], [], [], [], [], [], [], [], [], [], [], [], [], []] [⟨some 16, none, .mv (.t 7)⟩, ⟨some 17, none, .mv (.t 1)⟩, ⟨some 18, none, .ic .gtr (.t 16) (.t 17)⟩, ⟨some 19, none, .mv (.t 18)⟩, ⟨some 20, (some (19, true)), .mv (.t 0)⟩, ⟨some 21, (some (19, true)), .mv (.t 7)⟩, ⟨some 22, (some (19, true)), .ixa 1 none (.t 20) (.t 21)⟩, ⟨some 23, (some (19, true)), .ld none (.t 22)⟩, ⟨some 24, (some (19, true)), .mv (.t 0)⟩, ⟨some 25, (some (19, true)), .mv (.t 7)⟩, ⟨some 26, (some (19, true)), .ia .sub .i64 (.t 25) (.c (.int .i64 1))⟩, ⟨some 27, (some (19, true)), .ixa 1 none (.t 24) (.t 26)⟩, ⟨some 28, (some (19, true)), .ld none (.t 27)⟩, ⟨some 29, (some (19, true)), .callc n_cmp_Less_int [(.t 23), (.t 28)]⟩, ⟨some 30, none, .pick (.t 19) (.t 29) (.c (.bool false))⟩])
    (.cond (.t 30)
      (.skip)
      (.exit 2)))
  (.seq (.block 3 (.drw [[], [], [], [], [], [], [], [], [], [], [], [], [], [], [], [], [], []] [⟨some 33, none, .mv (.t 0)⟩, ⟨some 34, none, .mv (.t 7)⟩, ⟨some 35, none, .mv (.t 0)⟩, ⟨some 36, none, .mv (.t 7)⟩, ⟨some 37, none, .ia .sub .i64 (.t 36) (.c (.int .i64 1))⟩, ⟨some 38, none, .mv (.t 0)⟩, ⟨some 39, none, .mv (.t 7)⟩, ⟨some 40, none, .ia .sub .i64 (.t 39) (.c (.int .i64 1))⟩, ⟨some 41, none, .ixa 1 none (.t 38) (.t 40)⟩, ⟨some 42, none, .ld none (.t 41)⟩, ⟨some 43, none, .mv (.t 0)⟩, ⟨some 44, none, .mv (.t 7)⟩, ⟨some 45, none, .ixa 1 none (.t 43) (.t 44)⟩, ⟨some 46, none, .ld none (.t 45)⟩, ⟨some 47, none, .ixa 1 none (.t 33) (.t 34)⟩, ⟨none, none, .st 1 (.t 47) (.t 42)⟩, ⟨some 48, none, .ixa 1 none (.t 35) (.t 37)⟩, ⟨none, none, .st 1 (.t 48) (.t 46)⟩]))
  (.reg [⟨some 31, none, .mv (.t 7)⟩, ⟨some 32, none, .ia .sub .i64 (.t 31) (.c (.int .i64 1))⟩, ⟨some 7, none, .tk (.t 32)⟩]))

def l_slices_insertionSortOrdered_int_0 : AC :=
  .loop [0, 1, 2, 6, 7] b_slices_insertionSortOrdered_int_0

def r_slices_insertionSortOrdered_int_0 : AC :=
  .reg [⟨some 13, none, .mv (.t 6)⟩, ⟨some 14, none, .ia .add .i64 (.t 13) (.c (.int .i64 1))⟩, ⟨some 6, none, .tk (.t 14)⟩]

def b_slices_insertionSortOrdered_int_1 : AC :=
  .seq (.seq (.reg [⟨some 10, none, .mv (.t 6)⟩, ⟨some 11, none, .mv (.t 2)⟩, ⟨some 12, none, .ic .lss (.t 10) (.t 11)⟩])
    (.cond (.t 12)
      (.skip)
      (.exit 0)))
  (.seq (.block 1 (.seq (.reg [⟨some 15, none, .mv (.t 6)⟩, ⟨some 7, none, .tk (.t 15)⟩])
      (.block 2 (l_slices_insertionSortOrdered_int_0)))) r_slices_insertionSortOrdered_int_0)

def l_slices_insertionSortOrdered_int_1 : AC :=
  .loop [0, 1, 2, 6] b_slices_insertionSortOrdered_int_1

def c_slices_insertionSortOrdered_int : AFunc :=
  { np := 3, res := [], body := (
    .seq (.reg [⟨some 8, none, .mv (.t 1)⟩, ⟨some 9, none, .ia .add .i64 (.t 8) (.c (.int .i64 1))⟩, ⟨some 6, none, .tk (.t 9)⟩])
    (.block 0 (l_slices_insertionSortOrdered_int_1))) }

-- slices.heapSortOrdered[int]
def b_slices_heapSortOrdered_int_0 : AC :=
  .seq (.seq (.reg [⟨some 18, none, .mv (.t 9)⟩, ⟨some 19, none, .ic .geq (.t 18) (.c (.int .i64 0))⟩])
    (.cond (.t 19)
      (.skip)
      (.exit 0)))
  (.seq (.block 1 (.reg [⟨some 22, none, .mv (.t 0)⟩, ⟨some 23, none, .mv (.t 9)⟩, ⟨some 24, none, .mv (.t 8)⟩, ⟨some 25, none, .mv (.t 6)⟩, ⟨some 26, none, .call n_slices_siftDownOrdered_int [(.t 22), (.t 23), (.t 24), (.t 25)]⟩]))
  (.reg [⟨some 20, none, .mv (.t 9)⟩, ⟨some 21, none, .ia .sub .i64 (.t 20) (.c (.int .i64 1))⟩, ⟨some 9, none, .tk (.t 21)⟩]))

def l_slices_heapSortOrdered_int_0 : AC :=
  .loop [0, 6, 7, 8, 9] b_slices_heapSortOrdered_int_0

def b_slices_heapSortOrdered_int_1 : AC :=
  .seq (.seq (.reg [⟨some 29, none, .mv (.t 10)⟩, ⟨some 30, none, .ic .geq (.t 29) (.c (.int .i64 0))⟩])
    (.cond (.t 30)
      (.skip)
      (.exit 2)))
  (.seq (.block 3 (.seq (.drw [[], [], [], [], [], [], [], [], [], [], [], [], [], [], [], [], [], [], [], []] [⟨some 33, none, .mv (.t 0)⟩, ⟨some 34, none, .mv (.t 6)⟩, ⟨some 35, none, .mv (.t 0)⟩, ⟨some 36, none, .mv (.t 6)⟩, ⟨some 37, none, .mv (.t 10)⟩, ⟨some 38, none, .ia .add .i64 (.t 36) (.t 37)⟩, ⟨some 39, none, .mv (.t 0)⟩, ⟨some 40, none, .mv (.t 6)⟩, ⟨some 41, none, .mv (.t 10)⟩, ⟨some 42, none, .ia .add .i64 (.t 40) (.t 41)⟩, ⟨some 43, none, .ixa 1 none (.t 39) (.t 42)⟩, ⟨some 44, none, .ld none (.t 43)⟩, ⟨some 45, none, .mv (.t 0)⟩, ⟨some 46, none, .mv (.t 6)⟩, ⟨some 47, none, .ixa 1 none (.t 45) (.t 46)⟩, ⟨some 48, none, .ld none (.t 47)⟩, ⟨some 49, none, .ixa 1 none (.t 33) (.t 34)⟩, ⟨none, none, .st 1 (.t 49) (.t 44)⟩, ⟨some 50, none, .ixa 1 none (.t 35) (.t 38)⟩, ⟨none, none, .st 1 (.t 50) (.t 48)⟩])
      (.reg [⟨some 51, none, .mv (.t 0)⟩, ⟨some 52, none, .mv (.t 7)⟩, ⟨some 53, none, .mv (.t 10)⟩, ⟨some 54, none, .mv (.t 6)⟩, ⟨some 55, none, .call n_slices_siftDownOrdered_int [(.t 51), (.t 52), (.t 53), (.t 54)]⟩])))
  (.reg [⟨some 31, none, .mv (.t 10)⟩, ⟨some 32, none, .ia .sub .i64 (.t 31) (.c (.int .i64 1))⟩, ⟨some 10, none, .tk (.t 32)⟩]))

def l_slices_heapSortOrdered_int_1 : AC :=
  .loop [0, 6, 7, 10] b_slices_heapSortOrdered_int_1

def r_slices_heapSortOrdered_int_0 : AC :=
  .seq (.reg [⟨some 27, none, .mv (.t 8)⟩, ⟨some 28, none, .ia .sub .i64 (.t 27) (.c (.int .i64 1))⟩, ⟨some 10, none, .tk (.t 28)⟩])
  (.block 2 (l_slices_heapSortOrdered_int_1))

def c_slices_heapSortOrdered_int : AFunc :=
  { np := 3, res := [], body := (
    .seq (.reg [⟨some 11, none, .mv (.t 1)⟩, ⟨some 6, none, .tk (.t 11)⟩])
    (.seq (.reg [⟨some 7, none, .tk (.c (.int .i64 0))⟩])
    (.seq (.reg [⟨some 12, none, .mv (.t 2)⟩, ⟨some 13, none, .mv (.t 1)⟩, ⟨some 14, none, .ia .sub .i64 (.t 12) (.t 13)⟩, ⟨some 8, none, .tk (.t 14)⟩])
    (.seq (.seq (.reg [⟨some 15, none, .mv (.t 8)⟩, ⟨some 16, none, .ia .sub .i64 (.t 15) (.c (.int .i64 1))⟩, ⟨some 17, none, .ia .quo .i64 (.t 16) (.c (.int .i64 2))⟩, ⟨some 9, none, .tk (.t 17)⟩])
      (.block 0 (l_slices_heapSortOrdered_int_0))) r_slices_heapSortOrdered_int_0)))) }

-- slices.breakPatternsOrdered[int]
def b_slices_breakPatternsOrdered_int_0 : AC :=
  .seq (.seq (.reg [⟨some 26, none, .mv (.t 9)⟩, ⟨some 27, none, .mv (.t 1)⟩, ⟨some 28, none, .mv (.t 6)⟩, ⟨some 29, none, .ia .quo .i64 (.t 28) (.c (.int .i64 4))⟩, ⟨some 30, none, .ia .mul .i64 (.t 29) (.c (.int .i64 2))⟩, ⟨some 31, none, .ia .add .i64 (.t 27) (.t 30)⟩, ⟨some 32, none, .ia .add .i64 (.t 31) (.c (.int .i64 1))⟩, ⟨some 33, none, .ic .leq (.t 26) (.t 32)⟩])
    (.cond (.t 33)
      (.skip)
      (.exit 0)))
  (.seq (.block 1 (.seq (.reg [⟨some 36, none, .callc n_pslices_xorshift_Next [(.t 7)]⟩, ⟨some 37, none, .mv (.t 8)⟩, ⟨some 38, none, .ia .sub .u64 (.t 37) (.c (.int .u64 1))⟩, ⟨some 39, none, .ia .and .u64 (.t 36) (.t 38)⟩, ⟨some 40, none, .conv .i64 (.t 39)⟩, ⟨some 10, none, .tk (.t 40)⟩])
      (.seq (.seq (.reg [⟨some 41, none, .mv (.t 10)⟩, ⟨some 42, none, .mv (.t 6)⟩, ⟨some 43, none, .ic .geq (.t 41) (.t 42)⟩])
        (.cond (.t 43)
          (.reg [⟨some 44, none, .mv (.t 10)⟩, ⟨some 45, none, .mv (.t 6)⟩, ⟨some 46, none, .ia .sub .i64 (.t 44) (.t 45)⟩, ⟨some 10, none, .tk (.t 46)⟩])
          (.skip)))
      (.drw [[], [], [], [], [], [], [], [], [], [], [], [], [], [], [], [], [], [], [], []] [⟨some 47, none, .mv (.t 0)⟩, ⟨some 48, none, .mv (.t 9)⟩, ⟨some 49, none, .mv (.t 0)⟩, ⟨some 50, none, .mv (.t 1)⟩, ⟨some 51, none, .mv (.t 10)⟩, ⟨some 52, none, .ia .add .i64 (.t 50) (.t 51)⟩, ⟨some 53, none, .mv (.t 0)⟩, ⟨some 54, none, .mv (.t 1)⟩, ⟨some 55, none, .mv (.t 10)⟩, ⟨some 56, none, .ia .add .i64 (.t 54) (.t 55)⟩, ⟨some 57, none, .ixa 1 none (.t 53) (.t 56)⟩, ⟨some 58, none, .ld none (.t 57)⟩, ⟨some 59, none, .mv (.t 0)⟩, ⟨some 60, none, .mv (.t 9)⟩, ⟨some 61, none, .ixa 1 none (.t 59) (.t 60)⟩, ⟨some 62, none, .ld none (.t 61)⟩, ⟨some 63, none, .ixa 1 none (.t 47) (.t 48)⟩, ⟨none, none, .st 1 (.t 63) (.t 58)⟩, ⟨some 64, none, .ixa 1 none (.t 49) (.t 52)⟩, ⟨none, none, .st 1 (.t 64) (.t 62)⟩]))))
  (.reg [⟨some 34, none, .mv (.t 9)⟩, ⟨some 35, none, .ia .add .i64 (.t 34) (.c (.int .i64 1))⟩, ⟨some 9, none, .tk (.t 35)⟩]))

def l_slices_breakPatternsOrdered_int_0 : AC :=
  .loop [0, 1, 6, 7, 8, 9] b_slices_breakPatternsOrdered_int_0

def c_slices_breakPatternsOrdered_int : AFunc :=
  { np := 3, res := [], body := (
    .seq (.reg [⟨some 11, none, .mv (.t 2)⟩, ⟨some 12, none, .mv (.t 1)⟩, ⟨some 13, none, .ia .sub .i64 (.t 11) (.t 12)⟩, ⟨some 6, none, .tk (.t 13)⟩])
    (.seq (.reg [⟨some 14, none, .mv (.t 6)⟩, ⟨some 15, none, .ic .geq (.t 14) (.c (.int .i64 8))⟩])
    (.cond (.t 15)
      (.seq (.reg [⟨some 16, none, .mv (.t 6)⟩, ⟨some 17, none, .conv .u64 (.t 16)⟩, ⟨some 7, none, .alloc [.int .u64 0]⟩, ⟨none, none, .st 1 (.t 7) (.t 17)⟩])
        (.seq (.reg [⟨some 18, none, .mv (.t 6)⟩, ⟨some 19, none, .callc n_slices_nextPowerOfTwo [(.t 18)]⟩, ⟨some 8, none, .tk (.t 19)⟩])
        (.seq (.reg [⟨some 20, none, .mv (.t 1)⟩, ⟨some 21, none, .mv (.t 6)⟩, ⟨some 22, none, .ia .quo .i64 (.t 21) (.c (.int .i64 4))⟩, ⟨some 23, none, .ia .mul .i64 (.t 22) (.c (.int .i64 2))⟩, ⟨some 24, none, .ia .add .i64 (.t 20) (.t 23)⟩, ⟨some 25, none, .ia .sub .i64 (.t 24) (.c (.int .i64 1))⟩, ⟨some 9, none, .tk (.t 25)⟩])
        (.block 0 (l_slices_breakPatternsOrdered_int_0)))))
      (.skip)))) }

-- slices.choosePivotOrdered[int]
def c_slices_choosePivotOrdered_int : AFunc :=
  { np := 3, res := [.t 6, .t 7], body := (
    .seq (.reg [⟨some 6, none, .tk (.c (.int .i64 0))⟩, ⟨some 7, none, .tk (.c (.int .i64 0))⟩])
    (.seq (.reg [⟨some 13, none, .mv (.t 2)⟩, ⟨some 14, none, .mv (.t 1)⟩, ⟨some 15, none, .ia .sub .i64 (.t 13) (.t 14)⟩, ⟨some 8, none, .tk (.t 15)⟩])
    (.seq (.reg [⟨some 9, none, .alloc [.int .i64 0]⟩])
    (.seq (.reg [⟨some 16, none, .mv (.t 1)⟩, ⟨some 17, none, .mv (.t 8)⟩, ⟨some 18, none, .ia .quo .i64 (.t 17) (.c (.int .i64 4))⟩, ⟨some 19, none, .ia .mul .i64 (.t 18) (.c (.int .i64 1))⟩, ⟨some 20, none, .ia .add .i64 (.t 16) (.t 19)⟩, ⟨some 10, none, .tk (.t 20)⟩])
    (.seq (.reg [⟨some 21, none, .mv (.t 1)⟩, ⟨some 22, none, .mv (.t 8)⟩, ⟨some 23, none, .ia .quo .i64 (.t 22) (.c (.int .i64 4))⟩, ⟨some 24, none, .ia .mul .i64 (.t 23) (.c (.int .i64 2))⟩, ⟨some 25, none, .ia .add .i64 (.t 21) (.t 24)⟩, ⟨some 11, none, .tk (.t 25)⟩])
    (.seq (.reg [⟨some 26, none, .mv (.t 1)⟩, ⟨some 27, none, .mv (.t 8)⟩, ⟨some 28, none, .ia .quo .i64 (.t 27) (.c (.int .i64 4))⟩, ⟨some 29, none, .ia .mul .i64 (.t 28) (.c (.int .i64 3))⟩, ⟨some 30, none, .ia .add .i64 (.t 26) (.t 29)⟩, ⟨some 12, none, .tk (.t 30)⟩])
    (.seq (.seq (.reg [⟨some 31, none, .mv (.t 8)⟩, ⟨some 32, none, .ic .geq (.t 31) (.c (.int .i64 8))⟩])
      (.cond (.t 32)
        (.seq (.seq (.reg [⟨some 33, none, .mv (.t 8)⟩, ⟨some 34, none, .ic .geq (.t 33) (.c (.int .i64 50))⟩])
            (.cond (.t 34)
              (.seq (.reg [⟨some 35, none, .mv (.t 0)⟩, ⟨some 36, none, .mv (.t 10)⟩, ⟨some 37, none, .call n_slices_medianAdjacentOrdered_int [(.t 35), (.t 36), (.t 9)]⟩, ⟨some 10, none, .tk (.t 37)⟩])
                (.seq (.reg [⟨some 38, none, .mv (.t 0)⟩, ⟨some 39, none, .mv (.t 11)⟩, ⟨some 40, none, .call n_slices_medianAdjacentOrdered_int [(.t 38), (.t 39), (.t 9)]⟩, ⟨some 11, none, .tk (.t 40)⟩])
                (.reg [⟨some 41, none, .mv (.t 0)⟩, ⟨some 42, none, .mv (.t 12)⟩, ⟨some 43, none, .call n_slices_medianAdjacentOrdered_int [(.t 41), (.t 42), (.t 9)]⟩, ⟨some 12, none, .tk (.t 43)⟩])))
              (.skip)))
          (.reg [⟨some 44, none, .mv (.t 0)⟩, ⟨some 45, none, .mv (.t 10)⟩, ⟨some 46, none, .mv (.t 11)⟩, ⟨some 47, none, .mv (.t 12)⟩, ⟨some 48, none, .call n_slices_medianOrdered_int [(.t 44), (.t 45), (.t 46), (.t 47), (.t 9)]⟩, ⟨some 11, none, .tk (.t 48)⟩]))
        (.skip)))
    (.seq (.reg [⟨some 49, none, .ld none (.t 9)⟩])
    (.block 0 (.seq (.reg [⟨some 52, none, .ic .eql (.t 49) (.c (.int .i64 0))⟩, ⟨some 51, none, .tk (.t 52)⟩])
      (.cond (.t 51)
        (.seq (.reg [⟨some 53, none, .mv (.t 11)⟩, ⟨some 6, none, .tk (.t 53)⟩, ⟨some 7, none, .tk (.c (.int .i64 1))⟩])
          (.ret))
        (.seq (.reg [⟨some 55, none, .ic .eql (.t 49) (.c (.int .i64 12))⟩, ⟨some 54, none, .tk (.t 55)⟩])
          (.cond (.t 54)
            (.seq (.reg [⟨some 56, none, .mv (.t 11)⟩, ⟨some 6, none, .tk (.t 56)⟩, ⟨some 7, none, .tk (.c (.int .i64 2))⟩])
              (.ret))
            (.seq (.reg [⟨some 50, none, .mv (.t 11)⟩, ⟨some 6, none, .tk (.t 50)⟩, ⟨some 7, none, .tk (.c (.int .i64 0))⟩])
              (.ret))))))))))))))) }

-- slices.reverseRangeOrdered[int]
def b_slices_reverseRangeOrdered_int_0 : AC :=
  .seq (.seq (.reg [⟨some 11, none, .mv (.t 6)⟩, ⟨some 12, none, .mv (.t 7)⟩, ⟨some 13, none, .ic .lss (.t 11) (.t 12)⟩])
    (.cond (.t 13)
      (.skip)
      (.exit 0)))
  (.block 1 (.seq (.drw [[], [], [], [], [], [], [], [], [], [], [], [], [], [], [], []] [⟨some 14, none, .mv (.t 0)⟩, ⟨some 15, none, .mv (.t 6)⟩, ⟨some 16, none, .mv (.t 0)⟩, ⟨some 17, none, .mv (.t 7)⟩, ⟨some 18, none, .mv (.t 0)⟩, ⟨some 19, none, .mv (.t 7)⟩, ⟨some 20, none, .ixa 1 none (.t 18) (.t 19)⟩, ⟨some 21, none, .ld none (.t 20)⟩, ⟨some 22, none, .mv (.t 0)⟩, ⟨some 23, none, .mv (.t 6)⟩, ⟨some 24, none, .ixa 1 none (.t 22) (.t 23)⟩, ⟨some 25, none, .ld none (.t 24)⟩, ⟨some 26, none, .ixa 1 none (.t 14) (.t 15)⟩, ⟨none, none, .st 1 (.t 26) (.t 21)⟩, ⟨some 27, none, .ixa 1 none (.t 16) (.t 17)⟩, ⟨none, none, .st 1 (.t 27) (.t 25)⟩])
    (.seq (.reg [⟨some 28, none, .mv (.t 6)⟩, ⟨some 29, none, .ia .add .i64 (.t 28) (.c (.int .i64 1))⟩, ⟨some 6, none, .tk (.t 29)⟩])
    (.reg [⟨some 30, none, .mv (.t 7)⟩, ⟨some 31, none, .ia .sub .i64 (.t 30) (.c (.int .i64 1))⟩, ⟨some 7, none, .tk (.t 31)⟩]))))

def l_slices_reverseRangeOrdered_int_0 : AC :=
  .loop [0, 6, 7] b_slices_reverseRangeOrdered_int_0

def c_slices_reverseRangeOrdered_int : AFunc :=
  { np := 3, res := [], body := (
    .seq (.reg [⟨some 8, none, .mv (.t 1)⟩, ⟨some 6, none, .tk (.t 8)⟩])
    (.seq (.reg [⟨some 9, none, .mv (.t 2)⟩, ⟨some 10, none, .ia .sub .i64 (.t 9) (.c (.int .i64 1))⟩, ⟨some 7, none, .tk (.t 10)⟩])
    (.block 0 (l_slices_reverseRangeOrdered_int_0)))) }

-- slices.partialInsertionSortOrdered[int]
def b_slices_partialInsertionSortOrdered_int_0 : AC :=
  .seq (.seq (.drw [[], [], [], [], [], [], [], [], [], [], [], [], [], [], [], []] [⟨some 17, none, .mv (.t 7)⟩, ⟨some 18, none, .mv (.t 2)⟩, ⟨some 19, none, .ic .lss (.t 17) (.t 18)⟩, ⟨some 20, none, .mv (.t 19)⟩, ⟨some 21, (some (20, true)), .mv (.t 0)⟩, ⟨some 22, (some (20, true)), .mv (.t 7)⟩, ⟨some 23, (some (20, true)), .ixa 1 none (.t 21) (.t 22)⟩, ⟨some 24, (some (20, true)), .ld none (.t 23)⟩, ⟨some 25, (some (20, true)), .mv (.t 0)⟩, ⟨some 26, (some (20, true)), .mv (.t 7)⟩, ⟨some 27, (some (20, true)), .ia .sub .i64 (.t 26) (.c (.int .i64 1))⟩, ⟨some 28, (some (20, true)), .ixa 1 none (.t 25) (.t 27)⟩, ⟨some 29, (some (20, true)), .ld none (.t 28)⟩, ⟨some 30, (some (20, true)), .callc n_cmp_Less_int [(.t 24), (.t 29)]⟩, ⟨some 31, (some (20, true)), .notb (.t 30)⟩, ⟨some 32, none, .pick (.t 20) (.t 31) (.c (.bool false))⟩])
    (.cond (.t 32)
      (.skip)
      (.exit 2)))
  (.block 3 (.reg [⟨some 33, none, .mv (.t 7)⟩, ⟨some 34, none, .ia .add .i64 (.t 33) (.c (.int .i64 1))⟩, ⟨some 7, none, .tk (.t 34)⟩]))

def l_slices_partialInsertionSortOrdered_int_0 : AC :=
  .loop [0, 1, 2, 7, 8] b_slices_partialInsertionSortOrdered_int_0

def b_slices_partialInsertionSortOrdered_int_1 : AC :=
  .seq (.seq (.reg [⟨some 64, none, .mv (.t 9)⟩, ⟨some 65, none, .ic .geq (.t 64) (.c (.int .i64 1))⟩])
    (.cond (.t 65)
      (.skip)
      (.exit 4)))
  (.seq (.block 5 (.seq (.seq (.drw [[], [], [], [], [], [], [], [], [], [], []] [⟨some 68, none, .mv (.t 0)⟩, ⟨some 69, none, .mv (.t 9)⟩, ⟨some 70, none, .ixa 1 none (.t 68) (.t 69)⟩, ⟨some 71, none, .ld none (.t 70)⟩, ⟨some 72, none, .mv (.t 0)⟩, ⟨some 73, none, .mv (.t 9)⟩, ⟨some 74, none, .ia .sub .i64 (.t 73) (.c (.int .i64 1))⟩, ⟨some 75, none, .ixa 1 none (.t 72) (.t 74)⟩, ⟨some 76, none, .ld none (.t 75)⟩, ⟨some 77, none, .callc n_cmp_Less_int [(.t 71), (.t 76)]⟩, ⟨some 78, none, .notb (.t 77)⟩])
        (.cond (.t 78)
          (.exit 4)
          (.skip)))
      (.drw [[], [], [], [], [], [], [], [], [], [], [], [], [], [], [], [], [], []] [⟨some 79, none, .mv (.t 0)⟩, ⟨some 80, none, .mv (.t 9)⟩, ⟨some 81, none, .mv (.t 0)⟩, ⟨some 82, none, .mv (.t 9)⟩, ⟨some 83, none, .ia .sub .i64 (.t 82) (.c (.int .i64 1))⟩, ⟨some 84, none, .mv (.t 0)⟩, ⟨some 85, none, .mv (.t 9)⟩, ⟨some 86, none, .ia .sub .i64 (.t 85) (.c (.int .i64 1))⟩, ⟨some 87, none, .ixa 1 none (.t 84) (.t 86)⟩, ⟨some 88, none, .ld none (.t 87)⟩, ⟨some 89, none, .mv (.t 0)⟩, ⟨some 90, none, .mv (.t 9)⟩, ⟨some 91, none, .ixa 1 none (.t 89) (.t 90)⟩, ⟨some 92, none, .ld none (.t 91)⟩, ⟨some 93, none, .ixa 1 none (.t 79) (.t 80)⟩, ⟨none, none, .st 1 (.t 93) (.t 88)⟩, ⟨some 94, none, .ixa 1 none (.t 81) (.t 83)⟩, ⟨none, none, .st 1 (.t 94) (.t 92)⟩])))
  (.reg [⟨some 66, none, .mv (.t 9)⟩, ⟨some 67, none, .ia .sub .i64 (.t 66) (.c (.int .i64 1))⟩, ⟨some 9, none, .tk (.t 67)⟩]))

def l_slices_partialInsertionSortOrdered_int_1 : AC :=
  .loop [0, 1, 2, 7, 8, 9] b_slices_partialInsertionSortOrdered_int_1

def b_slices_partialInsertionSortOrdered_int_2 : AC :=
  .seq (.seq (.reg [⟨some 101, none, .mv (.t 10)⟩, ⟨some 102, none, .mv (.t 2)⟩, ⟨some 103, none, .ic .lss (.t 101) (.t 102)⟩])
    (.cond (.t 103)
      (.skip)
      (.exit 6)))
  (.seq (.block 7 (.seq (.seq (.drw [[], [], [], [], [], [], [], [], [], [], []] [⟨some 106, none, .mv (.t 0)⟩, ⟨some 107, none, .mv (.t 10)⟩, ⟨some 108, none, .ixa 1 none (.t 106) (.t 107)⟩, ⟨some 109, none, .ld none (.t 108)⟩, ⟨some 110, none, .mv (.t 0)⟩, ⟨some 111, none, .mv (.t 10)⟩, ⟨some 112, none, .ia .sub .i64 (.t 111) (.c (.int .i64 1))⟩, ⟨some 113, none, .ixa 1 none (.t 110) (.t 112)⟩, ⟨some 114, none, .ld none (.t 113)⟩, ⟨some 115, none, .callc n_cmp_Less_int [(.t 109), (.t 114)]⟩, ⟨some 116, none, .notb (.t 115)⟩])
        (.cond (.t 116)
          (.exit 6)
          (.skip)))
      (.drw [[], [], [], [], [], [], [], [], [], [], [], [], [], [], [], [], [], []] [⟨some 117, none, .mv (.t 0)⟩, ⟨some 118, none, .mv (.t 10)⟩, ⟨some 119, none, .mv (.t 0)⟩, ⟨some 120, none, .mv (.t 10)⟩, ⟨some 121, none, .ia .sub .i64 (.t 120) (.c (.int .i64 1))⟩, ⟨some 122, none, .mv (.t 0)⟩, ⟨some 123, none, .mv (.t 10)⟩, ⟨some 124, none, .ia .sub .i64 (.t 123) (.c (.int .i64 1))⟩, ⟨some 125, none, .ixa 1 none (.t 122) (.t 124)⟩, ⟨some 126, none, .ld none (.t 125)⟩, ⟨some 127, none, .mv (.t 0)⟩, ⟨some 128, none, .mv (.t 10)⟩, ⟨some 129, none, .ixa 1 none (.t 127) (.t 128)⟩, ⟨some 130, none, .ld none (.t 129)⟩, ⟨some 131, none, .ixa 1 none (.t 117) (.t 118)⟩, ⟨none, none, .st 1 (.t 131) (.t 126)⟩, ⟨some 132, none, .ixa 1 none (.t 119) (.t 121)⟩, ⟨none, none, .st 1 (.t 132) (.t 130)⟩])))
  (.reg [⟨some 104, none, .mv (.t 10)⟩, ⟨some 105, none, .ia .add .i64 (.t 104) (.c (.int .i64 1))⟩, ⟨some 10, none, .tk (.t 105)⟩]))

def l_slices_partialInsertionSortOrdered_int_2 : AC :=
  .loop [0, 1, 2, 7, 8, 10] b_slices_partialInsertionSortOrdered_int_2

def r_slices_partialInsertionSortOrdered_int_0 : AC :=
  .seq (.reg [⟨some 95, none, .mv (.t 2)⟩, ⟨some 96, none, .mv (.t 7)⟩, ⟨some 97, none, .ia .sub .i64 (.t 95) (.t 96)⟩, ⟨some 98, none, .ic .geq (.t 97) (.c (.int .i64 2))⟩])
  (.cond (.t 98)
    (.seq (.reg [⟨some 99, none, .mv (.t 7)⟩, ⟨some 100, none, .ia .add .i64 (.t 99) (.c (.int .i64 1))⟩, ⟨some 10, none, .tk (.t 100)⟩])
      (.block 6 (l_slices_partialInsertionSortOrdered_int_2)))
    (.skip))

def r_slices_partialInsertionSortOrdered_int_1 : AC :=
  .seq (.seq (.reg [⟨some 35, none, .mv (.t 7)⟩, ⟨some 36, none, .mv (.t 2)⟩, ⟨some 37, none, .ic .eql (.t 35) (.t 36)⟩])
    (.cond (.t 37)
      (.seq (.reg [⟨some 6, none, .tk (.c (.bool true))⟩])
        (.ret))
      (.skip)))
  (.seq (.seq (.reg [⟨some 38, none, .mv (.t 2)⟩, ⟨some 39, none, .mv (.t 1)⟩, ⟨some 40, none, .ia .sub .i64 (.t 38) (.t 39)⟩, ⟨some 41, none, .ic .lss (.t 40) (.c (.int .i64 50))⟩])
    (.cond (.t 41)
      (.seq (.reg [⟨some 6, none, .tk (.c (.bool false))⟩])
        (.ret))
      (.skip)))
  (.seq (.drw [[], [], [], [], [], [], [], [], [], [], [], [], [], [], [], [], [], []] [⟨some 42, none, .mv (.t 0)⟩, ⟨some 43, none, .mv (.t 7)⟩, ⟨some 44, none, .mv (.t 0)⟩, ⟨some 45, none, .mv (.t 7)⟩, ⟨some 46, none, .ia .sub .i64 (.t 45) (.c (.int .i64 1))⟩, ⟨some 47, none, .mv (.t 0)⟩, ⟨some 48, none, .mv (.t 7)⟩, ⟨some 49, none, .ia .sub .i64 (.t 48) (.c (.int .i64 1))⟩, ⟨some 50, none, .ixa 1 none (.t 47) (.t 49)⟩, ⟨some 51, none, .ld none (.t 50)⟩, ⟨some 52, none, .mv (.t 0)⟩, ⟨some 53, none, .mv (.t 7)⟩, ⟨some 54, none, .ixa 1 none (.t 52) (.t 53)⟩, ⟨some 55, none, .ld none (.t 54)⟩, ⟨some 56, none, .ixa 1 none (.t 42) (.t 43)⟩, ⟨none, none, .st 1 (.t 56) (.t 51)⟩, ⟨some 57, none, .ixa 1 none (.t 44) (.t 46)⟩, ⟨none, none, .st 1 (.t 57) (.t 55)⟩])
  (.seq (.seq (.reg [⟨some 58, none, .mv (.t 7)⟩, ⟨some 59, none, .mv (.t 1)⟩, ⟨some 60, none, .ia .sub .i64 (.t 58) (.t 59)⟩, ⟨some 61, none, .ic .geq (.t 60) (.c (.int .i64 2))⟩])
    (.cond (.t 61)
      (.seq (.reg [⟨some 62, none, .mv (.t 7)⟩, ⟨some 63, none, .ia .sub .i64 (.t 62) (.c (.int .i64 1))⟩, ⟨some 9, none, .tk (.t 63)⟩])
        (.block 4 (l_slices_partialInsertionSortOrdered_int_1)))
      (.skip))) r_slices_partialInsertionSortOrdered_int_0)))

def r_slices_partialInsertionSortOrdered_int_2 : AC :=
  .reg [⟨some 15, none, .mv (.t 8)⟩, ⟨some 16, none, .ia .add .i64 (.t 15) (.c (.int .i64 1))⟩, ⟨some 8, none, .tk (.t 16)⟩]

def b_slices_partialInsertionSortOrdered_int_3 : AC :=
  .seq (.seq (.reg [⟨some 13, none, .mv (.t 8)⟩, ⟨some 14, none, .ic .lss (.t 13) (.c (.int .i64 5))⟩])
    (.cond (.t 14)
      (.skip)
      (.exit 0)))
  (.seq (.block 1 (.seq (.block 2 (l_slices_partialInsertionSortOrdered_int_0)) r_slices_partialInsertionSortOrdered_int_1)) r_slices_partialInsertionSortOrdered_int_2)

def l_slices_partialInsertionSortOrdered_int_3 : AC :=
  .loop [0, 1, 2, 7, 8] b_slices_partialInsertionSortOrdered_int_3

def r_slices_partialInsertionSortOrdered_int_3 : AC :=
  .seq (.reg [⟨some 6, none, .tk (.c (.bool false))⟩])
  (.ret)

def c_slices_partialInsertionSortOrdered_int : AFunc :=
  { np := 3, res := [.t 6], body := (
    .seq (.reg [⟨some 6, none, .tk (.c (.bool false))⟩])
    (.seq (.reg [⟨some 11, none, .mv (.t 1)⟩, ⟨some 12, none, .ia .add .i64 (.t 11) (.c (.int .i64 1))⟩, ⟨some 7, none, .tk (.t 12)⟩])
    (.seq (.seq (.reg [⟨some 8, none, .tk (.c (.int .i64 0))⟩])
      (.block 0 (l_slices_partialInsertionSortOrdered_int_3))) r_slices_partialInsertionSortOrdered_int_3))) }

-- cmp.Less[int]
def c_cmp_Less_int : AFunc :=
  { np := 2, res := [.t 4], body := (
    .seq (.reg [⟨some 4, none, .tk (.c (.bool false))⟩])
    (.seq (.reg [⟨some 5, none, .mv (.t 0)⟩, ⟨some 6, none, .callc n_cmp_isNaN_int [(.t 5)]⟩, ⟨some 7, none, .mv (.t 6)⟩, ⟨some 8, (some (7, true)), .mv (.t 1)⟩, ⟨some 9, (some (7, true)), .callc n_cmp_isNaN_int [(.t 8)]⟩, ⟨some 10, (some (7, true)), .notb (.t 9)⟩, ⟨some 11, none, .pick (.t 7) (.t 10) (.c (.bool false))⟩, ⟨some 12, none, .mv (.t 11)⟩, ⟨some 13, (some (12, false)), .mv (.t 0)⟩, ⟨some 14, (some (12, false)), .mv (.t 1)⟩, ⟨some 15, (some (12, false)), .ic .lss (.t 13) (.t 14)⟩, ⟨some 16, none, .pick (.t 12) (.c (.bool true)) (.t 15)⟩, ⟨some 4, none, .tk (.t 16)⟩])
    (.ret))) }

-- slices.partitionEqualOrdered[int]
def b_slices_partitionEqualOrdered_int_0 : AC :=
  .seq (.seq (.drw [[], [], [], [], [], [], [], [], [], [], [], [], [], [], []] [⟨some 29, none, .mv (.t 9)⟩, ⟨some 30, none, .mv (.t 10)⟩, ⟨some 31, none, .ic .leq (.t 29) (.t 30)⟩, ⟨some 32, none, .mv (.t 31)⟩, ⟨some 33, (some (32, true)), .mv (.t 0)⟩, ⟨some 34, (some (32, true)), .mv (.t 1)⟩, ⟨some 35, (some (32, true)), .ixa 1 none (.t 33) (.t 34)⟩, ⟨some 36, (some (32, true)), .ld none (.t 35)⟩, ⟨some 37, (some (32, true)), .mv (.t 0)⟩, ⟨some 38, (some (32, true)), .mv (.t 9)⟩, ⟨some 39, (some (32, true)), .ixa 1 none (.t 37) (.t 38)⟩, ⟨some 40, (some (32, true)), .ld none (.t 39)⟩, ⟨some 41, (some (32, true)), .callc n_cmp_Less_int [(.t 36), (.t 40)]⟩, ⟨some 42, (some (32, true)), .notb (.t 41)⟩, ⟨some 43, none, .pick (.t 32) (.t 42) (.c (.bool false))⟩])
    (.cond (.t 43)
      (.skip)
      (.exit 2)))
  (.block 3 (.reg [⟨some 44, none, .mv (.t 9)⟩, ⟨some 45, none, .ia .add .i64 (.t 44) (.c (.int .i64 1))⟩, ⟨some 9, none, .tk (.t 45)⟩]))

def l_slices_partitionEqualOrdered_int_0 : AC :=
  .loop [0, 1, 9, 10] b_slices_partitionEqualOrdered_int_0

def b_slices_partitionEqualOrdered_int_1 : AC :=
  .seq (.seq (.drw [[], [], [], [], [], [], [], [], [], [], [], [], [], []] [⟨some 46, none, .mv (.t 9)⟩, ⟨some 47, none, .mv (.t 10)⟩, ⟨some 48, none, .ic .leq (.t 46) (.t 47)⟩, ⟨some 49, none, .mv (.t 48)⟩, ⟨some 50, (some (49, true)), .mv (.t 0)⟩, ⟨some 51, (some (49, true)), .mv (.t 1)⟩, ⟨some 52, (some (49, true)), .ixa 1 none (.t 50) (.t 51)⟩, ⟨some 53, (some (49, true)), .ld none (.t 52)⟩, ⟨some 54, (some (49, true)), .mv (.t 0)⟩, ⟨some 55, (some (49, true)), .mv (.t 10)⟩, ⟨some 56, (some (49, true)), .ixa 1 none (.t 54) (.t 55)⟩, ⟨some 57, (some (49, true)), .ld none (.t 56)⟩, ⟨some 58, (some (49, true)), .callc n_cmp_Less_int [(.t 53), (.t 57)]⟩, ⟨some 59, none, .pick (.t 49) (.t 58) (.c (.bool false))⟩])
    (.cond (.t 59)
      (.skip)
      (.exit 4)))
  (.block 5 (.reg [⟨some 60, none, .mv (.t 10)⟩, ⟨some 61, none, .ia .sub .i64 (.t 60) (.c (.int .i64 1))⟩, ⟨some 10, none, .tk (.t 61)⟩]))

def l_slices_partitionEqualOrdered_int_1 : AC :=
  .loop [0, 1, 9, 10] b_slices_partitionEqualOrdered_int_1

def r_slices_partitionEqualOrdered_int_0 : AC :=
  .seq (.seq (.reg [⟨some 62, none, .mv (.t 9)⟩, ⟨some 63, none, .mv (.t 10)⟩, ⟨some 64, none, .ic .gtr (.t 62) (.t 63)⟩])
    (.cond (.t 64)
      (.exit 0)
      (.skip)))
  (.seq (.drw [[], [], [], [], [], [], [], [], [], [], [], [], [], [], [], []] [⟨some 65, none, .mv (.t 0)⟩, ⟨some 66, none, .mv (.t 9)⟩, ⟨some 67, none, .mv (.t 0)⟩, ⟨some 68, none, .mv (.t 10)⟩, ⟨some 69, none, .mv (.t 0)⟩, ⟨some 70, none, .mv (.t 10)⟩, ⟨some 71, none, .ixa 1 none (.t 69) (.t 70)⟩, ⟨some 72, none, .ld none (.t 71)⟩, ⟨some 73, none, .mv (.t 0)⟩, ⟨some 74, none, .mv (.t 9)⟩, ⟨some 75, none, .ixa 1 none (.t 73) (.t 74)⟩, ⟨some 76, none, .ld none (.t 75)⟩, ⟨some 77, none, .ixa 1 none (.t 65) (.t 66)⟩, ⟨none, none, .st 1 (.t 77) (.t 72)⟩, ⟨some 78, none, .ixa 1 none (.t 67) (.t 68)⟩, ⟨none, none, .st 1 (.t 78) (.t 76)⟩])
  (.seq (.reg [⟨some 79, none, .mv (.t 9)⟩, ⟨some 80, none, .ia .add .i64 (.t 79) (.c (.int .i64 1))⟩, ⟨some 9, none, .tk (.t 80)⟩])
  (.reg [⟨some 81, none, .mv (.t 10)⟩, ⟨some 82, none, .ia .sub .i64 (.t 81) (.c (.int .i64 1))⟩, ⟨some 10, none, .tk (.t 82)⟩])))

def r_slices_partitionEqualOrdered_int_1 : AC :=
  .seq (.block 4 (l_slices_partitionEqualOrdered_int_1)) r_slices_partitionEqualOrdered_int_0

def b_slices_partitionEqualOrdered_int_2 : AC :=
  .block 1 (.seq (.block 2 (l_slices_partitionEqualOrdered_int_0)) r_slices_partitionEqualOrdered_int_1)

def l_slices_partitionEqualOrdered_int_2 : AC :=
  .loop [0, 1, 9, 10] b_slices_partitionEqualOrdered_int_2

def r_slices_partitionEqualOrdered_int_2 : AC :=
  .seq (.reg [⟨some 83, none, .mv (.t 9)⟩, ⟨some 8, none, .tk (.t 83)⟩])
  (.ret)

def c_slices_partitionEqualOrdered_int : AFunc :=
  { np := 4, res := [.t 8], body := (
    .seq (.reg [⟨some 8, none, .tk (.c (.int .i64 0))⟩])
    (.seq (.drw [[], [], [], [], [], [], [], [], [], [], [], [], [], [], [], []] [⟨some 11, none, .mv (.t 0)⟩, ⟨some 12, none, .mv (.t 1)⟩, ⟨some 13, none, .mv (.t 0)⟩, ⟨some 14, none, .mv (.t 3)⟩, ⟨some 15, none, .mv (.t 0)⟩, ⟨some 16, none, .mv (.t 3)⟩, ⟨some 17, none, .ixa 1 none (.t 15) (.t 16)⟩, ⟨some 18, none, .ld none (.t 17)⟩, ⟨some 19, none, .mv (.t 0)⟩, ⟨some 20, none, .mv (.t 1)⟩, ⟨some 21, none, .ixa 1 none (.t 19) (.t 20)⟩, ⟨some 22, none, .ld none (.t 21)⟩, ⟨some 23, none, .ixa 1 none (.t 11) (.t 12)⟩, ⟨none, none, .st 1 (.t 23) (.t 18)⟩, ⟨some 24, none, .ixa 1 none (.t 13) (.t 14)⟩, ⟨none, none, .st 1 (.t 24) (.t 22)⟩])
    (.seq (.reg [⟨some 25, none, .mv (.t 1)⟩, ⟨some 26, none, .ia .add .i64 (.t 25) (.c (.int .i64 1))⟩, ⟨some 27, none, .mv (.t 2)⟩, ⟨some 28, none, .ia .sub .i64 (.t 27) (.c (.int .i64 1))⟩, ⟨some 9, none, .tk (.t 26)⟩, ⟨some 10, none, .tk (.t 28)⟩])
    (.seq (.block 0 (l_slices_partitionEqualOrdered_int_2)) r_slices_partitionEqualOrdered_int_2)))) }

-- slices.partitionOrdered[int]
def b_slices_partitionOrdered_int_0 : AC :=
  .seq (.seq (.drw [[], [], [], [], [], [], [], [], [], [], [], [], [], []] [⟨some 30, none, .mv (.t 10)⟩, ⟨some 31, none, .mv (.t 11)⟩, ⟨some 32, none, .ic .leq (.t 30) (.t 31)⟩, ⟨some 33, none, .mv (.t 32)⟩, ⟨some 34, (some (33, true)), .mv (.t 0)⟩, ⟨some 35, (some (33, true)), .mv (.t 10)⟩, ⟨some 36, (some (33, true)), .ixa 1 none (.t 34) (.t 35)⟩, ⟨some 37, (some (33, true)), .ld none (.t 36)⟩, ⟨some 38, (some (33, true)), .mv (.t 0)⟩, ⟨some 39, (some (33, true)), .mv (.t 1)⟩, ⟨some 40, (some (33, true)), .ixa 1 none (.t 38) (.t 39)⟩, ⟨some 41, (some (33, true)), .ld none (.t 40)⟩, ⟨some 42, (some (33, true)), .callc n_cmp_Less_int [(.t 37), (.t 41)]⟩, ⟨some 43, none, .pick (.t 33) (.t 42) (.c (.bool false))⟩])
    (.cond (.t 43)
      (.skip)
      (.exit 0)))
  (.block 1 (.reg [⟨some 44, none, .mv (.t 10)⟩, ⟨some 45, none, .ia .add .i64 (.t 44) (.c (.int .i64 1))⟩, ⟨some 10, none, .tk (.t 45)⟩]))

def l_slices_partitionOrdered_int_0 : AC :=
  .loop [0, 1, 10, 11] b_slices_partitionOrdered_int_0

def b_slices_partitionOrdered_int_1 : AC :=
  .seq (.seq (.drw [[], [], [], [], [], [], [], [], [], [], [], [], [], [], []] [⟨some 46, none, .mv (.t 10)⟩, ⟨some 47, none, .mv (.t 11)⟩, ⟨some 48, none, .ic .leq (.t 46) (.t 47)⟩, ⟨some 49, none, .mv (.t 48)⟩, ⟨some 50, (some (49, true)), .mv (.t 0)⟩, ⟨some 51, (some (49, true)), .mv (.t 11)⟩, ⟨some 52, (some (49, true)), .ixa 1 none (.t 50) (.t 51)⟩, ⟨some 53, (some (49, true)), .ld none (.t 52)⟩, ⟨some 54, (some (49, true)), .mv (.t 0)⟩, ⟨some 55, (some (49, true)), .mv (.t 1)⟩, ⟨some 56, (some (49, true)), .ixa 1 none (.t 54) (.t 55)⟩, ⟨some 57, (some (49, true)), .ld none (.t 56)⟩, ⟨some 58, (some (49, true)), .callc n_cmp_Less_int [(.t 53), (.t 57)]⟩, ⟨some 59, (some (49, true)), .notb (.t 58)⟩, ⟨some 60, none, .pick (.t 49) (.t 59) (.c (.bool false))⟩])
    (.cond (.t 60)
      (.skip)
      (.exit 2)))
  (.block 3 (.reg [⟨some 61, none, .mv (.t 11)⟩, ⟨some 62, none, .ia .sub .i64 (.t 61) (.c (.int .i64 1))⟩, ⟨some 11, none, .tk (.t 62)⟩]))

def l_slices_partitionOrdered_int_1 : AC :=
  .loop [0, 1, 10, 11] b_slices_partitionOrdered_int_1

def b_slices_partitionOrdered_int_2 : AC :=
  .seq (.seq (.drw [[], [], [], [], [], [], [], [], [], [], [], [], [], []] [⟨some 99, none, .mv (.t 10)⟩, ⟨some 100, none, .mv (.t 11)⟩, ⟨some 101, none, .ic .leq (.t 99) (.t 100)⟩, ⟨some 102, none, .mv (.t 101)⟩, ⟨some 103, (some (102, true)), .mv (.t 0)⟩, ⟨some 104, (some (102, true)), .mv (.t 10)⟩, ⟨some 105, (some (102, true)), .ixa 1 none (.t 103) (.t 104)⟩, ⟨some 106, (some (102, true)), .ld none (.t 105)⟩, ⟨some 107, (some (102, true)), .mv (.t 0)⟩, ⟨some 108, (some (102, true)), .mv (.t 1)⟩, ⟨some 109, (some (102, true)), .ixa 1 none (.t 107) (.t 108)⟩, ⟨some 110, (some (102, true)), .ld none (.t 109)⟩, ⟨some 111, (some (102, true)), .callc n_cmp_Less_int [(.t 106), (.t 110)]⟩, ⟨some 112, none, .pick (.t 102) (.t 111) (.c (.bool false))⟩])
    (.cond (.t 112)
      (.skip)
      (.exit 6)))
  (.block 7 (.reg [⟨some 113, none, .mv (.t 10)⟩, ⟨some 114, none, .ia .add .i64 (.t 113) (.c (.int .i64 1))⟩, ⟨some 10, none, .tk (.t 114)⟩]))

def l_slices_partitionOrdered_int_2 : AC :=
  .loop [0, 1, 10, 11] b_slices_partitionOrdered_int_2

def b_slices_partitionOrdered_int_3 : AC :=
  .seq (.seq (.drw [[], [], [], [], [], [], [], [], [], [], [], [], [], [], []] [⟨some 115, none, .mv (.t 10)⟩, ⟨some 116, none, .mv (.t 11)⟩, ⟨some 117, none, .ic .leq (.t 115) (.t 116)⟩, ⟨some 118, none, .mv (.t 117)⟩, ⟨some 119, (some (118, true)), .mv (.t 0)⟩, ⟨some 120, (some (118, true)), .mv (.t 11)⟩, ⟨some 121, (some (118, true)), .ixa 1 none (.t 119) (.t 120)⟩, ⟨some 122, (some (118, true)), .ld none (.t 121)⟩, ⟨some 123, (some (118, true)), .mv (.t 0)⟩, ⟨some 124, (some (118, true)), .mv (.t 1)⟩, ⟨some 125, (some (118, true)), .ixa 1 none (.t 123) (.t 124)⟩, ⟨some 126, (some (118, true)), .ld none (.t 125)⟩, ⟨some 127, (some (118, true)), .callc n_cmp_Less_int [(.t 122), (.t 126)]⟩, ⟨some 128, (some (118, true)), .notb (.t 127)⟩, ⟨some 129, none, .pick (.t 118) (.t 128) (.c (.bool false))⟩])
    (.cond (.t 129)
      (.skip)
      (.exit 8)))
  (.block 9 (.reg [⟨some 130, none, .mv (.t 11)⟩, ⟨some 131, none, .ia .sub .i64 (.t 130) (.c (.int .i64 1))⟩, ⟨some 11, none, .tk (.t 131)⟩]))

def l_slices_partitionOrdered_int_3 : AC :=
  .loop [0, 1, 10, 11] b_slices_partitionOrdered_int_3

def r_slices_partitionOrdered_int_0 : AC :=
  .seq (.seq (.reg [⟨some 132, none, .mv (.t 10)⟩, ⟨some 133, none, .mv (.t 11)⟩, ⟨some 134, none, .ic .gtr (.t 132) (.t 133)⟩])
    (.cond (.t 134)
      (.exit 4)
      (.skip)))
  (.seq (.drw [[], [], [], [], [], [], [], [], [], [], [], [], [], [], [], []] [⟨some 135, none, .mv (.t 0)⟩, ⟨some 136, none, .mv (.t 10)⟩, ⟨some 137, none, .mv (.t 0)⟩, ⟨some 138, none, .mv (.t 11)⟩, ⟨some 139, none, .mv (.t 0)⟩, ⟨some 140, none, .mv (.t 11)⟩, ⟨some 141, none, .ixa 1 none (.t 139) (.t 140)⟩, ⟨some 142, none, .ld none (.t 141)⟩, ⟨some 143, none, .mv (.t 0)⟩, ⟨some 144, none, .mv (.t 10)⟩, ⟨some 145, none, .ixa 1 none (.t 143) (.t 144)⟩, ⟨some 146, none, .ld none (.t 145)⟩, ⟨some 147, none, .ixa 1 none (.t 135) (.t 136)⟩, ⟨none, none, .st 1 (.t 147) (.t 142)⟩, ⟨some 148, none, .ixa 1 none (.t 137) (.t 138)⟩, ⟨none, none, .st 1 (.t 148) (.t 146)⟩])
  (.seq (.reg [⟨some 149, none, .mv (.t 10)⟩, ⟨some 150, none, .ia .add .i64 (.t 149) (.c (.int .i64 1))⟩, ⟨some 10, none, .tk (.t 150)⟩])
  (.reg [⟨some 151, none, .mv (.t 11)⟩, ⟨some 152, none, .ia .sub .i64 (.t 151) (.c (.int .i64 1))⟩, ⟨some 11, none, .tk (.t 152)⟩])))

def r_slices_partitionOrdered_int_1 : AC :=
  .seq (.block 8 (l_slices_partitionOrdered_int_3)) r_slices_partitionOrdered_int_0

def b_slices_partitionOrdered_int_4 : AC :=
  .block 5 (.seq (.block 6 (l_slices_partitionOrdered_int_2)) r_slices_partitionOrdered_int_1)

def l_slices_partitionOrdered_int_4 : AC :=
  .loop [0, 1, 10, 11] b_slices_partitionOrdered_int_4

def r_slices_partitionOrdered_int_2 : AC :=
  .seq (.drw [[], [], [], [], [], [], [], [], [], [], [], [], [], [], [], []] [⟨some 153, none, .mv (.t 0)⟩, ⟨some 154, none, .mv (.t 11)⟩, ⟨some 155, none, .mv (.t 0)⟩, ⟨some 156, none, .mv (.t 1)⟩, ⟨some 157, none, .mv (.t 0)⟩, ⟨some 158, none, .mv (.t 1)⟩, ⟨some 159, none, .ixa 1 none (.t 157) (.t 158)⟩, ⟨some 160, none, .ld none (.t 159)⟩, ⟨some 161, none, .mv (.t 0)⟩, ⟨some 162, none, .mv (.t 11)⟩, ⟨some 163, none, .ixa 1 none (.t 161) (.t 162)⟩, ⟨some 164, none, .ld none (.t 163)⟩, ⟨some 165, none, .ixa 1 none (.t 153) (.t 154)⟩, ⟨none, none, .st 1 (.t 165) (.t 160)⟩, ⟨some 166, none, .ixa 1 none (.t 155) (.t 156)⟩, ⟨none, none, .st 1 (.t 166) (.t 164)⟩])
  (.seq (.reg [⟨some 167, none, .mv (.t 11)⟩, ⟨some 8, none, .tk (.t 167)⟩, ⟨some 9, none, .tk (.c (.bool false))⟩])
  (.ret))

def r_slices_partitionOrdered_int_3 : AC :=
  .seq (.seq (.reg [⟨some 63, none, .mv (.t 10)⟩, ⟨some 64, none, .mv (.t 11)⟩, ⟨some 65, none, .ic .gtr (.t 63) (.t 64)⟩])
    (.cond (.t 65)
      (.seq (.drw [[], [], [], [], [], [], [], [], [], [], [], [], [], [], [], []] [⟨some 66, none, .mv (.t 0)⟩, ⟨some 67, none, .mv (.t 11)⟩, ⟨some 68, none, .mv (.t 0)⟩, ⟨some 69, none, .mv (.t 1)⟩, ⟨some 70, none, .mv (.t 0)⟩, ⟨some 71, none, .mv (.t 1)⟩, ⟨some 72, none, .ixa 1 none (.t 70) (.t 71)⟩, ⟨some 73, none, .ld none (.t 72)⟩, ⟨some 74, none, .mv (.t 0)⟩, ⟨some 75, none, .mv (.t 11)⟩, ⟨some 76, none, .ixa 1 none (.t 74) (.t 75)⟩, ⟨some 77, none, .ld none (.t 76)⟩, ⟨some 78, none, .ixa 1 none (.t 66) (.t 67)⟩, ⟨none, none, .st 1 (.t 78) (.t 73)⟩, ⟨some 79, none, .ixa 1 none (.t 68) (.t 69)⟩, ⟨none, none, .st 1 (.t 79) (.t 77)⟩])
        (.seq (.reg [⟨some 80, none, .mv (.t 11)⟩, ⟨some 8, none, .tk (.t 80)⟩, ⟨some 9, none, .tk (.c (.bool true))⟩])
        (.ret)))
      (.skip)))
  (.seq (.drw [[], [], [], [], [], [], [], [], [], [], [], [], [], [], [], []] [⟨some 81, none, .mv (.t 0)⟩, ⟨some 82, none, .mv (.t 10)⟩, ⟨some 83, none, .mv (.t 0)⟩, ⟨some 84, none, .mv (.t 11)⟩, ⟨some 85, none, .mv (.t 0)⟩, ⟨some 86, none, .mv (.t 11)⟩, ⟨some 87, none, .ixa 1 none (.t 85) (.t 86)⟩, ⟨some 88, none, .ld none (.t 87)⟩, ⟨some 89, none, .mv (.t 0)⟩, ⟨some 90, none, .mv (.t 10)⟩, ⟨some 91, none, .ixa 1 none (.t 89) (.t 90)⟩, ⟨some 92, none, .ld none (.t 91)⟩, ⟨some 93, none, .ixa 1 none (.t 81) (.t 82)⟩, ⟨none, none, .st 1 (.t 93) (.t 88)⟩, ⟨some 94, none, .ixa 1 none (.t 83) (.t 84)⟩, ⟨none, none, .st 1 (.t 94) (.t 92)⟩])
  (.seq (.reg [⟨some 95, none, .mv (.t 10)⟩, ⟨some 96, none, .ia .add .i64 (.t 95) (.c (.int .i64 1))⟩, ⟨some 10, none, .tk (.t 96)⟩])
  (.seq (.reg [⟨some 97, none, .mv (.t 11)⟩, ⟨some 98, none, .ia .sub .i64 (.t 97) (.c (.int .i64 1))⟩, ⟨some 11, none, .tk (.t 98)⟩])
  (.seq (.block 4 (l_slices_partitionOrdered_int_4)) r_slices_partitionOrdered_int_2))))

def r_slices_partitionOrdered_int_4 : AC :=
  .seq (.block 2 (l_slices_partitionOrdered_int_1)) r_slices_partitionOrdered_int_3

def c_slices_partitionOrdered_int : AFunc :=
  { np := 4, res := [.t 8, .t 9], body := (
    .seq (.reg [⟨some 8, none, .tk (.c (.int .i64 0))⟩, ⟨some 9, none, .tk (.c (.bool false))⟩])
    (.seq (.drw [[], [], [], [], [], [], [], [], [], [], [], [], [], [], [], []] [⟨some 12, none, .mv (.t 0)⟩, ⟨some 13, none, .mv (.t 1)⟩, ⟨some 14, none, .mv (.t 0)⟩, ⟨some 15, none, .mv (.t 3)⟩, ⟨some 16, none, .mv (.t 0)⟩, ⟨some 17, none, .mv (.t 3)⟩, ⟨some 18, none, .ixa 1 none (.t 16) (.t 17)⟩, ⟨some 19, none, .ld none (.t 18)⟩, ⟨some 20, none, .mv (.t 0)⟩, ⟨some 21, none, .mv (.t 1)⟩, ⟨some 22, none, .ixa 1 none (.t 20) (.t 21)⟩, ⟨some 23, none, .ld none (.t 22)⟩, ⟨some 24, none, .ixa 1 none (.t 12) (.t 13)⟩, ⟨none, none, .st 1 (.t 24) (.t 19)⟩, ⟨some 25, none, .ixa 1 none (.t 14) (.t 15)⟩, ⟨none, none, .st 1 (.t 25) (.t 23)⟩])
    (.seq (.reg [⟨some 26, none, .mv (.t 1)⟩, ⟨some 27, none, .ia .add .i64 (.t 26) (.c (.int .i64 1))⟩, ⟨some 28, none, .mv (.t 2)⟩, ⟨some 29, none, .ia .sub .i64 (.t 28) (.c (.int .i64 1))⟩, ⟨some 10, none, .tk (.t 27)⟩, ⟨some 11, none, .tk (.t 29)⟩])
    (.seq (.block 0 (l_slices_partitionOrdered_int_0)) r_slices_partitionOrdered_int_4)))) }

-- math/bits.Len32
def c_math_bits_Len32 : AFunc :=
  { np := 1, res := [.t 2], body := (
    .seq (.reg [⟨some 2, none, .tk (.c (.int .i64 0))⟩])
    (.seq (.seq (.reg [⟨some 3, none, .mv (.t 0)⟩, ⟨some 4, none, .ic .geq (.t 3) (.c (.int .u32 65536))⟩])
      (.cond (.t 4)
        (.seq (.reg [⟨some 5, none, .mv (.t 0)⟩, ⟨some 6, none, .ia .shr .u32 (.t 5) (.c (.int .u64 16))⟩, ⟨some 0, none, .tk (.t 6)⟩])
          (.reg [⟨some 2, none, .tk (.c (.int .i64 16))⟩]))
        (.skip)))
    (.seq (.seq (.reg [⟨some 7, none, .mv (.t 0)⟩, ⟨some 8, none, .ic .geq (.t 7) (.c (.int .u32 256))⟩])
      (.cond (.t 8)
        (.seq (.reg [⟨some 9, none, .mv (.t 0)⟩, ⟨some 10, none, .ia .shr .u32 (.t 9) (.c (.int .u64 8))⟩, ⟨some 0, none, .tk (.t 10)⟩])
          (.reg [⟨some 11, none, .mv (.t 2)⟩, ⟨some 12, none, .ia .add .i64 (.t 11) (.c (.int .i64 8))⟩, ⟨some 2, none, .tk (.t 12)⟩]))
        (.skip)))
    (.seq (.reg [⟨some 13, none, .mv (.t 2)⟩, ⟨some 14, none, .mv (.t 0)⟩, ⟨some 15, none, .conv .u8 (.t 14)⟩, ⟨some 16, none, .ixs (.c (.str [0, 1, 2, 2, 3, 3, 3, 3, 4, 4, 4, 4, 4, 4, 4, 4, 5, 5, 5, 5, 5, 5, 5, 5, 5, 5, 5, 5, 5, 5, 5, 5, 6, 6, 6, 6, 6, 6, 6, 6, 6, 6, 6, 6, 6, 6, 6, 6, 6, 6, 6, 6, 6, 6, 6, 6, 6, 6, 6, 6, 6, 6, 6, 6, 7, 7, 7, 7, 7, 7, 7, 7, 7, 7, 7, 7, 7, 7, 7, 7, 7, 7, 7, 7, 7, 7, 7, 7, 7, 7, 7, 7, 7, 7, 7, 7, 7, 7, 7, 7, 7, 7, 7, 7, 7, 7, 7, 7, 7, 7, 7, 7, 7, 7, 7, 7, 7, 7, 7, 7, 7, 7, 7, 7, 7, 7, 7, 7, 8, 8, 8, 8, 8, 8, 8, 8, 8, 8, 8, 8, 8, 8, 8, 8, 8, 8, 8, 8, 8, 8, 8, 8, 8, 8, 8, 8, 8, 8, 8, 8, 8, 8, 8, 8, 8, 8, 8, 8, 8, 8, 8, 8, 8, 8, 8, 8, 8, 8, 8, 8, 8, 8, 8, 8, 8, 8, 8, 8, 8, 8, 8, 8, 8, 8, 8, 8, 8, 8, 8, 8, 8, 8, 8, 8, 8, 8, 8, 8, 8, 8, 8, 8, 8, 8, 8, 8, 8, 8, 8, 8, 8, 8, 8, 8, 8, 8, 8, 8, 8, 8, 8, 8, 8, 8, 8, 8, 8, 8, 8, 8, 8, 8, 8, 8, 8, 8, 8, 8, 8, 8, 8, 8, 8, 8, 8, 8])) (.t 15)⟩, ⟨some 17, none, .conv .i64 (.t 16)⟩, ⟨some 18, none, .ia .add .i64 (.t 13) (.t 17)⟩, ⟨some 2, none, .tk (.t 18)⟩])
    (.ret))))) }

-- math/bits.Len64
def c_math_bits_Len64 : AFunc :=
  { np := 1, res := [.t 2], body := (
    .seq (.reg [⟨some 2, none, .tk (.c (.int .i64 0))⟩])
    (.seq (.seq (.reg [⟨some 3, none, .mv (.t 0)⟩, ⟨some 4, none, .ic .geq (.t 3) (.c (.int .u64 4294967296))⟩])
      (.cond (.t 4)
        (.seq (.reg [⟨some 5, none, .mv (.t 0)⟩, ⟨some 6, none, .ia .shr .u64 (.t 5) (.c (.int .u64 32))⟩, ⟨some 0, none, .tk (.t 6)⟩])
          (.reg [⟨some 2, none, .tk (.c (.int .i64 32))⟩]))
        (.skip)))
    (.seq (.seq (.reg [⟨some 7, none, .mv (.t 0)⟩, ⟨some 8, none, .ic .geq (.t 7) (.c (.int .u64 65536))⟩])
      (.cond (.t 8)
        (.seq (.reg [⟨some 9, none, .mv (.t 0)⟩, ⟨some 10, none, .ia .shr .u64 (.t 9) (.c (.int .u64 16))⟩, ⟨some 0, none, .tk (.t 10)⟩])
          (.reg [⟨some 11, none, .mv (.t 2)⟩, ⟨some 12, none, .ia .add .i64 (.t 11) (.c (.int .i64 16))⟩, ⟨some 2, none, .tk (.t 12)⟩]))
        (.skip)))
    (.seq (.seq (.reg [⟨some 13, none, .mv (.t 0)⟩, ⟨some 14, none, .ic .geq (.t 13) (.c (.int .u64 256))⟩])
      (.cond (.t 14)
        (.seq (.reg [⟨some 15, none, .mv (.t 0)⟩, ⟨some 16, none, .ia .shr .u64 (.t 15) (.c (.int .u64 8))⟩, ⟨some 0, none, .tk (.t 16)⟩])
          (.reg [⟨some 17, none, .mv (.t 2)⟩, ⟨some 18, none, .ia .add .i64 (.t 17) (.c (.int .i64 8))⟩, ⟨some 2, none, .tk (.t 18)⟩]))
        (.skip)))
    (.seq (.reg [⟨some 19, none, .mv (.t 2)⟩, ⟨some 20, none, .mv (.t 0)⟩, ⟨some 21, none, .conv .u8 (.t 20)⟩, ⟨some 22, none, .ixs (.c (.str [0, 1, 2, 2, 3, 3, 3, 3, 4, 4, 4, 4, 4, 4, 4, 4, 5, 5, 5, 5, 5, 5, 5, 5, 5, 5, 5, 5, 5, 5, 5, 5, 6, 6, 6, 6, 6, 6, 6, 6, 6, 6, 6, 6, 6, 6, 6, 6, 6, 6, 6, 6, 6, 6, 6, 6, 6, 6, 6, 6, 6, 6, 6, 6, 7, 7, 7, 7, 7, 7, 7, 7, 7, 7, 7, 7, 7, 7, 7, 7, 7, 7, 7, 7, 7, 7, 7, 7, 7, 7, 7, 7, 7, 7, 7, 7, 7, 7, 7, 7, 7, 7, 7, 7, 7, 7, 7, 7, 7, 7, 7, 7, 7, 7, 7, 7, 7, 7, 7, 7, 7, 7, 7, 7, 7, 7, 7, 7, 8, 8, 8, 8, 8, 8, 8, 8, 8, 8, 8, 8, 8, 8, 8, 8, 8, 8, 8, 8, 8, 8, 8, 8, 8, 8, 8, 8, 8, 8, 8, 8, 8, 8, 8, 8, 8, 8, 8, 8, 8, 8, 8, 8, 8, 8, 8, 8, 8, 8, 8, 8, 8, 8, 8, 8, 8, 8, 8, 8, 8, 8, 8, 8, 8, 8, 8, 8, 8, 8, 8, 8, 8, 8, 8, 8, 8, 8, 8, 8, 8, 8, 8, 8, 8, 8, 8, 8, 8, 8, 8, 8, 8, 8, 8, 8, 8, 8, 8, 8, 8, 8, 8, 8, 8, 8, 8, 8, 8, 8, 8, 8, 8, 8, 8, 8, 8, 8, 8, 8, 8, 8, 8, 8, 8, 8, 8, 8])) (.t 21)⟩, ⟨some 23, none, .conv .i64 (.t 22)⟩, ⟨some 24, none, .ia .add .i64 (.t 19) (.t 23)⟩, ⟨some 2, none, .tk (.t 24)⟩])
    (.ret)))))) }

-- flotsam/sector.Put
def c_sector_Put : AFunc :=
  { np := 3, res := [.cell 6 (some 32), .t 7], body := (
    .seq (.reg [⟨some 3, none, .box (.t 0)⟩, ⟨some 6, none, .alloc [.int .u8 0, .int .u8 0, .int .u8 0, .int .u8 0, .int .u8 0, .int .u8 0, .int .u8 0, .int .u8 0, .int .u8 0, .int .u8 0, .int .u8 0, .int .u8 0, .int .u8 0, .int .u8 0, .int .u8 0, .int .u8 0, .int .u8 0, .int .u8 0, .int .u8 0, .int .u8 0, .int .u8 0, .int .u8 0, .int .u8 0, .int .u8 0, .int .u8 0, .int .u8 0, .int .u8 0, .int .u8 0, .int .u8 0, .int .u8 0, .int .u8 0, .int .u8 0]⟩, ⟨some 7, none, .tk (.c (.bool false))⟩])
    (.seq (.seq (.reg [⟨some 8, none, .mv (.t 1)⟩, ⟨some 9, none, .mv (.t 2)⟩, ⟨some 10, none, .len false (.t 9)⟩, ⟨some 11, none, .callc n_sector_fits [(.t 8), (.t 10)]⟩, ⟨some 12, none, .notb (.t 11)⟩])
      (.cond (.t 12)
        (.seq (.reg [⟨some 13, none, .ld (some 32) (.t 3)⟩, ⟨none, none, .st 32 (.t 6) (.t 13)⟩, ⟨some 7, none, .tk (.c (.bool false))⟩])
          (.ret))
        (.skip)))
    (.seq (.reg [⟨some 14, none, .mv (.t 1)⟩, ⟨some 15, none, .slp 1 32 (.t 3) (some (.t 14)) none none⟩, ⟨some 16, none, .mv (.t 2)⟩, ⟨some 17, none, .cpy 1 (.t 15) (.t 16)⟩])
    (.seq (.reg [⟨some 18, none, .ld (some 32) (.t 3)⟩, ⟨none, none, .st 32 (.t 6) (.t 18)⟩, ⟨some 7, none, .tk (.c (.bool true))⟩])
    (.ret))))) }

-- slices.siftDownOrdered[int]
def b_slices_siftDownOrdered_int_0 : AC :=
  .block 1 (.seq (.reg [⟨some 11, none, .mv (.t 8)⟩, ⟨some 12, none, .ia .mul .i64 (.c (.int .i64 2)) (.t 11)⟩, ⟨some 13, none, .ia .add .i64 (.t 12) (.c (.int .i64 1))⟩, ⟨some 9, none, .tk (.t 13)⟩])
    (.seq (.seq (.reg [⟨some 14, none, .mv (.t 9)⟩, ⟨some 15, none, .mv (.t 2)⟩, ⟨some 16, none, .ic .geq (.t 14) (.t 15)⟩])
      (.cond (.t 16)
        (.exit 0)
        (.skip)))
    (.seq (.seq (.drw [[], [], [], [], [], [], [], [], [], [], [], [], [], [], [], [], [], [], [], []] [⟨some 17, none, .mv (.t 9)⟩, ⟨some 18, none, .ia .add .i64 (.t 17) (.c (.int .i64 1))⟩, ⟨some 19, none, .mv (.t 2)⟩, ⟨some 20, none, .ic .lss (.t 18) (.t 19)⟩, ⟨some 21, none, .mv (.t 20)⟩, ⟨some 22, (some (21, true)), .mv (.t 0)⟩, ⟨some 23, (some (21, true)), .mv (.t 3)⟩, ⟨some 24, (some (21, true)), .mv (.t 9)⟩, ⟨some 25, (some (21, true)), .ia .add .i64 (.t 23) (.t 24)⟩, ⟨some 26, (some (21, true)), .ixa 1 none (.t 22) (.t 25)⟩, ⟨some 27, (some (21, true)), .ld none (.t 26)⟩, ⟨some 28, (some (21, true)), .mv (.t 0)⟩, ⟨some 29, (some (21, true)), .mv (.t 3)⟩, ⟨some 30, (some (21, true)), .mv (.t 9)⟩, ⟨some 31, (some (21, true)), .ia .add .i64 (.t 29) (.t 30)⟩, ⟨some 32, (some (21, true)), .ia .add .i64 (.t 31) (.c (.int .i64 1))⟩, ⟨some 33, (some (21, true)), .ixa 1 none (.t 28) (.t 32)⟩, ⟨some 34, (some (21, true)), .ld none (.t 33)⟩, ⟨some 35, (some (21, true)), .callc n_cmp_Less_int [(.t 27), (.t 34)]⟩, ⟨some 36, none, .pick (.t 21) (.t 35) (.c (.bool false))⟩])
      (.cond (.t 36)
        (.reg [⟨some 37, none, .mv (.t 9)⟩, ⟨some 38, none, .ia .add .i64 (.t 37) (.c (.int .i64 1))⟩, ⟨some 9, none, .tk (.t 38)⟩])
        (.skip)))
    (.seq (.seq (.drw [[], [], [], [], [], [], [], [], [], [], [], [], [], []] [⟨some 39, none, .mv (.t 0)⟩, ⟨some 40, none, .mv (.t 3)⟩, ⟨some 41, none, .mv (.t 8)⟩, ⟨some 42, none, .ia .add .i64 (.t 40) (.t 41)⟩, ⟨some 43, none, .ixa 1 none (.t 39) (.t 42)⟩, ⟨some 44, none, .ld none (.t 43)⟩, ⟨some 45, none, .mv (.t 0)⟩, ⟨some 46, none, .mv (.t 3)⟩, ⟨some 47, none, .mv (.t 9)⟩, ⟨some 48, none, .ia .add .i64 (.t 46) (.t 47)⟩, ⟨some 49, none, .ixa 1 none (.t 45) (.t 48)⟩, ⟨some 50, none, .ld none (.t 49)⟩, ⟨some 51, none, .callc n_cmp_Less_int [(.t 44), (.t 50)]⟩, ⟨some 52, none, .notb (.t 51)⟩])
      (.cond (.t 52)
        (.ret)
        (.skip)))
    (.seq (.drw [[], [], [], [], [], [], [], [], [], [], [], [], [], [], [], [], [], [], [], [], [], [], [], []] [⟨some 53, none, .mv (.t 0)⟩, ⟨some 54, none, .mv (.t 3)⟩, ⟨some 55, none, .mv (.t 8)⟩, ⟨some 56, none, .ia .add .i64 (.t 54) (.t 55)⟩, ⟨some 57, none, .mv (.t 0)⟩, ⟨some 58, none, .mv (.t 3)⟩, ⟨some 59, none, .mv (.t 9)⟩, ⟨some 60, none, .ia .add .i64 (.t 58) (.t 59)⟩, ⟨some 61, none, .mv (.t 0)⟩, ⟨some 62, none, .mv (.t 3)⟩, ⟨some 63, none, .mv (.t 9)⟩, ⟨some 64, none, .ia .add .i64 (.t 62) (.t 63)⟩, ⟨some 65, none, .ixa 1 none (.t 61) (.t 64)⟩, ⟨some 66, none, .ld none (.t 65)⟩, ⟨some 67, none, .mv (.t 0)⟩, ⟨some 68, none, .mv (.t 3)⟩, ⟨some 69, none, .mv (.t 8)⟩, ⟨some 70, none, .ia .add .i64 (.t 68) (.t 69)⟩, ⟨some 71, none, .ixa 1 none (.t 67) (.t 70)⟩, ⟨some 72, none, .ld none (.t 71)⟩, ⟨some 73, none, .ixa 1 none (.t 53) (.t 56)⟩, ⟨none, none, .st 1 (.t 73) (.t 66)⟩, ⟨some 74, none, .ixa 1 none (.t 57) (.t 60)⟩, ⟨none, none, .st 1 (.t 74) (.t 72)⟩])
    (.reg [⟨some 75, none, .mv (.t 9)⟩, ⟨some 8, none, .tk (.t 75)⟩]))))))

def l_slices_siftDownOrdered_int_0 : AC :=
  .loop [0, 2, 3, 8] b_slices_siftDownOrdered_int_0

def c_slices_siftDownOrdered_int : AFunc :=
  { np := 4, res := [], body := (
    .seq (.reg [⟨some 10, none, .mv (.t 1)⟩, ⟨some 8, none, .tk (.t 10)⟩])
    (.block 0 (l_slices_siftDownOrdered_int_0))) }

-- slices.nextPowerOfTwo
def c_slices_nextPowerOfTwo : AFunc :=
  { np := 1, res := [.t 2], body := (
    .seq (.reg [⟨some 2, none, .tk (.c (.int .u64 0))⟩])
    (.seq (.reg [⟨some 3, none, .mv (.t 0)⟩, ⟨some 4, none, .conv .u64 (.t 3)⟩, ⟨some 5, none, .callc n_math_bits_Len [(.t 4)]⟩, ⟨some 6, none, .ia .shl .u64 (.c (.int .u64 1)) (.t 5)⟩, ⟨some 2, none, .tk (.t 6)⟩])
    (.ret))) }

-- (*slices.xorshift).Next
def c_pslices_xorshift_Next : AFunc :=
  { np := 1, res := [.t 2], body := (
    .seq (.reg [⟨some 2, none, .tk (.c (.int .u64 0))⟩])
    (.seq (.drw [[], [], [], [], [], [], [], [], [], []] [⟨some 3, none, .mv (.t 0)⟩, ⟨some 4, none, .nck (.t 3)⟩, ⟨some 5, none, .ld none (.t 4)⟩, ⟨some 6, none, .mv (.t 0)⟩, ⟨some 7, none, .nck (.t 6)⟩, ⟨some 8, none, .ld none (.t 7)⟩, ⟨some 9, none, .ia .shl .u64 (.t 8) (.c (.int .u64 13))⟩, ⟨some 10, none, .ia .xor .u64 (.t 5) (.t 9)⟩, ⟨some 11, none, .nck (.t 3)⟩, ⟨none, none, .st 1 (.t 11) (.t 10)⟩])
    (.seq (.drw [[], [], [], [], [], [], [], [], [], []] [⟨some 12, none, .mv (.t 0)⟩, ⟨some 13, none, .nck (.t 12)⟩, ⟨some 14, none, .ld none (.t 13)⟩, ⟨some 15, none, .mv (.t 0)⟩, ⟨some 16, none, .nck (.t 15)⟩, ⟨some 17, none, .ld none (.t 16)⟩, ⟨some 18, none, .ia .shr .u64 (.t 17) (.c (.int .u64 7))⟩, ⟨some 19, none, .ia .xor .u64 (.t 14) (.t 18)⟩, ⟨some 20, none, .nck (.t 12)⟩, ⟨none, none, .st 1 (.t 20) (.t 19)⟩])
    (.seq (.drw [[], [], [], [], [], [], [], [], [], []] [⟨some 21, none, .mv (.t 0)⟩, ⟨some 22, none, .nck (.t 21)⟩, ⟨some 23, none, .ld none (.t 22)⟩, ⟨some 24, none, .mv (.t 0)⟩, ⟨some 25, none, .nck (.t 24)⟩, ⟨some 26, none, .ld none (.t 25)⟩, ⟨some 27, none, .ia .shl .u64 (.t 26) (.c (.int .u64 17))⟩, ⟨some 28, none, .ia .xor .u64 (.t 23) (.t 27)⟩, ⟨some 29, none, .nck (.t 21)⟩, ⟨none, none, .st 1 (.t 29) (.t 28)⟩])
    (.seq (.reg [⟨some 30, none, .mv (.t 0)⟩, ⟨some 31, none, .nck (.t 30)⟩, ⟨some 32, none, .ld none (.t 31)⟩, ⟨some 2, none, .tk (.t 32)⟩])
    (.ret)))))) }

-- slices.medianAdjacentOrdered[int]
def c_slices_medianAdjacentOrdered_int : AFunc :=
  { np := 3, res := [.t 6], body := (
    .seq (.reg [⟨some 6, none, .tk (.c (.int .i64 0))⟩])
    (.seq (.reg [⟨some 7, none, .mv (.t 0)⟩, ⟨some 8, none, .mv (.t 1)⟩, ⟨some 9, none, .ia .sub .i64 (.t 8) (.c (.int .i64 1))⟩, ⟨some 10, none, .mv (.t 1)⟩, ⟨some 11, none, .mv (.t 1)⟩, ⟨some 12, none, .ia .add .i64 (.t 11) (.c (.int .i64 1))⟩, ⟨some 13, none, .mv (.t 2)⟩, ⟨some 14, none, .call n_slices_medianOrdered_int [(.t 7), (.t 9), (.t 10), (.t 12), (.t 13)]⟩, ⟨some 6, none, .tk (.t 14)⟩])
    (.ret))) }

-- slices.medianOrdered[int]
def c_slices_medianOrdered_int : AFunc :=
  { np := 5, res := [.t 10], body := (
    .seq (.reg [⟨some 10, none, .tk (.c (.int .i64 0))⟩])
    (.seq (.reg [⟨some 12, none, .mv (.t 0)⟩, ⟨some 13, none, .mv (.t 1)⟩, ⟨some 14, none, .mv (.t 2)⟩, ⟨some 15, none, .mv (.t 4)⟩, ⟨some 16, none, .call n_slices_order2Ordered_int [(.t 12), (.t 13), (.t 14), (.t 15)]⟩, ⟨some 11, none, .mv (.t 16)⟩, ⟨some 17, none, .ext (.t 11) 0⟩, ⟨some 18, none, .ext (.t 11) 1⟩, ⟨some 1, none, .tk (.t 17)⟩, ⟨some 2, none, .tk (.t 18)⟩])
    (.seq (.reg [⟨some 20, none, .mv (.t 0)⟩, ⟨some 21, none, .mv (.t 2)⟩, ⟨some 22, none, .mv (.t 3)⟩, ⟨some 23, none, .mv (.t 4)⟩, ⟨some 24, none, .call n_slices_order2Ordered_int [(.t 20), (.t 21), (.t 22), (.t 23)]⟩, ⟨some 19, none, .mv (.t 24)⟩, ⟨some 25, none, .ext (.t 19) 0⟩, ⟨some 26, none, .ext (.t 19) 1⟩, ⟨some 2, none, .tk (.t 25)⟩, ⟨some 3, none, .tk (.t 26)⟩])
    (.seq (.reg [⟨some 28, none, .mv (.t 0)⟩, ⟨some 29, none, .mv (.t 1)⟩, ⟨some 30, none, .mv (.t 2)⟩, ⟨some 31, none, .mv (.t 4)⟩, ⟨some 32, none, .call n_slices_order2Ordered_int [(.t 28), (.t 29), (.t 30), (.t 31)]⟩, ⟨some 27, none, .mv (.t 32)⟩, ⟨some 33, none, .ext (.t 27) 0⟩, ⟨some 34, none, .ext (.t 27) 1⟩, ⟨some 1, none, .tk (.t 33)⟩, ⟨some 2, none, .tk (.t 34)⟩])
    (.seq (.reg [⟨some 35, none, .mv (.t 2)⟩, ⟨some 10, none, .tk (.t 35)⟩])
    (.ret)))))) }

-- cmp.isNaN[int]
def c_cmp_isNaN_int : AFunc :=
  { np := 1, res := [.t 2], body := (
    .seq (.reg [⟨some 2, none, .tk (.c (.bool false))⟩])
    (.seq (.reg [⟨some 3, none, .mv (.t 0)⟩, ⟨some 4, none, .mv (.t 0)⟩, ⟨some 5, none, .ic .neq (.t 3) (.t 4)⟩, ⟨some 2, none, .tk (.t 5)⟩])
    (.ret))) }

-- slices.order2Ordered[int]
def c_slices_order2Ordered_int : AFunc :=
  { np := 4, res := [.t 8, .t 9], body := (
    .seq (.reg [⟨some 8, none, .tk (.c (.int .i64 0))⟩, ⟨some 9, none, .tk (.c (.int .i64 0))⟩])
    (.seq (.seq (.drw [[], [], [], [], [], [], [], [], []] [⟨some 10, none, .mv (.t 0)⟩, ⟨some 11, none, .mv (.t 2)⟩, ⟨some 12, none, .ixa 1 none (.t 10) (.t 11)⟩, ⟨some 13, none, .ld none (.t 12)⟩, ⟨some 14, none, .mv (.t 0)⟩, ⟨some 15, none, .mv (.t 1)⟩, ⟨some 16, none, .ixa 1 none (.t 14) (.t 15)⟩, ⟨some 17, none, .ld none (.t 16)⟩, ⟨some 18, none, .callc n_cmp_Less_int [(.t 13), (.t 17)]⟩])
      (.cond (.t 18)
        (.seq (.reg [⟨some 19, none, .mv (.t 3)⟩, ⟨some 20, none, .nck (.t 19)⟩, ⟨some 21, none, .ld none (.t 20)⟩, ⟨some 22, none, .ia .add .i64 (.t 21) (.c (.int .i64 1))⟩, ⟨some 23, none, .nck (.t 19)⟩, ⟨none, none, .st 1 (.t 23) (.t 22)⟩])
          (.seq (.reg [⟨some 24, none, .mv (.t 2)⟩, ⟨some 25, none, .mv (.t 1)⟩, ⟨some 8, none, .tk (.t 24)⟩, ⟨some 9, none, .tk (.t 25)⟩])
          (.ret)))
        (.skip)))
    (.seq (.reg [⟨some 26, none, .mv (.t 1)⟩, ⟨some 27, none, .mv (.t 2)⟩, ⟨some 8, none, .tk (.t 26)⟩, ⟨some 9, none, .tk (.t 27)⟩])
    (.ret)))) }

def tbl : Tbl := Tab.get [(3, c_flotsamlaw07_LayoutInodes), (4, c_flotsamlaw07_LayoutMounts), (5, c_flotsamlaw07_LayoutEntries), (6, c_flotsamlaw07_LayoutBack), (7, c_layout_Inode), (8, c_flotsamref07_Inode), (9, c_layout_InodeOf), (10, c_flotsamref07_InodeOf), (11, c_layout_RightInode), (12, c_flotsamref07_RightInode), (13, c_flotsamlaw07_knows), (14, c_flotsamlaw04_Same), (15, c_layout_Empty), (16, c_flotsamref07_Empty), (17, c_layout_Mounts), (18, c_flotsamref07_Mounts), (19, c_layout_Entry), (20, c_flotsamref07_Entry), (21, c_layout_EntryOf), (22, c_flotsamref07_EntryOf), (23, c_layout_RightEntry), (24, c_flotsamref07_RightEntry), (25, c_layout_Name), (26, c_flotsamref07_Name), (27, c_sector_Torn), (28, c_slices_Clone_int_int), (29, c_layout_need), (30, c_layout_RightInode_1), (31, c_slices_ContainsFunc_int_int), (32, c_layout_RightInode_2), (33, c_slices_Sort_int_int), (34, c_slices_Compact_int_int), (35, c_flotsamref07_Need), (36, c_flotsamref04_Unlike), (38, c_flotsamref07_Super), (39, c_sector_Zero), (40, c_sector_Cut), (41, c_layout_RightEntry_1), (43, c_slices_IndexFunc_int_int), (44, c_slices_pdqsortOrdered_int), (45, c_math_bits_Len), (46, c_sector_Of), (47, c_sector_fits), (48, c_bytes_Clone), (56, c_slices_insertionSortOrdered_int), (57, c_slices_heapSortOrdered_int), (58, c_slices_breakPatternsOrdered_int), (59, c_slices_choosePivotOrdered_int), (60, c_slices_reverseRangeOrdered_int), (61, c_slices_partialInsertionSortOrdered_int), (62, c_cmp_Less_int), (63, c_slices_partitionEqualOrdered_int), (64, c_slices_partitionOrdered_int), (65, c_math_bits_Len32), (66, c_math_bits_Len64), (67, c_sector_Put), (72, c_slices_siftDownOrdered_int), (73, c_slices_nextPowerOfTwo), (74, c_pslices_xorshift_Next), (75, c_slices_medianAdjacentOrdered_int), (76, c_slices_medianOrdered_int), (77, c_cmp_isNaN_int), (81, c_slices_order2Ordered_int)]

theorem t_flotsamlaw07_LayoutInodes : tbl n_flotsamlaw07_LayoutInodes = some c_flotsamlaw07_LayoutInodes := by kernel_rfl
theorem t_flotsamlaw07_LayoutMounts : tbl n_flotsamlaw07_LayoutMounts = some c_flotsamlaw07_LayoutMounts := by kernel_rfl
theorem t_flotsamlaw07_LayoutEntries : tbl n_flotsamlaw07_LayoutEntries = some c_flotsamlaw07_LayoutEntries := by kernel_rfl
theorem t_flotsamlaw07_LayoutBack : tbl n_flotsamlaw07_LayoutBack = some c_flotsamlaw07_LayoutBack := by kernel_rfl
theorem t_layout_Inode : tbl n_layout_Inode = some c_layout_Inode := by kernel_rfl
theorem t_flotsamref07_Inode : tbl n_flotsamref07_Inode = some c_flotsamref07_Inode := by kernel_rfl
theorem t_layout_InodeOf : tbl n_layout_InodeOf = some c_layout_InodeOf := by kernel_rfl
theorem t_flotsamref07_InodeOf : tbl n_flotsamref07_InodeOf = some c_flotsamref07_InodeOf := by kernel_rfl
theorem t_layout_RightInode : tbl n_layout_RightInode = some c_layout_RightInode := by kernel_rfl
theorem t_flotsamref07_RightInode : tbl n_flotsamref07_RightInode = some c_flotsamref07_RightInode := by kernel_rfl
theorem t_flotsamlaw07_knows : tbl n_flotsamlaw07_knows = some c_flotsamlaw07_knows := by kernel_rfl
theorem t_flotsamlaw04_Same : tbl n_flotsamlaw04_Same = some c_flotsamlaw04_Same := by kernel_rfl
theorem t_layout_Empty : tbl n_layout_Empty = some c_layout_Empty := by kernel_rfl
theorem t_flotsamref07_Empty : tbl n_flotsamref07_Empty = some c_flotsamref07_Empty := by kernel_rfl
theorem t_layout_Mounts : tbl n_layout_Mounts = some c_layout_Mounts := by kernel_rfl
theorem t_flotsamref07_Mounts : tbl n_flotsamref07_Mounts = some c_flotsamref07_Mounts := by kernel_rfl
theorem t_layout_Entry : tbl n_layout_Entry = some c_layout_Entry := by kernel_rfl
theorem t_flotsamref07_Entry : tbl n_flotsamref07_Entry = some c_flotsamref07_Entry := by kernel_rfl
theorem t_layout_EntryOf : tbl n_layout_EntryOf = some c_layout_EntryOf := by kernel_rfl
theorem t_flotsamref07_EntryOf : tbl n_flotsamref07_EntryOf = some c_flotsamref07_EntryOf := by kernel_rfl
theorem t_layout_RightEntry : tbl n_layout_RightEntry = some c_layout_RightEntry := by kernel_rfl
theorem t_flotsamref07_RightEntry : tbl n_flotsamref07_RightEntry = some c_flotsamref07_RightEntry := by kernel_rfl
theorem t_layout_Name : tbl n_layout_Name = some c_layout_Name := by kernel_rfl
theorem t_flotsamref07_Name : tbl n_flotsamref07_Name = some c_flotsamref07_Name := by kernel_rfl
theorem t_sector_Torn : tbl n_sector_Torn = some c_sector_Torn := by kernel_rfl
theorem t_slices_Clone_int_int : tbl n_slices_Clone_int_int = some c_slices_Clone_int_int := by kernel_rfl
theorem t_layout_need : tbl n_layout_need = some c_layout_need := by kernel_rfl
theorem t_layout_RightInode_1 : tbl n_layout_RightInode_1 = some c_layout_RightInode_1 := by kernel_rfl
theorem t_slices_ContainsFunc_int_int : tbl n_slices_ContainsFunc_int_int = some c_slices_ContainsFunc_int_int := by kernel_rfl
theorem t_layout_RightInode_2 : tbl n_layout_RightInode_2 = some c_layout_RightInode_2 := by kernel_rfl
theorem t_slices_Sort_int_int : tbl n_slices_Sort_int_int = some c_slices_Sort_int_int := by kernel_rfl
theorem t_slices_Compact_int_int : tbl n_slices_Compact_int_int = some c_slices_Compact_int_int := by kernel_rfl
theorem t_flotsamref07_Need : tbl n_flotsamref07_Need = some c_flotsamref07_Need := by kernel_rfl
theorem t_flotsamref04_Unlike : tbl n_flotsamref04_Unlike = some c_flotsamref04_Unlike := by kernel_rfl
theorem t_flotsamref07_Super : tbl n_flotsamref07_Super = some c_flotsamref07_Super := by kernel_rfl
theorem t_sector_Zero : tbl n_sector_Zero = some c_sector_Zero := by kernel_rfl
theorem t_sector_Cut : tbl n_sector_Cut = some c_sector_Cut := by kernel_rfl
theorem t_layout_RightEntry_1 : tbl n_layout_RightEntry_1 = some c_layout_RightEntry_1 := by kernel_rfl
theorem t_slices_IndexFunc_int_int : tbl n_slices_IndexFunc_int_int = some c_slices_IndexFunc_int_int := by kernel_rfl
theorem t_slices_pdqsortOrdered_int : tbl n_slices_pdqsortOrdered_int = some c_slices_pdqsortOrdered_int := by kernel_rfl
theorem t_math_bits_Len : tbl n_math_bits_Len = some c_math_bits_Len := by kernel_rfl
theorem t_sector_Of : tbl n_sector_Of = some c_sector_Of := by kernel_rfl
theorem t_sector_fits : tbl n_sector_fits = some c_sector_fits := by kernel_rfl
theorem t_bytes_Clone : tbl n_bytes_Clone = some c_bytes_Clone := by kernel_rfl
theorem t_slices_insertionSortOrdered_int : tbl n_slices_insertionSortOrdered_int = some c_slices_insertionSortOrdered_int := by kernel_rfl
theorem t_slices_heapSortOrdered_int : tbl n_slices_heapSortOrdered_int = some c_slices_heapSortOrdered_int := by kernel_rfl
theorem t_slices_breakPatternsOrdered_int : tbl n_slices_breakPatternsOrdered_int = some c_slices_breakPatternsOrdered_int := by kernel_rfl
theorem t_slices_choosePivotOrdered_int : tbl n_slices_choosePivotOrdered_int = some c_slices_choosePivotOrdered_int := by kernel_rfl
theorem t_slices_reverseRangeOrdered_int : tbl n_slices_reverseRangeOrdered_int = some c_slices_reverseRangeOrdered_int := by kernel_rfl
theorem t_slices_partialInsertionSortOrdered_int : tbl n_slices_partialInsertionSortOrdered_int = some c_slices_partialInsertionSortOrdered_int := by kernel_rfl
theorem t_cmp_Less_int : tbl n_cmp_Less_int = some c_cmp_Less_int := by kernel_rfl
theorem t_slices_partitionEqualOrdered_int : tbl n_slices_partitionEqualOrdered_int = some c_slices_partitionEqualOrdered_int := by kernel_rfl
theorem t_slices_partitionOrdered_int : tbl n_slices_partitionOrdered_int = some c_slices_partitionOrdered_int := by kernel_rfl
theorem t_math_bits_Len32 : tbl n_math_bits_Len32 = some c_math_bits_Len32 := by kernel_rfl
theorem t_math_bits_Len64 : tbl n_math_bits_Len64 = some c_math_bits_Len64 := by kernel_rfl
theorem t_sector_Put : tbl n_sector_Put = some c_sector_Put := by kernel_rfl
theorem t_slices_siftDownOrdered_int : tbl n_slices_siftDownOrdered_int = some c_slices_siftDownOrdered_int := by kernel_rfl
theorem t_slices_nextPowerOfTwo : tbl n_slices_nextPowerOfTwo = some c_slices_nextPowerOfTwo := by kernel_rfl
theorem t_pslices_xorshift_Next : tbl n_pslices_xorshift_Next = some c_pslices_xorshift_Next := by kernel_rfl
theorem t_slices_medianAdjacentOrdered_int : tbl n_slices_medianAdjacentOrdered_int = some c_slices_medianAdjacentOrdered_int := by kernel_rfl
theorem t_slices_medianOrdered_int : tbl n_slices_medianOrdered_int = some c_slices_medianOrdered_int := by kernel_rfl
theorem t_cmp_isNaN_int : tbl n_cmp_isNaN_int = some c_cmp_isNaN_int := by kernel_rfl
theorem t_slices_order2Ordered_int : tbl n_slices_order2Ordered_int = some c_slices_order2Ordered_int := by kernel_rfl

/-- The functions that are taken as given. -/
def noExt : Ext := fun k => if k = n_strings_Trim then some (xTrim) else if k = n_layout_super then some (xSuper) else if k = n_layout_RightInode then some (xRightInode) else none

theorem lt_flotsamlaw07_LayoutInodes : n_flotsamlaw07_LayoutInodes < yBase := Nat.le_of_ble_eq_true rfl
theorem lt_flotsamlaw07_LayoutMounts : n_flotsamlaw07_LayoutMounts < yBase := Nat.le_of_ble_eq_true rfl
theorem lt_flotsamlaw07_LayoutEntries : n_flotsamlaw07_LayoutEntries < yBase := Nat.le_of_ble_eq_true rfl
theorem lt_flotsamlaw07_LayoutBack : n_flotsamlaw07_LayoutBack < yBase := Nat.le_of_ble_eq_true rfl
theorem lt_layout_Inode : n_layout_Inode < yBase := Nat.le_of_ble_eq_true rfl
theorem lt_flotsamref07_Inode : n_flotsamref07_Inode < yBase := Nat.le_of_ble_eq_true rfl
theorem lt_layout_InodeOf : n_layout_InodeOf < yBase := Nat.le_of_ble_eq_true rfl
theorem lt_flotsamref07_InodeOf : n_flotsamref07_InodeOf < yBase := Nat.le_of_ble_eq_true rfl
theorem lt_layout_RightInode : n_layout_RightInode < yBase := Nat.le_of_ble_eq_true rfl
theorem lt_flotsamref07_RightInode : n_flotsamref07_RightInode < yBase := Nat.le_of_ble_eq_true rfl
theorem lt_flotsamlaw07_knows : n_flotsamlaw07_knows < yBase := Nat.le_of_ble_eq_true rfl
theorem lt_flotsamlaw04_Same : n_flotsamlaw04_Same < yBase := Nat.le_of_ble_eq_true rfl
theorem lt_layout_Empty : n_layout_Empty < yBase := Nat.le_of_ble_eq_true rfl
theorem lt_flotsamref07_Empty : n_flotsamref07_Empty < yBase := Nat.le_of_ble_eq_true rfl
theorem lt_layout_Mounts : n_layout_Mounts < yBase := Nat.le_of_ble_eq_true rfl
theorem lt_flotsamref07_Mounts : n_flotsamref07_Mounts < yBase := Nat.le_of_ble_eq_true rfl
theorem lt_layout_Entry : n_layout_Entry < yBase := Nat.le_of_ble_eq_true rfl
theorem lt_flotsamref07_Entry : n_flotsamref07_Entry < yBase := Nat.le_of_ble_eq_true rfl
theorem lt_layout_EntryOf : n_layout_EntryOf < yBase := Nat.le_of_ble_eq_true rfl
theorem lt_flotsamref07_EntryOf : n_flotsamref07_EntryOf < yBase := Nat.le_of_ble_eq_true rfl
theorem lt_layout_RightEntry : n_layout_RightEntry < yBase := Nat.le_of_ble_eq_true rfl
theorem lt_flotsamref07_RightEntry : n_flotsamref07_RightEntry < yBase := Nat.le_of_ble_eq_true rfl
theorem lt_layout_Name : n_layout_Name < yBase := Nat.le_of_ble_eq_true rfl
theorem lt_flotsamref07_Name : n_flotsamref07_Name < yBase := Nat.le_of_ble_eq_true rfl
theorem lt_sector_Torn : n_sector_Torn < yBase := Nat.le_of_ble_eq_true rfl
theorem lt_slices_Clone_int_int : n_slices_Clone_int_int < yBase := Nat.le_of_ble_eq_true rfl
theorem lt_layout_need : n_layout_need < yBase := Nat.le_of_ble_eq_true rfl
theorem lt_layout_RightInode_1 : n_layout_RightInode_1 < yBase := Nat.le_of_ble_eq_true rfl
theorem lt_slices_ContainsFunc_int_int : n_slices_ContainsFunc_int_int < yBase := Nat.le_of_ble_eq_true rfl
theorem lt_layout_RightInode_2 : n_layout_RightInode_2 < yBase := Nat.le_of_ble_eq_true rfl
theorem lt_slices_Sort_int_int : n_slices_Sort_int_int < yBase := Nat.le_of_ble_eq_true rfl
theorem lt_slices_Compact_int_int : n_slices_Compact_int_int < yBase := Nat.le_of_ble_eq_true rfl
theorem lt_flotsamref07_Need : n_flotsamref07_Need < yBase := Nat.le_of_ble_eq_true rfl
theorem lt_flotsamref04_Unlike : n_flotsamref04_Unlike < yBase := Nat.le_of_ble_eq_true rfl
theorem lt_layout_super : n_layout_super < yBase := Nat.le_of_ble_eq_true rfl
theorem lt_flotsamref07_Super : n_flotsamref07_Super < yBase := Nat.le_of_ble_eq_true rfl
theorem lt_sector_Zero : n_sector_Zero < yBase := Nat.le_of_ble_eq_true rfl
theorem lt_sector_Cut : n_sector_Cut < yBase := Nat.le_of_ble_eq_true rfl
theorem lt_layout_RightEntry_1 : n_layout_RightEntry_1 < yBase := Nat.le_of_ble_eq_true rfl
theorem lt_strings_Trim : n_strings_Trim < yBase := Nat.le_of_ble_eq_true rfl
theorem lt_slices_IndexFunc_int_int : n_slices_IndexFunc_int_int < yBase := Nat.le_of_ble_eq_true rfl
theorem lt_slices_pdqsortOrdered_int : n_slices_pdqsortOrdered_int < yBase := Nat.le_of_ble_eq_true rfl
theorem lt_math_bits_Len : n_math_bits_Len < yBase := Nat.le_of_ble_eq_true rfl
theorem lt_sector_Of : n_sector_Of < yBase := Nat.le_of_ble_eq_true rfl
theorem lt_sector_fits : n_sector_fits < yBase := Nat.le_of_ble_eq_true rfl
theorem lt_bytes_Clone : n_bytes_Clone < yBase := Nat.le_of_ble_eq_true rfl
theorem lt_slices_insertionSortOrdered_int : n_slices_insertionSortOrdered_int < yBase := Nat.le_of_ble_eq_true rfl
theorem lt_slices_heapSortOrdered_int : n_slices_heapSortOrdered_int < yBase := Nat.le_of_ble_eq_true rfl
theorem lt_slices_breakPatternsOrdered_int : n_slices_breakPatternsOrdered_int < yBase := Nat.le_of_ble_eq_true rfl
theorem lt_slices_choosePivotOrdered_int : n_slices_choosePivotOrdered_int < yBase := Nat.le_of_ble_eq_true rfl
theorem lt_slices_reverseRangeOrdered_int : n_slices_reverseRangeOrdered_int < yBase := Nat.le_of_ble_eq_true rfl
theorem lt_slices_partialInsertionSortOrdered_int : n_slices_partialInsertionSortOrdered_int < yBase := Nat.le_of_ble_eq_true rfl
theorem lt_cmp_Less_int : n_cmp_Less_int < yBase := Nat.le_of_ble_eq_true rfl
theorem lt_slices_partitionEqualOrdered_int : n_slices_partitionEqualOrdered_int < yBase := Nat.le_of_ble_eq_true rfl
theorem lt_slices_partitionOrdered_int : n_slices_partitionOrdered_int < yBase := Nat.le_of_ble_eq_true rfl
theorem lt_math_bits_Len32 : n_math_bits_Len32 < yBase := Nat.le_of_ble_eq_true rfl
theorem lt_math_bits_Len64 : n_math_bits_Len64 < yBase := Nat.le_of_ble_eq_true rfl
theorem lt_sector_Put : n_sector_Put < yBase := Nat.le_of_ble_eq_true rfl
theorem lt_slices_siftDownOrdered_int : n_slices_siftDownOrdered_int < yBase := Nat.le_of_ble_eq_true rfl
theorem lt_slices_nextPowerOfTwo : n_slices_nextPowerOfTwo < yBase := Nat.le_of_ble_eq_true rfl
theorem lt_pslices_xorshift_Next : n_pslices_xorshift_Next < yBase := Nat.le_of_ble_eq_true rfl
theorem lt_slices_medianAdjacentOrdered_int : n_slices_medianAdjacentOrdered_int < yBase := Nat.le_of_ble_eq_true rfl
theorem lt_slices_medianOrdered_int : n_slices_medianOrdered_int < yBase := Nat.le_of_ble_eq_true rfl
theorem lt_cmp_isNaN_int : n_cmp_isNaN_int < yBase := Nat.le_of_ble_eq_true rfl
theorem lt_slices_order2Ordered_int : n_slices_order2Ordered_int < yBase := Nat.le_of_ble_eq_true rfl

end Go.AM
