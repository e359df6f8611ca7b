/-
  The abstract code of the functions, printed by a program (gen.py) out of the loaded program, and each function's place in the table.
-/
import Derived.Test.YteafmhnbeobboaaDoorXlib
namespace Go.AM

abbrev bT : Nat := 101
abbrev bE : Nat := 5
def n_flotsamlaw34_PackTells : Nat := 3
def n_flotsamlaw34_PackBack : Nat := 4
def n_flotsamlaw32_Few : Nat := 5
def n_flotsamlaw34_knows : Nat := 6
def n_pack_Encode : Nat := 7
def n_flotsamref34_Encode : Nat := 8
def n_pack_Decode : Nat := 9
def n_flotsamref34_Decode : Nat := 10
def n_flotsamref31_Same : Nat := 11
def n_pack_Sum : Nat := 12
def n_flotsamref34_Sum : Nat := 13
def n_score_Right : Nat := 14
def n_flotsamlaw32_One : Nat := 15
def n_ppack_writer_put : Nat := 16
def n_ppack_writer_cells : Nat := 17
def n_pack_seal : Nat := 18
def n_flotsamref32_Right : Nat := 19
def n_flotsamref34_put : Nat := 20
def n_flotsamref34_cells : Nat := 21
def n_bytes_Equal : Nat := 22
def n_ppack_left_number : Nat := 23
def n_ppack_reader_cells : Nat := 24
def n_ppack_reader_site : Nat := 25
def n_pflotsamref34_bytes_take : Nat := 26
def n_pflotsamref34_bytes_cells : Nat := 27
def n_flotsamref30_Same : Nat := 28
def n_score_odd : Nat := 29
def n_cell_Sum : Nat := 30
def n_slices_ContainsFunc_api_Cell_api_Cell : Nat := 31
def n_site_Name : Nat := 32
def n_slices_Contains_api_Site_api_Site : Nat := 33
def n_codec_Uint : Nat := 34
def n_flotsamref32_cells : Nat := 35
def n_flotsamref30_Sum : Nat := 36
def n_flotsamref25_Name : Nat := 37
def n_flotsamref03_Uint : Nat := 38
def n_codec_TakeUint : Nat := 39
def n_ppack_reader_cell : Nat := 40
def n_flotsamref03_TakeUint : Nat := 41
def n_score_odd_1 : Nat := 42
def n_score_count_api_Cell : Nat := 43
def n_cell_Right : Nat := 44
def n_slices_IndexFunc_api_Cell_api_Cell : Nat := 45
def n_site_words : Nat := 46
def n_site_may : Nat := 47
def n_site_Word : Nat := 48
def n_num_Digits : Nat := 49
def n_strings_Join : Nat := 50
def n_slices_Index_api_Site_api_Site : Nat := 51
def n_slices_Clone_byte_byte : Nat := 52
def n_flotsamref30_Right : Nat := 53
def n_flotsamref25_may : Nat := 54
def n_flotsamref25_Word : Nat := 55
def n_flotsamref01_Digits : Nat := 56
def n_bytes_Clone : Nat := 57
def n_cell_witness : Nat := 58
def n_cell_limit : Nat := 59
def n_strings_Fields : Nat := 60


-- flotsam/flotsamlaw34.PackTells
def c_flotsamlaw34_PackTells : AFunc :=
  { np := 2, res := [.t 4], body := (
    .seq (.reg [⟨some 2, none, .box (.t 0)⟩, ⟨some 4, none, .tk (.c (.bool false))⟩])
    (.seq (.seq (.reg [⟨some 13, none, .ld (some 4) (.t 2)⟩, ⟨some 14, none, .callc n_flotsamlaw32_Few [(.t 13)]⟩, ⟨some 15, none, .notb (.t 14)⟩, ⟨some 16, none, .mv (.t 15)⟩, ⟨some 17, (some (16, false)), .mv (.t 1)⟩, ⟨some 18, (some (16, false)), .len false (.t 17)⟩, ⟨some 19, (some (16, false)), .ic .gtr (.t 18) (.c (.int .i64 2000))⟩, ⟨some 20, none, .pick (.t 16) (.c (.bool true)) (.t 19)⟩, ⟨some 21, none, .mv (.t 20)⟩, ⟨some 22, (some (21, false)), .callc n_flotsamlaw34_knows []⟩, ⟨some 23, (some (21, false)), .notb (.t 22)⟩, ⟨some 24, none, .pick (.t 21) (.c (.bool true)) (.t 23)⟩])
      (.cond (.t 24)
        (.seq (.reg [⟨some 25, none, .callc n_flotsamlaw34_knows []⟩, ⟨some 4, none, .tk (.t 25)⟩])
          (.ret))
        (.skip)))
    (.seq (.reg [⟨some 27, none, .ld (some 4) (.t 2)⟩, ⟨some 28, none, .callc n_pack_Encode [(.t 27)]⟩, ⟨some 26, none, .mv (.t 28)⟩, ⟨some 29, none, .ext (.t 26) 0⟩, ⟨some 30, none, .ext (.t 26) 1⟩, ⟨some 5, none, .tk (.t 29)⟩, ⟨some 6, none, .tk (.t 30)⟩])
    (.seq (.reg [⟨some 32, none, .ld (some 4) (.t 2)⟩, ⟨some 33, none, .callc n_flotsamref34_Encode [(.t 32)]⟩, ⟨some 31, none, .mv (.t 33)⟩, ⟨some 34, none, .ext (.t 31) 0⟩, ⟨some 35, none, .ext (.t 31) 1⟩, ⟨some 7, none, .tk (.t 34)⟩, ⟨some 8, none, .tk (.t 35)⟩])
    (.seq (.reg [⟨some 37, none, .mv (.t 1)⟩, ⟨some 38, none, .callc n_pack_Decode [(.t 37)]⟩, ⟨some 36, none, .mv (.t 38)⟩, ⟨some 39, none, .ext (.t 36) 0⟩, ⟨some 40, none, .ext (.t 36) 1⟩, ⟨some 9, none, .alloc [.bool false, .own 6 [], .own 11 [], .own 1 []]⟩, ⟨none, none, .st 4 (.t 9) (.t 39)⟩, ⟨some 10, none, .tk (.t 40)⟩])
    (.seq (.reg [⟨some 42, none, .mv (.t 1)⟩, ⟨some 43, none, .callc n_flotsamref34_Decode [(.t 42)]⟩, ⟨some 41, none, .mv (.t 43)⟩, ⟨some 44, none, .ext (.t 41) 0⟩, ⟨some 45, none, .ext (.t 41) 1⟩, ⟨some 11, none, .alloc [.bool false, .own 6 [], .own 11 [], .own 1 []]⟩, ⟨none, none, .st 4 (.t 11) (.t 44)⟩, ⟨some 12, none, .tk (.t 45)⟩])
    (.seq (.reg [⟨some 46, none, .mv (.t 5)⟩, ⟨some 47, none, .b2s (.t 46)⟩, ⟨some 48, none, .mv (.t 7)⟩, ⟨some 49, none, .b2s (.t 48)⟩, ⟨some 50, none, .sop .eql (.t 47) (.t 49)⟩, ⟨some 51, none, .mv (.t 50)⟩, ⟨some 52, (some (51, true)), .mv (.t 6)⟩, ⟨some 53, (some (51, true)), .mv (.t 8)⟩, ⟨some 54, (some (51, true)), .eqb false (.t 52) (.t 53)⟩, ⟨some 55, none, .pick (.t 51) (.t 54) (.c (.bool false))⟩, ⟨some 56, none, .mv (.t 55)⟩, ⟨some 57, (some (56, true)), .ld (some 4) (.t 9)⟩, ⟨some 58, (some (56, true)), .ld (some 4) (.t 11)⟩, ⟨some 59, (some (56, true)), .callc n_flotsamref31_Same [(.t 57), (.t 58)]⟩, ⟨some 60, none, .pick (.t 56) (.t 59) (.c (.bool false))⟩, ⟨some 61, none, .mv (.t 60)⟩, ⟨some 62, (some (61, true)), .mv (.t 10)⟩, ⟨some 63, (some (61, true)), .mv (.t 12)⟩, ⟨some 64, (some (61, true)), .eqb false (.t 62) (.t 63)⟩, ⟨some 65, none, .pick (.t 61) (.t 64) (.c (.bool false))⟩, ⟨some 66, none, .mv (.t 65)⟩, ⟨some 67, (some (66, true)), .mv (.t 1)⟩, ⟨some 68, (some (66, true)), .callc n_pack_Sum [(.t 67)]⟩, ⟨some 69, (some (66, true)), .mv (.t 1)⟩, ⟨some 70, (some (66, true)), .callc n_flotsamref34_Sum [(.t 69)]⟩, ⟨some 71, (some (66, true)), .ic .eql (.t 68) (.t 70)⟩, ⟨some 72, none, .pick (.t 66) (.t 71) (.c (.bool false))⟩, ⟨some 4, none, .tk (.t 72)⟩])
    (.ret)))))))) }

-- flotsam/flotsamlaw34.PackBack
def c_flotsamlaw34_PackBack : AFunc :=
  { np := 3, res := [.t 6], body := (
    .seq (.reg [⟨some 3, none, .box (.t 0)⟩, ⟨some 4, none, .box (.t 1)⟩, ⟨some 6, none, .tk (.c (.bool false))⟩])
    (.seq (.seq (.reg [⟨some 17, none, .ld (some 4) (.t 3)⟩, ⟨some 18, none, .callc n_flotsamlaw32_Few [(.t 17)]⟩, ⟨some 19, none, .notb (.t 18)⟩, ⟨some 20, none, .mv (.t 19)⟩, ⟨some 21, (some (20, false)), .ld (some 4) (.t 4)⟩, ⟨some 22, (some (20, false)), .callc n_flotsamlaw32_Few [(.t 21)]⟩, ⟨some 23, (some (20, false)), .notb (.t 22)⟩, ⟨some 24, none, .pick (.t 20) (.c (.bool true)) (.t 23)⟩, ⟨some 25, none, .mv (.t 24)⟩, ⟨some 26, (some (25, false)), .mv (.t 2)⟩, ⟨some 27, (some (25, false)), .len false (.t 26)⟩, ⟨some 28, (some (25, false)), .ic .gtr (.t 27) (.c (.int .i64 2000))⟩, ⟨some 29, none, .pick (.t 25) (.c (.bool true)) (.t 28)⟩, ⟨some 30, none, .mv (.t 29)⟩, ⟨some 31, (some (30, false)), .callc n_flotsamlaw34_knows []⟩, ⟨some 32, (some (30, false)), .notb (.t 31)⟩, ⟨some 33, none, .pick (.t 30) (.c (.bool true)) (.t 32)⟩])
      (.cond (.t 33)
        (.seq (.reg [⟨some 34, none, .callc n_flotsamlaw34_knows []⟩, ⟨some 6, none, .tk (.t 34)⟩])
          (.ret))
        (.skip)))
    (.seq (.reg [⟨some 36, none, .ld (some 4) (.t 3)⟩, ⟨some 37, none, .callc n_pack_Encode [(.t 36)]⟩, ⟨some 35, none, .mv (.t 37)⟩, ⟨some 38, none, .ext (.t 35) 0⟩, ⟨some 39, none, .ext (.t 35) 1⟩, ⟨some 7, none, .tk (.t 38)⟩, ⟨some 8, none, .tk (.t 39)⟩])
    (.seq (.reg [⟨some 41, none, .ld (some 4) (.t 4)⟩, ⟨some 42, none, .callc n_pack_Encode [(.t 41)]⟩, ⟨some 40, none, .mv (.t 42)⟩, ⟨some 43, none, .ext (.t 40) 0⟩, ⟨some 44, none, .ext (.t 40) 1⟩, ⟨some 9, none, .tk (.t 43)⟩, ⟨some 10, none, .tk (.t 44)⟩])
    (.seq (.reg [⟨some 46, none, .mv (.t 7)⟩, ⟨some 47, none, .callc n_pack_Decode [(.t 46)]⟩, ⟨some 45, none, .mv (.t 47)⟩, ⟨some 48, none, .ext (.t 45) 0⟩, ⟨some 49, none, .ext (.t 45) 1⟩, ⟨some 11, none, .alloc [.bool false, .own 6 [], .own 11 [], .own 1 []]⟩, ⟨none, none, .st 4 (.t 11) (.t 48)⟩, ⟨some 12, none, .tk (.t 49)⟩])
    (.seq (.reg [⟨some 51, none, .mv (.t 2)⟩, ⟨some 52, none, .callc n_pack_Decode [(.t 51)]⟩, ⟨some 50, none, .mv (.t 52)⟩, ⟨some 53, none, .ext (.t 50) 0⟩, ⟨some 54, none, .ext (.t 50) 1⟩, ⟨some 13, none, .alloc [.bool false, .own 6 [], .own 11 [], .own 1 []]⟩, ⟨none, none, .st 4 (.t 13) (.t 53)⟩, ⟨some 14, none, .tk (.t 54)⟩])
    (.seq (.reg [⟨some 56, none, .ld (some 4) (.t 13)⟩, ⟨some 57, none, .callc n_pack_Encode [(.t 56)]⟩, ⟨some 55, none, .mv (.t 57)⟩, ⟨some 58, none, .ext (.t 55) 0⟩, ⟨some 59, none, .ext (.t 55) 1⟩, ⟨some 15, none, .tk (.t 58)⟩, ⟨some 16, none, .tk (.t 59)⟩])
    (.seq (.seq (.drw [[], [], [], [], [], [], [], [], [], [], [], [], [], [], [], [], [], [], [], [], [], [], [], [], [], [], [], [], [], [], [], [], [], []] [⟨some 60, none, .mv (.t 8)⟩, ⟨some 61, none, .ld (some 4) (.t 3)⟩, ⟨some 62, none, .callc n_score_Right [(.t 61)]⟩, ⟨some 63, none, .eqb true (.t 60) (.t 62)⟩, ⟨some 64, none, .mv (.t 63)⟩, ⟨some 65, (some (64, false)), .mv (.t 8)⟩, ⟨some 66, (some (64, false)), .mv (.t 65)⟩, ⟨some 67, (some (66, true)), .mv (.t 12)⟩, ⟨some 68, (some (66, true)), .notb (.t 67)⟩, ⟨some 69, (some (66, true)), .mv (.t 68)⟩, ⟨some 70, (some (69, false)), .ld (some 4) (.t 11)⟩, ⟨some 71, (some (69, false)), .ld (some 4) (.t 3)⟩, ⟨some 72, (some (69, false)), .callc n_flotsamref31_Same [(.t 70), (.t 71)]⟩, ⟨some 73, (some (69, false)), .notb (.t 72)⟩, ⟨some 74, (some (66, true)), .pick (.t 69) (.c (.bool true)) (.t 73)⟩, ⟨some 75, (some (64, false)), .pick (.t 66) (.t 74) (.c (.bool false))⟩, ⟨some 76, none, .pick (.t 64) (.c (.bool true)) (.t 75)⟩, ⟨some 77, none, .mv (.t 76)⟩, ⟨some 78, (some (77, false)), .mv (.t 8)⟩, ⟨some 79, (some (77, false)), .mv (.t 78)⟩, ⟨some 80, (some (79, true)), .mv (.t 10)⟩, ⟨some 81, (some (77, false)), .pick (.t 79) (.t 80) (.c (.bool false))⟩, ⟨some 82, (some (77, false)), .mv (.t 81)⟩, ⟨some 83, (some (82, true)), .mv (.t 7)⟩, ⟨some 84, (some (82, true)), .b2s (.t 83)⟩, ⟨some 85, (some (82, true)), .mv (.t 9)⟩, ⟨some 86, (some (82, true)), .b2s (.t 85)⟩, ⟨some 87, (some (82, true)), .sop .eql (.t 84) (.t 86)⟩, ⟨some 88, (some (82, true)), .ld (some 4) (.t 3)⟩, ⟨some 89, (some (82, true)), .ld (some 4) (.t 4)⟩, ⟨some 90, (some (82, true)), .callc n_flotsamref31_Same [(.t 88), (.t 89)]⟩, ⟨some 91, (some (82, true)), .eqb true (.t 87) (.t 90)⟩, ⟨some 92, (some (77, false)), .pick (.t 82) (.t 91) (.c (.bool false))⟩, ⟨some 93, none, .pick (.t 77) (.c (.bool true)) (.t 92)⟩])
      (.cond (.t 93)
        (.seq (.reg [⟨some 6, none, .tk (.c (.bool false))⟩])
          (.ret))
        (.skip)))
    (.seq (.reg [⟨some 94, none, .mv (.t 14)⟩, ⟨some 95, none, .notb (.t 94)⟩, ⟨some 96, none, .mv (.t 95)⟩, ⟨some 97, (some (96, true)), .ld (some 4) (.t 13)⟩, ⟨some 98, (some (96, true)), .bld [.bool false, .sl 6 [], .sl 11 [], .sl 1 []] []⟩, ⟨some 99, (some (96, true)), .callc n_flotsamref31_Same [(.t 97), (.t 98)]⟩, ⟨some 100, none, .pick (.t 96) (.t 99) (.c (.bool false))⟩, ⟨some 101, none, .mv (.t 100)⟩, ⟨some 102, (some (101, false)), .mv (.t 14)⟩, ⟨some 103, (some (101, false)), .mv (.t 102)⟩, ⟨some 104, (some (103, true)), .mv (.t 16)⟩, ⟨some 105, (some (101, false)), .pick (.t 103) (.t 104) (.c (.bool false))⟩, ⟨some 106, (some (101, false)), .mv (.t 105)⟩, ⟨some 107, (some (106, true)), .mv (.t 15)⟩, ⟨some 108, (some (106, true)), .b2s (.t 107)⟩, ⟨some 109, (some (106, true)), .mv (.t 2)⟩, ⟨some 110, (some (106, true)), .b2s (.t 109)⟩, ⟨some 111, (some (106, true)), .sop .eql (.t 108) (.t 110)⟩, ⟨some 112, (some (101, false)), .pick (.t 106) (.t 111) (.c (.bool false))⟩, ⟨some 113, (some (101, false)), .mv (.t 112)⟩, ⟨some 114, (some (113, true)), .ld (some 4) (.t 13)⟩, ⟨some 115, (some (113, true)), .callc n_score_Right [(.t 114)]⟩, ⟨some 116, (some (101, false)), .pick (.t 113) (.t 115) (.c (.bool false))⟩, ⟨some 117, none, .pick (.t 101) (.c (.bool true)) (.t 116)⟩, ⟨some 6, none, .tk (.t 117)⟩])
    (.ret)))))))))) }

-- flotsam/flotsamlaw32.Few
def b_flotsamlaw32_Few_0 : AC :=
  .seq (.seq (.reg [⟨some 4, none, .mv (.t 3)⟩, ⟨some 5, none, .fa 3 (.t 1)⟩, ⟨some 6, none, .ld none (.t 5)⟩, ⟨some 7, none, .len false (.t 6)⟩, ⟨some 8, none, .ic .lss (.t 4) (.t 7)⟩, ⟨some 9, none, .mv (.t 8)⟩, ⟨some 10, (some (9, true)), .mv (.t 3)⟩, ⟨some 11, (some (9, true)), .ic .lss (.t 10) (.c (.int .i64 50))⟩, ⟨some 12, none, .pick (.t 9) (.t 11) (.c (.bool false))⟩])
    (.cond (.t 12)
      (.skip)
      (.exit 0)))
  (.seq (.block 1 (.seq (.reg [⟨some 15, none, .fa 3 (.t 1)⟩, ⟨some 16, none, .ld none (.t 15)⟩, ⟨some 17, none, .mv (.t 3)⟩, ⟨some 18, none, .ixa 1 none (.t 16) (.t 17)⟩, ⟨some 19, none, .ld none (.t 18)⟩, ⟨some 20, none, .len false (.t 19)⟩, ⟨some 21, none, .ic .gtr (.t 20) (.c (.int .i64 30))⟩])
      (.cond (.t 21)
        (.seq (.reg [⟨some 2, none, .tk (.c (.bool false))⟩])
          (.ret))
        (.skip))))
  (.reg [⟨some 13, none, .mv (.t 3)⟩, ⟨some 14, none, .ia .add .i64 (.t 13) (.c (.int .i64 1))⟩, ⟨some 3, none, .tk (.t 14)⟩]))

def l_flotsamlaw32_Few_0 : AC :=
  .loop [1, 3] b_flotsamlaw32_Few_0

def r_flotsamlaw32_Few_0 : AC :=
  .seq (.reg [⟨some 22, none, .fa 1 (.t 1)⟩, ⟨some 23, none, .ld none (.t 22)⟩, ⟨some 24, none, .len false (.t 23)⟩, ⟨some 25, none, .ic .leq (.t 24) (.c (.int .i64 30))⟩, ⟨some 26, none, .mv (.t 25)⟩, ⟨some 27, (some (26, true)), .fa 2 (.t 1)⟩, ⟨some 28, (some (26, true)), .ld none (.t 27)⟩, ⟨some 29, (some (26, true)), .len false (.t 28)⟩, ⟨some 30, (some (26, true)), .ic .leq (.t 29) (.c (.int .i64 50))⟩, ⟨some 31, none, .pick (.t 26) (.t 30) (.c (.bool false))⟩, ⟨some 32, none, .mv (.t 31)⟩, ⟨some 33, (some (32, true)), .fa 3 (.t 1)⟩, ⟨some 34, (some (32, true)), .ld none (.t 33)⟩, ⟨some 35, (some (32, true)), .len false (.t 34)⟩, ⟨some 36, (some (32, true)), .ic .leq (.t 35) (.c (.int .i64 50))⟩, ⟨some 37, none, .pick (.t 32) (.t 36) (.c (.bool false))⟩, ⟨some 2, none, .tk (.t 37)⟩])
  (.ret)

def c_flotsamlaw32_Few : AFunc :=
  { np := 1, res := [.t 2], body := (
    .seq (.reg [⟨some 1, none, .box (.t 0)⟩, ⟨some 2, none, .tk (.c (.bool false))⟩])
    (.seq (.seq (.reg [⟨some 3, none, .tk (.c (.int .i64 0))⟩])
      (.block 0 (l_flotsamlaw32_Few_0))) r_flotsamlaw32_Few_0)) }

-- flotsam/flotsamlaw34.knows
def c_flotsamlaw34_knows : AFunc :=
  { np := 0, res := [.t 0], body := (
    .seq (.reg [⟨some 0, none, .tk (.c (.bool false))⟩])
    (.seq (.reg [⟨some 6, none, .callc n_flotsamlaw32_One []⟩, ⟨some 7, none, .callc n_pack_Encode [(.t 6)]⟩, ⟨some 5, none, .mv (.t 7)⟩, ⟨some 8, none, .ext (.t 5) 0⟩, ⟨some 9, none, .ext (.t 5) 1⟩, ⟨some 1, none, .tk (.t 8)⟩, ⟨some 2, none, .tk (.t 9)⟩])
    (.seq (.reg [⟨some 11, none, .mv (.t 1)⟩, ⟨some 12, none, .callc n_pack_Decode [(.t 11)]⟩, ⟨some 10, none, .mv (.t 12)⟩, ⟨some 13, none, .ext (.t 10) 0⟩, ⟨some 14, none, .ext (.t 10) 1⟩, ⟨some 3, none, .alloc [.bool false, .own 6 [], .own 11 [], .own 1 []]⟩, ⟨none, none, .st 4 (.t 3) (.t 13)⟩, ⟨some 4, none, .tk (.t 14)⟩])
    (.seq (.drw [[], [], [], [], [], [], [], [], [], [], [], [], [], [], [], [], [], [], [], [], [], [], [], [], []] [⟨some 15, none, .mv (.t 2)⟩, ⟨some 16, none, .mv (.t 15)⟩, ⟨some 17, (some (16, true)), .mv (.t 4)⟩, ⟨some 18, none, .pick (.t 16) (.t 17) (.c (.bool false))⟩, ⟨some 19, none, .mv (.t 18)⟩, ⟨some 20, (some (19, true)), .mv (.t 1)⟩, ⟨some 21, (some (19, true)), .len false (.t 20)⟩, ⟨some 22, (some (19, true)), .ic .eql (.t 21) (.c (.int .i64 23))⟩, ⟨some 23, none, .pick (.t 19) (.t 22) (.c (.bool false))⟩, ⟨some 24, none, .mv (.t 23)⟩, ⟨some 25, (some (24, true)), .mv (.t 1)⟩, ⟨some 26, (some (24, true)), .sls 1 (.t 25) none (some (.c (.int .i64 14))) none⟩, ⟨some 27, (some (24, true)), .b2s (.t 26)⟩, ⟨some 28, (some (24, true)), .sop .eql (.t 27) (.c (.str [0, 2, 0, 0, 1, 5, 0, 1, 0, 1, 0, 0, 1, 0]))⟩, ⟨some 29, none, .pick (.t 24) (.t 28) (.c (.bool false))⟩, ⟨some 30, none, .mv (.t 29)⟩, ⟨some 31, (some (30, true)), .ld (some 4) (.t 3)⟩, ⟨some 32, (some (30, true)), .callc n_flotsamlaw32_One []⟩, ⟨some 33, (some (30, true)), .callc n_flotsamref31_Same [(.t 31), (.t 32)]⟩, ⟨some 34, none, .pick (.t 30) (.t 33) (.c (.bool false))⟩, ⟨some 35, none, .mv (.t 34)⟩, ⟨some 36, (some (35, true)), .callc n_pack_Sum [(.c (.own 1 []))]⟩, ⟨some 37, (some (35, true)), .ic .eql (.t 36) (.c (.int .u64 14695981039346656037))⟩, ⟨some 38, none, .pick (.t 35) (.t 37) (.c (.bool false))⟩, ⟨some 0, none, .tk (.t 38)⟩])
    (.ret))))) }

-- flotsam/pack.Encode
def b_pack_Encode_0 : AC :=
  .seq (.reg [⟨some 40, none, .ic .lss (.t 39) (.t 38)⟩])
  (.seq (.cond (.t 40)
      (.skip)
      (.exit 0))
  (.seq (.block 1 (.seq (.reg [⟨some 41, none, .mv (.t 39)⟩, ⟨some 42, none, .ixa 11 none (.t 37) (.t 39)⟩, ⟨some 43, none, .ld (some 11) (.t 42)⟩, ⟨some 6, none, .alloc [.int .i64 0, .int .i64 0, .int .i64 0, .int .i64 0, .int .i64 0, .int .i64 0, .int .i64 0, .int .i64 0, .int .i64 0, .int .i64 0, .int .i64 0]⟩, ⟨some 5, none, .tk (.t 41)⟩, ⟨none, none, .st 11 (.t 6) (.t 43)⟩])
      (.seq (.reg [⟨some 44, none, .mv (.t 4)⟩, ⟨some 45, none, .fa 0 (.t 6)⟩, ⟨some 46, none, .ld none (.t 45)⟩, ⟨some 47, none, .fa 1 (.t 6)⟩, ⟨some 48, none, .ld none (.t 47)⟩, ⟨some 49, none, .fa 10 (.t 6)⟩, ⟨some 50, none, .ld none (.t 49)⟩, ⟨some 51, none, .bsl 1 [.int .i64 0] 3 [(0, 1, (.t 46)), (1, 1, (.t 48)), (2, 1, (.t 50))] false⟩, ⟨some 52, none, .call n_ppack_writer_put [(.t 44), (.t 51)]⟩])
      (.seq (.reg [⟨some 53, none, .mv (.t 4)⟩, ⟨some 54, none, .fa 2 (.t 6)⟩, ⟨some 55, none, .fa 10 (.t 6)⟩, ⟨some 56, none, .ld none (.t 55)⟩, ⟨some 57, none, .slp 1 8 (.t 54) none (some (.t 56)) none⟩, ⟨some 58, none, .call n_ppack_writer_put [(.t 53), (.t 57)]⟩])
      (.reg [⟨some 59, none, .mv (.t 4)⟩, ⟨some 60, none, .fa 3 (.t 1)⟩, ⟨some 61, none, .ld none (.t 60)⟩, ⟨some 62, none, .mv (.t 5)⟩, ⟨some 63, none, .ixa 1 none (.t 61) (.t 62)⟩, ⟨some 64, none, .ld none (.t 63)⟩, ⟨some 65, none, .call n_ppack_writer_cells [(.t 59), (.t 64)]⟩])))))
  (.reg [⟨some 66, none, .ia .add .i64 (.t 39) (.c (.int .i64 1))⟩, ⟨some 39, none, .mv (.t 66)⟩])))

def l_pack_Encode_0 : AC :=
  .loop [1, 4, 37, 38, 39] b_pack_Encode_0

def r_pack_Encode_0 : AC :=
  .seq (.drw [[], [], [], [], [], [], [], [], [], [], [], [], []] [⟨some 67, none, .mv (.t 4)⟩, ⟨some 68, none, .nck (.t 67)⟩, ⟨some 69, none, .fa 0 (.t 68)⟩, ⟨some 70, none, .ldo (.t 69)⟩, ⟨some 71, none, .mv (.t 4)⟩, ⟨some 72, none, .nck (.t 71)⟩, ⟨some 73, none, .fa 0 (.t 72)⟩, ⟨some 74, none, .ld none (.t 73)⟩, ⟨some 75, none, .callc n_pack_Sum [(.t 74)]⟩, ⟨some 76, none, .callc n_pack_seal [(.t 75)]⟩, ⟨some 77, none, .app 1 1 (.t 70) (.t 76) false⟩, ⟨some 2, none, .tk (.t 77)⟩, ⟨some 3, none, .tk (.c (.bool true))⟩])
  (.ret)

def c_pack_Encode : AFunc :=
  { np := 1, res := [.t 2, .t 3], body := (
    .seq (.reg [⟨some 1, none, .box (.t 0)⟩, ⟨some 2, none, .tk (.c (.own 1 []))⟩, ⟨some 3, none, .tk (.c (.bool false))⟩])
    (.seq (.seq (.reg [⟨some 7, none, .ld (some 4) (.t 1)⟩, ⟨some 8, none, .callc n_score_Right [(.t 7)]⟩, ⟨some 9, none, .notb (.t 8)⟩])
      (.cond (.t 9)
        (.seq (.reg [⟨some 2, none, .tk (.c (.own 1 []))⟩, ⟨some 3, none, .tk (.c (.bool false))⟩])
          (.ret))
        (.skip)))
    (.seq (.reg [⟨some 10, none, .bld [.nils 1] []⟩, ⟨some 11, none, .box (.t 10)⟩, ⟨some 4, none, .tk (.t 11)⟩])
    (.seq (.seq (.reg [⟨some 12, none, .fa 0 (.t 1)⟩, ⟨some 13, none, .ld none (.t 12)⟩])
      (.cond (.t 13)
        (.reg [⟨some 14, none, .mv (.t 4)⟩, ⟨some 15, none, .bsl 1 [.int .i64 0] 1 [(0, 1, (.c (.int .i64 1)))] false⟩, ⟨some 16, none, .call n_ppack_writer_put [(.t 14), (.t 15)]⟩])
        (.reg [⟨some 17, none, .mv (.t 4)⟩, ⟨some 18, none, .bsl 1 [.int .i64 0] 1 [(0, 1, (.c (.int .i64 0)))] false⟩, ⟨some 19, none, .call n_ppack_writer_put [(.t 17), (.t 18)]⟩])))
    (.seq (.reg [⟨some 20, none, .mv (.t 4)⟩, ⟨some 21, none, .fa 1 (.t 1)⟩, ⟨some 22, none, .ld none (.t 21)⟩, ⟨some 23, none, .len false (.t 22)⟩, ⟨some 24, none, .bsl 1 [.int .i64 0] 1 [(0, 1, (.t 23))] false⟩, ⟨some 25, none, .call n_ppack_writer_put [(.t 20), (.t 24)]⟩])
    (.seq (.reg [⟨some 26, none, .mv (.t 4)⟩, ⟨some 27, none, .fa 1 (.t 1)⟩, ⟨some 28, none, .ld none (.t 27)⟩, ⟨some 29, none, .call n_ppack_writer_cells [(.t 26), (.t 28)]⟩])
    (.seq (.reg [⟨some 30, none, .mv (.t 4)⟩, ⟨some 31, none, .fa 2 (.t 1)⟩, ⟨some 32, none, .ld none (.t 31)⟩, ⟨some 33, none, .len false (.t 32)⟩, ⟨some 34, none, .bsl 1 [.int .i64 0] 1 [(0, 1, (.t 33))] false⟩, ⟨some 35, none, .call n_ppack_writer_put [(.t 30), (.t 34)]⟩])
    (.seq (.seq (.reg [⟨some 36, none, .fa 2 (.t 1)⟩, ⟨some 37, none, .ld none (.t 36)⟩, ⟨some 38, none, .len false (.t 37)⟩, ⟨some 39, none, .mv (.c (.int .i64 0))⟩])
      (.block 0 (l_pack_Encode_0))) r_pack_Encode_0)))))))) }

-- flotsam/flotsamref34.Encode
def b_flotsamref34_Encode_0 : AC :=
  .seq (.seq (.reg [⟨some 55, none, .mv (.t 7)⟩, ⟨some 56, none, .fa 10 (.t 6)⟩, ⟨some 57, none, .ld none (.t 56)⟩, ⟨some 58, none, .ic .lss (.t 55) (.t 57)⟩])
    (.cond (.t 58)
      (.skip)
      (.exit 2)))
  (.seq (.block 3 (.reg [⟨some 61, none, .mv (.t 4)⟩, ⟨some 62, none, .mv (.t 7)⟩, ⟨some 63, none, .fa 2 (.t 6)⟩, ⟨some 64, none, .ixa 1 (some 8) (.t 63) (.t 62)⟩, ⟨some 65, none, .ld none (.t 64)⟩, ⟨some 66, none, .callc n_flotsamref34_put [(.t 61), (.t 65)]⟩, ⟨some 4, none, .tk (.t 66)⟩]))
  (.reg [⟨some 59, none, .mv (.t 7)⟩, ⟨some 60, none, .ia .add .i64 (.t 59) (.c (.int .i64 1))⟩, ⟨some 7, none, .tk (.t 60)⟩]))

def l_flotsamref34_Encode_0 : AC :=
  .loop [1, 4, 5, 6, 7] b_flotsamref34_Encode_0

def r_flotsamref34_Encode_0 : AC :=
  .reg [⟨some 67, none, .tk (.t 4)⟩, ⟨some 68, none, .fa 3 (.t 1)⟩, ⟨some 69, none, .ld none (.t 68)⟩, ⟨some 70, none, .mv (.t 5)⟩, ⟨some 71, none, .ixa 1 none (.t 69) (.t 70)⟩, ⟨some 72, none, .ld none (.t 71)⟩, ⟨some 73, none, .call n_flotsamref34_cells [(.t 67), (.t 72)]⟩, ⟨some 4, none, .tk (.t 73)⟩]

def r_flotsamref34_Encode_1 : AC :=
  .reg [⟨some 36, none, .mv (.t 5)⟩, ⟨some 37, none, .ia .add .i64 (.t 36) (.c (.int .i64 1))⟩, ⟨some 5, none, .tk (.t 37)⟩]

def b_flotsamref34_Encode_1 : AC :=
  .seq (.seq (.reg [⟨some 31, none, .mv (.t 5)⟩, ⟨some 32, none, .fa 2 (.t 1)⟩, ⟨some 33, none, .ld none (.t 32)⟩, ⟨some 34, none, .len false (.t 33)⟩, ⟨some 35, none, .ic .lss (.t 31) (.t 34)⟩])
    (.cond (.t 35)
      (.skip)
      (.exit 0)))
  (.seq (.block 1 (.seq (.reg [⟨some 38, none, .fa 2 (.t 1)⟩, ⟨some 39, none, .ld none (.t 38)⟩, ⟨some 40, none, .mv (.t 5)⟩, ⟨some 41, none, .ixa 11 none (.t 39) (.t 40)⟩, ⟨some 42, none, .ld (some 11) (.t 41)⟩, ⟨some 6, none, .alloc [.int .i64 0, .int .i64 0, .int .i64 0, .int .i64 0, .int .i64 0, .int .i64 0, .int .i64 0, .int .i64 0, .int .i64 0, .int .i64 0, .int .i64 0]⟩, ⟨none, none, .st 11 (.t 6) (.t 42)⟩])
      (.seq (.reg [⟨some 43, none, .mv (.t 4)⟩, ⟨some 44, none, .fa 0 (.t 6)⟩, ⟨some 45, none, .ld none (.t 44)⟩, ⟨some 46, none, .callc n_flotsamref34_put [(.t 43), (.t 45)]⟩, ⟨some 4, none, .tk (.t 46)⟩])
      (.seq (.reg [⟨some 47, none, .mv (.t 4)⟩, ⟨some 48, none, .fa 1 (.t 6)⟩, ⟨some 49, none, .ld none (.t 48)⟩, ⟨some 50, none, .callc n_flotsamref34_put [(.t 47), (.t 49)]⟩, ⟨some 4, none, .tk (.t 50)⟩])
      (.seq (.reg [⟨some 51, none, .mv (.t 4)⟩, ⟨some 52, none, .fa 10 (.t 6)⟩, ⟨some 53, none, .ld none (.t 52)⟩, ⟨some 54, none, .callc n_flotsamref34_put [(.t 51), (.t 53)]⟩, ⟨some 4, none, .tk (.t 54)⟩])
      (.seq (.seq (.reg [⟨some 7, none, .tk (.c (.int .i64 0))⟩])
        (.block 2 (l_flotsamref34_Encode_0))) r_flotsamref34_Encode_0)))))) r_flotsamref34_Encode_1)

def l_flotsamref34_Encode_1 : AC :=
  .loop [1, 4, 5] b_flotsamref34_Encode_1

def b_flotsamref34_Encode_2 : AC :=
  .seq (.seq (.reg [⟨some 76, none, .mv (.t 9)⟩, ⟨some 77, none, .ic .lss (.t 76) (.c (.int .i64 8))⟩])
    (.cond (.t 77)
      (.skip)
      (.exit 4)))
  (.seq (.block 5 (.reg [⟨some 80, none, .tk (.t 4)⟩, ⟨some 81, none, .mv (.t 8)⟩, ⟨some 82, none, .mv (.t 9)⟩, ⟨some 83, none, .ia .mul .i64 (.c (.int .i64 8)) (.t 82)⟩, ⟨some 84, none, .ia .sub .i64 (.c (.int .i64 56)) (.t 83)⟩, ⟨some 85, none, .ia .shr .u64 (.t 81) (.t 84)⟩, ⟨some 86, none, .conv .u8 (.t 85)⟩, ⟨some 87, none, .bsl 1 [.int .u8 0] 1 [(0, 1, (.t 86))] false⟩, ⟨some 88, none, .app 1 1 (.t 80) (.t 87) false⟩, ⟨some 4, none, .tk (.t 88)⟩]))
  (.reg [⟨some 78, none, .mv (.t 9)⟩, ⟨some 79, none, .ia .add .i64 (.t 78) (.c (.int .i64 1))⟩, ⟨some 9, none, .tk (.t 79)⟩]))

def l_flotsamref34_Encode_2 : AC :=
  .loop [4, 8, 9] b_flotsamref34_Encode_2

def r_flotsamref34_Encode_2 : AC :=
  .seq (.reg [⟨some 89, none, .tk (.t 4)⟩, ⟨some 2, none, .tk (.t 89)⟩, ⟨some 3, none, .tk (.c (.bool true))⟩])
  (.ret)

def r_flotsamref34_Encode_3 : AC :=
  .seq (.reg [⟨some 74, none, .mv (.t 4)⟩, ⟨some 75, none, .callc n_flotsamref34_Sum [(.t 74)]⟩, ⟨some 8, none, .tk (.t 75)⟩])
  (.seq (.seq (.reg [⟨some 9, none, .tk (.c (.int .i64 0))⟩])
    (.block 4 (l_flotsamref34_Encode_2))) r_flotsamref34_Encode_2)

def c_flotsamref34_Encode : AFunc :=
  { np := 1, res := [.t 2, .t 3], body := (
    .seq (.reg [⟨some 1, none, .box (.t 0)⟩, ⟨some 2, none, .tk (.c (.own 1 []))⟩, ⟨some 3, none, .tk (.c (.bool false))⟩])
    (.seq (.seq (.reg [⟨some 10, none, .ld (some 4) (.t 1)⟩, ⟨some 11, none, .callc n_flotsamref32_Right [(.t 10)]⟩, ⟨some 12, none, .notb (.t 11)⟩])
      (.cond (.t 12)
        (.seq (.reg [⟨some 2, none, .tk (.c (.own 1 []))⟩, ⟨some 3, none, .tk (.c (.bool false))⟩])
          (.ret))
        (.skip)))
    (.seq (.reg [⟨some 13, none, .callc n_flotsamref34_put [(.c (.own 1 [])), (.c (.int .i64 0))]⟩, ⟨some 4, none, .tk (.t 13)⟩])
    (.seq (.seq (.reg [⟨some 14, none, .fa 0 (.t 1)⟩, ⟨some 15, none, .ld none (.t 14)⟩])
      (.cond (.t 15)
        (.reg [⟨some 16, none, .callc n_flotsamref34_put [(.c (.own 1 [])), (.c (.int .i64 1))]⟩, ⟨some 4, none, .tk (.t 16)⟩])
        (.skip)))
    (.seq (.reg [⟨some 17, none, .mv (.t 4)⟩, ⟨some 18, none, .fa 1 (.t 1)⟩, ⟨some 19, none, .ld none (.t 18)⟩, ⟨some 20, none, .len false (.t 19)⟩, ⟨some 21, none, .callc n_flotsamref34_put [(.t 17), (.t 20)]⟩, ⟨some 4, none, .tk (.t 21)⟩])
    (.seq (.reg [⟨some 22, none, .tk (.t 4)⟩, ⟨some 23, none, .fa 1 (.t 1)⟩, ⟨some 24, none, .ld none (.t 23)⟩, ⟨some 25, none, .call n_flotsamref34_cells [(.t 22), (.t 24)]⟩, ⟨some 4, none, .tk (.t 25)⟩])
    (.seq (.reg [⟨some 26, none, .mv (.t 4)⟩, ⟨some 27, none, .fa 2 (.t 1)⟩, ⟨some 28, none, .ld none (.t 27)⟩, ⟨some 29, none, .len false (.t 28)⟩, ⟨some 30, none, .callc n_flotsamref34_put [(.t 26), (.t 29)]⟩, ⟨some 4, none, .tk (.t 30)⟩])
    (.seq (.seq (.reg [⟨some 5, none, .tk (.c (.int .i64 0))⟩])
      (.block 0 (l_flotsamref34_Encode_1))) r_flotsamref34_Encode_3)))))))) }

-- flotsam/pack.Decode
def b_pack_Decode_0 : AC :=
  .seq (.reg [⟨some 55, none, .ic .lss (.t 54) (.t 53)⟩])
  (.seq (.cond (.t 55)
      (.skip)
      (.exit 0))
  (.seq (.block 1 (.seq (.seq (.reg [⟨some 56, none, .mv (.t 5)⟩, ⟨some 57, none, .nck (.t 56)⟩, ⟨some 58, none, .fa 0 (.t 57)⟩, ⟨some 59, none, .fa 1 (.t 58)⟩, ⟨some 60, none, .ld none (.t 59)⟩, ⟨some 61, none, .notb (.t 60)⟩])
        (.cond (.t 61)
          (.exit 0)
          (.skip)))
      (.seq (.drw [[], [], [], [], [], [], [], []] [⟨some 62, none, .fa 2 (.t 6)⟩, ⟨some 63, none, .ldoq (.t 62) (.t 6)⟩, ⟨some 64, none, .mv (.t 5)⟩, ⟨some 65, none, .callh n_ppack_reader_site [(.t 64)] (.t 6)⟩, ⟨some 66, none, .bsl 11 [.int .i64 0, .int .i64 0, .int .i64 0, .int .i64 0, .int .i64 0, .int .i64 0, .int .i64 0, .int .i64 0, .int .i64 0, .int .i64 0, .int .i64 0] 1 [(0, 11, (.t 65))] false⟩, ⟨some 67, none, .app 11 88 (.t 63) (.t 66) false⟩, ⟨some 68, none, .fa 2 (.t 6)⟩, ⟨none, none, .st 1 (.t 68) (.t 67)⟩])
      (.drw [[], [], [], [], [], [], [], []] [⟨some 69, none, .fa 3 (.t 6)⟩, ⟨some 70, none, .ldoq (.t 69) (.t 6)⟩, ⟨some 71, none, .mv (.t 5)⟩, ⟨some 72, none, .callh n_ppack_reader_cells [(.t 71)] (.t 6)⟩, ⟨some 73, none, .bsl 1 [.sl 6 []] 1 [(0, 1, (.t 72))] false⟩, ⟨some 74, none, .app 1 24 (.t 70) (.t 73) false⟩, ⟨some 75, none, .fa 3 (.t 6)⟩, ⟨none, none, .st 1 (.t 75) (.t 74)⟩]))))
  (.reg [⟨some 76, none, .ia .add .i64 (.t 54) (.c (.int .i64 1))⟩, ⟨some 54, none, .mv (.t 76)⟩])))

def l_pack_Decode_0 : AC :=
  .loop [0, 2, 5, 6, 53, 54] b_pack_Decode_0

def r_pack_Decode_0 : AC :=
  .seq (.seq (.reg [⟨some 78, none, .ld (some 4) (.t 6)⟩, ⟨some 79, none, .callc n_pack_Encode [(.t 78)]⟩, ⟨some 77, none, .mv (.t 79)⟩, ⟨some 80, none, .ext (.t 77) 0⟩, ⟨some 81, none, .ext (.t 77) 1⟩, ⟨some 7, none, .tk (.t 80)⟩, ⟨some 8, none, .tk (.t 81)⟩])
    (.seq (.reg [⟨some 82, none, .mv (.t 5)⟩, ⟨some 83, none, .nck (.t 82)⟩, ⟨some 84, none, .fa 0 (.t 83)⟩, ⟨some 85, none, .fa 1 (.t 84)⟩, ⟨some 86, none, .ld none (.t 85)⟩, ⟨some 87, none, .notb (.t 86)⟩, ⟨some 88, none, .mv (.t 87)⟩, ⟨some 89, (some (88, false)), .mv (.t 8)⟩, ⟨some 90, (some (88, false)), .notb (.t 89)⟩, ⟨some 91, none, .pick (.t 88) (.c (.bool true)) (.t 90)⟩, ⟨some 92, none, .mv (.t 91)⟩, ⟨some 93, (some (92, false)), .mv (.t 7)⟩, ⟨some 94, (some (92, false)), .mv (.t 0)⟩, ⟨some 95, (some (92, false)), .callc n_bytes_Equal [(.t 93), (.t 94)]⟩, ⟨some 96, (some (92, false)), .notb (.t 95)⟩, ⟨some 97, none, .pick (.t 92) (.c (.bool true)) (.t 96)⟩])
    (.cond (.t 97)
      (.seq (.reg [⟨some 98, none, .bld [.bool false, .sl 6 [], .nils 11, .nils 1] []⟩, ⟨none, none, .st 4 (.t 2) (.t 98)⟩, ⟨some 3, none, .tk (.c (.bool false))⟩])
        (.ret))
      (.skip))))
  (.seq (.reg [⟨some 99, none, .ld (some 4) (.t 6)⟩, ⟨none, none, .st 4 (.t 2) (.t 99)⟩, ⟨some 3, none, .tk (.c (.bool true))⟩])
  (.ret))

def c_pack_Decode : AFunc :=
  { np := 1, res := [.cell 2 (some 4), .t 3], body := (
    .seq (.reg [⟨some 2, none, .alloc [.bool false, .own 6 [], .own 11 [], .own 1 []]⟩, ⟨some 3, none, .tk (.c (.bool false))⟩])
    (.seq (.reg [⟨some 9, none, .mv (.t 0)⟩, ⟨some 10, none, .len false (.t 9)⟩, ⟨some 11, none, .ia .sub .i64 (.t 10) (.c (.int .i64 8))⟩, ⟨some 4, none, .tk (.t 11)⟩])
    (.seq (.seq (.drw [[], [], [], [], [], [], [], [], [], [], [], [], [], []] [⟨some 12, none, .mv (.t 4)⟩, ⟨some 13, none, .ic .lss (.t 12) (.c (.int .i64 0))⟩, ⟨some 14, none, .mv (.t 13)⟩, ⟨some 15, (some (14, false)), .mv (.t 0)⟩, ⟨some 16, (some (14, false)), .mv (.t 4)⟩, ⟨some 17, (some (14, false)), .sls 1 (.t 15) (some (.t 16)) none none⟩, ⟨some 18, (some (14, false)), .mv (.t 0)⟩, ⟨some 19, (some (14, false)), .mv (.t 4)⟩, ⟨some 20, (some (14, false)), .sls 1 (.t 18) none (some (.t 19)) none⟩, ⟨some 21, (some (14, false)), .callc n_pack_Sum [(.t 20)]⟩, ⟨some 22, (some (14, false)), .callc n_pack_seal [(.t 21)]⟩, ⟨some 23, (some (14, false)), .callc n_bytes_Equal [(.t 17), (.t 22)]⟩, ⟨some 24, (some (14, false)), .notb (.t 23)⟩, ⟨some 25, none, .pick (.t 14) (.c (.bool true)) (.t 24)⟩])
      (.cond (.t 25)
        (.seq (.reg [⟨some 26, none, .bld [.bool false, .sl 6 [], .nils 11, .nils 1] []⟩, ⟨none, none, .st 4 (.t 2) (.t 26)⟩, ⟨some 3, none, .tk (.c (.bool false))⟩])
          (.ret))
        (.skip)))
    (.seq (.reg [⟨some 27, none, .mv (.t 0)⟩, ⟨some 28, none, .mv (.t 4)⟩, ⟨some 29, none, .sls 1 (.t 27) none (some (.t 28)) none⟩, ⟨some 30, none, .bld [.sl 1 [], .bool false] [(0, 1, (.t 29)), (1, 1, (.c (.bool true)))]⟩, ⟨some 31, none, .bld [.sl 1 [], .bool false, .int .i64 0] [(0, 2, (.t 30))]⟩, ⟨some 32, none, .box (.t 31)⟩, ⟨some 5, none, .tk (.t 32)⟩])
    (.seq (.reg [⟨some 33, none, .mv (.t 5)⟩, ⟨some 34, none, .nck (.t 33)⟩, ⟨some 35, none, .fa 0 (.t 34)⟩, ⟨some 36, none, .call n_ppack_left_number [(.t 35)]⟩, ⟨some 37, none, .ic .eql (.t 36) (.c (.int .i64 1))⟩, ⟨some 38, none, .bld [.bool false, .sl 6 [], .nils 11, .nils 1] [(0, 1, (.t 37))]⟩, ⟨some 6, none, .alloc [.bool false, .own 6 [], .own 11 [], .own 1 []]⟩, ⟨none, none, .st 4 (.t 6) (.t 38)⟩])
    (.seq (.reg [⟨some 39, none, .mv (.t 5)⟩, ⟨some 40, none, .mv (.t 5)⟩, ⟨some 41, none, .nck (.t 40)⟩, ⟨some 42, none, .fa 0 (.t 41)⟩, ⟨some 43, none, .call n_ppack_left_number [(.t 42)]⟩, ⟨some 44, none, .mx false [(.t 43), (.c (.int .i64 17))]⟩, ⟨some 45, none, .nck (.t 39)⟩, ⟨some 46, none, .fa 2 (.t 45)⟩, ⟨none, none, .st 1 (.t 46) (.t 44)⟩])
    (.seq (.reg [⟨some 47, none, .mv (.t 5)⟩, ⟨some 48, none, .call n_ppack_reader_cells [(.t 47)]⟩, ⟨some 49, none, .fa 1 (.t 6)⟩, ⟨none, none, .st 1 (.t 49) (.t 48)⟩])
    (.seq (.seq (.reg [⟨some 50, none, .mv (.t 5)⟩, ⟨some 51, none, .nck (.t 50)⟩, ⟨some 52, none, .fa 0 (.t 51)⟩, ⟨some 53, none, .call n_ppack_left_number [(.t 52)]⟩, ⟨some 54, none, .mv (.c (.int .i64 0))⟩])
      (.block 0 (l_pack_Decode_0))) r_pack_Decode_0)))))))) }

-- flotsam/flotsamref34.Decode
def b_flotsamref34_Decode_0 : AC :=
  .seq (.seq (.reg [⟨some 57, none, .mv (.t 10)⟩, ⟨some 58, none, .fa 10 (.t 9)⟩, ⟨some 59, none, .ld none (.t 58)⟩, ⟨some 60, none, .ic .lss (.t 57) (.t 59)⟩])
    (.cond (.t 60)
      (.skip)
      (.exit 2)))
  (.seq (.block 3 (.reg [⟨some 63, none, .mv (.t 10)⟩, ⟨some 64, none, .mv (.t 4)⟩, ⟨some 65, none, .call n_pflotsamref34_bytes_take [(.t 64)]⟩, ⟨some 66, none, .fa 2 (.t 9)⟩, ⟨some 67, none, .ixa 1 (some 8) (.t 66) (.t 63)⟩, ⟨none, none, .st 1 (.t 67) (.t 65)⟩]))
  (.reg [⟨some 61, none, .mv (.t 10)⟩, ⟨some 62, none, .ia .add .i64 (.t 61) (.c (.int .i64 1))⟩, ⟨some 10, none, .tk (.t 62)⟩]))

def l_flotsamref34_Decode_0 : AC :=
  .loop [0, 2, 4, 5, 6, 7, 8, 9, 10] b_flotsamref34_Decode_0

def r_flotsamref34_Decode_0 : AC :=
  .seq (.reg [⟨some 68, none, .mv (.t 4)⟩, ⟨some 69, none, .mv (.t 6)⟩, ⟨some 70, none, .call n_pflotsamref34_bytes_cells [(.t 68), (.t 69)]⟩, ⟨some 11, none, .tk (.t 70)⟩])
  (.seq (.reg [⟨some 71, none, .fa 2 (.t 5)⟩, ⟨some 72, none, .ldo (.t 71)⟩, ⟨some 73, none, .ld (some 11) (.t 9)⟩, ⟨some 74, none, .bsl 11 [.int .i64 0, .int .i64 0, .int .i64 0, .int .i64 0, .int .i64 0, .int .i64 0, .int .i64 0, .int .i64 0, .int .i64 0, .int .i64 0, .int .i64 0] 1 [(0, 11, (.t 73))] false⟩, ⟨some 75, none, .app 11 88 (.t 72) (.t 74) false⟩, ⟨some 76, none, .fa 2 (.t 5)⟩, ⟨none, none, .st 1 (.t 76) (.t 75)⟩])
  (.reg [⟨some 77, none, .fa 3 (.t 5)⟩, ⟨some 78, none, .ldo (.t 77)⟩, ⟨some 79, none, .mv (.t 11)⟩, ⟨some 80, none, .bsl 1 [.sl 6 []] 1 [(0, 1, (.t 79))] false⟩, ⟨some 81, none, .app 1 24 (.t 78) (.t 80) false⟩, ⟨some 82, none, .fa 3 (.t 5)⟩, ⟨none, none, .st 1 (.t 82) (.t 81)⟩]))

def r_flotsamref34_Decode_1 : AC :=
  .reg [⟨some 42, none, .mv (.t 8)⟩, ⟨some 43, none, .ia .add .i64 (.t 42) (.c (.int .i64 1))⟩, ⟨some 8, none, .tk (.t 43)⟩]

def b_flotsamref34_Decode_1 : AC :=
  .seq (.seq (.reg [⟨some 32, none, .mv (.t 8)⟩, ⟨some 33, none, .mv (.t 7)⟩, ⟨some 34, none, .ic .lss (.t 32) (.t 33)⟩, ⟨some 35, none, .mv (.t 34)⟩, ⟨some 36, (some (35, true)), .mv (.t 4)⟩, ⟨some 37, (some (35, true)), .nck (.t 36)⟩, ⟨some 38, (some (35, true)), .fa 1 (.t 37)⟩, ⟨some 39, (some (35, true)), .ld none (.t 38)⟩, ⟨some 40, (some (35, true)), .notb (.t 39)⟩, ⟨some 41, none, .pick (.t 35) (.t 40) (.c (.bool false))⟩])
    (.cond (.t 41)
      (.skip)
      (.exit 0)))
  (.seq (.block 1 (.seq (.reg [⟨some 44, none, .mv (.t 4)⟩, ⟨some 45, none, .call n_pflotsamref34_bytes_take [(.t 44)]⟩, ⟨some 46, none, .bld [.int .i64 0, .int .i64 0, .int .i64 0, .int .i64 0, .int .i64 0, .int .i64 0, .int .i64 0, .int .i64 0, .int .i64 0, .int .i64 0, .int .i64 0] [(0, 1, (.t 45))]⟩, ⟨some 9, none, .alloc [.int .i64 0, .int .i64 0, .int .i64 0, .int .i64 0, .int .i64 0, .int .i64 0, .int .i64 0, .int .i64 0, .int .i64 0, .int .i64 0, .int .i64 0]⟩, ⟨none, none, .st 11 (.t 9) (.t 46)⟩])
      (.seq (.reg [⟨some 47, none, .mv (.t 4)⟩, ⟨some 48, none, .call n_pflotsamref34_bytes_take [(.t 47)]⟩, ⟨some 49, none, .fa 1 (.t 9)⟩, ⟨none, none, .st 1 (.t 49) (.t 48)⟩])
      (.seq (.reg [⟨some 50, none, .mv (.t 4)⟩, ⟨some 51, none, .call n_pflotsamref34_bytes_take [(.t 50)]⟩, ⟨some 52, none, .fa 10 (.t 9)⟩, ⟨none, none, .st 1 (.t 52) (.t 51)⟩])
      (.seq (.seq (.reg [⟨some 53, none, .fa 10 (.t 9)⟩, ⟨some 54, none, .ld none (.t 53)⟩, ⟨some 55, none, .ic .gtr (.t 54) (.c (.int .i64 8))⟩])
        (.cond (.t 55)
          (.seq (.reg [⟨some 56, none, .bld [.bool false, .sl 6 [], .nils 11, .nils 1] []⟩, ⟨none, none, .st 4 (.t 2) (.t 56)⟩, ⟨some 3, none, .tk (.c (.bool false))⟩])
            (.ret))
          (.skip)))
      (.seq (.seq (.reg [⟨some 10, none, .tk (.c (.int .i64 0))⟩])
        (.block 2 (l_flotsamref34_Decode_0))) r_flotsamref34_Decode_0)))))) r_flotsamref34_Decode_1)

def l_flotsamref34_Decode_1 : AC :=
  .loop [0, 2, 4, 5, 6, 7, 8] b_flotsamref34_Decode_1

def r_flotsamref34_Decode_2 : AC :=
  .seq (.seq (.reg [⟨some 84, none, .ld (some 4) (.t 5)⟩, ⟨some 85, none, .callc n_flotsamref34_Encode [(.t 84)]⟩, ⟨some 83, none, .mv (.t 85)⟩, ⟨some 86, none, .ext (.t 83) 0⟩, ⟨some 87, none, .ext (.t 83) 1⟩, ⟨some 12, none, .tk (.t 86)⟩, ⟨some 13, none, .tk (.t 87)⟩])
    (.seq (.reg [⟨some 88, none, .mv (.t 13)⟩, ⟨some 89, none, .notb (.t 88)⟩, ⟨some 90, none, .mv (.t 89)⟩, ⟨some 91, (some (90, false)), .mv (.t 12)⟩, ⟨some 92, (some (90, false)), .b2s (.t 91)⟩, ⟨some 93, (some (90, false)), .mv (.t 0)⟩, ⟨some 94, (some (90, false)), .b2s (.t 93)⟩, ⟨some 95, (some (90, false)), .sop .neq (.t 92) (.t 94)⟩, ⟨some 96, none, .pick (.t 90) (.c (.bool true)) (.t 95)⟩])
    (.cond (.t 96)
      (.seq (.reg [⟨some 97, none, .bld [.bool false, .sl 6 [], .nils 11, .nils 1] []⟩, ⟨none, none, .st 4 (.t 2) (.t 97)⟩, ⟨some 3, none, .tk (.c (.bool false))⟩])
        (.ret))
      (.skip))))
  (.seq (.reg [⟨some 98, none, .ld (some 4) (.t 5)⟩, ⟨none, none, .st 4 (.t 2) (.t 98)⟩, ⟨some 3, none, .tk (.c (.bool true))⟩])
  (.ret))

def c_flotsamref34_Decode : AFunc :=
  { np := 1, res := [.cell 2 (some 4), .t 3], body := (
    .seq (.reg [⟨some 2, none, .alloc [.bool false, .own 6 [], .own 11 [], .own 1 []]⟩, ⟨some 3, none, .tk (.c (.bool false))⟩])
    (.seq (.reg [⟨some 14, none, .mv (.t 0)⟩, ⟨some 15, none, .bld [.sl 1 [], .bool false] [(0, 1, (.t 14))]⟩, ⟨some 16, none, .box (.t 15)⟩, ⟨some 4, none, .tk (.t 16)⟩])
    (.seq (.reg [⟨some 17, none, .mv (.t 4)⟩, ⟨some 18, none, .call n_pflotsamref34_bytes_take [(.t 17)]⟩, ⟨some 19, none, .ic .eql (.t 18) (.c (.int .i64 1))⟩, ⟨some 20, none, .bld [.bool false, .sl 6 [], .nils 11, .nils 1] [(0, 1, (.t 19))]⟩, ⟨some 5, none, .alloc [.bool false, .own 6 [], .own 11 [], .own 1 []]⟩, ⟨none, none, .st 4 (.t 5) (.t 20)⟩])
    (.seq (.reg [⟨some 21, none, .mv (.t 4)⟩, ⟨some 22, none, .call n_pflotsamref34_bytes_take [(.t 21)]⟩, ⟨some 6, none, .tk (.t 22)⟩])
    (.seq (.seq (.reg [⟨some 23, none, .mv (.t 6)⟩, ⟨some 24, none, .ic .gtr (.t 23) (.c (.int .i64 16))⟩])
      (.cond (.t 24)
        (.seq (.reg [⟨some 25, none, .bld [.bool false, .sl 6 [], .nils 11, .nils 1] []⟩, ⟨none, none, .st 4 (.t 2) (.t 25)⟩, ⟨some 3, none, .tk (.c (.bool false))⟩])
          (.ret))
        (.skip)))
    (.seq (.reg [⟨some 26, none, .mv (.t 4)⟩, ⟨some 27, none, .mv (.t 6)⟩, ⟨some 28, none, .call n_pflotsamref34_bytes_cells [(.t 26), (.t 27)]⟩, ⟨some 29, none, .fa 1 (.t 5)⟩, ⟨none, none, .st 1 (.t 29) (.t 28)⟩])
    (.seq (.reg [⟨some 30, none, .mv (.t 4)⟩, ⟨some 31, none, .call n_pflotsamref34_bytes_take [(.t 30)]⟩, ⟨some 7, none, .tk (.t 31)⟩])
    (.seq (.seq (.reg [⟨some 8, none, .tk (.c (.int .i64 0))⟩])
      (.block 0 (l_flotsamref34_Decode_1))) r_flotsamref34_Decode_2)))))))) }

-- flotsam/flotsamref31.Same
def b_flotsamref31_Same_0 : AC :=
  .seq (.seq (.reg [⟨some 38, none, .mv (.t 5)⟩, ⟨some 39, none, .fa 2 (.t 2)⟩, ⟨some 40, none, .ld none (.t 39)⟩, ⟨some 41, none, .len false (.t 40)⟩, ⟨some 42, none, .ic .lss (.t 38) (.t 41)⟩])
    (.cond (.t 42)
      (.skip)
      (.exit 0)))
  (.seq (.block 1 (.seq (.drw [[], [], [], [], [], [], [], [], [], [], []] [⟨some 45, none, .fa 2 (.t 2)⟩, ⟨some 46, none, .ld none (.t 45)⟩, ⟨some 47, none, .mv (.t 5)⟩, ⟨some 48, none, .ixa 11 none (.t 46) (.t 47)⟩, ⟨some 49, none, .ld (some 11) (.t 48)⟩, ⟨some 50, none, .fa 2 (.t 3)⟩, ⟨some 51, none, .ld none (.t 50)⟩, ⟨some 52, none, .mv (.t 5)⟩, ⟨some 53, none, .ixa 11 none (.t 51) (.t 52)⟩, ⟨some 54, none, .ld (some 11) (.t 53)⟩, ⟨some 55, none, .eqa true [.int .i64, .int .i64, .int .i64, .int .i64, .int .i64, .int .i64, .int .i64, .int .i64, .int .i64, .int .i64, .int .i64] (.t 49) (.t 54)⟩])
      (.cond (.t 55)
        (.seq (.reg [⟨some 4, none, .tk (.c (.bool false))⟩])
          (.ret))
        (.skip))))
  (.reg [⟨some 43, none, .mv (.t 5)⟩, ⟨some 44, none, .ia .add .i64 (.t 43) (.c (.int .i64 1))⟩, ⟨some 5, none, .tk (.t 44)⟩]))

def l_flotsamref31_Same_0 : AC :=
  .loop [2, 3, 5] b_flotsamref31_Same_0

def b_flotsamref31_Same_1 : AC :=
  .seq (.seq (.reg [⟨some 56, none, .mv (.t 6)⟩, ⟨some 57, none, .fa 3 (.t 2)⟩, ⟨some 58, none, .ld none (.t 57)⟩, ⟨some 59, none, .len false (.t 58)⟩, ⟨some 60, none, .ic .lss (.t 56) (.t 59)⟩])
    (.cond (.t 60)
      (.skip)
      (.exit 2)))
  (.seq (.block 3 (.seq (.drw [[], [], [], [], [], [], [], [], [], [], [], []] [⟨some 63, none, .fa 3 (.t 2)⟩, ⟨some 64, none, .ld none (.t 63)⟩, ⟨some 65, none, .mv (.t 6)⟩, ⟨some 66, none, .ixa 1 none (.t 64) (.t 65)⟩, ⟨some 67, none, .ld none (.t 66)⟩, ⟨some 68, none, .fa 3 (.t 3)⟩, ⟨some 69, none, .ld none (.t 68)⟩, ⟨some 70, none, .mv (.t 6)⟩, ⟨some 71, none, .ixa 1 none (.t 69) (.t 70)⟩, ⟨some 72, none, .ld none (.t 71)⟩, ⟨some 73, none, .callc n_flotsamref30_Same [(.t 67), (.t 72)]⟩, ⟨some 74, none, .notb (.t 73)⟩])
      (.cond (.t 74)
        (.seq (.reg [⟨some 4, none, .tk (.c (.bool false))⟩])
          (.ret))
        (.skip))))
  (.reg [⟨some 61, none, .mv (.t 6)⟩, ⟨some 62, none, .ia .add .i64 (.t 61) (.c (.int .i64 1))⟩, ⟨some 6, none, .tk (.t 62)⟩]))

def l_flotsamref31_Same_1 : AC :=
  .loop [2, 3, 6] b_flotsamref31_Same_1

def r_flotsamref31_Same_0 : AC :=
  .seq (.reg [⟨some 4, none, .tk (.c (.bool true))⟩])
  (.ret)

def r_flotsamref31_Same_1 : AC :=
  .seq (.seq (.reg [⟨some 6, none, .tk (.c (.int .i64 0))⟩])
    (.block 2 (l_flotsamref31_Same_1))) r_flotsamref31_Same_0

def c_flotsamref31_Same : AFunc :=
  { np := 2, res := [.t 4], body := (
    .seq (.reg [⟨some 2, none, .box (.t 0)⟩, ⟨some 3, none, .box (.t 1)⟩, ⟨some 4, none, .tk (.c (.bool false))⟩])
    (.seq (.seq (.reg [⟨some 7, none, .fa 0 (.t 2)⟩, ⟨some 8, none, .ld none (.t 7)⟩, ⟨some 9, none, .fa 0 (.t 3)⟩, ⟨some 10, none, .ld none (.t 9)⟩, ⟨some 11, none, .eqb true (.t 8) (.t 10)⟩, ⟨some 12, none, .mv (.t 11)⟩, ⟨some 13, (some (12, false)), .fa 1 (.t 2)⟩, ⟨some 14, (some (12, false)), .ld none (.t 13)⟩, ⟨some 15, (some (12, false)), .fa 1 (.t 3)⟩, ⟨some 16, (some (12, false)), .ld none (.t 15)⟩, ⟨some 17, (some (12, false)), .callc n_flotsamref30_Same [(.t 14), (.t 16)]⟩, ⟨some 18, (some (12, false)), .notb (.t 17)⟩, ⟨some 19, none, .pick (.t 12) (.c (.bool true)) (.t 18)⟩, ⟨some 20, none, .mv (.t 19)⟩, ⟨some 21, (some (20, false)), .fa 2 (.t 2)⟩, ⟨some 22, (some (20, false)), .ld none (.t 21)⟩, ⟨some 23, (some (20, false)), .len false (.t 22)⟩, ⟨some 24, (some (20, false)), .fa 2 (.t 3)⟩, ⟨some 25, (some (20, false)), .ld none (.t 24)⟩, ⟨some 26, (some (20, false)), .len false (.t 25)⟩, ⟨some 27, (some (20, false)), .ic .neq (.t 23) (.t 26)⟩, ⟨some 28, none, .pick (.t 20) (.c (.bool true)) (.t 27)⟩, ⟨some 29, none, .mv (.t 28)⟩, ⟨some 30, (some (29, false)), .fa 3 (.t 2)⟩, ⟨some 31, (some (29, false)), .ld none (.t 30)⟩, ⟨some 32, (some (29, false)), .len false (.t 31)⟩, ⟨some 33, (some (29, false)), .fa 3 (.t 3)⟩, ⟨some 34, (some (29, false)), .ld none (.t 33)⟩, ⟨some 35, (some (29, false)), .len false (.t 34)⟩, ⟨some 36, (some (29, false)), .ic .neq (.t 32) (.t 35)⟩, ⟨some 37, none, .pick (.t 29) (.c (.bool true)) (.t 36)⟩])
      (.cond (.t 37)
        (.seq (.reg [⟨some 4, none, .tk (.c (.bool false))⟩])
          (.ret))
        (.skip)))
    (.seq (.seq (.reg [⟨some 5, none, .tk (.c (.int .i64 0))⟩])
      (.block 0 (l_flotsamref31_Same_0))) r_flotsamref31_Same_1))) }

-- flotsam/pack.Sum
def b_pack_Sum_0 : AC :=
  .seq (.reg [⟨some 9, none, .ic .lss (.t 8) (.t 7)⟩])
  (.seq (.cond (.t 9)
      (.skip)
      (.exit 0))
  (.seq (.block 1 (.seq (.reg [⟨some 10, none, .ixa 1 none (.t 6) (.t 8)⟩, ⟨some 11, none, .ld none (.t 10)⟩, ⟨some 5, none, .tk (.t 11)⟩])
      (.seq (.reg [⟨some 12, none, .mv (.t 3)⟩, ⟨some 13, none, .mv (.t 5)⟩, ⟨some 14, none, .conv .u64 (.t 13)⟩, ⟨some 15, none, .ia .xor .u64 (.t 12) (.t 14)⟩, ⟨some 3, none, .tk (.t 15)⟩])
      (.reg [⟨some 16, none, .mv (.t 3)⟩, ⟨some 17, none, .ia .mul .u64 (.t 16) (.c (.int .u64 1099511628211))⟩, ⟨some 3, none, .tk (.t 17)⟩]))))
  (.reg [⟨some 18, none, .ia .add .i64 (.t 8) (.c (.int .i64 1))⟩, ⟨some 8, none, .mv (.t 18)⟩])))

def l_pack_Sum_0 : AC :=
  .loop [3, 6, 7, 8] b_pack_Sum_0

def r_pack_Sum_0 : AC :=
  .seq (.reg [⟨some 19, none, .mv (.t 3)⟩, ⟨some 2, none, .tk (.t 19)⟩])
  (.ret)

def c_pack_Sum : AFunc :=
  { np := 1, res := [.t 2], body := (
    .seq (.reg [⟨some 2, none, .tk (.c (.int .u64 0))⟩])
    (.seq (.reg [⟨some 3, none, .tk (.c (.int .u64 14695981039346656037))⟩])
    (.seq (.seq (.reg [⟨some 6, none, .mv (.t 0)⟩, ⟨some 7, none, .len false (.t 6)⟩, ⟨some 8, none, .mv (.c (.int .i64 0))⟩])
      (.block 0 (l_pack_Sum_0))) r_pack_Sum_0))) }

-- flotsam/flotsamref34.Sum
def b_flotsamref34_Sum_0 : AC :=
  .seq (.seq (.reg [⟨some 5, none, .mv (.t 4)⟩, ⟨some 6, none, .mv (.t 0)⟩, ⟨some 7, none, .len false (.t 6)⟩, ⟨some 8, none, .ic .lss (.t 5) (.t 7)⟩])
    (.cond (.t 8)
      (.skip)
      (.exit 0)))
  (.seq (.block 1 (.reg [⟨some 11, none, .mv (.t 3)⟩, ⟨some 12, none, .mv (.t 0)⟩, ⟨some 13, none, .mv (.t 4)⟩, ⟨some 14, none, .ixa 1 none (.t 12) (.t 13)⟩, ⟨some 15, none, .ld none (.t 14)⟩, ⟨some 16, none, .conv .u64 (.t 15)⟩, ⟨some 17, none, .ia .xor .u64 (.t 11) (.t 16)⟩, ⟨some 18, none, .ia .mul .u64 (.t 17) (.c (.int .u64 1099511628211))⟩, ⟨some 3, none, .tk (.t 18)⟩]))
  (.reg [⟨some 9, none, .mv (.t 4)⟩, ⟨some 10, none, .ia .add .i64 (.t 9) (.c (.int .i64 1))⟩, ⟨some 4, none, .tk (.t 10)⟩]))

def l_flotsamref34_Sum_0 : AC :=
  .loop [0, 3, 4] b_flotsamref34_Sum_0

def r_flotsamref34_Sum_0 : AC :=
  .seq (.reg [⟨some 19, none, .mv (.t 3)⟩, ⟨some 2, none, .tk (.t 19)⟩])
  (.ret)

def c_flotsamref34_Sum : AFunc :=
  { np := 1, res := [.t 2], body := (
    .seq (.reg [⟨some 2, none, .tk (.c (.int .u64 0))⟩])
    (.seq (.reg [⟨some 3, none, .tk (.c (.int .u64 14695981039346656037))⟩])
    (.seq (.seq (.reg [⟨some 4, none, .tk (.c (.int .i64 0))⟩])
      (.block 0 (l_flotsamref34_Sum_0))) r_flotsamref34_Sum_0))) }

-- flotsam/score.Right
def b_score_Right_0 : AC :=
  .seq (.reg [⟨some 68, none, .ic .lss (.t 67) (.t 66)⟩])
  (.seq (.cond (.t 68)
      (.skip)
      (.exit 1))
  (.seq (.block 2 (.seq (.reg [⟨some 69, none, .mv (.t 67)⟩, ⟨some 70, none, .ixa 11 none (.t 65) (.t 67)⟩, ⟨some 71, none, .ld (some 11) (.t 70)⟩, ⟨some 5, none, .alloc [.int .i64 0, .int .i64 0, .int .i64 0, .int .i64 0, .int .i64 0, .int .i64 0, .int .i64 0, .int .i64 0, .int .i64 0, .int .i64 0, .int .i64 0]⟩, ⟨some 4, none, .tk (.t 69)⟩, ⟨none, none, .st 11 (.t 5) (.t 71)⟩])
      (.seq (.reg [⟨some 73, none, .ld (some 11) (.t 5)⟩, ⟨some 74, none, .callc n_site_Name [(.t 73)]⟩, ⟨some 72, none, .mv (.t 74)⟩, ⟨some 75, none, .ext (.t 72) 0⟩, ⟨some 76, none, .ext (.t 72) 1⟩, ⟨some 6, none, .tk (.t 75)⟩, ⟨some 7, none, .tk (.t 76)⟩])
      (.seq (.drw [[], [], [], [], [], [], [], [], [], []] [⟨some 77, none, .mv (.t 7)⟩, ⟨some 78, none, .notb (.t 77)⟩, ⟨some 79, none, .mv (.t 78)⟩, ⟨some 80, (some (79, false)), .fa 2 (.t 1)⟩, ⟨some 81, (some (79, false)), .ld none (.t 80)⟩, ⟨some 82, (some (79, false)), .mv (.t 4)⟩, ⟨some 83, (some (79, false)), .sls 11 (.t 81) none (some (.t 82)) none⟩, ⟨some 84, (some (79, false)), .ld (some 11) (.t 5)⟩, ⟨some 85, (some (79, false)), .callc n_slices_Contains_api_Site_api_Site [(.t 83), (.t 84)]⟩, ⟨some 86, none, .pick (.t 79) (.c (.bool true)) (.t 85)⟩])
      (.cond (.t 86)
        (.seq (.reg [⟨some 2, none, .tk (.c (.bool false))⟩])
          (.ret))
        (.skip))))))
  (.reg [⟨some 87, none, .ia .add .i64 (.t 67) (.c (.int .i64 1))⟩, ⟨some 67, none, .mv (.t 87)⟩])))

def l_score_Right_0 : AC :=
  .loop [1, 65, 66, 67] b_score_Right_0

def r_score_Right_0 : AC :=
  .seq (.reg [⟨some 2, none, .tk (.c (.bool true))⟩])
  (.ret)

def c_score_Right : AFunc :=
  { np := 1, res := [.t 2], body := (
    .seq (.reg [⟨some 1, none, .box (.t 0)⟩, ⟨some 2, none, .tk (.c (.bool false))⟩])
    (.seq (.reg [⟨some 8, none, .fa 1 (.t 1)⟩, ⟨some 9, none, .ld none (.t 8)⟩, ⟨some 10, none, .len false (.t 9)⟩, ⟨some 3, none, .tk (.t 10)⟩])
    (.seq (.block 0 (.seq (.drw [[], [], [], [], [], [], [], [], [], [], [7], [7], [7], [7], [], [], [], [], []] [⟨some 12, none, .mv (.t 3)⟩, ⟨some 13, none, .ic .gtr (.t 12) (.c (.int .i64 16))⟩, ⟨some 14, none, .mv (.t 13)⟩, ⟨some 15, (some (14, false)), .mv (.t 3)⟩, ⟨some 16, (some (14, false)), .callx n_score_odd [(.t 15)]⟩, ⟨some 17, (some (14, false)), .fa 1 (.t 1)⟩, ⟨some 18, (some (14, false)), .ld none (.t 17)⟩, ⟨some 19, (some (14, false)), .callv (.t 16) [(.t 18)]⟩, ⟨some 20, none, .pick (.t 14) (.c (.bool true)) (.t 19)⟩, ⟨some 21, none, .mv (.t 20)⟩, ⟨some 22, (some (21, false)), .fa 0 (.t 1)⟩, ⟨some 23, (some (21, false)), .ld none (.t 22)⟩, ⟨some 24, (some (21, false)), .fa 1 (.t 1)⟩, ⟨some 25, (some (21, false)), .ld none (.t 24)⟩, ⟨some 26, (some (21, false)), .callc n_cell_Sum [(.t 25)]⟩, ⟨some 27, (some (21, false)), .ic .eql (.t 26) (.c (.int .i64 1))⟩, ⟨some 28, (some (21, false)), .eqb true (.t 23) (.t 27)⟩, ⟨some 29, none, .pick (.t 21) (.c (.bool true)) (.t 28)⟩, ⟨some 11, none, .tk (.t 29)⟩])
        (.cond (.t 11)
          (.seq (.reg [⟨some 2, none, .tk (.c (.bool false))⟩])
            (.ret))
          (.seq (.reg [⟨some 31, none, .fa 0 (.t 1)⟩, ⟨some 32, none, .ld none (.t 31)⟩, ⟨some 30, none, .tk (.t 32)⟩])
            (.cond (.t 30)
              (.seq (.reg [⟨some 33, none, .fa 2 (.t 1)⟩, ⟨some 34, none, .ld none (.t 33)⟩, ⟨some 35, none, .len false (.t 34)⟩, ⟨some 36, none, .ic .eql (.t 35) (.c (.int .i64 0))⟩, ⟨some 37, none, .mv (.t 36)⟩, ⟨some 38, (some (37, true)), .fa 3 (.t 1)⟩, ⟨some 39, (some (37, true)), .ld none (.t 38)⟩, ⟨some 40, (some (37, true)), .len false (.t 39)⟩, ⟨some 41, (some (37, true)), .ic .eql (.t 40) (.c (.int .i64 0))⟩, ⟨some 42, none, .pick (.t 37) (.t 41) (.c (.bool false))⟩, ⟨some 2, none, .tk (.t 42)⟩])
                (.ret))
              (.seq (.drw [[], [], [], [1], [1], [], [], [], [], [], [], [6, 9], [1, 6, 9], [1, 6, 9], [1, 6, 9], [1, 6, 9], [], [], [1, 6, 9], [], []] [⟨some 44, none, .fa 2 (.t 1)⟩, ⟨some 45, none, .ld none (.t 44)⟩, ⟨some 46, none, .len false (.t 45)⟩, ⟨some 47, none, .ic .gtr (.t 46) (.c (.int .i64 512))⟩, ⟨some 48, none, .mv (.t 47)⟩, ⟨some 49, (some (48, false)), .fa 2 (.t 1)⟩, ⟨some 50, (some (48, false)), .ld none (.t 49)⟩, ⟨some 51, (some (48, false)), .len false (.t 50)⟩, ⟨some 52, (some (48, false)), .fa 3 (.t 1)⟩, ⟨some 53, (some (48, false)), .ld none (.t 52)⟩, ⟨some 54, (some (48, false)), .len false (.t 53)⟩, ⟨some 55, (some (48, false)), .ic .neq (.t 51) (.t 54)⟩, ⟨some 56, none, .pick (.t 48) (.c (.bool true)) (.t 55)⟩, ⟨some 57, none, .mv (.t 56)⟩, ⟨some 58, (some (57, false)), .fa 3 (.t 1)⟩, ⟨some 59, (some (57, false)), .ld none (.t 58)⟩, ⟨some 60, (some (57, false)), .mv (.t 3)⟩, ⟨some 61, (some (57, false)), .callx n_score_odd [(.t 60)]⟩, ⟨some 62, (some (57, false)), .call n_slices_ContainsFunc_api_Cell_api_Cell [(.t 59), (.t 61)]⟩, ⟨some 63, none, .pick (.t 57) (.c (.bool true)) (.t 62)⟩, ⟨some 43, none, .tk (.t 63)⟩])
                (.cond (.t 43)
                  (.seq (.reg [⟨some 2, none, .tk (.c (.bool false))⟩])
                    (.ret))
                  (.skip))))))))
    (.seq (.seq (.reg [⟨some 64, none, .fa 2 (.t 1)⟩, ⟨some 65, none, .ld none (.t 64)⟩, ⟨some 66, none, .len false (.t 65)⟩, ⟨some 67, none, .mv (.c (.int .i64 0))⟩])
      (.block 1 (l_score_Right_0))) r_score_Right_0)))) }

-- flotsam/flotsamlaw32.One
def c_flotsamlaw32_One : AFunc :=
  { np := 0, res := [.cell 0 (some 4)], body := (
    .seq (.reg [⟨some 0, none, .alloc [.bool false, .own 6 [], .own 11 [], .own 1 []]⟩])
    (.seq (.reg [⟨some 2, none, .bld [.int .i64 0, .int .u64 0, .int .i64 0, .int .i64 0] [(2, 1, (.c (.int .i64 1)))]⟩, ⟨some 3, none, .bld [.int .i64 0, .int .i64 0, .int .u64 0, .int .i64 0, .int .i64 0, .int .i64 0] [(0, 1, (.c (.int .i64 1))), (1, 4, (.t 2))]⟩, ⟨some 1, none, .alloc [.int .i64 0, .int .i64 0, .int .u64 0, .int .i64 0, .int .i64 0, .int .i64 0]⟩, ⟨none, none, .st 6 (.t 1) (.t 3)⟩])
    (.seq (.drw [[], [], [], [], [], [], [], [], []] [⟨some 4, none, .mkz 6 [.int .i64 0, .int .i64 0, .int .u64 0, .int .i64 0, .int .i64 0, .int .i64 0] 48 (.c (.int .i64 2)) (.c (.int .i64 2))⟩, ⟨some 5, none, .bld [.int .i64 0, .int .i64 0, .int .i64 0, .int .i64 0, .int .i64 0, .int .i64 0, .int .i64 0, .int .i64 0, .int .i64 0, .int .i64 0, .int .i64 0] [(0, 1, (.c (.int .i64 5))), (10, 1, (.c (.int .i64 1)))]⟩, ⟨some 6, none, .bsl 11 [.int .i64 0, .int .i64 0, .int .i64 0, .int .i64 0, .int .i64 0, .int .i64 0, .int .i64 0, .int .i64 0, .int .i64 0, .int .i64 0, .int .i64 0] 1 [(0, 11, (.t 5))] false⟩, ⟨some 7, none, .ld (some 6) (.t 1)⟩, ⟨some 8, none, .bld [.int .i64 0, .int .i64 0, .int .u64 0, .int .i64 0, .int .i64 0, .int .i64 0] []⟩, ⟨some 9, none, .bsl 6 [.int .i64 0, .int .i64 0, .int .u64 0, .int .i64 0, .int .i64 0, .int .i64 0] 2 [(0, 6, (.t 7)), (6, 6, (.t 8))] false⟩, ⟨some 10, none, .bsl 1 [.sl 6 []] 1 [(0, 1, (.t 9))] false⟩, ⟨some 11, none, .bld [.bool false, .sl 6 [], .sl 11 [], .sl 1 []] [(1, 1, (.t 4)), (2, 1, (.t 6)), (3, 1, (.t 10))]⟩, ⟨none, none, .st 4 (.t 0) (.t 11)⟩])
    (.ret)))) }

-- (*flotsam/pack.writer).put
def b_ppack_writer_put_0 : AC :=
  .seq (.reg [⟨some 9, none, .ic .lss (.t 8) (.t 7)⟩])
  (.seq (.cond (.t 9)
      (.skip)
      (.exit 0))
  (.seq (.block 1 (.seq (.reg [⟨some 10, none, .ixa 1 none (.t 6) (.t 8)⟩, ⟨some 11, none, .ld none (.t 10)⟩, ⟨some 5, none, .tk (.t 11)⟩])
      (.reg [⟨some 12, none, .mv (.t 0)⟩, ⟨some 13, none, .mv (.t 0)⟩, ⟨some 14, none, .nck (.t 13)⟩, ⟨some 15, none, .fa 0 (.t 14)⟩, ⟨some 16, none, .ld none (.t 15)⟩, ⟨some 17, none, .mv (.t 5)⟩, ⟨some 18, none, .conv .u64 (.t 17)⟩, ⟨some 19, none, .callc n_codec_Uint [(.t 16), (.t 18)]⟩, ⟨some 20, none, .nck (.t 12)⟩, ⟨some 21, none, .fa 0 (.t 20)⟩, ⟨none, none, .st 1 (.t 21) (.t 19)⟩])))
  (.reg [⟨some 22, none, .ia .add .i64 (.t 8) (.c (.int .i64 1))⟩, ⟨some 8, none, .mv (.t 22)⟩])))

def l_ppack_writer_put_0 : AC :=
  .loop [0, 6, 7, 8] b_ppack_writer_put_0

def c_ppack_writer_put : AFunc :=
  { np := 2, res := [], body := (
    .seq (.reg [⟨some 6, none, .mv (.t 1)⟩, ⟨some 7, none, .len false (.t 6)⟩, ⟨some 8, none, .mv (.c (.int .i64 0))⟩])
    (.block 0 (l_ppack_writer_put_0))) }

-- (*flotsam/pack.writer).cells
def b_ppack_writer_cells_0 : AC :=
  .seq (.reg [⟨some 9, none, .ic .lss (.t 8) (.t 7)⟩])
  (.seq (.cond (.t 9)
      (.skip)
      (.exit 0))
  (.seq (.block 1 (.seq (.reg [⟨some 10, none, .ixa 6 none (.t 6) (.t 8)⟩, ⟨some 11, none, .ld (some 6) (.t 10)⟩, ⟨some 5, none, .alloc [.int .i64 0, .int .i64 0, .int .u64 0, .int .i64 0, .int .i64 0, .int .i64 0]⟩, ⟨none, none, .st 6 (.t 5) (.t 11)⟩])
      (.seq (.reg [⟨some 12, none, .mv (.t 0)⟩, ⟨some 13, none, .fa 0 (.t 5)⟩, ⟨some 14, none, .ld none (.t 13)⟩, ⟨some 15, none, .bsl 1 [.int .i64 0] 1 [(0, 1, (.t 14))] false⟩, ⟨some 16, none, .call n_ppack_writer_put [(.t 12), (.t 15)]⟩])
      (.seq (.reg [⟨some 17, none, .fa 0 (.t 5)⟩, ⟨some 18, none, .ld none (.t 17)⟩])
      (.block 2 (.seq (.reg [⟨some 20, none, .ic .eql (.t 18) (.c (.int .i64 1))⟩, ⟨some 19, none, .tk (.t 20)⟩])
        (.cond (.t 19)
          (.reg [⟨some 21, none, .mv (.t 0)⟩, ⟨some 22, none, .fa 1 (.t 5)⟩, ⟨some 23, none, .fa 0 (.t 22)⟩, ⟨some 24, none, .ld none (.t 23)⟩, ⟨some 25, none, .fa 1 (.t 5)⟩, ⟨some 26, none, .fa 1 (.t 25)⟩, ⟨some 27, none, .ld none (.t 26)⟩, ⟨some 28, none, .conv .i64 (.t 27)⟩, ⟨some 29, none, .fa 1 (.t 5)⟩, ⟨some 30, none, .fa 2 (.t 29)⟩, ⟨some 31, none, .ld none (.t 30)⟩, ⟨some 32, none, .fa 1 (.t 5)⟩, ⟨some 33, none, .fa 3 (.t 32)⟩, ⟨some 34, none, .ld none (.t 33)⟩, ⟨some 35, none, .bsl 1 [.int .i64 0] 4 [(0, 1, (.t 24)), (1, 1, (.t 28)), (2, 1, (.t 31)), (3, 1, (.t 34))] false⟩, ⟨some 36, none, .call n_ppack_writer_put [(.t 21), (.t 35)]⟩])
          (.seq (.reg [⟨some 38, none, .ic .eql (.t 18) (.c (.int .i64 2))⟩, ⟨some 37, none, .tk (.t 38)⟩])
            (.cond (.t 37)
              (.reg [⟨some 39, none, .mv (.t 0)⟩, ⟨some 40, none, .fa 5 (.t 5)⟩, ⟨some 41, none, .ld none (.t 40)⟩, ⟨some 42, none, .bsl 1 [.int .i64 0] 1 [(0, 1, (.t 41))] false⟩, ⟨some 43, none, .call n_ppack_writer_put [(.t 39), (.t 42)]⟩])
              (.skip))))))))))
  (.reg [⟨some 44, none, .ia .add .i64 (.t 8) (.c (.int .i64 1))⟩, ⟨some 8, none, .mv (.t 44)⟩])))

def l_ppack_writer_cells_0 : AC :=
  .loop [0, 6, 7, 8] b_ppack_writer_cells_0

def c_ppack_writer_cells : AFunc :=
  { np := 2, res := [], body := (
    .seq (.reg [⟨some 6, none, .mv (.t 1)⟩, ⟨some 7, none, .len false (.t 6)⟩, ⟨some 8, none, .mv (.c (.int .i64 0))⟩])
    (.block 0 (l_ppack_writer_cells_0))) }

-- flotsam/pack.seal
def b_pack_seal_0 : AC :=
  .seq (.reg [⟨some 9, none, .ic .lss (.t 8) (.t 7)⟩])
  (.seq (.cond (.t 9)
      (.skip)
      (.exit 0))
  (.seq (.block 1 (.seq (.reg [⟨some 10, none, .mv (.t 8)⟩, ⟨some 4, none, .tk (.t 10)⟩])
      (.seq (.reg [⟨some 11, none, .mv (.t 3)⟩, ⟨some 12, none, .mv (.t 4)⟩, ⟨some 13, none, .ia .sub .i64 (.c (.int .i64 7)) (.t 12)⟩, ⟨some 14, none, .mv (.t 0)⟩, ⟨some 15, none, .conv .u8 (.t 14)⟩, ⟨some 16, none, .ixa 1 none (.t 11) (.t 13)⟩, ⟨none, none, .st 1 (.t 16) (.t 15)⟩])
      (.reg [⟨some 17, none, .mv (.t 0)⟩, ⟨some 18, none, .ia .shr .u64 (.t 17) (.c (.int .u64 8))⟩, ⟨some 0, none, .tk (.t 18)⟩]))))
  (.reg [⟨some 19, none, .ia .add .i64 (.t 8) (.c (.int .i64 1))⟩, ⟨some 8, none, .mv (.t 19)⟩])))

def l_pack_seal_0 : AC :=
  .loop [0, 3, 7, 8] b_pack_seal_0

def r_pack_seal_0 : AC :=
  .seq (.reg [⟨some 20, none, .mv (.t 3)⟩, ⟨some 2, none, .frz 1 (.t 20)⟩])
  (.ret)

def c_pack_seal : AFunc :=
  { np := 1, res := [.t 2], body := (
    .seq (.reg [⟨some 2, none, .tk (.c (.own 1 []))⟩])
    (.seq (.reg [⟨some 5, none, .mk 1 [.int .u8 0] 1 (.c (.int .i64 8)) (.c (.int .i64 8))⟩, ⟨some 3, none, .tk (.t 5)⟩])
    (.seq (.seq (.reg [⟨some 6, none, .mv (.t 3)⟩, ⟨some 7, none, .len false (.t 6)⟩, ⟨some 8, none, .mv (.c (.int .i64 0))⟩])
      (.block 0 (l_pack_seal_0))) r_pack_seal_0))) }

-- flotsam/flotsamref32.Right
def b_flotsamref32_Right_0 : AC :=
  .seq (.seq (.reg [⟨some 90, none, .mv (.t 6)⟩, ⟨some 91, none, .mv (.t 3)⟩, ⟨some 92, none, .ic .lss (.t 90) (.t 91)⟩])
    (.cond (.t 92)
      (.skip)
      (.exit 2)))
  (.seq (.block 3 (.seq (.drw [[], [], [], [], [], [], [], [], [], [], []] [⟨some 95, none, .fa 2 (.t 1)⟩, ⟨some 96, none, .ld none (.t 95)⟩, ⟨some 97, none, .mv (.t 6)⟩, ⟨some 98, none, .ixa 11 none (.t 96) (.t 97)⟩, ⟨some 99, none, .ld (some 11) (.t 98)⟩, ⟨some 100, none, .fa 2 (.t 1)⟩, ⟨some 101, none, .ld none (.t 100)⟩, ⟨some 102, none, .mv (.t 3)⟩, ⟨some 103, none, .ixa 11 none (.t 101) (.t 102)⟩, ⟨some 104, none, .ld (some 11) (.t 103)⟩, ⟨some 105, none, .eqa false [.int .i64, .int .i64, .int .i64, .int .i64, .int .i64, .int .i64, .int .i64, .int .i64, .int .i64, .int .i64, .int .i64] (.t 99) (.t 104)⟩])
      (.cond (.t 105)
        (.seq (.reg [⟨some 2, none, .tk (.c (.bool false))⟩])
          (.ret))
        (.skip))))
  (.reg [⟨some 93, none, .mv (.t 6)⟩, ⟨some 94, none, .ia .add .i64 (.t 93) (.c (.int .i64 1))⟩, ⟨some 6, none, .tk (.t 94)⟩]))

def l_flotsamref32_Right_0 : AC :=
  .loop [1, 3, 6] b_flotsamref32_Right_0

def r_flotsamref32_Right_0 : AC :=
  .reg [⟨some 58, none, .mv (.t 3)⟩, ⟨some 59, none, .ia .add .i64 (.t 58) (.c (.int .i64 1))⟩, ⟨some 3, none, .tk (.t 59)⟩]

def b_flotsamref32_Right_1 : AC :=
  .seq (.seq (.reg [⟨some 53, none, .mv (.t 3)⟩, ⟨some 54, none, .fa 2 (.t 1)⟩, ⟨some 55, none, .ld none (.t 54)⟩, ⟨some 56, none, .len false (.t 55)⟩, ⟨some 57, none, .ic .lss (.t 53) (.t 56)⟩])
    (.cond (.t 57)
      (.skip)
      (.exit 0)))
  (.seq (.block 1 (.seq (.seq (.drw [[], [], [], [], [], [], [], [], [], [], [], [], [], [], [], [], [], [], []] [⟨some 60, none, .fa 3 (.t 1)⟩, ⟨some 61, none, .ld none (.t 60)⟩, ⟨some 62, none, .mv (.t 3)⟩, ⟨some 63, none, .ixa 1 none (.t 61) (.t 62)⟩, ⟨some 64, none, .ld none (.t 63)⟩, ⟨some 65, none, .len false (.t 64)⟩, ⟨some 66, none, .fa 1 (.t 1)⟩, ⟨some 67, none, .ld none (.t 66)⟩, ⟨some 68, none, .len false (.t 67)⟩, ⟨some 69, none, .ic .neq (.t 65) (.t 68)⟩, ⟨some 70, none, .mv (.t 69)⟩, ⟨some 71, (some (70, false)), .fa 3 (.t 1)⟩, ⟨some 72, (some (70, false)), .ld none (.t 71)⟩, ⟨some 73, (some (70, false)), .mv (.t 3)⟩, ⟨some 74, (some (70, false)), .ixa 1 none (.t 72) (.t 73)⟩, ⟨some 75, (some (70, false)), .ld none (.t 74)⟩, ⟨some 76, (some (70, false)), .callc n_flotsamref32_cells [(.t 75)]⟩, ⟨some 77, (some (70, false)), .notb (.t 76)⟩, ⟨some 78, none, .pick (.t 70) (.c (.bool true)) (.t 77)⟩])
        (.cond (.t 78)
          (.seq (.reg [⟨some 2, none, .tk (.c (.bool false))⟩])
            (.ret))
          (.skip)))
      (.seq (.seq (.reg [⟨some 80, none, .fa 2 (.t 1)⟩, ⟨some 81, none, .ld none (.t 80)⟩, ⟨some 82, none, .mv (.t 3)⟩, ⟨some 83, none, .ixa 11 none (.t 81) (.t 82)⟩, ⟨some 84, none, .ld (some 11) (.t 83)⟩, ⟨some 85, none, .callc n_flotsamref25_Name [(.t 84)]⟩, ⟨some 79, none, .mv (.t 85)⟩, ⟨some 86, none, .ext (.t 79) 0⟩, ⟨some 87, none, .ext (.t 79) 1⟩, ⟨some 4, none, .tk (.t 86)⟩, ⟨some 5, none, .tk (.t 87)⟩])
        (.seq (.reg [⟨some 88, none, .mv (.t 5)⟩, ⟨some 89, none, .notb (.t 88)⟩])
        (.cond (.t 89)
          (.seq (.reg [⟨some 2, none, .tk (.c (.bool false))⟩])
            (.ret))
          (.skip))))
      (.seq (.reg [⟨some 6, none, .tk (.c (.int .i64 0))⟩])
      (.block 2 (l_flotsamref32_Right_0)))))) r_flotsamref32_Right_0)

def l_flotsamref32_Right_1 : AC :=
  .loop [1, 3] b_flotsamref32_Right_1

def r_flotsamref32_Right_1 : AC :=
  .seq (.reg [⟨some 2, none, .tk (.c (.bool true))⟩])
  (.ret)

def c_flotsamref32_Right : AFunc :=
  { np := 1, res := [.t 2], body := (
    .seq (.reg [⟨some 1, none, .box (.t 0)⟩, ⟨some 2, none, .tk (.c (.bool false))⟩])
    (.seq (.seq (.drw [[], [], [], [], [], [], [], [], [], [], [], [], [], [], [], [], [], [], [], [], [], [], [], [], [], [], [], [], [], [], [], [], []] [⟨some 7, none, .fa 1 (.t 1)⟩, ⟨some 8, none, .ld none (.t 7)⟩, ⟨some 9, none, .len false (.t 8)⟩, ⟨some 10, none, .ic .gtr (.t 9) (.c (.int .i64 16))⟩, ⟨some 11, none, .mv (.t 10)⟩, ⟨some 12, (some (11, false)), .fa 1 (.t 1)⟩, ⟨some 13, (some (11, false)), .ld none (.t 12)⟩, ⟨some 14, (some (11, false)), .callc n_flotsamref32_cells [(.t 13)]⟩, ⟨some 15, (some (11, false)), .notb (.t 14)⟩, ⟨some 16, none, .pick (.t 11) (.c (.bool true)) (.t 15)⟩, ⟨some 17, none, .mv (.t 16)⟩, ⟨some 18, (some (17, false)), .fa 0 (.t 1)⟩, ⟨some 19, (some (17, false)), .ld none (.t 18)⟩, ⟨some 20, (some (17, false)), .fa 1 (.t 1)⟩, ⟨some 21, (some (17, false)), .ld none (.t 20)⟩, ⟨some 22, (some (17, false)), .callc n_flotsamref30_Sum [(.t 21)]⟩, ⟨some 23, (some (17, false)), .ic .eql (.t 22) (.c (.int .i64 1))⟩, ⟨some 24, (some (17, false)), .eqb true (.t 19) (.t 23)⟩, ⟨some 25, none, .pick (.t 17) (.c (.bool true)) (.t 24)⟩, ⟨some 26, none, .mv (.t 25)⟩, ⟨some 27, (some (26, false)), .fa 0 (.t 1)⟩, ⟨some 28, (some (26, false)), .ld none (.t 27)⟩, ⟨some 29, (some (26, false)), .mv (.t 28)⟩, ⟨some 30, (some (29, true)), .fa 2 (.t 1)⟩, ⟨some 31, (some (29, true)), .ld none (.t 30)⟩, ⟨some 32, (some (29, true)), .len false (.t 31)⟩, ⟨some 33, (some (29, true)), .fa 3 (.t 1)⟩, ⟨some 34, (some (29, true)), .ld none (.t 33)⟩, ⟨some 35, (some (29, true)), .len false (.t 34)⟩, ⟨some 36, (some (29, true)), .ia .add .i64 (.t 32) (.t 35)⟩, ⟨some 37, (some (29, true)), .ic .gtr (.t 36) (.c (.int .i64 0))⟩, ⟨some 38, (some (26, false)), .pick (.t 29) (.t 37) (.c (.bool false))⟩, ⟨some 39, none, .pick (.t 26) (.c (.bool true)) (.t 38)⟩])
      (.cond (.t 39)
        (.seq (.reg [⟨some 2, none, .tk (.c (.bool false))⟩])
          (.ret))
        (.skip)))
    (.seq (.seq (.reg [⟨some 40, none, .fa 2 (.t 1)⟩, ⟨some 41, none, .ld none (.t 40)⟩, ⟨some 42, none, .len false (.t 41)⟩, ⟨some 43, none, .ic .gtr (.t 42) (.c (.int .i64 512))⟩, ⟨some 44, none, .mv (.t 43)⟩, ⟨some 45, (some (44, false)), .fa 2 (.t 1)⟩, ⟨some 46, (some (44, false)), .ld none (.t 45)⟩, ⟨some 47, (some (44, false)), .len false (.t 46)⟩, ⟨some 48, (some (44, false)), .fa 3 (.t 1)⟩, ⟨some 49, (some (44, false)), .ld none (.t 48)⟩, ⟨some 50, (some (44, false)), .len false (.t 49)⟩, ⟨some 51, (some (44, false)), .ic .neq (.t 47) (.t 50)⟩, ⟨some 52, none, .pick (.t 44) (.c (.bool true)) (.t 51)⟩])
      (.cond (.t 52)
        (.seq (.reg [⟨some 2, none, .tk (.c (.bool false))⟩])
          (.ret))
        (.skip)))
    (.seq (.seq (.reg [⟨some 3, none, .tk (.c (.int .i64 0))⟩])
      (.block 0 (l_flotsamref32_Right_1))) r_flotsamref32_Right_1)))) }

-- flotsam/flotsamref34.put
def c_flotsamref34_put : AFunc :=
  { np := 2, res := [.t 4], body := (
    .seq (.reg [⟨some 4, none, .tk (.c (.own 1 []))⟩])
    (.seq (.reg [⟨some 5, none, .mv (.t 0)⟩, ⟨some 6, none, .mv (.t 1)⟩, ⟨some 7, none, .conv .u64 (.t 6)⟩, ⟨some 8, none, .callc n_flotsamref03_Uint [(.t 5), (.t 7)]⟩, ⟨some 4, none, .tk (.t 8)⟩])
    (.ret))) }

-- flotsam/flotsamref34.cells
def b_flotsamref34_cells_0 : AC :=
  .seq (.seq (.reg [⟨some 7, none, .mv (.t 5)⟩, ⟨some 8, none, .mv (.t 1)⟩, ⟨some 9, none, .len false (.t 8)⟩, ⟨some 10, none, .ic .lss (.t 7) (.t 9)⟩])
    (.cond (.t 10)
      (.skip)
      (.exit 0)))
  (.seq (.block 1 (.seq (.reg [⟨some 13, none, .mv (.t 1)⟩, ⟨some 14, none, .mv (.t 5)⟩, ⟨some 15, none, .ixa 6 none (.t 13) (.t 14)⟩, ⟨some 16, none, .ld (some 6) (.t 15)⟩, ⟨some 6, none, .alloc [.int .i64 0, .int .i64 0, .int .u64 0, .int .i64 0, .int .i64 0, .int .i64 0]⟩, ⟨none, none, .st 6 (.t 6) (.t 16)⟩])
      (.seq (.reg [⟨some 17, none, .mv (.t 0)⟩, ⟨some 18, none, .fa 0 (.t 6)⟩, ⟨some 19, none, .ld none (.t 18)⟩, ⟨some 20, none, .callc n_flotsamref34_put [(.t 17), (.t 19)]⟩, ⟨some 0, none, .tk (.t 20)⟩])
      (.seq (.seq (.reg [⟨some 21, none, .fa 0 (.t 6)⟩, ⟨some 22, none, .ld none (.t 21)⟩, ⟨some 23, none, .ic .eql (.t 22) (.c (.int .i64 1))⟩])
        (.cond (.t 23)
          (.seq (.reg [⟨some 24, none, .mv (.t 0)⟩, ⟨some 25, none, .fa 1 (.t 6)⟩, ⟨some 26, none, .fa 0 (.t 25)⟩, ⟨some 27, none, .ld none (.t 26)⟩, ⟨some 28, none, .callc n_flotsamref34_put [(.t 24), (.t 27)]⟩, ⟨some 0, none, .tk (.t 28)⟩])
            (.seq (.reg [⟨some 29, none, .mv (.t 0)⟩, ⟨some 30, none, .fa 1 (.t 6)⟩, ⟨some 31, none, .fa 1 (.t 30)⟩, ⟨some 32, none, .ld none (.t 31)⟩, ⟨some 33, none, .callc n_flotsamref03_Uint [(.t 29), (.t 32)]⟩, ⟨some 0, none, .tk (.t 33)⟩])
            (.seq (.reg [⟨some 34, none, .mv (.t 0)⟩, ⟨some 35, none, .fa 1 (.t 6)⟩, ⟨some 36, none, .fa 2 (.t 35)⟩, ⟨some 37, none, .ld none (.t 36)⟩, ⟨some 38, none, .callc n_flotsamref34_put [(.t 34), (.t 37)]⟩, ⟨some 0, none, .tk (.t 38)⟩])
            (.reg [⟨some 39, none, .mv (.t 0)⟩, ⟨some 40, none, .fa 1 (.t 6)⟩, ⟨some 41, none, .fa 3 (.t 40)⟩, ⟨some 42, none, .ld none (.t 41)⟩, ⟨some 43, none, .callc n_flotsamref34_put [(.t 39), (.t 42)]⟩, ⟨some 0, none, .tk (.t 43)⟩]))))
          (.skip)))
      (.seq (.reg [⟨some 44, none, .fa 0 (.t 6)⟩, ⟨some 45, none, .ld none (.t 44)⟩, ⟨some 46, none, .ic .eql (.t 45) (.c (.int .i64 2))⟩])
      (.cond (.t 46)
        (.reg [⟨some 47, none, .mv (.t 0)⟩, ⟨some 48, none, .fa 5 (.t 6)⟩, ⟨some 49, none, .ld none (.t 48)⟩, ⟨some 50, none, .callc n_flotsamref34_put [(.t 47), (.t 49)]⟩, ⟨some 0, none, .tk (.t 50)⟩])
        (.skip)))))))
  (.reg [⟨some 11, none, .mv (.t 5)⟩, ⟨some 12, none, .ia .add .i64 (.t 11) (.c (.int .i64 1))⟩, ⟨some 5, none, .tk (.t 12)⟩]))

def l_flotsamref34_cells_0 : AC :=
  .loop [0, 1, 5] b_flotsamref34_cells_0

def r_flotsamref34_cells_0 : AC :=
  .seq (.reg [⟨some 51, none, .tk (.t 0)⟩, ⟨some 4, none, .tk (.t 51)⟩])
  (.ret)

def c_flotsamref34_cells : AFunc :=
  { np := 2, res := [.t 4], body := (
    .seq (.reg [⟨some 4, none, .tk (.c (.own 1 []))⟩])
    (.seq (.seq (.reg [⟨some 5, none, .tk (.c (.int .i64 0))⟩])
      (.block 0 (l_flotsamref34_cells_0))) r_flotsamref34_cells_0)) }

-- bytes.Equal
def c_bytes_Equal : AFunc :=
  { np := 2, res := [.t 4], body := (
    .seq (.reg [⟨some 4, none, .tk (.c (.bool false))⟩])
    (.seq (.reg [⟨some 5, none, .mv (.t 0)⟩, ⟨some 6, none, .b2s (.t 5)⟩, ⟨some 7, none, .mv (.t 1)⟩, ⟨some 8, none, .b2s (.t 7)⟩, ⟨some 9, none, .sop .eql (.t 6) (.t 8)⟩, ⟨some 4, none, .tk (.t 9)⟩])
    (.ret))) }

-- (*flotsam/pack.left).number
def c_ppack_left_number : AFunc :=
  { np := 1, res := [.t 2], body := (
    .seq (.reg [⟨some 2, none, .tk (.c (.int .i64 0))⟩])
    (.seq (.reg [⟨some 7, none, .mv (.t 0)⟩, ⟨some 8, none, .nck (.t 7)⟩, ⟨some 9, none, .fa 0 (.t 8)⟩, ⟨some 10, none, .ld none (.t 9)⟩, ⟨some 11, none, .callc n_codec_TakeUint [(.t 10)]⟩, ⟨some 6, none, .mv (.t 11)⟩, ⟨some 12, none, .ext (.t 6) 0⟩, ⟨some 13, none, .ext (.t 6) 1⟩, ⟨some 14, none, .ext (.t 6) 2⟩, ⟨some 3, none, .tk (.t 12)⟩, ⟨some 4, none, .tk (.t 13)⟩, ⟨some 5, none, .tk (.t 14)⟩])
    (.seq (.reg [⟨some 15, none, .mv (.t 0)⟩, ⟨some 16, none, .mv (.t 0)⟩, ⟨some 17, none, .tk (.t 4)⟩, ⟨some 18, none, .mv (.t 0)⟩, ⟨some 19, none, .nck (.t 18)⟩, ⟨some 20, none, .fa 1 (.t 19)⟩, ⟨some 21, none, .ld none (.t 20)⟩, ⟨some 22, none, .mv (.t 21)⟩, ⟨some 23, (some (22, true)), .mv (.t 5)⟩, ⟨some 24, none, .pick (.t 22) (.t 23) (.c (.bool false))⟩, ⟨some 25, none, .mv (.t 24)⟩, ⟨some 26, (some (25, true)), .mv (.t 3)⟩, ⟨some 27, (some (25, true)), .ic .leq (.t 26) (.c (.int .u64 1048576))⟩, ⟨some 28, none, .pick (.t 25) (.t 27) (.c (.bool false))⟩, ⟨some 29, none, .nck (.t 15)⟩, ⟨some 30, none, .fa 0 (.t 29)⟩, ⟨none, none, .st 1 (.t 30) (.t 17)⟩, ⟨some 31, none, .nck (.t 16)⟩, ⟨some 32, none, .fa 1 (.t 31)⟩, ⟨none, none, .st 1 (.t 32) (.t 28)⟩])
    (.seq (.seq (.reg [⟨some 33, none, .mv (.t 0)⟩, ⟨some 34, none, .nck (.t 33)⟩, ⟨some 35, none, .fa 1 (.t 34)⟩, ⟨some 36, none, .ld none (.t 35)⟩, ⟨some 37, none, .notb (.t 36)⟩])
      (.cond (.t 37)
        (.seq (.reg [⟨some 2, none, .tk (.c (.int .i64 0))⟩])
          (.ret))
        (.skip)))
    (.seq (.reg [⟨some 38, none, .mv (.t 3)⟩, ⟨some 39, none, .conv .i64 (.t 38)⟩, ⟨some 2, none, .tk (.t 39)⟩])
    (.ret)))))) }

-- (*flotsam/pack.reader).cells
def b_ppack_reader_cells_0 : AC :=
  .seq (.reg [⟨some 9, none, .ic .lss (.t 8) (.t 7)⟩])
  (.seq (.cond (.t 9)
      (.skip)
      (.exit 0))
  (.seq (.block 1 (.seq (.seq (.reg [⟨some 10, none, .mv (.t 0)⟩, ⟨some 11, none, .nck (.t 10)⟩, ⟨some 12, none, .fa 0 (.t 11)⟩, ⟨some 13, none, .fa 1 (.t 12)⟩, ⟨some 14, none, .ld none (.t 13)⟩, ⟨some 15, none, .notb (.t 14)⟩])
        (.cond (.t 15)
          (.exit 0)
          (.skip)))
      (.reg [⟨some 16, none, .tk (.t 3)⟩, ⟨some 17, none, .mv (.t 0)⟩, ⟨some 18, none, .call n_ppack_reader_cell [(.t 17)]⟩, ⟨some 19, none, .bsl 6 [.int .i64 0, .int .i64 0, .int .u64 0, .int .i64 0, .int .i64 0, .int .i64 0] 1 [(0, 6, (.t 18))] false⟩, ⟨some 20, none, .app 6 48 (.t 16) (.t 19) false⟩, ⟨some 3, none, .tk (.t 20)⟩])))
  (.reg [⟨some 21, none, .ia .add .i64 (.t 8) (.c (.int .i64 1))⟩, ⟨some 8, none, .mv (.t 21)⟩])))

def l_ppack_reader_cells_0 : AC :=
  .loop [0, 3, 7, 8] b_ppack_reader_cells_0

def r_ppack_reader_cells_0 : AC :=
  .seq (.reg [⟨some 22, none, .tk (.t 3)⟩, ⟨some 2, none, .tk (.t 22)⟩])
  (.ret)

def c_ppack_reader_cells : AFunc :=
  { np := 1, res := [.t 2], body := (
    .seq (.reg [⟨some 2, none, .tk (.c (.own 6 []))⟩])
    (.seq (.reg [⟨some 3, none, .tk (.c (.own 6 []))⟩])
    (.seq (.seq (.reg [⟨some 4, none, .mv (.t 0)⟩, ⟨some 5, none, .nck (.t 4)⟩, ⟨some 6, none, .fa 2 (.t 5)⟩, ⟨some 7, none, .ld none (.t 6)⟩, ⟨some 8, none, .mv (.c (.int .i64 0))⟩])
      (.block 0 (l_ppack_reader_cells_0))) r_ppack_reader_cells_0))) }

-- (*flotsam/pack.reader).site
def b_ppack_reader_site_0 : AC :=
  .seq (.reg [⟨some 38, none, .ic .lss (.t 37) (.t 36)⟩])
  (.seq (.cond (.t 38)
      (.skip)
      (.exit 0))
  (.seq (.block 1 (.seq (.reg [⟨some 39, none, .mv (.t 37)⟩, ⟨some 4, none, .tk (.t 39)⟩])
      (.reg [⟨some 40, none, .mv (.t 4)⟩, ⟨some 41, none, .mv (.t 0)⟩, ⟨some 42, none, .nck (.t 41)⟩, ⟨some 43, none, .fa 0 (.t 42)⟩, ⟨some 44, none, .call n_ppack_left_number [(.t 43)]⟩, ⟨some 45, none, .fa 2 (.t 3)⟩, ⟨some 46, none, .ixa 1 (some 8) (.t 45) (.t 40)⟩, ⟨none, none, .st 1 (.t 46) (.t 44)⟩])))
  (.reg [⟨some 47, none, .ia .add .i64 (.t 37) (.c (.int .i64 1))⟩, ⟨some 37, none, .mv (.t 47)⟩])))

def l_ppack_reader_site_0 : AC :=
  .loop [0, 2, 3, 36, 37] b_ppack_reader_site_0

def r_ppack_reader_site_0 : AC :=
  .seq (.reg [⟨some 48, none, .ld (some 11) (.t 3)⟩, ⟨none, none, .st 11 (.t 2) (.t 48)⟩])
  (.ret)

def c_ppack_reader_site : AFunc :=
  { np := 1, res := [.cell 2 (some 11)], body := (
    .seq (.reg [⟨some 2, none, .alloc [.int .i64 0, .int .i64 0, .int .i64 0, .int .i64 0, .int .i64 0, .int .i64 0, .int .i64 0, .int .i64 0, .int .i64 0, .int .i64 0, .int .i64 0]⟩])
    (.seq (.reg [⟨some 5, none, .mv (.t 0)⟩, ⟨some 6, none, .nck (.t 5)⟩, ⟨some 7, none, .fa 0 (.t 6)⟩, ⟨some 8, none, .call n_ppack_left_number [(.t 7)]⟩, ⟨some 9, none, .bld [.int .i64 0, .int .i64 0, .int .i64 0, .int .i64 0, .int .i64 0, .int .i64 0, .int .i64 0, .int .i64 0, .int .i64 0, .int .i64 0, .int .i64 0] [(0, 1, (.t 8))]⟩, ⟨some 3, none, .alloc [.int .i64 0, .int .i64 0, .int .i64 0, .int .i64 0, .int .i64 0, .int .i64 0, .int .i64 0, .int .i64 0, .int .i64 0, .int .i64 0, .int .i64 0]⟩, ⟨none, none, .st 11 (.t 3) (.t 9)⟩])
    (.seq (.reg [⟨some 10, none, .mv (.t 0)⟩, ⟨some 11, none, .nck (.t 10)⟩, ⟨some 12, none, .fa 0 (.t 11)⟩, ⟨some 13, none, .call n_ppack_left_number [(.t 12)]⟩, ⟨some 14, none, .fa 1 (.t 3)⟩, ⟨none, none, .st 1 (.t 14) (.t 13)⟩])
    (.seq (.reg [⟨some 15, none, .mv (.t 0)⟩, ⟨some 16, none, .nck (.t 15)⟩, ⟨some 17, none, .fa 0 (.t 16)⟩, ⟨some 18, none, .call n_ppack_left_number [(.t 17)]⟩, ⟨some 19, none, .fa 10 (.t 3)⟩, ⟨none, none, .st 1 (.t 19) (.t 18)⟩])
    (.seq (.reg [⟨some 20, none, .mv (.t 0)⟩, ⟨some 21, none, .mv (.t 0)⟩, ⟨some 22, none, .nck (.t 21)⟩, ⟨some 23, none, .fa 0 (.t 22)⟩, ⟨some 24, none, .fa 1 (.t 23)⟩, ⟨some 25, none, .ld none (.t 24)⟩, ⟨some 26, none, .mv (.t 25)⟩, ⟨some 27, (some (26, true)), .fa 10 (.t 3)⟩, ⟨some 28, (some (26, true)), .ld none (.t 27)⟩, ⟨some 29, (some (26, true)), .ic .leq (.t 28) (.c (.int .i64 8))⟩, ⟨some 30, none, .pick (.t 26) (.t 29) (.c (.bool false))⟩, ⟨some 31, none, .nck (.t 20)⟩, ⟨some 32, none, .fa 0 (.t 31)⟩, ⟨some 33, none, .fa 1 (.t 32)⟩, ⟨none, none, .st 1 (.t 33) (.t 30)⟩])
    (.seq (.seq (.reg [⟨some 34, none, .fa 10 (.t 3)⟩, ⟨some 35, none, .ld none (.t 34)⟩, ⟨some 36, none, .mx false [(.t 35), (.c (.int .i64 8))]⟩, ⟨some 37, none, .mv (.c (.int .i64 0))⟩])
      (.block 0 (l_ppack_reader_site_0))) r_ppack_reader_site_0)))))) }

-- (*flotsam/flotsamref34.bytes).take
def c_pflotsamref34_bytes_take : AFunc :=
  { np := 1, res := [.t 2], body := (
    .seq (.reg [⟨some 2, none, .tk (.c (.int .i64 0))⟩])
    (.seq (.reg [⟨some 7, none, .mv (.t 0)⟩, ⟨some 8, none, .nck (.t 7)⟩, ⟨some 9, none, .fa 0 (.t 8)⟩, ⟨some 10, none, .ld none (.t 9)⟩, ⟨some 11, none, .callc n_flotsamref03_TakeUint [(.t 10)]⟩, ⟨some 6, none, .mv (.t 11)⟩, ⟨some 12, none, .ext (.t 6) 0⟩, ⟨some 13, none, .ext (.t 6) 1⟩, ⟨some 14, none, .ext (.t 6) 2⟩, ⟨some 3, none, .tk (.t 12)⟩, ⟨some 4, none, .tk (.t 13)⟩, ⟨some 5, none, .tk (.t 14)⟩])
    (.seq (.seq (.reg [⟨some 15, none, .mv (.t 0)⟩, ⟨some 16, none, .nck (.t 15)⟩, ⟨some 17, none, .fa 1 (.t 16)⟩, ⟨some 18, none, .ld none (.t 17)⟩, ⟨some 19, none, .mv (.t 18)⟩, ⟨some 20, (some (19, false)), .mv (.t 5)⟩, ⟨some 21, (some (19, false)), .notb (.t 20)⟩, ⟨some 22, none, .pick (.t 19) (.c (.bool true)) (.t 21)⟩, ⟨some 23, none, .mv (.t 22)⟩, ⟨some 24, (some (23, false)), .mv (.t 3)⟩, ⟨some 25, (some (23, false)), .ic .gtr (.t 24) (.c (.int .u64 1048576))⟩, ⟨some 26, none, .pick (.t 23) (.c (.bool true)) (.t 25)⟩])
      (.cond (.t 26)
        (.seq (.reg [⟨some 27, none, .mv (.t 0)⟩, ⟨some 28, none, .nck (.t 27)⟩, ⟨some 29, none, .fa 1 (.t 28)⟩, ⟨none, none, .st 1 (.t 29) (.c (.bool true))⟩])
          (.seq (.reg [⟨some 2, none, .tk (.c (.int .i64 0))⟩])
          (.ret)))
        (.skip)))
    (.seq (.reg [⟨some 30, none, .mv (.t 0)⟩, ⟨some 31, none, .tk (.t 4)⟩, ⟨some 32, none, .nck (.t 30)⟩, ⟨some 33, none, .fa 0 (.t 32)⟩, ⟨none, none, .st 1 (.t 33) (.t 31)⟩])
    (.seq (.reg [⟨some 34, none, .mv (.t 3)⟩, ⟨some 35, none, .conv .i64 (.t 34)⟩, ⟨some 2, none, .tk (.t 35)⟩])
    (.ret)))))) }

-- (*flotsam/flotsamref34.bytes).cells
def b_pflotsamref34_bytes_cells_0 : AC :=
  .seq (.seq (.reg [⟨some 8, none, .mv (.t 6)⟩, ⟨some 9, none, .mv (.t 1)⟩, ⟨some 10, none, .ic .lss (.t 8) (.t 9)⟩, ⟨some 11, none, .mv (.t 10)⟩, ⟨some 12, (some (11, true)), .mv (.t 0)⟩, ⟨some 13, (some (11, true)), .nck (.t 12)⟩, ⟨some 14, (some (11, true)), .fa 1 (.t 13)⟩, ⟨some 15, (some (11, true)), .ld none (.t 14)⟩, ⟨some 16, (some (11, true)), .notb (.t 15)⟩, ⟨some 17, none, .pick (.t 11) (.t 16) (.c (.bool false))⟩])
    (.cond (.t 17)
      (.skip)
      (.exit 0)))
  (.seq (.block 1 (.seq (.reg [⟨some 20, none, .mv (.t 0)⟩, ⟨some 21, none, .call n_pflotsamref34_bytes_take [(.t 20)]⟩, ⟨some 22, none, .bld [.int .i64 0, .int .i64 0, .int .u64 0, .int .i64 0, .int .i64 0, .int .i64 0] [(0, 1, (.t 21))]⟩, ⟨some 7, none, .alloc [.int .i64 0, .int .i64 0, .int .u64 0, .int .i64 0, .int .i64 0, .int .i64 0]⟩, ⟨none, none, .st 6 (.t 7) (.t 22)⟩])
      (.seq (.seq (.reg [⟨some 23, none, .fa 0 (.t 7)⟩, ⟨some 24, none, .ld none (.t 23)⟩, ⟨some 25, none, .ic .eql (.t 24) (.c (.int .i64 1))⟩])
        (.cond (.t 25)
          (.seq (.reg [⟨some 26, none, .mv (.t 0)⟩, ⟨some 27, none, .call n_pflotsamref34_bytes_take [(.t 26)]⟩, ⟨some 28, none, .fa 1 (.t 7)⟩, ⟨some 29, none, .fa 0 (.t 28)⟩, ⟨none, none, .st 1 (.t 29) (.t 27)⟩])
            (.seq (.reg [⟨some 30, none, .mv (.t 0)⟩, ⟨some 31, none, .call n_pflotsamref34_bytes_take [(.t 30)]⟩, ⟨some 32, none, .conv .u64 (.t 31)⟩, ⟨some 33, none, .fa 1 (.t 7)⟩, ⟨some 34, none, .fa 1 (.t 33)⟩, ⟨none, none, .st 1 (.t 34) (.t 32)⟩])
            (.seq (.reg [⟨some 35, none, .mv (.t 0)⟩, ⟨some 36, none, .call n_pflotsamref34_bytes_take [(.t 35)]⟩, ⟨some 37, none, .fa 1 (.t 7)⟩, ⟨some 38, none, .fa 2 (.t 37)⟩, ⟨none, none, .st 1 (.t 38) (.t 36)⟩])
            (.reg [⟨some 39, none, .mv (.t 0)⟩, ⟨some 40, none, .call n_pflotsamref34_bytes_take [(.t 39)]⟩, ⟨some 41, none, .fa 1 (.t 7)⟩, ⟨some 42, none, .fa 3 (.t 41)⟩, ⟨none, none, .st 1 (.t 42) (.t 40)⟩]))))
          (.skip)))
      (.seq (.seq (.reg [⟨some 43, none, .fa 0 (.t 7)⟩, ⟨some 44, none, .ld none (.t 43)⟩, ⟨some 45, none, .ic .eql (.t 44) (.c (.int .i64 2))⟩])
        (.cond (.t 45)
          (.reg [⟨some 46, none, .mv (.t 0)⟩, ⟨some 47, none, .call n_pflotsamref34_bytes_take [(.t 46)]⟩, ⟨some 48, none, .fa 5 (.t 7)⟩, ⟨none, none, .st 1 (.t 48) (.t 47)⟩])
          (.skip)))
      (.reg [⟨some 49, none, .tk (.t 5)⟩, ⟨some 50, none, .ld (some 6) (.t 7)⟩, ⟨some 51, none, .bsl 6 [.int .i64 0, .int .i64 0, .int .u64 0, .int .i64 0, .int .i64 0, .int .i64 0] 1 [(0, 6, (.t 50))] false⟩, ⟨some 52, none, .app 6 48 (.t 49) (.t 51) false⟩, ⟨some 5, none, .tk (.t 52)⟩])))))
  (.reg [⟨some 18, none, .mv (.t 6)⟩, ⟨some 19, none, .ia .add .i64 (.t 18) (.c (.int .i64 1))⟩, ⟨some 6, none, .tk (.t 19)⟩]))

def l_pflotsamref34_bytes_cells_0 : AC :=
  .loop [0, 1, 5, 6] b_pflotsamref34_bytes_cells_0

def r_pflotsamref34_bytes_cells_0 : AC :=
  .seq (.reg [⟨some 53, none, .tk (.t 5)⟩, ⟨some 4, none, .tk (.t 53)⟩])
  (.ret)

def c_pflotsamref34_bytes_cells : AFunc :=
  { np := 2, res := [.t 4], body := (
    .seq (.reg [⟨some 4, none, .tk (.c (.own 6 []))⟩])
    (.seq (.reg [⟨some 5, none, .tk (.c (.own 6 []))⟩])
    (.seq (.seq (.reg [⟨some 6, none, .tk (.c (.int .i64 0))⟩])
      (.block 0 (l_pflotsamref34_bytes_cells_0))) r_pflotsamref34_bytes_cells_0))) }

-- flotsam/flotsamref30.Same
def b_flotsamref30_Same_0 : AC :=
  .seq (.seq (.reg [⟨some 11, none, .mv (.t 5)⟩, ⟨some 12, none, .mv (.t 0)⟩, ⟨some 13, none, .len false (.t 12)⟩, ⟨some 14, none, .ic .lss (.t 11) (.t 13)⟩])
    (.cond (.t 14)
      (.skip)
      (.exit 0)))
  (.seq (.block 1 (.seq (.drw [[], [], [], [], [], [], [], [], []] [⟨some 17, none, .mv (.t 0)⟩, ⟨some 18, none, .mv (.t 5)⟩, ⟨some 19, none, .ixa 6 none (.t 17) (.t 18)⟩, ⟨some 20, none, .ld (some 6) (.t 19)⟩, ⟨some 21, none, .mv (.t 1)⟩, ⟨some 22, none, .mv (.t 5)⟩, ⟨some 23, none, .ixa 6 none (.t 21) (.t 22)⟩, ⟨some 24, none, .ld (some 6) (.t 23)⟩, ⟨some 25, none, .eqa true [.int .i64, .int .i64, .int .u64, .int .i64, .int .i64, .int .i64] (.t 20) (.t 24)⟩])
      (.cond (.t 25)
        (.seq (.reg [⟨some 4, none, .tk (.c (.bool false))⟩])
          (.ret))
        (.skip))))
  (.reg [⟨some 15, none, .mv (.t 5)⟩, ⟨some 16, none, .ia .add .i64 (.t 15) (.c (.int .i64 1))⟩, ⟨some 5, none, .tk (.t 16)⟩]))

def l_flotsamref30_Same_0 : AC :=
  .loop [0, 1, 5] b_flotsamref30_Same_0

def r_flotsamref30_Same_0 : AC :=
  .seq (.reg [⟨some 4, none, .tk (.c (.bool true))⟩])
  (.ret)

def c_flotsamref30_Same : AFunc :=
  { np := 2, res := [.t 4], body := (
    .seq (.reg [⟨some 4, none, .tk (.c (.bool false))⟩])
    (.seq (.seq (.reg [⟨some 6, none, .mv (.t 0)⟩, ⟨some 7, none, .len false (.t 6)⟩, ⟨some 8, none, .mv (.t 1)⟩, ⟨some 9, none, .len false (.t 8)⟩, ⟨some 10, none, .ic .neq (.t 7) (.t 9)⟩])
      (.cond (.t 10)
        (.seq (.reg [⟨some 4, none, .tk (.c (.bool false))⟩])
          (.ret))
        (.skip)))
    (.seq (.seq (.reg [⟨some 5, none, .tk (.c (.int .i64 0))⟩])
      (.block 0 (l_flotsamref30_Same_0))) r_flotsamref30_Same_0))) }

-- flotsam/score.odd
def c_score_odd : AFunc :=
  { np := 1, res := [.t 2], body := (
    .seq (.reg [⟨some 1, none, .box (.t 0)⟩, ⟨some 2, none, .tk (.c (.nilf))⟩])
    (.seq (.reg [⟨some 3, none, .mkf (.func n_score_odd_1) [] [(.t 1)]⟩, ⟨some 2, none, .tk (.t 3)⟩])
    (.ret))) }

-- flotsam/cell.Sum
def b_cell_Sum_0 : AC :=
  .seq (.reg [⟨some 9, none, .ic .lss (.t 8) (.t 7)⟩])
  (.seq (.cond (.t 9)
      (.skip)
      (.exit 0))
  (.seq (.block 1 (.seq (.reg [⟨some 10, none, .ixa 6 none (.t 6) (.t 8)⟩, ⟨some 11, none, .ld (some 6) (.t 10)⟩, ⟨some 5, none, .alloc [.int .i64 0, .int .i64 0, .int .u64 0, .int .i64 0, .int .i64 0, .int .i64 0]⟩, ⟨none, none, .st 6 (.t 5) (.t 11)⟩])
      (.seq (.reg [⟨some 12, none, .fa 0 (.t 5)⟩, ⟨some 13, none, .ld none (.t 12)⟩])
      (.block 2 (.seq (.block 4 (.seq (.block 3 (.seq (.seq (.seq (.reg [⟨some 15, none, .ic .eql (.t 13) (.c (.int .i64 2))⟩, ⟨some 14, none, .tk (.t 15)⟩])
                    (.cond (.t 14)
                      (.exit 3)
                      (.skip)))
                  (.seq (.reg [⟨some 17, none, .ic .eql (.t 13) (.c (.int .i64 1))⟩, ⟨some 16, none, .tk (.t 17)⟩])
                  (.cond (.t 16)
                    (.exit 4)
                    (.skip))))
                (.exit 2)))
            (.seq (.reg [⟨some 18, none, .mv (.t 3)⟩, ⟨some 19, none, .ic .eql (.t 18) (.c (.int .i64 1))⟩])
            (.cond (.t 19)
              (.exit 2)
              (.skip)))))
        (.seq (.reg [⟨some 20, none, .fa 0 (.t 5)⟩, ⟨some 21, none, .ld none (.t 20)⟩, ⟨some 3, none, .tk (.t 21)⟩])
        (.exit 2)))))))
  (.reg [⟨some 22, none, .ia .add .i64 (.t 8) (.c (.int .i64 1))⟩, ⟨some 8, none, .mv (.t 22)⟩])))

def l_cell_Sum_0 : AC :=
  .loop [3, 6, 7, 8] b_cell_Sum_0

def r_cell_Sum_0 : AC :=
  .seq (.reg [⟨some 23, none, .mv (.t 3)⟩, ⟨some 2, none, .tk (.t 23)⟩])
  (.ret)

def c_cell_Sum : AFunc :=
  { np := 1, res := [.t 2], body := (
    .seq (.reg [⟨some 2, none, .tk (.c (.int .i64 0))⟩])
    (.seq (.reg [⟨some 3, none, .tk (.c (.int .i64 0))⟩])
    (.seq (.seq (.reg [⟨some 6, none, .mv (.t 0)⟩, ⟨some 7, none, .len false (.t 6)⟩, ⟨some 8, none, .mv (.c (.int .i64 0))⟩])
      (.block 0 (l_cell_Sum_0))) r_cell_Sum_0))) }

-- slices.ContainsFunc[[][]flotsam/api.Cell,[]flotsam/api.Cell]
def c_slices_ContainsFunc_api_Cell_api_Cell : AFunc :=
  { np := 2, res := [.t 4], body := (
    .seq (.reg [⟨some 4, none, .tk (.c (.bool false))⟩])
    (.seq (.reg [⟨some 5, none, .mv (.t 0)⟩, ⟨some 6, none, .mv (.t 1)⟩, ⟨some 7, none, .call n_slices_IndexFunc_api_Cell_api_Cell [(.t 5), (.t 6)]⟩, ⟨some 8, none, .ic .geq (.t 7) (.c (.int .i64 0))⟩, ⟨some 4, none, .tk (.t 8)⟩])
    (.ret))) }

-- flotsam/site.Name
def b_site_Name_0 : AC :=
  .seq (.reg [⟨some 45, none, .ic .lss (.t 44) (.t 43)⟩])
  (.seq (.cond (.t 45)
      (.skip)
      (.exit 0))
  (.seq (.block 1 (.seq (.reg [⟨some 46, none, .ixa 1 none (.t 42) (.t 44)⟩, ⟨some 47, none, .ld none (.t 46)⟩, ⟨some 6, none, .tk (.t 47)⟩])
      (.seq (.seq (.reg [⟨some 48, none, .mv (.t 6)⟩, ⟨some 49, none, .ic .gtr (.t 48) (.c (.int .i64 511))⟩])
        (.cond (.t 49)
          (.seq (.reg [⟨some 2, none, .tk (.c (.str []))⟩, ⟨some 3, none, .tk (.c (.bool false))⟩])
            (.ret))
          (.skip)))
      (.reg [⟨some 50, none, .tk (.t 4)⟩, ⟨some 51, none, .mv (.t 6)⟩, ⟨some 52, none, .callc n_num_Digits [(.t 51)]⟩, ⟨some 53, none, .bsl 1 [.str []] 1 [(0, 1, (.t 52))] false⟩, ⟨some 54, none, .app 1 16 (.t 50) (.t 53) false⟩, ⟨some 4, none, .tk (.t 54)⟩]))))
  (.reg [⟨some 55, none, .ia .add .i64 (.t 44) (.c (.int .i64 1))⟩, ⟨some 44, none, .mv (.t 55)⟩])))

def l_site_Name_0 : AC :=
  .loop [4, 42, 43, 44] b_site_Name_0

def r_site_Name_0 : AC :=
  .seq (.reg [⟨some 56, none, .mv (.t 4)⟩, ⟨some 57, none, .callc n_strings_Join [(.t 56), (.c (.str [32]))]⟩, ⟨some 2, none, .tk (.t 57)⟩, ⟨some 3, none, .tk (.c (.bool true))⟩])
  (.ret)

def c_site_Name : AFunc :=
  { np := 1, res := [.t 2, .t 3], body := (
    .seq (.reg [⟨some 1, none, .box (.t 0)⟩, ⟨some 2, none, .tk (.c (.str []))⟩, ⟨some 3, none, .tk (.c (.bool false))⟩])
    (.seq (.seq (.drw [[], [], [], [], [], [], [], [], [], [], [], [], [], [], [], [], [], [], [], [], [], [], [], [], []] [⟨some 7, none, .fa 0 (.t 1)⟩, ⟨some 8, none, .ld none (.t 7)⟩, ⟨some 9, none, .ic .lss (.t 8) (.c (.int .i64 1))⟩, ⟨some 10, none, .mv (.t 9)⟩, ⟨some 11, (some (10, false)), .fa 0 (.t 1)⟩, ⟨some 12, (some (10, false)), .ld none (.t 11)⟩, ⟨some 13, (some (10, false)), .callc n_site_words []⟩, ⟨some 14, (some (10, false)), .len false (.t 13)⟩, ⟨some 15, (some (10, false)), .ic .geq (.t 12) (.t 14)⟩, ⟨some 16, none, .pick (.t 10) (.c (.bool true)) (.t 15)⟩, ⟨some 17, none, .mv (.t 16)⟩, ⟨some 18, (some (17, false)), .fa 1 (.t 1)⟩, ⟨some 19, (some (17, false)), .ld none (.t 18)⟩, ⟨some 20, (some (17, false)), .ic .lss (.t 19) (.c (.int .i64 0))⟩, ⟨some 21, none, .pick (.t 17) (.c (.bool true)) (.t 20)⟩, ⟨some 22, none, .mv (.t 21)⟩, ⟨some 23, (some (22, false)), .fa 1 (.t 1)⟩, ⟨some 24, (some (22, false)), .ld none (.t 23)⟩, ⟨some 25, (some (22, false)), .ic .gtr (.t 24) (.c (.int .i64 16))⟩, ⟨some 26, none, .pick (.t 22) (.c (.bool true)) (.t 25)⟩, ⟨some 27, none, .mv (.t 26)⟩, ⟨some 28, (some (27, false)), .ld (some 11) (.t 1)⟩, ⟨some 29, (some (27, false)), .callc n_site_may [(.t 28)]⟩, ⟨some 30, (some (27, false)), .notb (.t 29)⟩, ⟨some 31, none, .pick (.t 27) (.c (.bool true)) (.t 30)⟩])
      (.cond (.t 31)
        (.seq (.reg [⟨some 2, none, .tk (.c (.str []))⟩, ⟨some 3, none, .tk (.c (.bool false))⟩])
          (.ret))
        (.skip)))
    (.seq (.drw [[], [], [], [], [], [], [], []] [⟨some 32, none, .fa 0 (.t 1)⟩, ⟨some 33, none, .ld none (.t 32)⟩, ⟨some 34, none, .callc n_site_Word [(.t 33)]⟩, ⟨some 35, none, .fa 1 (.t 1)⟩, ⟨some 36, none, .ld none (.t 35)⟩, ⟨some 37, none, .callc n_num_Digits [(.t 36)]⟩, ⟨some 38, none, .bsl 1 [.str []] 2 [(0, 1, (.t 34)), (1, 1, (.t 37))] false⟩, ⟨some 4, none, .tk (.t 38)⟩])
    (.seq (.seq (.reg [⟨some 39, none, .fa 2 (.t 1)⟩, ⟨some 40, none, .fa 10 (.t 1)⟩, ⟨some 41, none, .ld none (.t 40)⟩, ⟨some 42, none, .slp 1 8 (.t 39) none (some (.t 41)) none⟩, ⟨some 43, none, .len false (.t 42)⟩, ⟨some 44, none, .mv (.c (.int .i64 0))⟩])
      (.block 0 (l_site_Name_0))) r_site_Name_0)))) }

-- slices.Contains[[]flotsam/api.Site,flotsam/api.Site]
def c_slices_Contains_api_Site_api_Site : AFunc :=
  { np := 2, res := [.t 4], body := (
    .seq (.reg [⟨some 3, none, .box (.t 1)⟩, ⟨some 4, none, .tk (.c (.bool false))⟩])
    (.seq (.reg [⟨some 5, none, .mv (.t 0)⟩, ⟨some 6, none, .ld (some 11) (.t 3)⟩, ⟨some 7, none, .callc n_slices_Index_api_Site_api_Site [(.t 5), (.t 6)]⟩, ⟨some 8, none, .ic .geq (.t 7) (.c (.int .i64 0))⟩, ⟨some 4, none, .tk (.t 8)⟩])
    (.ret))) }

-- flotsam/codec.Uint
def b_codec_Uint_0 : AC :=
  .seq (.seq (.reg [⟨some 8, none, .mv (.t 1)⟩, ⟨some 9, none, .ic .geq (.t 8) (.c (.int .u64 128))⟩])
    (.cond (.t 9)
      (.skip)
      (.exit 0)))
  (.seq (.block 1 (.reg [⟨some 12, none, .tk (.t 5)⟩, ⟨some 13, none, .mv (.t 1)⟩, ⟨some 14, none, .conv .u8 (.t 13)⟩, ⟨some 15, none, .ia .or .u8 (.t 14) (.c (.int .u8 128))⟩, ⟨some 16, none, .bsl 1 [.int .u8 0] 1 [(0, 1, (.t 15))] false⟩, ⟨some 17, none, .app 1 1 (.t 12) (.t 16) false⟩, ⟨some 5, none, .tk (.t 17)⟩]))
  (.reg [⟨some 10, none, .mv (.t 1)⟩, ⟨some 11, none, .ia .shr .u64 (.t 10) (.c (.int .u64 7))⟩, ⟨some 1, none, .tk (.t 11)⟩]))

def l_codec_Uint_0 : AC :=
  .loop [1, 5] b_codec_Uint_0

def r_codec_Uint_0 : AC :=
  .seq (.reg [⟨some 18, none, .tk (.t 5)⟩, ⟨some 19, none, .mv (.t 1)⟩, ⟨some 20, none, .conv .u8 (.t 19)⟩, ⟨some 21, none, .bsl 1 [.int .u8 0] 1 [(0, 1, (.t 20))] false⟩, ⟨some 22, none, .app 1 1 (.t 18) (.t 21) false⟩, ⟨some 4, none, .tk (.t 22)⟩])
  (.ret)

def c_codec_Uint : AFunc :=
  { np := 2, res := [.t 4], body := (
    .seq (.reg [⟨some 4, none, .tk (.c (.own 1 []))⟩])
    (.seq (.reg [⟨some 6, none, .mv (.t 0)⟩, ⟨some 7, none, .callc n_slices_Clone_byte_byte [(.t 6)]⟩, ⟨some 5, none, .tk (.t 7)⟩])
    (.seq (.block 0 (l_codec_Uint_0)) r_codec_Uint_0))) }

-- flotsam/flotsamref32.cells
def b_flotsamref32_cells_0 : AC :=
  .seq (.seq (.reg [⟨some 4, none, .mv (.t 3)⟩, ⟨some 5, none, .mv (.t 0)⟩, ⟨some 6, none, .len false (.t 5)⟩, ⟨some 7, none, .ic .lss (.t 4) (.t 6)⟩])
    (.cond (.t 7)
      (.skip)
      (.exit 0)))
  (.seq (.block 1 (.seq (.reg [⟨some 10, none, .mv (.t 0)⟩, ⟨some 11, none, .mv (.t 3)⟩, ⟨some 12, none, .ixa 6 none (.t 10) (.t 11)⟩, ⟨some 13, none, .ld (some 6) (.t 12)⟩, ⟨some 14, none, .callc n_flotsamref30_Right [(.t 13)]⟩, ⟨some 15, none, .notb (.t 14)⟩])
      (.cond (.t 15)
        (.seq (.reg [⟨some 2, none, .tk (.c (.bool false))⟩])
          (.ret))
        (.skip))))
  (.reg [⟨some 8, none, .mv (.t 3)⟩, ⟨some 9, none, .ia .add .i64 (.t 8) (.c (.int .i64 1))⟩, ⟨some 3, none, .tk (.t 9)⟩]))

def l_flotsamref32_cells_0 : AC :=
  .loop [0, 3] b_flotsamref32_cells_0

def r_flotsamref32_cells_0 : AC :=
  .seq (.reg [⟨some 2, none, .tk (.c (.bool true))⟩])
  (.ret)

def c_flotsamref32_cells : AFunc :=
  { np := 1, res := [.t 2], body := (
    .seq (.reg [⟨some 2, none, .tk (.c (.bool false))⟩])
    (.seq (.seq (.reg [⟨some 3, none, .tk (.c (.int .i64 0))⟩])
      (.block 0 (l_flotsamref32_cells_0))) r_flotsamref32_cells_0)) }

-- flotsam/flotsamref30.Sum
def b_flotsamref30_Sum_0 : AC :=
  .seq (.seq (.reg [⟨some 5, none, .mv (.t 4)⟩, ⟨some 6, none, .mv (.t 0)⟩, ⟨some 7, none, .len false (.t 6)⟩, ⟨some 8, none, .ic .lss (.t 5) (.t 7)⟩])
    (.cond (.t 8)
      (.skip)
      (.exit 0)))
  (.seq (.block 1 (.seq (.reg [⟨some 11, none, .mv (.t 0)⟩, ⟨some 12, none, .mv (.t 4)⟩, ⟨some 13, none, .ixa 6 none (.t 11) (.t 12)⟩, ⟨some 14, none, .fa 0 (.t 13)⟩, ⟨some 15, none, .ld none (.t 14)⟩, ⟨some 16, none, .ic .eql (.t 15) (.c (.int .i64 1))⟩, ⟨some 17, none, .mv (.t 16)⟩, ⟨some 18, (some (17, false)), .mv (.t 0)⟩, ⟨some 19, (some (17, false)), .mv (.t 4)⟩, ⟨some 20, (some (17, false)), .ixa 6 none (.t 18) (.t 19)⟩, ⟨some 21, (some (17, false)), .fa 0 (.t 20)⟩, ⟨some 22, (some (17, false)), .ld none (.t 21)⟩, ⟨some 23, (some (17, false)), .ic .eql (.t 22) (.c (.int .i64 2))⟩, ⟨some 24, (some (17, false)), .mv (.t 23)⟩, ⟨some 25, (some (24, true)), .mv (.t 3)⟩, ⟨some 26, (some (24, true)), .ic .eql (.t 25) (.c (.int .i64 0))⟩, ⟨some 27, (some (17, false)), .pick (.t 24) (.t 26) (.c (.bool false))⟩, ⟨some 28, none, .pick (.t 17) (.c (.bool true)) (.t 27)⟩])
      (.cond (.t 28)
        (.reg [⟨some 29, none, .mv (.t 0)⟩, ⟨some 30, none, .mv (.t 4)⟩, ⟨some 31, none, .ixa 6 none (.t 29) (.t 30)⟩, ⟨some 32, none, .fa 0 (.t 31)⟩, ⟨some 33, none, .ld none (.t 32)⟩, ⟨some 3, none, .tk (.t 33)⟩])
        (.skip))))
  (.reg [⟨some 9, none, .mv (.t 4)⟩, ⟨some 10, none, .ia .add .i64 (.t 9) (.c (.int .i64 1))⟩, ⟨some 4, none, .tk (.t 10)⟩]))

def l_flotsamref30_Sum_0 : AC :=
  .loop [0, 3, 4] b_flotsamref30_Sum_0

def r_flotsamref30_Sum_0 : AC :=
  .seq (.reg [⟨some 34, none, .mv (.t 3)⟩, ⟨some 2, none, .tk (.t 34)⟩])
  (.ret)

def c_flotsamref30_Sum : AFunc :=
  { np := 1, res := [.t 2], body := (
    .seq (.reg [⟨some 2, none, .tk (.c (.int .i64 0))⟩])
    (.seq (.reg [⟨some 3, none, .tk (.c (.int .i64 0))⟩])
    (.seq (.seq (.reg [⟨some 4, none, .tk (.c (.int .i64 0))⟩])
      (.block 0 (l_flotsamref30_Sum_0))) r_flotsamref30_Sum_0))) }

-- flotsam/flotsamref25.Name
def b_flotsamref25_Name_0 : AC :=
  .seq (.seq (.reg [⟨some 37, none, .mv (.t 5)⟩, ⟨some 38, none, .fa 10 (.t 1)⟩, ⟨some 39, none, .ld none (.t 38)⟩, ⟨some 40, none, .ic .lss (.t 37) (.t 39)⟩])
    (.cond (.t 40)
      (.skip)
      (.exit 0)))
  (.seq (.block 1 (.seq (.seq (.reg [⟨some 43, none, .mv (.t 5)⟩, ⟨some 44, none, .fa 2 (.t 1)⟩, ⟨some 45, none, .ixa 1 (some 8) (.t 44) (.t 43)⟩, ⟨some 46, none, .ld none (.t 45)⟩, ⟨some 47, none, .ic .gtr (.t 46) (.c (.int .i64 511))⟩])
        (.cond (.t 47)
          (.seq (.reg [⟨some 2, none, .tk (.c (.str []))⟩, ⟨some 3, none, .tk (.c (.bool false))⟩])
            (.ret))
          (.skip)))
      (.reg [⟨some 48, none, .mv (.t 4)⟩, ⟨some 49, none, .sop .add (.t 48) (.c (.str [32]))⟩, ⟨some 50, none, .mv (.t 5)⟩, ⟨some 51, none, .fa 2 (.t 1)⟩, ⟨some 52, none, .ixa 1 (some 8) (.t 51) (.t 50)⟩, ⟨some 53, none, .ld none (.t 52)⟩, ⟨some 54, none, .callc n_flotsamref01_Digits [(.t 53)]⟩, ⟨some 55, none, .sop .add (.t 49) (.t 54)⟩, ⟨some 4, none, .tk (.t 55)⟩])))
  (.reg [⟨some 41, none, .mv (.t 5)⟩, ⟨some 42, none, .ia .add .i64 (.t 41) (.c (.int .i64 1))⟩, ⟨some 5, none, .tk (.t 42)⟩]))

def l_flotsamref25_Name_0 : AC :=
  .loop [1, 4, 5] b_flotsamref25_Name_0

def r_flotsamref25_Name_0 : AC :=
  .seq (.reg [⟨some 56, none, .mv (.t 4)⟩, ⟨some 2, none, .tk (.t 56)⟩, ⟨some 3, none, .tk (.c (.bool true))⟩])
  (.ret)

def c_flotsamref25_Name : AFunc :=
  { np := 1, res := [.t 2, .t 3], body := (
    .seq (.reg [⟨some 1, none, .box (.t 0)⟩, ⟨some 2, none, .tk (.c (.str []))⟩, ⟨some 3, none, .tk (.c (.bool false))⟩])
    (.seq (.seq (.reg [⟨some 6, none, .fa 0 (.t 1)⟩, ⟨some 7, none, .ld none (.t 6)⟩, ⟨some 8, none, .ic .lss (.t 7) (.c (.int .i64 1))⟩, ⟨some 9, none, .mv (.t 8)⟩, ⟨some 10, (some (9, false)), .fa 0 (.t 1)⟩, ⟨some 11, (some (9, false)), .ld none (.t 10)⟩, ⟨some 12, (some (9, false)), .ic .gtr (.t 11) (.c (.int .i64 8))⟩, ⟨some 13, none, .pick (.t 9) (.c (.bool true)) (.t 12)⟩, ⟨some 14, none, .mv (.t 13)⟩, ⟨some 15, (some (14, false)), .fa 1 (.t 1)⟩, ⟨some 16, (some (14, false)), .ld none (.t 15)⟩, ⟨some 17, (some (14, false)), .ic .lss (.t 16) (.c (.int .i64 0))⟩, ⟨some 18, none, .pick (.t 14) (.c (.bool true)) (.t 17)⟩, ⟨some 19, none, .mv (.t 18)⟩, ⟨some 20, (some (19, false)), .fa 1 (.t 1)⟩, ⟨some 21, (some (19, false)), .ld none (.t 20)⟩, ⟨some 22, (some (19, false)), .ic .gtr (.t 21) (.c (.int .i64 16))⟩, ⟨some 23, none, .pick (.t 19) (.c (.bool true)) (.t 22)⟩, ⟨some 24, none, .mv (.t 23)⟩, ⟨some 25, (some (24, false)), .ld (some 11) (.t 1)⟩, ⟨some 26, (some (24, false)), .callc n_flotsamref25_may [(.t 25)]⟩, ⟨some 27, (some (24, false)), .notb (.t 26)⟩, ⟨some 28, none, .pick (.t 24) (.c (.bool true)) (.t 27)⟩])
      (.cond (.t 28)
        (.seq (.reg [⟨some 2, none, .tk (.c (.str []))⟩, ⟨some 3, none, .tk (.c (.bool false))⟩])
          (.ret))
        (.skip)))
    (.seq (.drw [[], [], [], [], [], [], [], [], []] [⟨some 29, none, .fa 0 (.t 1)⟩, ⟨some 30, none, .ld none (.t 29)⟩, ⟨some 31, none, .callc n_flotsamref25_Word [(.t 30)]⟩, ⟨some 32, none, .sop .add (.t 31) (.c (.str [32]))⟩, ⟨some 33, none, .fa 1 (.t 1)⟩, ⟨some 34, none, .ld none (.t 33)⟩, ⟨some 35, none, .callc n_flotsamref01_Digits [(.t 34)]⟩, ⟨some 36, none, .sop .add (.t 32) (.t 35)⟩, ⟨some 4, none, .tk (.t 36)⟩])
    (.seq (.seq (.reg [⟨some 5, none, .tk (.c (.int .i64 0))⟩])
      (.block 0 (l_flotsamref25_Name_0))) r_flotsamref25_Name_0)))) }

-- flotsam/flotsamref03.Uint
def b_flotsamref03_Uint_0 : AC :=
  .seq (.seq (.reg [⟨some 9, none, .mv (.t 1)⟩, ⟨some 10, none, .ic .gtr (.t 9) (.c (.int .u64 127))⟩])
    (.cond (.t 10)
      (.skip)
      (.exit 0)))
  (.block 1 (.seq (.reg [⟨some 11, none, .tk (.t 5)⟩, ⟨some 12, none, .mv (.t 1)⟩, ⟨some 13, none, .ia .rem .u64 (.t 12) (.c (.int .u64 128))⟩, ⟨some 14, none, .conv .u8 (.t 13)⟩, ⟨some 15, none, .ia .add .u8 (.t 14) (.c (.int .u8 128))⟩, ⟨some 16, none, .bsl 1 [.int .u8 0] 1 [(0, 1, (.t 15))] false⟩, ⟨some 17, none, .app 1 1 (.t 11) (.t 16) false⟩, ⟨some 5, none, .tk (.t 17)⟩])
    (.reg [⟨some 18, none, .mv (.t 1)⟩, ⟨some 19, none, .ia .quo .u64 (.t 18) (.c (.int .u64 128))⟩, ⟨some 1, none, .tk (.t 19)⟩])))

def l_flotsamref03_Uint_0 : AC :=
  .loop [1, 5] b_flotsamref03_Uint_0

def r_flotsamref03_Uint_0 : AC :=
  .seq (.reg [⟨some 20, none, .tk (.t 5)⟩, ⟨some 21, none, .mv (.t 1)⟩, ⟨some 22, none, .conv .u8 (.t 21)⟩, ⟨some 23, none, .bsl 1 [.int .u8 0] 1 [(0, 1, (.t 22))] false⟩, ⟨some 24, none, .app 1 1 (.t 20) (.t 23) false⟩, ⟨some 4, none, .tk (.t 24)⟩])
  (.ret)

def c_flotsamref03_Uint : AFunc :=
  { np := 2, res := [.t 4], body := (
    .seq (.reg [⟨some 4, none, .tk (.c (.own 1 []))⟩])
    (.seq (.reg [⟨some 6, none, .bsl 1 [.int .u8 0] 0 [] false⟩, ⟨some 7, none, .mv (.t 0)⟩, ⟨some 8, none, .app 1 1 (.t 6) (.t 7) false⟩, ⟨some 5, none, .tk (.t 8)⟩])
    (.seq (.block 0 (l_flotsamref03_Uint_0)) r_flotsamref03_Uint_0))) }

-- flotsam/codec.TakeUint
def b_codec_TakeUint_0 : AC :=
  .seq (.reg [⟨some 13, none, .ic .lss (.t 12) (.t 11)⟩])
  (.seq (.cond (.t 13)
      (.skip)
      (.exit 0))
  (.seq (.block 1 (.seq (.reg [⟨some 14, none, .mv (.t 12)⟩, ⟨some 15, none, .ixa 1 none (.t 10) (.t 12)⟩, ⟨some 16, none, .ld none (.t 15)⟩, ⟨some 7, none, .tk (.t 14)⟩, ⟨some 8, none, .tk (.t 16)⟩])
      (.seq (.reg [⟨some 17, none, .mv (.t 8)⟩, ⟨some 18, none, .ia .andNot .u8 (.t 17) (.c (.int .u8 128))⟩, ⟨some 19, none, .conv .u64 (.t 18)⟩, ⟨some 9, none, .tk (.t 19)⟩])
      (.seq (.block 2 (.seq (.reg [⟨some 21, none, .mv (.t 6)⟩, ⟨some 22, none, .ic .geq (.t 21) (.c (.int .u64 64))⟩, ⟨some 23, none, .mv (.t 22)⟩, ⟨some 24, (some (23, false)), .mv (.t 9)⟩, ⟨some 25, (some (23, false)), .mv (.t 6)⟩, ⟨some 26, (some (23, false)), .ia .shl .u64 (.t 24) (.t 25)⟩, ⟨some 27, (some (23, false)), .mv (.t 6)⟩, ⟨some 28, (some (23, false)), .ia .shr .u64 (.t 26) (.t 27)⟩, ⟨some 29, (some (23, false)), .mv (.t 9)⟩, ⟨some 30, (some (23, false)), .ic .neq (.t 28) (.t 29)⟩, ⟨some 31, none, .pick (.t 23) (.c (.bool true)) (.t 30)⟩, ⟨some 20, none, .tk (.t 31)⟩])
          (.cond (.t 20)
            (.exit 0)
            (.seq (.reg [⟨some 33, none, .mv (.t 8)⟩, ⟨some 34, none, .ic .eql (.t 33) (.c (.int .u8 0))⟩, ⟨some 35, none, .mv (.t 34)⟩, ⟨some 36, (some (35, true)), .mv (.t 7)⟩, ⟨some 37, (some (35, true)), .ic .gtr (.t 36) (.c (.int .i64 0))⟩, ⟨some 38, none, .pick (.t 35) (.t 37) (.c (.bool false))⟩, ⟨some 32, none, .tk (.t 38)⟩])
              (.cond (.t 32)
                (.exit 0)
                (.skip))))))
      (.seq (.reg [⟨some 39, none, .mv (.t 5)⟩, ⟨some 40, none, .mv (.t 9)⟩, ⟨some 41, none, .mv (.t 6)⟩, ⟨some 42, none, .ia .shl .u64 (.t 40) (.t 41)⟩, ⟨some 43, none, .ia .or .u64 (.t 39) (.t 42)⟩, ⟨some 5, none, .tk (.t 43)⟩])
      (.seq (.seq (.reg [⟨some 44, none, .mv (.t 8)⟩, ⟨some 45, none, .ic .lss (.t 44) (.c (.int .u8 128))⟩])
        (.cond (.t 45)
          (.seq (.reg [⟨some 46, none, .mv (.t 5)⟩, ⟨some 47, none, .mv (.t 0)⟩, ⟨some 48, none, .mv (.t 7)⟩, ⟨some 49, none, .ia .add .i64 (.t 48) (.c (.int .i64 1))⟩, ⟨some 50, none, .sls 1 (.t 47) (some (.t 49)) none none⟩, ⟨some 51, none, .callc n_bytes_Clone [(.t 50)]⟩, ⟨some 2, none, .tk (.t 46)⟩, ⟨some 3, none, .tk (.t 51)⟩, ⟨some 4, none, .tk (.c (.bool true))⟩])
            (.ret))
          (.skip)))
      (.reg [⟨some 52, none, .mv (.t 6)⟩, ⟨some 53, none, .ia .add .u64 (.t 52) (.c (.int .u64 7))⟩, ⟨some 6, none, .tk (.t 53)⟩])))))))
  (.reg [⟨some 54, none, .ia .add .i64 (.t 12) (.c (.int .i64 1))⟩, ⟨some 12, none, .mv (.t 54)⟩])))

def l_codec_TakeUint_0 : AC :=
  .loop [0, 5, 6, 10, 11, 12] b_codec_TakeUint_0

def r_codec_TakeUint_0 : AC :=
  .seq (.reg [⟨some 2, none, .tk (.c (.int .u64 0))⟩, ⟨some 3, none, .tk (.c (.own 1 []))⟩, ⟨some 4, none, .tk (.c (.bool false))⟩])
  (.ret)

def c_codec_TakeUint : AFunc :=
  { np := 1, res := [.t 2, .t 3, .t 4], body := (
    .seq (.reg [⟨some 2, none, .tk (.c (.int .u64 0))⟩, ⟨some 3, none, .tk (.c (.own 1 []))⟩, ⟨some 4, none, .tk (.c (.bool false))⟩])
    (.seq (.reg [⟨some 5, none, .tk (.c (.int .u64 0))⟩, ⟨some 6, none, .tk (.c (.int .u64 0))⟩])
    (.seq (.skip)
    (.seq (.seq (.reg [⟨some 10, none, .mv (.t 0)⟩, ⟨some 11, none, .len false (.t 10)⟩, ⟨some 12, none, .mv (.c (.int .i64 0))⟩])
      (.block 0 (l_codec_TakeUint_0))) r_codec_TakeUint_0)))) }

-- (*flotsam/pack.reader).cell
def c_ppack_reader_cell : AFunc :=
  { np := 1, res := [.cell 2 (some 6)], body := (
    .seq (.reg [⟨some 2, none, .alloc [.int .i64 0, .int .i64 0, .int .u64 0, .int .i64 0, .int .i64 0, .int .i64 0]⟩])
    (.seq (.reg [⟨some 4, none, .mv (.t 0)⟩, ⟨some 5, none, .nck (.t 4)⟩, ⟨some 6, none, .fa 0 (.t 5)⟩, ⟨some 7, none, .call n_ppack_left_number [(.t 6)]⟩, ⟨some 8, none, .bld [.int .i64 0, .int .i64 0, .int .u64 0, .int .i64 0, .int .i64 0, .int .i64 0] [(0, 1, (.t 7))]⟩, ⟨some 3, none, .alloc [.int .i64 0, .int .i64 0, .int .u64 0, .int .i64 0, .int .i64 0, .int .i64 0]⟩, ⟨none, none, .st 6 (.t 3) (.t 8)⟩])
    (.seq (.seq (.reg [⟨some 9, none, .fa 0 (.t 3)⟩, ⟨some 10, none, .ld none (.t 9)⟩])
      (.block 0 (.seq (.reg [⟨some 12, none, .ic .eql (.t 10) (.c (.int .i64 1))⟩, ⟨some 11, none, .tk (.t 12)⟩])
        (.cond (.t 11)
          (.seq (.reg [⟨some 13, none, .mv (.t 0)⟩, ⟨some 14, none, .nck (.t 13)⟩, ⟨some 15, none, .fa 0 (.t 14)⟩, ⟨some 16, none, .call n_ppack_left_number [(.t 15)]⟩, ⟨some 17, none, .fa 1 (.t 3)⟩, ⟨some 18, none, .fa 0 (.t 17)⟩, ⟨none, none, .st 1 (.t 18) (.t 16)⟩])
            (.seq (.reg [⟨some 19, none, .mv (.t 0)⟩, ⟨some 20, none, .nck (.t 19)⟩, ⟨some 21, none, .fa 0 (.t 20)⟩, ⟨some 22, none, .call n_ppack_left_number [(.t 21)]⟩, ⟨some 23, none, .conv .u64 (.t 22)⟩, ⟨some 24, none, .fa 1 (.t 3)⟩, ⟨some 25, none, .fa 1 (.t 24)⟩, ⟨none, none, .st 1 (.t 25) (.t 23)⟩])
            (.seq (.reg [⟨some 26, none, .mv (.t 0)⟩, ⟨some 27, none, .nck (.t 26)⟩, ⟨some 28, none, .fa 0 (.t 27)⟩, ⟨some 29, none, .call n_ppack_left_number [(.t 28)]⟩, ⟨some 30, none, .fa 1 (.t 3)⟩, ⟨some 31, none, .fa 2 (.t 30)⟩, ⟨none, none, .st 1 (.t 31) (.t 29)⟩])
            (.reg [⟨some 32, none, .mv (.t 0)⟩, ⟨some 33, none, .nck (.t 32)⟩, ⟨some 34, none, .fa 0 (.t 33)⟩, ⟨some 35, none, .call n_ppack_left_number [(.t 34)]⟩, ⟨some 36, none, .fa 1 (.t 3)⟩, ⟨some 37, none, .fa 3 (.t 36)⟩, ⟨none, none, .st 1 (.t 37) (.t 35)⟩]))))
          (.seq (.reg [⟨some 39, none, .ic .eql (.t 10) (.c (.int .i64 2))⟩, ⟨some 38, none, .tk (.t 39)⟩])
            (.cond (.t 38)
              (.reg [⟨some 40, none, .mv (.t 0)⟩, ⟨some 41, none, .nck (.t 40)⟩, ⟨some 42, none, .fa 0 (.t 41)⟩, ⟨some 43, none, .call n_ppack_left_number [(.t 42)]⟩, ⟨some 44, none, .fa 5 (.t 3)⟩, ⟨none, none, .st 1 (.t 44) (.t 43)⟩])
              (.skip)))))))
    (.seq (.reg [⟨some 45, none, .ld (some 6) (.t 3)⟩, ⟨none, none, .st 6 (.t 2) (.t 45)⟩])
    (.ret))))) }

-- flotsam/flotsamref03.TakeUint
def b_flotsamref03_TakeUint_0 : AC :=
  .seq (.seq (.reg [⟨some 7, none, .mv (.t 6)⟩, ⟨some 8, none, .mv (.t 0)⟩, ⟨some 9, none, .len false (.t 8)⟩, ⟨some 10, none, .ic .lss (.t 7) (.t 9)⟩, ⟨some 11, none, .mv (.t 10)⟩, ⟨some 12, (some (11, true)), .mv (.t 6)⟩, ⟨some 13, (some (11, true)), .ic .lss (.t 12) (.c (.int .i64 10))⟩, ⟨some 14, none, .pick (.t 11) (.t 13) (.c (.bool false))⟩])
    (.cond (.t 14)
      (.skip)
      (.exit 0)))
  (.seq (.block 1 (.seq (.reg [⟨some 17, none, .mv (.t 5)⟩, ⟨some 18, none, .mv (.t 0)⟩, ⟨some 19, none, .mv (.t 6)⟩, ⟨some 20, none, .ixa 1 none (.t 18) (.t 19)⟩, ⟨some 21, none, .ld none (.t 20)⟩, ⟨some 22, none, .ia .and .u8 (.t 21) (.c (.int .u8 127))⟩, ⟨some 23, none, .conv .u64 (.t 22)⟩, ⟨some 24, none, .mv (.t 6)⟩, ⟨some 25, none, .ia .mul .i64 (.c (.int .i64 7)) (.t 24)⟩, ⟨some 26, none, .ia .shl .u64 (.t 23) (.t 25)⟩, ⟨some 27, none, .ia .or .u64 (.t 17) (.t 26)⟩, ⟨some 5, none, .tk (.t 27)⟩])
      (.seq (.seq (.reg [⟨some 28, none, .mv (.t 0)⟩, ⟨some 29, none, .mv (.t 6)⟩, ⟨some 30, none, .ixa 1 none (.t 28) (.t 29)⟩, ⟨some 31, none, .ld none (.t 30)⟩, ⟨some 32, none, .ic .gtr (.t 31) (.c (.int .u8 127))⟩])
        (.cond (.t 32)
          (.exit 1)
          (.skip)))
      (.seq (.seq (.drw [[], [], [], [], [], [], [], [], []] [⟨some 33, none, .mv (.t 5)⟩, ⟨some 34, none, .callc n_flotsamref03_Uint [(.c (.own 1 [])), (.t 33)]⟩, ⟨some 35, none, .b2s (.t 34)⟩, ⟨some 36, none, .mv (.t 0)⟩, ⟨some 37, none, .mv (.t 6)⟩, ⟨some 38, none, .ia .add .i64 (.t 37) (.c (.int .i64 1))⟩, ⟨some 39, none, .sls 1 (.t 36) none (some (.t 38)) none⟩, ⟨some 40, none, .b2s (.t 39)⟩, ⟨some 41, none, .sop .neq (.t 35) (.t 40)⟩])
        (.cond (.t 41)
          (.seq (.reg [⟨some 2, none, .tk (.c (.int .u64 0))⟩, ⟨some 3, none, .tk (.c (.own 1 []))⟩, ⟨some 4, none, .tk (.c (.bool false))⟩])
            (.ret))
          (.skip)))
      (.seq (.reg [⟨some 42, none, .mv (.t 5)⟩, ⟨some 43, none, .bsl 1 [.int .u8 0] 0 [] false⟩, ⟨some 44, none, .mv (.t 0)⟩, ⟨some 45, none, .mv (.t 6)⟩, ⟨some 46, none, .ia .add .i64 (.t 45) (.c (.int .i64 1))⟩, ⟨some 47, none, .sls 1 (.t 44) (some (.t 46)) none none⟩, ⟨some 48, none, .app 1 1 (.t 43) (.t 47) false⟩, ⟨some 2, none, .tk (.t 42)⟩, ⟨some 3, none, .tk (.t 48)⟩, ⟨some 4, none, .tk (.c (.bool true))⟩])
      (.ret))))))
  (.reg [⟨some 15, none, .mv (.t 6)⟩, ⟨some 16, none, .ia .add .i64 (.t 15) (.c (.int .i64 1))⟩, ⟨some 6, none, .tk (.t 16)⟩]))

def l_flotsamref03_TakeUint_0 : AC :=
  .loop [0, 5, 6] b_flotsamref03_TakeUint_0

def r_flotsamref03_TakeUint_0 : AC :=
  .seq (.reg [⟨some 2, none, .tk (.c (.int .u64 0))⟩, ⟨some 3, none, .tk (.c (.own 1 []))⟩, ⟨some 4, none, .tk (.c (.bool false))⟩])
  (.ret)

def c_flotsamref03_TakeUint : AFunc :=
  { np := 1, res := [.t 2, .t 3, .t 4], body := (
    .seq (.reg [⟨some 2, none, .tk (.c (.int .u64 0))⟩, ⟨some 3, none, .tk (.c (.own 1 []))⟩, ⟨some 4, none, .tk (.c (.bool false))⟩])
    (.seq (.reg [⟨some 5, none, .tk (.c (.int .u64 0))⟩])
    (.seq (.seq (.reg [⟨some 6, none, .tk (.c (.int .i64 0))⟩])
      (.block 0 (l_flotsamref03_TakeUint_0))) r_flotsamref03_TakeUint_0))) }

-- flotsam/score.odd$1
def c_score_odd_1 : AFunc :=
  { np := 2, res := [.t 3], body := (
    .seq (.reg [⟨some 3, none, .tk (.c (.bool false))⟩])
    (.seq (.drw [[], [], [], [], [], [], [], [], [], [], []] [⟨some 4, none, .mv (.t 0)⟩, ⟨some 5, none, .len false (.t 4)⟩, ⟨some 6, none, .ld none (.t 1)⟩, ⟨some 7, none, .ic .neq (.t 5) (.t 6)⟩, ⟨some 8, none, .mv (.t 7)⟩, ⟨some 9, (some (8, false)), .mv (.t 0)⟩, ⟨some 10, (some (8, false)), .callc n_score_count_api_Cell [(.t 9), (.c (.fn (.func n_cell_Right) [] []))]⟩, ⟨some 11, (some (8, false)), .ld none (.t 1)⟩, ⟨some 12, (some (8, false)), .ic .neq (.t 10) (.t 11)⟩, ⟨some 13, none, .pick (.t 8) (.c (.bool true)) (.t 12)⟩, ⟨some 3, none, .tk (.t 13)⟩])
    (.ret))) }

-- flotsam/score.count[flotsam/api.Cell]
def b_score_count_api_Cell_0 : AC :=
  .seq (.reg [⟨some 11, none, .ic .lss (.t 10) (.t 9)⟩])
  (.seq (.cond (.t 11)
      (.skip)
      (.exit 0))
  (.seq (.block 1 (.seq (.reg [⟨some 12, none, .ixa 6 none (.t 8) (.t 10)⟩, ⟨some 13, none, .ld (some 6) (.t 12)⟩, ⟨some 7, none, .alloc [.int .i64 0, .int .i64 0, .int .u64 0, .int .i64 0, .int .i64 0, .int .i64 0]⟩, ⟨none, none, .st 6 (.t 7) (.t 13)⟩])
      (.seq (.reg [⟨some 14, none, .mv (.t 1)⟩, ⟨some 15, none, .ld (some 6) (.t 7)⟩, ⟨some 16, none, .callv (.t 14) [(.t 15)]⟩])
      (.cond (.t 16)
        (.reg [⟨some 17, none, .mv (.t 5)⟩, ⟨some 18, none, .ia .add .i64 (.t 17) (.c (.int .i64 1))⟩, ⟨some 5, none, .tk (.t 18)⟩])
        (.skip)))))
  (.reg [⟨some 19, none, .ia .add .i64 (.t 10) (.c (.int .i64 1))⟩, ⟨some 10, none, .mv (.t 19)⟩])))

def l_score_count_api_Cell_0 : AC :=
  .loop [1, 5, 8, 9, 10] b_score_count_api_Cell_0

def r_score_count_api_Cell_0 : AC :=
  .seq (.reg [⟨some 20, none, .mv (.t 5)⟩, ⟨some 4, none, .tk (.t 20)⟩])
  (.ret)

def c_score_count_api_Cell : AFunc :=
  { np := 2, res := [.t 4], body := (
    .seq (.reg [⟨some 4, none, .tk (.c (.int .i64 0))⟩])
    (.seq (.reg [⟨some 5, none, .tk (.c (.int .i64 0))⟩])
    (.seq (.seq (.reg [⟨some 8, none, .mv (.t 0)⟩, ⟨some 9, none, .len false (.t 8)⟩, ⟨some 10, none, .mv (.c (.int .i64 0))⟩])
      (.block 0 (l_score_count_api_Cell_0))) r_score_count_api_Cell_0))) }

-- flotsam/cell.Right
def c_cell_Right : AFunc :=
  { np := 1, res := [.t 2], body := (
    .seq (.reg [⟨some 1, none, .box (.t 0)⟩, ⟨some 2, none, .tk (.c (.bool false))⟩])
    (.seq (.seq (.reg [⟨some 3, none, .fa 0 (.t 1)⟩, ⟨some 4, none, .ld none (.t 3)⟩])
      (.block 0 (.seq (.reg [⟨some 6, none, .ic .eql (.t 4) (.c (.int .i64 1))⟩, ⟨some 5, none, .tk (.t 6)⟩])
        (.cond (.t 5)
          (.seq (.reg [⟨some 7, none, .fa 5 (.t 1)⟩, ⟨some 8, none, .ld none (.t 7)⟩, ⟨some 9, none, .ic .eql (.t 8) (.c (.int .i64 0))⟩, ⟨some 10, none, .mv (.t 9)⟩, ⟨some 11, (some (10, true)), .fa 1 (.t 1)⟩, ⟨some 12, (some (10, true)), .ld (some 4) (.t 11)⟩, ⟨some 13, (some (10, true)), .callc n_cell_witness [(.t 12)]⟩, ⟨some 14, none, .pick (.t 10) (.t 13) (.c (.bool false))⟩, ⟨some 2, none, .tk (.t 14)⟩])
            (.ret))
          (.seq (.reg [⟨some 16, none, .ic .eql (.t 4) (.c (.int .i64 2))⟩, ⟨some 15, none, .tk (.t 16)⟩])
            (.cond (.t 15)
              (.seq (.reg [⟨some 17, none, .fa 1 (.t 1)⟩, ⟨some 18, none, .ld (some 4) (.t 17)⟩, ⟨some 19, none, .bld [.int .i64 0, .int .u64 0, .int .i64 0, .int .i64 0] []⟩, ⟨some 20, none, .eqa false [.int .i64, .int .u64, .int .i64, .int .i64] (.t 18) (.t 19)⟩, ⟨some 21, none, .mv (.t 20)⟩, ⟨some 22, (some (21, true)), .fa 5 (.t 1)⟩, ⟨some 23, (some (21, true)), .ld none (.t 22)⟩, ⟨some 24, (some (21, true)), .callc n_cell_limit [(.t 23)]⟩, ⟨some 25, none, .pick (.t 21) (.t 24) (.c (.bool false))⟩, ⟨some 2, none, .tk (.t 25)⟩])
                (.ret))
              (.skip)))))))
    (.seq (.reg [⟨some 26, none, .ld (some 6) (.t 1)⟩, ⟨some 27, none, .bld [.int .i64 0, .int .i64 0, .int .u64 0, .int .i64 0, .int .i64 0, .int .i64 0] []⟩, ⟨some 28, none, .eqa false [.int .i64, .int .i64, .int .u64, .int .i64, .int .i64, .int .i64] (.t 26) (.t 27)⟩, ⟨some 2, none, .tk (.t 28)⟩])
    (.ret)))) }

-- slices.IndexFunc[[][]flotsam/api.Cell,[]flotsam/api.Cell]
def b_slices_IndexFunc_api_Cell_api_Cell_0 : AC :=
  .seq (.reg [⟨some 9, none, .ic .lss (.t 8) (.t 7)⟩])
  (.seq (.cond (.t 9)
      (.skip)
      (.exit 0))
  (.seq (.block 1 (.seq (.reg [⟨some 10, none, .mv (.t 8)⟩, ⟨some 5, none, .tk (.t 10)⟩])
      (.seq (.reg [⟨some 11, none, .mv (.t 1)⟩, ⟨some 12, none, .mv (.t 0)⟩, ⟨some 13, none, .mv (.t 5)⟩, ⟨some 14, none, .ixa 1 none (.t 12) (.t 13)⟩, ⟨some 15, none, .ld none (.t 14)⟩, ⟨some 16, none, .callv (.t 11) [(.t 15)]⟩])
      (.cond (.t 16)
        (.seq (.reg [⟨some 17, none, .mv (.t 5)⟩, ⟨some 4, none, .tk (.t 17)⟩])
          (.ret))
        (.skip)))))
  (.reg [⟨some 18, none, .ia .add .i64 (.t 8) (.c (.int .i64 1))⟩, ⟨some 8, none, .mv (.t 18)⟩])))

def l_slices_IndexFunc_api_Cell_api_Cell_0 : AC :=
  .loop [0, 1, 7, 8] b_slices_IndexFunc_api_Cell_api_Cell_0

def r_slices_IndexFunc_api_Cell_api_Cell_0 : AC :=
  .seq (.reg [⟨some 4, none, .tk (.c (.int .i64 (-1)))⟩])
  (.ret)

def c_slices_IndexFunc_api_Cell_api_Cell : AFunc :=
  { np := 2, res := [.t 4], body := (
    .seq (.reg [⟨some 4, none, .tk (.c (.int .i64 0))⟩])
    (.seq (.seq (.reg [⟨some 6, none, .mv (.t 0)⟩, ⟨some 7, none, .len false (.t 6)⟩, ⟨some 8, none, .mv (.c (.int .i64 0))⟩])
      (.block 0 (l_slices_IndexFunc_api_Cell_api_Cell_0))) r_slices_IndexFunc_api_Cell_api_Cell_0)) }

-- flotsam/site.words
def c_site_words : AFunc :=
  { np := 0, res := [.t 0], body := (
    .seq (.reg [⟨some 0, none, .tk (.c (.own 1 []))⟩])
    (.seq (.reg [⟨some 1, none, .callc n_strings_Fields [(.c (.str [63, 32, 100, 114, 111, 112, 45, 115, 121, 110, 99, 32, 119, 101, 97, 107, 45, 115, 121, 110, 99, 32, 100, 114, 111, 112, 45, 100, 105, 114, 32, 100, 114, 111, 112, 45, 98, 97, 114, 114, 105, 101, 114, 32, 115, 119, 97, 112, 32, 110, 111, 45, 99, 111, 109, 109, 105, 116, 32, 116, 101, 97, 114, 32, 100, 114, 111, 112, 45, 119, 114, 105, 116, 101]))]⟩, ⟨some 0, none, .tk (.t 1)⟩])
    (.ret))) }

-- flotsam/site.may
def b_site_may_0 : AC :=
  .seq (.reg [⟨some 17, none, .ic .lss (.t 16) (.c (.int .i64 8))⟩])
  (.seq (.cond (.t 17)
      (.skip)
      (.exit 0))
  (.seq (.block 1 (.seq (.reg [⟨some 18, none, .ixv none 1 8 (.t 15) (.t 16)⟩, ⟨some 4, none, .tk (.t 18)⟩])
      (.seq (.reg [⟨some 19, none, .mv (.t 4)⟩, ⟨some 20, none, .ic .lss (.t 19) (.c (.int .i64 0))⟩])
      (.cond (.t 20)
        (.seq (.reg [⟨some 2, none, .tk (.c (.bool false))⟩])
          (.ret))
        (.skip)))))
  (.reg [⟨some 21, none, .ia .add .i64 (.t 16) (.c (.int .i64 1))⟩, ⟨some 16, none, .mv (.t 21)⟩])))

def l_site_may_0 : AC :=
  .loop [1, 15, 16] b_site_may_0

def r_site_may_0 : AC :=
  .seq (.reg [⟨some 22, none, .ld (some 11) (.t 1)⟩, ⟨some 5, none, .alloc [.int .i64 0, .int .i64 0, .int .i64 0, .int .i64 0, .int .i64 0, .int .i64 0, .int .i64 0, .int .i64 0, .int .i64 0, .int .i64 0, .int .i64 0]⟩, ⟨none, none, .st 11 (.t 5) (.t 22)⟩])
  (.seq (.reg [⟨some 23, none, .fa 2 (.t 5)⟩, ⟨some 24, none, .fa 10 (.t 1)⟩, ⟨some 25, none, .ld none (.t 24)⟩, ⟨some 26, none, .slp 1 8 (.t 23) (some (.t 25)) none none⟩, ⟨none, none, .clr 1 [.int .i64 0] (.t 26)⟩])
  (.seq (.reg [⟨some 27, none, .fa 2 (.t 5)⟩, ⟨some 28, none, .ld (some 8) (.t 27)⟩, ⟨some 29, none, .fa 2 (.t 1)⟩, ⟨some 30, none, .ld (some 8) (.t 29)⟩, ⟨some 31, none, .eqa false [.int .i64, .int .i64, .int .i64, .int .i64, .int .i64, .int .i64, .int .i64, .int .i64] (.t 28) (.t 30)⟩, ⟨some 2, none, .tk (.t 31)⟩])
  (.ret)))

def c_site_may : AFunc :=
  { np := 1, res := [.t 2], body := (
    .seq (.reg [⟨some 1, none, .box (.t 0)⟩, ⟨some 2, none, .tk (.c (.bool false))⟩])
    (.seq (.seq (.reg [⟨some 6, none, .fa 10 (.t 1)⟩, ⟨some 7, none, .ld none (.t 6)⟩, ⟨some 8, none, .ic .lss (.t 7) (.c (.int .i64 1))⟩, ⟨some 9, none, .mv (.t 8)⟩, ⟨some 10, (some (9, false)), .fa 10 (.t 1)⟩, ⟨some 11, (some (9, false)), .ld none (.t 10)⟩, ⟨some 12, (some (9, false)), .ic .gtr (.t 11) (.c (.int .i64 8))⟩, ⟨some 13, none, .pick (.t 9) (.c (.bool true)) (.t 12)⟩])
      (.cond (.t 13)
        (.seq (.reg [⟨some 2, none, .tk (.c (.bool false))⟩])
          (.ret))
        (.skip)))
    (.seq (.seq (.reg [⟨some 14, none, .fa 2 (.t 1)⟩, ⟨some 15, none, .ld (some 8) (.t 14)⟩, ⟨some 16, none, .mv (.c (.int .i64 0))⟩])
      (.block 0 (l_site_may_0))) r_site_may_0))) }

-- flotsam/site.Word
def c_site_Word : AFunc :=
  { np := 1, res := [.t 2], body := (
    .seq (.reg [⟨some 2, none, .tk (.c (.str []))⟩])
    (.seq (.reg [⟨some 4, none, .callc n_site_words []⟩, ⟨some 3, none, .tk (.t 4)⟩])
    (.seq (.seq (.reg [⟨some 5, none, .mv (.t 0)⟩, ⟨some 6, none, .ic .lss (.t 5) (.c (.int .i64 0))⟩, ⟨some 7, none, .mv (.t 6)⟩, ⟨some 8, (some (7, false)), .mv (.t 0)⟩, ⟨some 9, (some (7, false)), .mv (.t 3)⟩, ⟨some 10, (some (7, false)), .len false (.t 9)⟩, ⟨some 11, (some (7, false)), .ic .geq (.t 8) (.t 10)⟩, ⟨some 12, none, .pick (.t 7) (.c (.bool true)) (.t 11)⟩])
      (.cond (.t 12)
        (.seq (.reg [⟨some 13, none, .mv (.t 3)⟩, ⟨some 14, none, .ixa 1 none (.t 13) (.c (.int .i64 0))⟩, ⟨some 15, none, .ld none (.t 14)⟩, ⟨some 2, none, .tk (.t 15)⟩])
          (.ret))
        (.skip)))
    (.seq (.reg [⟨some 16, none, .mv (.t 3)⟩, ⟨some 17, none, .mv (.t 0)⟩, ⟨some 18, none, .ixa 1 none (.t 16) (.t 17)⟩, ⟨some 19, none, .ld none (.t 18)⟩, ⟨some 2, none, .tk (.t 19)⟩])
    (.ret))))) }

-- flotsam/num.Digits
def b_num_Digits_0 : AC :=
  .block 1 (.seq (.reg [⟨some 12, none, .mv (.t 4)⟩, ⟨some 13, none, .ia .sub .i64 (.t 12) (.c (.int .i64 1))⟩, ⟨some 4, none, .tk (.t 13)⟩])
    (.seq (.reg [⟨some 14, none, .mv (.t 4)⟩, ⟨some 15, none, .mv (.t 5)⟩, ⟨some 16, none, .ia .rem .u64 (.t 15) (.c (.int .u64 10))⟩, ⟨some 17, none, .ia .add .u64 (.c (.int .u64 48)) (.t 16)⟩, ⟨some 18, none, .conv .u8 (.t 17)⟩, ⟨some 19, none, .ixa 1 (some 20) (.t 3) (.t 14)⟩, ⟨none, none, .st 1 (.t 19) (.t 18)⟩])
    (.seq (.reg [⟨some 20, none, .mv (.t 5)⟩, ⟨some 21, none, .ia .quo .u64 (.t 20) (.c (.int .u64 10))⟩, ⟨some 5, none, .tk (.t 21)⟩])
    (.seq (.reg [⟨some 22, none, .mv (.t 5)⟩, ⟨some 23, none, .ic .eql (.t 22) (.c (.int .u64 0))⟩])
    (.cond (.t 23)
      (.exit 0)
      (.skip))))))

def l_num_Digits_0 : AC :=
  .loop [0, 3, 4, 5] b_num_Digits_0

def r_num_Digits_0 : AC :=
  .seq (.seq (.reg [⟨some 24, none, .mv (.t 0)⟩, ⟨some 25, none, .ic .lss (.t 24) (.c (.int .i64 0))⟩])
    (.cond (.t 25)
      (.seq (.reg [⟨some 26, none, .mv (.t 4)⟩, ⟨some 27, none, .ia .sub .i64 (.t 26) (.c (.int .i64 1))⟩, ⟨some 4, none, .tk (.t 27)⟩])
        (.reg [⟨some 28, none, .mv (.t 4)⟩, ⟨some 29, none, .ixa 1 (some 20) (.t 3) (.t 28)⟩, ⟨none, none, .st 1 (.t 29) (.c (.int .u8 45))⟩]))
      (.skip)))
  (.seq (.reg [⟨some 30, none, .mv (.t 4)⟩, ⟨some 31, none, .slp 1 20 (.t 3) (some (.t 30)) none none⟩, ⟨some 32, none, .b2s (.t 31)⟩, ⟨some 2, none, .tk (.t 32)⟩])
  (.ret))

def c_num_Digits : AFunc :=
  { np := 1, res := [.t 2], body := (
    .seq (.reg [⟨some 2, none, .tk (.c (.str []))⟩])
    (.seq (.reg [⟨some 3, none, .alloc [.int .u8 0, .int .u8 0, .int .u8 0, .int .u8 0, .int .u8 0, .int .u8 0, .int .u8 0, .int .u8 0, .int .u8 0, .int .u8 0, .int .u8 0, .int .u8 0, .int .u8 0, .int .u8 0, .int .u8 0, .int .u8 0, .int .u8 0, .int .u8 0, .int .u8 0, .int .u8 0]⟩])
    (.seq (.reg [⟨some 4, none, .tk (.c (.int .i64 20))⟩])
    (.seq (.reg [⟨some 6, none, .mv (.t 0)⟩, ⟨some 7, none, .conv .u64 (.t 6)⟩, ⟨some 5, none, .tk (.t 7)⟩])
    (.seq (.seq (.reg [⟨some 8, none, .mv (.t 0)⟩, ⟨some 9, none, .ic .lss (.t 8) (.c (.int .i64 0))⟩])
      (.cond (.t 9)
        (.reg [⟨some 10, none, .mv (.t 5)⟩, ⟨some 11, none, .neg .u64 (.t 10)⟩, ⟨some 5, none, .tk (.t 11)⟩])
        (.skip)))
    (.seq (.block 0 (l_num_Digits_0)) r_num_Digits_0)))))) }

-- slices.Index[[]flotsam/api.Site,flotsam/api.Site]
def b_slices_Index_api_Site_api_Site_0 : AC :=
  .seq (.reg [⟨some 9, none, .ic .lss (.t 8) (.t 7)⟩])
  (.seq (.cond (.t 9)
      (.skip)
      (.exit 0))
  (.seq (.block 1 (.seq (.reg [⟨some 10, none, .mv (.t 8)⟩, ⟨some 5, none, .tk (.t 10)⟩])
      (.seq (.drw [[], [], [], [], [], []] [⟨some 11, none, .ld (some 11) (.t 3)⟩, ⟨some 12, none, .mv (.t 0)⟩, ⟨some 13, none, .mv (.t 5)⟩, ⟨some 14, none, .ixa 11 none (.t 12) (.t 13)⟩, ⟨some 15, none, .ld (some 11) (.t 14)⟩, ⟨some 16, none, .eqa false [.int .i64, .int .i64, .int .i64, .int .i64, .int .i64, .int .i64, .int .i64, .int .i64, .int .i64, .int .i64, .int .i64] (.t 11) (.t 15)⟩])
      (.cond (.t 16)
        (.seq (.reg [⟨some 17, none, .mv (.t 5)⟩, ⟨some 4, none, .tk (.t 17)⟩])
          (.ret))
        (.skip)))))
  (.reg [⟨some 18, none, .ia .add .i64 (.t 8) (.c (.int .i64 1))⟩, ⟨some 8, none, .mv (.t 18)⟩])))

def l_slices_Index_api_Site_api_Site_0 : AC :=
  .loop [0, 3, 7, 8] b_slices_Index_api_Site_api_Site_0

def r_slices_Index_api_Site_api_Site_0 : AC :=
  .seq (.reg [⟨some 4, none, .tk (.c (.int .i64 (-1)))⟩])
  (.ret)

def c_slices_Index_api_Site_api_Site : AFunc :=
  { np := 2, res := [.t 4], body := (
    .seq (.reg [⟨some 3, none, .box (.t 1)⟩, ⟨some 4, none, .tk (.c (.int .i64 0))⟩])
    (.seq (.seq (.reg [⟨some 6, none, .mv (.t 0)⟩, ⟨some 7, none, .len false (.t 6)⟩, ⟨some 8, none, .mv (.c (.int .i64 0))⟩])
      (.block 0 (l_slices_Index_api_Site_api_Site_0))) r_slices_Index_api_Site_api_Site_0)) }

-- flotsam/flotsamref30.Right
def c_flotsamref30_Right : AFunc :=
  { np := 1, res := [.t 2], body := (
    .seq (.reg [⟨some 1, none, .box (.t 0)⟩, ⟨some 2, none, .tk (.c (.bool false))⟩])
    (.seq (.reg [⟨some 4, none, .fa 1 (.t 1)⟩, ⟨some 5, none, .ld (some 4) (.t 4)⟩, ⟨some 3, none, .alloc [.int .i64 0, .int .u64 0, .int .i64 0, .int .i64 0]⟩, ⟨none, none, .st 4 (.t 3) (.t 5)⟩])
    (.seq (.seq (.reg [⟨some 6, none, .fa 0 (.t 1)⟩, ⟨some 7, none, .ld none (.t 6)⟩])
      (.block 0 (.seq (.reg [⟨some 9, none, .ic .eql (.t 7) (.c (.int .i64 0))⟩, ⟨some 8, none, .tk (.t 9)⟩])
        (.cond (.t 8)
          (.seq (.reg [⟨some 10, none, .ld (some 6) (.t 1)⟩, ⟨some 11, none, .bld [.int .i64 0, .int .i64 0, .int .u64 0, .int .i64 0, .int .i64 0, .int .i64 0] []⟩, ⟨some 12, none, .eqa false [.int .i64, .int .i64, .int .u64, .int .i64, .int .i64, .int .i64] (.t 10) (.t 11)⟩, ⟨some 2, none, .tk (.t 12)⟩])
            (.ret))
          (.seq (.reg [⟨some 14, none, .ic .eql (.t 7) (.c (.int .i64 1))⟩, ⟨some 13, none, .tk (.t 14)⟩])
            (.cond (.t 13)
              (.seq (.seq (.reg [⟨some 15, none, .fa 5 (.t 1)⟩, ⟨some 16, none, .ld none (.t 15)⟩, ⟨some 17, none, .ic .neq (.t 16) (.c (.int .i64 0))⟩, ⟨some 18, none, .mv (.t 17)⟩, ⟨some 19, (some (18, false)), .fa 0 (.t 3)⟩, ⟨some 20, (some (18, false)), .ld none (.t 19)⟩, ⟨some 21, (some (18, false)), .ic .lss (.t 20) (.c (.int .i64 0))⟩, ⟨some 22, none, .pick (.t 18) (.c (.bool true)) (.t 21)⟩, ⟨some 23, none, .mv (.t 22)⟩, ⟨some 24, (some (23, false)), .fa 0 (.t 3)⟩, ⟨some 25, (some (23, false)), .ld none (.t 24)⟩, ⟨some 26, (some (23, false)), .ic .gtr (.t 25) (.c (.int .i64 1000000))⟩, ⟨some 27, none, .pick (.t 23) (.c (.bool true)) (.t 26)⟩, ⟨some 28, none, .mv (.t 27)⟩, ⟨some 29, (some (28, false)), .fa 1 (.t 3)⟩, ⟨some 30, (some (28, false)), .ld none (.t 29)⟩, ⟨some 31, (some (28, false)), .ic .geq (.t 30) (.c (.int .u64 65536))⟩, ⟨some 32, none, .pick (.t 28) (.c (.bool true)) (.t 31)⟩])
                  (.cond (.t 32)
                    (.seq (.reg [⟨some 2, none, .tk (.c (.bool false))⟩])
                      (.ret))
                    (.skip)))
                (.seq (.reg [⟨some 33, none, .fa 2 (.t 3)⟩, ⟨some 34, none, .ld none (.t 33)⟩, ⟨some 35, none, .ic .eql (.t 34) (.c (.int .i64 1))⟩, ⟨some 36, none, .mv (.t 35)⟩, ⟨some 37, (some (36, true)), .fa 3 (.t 3)⟩, ⟨some 38, (some (36, true)), .ld none (.t 37)⟩, ⟨some 39, (some (36, true)), .ic .eql (.t 38) (.c (.int .i64 0))⟩, ⟨some 40, none, .pick (.t 36) (.t 39) (.c (.bool false))⟩, ⟨some 41, none, .mv (.t 40)⟩, ⟨some 42, (some (41, false)), .fa 2 (.t 3)⟩, ⟨some 43, (some (41, false)), .ld none (.t 42)⟩, ⟨some 44, (some (41, false)), .ic .eql (.t 43) (.c (.int .i64 2))⟩, ⟨some 45, (some (41, false)), .mv (.t 44)⟩, ⟨some 46, (some (45, true)), .fa 3 (.t 3)⟩, ⟨some 47, (some (45, true)), .ld none (.t 46)⟩, ⟨some 48, (some (45, true)), .ic .geq (.t 47) (.c (.int .i64 1))⟩, ⟨some 49, (some (41, false)), .pick (.t 45) (.t 48) (.c (.bool false))⟩, ⟨some 50, (some (41, false)), .mv (.t 49)⟩, ⟨some 51, (some (50, true)), .fa 3 (.t 3)⟩, ⟨some 52, (some (50, true)), .ld none (.t 51)⟩, ⟨some 53, (some (50, true)), .ic .leq (.t 52) (.c (.int .i64 15))⟩, ⟨some 54, (some (41, false)), .pick (.t 50) (.t 53) (.c (.bool false))⟩, ⟨some 55, (some (41, false)), .mv (.t 54)⟩, ⟨some 56, (some (55, true)), .fa 3 (.t 3)⟩, ⟨some 57, (some (55, true)), .ld none (.t 56)⟩, ⟨some 58, (some (55, true)), .ic .neq (.t 57) (.c (.int .i64 10))⟩, ⟨some 59, (some (41, false)), .pick (.t 55) (.t 58) (.c (.bool false))⟩, ⟨some 60, none, .pick (.t 41) (.c (.bool true)) (.t 59)⟩, ⟨some 2, none, .tk (.t 60)⟩])
                (.ret)))
              (.seq (.reg [⟨some 62, none, .ic .eql (.t 7) (.c (.int .i64 2))⟩, ⟨some 61, none, .tk (.t 62)⟩])
                (.cond (.t 61)
                  (.seq (.reg [⟨some 63, none, .ld (some 4) (.t 3)⟩, ⟨some 64, none, .bld [.int .i64 0, .int .u64 0, .int .i64 0, .int .i64 0] []⟩, ⟨some 65, none, .eqa false [.int .i64, .int .u64, .int .i64, .int .i64] (.t 63) (.t 64)⟩, ⟨some 66, none, .mv (.t 65)⟩, ⟨some 67, (some (66, true)), .fa 5 (.t 1)⟩, ⟨some 68, (some (66, true)), .ld none (.t 67)⟩, ⟨some 69, (some (66, true)), .ic .eql (.t 68) (.c (.int .i64 10))⟩, ⟨some 70, (some (66, true)), .mv (.t 69)⟩, ⟨some 71, (some (70, false)), .fa 5 (.t 1)⟩, ⟨some 72, (some (70, false)), .ld none (.t 71)⟩, ⟨some 73, (some (70, false)), .ic .eql (.t 72) (.c (.int .i64 13))⟩, ⟨some 74, (some (66, true)), .pick (.t 70) (.c (.bool true)) (.t 73)⟩, ⟨some 75, (some (66, true)), .mv (.t 74)⟩, ⟨some 76, (some (75, false)), .fa 5 (.t 1)⟩, ⟨some 77, (some (75, false)), .ld none (.t 76)⟩, ⟨some 78, (some (75, false)), .ic .eql (.t 77) (.c (.int .i64 14))⟩, ⟨some 79, (some (66, true)), .pick (.t 75) (.c (.bool true)) (.t 78)⟩, ⟨some 80, none, .pick (.t 66) (.t 79) (.c (.bool false))⟩, ⟨some 2, none, .tk (.t 80)⟩])
                    (.ret))
                  (.skip)))))))))
    (.seq (.reg [⟨some 2, none, .tk (.c (.bool false))⟩])
    (.ret))))) }

-- flotsam/flotsamref25.may
def b_flotsamref25_may_0 : AC :=
  .seq (.seq (.reg [⟨some 12, none, .mv (.t 3)⟩, ⟨some 13, none, .ic .lss (.t 12) (.c (.int .i64 8))⟩])
    (.cond (.t 13)
      (.skip)
      (.exit 0)))
  (.seq (.block 1 (.seq (.reg [⟨some 16, none, .mv (.t 3)⟩, ⟨some 17, none, .fa 2 (.t 1)⟩, ⟨some 18, none, .ixa 1 (some 8) (.t 17) (.t 16)⟩, ⟨some 19, none, .ld none (.t 18)⟩, ⟨some 20, none, .ic .lss (.t 19) (.c (.int .i64 0))⟩, ⟨some 21, none, .mv (.t 20)⟩, ⟨some 22, (some (21, false)), .mv (.t 3)⟩, ⟨some 23, (some (21, false)), .fa 10 (.t 1)⟩, ⟨some 24, (some (21, false)), .ld none (.t 23)⟩, ⟨some 25, (some (21, false)), .ic .geq (.t 22) (.t 24)⟩, ⟨some 26, (some (21, false)), .mv (.t 25)⟩, ⟨some 27, (some (26, true)), .mv (.t 3)⟩, ⟨some 28, (some (26, true)), .fa 2 (.t 1)⟩, ⟨some 29, (some (26, true)), .ixa 1 (some 8) (.t 28) (.t 27)⟩, ⟨some 30, (some (26, true)), .ld none (.t 29)⟩, ⟨some 31, (some (26, true)), .ic .neq (.t 30) (.c (.int .i64 0))⟩, ⟨some 32, (some (21, false)), .pick (.t 26) (.t 31) (.c (.bool false))⟩, ⟨some 33, none, .pick (.t 21) (.c (.bool true)) (.t 32)⟩])
      (.cond (.t 33)
        (.seq (.reg [⟨some 2, none, .tk (.c (.bool false))⟩])
          (.ret))
        (.skip))))
  (.reg [⟨some 14, none, .mv (.t 3)⟩, ⟨some 15, none, .ia .add .i64 (.t 14) (.c (.int .i64 1))⟩, ⟨some 3, none, .tk (.t 15)⟩]))

def l_flotsamref25_may_0 : AC :=
  .loop [1, 3] b_flotsamref25_may_0

def r_flotsamref25_may_0 : AC :=
  .seq (.reg [⟨some 2, none, .tk (.c (.bool true))⟩])
  (.ret)

def c_flotsamref25_may : AFunc :=
  { np := 1, res := [.t 2], body := (
    .seq (.reg [⟨some 1, none, .box (.t 0)⟩, ⟨some 2, none, .tk (.c (.bool false))⟩])
    (.seq (.seq (.reg [⟨some 4, none, .fa 10 (.t 1)⟩, ⟨some 5, none, .ld none (.t 4)⟩, ⟨some 6, none, .ic .lss (.t 5) (.c (.int .i64 1))⟩, ⟨some 7, none, .mv (.t 6)⟩, ⟨some 8, (some (7, false)), .fa 10 (.t 1)⟩, ⟨some 9, (some (7, false)), .ld none (.t 8)⟩, ⟨some 10, (some (7, false)), .ic .gtr (.t 9) (.c (.int .i64 8))⟩, ⟨some 11, none, .pick (.t 7) (.c (.bool true)) (.t 10)⟩])
      (.cond (.t 11)
        (.seq (.reg [⟨some 2, none, .tk (.c (.bool false))⟩])
          (.ret))
        (.skip)))
    (.seq (.seq (.reg [⟨some 3, none, .tk (.c (.int .i64 0))⟩])
      (.block 0 (l_flotsamref25_may_0))) r_flotsamref25_may_0))) }

-- flotsam/flotsamref25.Word
def c_flotsamref25_Word : AFunc :=
  { np := 1, res := [.t 2], body := (
    .seq (.reg [⟨some 2, none, .tk (.c (.str []))⟩])
    (.seq (.reg [⟨some 4, none, .bsl 1 [.str []] 8 [(0, 1, (.c (.str [100, 114, 111, 112, 45, 115, 121, 110, 99]))), (1, 1, (.c (.str [119, 101, 97, 107, 45, 115, 121, 110, 99]))), (2, 1, (.c (.str [100, 114, 111, 112, 45, 100, 105, 114]))), (3, 1, (.c (.str [100, 114, 111, 112, 45, 98, 97, 114, 114, 105, 101, 114]))), (4, 1, (.c (.str [115, 119, 97, 112]))), (5, 1, (.c (.str [110, 111, 45, 99, 111, 109, 109, 105, 116]))), (6, 1, (.c (.str [116, 101, 97, 114]))), (7, 1, (.c (.str [100, 114, 111, 112, 45, 119, 114, 105, 116, 101])))] false⟩, ⟨some 3, none, .tk (.t 4)⟩])
    (.seq (.seq (.reg [⟨some 5, none, .mv (.t 0)⟩, ⟨some 6, none, .ic .lss (.t 5) (.c (.int .i64 1))⟩, ⟨some 7, none, .mv (.t 6)⟩, ⟨some 8, (some (7, false)), .mv (.t 0)⟩, ⟨some 9, (some (7, false)), .mv (.t 3)⟩, ⟨some 10, (some (7, false)), .len false (.t 9)⟩, ⟨some 11, (some (7, false)), .ic .gtr (.t 8) (.t 10)⟩, ⟨some 12, none, .pick (.t 7) (.c (.bool true)) (.t 11)⟩])
      (.cond (.t 12)
        (.seq (.reg [⟨some 2, none, .tk (.c (.str [63]))⟩])
          (.ret))
        (.skip)))
    (.seq (.reg [⟨some 13, none, .mv (.t 3)⟩, ⟨some 14, none, .mv (.t 0)⟩, ⟨some 15, none, .ia .sub .i64 (.t 14) (.c (.int .i64 1))⟩, ⟨some 16, none, .ixa 1 none (.t 13) (.t 15)⟩, ⟨some 17, none, .ld none (.t 16)⟩, ⟨some 2, none, .tk (.t 17)⟩])
    (.ret))))) }

-- flotsam/flotsamref01.Digits
def c_flotsamref01_Digits : AFunc :=
  { np := 1, res := [.t 2], body := (
    .seq (.reg [⟨some 2, none, .tk (.c (.str []))⟩])
    (.seq (.seq (.reg [⟨some 3, none, .mv (.t 0)⟩, ⟨some 4, none, .ic .gtr (.t 3) (.c (.int .i64 (-10)))⟩, ⟨some 5, none, .mv (.t 4)⟩, ⟨some 6, (some (5, true)), .mv (.t 0)⟩, ⟨some 7, (some (5, true)), .ic .lss (.t 6) (.c (.int .i64 0))⟩, ⟨some 8, none, .pick (.t 5) (.t 7) (.c (.bool false))⟩])
      (.cond (.t 8)
        (.seq (.reg [⟨some 9, none, .mv (.t 0)⟩, ⟨some 10, none, .ia .sub .i64 (.c (.int .i64 48)) (.t 9)⟩, ⟨some 11, none, .conv .u8 (.t 10)⟩, ⟨some 12, none, .bsl 1 [.int .u8 0] 1 [(0, 1, (.t 11))] false⟩, ⟨some 13, none, .b2s (.t 12)⟩, ⟨some 14, none, .sop .add (.c (.str [45])) (.t 13)⟩, ⟨some 2, none, .tk (.t 14)⟩])
          (.ret))
        (.skip)))
    (.seq (.seq (.reg [⟨some 15, none, .mv (.t 0)⟩, ⟨some 16, none, .ic .lss (.t 15) (.c (.int .i64 0))⟩])
      (.cond (.t 16)
        (.seq (.drw [[], [], [], [], [], [], [], [], [], [], []] [⟨some 17, none, .mv (.t 0)⟩, ⟨some 18, none, .ia .quo .i64 (.t 17) (.c (.int .i64 10))⟩, ⟨some 19, none, .callc n_flotsamref01_Digits [(.t 18)]⟩, ⟨some 20, none, .mv (.t 0)⟩, ⟨some 21, none, .ia .rem .i64 (.t 20) (.c (.int .i64 10))⟩, ⟨some 22, none, .ia .sub .i64 (.c (.int .i64 48)) (.t 21)⟩, ⟨some 23, none, .conv .u8 (.t 22)⟩, ⟨some 24, none, .bsl 1 [.int .u8 0] 1 [(0, 1, (.t 23))] false⟩, ⟨some 25, none, .b2s (.t 24)⟩, ⟨some 26, none, .sop .add (.t 19) (.t 25)⟩, ⟨some 2, none, .tk (.t 26)⟩])
          (.ret))
        (.skip)))
    (.seq (.seq (.reg [⟨some 27, none, .mv (.t 0)⟩, ⟨some 28, none, .ic .gtr (.t 27) (.c (.int .i64 9))⟩])
      (.cond (.t 28)
        (.seq (.drw [[], [], [], [], [], [], [], [], [], [], []] [⟨some 29, none, .mv (.t 0)⟩, ⟨some 30, none, .ia .quo .i64 (.t 29) (.c (.int .i64 10))⟩, ⟨some 31, none, .callc n_flotsamref01_Digits [(.t 30)]⟩, ⟨some 32, none, .mv (.t 0)⟩, ⟨some 33, none, .ia .rem .i64 (.t 32) (.c (.int .i64 10))⟩, ⟨some 34, none, .ia .add .i64 (.c (.int .i64 48)) (.t 33)⟩, ⟨some 35, none, .conv .u8 (.t 34)⟩, ⟨some 36, none, .bsl 1 [.int .u8 0] 1 [(0, 1, (.t 35))] false⟩, ⟨some 37, none, .b2s (.t 36)⟩, ⟨some 38, none, .sop .add (.t 31) (.t 37)⟩, ⟨some 2, none, .tk (.t 38)⟩])
          (.ret))
        (.skip)))
    (.seq (.reg [⟨some 39, none, .mv (.t 0)⟩, ⟨some 40, none, .ia .add .i64 (.c (.int .i64 48)) (.t 39)⟩, ⟨some 41, none, .conv .u8 (.t 40)⟩, ⟨some 42, none, .bsl 1 [.int .u8 0] 1 [(0, 1, (.t 41))] false⟩, ⟨some 43, none, .b2s (.t 42)⟩, ⟨some 2, none, .tk (.t 43)⟩])
    (.ret)))))) }

-- flotsam/cell.witness
def c_cell_witness : AFunc :=
  { np := 1, res := [.t 2], body := (
    .seq (.reg [⟨some 1, none, .box (.t 0)⟩, ⟨some 2, none, .tk (.c (.bool false))⟩])
    (.seq (.seq (.reg [⟨some 3, none, .fa 0 (.t 1)⟩, ⟨some 4, none, .ld none (.t 3)⟩, ⟨some 5, none, .ic .lss (.t 4) (.c (.int .i64 0))⟩, ⟨some 6, none, .mv (.t 5)⟩, ⟨some 7, (some (6, false)), .fa 0 (.t 1)⟩, ⟨some 8, (some (6, false)), .ld none (.t 7)⟩, ⟨some 9, (some (6, false)), .ic .gtr (.t 8) (.c (.int .i64 1000000))⟩, ⟨some 10, none, .pick (.t 6) (.c (.bool true)) (.t 9)⟩, ⟨some 11, none, .mv (.t 10)⟩, ⟨some 12, (some (11, false)), .fa 1 (.t 1)⟩, ⟨some 13, (some (11, false)), .ld none (.t 12)⟩, ⟨some 14, (some (11, false)), .ic .geq (.t 13) (.c (.int .u64 65536))⟩, ⟨some 15, none, .pick (.t 11) (.c (.bool true)) (.t 14)⟩])
      (.cond (.t 15)
        (.seq (.reg [⟨some 2, none, .tk (.c (.bool false))⟩])
          (.ret))
        (.skip)))
    (.seq (.seq (.reg [⟨some 16, none, .fa 2 (.t 1)⟩, ⟨some 17, none, .ld none (.t 16)⟩])
      (.block 0 (.seq (.reg [⟨some 19, none, .ic .eql (.t 17) (.c (.int .i64 1))⟩, ⟨some 18, none, .tk (.t 19)⟩])
        (.cond (.t 18)
          (.seq (.reg [⟨some 20, none, .fa 3 (.t 1)⟩, ⟨some 21, none, .ld none (.t 20)⟩, ⟨some 22, none, .ic .eql (.t 21) (.c (.int .i64 0))⟩, ⟨some 2, none, .tk (.t 22)⟩])
            (.ret))
          (.seq (.reg [⟨some 24, none, .ic .eql (.t 17) (.c (.int .i64 2))⟩, ⟨some 23, none, .tk (.t 24)⟩])
            (.cond (.t 23)
              (.seq (.reg [⟨some 25, none, .fa 3 (.t 1)⟩, ⟨some 26, none, .ld none (.t 25)⟩, ⟨some 27, none, .ic .gtr (.t 26) (.c (.int .i64 0))⟩, ⟨some 28, none, .mv (.t 27)⟩, ⟨some 29, (some (28, true)), .fa 3 (.t 1)⟩, ⟨some 30, (some (28, true)), .ld none (.t 29)⟩, ⟨some 31, (some (28, true)), .ic .leq (.t 30) (.c (.int .i64 15))⟩, ⟨some 32, none, .pick (.t 28) (.t 31) (.c (.bool false))⟩, ⟨some 33, none, .mv (.t 32)⟩, ⟨some 34, (some (33, true)), .fa 3 (.t 1)⟩, ⟨some 35, (some (33, true)), .ld none (.t 34)⟩, ⟨some 36, (some (33, true)), .ic .neq (.t 35) (.c (.int .i64 10))⟩, ⟨some 37, none, .pick (.t 33) (.t 36) (.c (.bool false))⟩, ⟨some 2, none, .tk (.t 37)⟩])
                (.ret))
              (.skip)))))))
    (.seq (.reg [⟨some 2, none, .tk (.c (.bool false))⟩])
    (.ret))))) }

-- flotsam/cell.limit
def c_cell_limit : AFunc :=
  { np := 1, res := [.t 2], body := (
    .seq (.reg [⟨some 2, none, .tk (.c (.bool false))⟩])
    (.seq (.reg [⟨some 3, none, .mv (.t 0)⟩, ⟨some 4, none, .ic .eql (.t 3) (.c (.int .i64 10))⟩, ⟨some 5, none, .mv (.t 4)⟩, ⟨some 6, (some (5, false)), .mv (.t 0)⟩, ⟨some 7, (some (5, false)), .ic .eql (.t 6) (.c (.int .i64 13))⟩, ⟨some 8, none, .pick (.t 5) (.c (.bool true)) (.t 7)⟩, ⟨some 9, none, .mv (.t 8)⟩, ⟨some 10, (some (9, false)), .mv (.t 0)⟩, ⟨some 11, (some (9, false)), .ic .eql (.t 10) (.c (.int .i64 14))⟩, ⟨some 12, none, .pick (.t 9) (.c (.bool true)) (.t 11)⟩, ⟨some 2, none, .tk (.t 12)⟩])
    (.ret))) }

def tbl : Tbl := Tab.get [(3, c_flotsamlaw34_PackTells), (4, c_flotsamlaw34_PackBack), (5, c_flotsamlaw32_Few), (6, c_flotsamlaw34_knows), (7, c_pack_Encode), (8, c_flotsamref34_Encode), (9, c_pack_Decode), (10, c_flotsamref34_Decode), (11, c_flotsamref31_Same), (12, c_pack_Sum), (13, c_flotsamref34_Sum), (14, c_score_Right), (15, c_flotsamlaw32_One), (16, c_ppack_writer_put), (17, c_ppack_writer_cells), (18, c_pack_seal), (19, c_flotsamref32_Right), (20, c_flotsamref34_put), (21, c_flotsamref34_cells), (22, c_bytes_Equal), (23, c_ppack_left_number), (24, c_ppack_reader_cells), (25, c_ppack_reader_site), (26, c_pflotsamref34_bytes_take), (27, c_pflotsamref34_bytes_cells), (28, c_flotsamref30_Same), (29, c_score_odd), (30, c_cell_Sum), (31, c_slices_ContainsFunc_api_Cell_api_Cell), (32, c_site_Name), (33, c_slices_Contains_api_Site_api_Site), (34, c_codec_Uint), (35, c_flotsamref32_cells), (36, c_flotsamref30_Sum), (37, c_flotsamref25_Name), (38, c_flotsamref03_Uint), (39, c_codec_TakeUint), (40, c_ppack_reader_cell), (41, c_flotsamref03_TakeUint), (42, c_score_odd_1), (43, c_score_count_api_Cell), (44, c_cell_Right), (45, c_slices_IndexFunc_api_Cell_api_Cell), (46, c_site_words), (47, c_site_may), (48, c_site_Word), (49, c_num_Digits), (51, c_slices_Index_api_Site_api_Site), (53, c_flotsamref30_Right), (54, c_flotsamref25_may), (55, c_flotsamref25_Word), (56, c_flotsamref01_Digits), (58, c_cell_witness), (59, c_cell_limit)]

theorem t_flotsamlaw34_PackTells : tbl n_flotsamlaw34_PackTells = some c_flotsamlaw34_PackTells := by kernel_rfl
theorem t_flotsamlaw34_PackBack : tbl n_flotsamlaw34_PackBack = some c_flotsamlaw34_PackBack := by kernel_rfl
theorem t_flotsamlaw32_Few : tbl n_flotsamlaw32_Few = some c_flotsamlaw32_Few := by kernel_rfl
theorem t_flotsamlaw34_knows : tbl n_flotsamlaw34_knows = some c_flotsamlaw34_knows := by kernel_rfl
theorem t_pack_Encode : tbl n_pack_Encode = some c_pack_Encode := by kernel_rfl
theorem t_flotsamref34_Encode : tbl n_flotsamref34_Encode = some c_flotsamref34_Encode := by kernel_rfl
theorem t_pack_Decode : tbl n_pack_Decode = some c_pack_Decode := by kernel_rfl
theorem t_flotsamref34_Decode : tbl n_flotsamref34_Decode = some c_flotsamref34_Decode := by kernel_rfl
theorem t_flotsamref31_Same : tbl n_flotsamref31_Same = some c_flotsamref31_Same := by kernel_rfl
theorem t_pack_Sum : tbl n_pack_Sum = some c_pack_Sum := by kernel_rfl
theorem t_flotsamref34_Sum : tbl n_flotsamref34_Sum = some c_flotsamref34_Sum := by kernel_rfl
theorem t_score_Right : tbl n_score_Right = some c_score_Right := by kernel_rfl
theorem t_flotsamlaw32_One : tbl n_flotsamlaw32_One = some c_flotsamlaw32_One := by kernel_rfl
theorem t_ppack_writer_put : tbl n_ppack_writer_put = some c_ppack_writer_put := by kernel_rfl
theorem t_ppack_writer_cells : tbl n_ppack_writer_cells = some c_ppack_writer_cells := by kernel_rfl
theorem t_pack_seal : tbl n_pack_seal = some c_pack_seal := by kernel_rfl
theorem t_flotsamref32_Right : tbl n_flotsamref32_Right = some c_flotsamref32_Right := by kernel_rfl
theorem t_flotsamref34_put : tbl n_flotsamref34_put = some c_flotsamref34_put := by kernel_rfl
theorem t_flotsamref34_cells : tbl n_flotsamref34_cells = some c_flotsamref34_cells := by kernel_rfl
theorem t_bytes_Equal : tbl n_bytes_Equal = some c_bytes_Equal := by kernel_rfl
theorem t_ppack_left_number : tbl n_ppack_left_number = some c_ppack_left_number := by kernel_rfl
theorem t_ppack_reader_cells : tbl n_ppack_reader_cells = some c_ppack_reader_cells := by kernel_rfl
theorem t_ppack_reader_site : tbl n_ppack_reader_site = some c_ppack_reader_site := by kernel_rfl
theorem t_pflotsamref34_bytes_take : tbl n_pflotsamref34_bytes_take = some c_pflotsamref34_bytes_take := by kernel_rfl
theorem t_pflotsamref34_bytes_cells : tbl n_pflotsamref34_bytes_cells = some c_pflotsamref34_bytes_cells := by kernel_rfl
theorem t_flotsamref30_Same : tbl n_flotsamref30_Same = some c_flotsamref30_Same := by kernel_rfl
theorem t_score_odd : tbl n_score_odd = some c_score_odd := by kernel_rfl
theorem t_cell_Sum : tbl n_cell_Sum = some c_cell_Sum := by kernel_rfl
theorem t_slices_ContainsFunc_api_Cell_api_Cell : tbl n_slices_ContainsFunc_api_Cell_api_Cell = some c_slices_ContainsFunc_api_Cell_api_Cell := by kernel_rfl
theorem t_site_Name : tbl n_site_Name = some c_site_Name := by kernel_rfl
theorem t_slices_Contains_api_Site_api_Site : tbl n_slices_Contains_api_Site_api_Site = some c_slices_Contains_api_Site_api_Site := by kernel_rfl
theorem t_codec_Uint : tbl n_codec_Uint = some c_codec_Uint := by kernel_rfl
theorem t_flotsamref32_cells : tbl n_flotsamref32_cells = some c_flotsamref32_cells := by kernel_rfl
theorem t_flotsamref30_Sum : tbl n_flotsamref30_Sum = some c_flotsamref30_Sum := by kernel_rfl
theorem t_flotsamref25_Name : tbl n_flotsamref25_Name = some c_flotsamref25_Name := by kernel_rfl
theorem t_flotsamref03_Uint : tbl n_flotsamref03_Uint = some c_flotsamref03_Uint := by kernel_rfl
theorem t_codec_TakeUint : tbl n_codec_TakeUint = some c_codec_TakeUint := by kernel_rfl
theorem t_ppack_reader_cell : tbl n_ppack_reader_cell = some c_ppack_reader_cell := by kernel_rfl
theorem t_flotsamref03_TakeUint : tbl n_flotsamref03_TakeUint = some c_flotsamref03_TakeUint := by kernel_rfl
theorem t_score_odd_1 : tbl n_score_odd_1 = some c_score_odd_1 := by kernel_rfl
theorem t_score_count_api_Cell : tbl n_score_count_api_Cell = some c_score_count_api_Cell := by kernel_rfl
theorem t_cell_Right : tbl n_cell_Right = some c_cell_Right := by kernel_rfl
theorem t_slices_IndexFunc_api_Cell_api_Cell : tbl n_slices_IndexFunc_api_Cell_api_Cell = some c_slices_IndexFunc_api_Cell_api_Cell := by kernel_rfl
theorem t_site_words : tbl n_site_words = some c_site_words := by kernel_rfl
theorem t_site_may : tbl n_site_may = some c_site_may := by kernel_rfl
theorem t_site_Word : tbl n_site_Word = some c_site_Word := by kernel_rfl
theorem t_num_Digits : tbl n_num_Digits = some c_num_Digits := by kernel_rfl
theorem t_slices_Index_api_Site_api_Site : tbl n_slices_Index_api_Site_api_Site = some c_slices_Index_api_Site_api_Site := by kernel_rfl
theorem t_flotsamref30_Right : tbl n_flotsamref30_Right = some c_flotsamref30_Right := by kernel_rfl
theorem t_flotsamref25_may : tbl n_flotsamref25_may = some c_flotsamref25_may := by kernel_rfl
theorem t_flotsamref25_Word : tbl n_flotsamref25_Word = some c_flotsamref25_Word := by kernel_rfl
theorem t_flotsamref01_Digits : tbl n_flotsamref01_Digits = some c_flotsamref01_Digits := by kernel_rfl
theorem t_cell_witness : tbl n_cell_witness = some c_cell_witness := by kernel_rfl
theorem t_cell_limit : tbl n_cell_limit = some c_cell_limit := by kernel_rfl

/-- The functions that are taken as given. -/
def noExt : Ext := fun k => if k = n_strings_Join then some (xJoin) else if k = n_strings_Fields then some (xFields) else if k = n_slices_Clone_byte_byte then some (xClone) else if k = n_bytes_Clone then some (xClone) else none

theorem lt_flotsamlaw34_PackTells : n_flotsamlaw34_PackTells < yBase := Nat.le_of_ble_eq_true rfl
theorem lt_flotsamlaw34_PackBack : n_flotsamlaw34_PackBack < yBase := Nat.le_of_ble_eq_true rfl
theorem lt_flotsamlaw32_Few : n_flotsamlaw32_Few < yBase := Nat.le_of_ble_eq_true rfl
theorem lt_flotsamlaw34_knows : n_flotsamlaw34_knows < yBase := Nat.le_of_ble_eq_true rfl
theorem lt_pack_Encode : n_pack_Encode < yBase := Nat.le_of_ble_eq_true rfl
theorem lt_flotsamref34_Encode : n_flotsamref34_Encode < yBase := Nat.le_of_ble_eq_true rfl
theorem lt_pack_Decode : n_pack_Decode < yBase := Nat.le_of_ble_eq_true rfl
theorem lt_flotsamref34_Decode : n_flotsamref34_Decode < yBase := Nat.le_of_ble_eq_true rfl
theorem lt_flotsamref31_Same : n_flotsamref31_Same < yBase := Nat.le_of_ble_eq_true rfl
theorem lt_pack_Sum : n_pack_Sum < yBase := Nat.le_of_ble_eq_true rfl
theorem lt_flotsamref34_Sum : n_flotsamref34_Sum < yBase := Nat.le_of_ble_eq_true rfl
theorem lt_score_Right : n_score_Right < yBase := Nat.le_of_ble_eq_true rfl
theorem lt_flotsamlaw32_One : n_flotsamlaw32_One < yBase := Nat.le_of_ble_eq_true rfl
theorem lt_ppack_writer_put : n_ppack_writer_put < yBase := Nat.le_of_ble_eq_true rfl
theorem lt_ppack_writer_cells : n_ppack_writer_cells < yBase := Nat.le_of_ble_eq_true rfl
theorem lt_pack_seal : n_pack_seal < yBase := Nat.le_of_ble_eq_true rfl
theorem lt_flotsamref32_Right : n_flotsamref32_Right < yBase := Nat.le_of_ble_eq_true rfl
theorem lt_flotsamref34_put : n_flotsamref34_put < yBase := Nat.le_of_ble_eq_true rfl
theorem lt_flotsamref34_cells : n_flotsamref34_cells < yBase := Nat.le_of_ble_eq_true rfl
theorem lt_bytes_Equal : n_bytes_Equal < yBase := Nat.le_of_ble_eq_true rfl
theorem lt_ppack_left_number : n_ppack_left_number < yBase := Nat.le_of_ble_eq_true rfl
theorem lt_ppack_reader_cells : n_ppack_reader_cells < yBase := Nat.le_of_ble_eq_true rfl
theorem lt_ppack_reader_site : n_ppack_reader_site < yBase := Nat.le_of_ble_eq_true rfl
theorem lt_pflotsamref34_bytes_take : n_pflotsamref34_bytes_take < yBase := Nat.le_of_ble_eq_true rfl
theorem lt_pflotsamref34_bytes_cells : n_pflotsamref34_bytes_cells < yBase := Nat.le_of_ble_eq_true rfl
theorem lt_flotsamref30_Same : n_flotsamref30_Same < yBase := Nat.le_of_ble_eq_true rfl
theorem lt_score_odd : n_score_odd < yBase := Nat.le_of_ble_eq_true rfl
theorem lt_cell_Sum : n_cell_Sum < yBase := Nat.le_of_ble_eq_true rfl
theorem lt_slices_ContainsFunc_api_Cell_api_Cell : n_slices_ContainsFunc_api_Cell_api_Cell < yBase := Nat.le_of_ble_eq_true rfl
theorem lt_site_Name : n_site_Name < yBase := Nat.le_of_ble_eq_true rfl
theorem lt_slices_Contains_api_Site_api_Site : n_slices_Contains_api_Site_api_Site < yBase := Nat.le_of_ble_eq_true rfl
theorem lt_codec_Uint : n_codec_Uint < yBase := Nat.le_of_ble_eq_true rfl
theorem lt_flotsamref32_cells : n_flotsamref32_cells < yBase := Nat.le_of_ble_eq_true rfl
theorem lt_flotsamref30_Sum : n_flotsamref30_Sum < yBase := Nat.le_of_ble_eq_true rfl
theorem lt_flotsamref25_Name : n_flotsamref25_Name < yBase := Nat.le_of_ble_eq_true rfl
theorem lt_flotsamref03_Uint : n_flotsamref03_Uint < yBase := Nat.le_of_ble_eq_true rfl
theorem lt_codec_TakeUint : n_codec_TakeUint < yBase := Nat.le_of_ble_eq_true rfl
theorem lt_ppack_reader_cell : n_ppack_reader_cell < yBase := Nat.le_of_ble_eq_true rfl
theorem lt_flotsamref03_TakeUint : n_flotsamref03_TakeUint < yBase := Nat.le_of_ble_eq_true rfl
theorem lt_score_odd_1 : n_score_odd_1 < yBase := Nat.le_of_ble_eq_true rfl
theorem lt_score_count_api_Cell : n_score_count_api_Cell < yBase := Nat.le_of_ble_eq_true rfl
theorem lt_cell_Right : n_cell_Right < yBase := Nat.le_of_ble_eq_true rfl
theorem lt_slices_IndexFunc_api_Cell_api_Cell : n_slices_IndexFunc_api_Cell_api_Cell < yBase := Nat.le_of_ble_eq_true rfl
theorem lt_site_words : n_site_words < yBase := Nat.le_of_ble_eq_true rfl
theorem lt_site_may : n_site_may < yBase := Nat.le_of_ble_eq_true rfl
theorem lt_site_Word : n_site_Word < yBase := Nat.le_of_ble_eq_true rfl
theorem lt_num_Digits : n_num_Digits < yBase := Nat.le_of_ble_eq_true rfl
theorem lt_strings_Join : n_strings_Join < yBase := Nat.le_of_ble_eq_true rfl
theorem lt_slices_Index_api_Site_api_Site : n_slices_Index_api_Site_api_Site < yBase := Nat.le_of_ble_eq_true rfl
theorem lt_slices_Clone_byte_byte : n_slices_Clone_byte_byte < yBase := Nat.le_of_ble_eq_true rfl
theorem lt_flotsamref30_Right : n_flotsamref30_Right < yBase := Nat.le_of_ble_eq_true rfl
theorem lt_flotsamref25_may : n_flotsamref25_may < yBase := Nat.le_of_ble_eq_true rfl
theorem lt_flotsamref25_Word : n_flotsamref25_Word < yBase := Nat.le_of_ble_eq_true rfl
theorem lt_flotsamref01_Digits : n_flotsamref01_Digits < yBase := Nat.le_of_ble_eq_true rfl
theorem lt_bytes_Clone : n_bytes_Clone < yBase := Nat.le_of_ble_eq_true rfl
theorem lt_cell_witness : n_cell_witness < yBase := Nat.le_of_ble_eq_true rfl
theorem lt_cell_limit : n_cell_limit < yBase := Nat.le_of_ble_eq_true rfl
theorem lt_strings_Fields : n_strings_Fields < yBase := Nat.le_of_ble_eq_true rfl

end Go.AM
