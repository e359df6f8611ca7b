/-
  The abstract code of the functions, printed by a program (gen.py) out of the loaded program, and each function's place in the table.
-/
import Derived.Test.YtpjogbpjjbbinaaDoorXlib
namespace Go.AM

abbrev bT : Nat := 65
abbrev bE : Nat := 5
def n_flotsamlaw45_GateTells : Nat := 3
def n_flotsamlaw45_GateTurns : Nat := 4
def n_flotsamlaw32_Few : Nat := 5
def n_flotsamlaw45_knows : Nat := 6
def n_gate_Compare : Nat := 7
def n_flotsamref45_Compare : Nat := 8
def n_flotsamref45_Same : Nat := 9
def n_flotsamlaw45_back : Nat := 10
def n_gate_Opens : Nat := 11
def n_flotsamref45_Opens : Nat := 12
def n_gate_Show : Nat := 13
def n_flotsamlaw45_notes : Nat := 14
def n_flotsamref45_Show : Nat := 15
def n_score_Right : Nat := 16
def n_flotsamlaw45_count : Nat := 17
def n_score_Score : Nat := 18
def n_flotsamlaw32_One : Nat := 19
def n_flotsamlaw45_other : Nat := 20
def n_gate_rows : Nat := 21
def n_gate_kind : Nat := 22
def n_flotsamref32_Right : Nat := 23
def n_flotsamref45_row : Nat := 24
def n_flotsamref45_kind : Nat := 25
def n_site_Name : Nat := 26
def n_gate_word : Nat := 27
def n_num_Digits : Nat := 28
def n_pstrings_Builder_WriteString : Nat := 29
def n_strings_Join : Nat := 30
def n_pstrings_Builder_String : Nat := 31
def n_flotsamref25_Name : Nat := 32
def n_flotsamref01_Digits : Nat := 33
def n_score_odd : Nat := 34
def n_cell_Sum : Nat := 35
def n_slices_ContainsFunc_api_Cell_api_Cell : Nat := 36
def n_slices_Contains_api_Site_api_Site : Nat := 37
def n_score_count_api_Cell : Nat := 38
def n_score_says : Nat := 39
def n_flotsamref32_cells : Nat := 40
def n_flotsamref30_Sum : Nat := 41
def n_site_words : Nat := 42
def n_site_may : Nat := 43
def n_site_Word : Nat := 44
def n_flotsamref25_may : Nat := 47
def n_flotsamref25_Word : Nat := 48
def n_score_odd_1 : Nat := 49
def n_cell_Right : Nat := 50
def n_slices_IndexFunc_api_Cell_api_Cell : Nat := 51
def n_slices_Index_api_Site_api_Site : Nat := 52
def n_score_says_1 : Nat := 53
def n_flotsamref30_Right : Nat := 54
def n_strings_Fields : Nat := 55
def n_cell_witness : Nat := 58
def n_cell_limit : Nat := 59


-- flotsam/flotsamlaw45.GateTells
def c_flotsamlaw45_GateTells : AFunc :=
  { np := 3, res := [.t 6], body := (
    .seq (.reg [⟨some 3, none, .box (.t 0)⟩, ⟨some 4, none, .box (.t 1)⟩, ⟨some 6, none, .tk (.c (.bool false))⟩])
    (.seq (.seq (.reg [⟨some 11, none, .ld (some 4) (.t 3)⟩, ⟨some 12, none, .callc n_flotsamlaw32_Few [(.t 11)]⟩, ⟨some 13, none, .notb (.t 12)⟩, ⟨some 14, none, .mv (.t 13)⟩, ⟨some 15, (some (14, false)), .ld (some 4) (.t 4)⟩, ⟨some 16, (some (14, false)), .callc n_flotsamlaw32_Few [(.t 15)]⟩, ⟨some 17, (some (14, false)), .notb (.t 16)⟩, ⟨some 18, none, .pick (.t 14) (.c (.bool true)) (.t 17)⟩, ⟨some 19, none, .mv (.t 18)⟩, ⟨some 20, (some (19, false)), .mv (.t 2)⟩, ⟨some 21, (some (19, false)), .len false (.t 20)⟩, ⟨some 22, (some (19, false)), .ic .gtr (.t 21) (.c (.int .i64 40))⟩, ⟨some 23, none, .pick (.t 19) (.c (.bool true)) (.t 22)⟩, ⟨some 24, none, .mv (.t 23)⟩, ⟨some 25, (some (24, false)), .callc n_flotsamlaw45_knows []⟩, ⟨some 26, (some (24, false)), .notb (.t 25)⟩, ⟨some 27, none, .pick (.t 24) (.c (.bool true)) (.t 26)⟩])
      (.cond (.t 27)
        (.seq (.reg [⟨some 28, none, .callc n_flotsamlaw45_knows []⟩, ⟨some 6, none, .tk (.t 28)⟩])
          (.ret))
        (.skip)))
    (.seq (.reg [⟨some 30, none, .ld (some 4) (.t 3)⟩, ⟨some 31, none, .ld (some 4) (.t 4)⟩, ⟨some 32, none, .callc n_gate_Compare [(.t 30), (.t 31)]⟩, ⟨some 29, none, .mv (.t 32)⟩, ⟨some 33, none, .ext (.t 29) 0⟩, ⟨some 34, none, .ext (.t 29) 1⟩, ⟨some 7, none, .tk (.t 33)⟩, ⟨some 8, none, .tk (.t 34)⟩])
    (.seq (.reg [⟨some 36, none, .ld (some 4) (.t 3)⟩, ⟨some 37, none, .ld (some 4) (.t 4)⟩, ⟨some 38, none, .callc n_flotsamref45_Compare [(.t 36), (.t 37)]⟩, ⟨some 35, none, .mv (.t 38)⟩, ⟨some 39, none, .ext (.t 35) 0⟩, ⟨some 40, none, .ext (.t 35) 1⟩, ⟨some 9, none, .tk (.t 39)⟩, ⟨some 10, none, .tk (.t 40)⟩])
    (.seq (.drw [[], [], [], [], [], [], [], [], [], [], [], [], [], [], [], [], [], [], [], [], [], [], [], [], [], [], []] [⟨some 41, none, .mv (.t 7)⟩, ⟨some 42, none, .callc n_flotsamlaw45_back [(.t 41)]⟩, ⟨some 43, none, .mv (.t 9)⟩, ⟨some 44, none, .callc n_flotsamref45_Same [(.t 42), (.t 43)]⟩, ⟨some 45, none, .mv (.t 44)⟩, ⟨some 46, (some (45, true)), .mv (.t 8)⟩, ⟨some 47, (some (45, true)), .mv (.t 10)⟩, ⟨some 48, (some (45, true)), .eqb false (.t 46) (.t 47)⟩, ⟨some 49, none, .pick (.t 45) (.t 48) (.c (.bool false))⟩, ⟨some 50, none, .mv (.t 49)⟩, ⟨some 51, (some (50, true)), .ld (some 4) (.t 3)⟩, ⟨some 52, (some (50, true)), .ld (some 4) (.t 4)⟩, ⟨some 53, (some (50, true)), .callc n_gate_Opens [(.t 51), (.t 52)]⟩, ⟨some 54, (some (50, true)), .ld (some 4) (.t 3)⟩, ⟨some 55, (some (50, true)), .ld (some 4) (.t 4)⟩, ⟨some 56, (some (50, true)), .callc n_flotsamref45_Opens [(.t 54), (.t 55)]⟩, ⟨some 57, (some (50, true)), .eqb false (.t 53) (.t 56)⟩, ⟨some 58, none, .pick (.t 50) (.t 57) (.c (.bool false))⟩, ⟨some 59, none, .mv (.t 58)⟩, ⟨some 60, (some (59, true)), .mv (.t 2)⟩, ⟨some 61, (some (59, true)), .callc n_flotsamlaw45_notes [(.t 60)]⟩, ⟨some 62, (some (59, true)), .callc n_gate_Show [(.t 61)]⟩, ⟨some 63, (some (59, true)), .mv (.t 2)⟩, ⟨some 64, (some (59, true)), .callc n_flotsamref45_Show [(.t 63)]⟩, ⟨some 65, (some (59, true)), .sop .eql (.t 62) (.t 64)⟩, ⟨some 66, none, .pick (.t 59) (.t 65) (.c (.bool false))⟩, ⟨some 6, none, .tk (.t 66)⟩])
    (.ret)))))) }

-- flotsam/flotsamlaw45.GateTurns
def c_flotsamlaw45_GateTurns : AFunc :=
  { np := 2, res := [.t 4], body := (
    .seq (.reg [⟨some 2, none, .box (.t 0)⟩, ⟨some 3, none, .box (.t 1)⟩, ⟨some 4, none, .tk (.c (.bool false))⟩])
    (.seq (.seq (.reg [⟨some 15, none, .ld (some 4) (.t 2)⟩, ⟨some 16, none, .callc n_flotsamlaw32_Few [(.t 15)]⟩, ⟨some 17, none, .notb (.t 16)⟩, ⟨some 18, none, .mv (.t 17)⟩, ⟨some 19, (some (18, false)), .ld (some 4) (.t 3)⟩, ⟨some 20, (some (18, false)), .callc n_flotsamlaw32_Few [(.t 19)]⟩, ⟨some 21, (some (18, false)), .notb (.t 20)⟩, ⟨some 22, none, .pick (.t 18) (.c (.bool true)) (.t 21)⟩, ⟨some 23, none, .mv (.t 22)⟩, ⟨some 24, (some (23, false)), .callc n_flotsamlaw45_knows []⟩, ⟨some 25, (some (23, false)), .notb (.t 24)⟩, ⟨some 26, none, .pick (.t 23) (.c (.bool true)) (.t 25)⟩])
      (.cond (.t 26)
        (.seq (.reg [⟨some 27, none, .callc n_flotsamlaw45_knows []⟩, ⟨some 4, none, .tk (.t 27)⟩])
          (.ret))
        (.skip)))
    (.seq (.reg [⟨some 29, none, .ld (some 4) (.t 2)⟩, ⟨some 30, none, .ld (some 4) (.t 3)⟩, ⟨some 31, none, .callc n_gate_Compare [(.t 29), (.t 30)]⟩, ⟨some 28, none, .mv (.t 31)⟩, ⟨some 32, none, .ext (.t 28) 0⟩, ⟨some 33, none, .ext (.t 28) 1⟩, ⟨some 5, none, .tk (.t 32)⟩, ⟨some 6, none, .tk (.t 33)⟩])
    (.seq (.reg [⟨some 35, none, .ld (some 4) (.t 3)⟩, ⟨some 36, none, .ld (some 4) (.t 2)⟩, ⟨some 37, none, .callc n_gate_Compare [(.t 35), (.t 36)]⟩, ⟨some 34, none, .mv (.t 37)⟩, ⟨some 38, none, .ext (.t 34) 0⟩, ⟨some 39, none, .ext (.t 34) 1⟩, ⟨some 7, none, .tk (.t 38)⟩, ⟨some 8, none, .tk (.t 39)⟩])
    (.seq (.reg [⟨some 41, none, .ld (some 4) (.t 2)⟩, ⟨some 42, none, .ld (some 4) (.t 2)⟩, ⟨some 43, none, .callc n_gate_Compare [(.t 41), (.t 42)]⟩, ⟨some 40, none, .mv (.t 43)⟩, ⟨some 44, none, .ext (.t 40) 0⟩, ⟨some 45, none, .ext (.t 40) 1⟩, ⟨some 9, none, .tk (.t 44)⟩, ⟨some 10, none, .tk (.t 45)⟩])
    (.seq (.seq (.reg [⟨some 46, none, .mv (.t 10)⟩, ⟨some 47, none, .ld (some 4) (.t 2)⟩, ⟨some 48, none, .callc n_score_Right [(.t 47)]⟩, ⟨some 49, none, .eqb true (.t 46) (.t 48)⟩, ⟨some 50, none, .mv (.t 49)⟩, ⟨some 51, (some (50, false)), .mv (.t 6)⟩, ⟨some 52, (some (50, false)), .mv (.t 8)⟩, ⟨some 53, (some (50, false)), .eqb true (.t 51) (.t 52)⟩, ⟨some 54, none, .pick (.t 50) (.c (.bool true)) (.t 53)⟩, ⟨some 55, none, .mv (.t 54)⟩, ⟨some 56, (some (55, false)), .mv (.t 9)⟩, ⟨some 57, (some (55, false)), .len false (.t 56)⟩, ⟨some 58, (some (55, false)), .ic .neq (.t 57) (.c (.int .i64 0))⟩, ⟨some 59, none, .pick (.t 55) (.c (.bool true)) (.t 58)⟩, ⟨some 60, none, .mv (.t 59)⟩, ⟨some 61, (some (60, false)), .mv (.t 10)⟩, ⟨some 62, (some (60, false)), .ld (some 4) (.t 2)⟩, ⟨some 63, (some (60, false)), .ld (some 4) (.t 2)⟩, ⟨some 64, (some (60, false)), .callc n_gate_Opens [(.t 62), (.t 63)]⟩, ⟨some 65, (some (60, false)), .eqb true (.t 61) (.t 64)⟩, ⟨some 66, none, .pick (.t 60) (.c (.bool true)) (.t 65)⟩, ⟨some 67, none, .mv (.t 66)⟩, ⟨some 68, (some (67, false)), .mv (.t 6)⟩, ⟨some 69, (some (67, false)), .notb (.t 68)⟩, ⟨some 70, (some (67, false)), .mv (.t 69)⟩, ⟨some 71, (some (70, true)), .mv (.t 5)⟩, ⟨some 72, (some (70, true)), .len false (.t 71)⟩, ⟨some 73, (some (70, true)), .mv (.t 7)⟩, ⟨some 74, (some (70, true)), .len false (.t 73)⟩, ⟨some 75, (some (70, true)), .ia .add .i64 (.t 72) (.t 74)⟩, ⟨some 76, (some (70, true)), .ic .neq (.t 75) (.c (.int .i64 0))⟩, ⟨some 77, (some (67, false)), .pick (.t 70) (.t 76) (.c (.bool false))⟩, ⟨some 78, none, .pick (.t 67) (.c (.bool true)) (.t 77)⟩])
      (.cond (.t 78)
        (.seq (.reg [⟨some 4, none, .tk (.c (.bool false))⟩])
          (.ret))
        (.skip)))
    (.seq (.seq (.reg [⟨some 79, none, .mv (.t 5)⟩, ⟨some 80, none, .callc n_flotsamlaw45_count [(.t 79), (.c (.int .i64 1))]⟩, ⟨some 81, none, .mv (.t 7)⟩, ⟨some 82, none, .callc n_flotsamlaw45_count [(.t 81), (.c (.int .i64 2))]⟩, ⟨some 83, none, .ic .neq (.t 80) (.t 82)⟩, ⟨some 84, none, .mv (.t 83)⟩, ⟨some 85, (some (84, false)), .mv (.t 5)⟩, ⟨some 86, (some (84, false)), .callc n_flotsamlaw45_count [(.t 85), (.c (.int .i64 2))]⟩, ⟨some 87, (some (84, false)), .mv (.t 7)⟩, ⟨some 88, (some (84, false)), .callc n_flotsamlaw45_count [(.t 87), (.c (.int .i64 1))]⟩, ⟨some 89, (some (84, false)), .ic .neq (.t 86) (.t 88)⟩, ⟨some 90, none, .pick (.t 84) (.c (.bool true)) (.t 89)⟩, ⟨some 91, none, .mv (.t 90)⟩, ⟨some 92, (some (91, false)), .mv (.t 5)⟩, ⟨some 93, (some (91, false)), .callc n_flotsamlaw45_count [(.t 92), (.c (.int .i64 3))]⟩, ⟨some 94, (some (91, false)), .mv (.t 7)⟩, ⟨some 95, (some (91, false)), .callc n_flotsamlaw45_count [(.t 94), (.c (.int .i64 4))]⟩, ⟨some 96, (some (91, false)), .ic .neq (.t 93) (.t 95)⟩, ⟨some 97, none, .pick (.t 91) (.c (.bool true)) (.t 96)⟩, ⟨some 98, none, .mv (.t 97)⟩, ⟨some 99, (some (98, false)), .mv (.t 5)⟩, ⟨some 100, (some (98, false)), .callc n_flotsamlaw45_count [(.t 99), (.c (.int .i64 4))]⟩, ⟨some 101, (some (98, false)), .mv (.t 7)⟩, ⟨some 102, (some (98, false)), .callc n_flotsamlaw45_count [(.t 101), (.c (.int .i64 3))]⟩, ⟨some 103, (some (98, false)), .ic .neq (.t 100) (.t 102)⟩, ⟨some 104, none, .pick (.t 98) (.c (.bool true)) (.t 103)⟩, ⟨some 105, none, .mv (.t 104)⟩, ⟨some 106, (some (105, false)), .mv (.t 5)⟩, ⟨some 107, (some (105, false)), .callc n_flotsamlaw45_count [(.t 106), (.c (.int .i64 5))]⟩, ⟨some 108, (some (105, false)), .mv (.t 7)⟩, ⟨some 109, (some (105, false)), .callc n_flotsamlaw45_count [(.t 108), (.c (.int .i64 6))]⟩, ⟨some 110, (some (105, false)), .ic .neq (.t 107) (.t 109)⟩, ⟨some 111, none, .pick (.t 105) (.c (.bool true)) (.t 110)⟩, ⟨some 112, none, .mv (.t 111)⟩, ⟨some 113, (some (112, false)), .mv (.t 5)⟩, ⟨some 114, (some (112, false)), .callc n_flotsamlaw45_count [(.t 113), (.c (.int .i64 6))]⟩, ⟨some 115, (some (112, false)), .mv (.t 7)⟩, ⟨some 116, (some (112, false)), .callc n_flotsamlaw45_count [(.t 115), (.c (.int .i64 5))]⟩, ⟨some 117, (some (112, false)), .ic .neq (.t 114) (.t 116)⟩, ⟨some 118, none, .pick (.t 112) (.c (.bool true)) (.t 117)⟩])
      (.cond (.t 118)
        (.seq (.reg [⟨some 4, none, .tk (.c (.bool false))⟩])
          (.ret))
        (.skip)))
    (.seq (.seq (.reg [⟨some 119, none, .ld (some 4) (.t 2)⟩, ⟨some 120, none, .ld (some 4) (.t 3)⟩, ⟨some 121, none, .callc n_gate_Opens [(.t 119), (.t 120)]⟩, ⟨some 122, none, .notb (.t 121)⟩, ⟨some 123, none, .mv (.t 122)⟩, ⟨some 124, (some (123, false)), .mv (.t 5)⟩, ⟨some 125, (some (123, false)), .callc n_flotsamlaw45_count [(.t 124), (.c (.int .i64 6))]⟩, ⟨some 126, (some (123, false)), .ic .gtr (.t 125) (.c (.int .i64 0))⟩, ⟨some 127, none, .pick (.t 123) (.c (.bool true)) (.t 126)⟩])
      (.cond (.t 127)
        (.seq (.reg [⟨some 4, none, .tk (.c (.bool true))⟩])
          (.ret))
        (.skip)))
    (.seq (.reg [⟨some 129, none, .ld (some 4) (.t 2)⟩, ⟨some 130, none, .callc n_score_Score [(.t 129)]⟩, ⟨some 128, none, .mv (.t 130)⟩, ⟨some 131, none, .ext (.t 128) 0⟩, ⟨some 132, none, .ext (.t 128) 1⟩, ⟨some 11, none, .tk (.t 131)⟩, ⟨some 12, none, .tk (.t 132)⟩])
    (.seq (.reg [⟨some 134, none, .ld (some 4) (.t 3)⟩, ⟨some 135, none, .callc n_score_Score [(.t 134)]⟩, ⟨some 133, none, .mv (.t 135)⟩, ⟨some 136, none, .ext (.t 133) 0⟩, ⟨some 137, none, .ext (.t 133) 1⟩, ⟨some 13, none, .tk (.t 136)⟩, ⟨some 14, none, .tk (.t 137)⟩])
    (.seq (.reg [⟨some 138, none, .mv (.t 13)⟩, ⟨some 139, none, .mv (.t 11)⟩, ⟨some 140, none, .ic .geq (.t 138) (.t 139)⟩, ⟨some 4, none, .tk (.t 140)⟩])
    (.ret)))))))))))) }

-- flotsam/flotsamlaw32.Few
def b_flotsamlaw32_Few_0 : AC :=
  .seq (.seq (.reg [⟨some 4, none, .mv (.t 3)⟩, ⟨some 5, none, .fa 3 (.t 1)⟩, ⟨some 6, none, .ld none (.t 5)⟩, ⟨some 7, none, .len false (.t 6)⟩, ⟨some 8, none, .ic .lss (.t 4) (.t 7)⟩, ⟨some 9, none, .mv (.t 8)⟩, ⟨some 10, (some (9, true)), .mv (.t 3)⟩, ⟨some 11, (some (9, true)), .ic .lss (.t 10) (.c (.int .i64 50))⟩, ⟨some 12, none, .pick (.t 9) (.t 11) (.c (.bool false))⟩])
    (.cond (.t 12)
      (.skip)
      (.exit 0)))
  (.seq (.block 1 (.seq (.reg [⟨some 15, none, .fa 3 (.t 1)⟩, ⟨some 16, none, .ld none (.t 15)⟩, ⟨some 17, none, .mv (.t 3)⟩, ⟨some 18, none, .ixa 1 none (.t 16) (.t 17)⟩, ⟨some 19, none, .ld none (.t 18)⟩, ⟨some 20, none, .len false (.t 19)⟩, ⟨some 21, none, .ic .gtr (.t 20) (.c (.int .i64 30))⟩])
      (.cond (.t 21)
        (.seq (.reg [⟨some 2, none, .tk (.c (.bool false))⟩])
          (.ret))
        (.skip))))
  (.reg [⟨some 13, none, .mv (.t 3)⟩, ⟨some 14, none, .ia .add .i64 (.t 13) (.c (.int .i64 1))⟩, ⟨some 3, none, .tk (.t 14)⟩]))

def l_flotsamlaw32_Few_0 : AC :=
  .loop [1, 3] b_flotsamlaw32_Few_0

def r_flotsamlaw32_Few_0 : AC :=
  .seq (.reg [⟨some 22, none, .fa 1 (.t 1)⟩, ⟨some 23, none, .ld none (.t 22)⟩, ⟨some 24, none, .len false (.t 23)⟩, ⟨some 25, none, .ic .leq (.t 24) (.c (.int .i64 30))⟩, ⟨some 26, none, .mv (.t 25)⟩, ⟨some 27, (some (26, true)), .fa 2 (.t 1)⟩, ⟨some 28, (some (26, true)), .ld none (.t 27)⟩, ⟨some 29, (some (26, true)), .len false (.t 28)⟩, ⟨some 30, (some (26, true)), .ic .leq (.t 29) (.c (.int .i64 50))⟩, ⟨some 31, none, .pick (.t 26) (.t 30) (.c (.bool false))⟩, ⟨some 32, none, .mv (.t 31)⟩, ⟨some 33, (some (32, true)), .fa 3 (.t 1)⟩, ⟨some 34, (some (32, true)), .ld none (.t 33)⟩, ⟨some 35, (some (32, true)), .len false (.t 34)⟩, ⟨some 36, (some (32, true)), .ic .leq (.t 35) (.c (.int .i64 50))⟩, ⟨some 37, none, .pick (.t 32) (.t 36) (.c (.bool false))⟩, ⟨some 2, none, .tk (.t 37)⟩])
  (.ret)

def c_flotsamlaw32_Few : AFunc :=
  { np := 1, res := [.t 2], body := (
    .seq (.reg [⟨some 1, none, .box (.t 0)⟩, ⟨some 2, none, .tk (.c (.bool false))⟩])
    (.seq (.seq (.reg [⟨some 3, none, .tk (.c (.int .i64 0))⟩])
      (.block 0 (l_flotsamlaw32_Few_0))) r_flotsamlaw32_Few_0)) }

-- flotsam/flotsamlaw45.knows
def c_flotsamlaw45_knows : AFunc :=
  { np := 0, res := [.t 0], body := (
    .seq (.reg [⟨some 0, none, .tk (.c (.bool false))⟩])
    (.seq (.reg [⟨some 4, none, .callc n_flotsamlaw32_One []⟩, ⟨some 5, none, .callc n_flotsamlaw45_other []⟩, ⟨some 6, none, .callc n_gate_Compare [(.t 4), (.t 5)]⟩, ⟨some 3, none, .mv (.t 6)⟩, ⟨some 7, none, .ext (.t 3) 0⟩, ⟨some 8, none, .ext (.t 3) 1⟩, ⟨some 1, none, .tk (.t 7)⟩, ⟨some 2, none, .tk (.t 8)⟩])
    (.seq (.reg [⟨some 9, none, .mv (.t 2)⟩, ⟨some 10, none, .mv (.t 9)⟩, ⟨some 11, (some (10, true)), .mv (.t 1)⟩, ⟨some 12, (some (10, true)), .callc n_gate_Show [(.t 11)]⟩, ⟨some 13, (some (10, true)), .sop .eql (.t 12) (.c (.str [108, 111, 115, 116, 32, 115, 119, 97, 112, 32, 48, 32, 48, 32, 48, 10]))⟩, ⟨some 14, none, .pick (.t 10) (.t 13) (.c (.bool false))⟩, ⟨some 15, none, .mv (.t 14)⟩, ⟨some 16, (some (15, true)), .callc n_flotsamlaw32_One []⟩, ⟨some 17, (some (15, true)), .callc n_flotsamlaw45_other []⟩, ⟨some 18, (some (15, true)), .callc n_gate_Opens [(.t 16), (.t 17)]⟩, ⟨some 19, (some (15, true)), .notb (.t 18)⟩, ⟨some 20, none, .pick (.t 15) (.t 19) (.c (.bool false))⟩, ⟨some 21, none, .mv (.t 20)⟩, ⟨some 22, (some (21, true)), .callc n_flotsamlaw45_other []⟩, ⟨some 23, (some (21, true)), .callc n_flotsamlaw32_One []⟩, ⟨some 24, (some (21, true)), .callc n_gate_Opens [(.t 22), (.t 23)]⟩, ⟨some 25, none, .pick (.t 21) (.t 24) (.c (.bool false))⟩, ⟨some 0, none, .tk (.t 25)⟩])
    (.ret)))) }

-- flotsam/gate.Compare
def b_gate_Compare_0 : AC :=
  .seq (.reg [⟨some 63, none, .ic .lss (.t 62) (.t 61)⟩])
  (.seq (.cond (.t 63)
      (.skip)
      (.exit 2))
  (.seq (.block 3 (.seq (.reg [⟨some 64, none, .mv (.t 62)⟩, ⟨some 65, none, .ixa 6 none (.t 60) (.t 62)⟩, ⟨some 66, none, .ld (some 6) (.t 65)⟩, ⟨some 13, none, .alloc [.int .i64 0, .int .i64 0, .int .u64 0, .int .i64 0, .int .i64 0, .int .i64 0]⟩, ⟨some 12, none, .tk (.t 64)⟩, ⟨none, none, .st 6 (.t 13) (.t 66)⟩])
      (.seq (.drw [[], [], [], [], [], [], [], [], [], [], [], [], [], []] [⟨some 67, none, .fa 0 (.t 13)⟩, ⟨some 68, none, .ld none (.t 67)⟩, ⟨some 69, none, .fa 3 (.t 3)⟩, ⟨some 70, none, .ld none (.t 69)⟩, ⟨some 71, none, .mv (.t 11)⟩, ⟨some 72, none, .ia .sub .i64 (.t 71) (.c (.int .i64 1))⟩, ⟨some 73, none, .ixa 1 none (.t 70) (.t 72)⟩, ⟨some 74, none, .ld none (.t 73)⟩, ⟨some 75, none, .mv (.t 12)⟩, ⟨some 76, none, .ixa 6 none (.t 74) (.t 75)⟩, ⟨some 77, none, .fa 0 (.t 76)⟩, ⟨some 78, none, .ld none (.t 77)⟩, ⟨some 79, none, .callc n_gate_kind [(.t 68), (.t 78)]⟩, ⟨some 14, none, .tk (.t 79)⟩])
      (.seq (.reg [⟨some 80, none, .mv (.t 14)⟩, ⟨some 81, none, .ic .gtr (.t 80) (.c (.int .i64 0))⟩])
      (.cond (.t 81)
        (.reg [⟨some 82, none, .tk (.t 6)⟩, ⟨some 83, none, .mv (.t 14)⟩, ⟨some 84, none, .ld (some 11) (.t 10)⟩, ⟨some 85, none, .mv (.t 12)⟩, ⟨some 86, none, .bld [.int .i64 0, .int .i64 0, .int .i64 0, .int .i64 0, .int .i64 0, .int .i64 0, .int .i64 0, .int .i64 0, .int .i64 0, .int .i64 0, .int .i64 0, .int .i64 0, .int .i64 0] [(0, 1, (.t 83)), (1, 11, (.t 84)), (12, 1, (.t 85))]⟩, ⟨some 87, none, .bsl 13 [.int .i64 0, .int .i64 0, .int .i64 0, .int .i64 0, .int .i64 0, .int .i64 0, .int .i64 0, .int .i64 0, .int .i64 0, .int .i64 0, .int .i64 0, .int .i64 0, .int .i64 0] 1 [(0, 13, (.t 86))] false⟩, ⟨some 88, none, .app 13 104 (.t 82) (.t 87) false⟩, ⟨some 6, none, .tk (.t 88)⟩])
        (.skip))))))
  (.reg [⟨some 89, none, .ia .add .i64 (.t 62) (.c (.int .i64 1))⟩, ⟨some 62, none, .mv (.t 89)⟩])))

def l_gate_Compare_0 : AC :=
  .loop [2, 3, 6, 7, 8, 10, 11, 39, 40, 41, 60, 61, 62] b_gate_Compare_0

def r_gate_Compare_0 : AC :=
  .reg [⟨some 90, none, .ia .add .i64 (.t 41) (.c (.int .i64 1))⟩, ⟨some 41, none, .mv (.t 90)⟩]

def b_gate_Compare_1 : AC :=
  .seq (.reg [⟨some 42, none, .ic .lss (.t 41) (.t 40)⟩])
  (.seq (.cond (.t 42)
      (.skip)
      (.exit 0))
  (.seq (.block 1 (.seq (.reg [⟨some 43, none, .mv (.t 41)⟩, ⟨some 44, none, .ixa 11 none (.t 39) (.t 41)⟩, ⟨some 45, none, .ld (some 11) (.t 44)⟩, ⟨some 10, none, .alloc [.int .i64 0, .int .i64 0, .int .i64 0, .int .i64 0, .int .i64 0, .int .i64 0, .int .i64 0, .int .i64 0, .int .i64 0, .int .i64 0, .int .i64 0]⟩, ⟨some 9, none, .tk (.t 43)⟩, ⟨none, none, .st 11 (.t 10) (.t 45)⟩])
      (.seq (.reg [⟨some 46, none, .mv (.t 8)⟩, ⟨some 47, none, .ld (some 11) (.t 10)⟩, ⟨some 48, none, .mlk false (.int .i64 0) true [.int .i64, .int .i64, .int .i64, .int .i64, .int .i64, .int .i64, .int .i64, .int .i64, .int .i64, .int .i64, .int .i64] (.t 46) (.t 47)⟩, ⟨some 11, none, .tk (.t 48)⟩])
      (.seq (.seq (.reg [⟨some 49, none, .mv (.t 11)⟩, ⟨some 50, none, .ic .eql (.t 49) (.c (.int .i64 0))⟩])
        (.cond (.t 50)
          (.seq (.reg [⟨some 51, none, .tk (.t 6)⟩, ⟨some 52, none, .ld (some 11) (.t 10)⟩, ⟨some 53, none, .bld [.int .i64 0, .int .i64 0, .int .i64 0, .int .i64 0, .int .i64 0, .int .i64 0, .int .i64 0, .int .i64 0, .int .i64 0, .int .i64 0, .int .i64 0, .int .i64 0, .int .i64 0] [(0, 1, (.c (.int .i64 5))), (1, 11, (.t 52))]⟩, ⟨some 54, none, .bsl 13 [.int .i64 0, .int .i64 0, .int .i64 0, .int .i64 0, .int .i64 0, .int .i64 0, .int .i64 0, .int .i64 0, .int .i64 0, .int .i64 0, .int .i64 0, .int .i64 0, .int .i64 0] 1 [(0, 13, (.t 53))] false⟩, ⟨some 55, none, .app 13 104 (.t 51) (.t 54) false⟩, ⟨some 6, none, .tk (.t 55)⟩])
            (.exit 1))
          (.skip)))
      (.seq (.reg [⟨some 56, none, .fa 3 (.t 2)⟩, ⟨some 57, none, .ld none (.t 56)⟩, ⟨some 58, none, .mv (.t 9)⟩, ⟨some 59, none, .ixa 1 none (.t 57) (.t 58)⟩, ⟨some 60, none, .ld none (.t 59)⟩, ⟨some 61, none, .len false (.t 60)⟩, ⟨some 62, none, .mv (.c (.int .i64 0))⟩])
      (.block 2 (l_gate_Compare_0))))))) r_gate_Compare_0))

def l_gate_Compare_1 : AC :=
  .loop [2, 3, 6, 7, 8, 39, 40, 41] b_gate_Compare_1

def b_gate_Compare_2 : AC :=
  .seq (.reg [⟨some 95, none, .ic .lss (.t 94) (.t 93)⟩])
  (.seq (.cond (.t 95)
      (.skip)
      (.exit 4))
  (.seq (.block 5 (.seq (.reg [⟨some 96, none, .ixa 11 none (.t 92) (.t 94)⟩, ⟨some 97, none, .ld (some 11) (.t 96)⟩, ⟨some 16, none, .alloc [.int .i64 0, .int .i64 0, .int .i64 0, .int .i64 0, .int .i64 0, .int .i64 0, .int .i64 0, .int .i64 0, .int .i64 0, .int .i64 0, .int .i64 0]⟩, ⟨none, none, .st 11 (.t 16) (.t 97)⟩])
      (.seq (.reg [⟨some 98, none, .mv (.t 7)⟩, ⟨some 99, none, .ld (some 11) (.t 16)⟩, ⟨some 100, none, .mlk false (.int .i64 0) true [.int .i64, .int .i64, .int .i64, .int .i64, .int .i64, .int .i64, .int .i64, .int .i64, .int .i64, .int .i64, .int .i64] (.t 98) (.t 99)⟩, ⟨some 101, none, .ic .eql (.t 100) (.c (.int .i64 0))⟩])
      (.cond (.t 101)
        (.reg [⟨some 102, none, .tk (.t 6)⟩, ⟨some 103, none, .ld (some 11) (.t 16)⟩, ⟨some 104, none, .bld [.int .i64 0, .int .i64 0, .int .i64 0, .int .i64 0, .int .i64 0, .int .i64 0, .int .i64 0, .int .i64 0, .int .i64 0, .int .i64 0, .int .i64 0, .int .i64 0, .int .i64 0] [(0, 1, (.c (.int .i64 6))), (1, 11, (.t 103))]⟩, ⟨some 105, none, .bsl 13 [.int .i64 0, .int .i64 0, .int .i64 0, .int .i64 0, .int .i64 0, .int .i64 0, .int .i64 0, .int .i64 0, .int .i64 0, .int .i64 0, .int .i64 0, .int .i64 0, .int .i64 0] 1 [(0, 13, (.t 104))] false⟩, ⟨some 106, none, .app 13 104 (.t 102) (.t 105) false⟩, ⟨some 6, none, .tk (.t 106)⟩])
        (.skip)))))
  (.reg [⟨some 107, none, .ia .add .i64 (.t 94) (.c (.int .i64 1))⟩, ⟨some 94, none, .mv (.t 107)⟩])))

def l_gate_Compare_2 : AC :=
  .loop [6, 7, 92, 93, 94] b_gate_Compare_2

def r_gate_Compare_1 : AC :=
  .seq (.reg [⟨some 108, none, .tk (.t 6)⟩, ⟨some 4, none, .tk (.t 108)⟩, ⟨some 5, none, .tk (.c (.bool true))⟩])
  (.ret)

def r_gate_Compare_2 : AC :=
  .seq (.seq (.reg [⟨some 91, none, .fa 2 (.t 3)⟩, ⟨some 92, none, .ld none (.t 91)⟩, ⟨some 93, none, .len false (.t 92)⟩, ⟨some 94, none, .mv (.c (.int .i64 0))⟩])
    (.block 4 (l_gate_Compare_2))) r_gate_Compare_1

def c_gate_Compare : AFunc :=
  { np := 2, res := [.t 4, .t 5], body := (
    .seq (.reg [⟨some 2, none, .box (.t 0)⟩, ⟨some 3, none, .box (.t 1)⟩, ⟨some 4, none, .tk (.c (.own 13 []))⟩, ⟨some 5, none, .tk (.c (.bool false))⟩])
    (.seq (.seq (.reg [⟨some 17, none, .ld (some 4) (.t 2)⟩, ⟨some 18, none, .callc n_score_Right [(.t 17)]⟩, ⟨some 19, none, .notb (.t 18)⟩, ⟨some 20, none, .mv (.t 19)⟩, ⟨some 21, (some (20, false)), .ld (some 4) (.t 3)⟩, ⟨some 22, (some (20, false)), .callc n_score_Right [(.t 21)]⟩, ⟨some 23, (some (20, false)), .notb (.t 22)⟩, ⟨some 24, none, .pick (.t 20) (.c (.bool true)) (.t 23)⟩, ⟨some 25, none, .mv (.t 24)⟩, ⟨some 26, (some (25, false)), .fa 1 (.t 2)⟩, ⟨some 27, (some (25, false)), .ld none (.t 26)⟩, ⟨some 28, (some (25, false)), .len false (.t 27)⟩, ⟨some 29, (some (25, false)), .fa 1 (.t 3)⟩, ⟨some 30, (some (25, false)), .ld none (.t 29)⟩, ⟨some 31, (some (25, false)), .len false (.t 30)⟩, ⟨some 32, (some (25, false)), .ic .neq (.t 28) (.t 31)⟩, ⟨some 33, none, .pick (.t 25) (.c (.bool true)) (.t 32)⟩])
      (.cond (.t 33)
        (.seq (.reg [⟨some 4, none, .tk (.c (.own 13 []))⟩, ⟨some 5, none, .tk (.c (.bool false))⟩])
          (.ret))
        (.skip)))
    (.seq (.reg [⟨some 6, none, .tk (.c (.own 13 []))⟩])
    (.seq (.drw [[], [], [], [0], [], []] [⟨some 34, none, .ld (some 4) (.t 2)⟩, ⟨some 35, none, .callx n_gate_rows [(.t 34)]⟩, ⟨some 36, none, .ld (some 4) (.t 3)⟩, ⟨some 37, none, .call n_gate_rows [(.t 36)]⟩, ⟨some 7, none, .tk (.t 35)⟩, ⟨some 8, none, .tk (.t 37)⟩])
    (.seq (.seq (.reg [⟨some 38, none, .fa 2 (.t 2)⟩, ⟨some 39, none, .ld none (.t 38)⟩, ⟨some 40, none, .len false (.t 39)⟩, ⟨some 41, none, .mv (.c (.int .i64 0))⟩])
      (.block 0 (l_gate_Compare_1))) r_gate_Compare_2))))) }

-- flotsam/flotsamref45.Compare
def b_flotsamref45_Compare_0 : AC :=
  .seq (.seq (.reg [⟨some 54, none, .mv (.t 9)⟩, ⟨some 55, none, .fa 3 (.t 2)⟩, ⟨some 56, none, .ld none (.t 55)⟩, ⟨some 57, none, .mv (.t 7)⟩, ⟨some 58, none, .ixa 1 none (.t 56) (.t 57)⟩, ⟨some 59, none, .ld none (.t 58)⟩, ⟨some 60, none, .len false (.t 59)⟩, ⟨some 61, none, .ic .lss (.t 54) (.t 60)⟩])
    (.cond (.t 61)
      (.skip)
      (.exit 2)))
  (.seq (.block 3 (.seq (.drw [[], [], [], [], [], [], [], [], [], [], [], [], [], [], [], [], [], [], [], []] [⟨some 64, none, .fa 3 (.t 2)⟩, ⟨some 65, none, .ld none (.t 64)⟩, ⟨some 66, none, .mv (.t 7)⟩, ⟨some 67, none, .ixa 1 none (.t 65) (.t 66)⟩, ⟨some 68, none, .ld none (.t 67)⟩, ⟨some 69, none, .mv (.t 9)⟩, ⟨some 70, none, .ixa 6 none (.t 68) (.t 69)⟩, ⟨some 71, none, .fa 0 (.t 70)⟩, ⟨some 72, none, .ld none (.t 71)⟩, ⟨some 73, none, .fa 3 (.t 3)⟩, ⟨some 74, none, .ld none (.t 73)⟩, ⟨some 75, none, .mv (.t 8)⟩, ⟨some 76, none, .ixa 1 none (.t 74) (.t 75)⟩, ⟨some 77, none, .ld none (.t 76)⟩, ⟨some 78, none, .mv (.t 9)⟩, ⟨some 79, none, .ixa 6 none (.t 77) (.t 78)⟩, ⟨some 80, none, .fa 0 (.t 79)⟩, ⟨some 81, none, .ld none (.t 80)⟩, ⟨some 82, none, .callc n_flotsamref45_kind [(.t 72), (.t 81)]⟩, ⟨some 10, none, .tk (.t 82)⟩])
      (.seq (.reg [⟨some 83, none, .mv (.t 10)⟩, ⟨some 84, none, .ic .gtr (.t 83) (.c (.int .i64 0))⟩])
      (.cond (.t 84)
        (.reg [⟨some 85, none, .tk (.t 6)⟩, ⟨some 86, none, .mv (.t 10)⟩, ⟨some 87, none, .fa 2 (.t 2)⟩, ⟨some 88, none, .ld none (.t 87)⟩, ⟨some 89, none, .mv (.t 7)⟩, ⟨some 90, none, .ixa 11 none (.t 88) (.t 89)⟩, ⟨some 91, none, .ld (some 11) (.t 90)⟩, ⟨some 92, none, .mv (.t 9)⟩, ⟨some 93, none, .bld [.int .i64 0, .int .i64 0, .int .i64 0, .int .i64 0, .int .i64 0, .int .i64 0, .int .i64 0, .int .i64 0, .int .i64 0, .int .i64 0, .int .i64 0, .int .i64 0, .int .i64 0] [(0, 1, (.t 86)), (1, 11, (.t 91)), (12, 1, (.t 92))]⟩, ⟨some 94, none, .bsl 13 [.int .i64 0, .int .i64 0, .int .i64 0, .int .i64 0, .int .i64 0, .int .i64 0, .int .i64 0, .int .i64 0, .int .i64 0, .int .i64 0, .int .i64 0, .int .i64 0, .int .i64 0] 1 [(0, 13, (.t 93))] false⟩, ⟨some 95, none, .app 13 104 (.t 85) (.t 94) false⟩, ⟨some 6, none, .tk (.t 95)⟩])
        (.skip)))))
  (.reg [⟨some 62, none, .mv (.t 9)⟩, ⟨some 63, none, .ia .add .i64 (.t 62) (.c (.int .i64 1))⟩, ⟨some 9, none, .tk (.t 63)⟩]))

def l_flotsamref45_Compare_0 : AC :=
  .loop [2, 3, 6, 7, 8, 9] b_flotsamref45_Compare_0

def r_flotsamref45_Compare_0 : AC :=
  .reg [⟨some 34, none, .mv (.t 7)⟩, ⟨some 35, none, .ia .add .i64 (.t 34) (.c (.int .i64 1))⟩, ⟨some 7, none, .tk (.t 35)⟩]

def b_flotsamref45_Compare_1 : AC :=
  .seq (.seq (.reg [⟨some 29, none, .mv (.t 7)⟩, ⟨some 30, none, .fa 2 (.t 2)⟩, ⟨some 31, none, .ld none (.t 30)⟩, ⟨some 32, none, .len false (.t 31)⟩, ⟨some 33, none, .ic .lss (.t 29) (.t 32)⟩])
    (.cond (.t 33)
      (.skip)
      (.exit 0)))
  (.seq (.block 1 (.seq (.drw [[], [], [], [], [], [], [], []] [⟨some 36, none, .ld (some 4) (.t 3)⟩, ⟨some 37, none, .fa 2 (.t 2)⟩, ⟨some 38, none, .ld none (.t 37)⟩, ⟨some 39, none, .mv (.t 7)⟩, ⟨some 40, none, .ixa 11 none (.t 38) (.t 39)⟩, ⟨some 41, none, .ld (some 11) (.t 40)⟩, ⟨some 42, none, .callc n_flotsamref45_row [(.t 36), (.t 41)]⟩, ⟨some 8, none, .tk (.t 42)⟩])
      (.seq (.seq (.reg [⟨some 43, none, .mv (.t 8)⟩, ⟨some 44, none, .ic .lss (.t 43) (.c (.int .i64 0))⟩])
        (.cond (.t 44)
          (.seq (.reg [⟨some 45, none, .tk (.t 6)⟩, ⟨some 46, none, .fa 2 (.t 2)⟩, ⟨some 47, none, .ld none (.t 46)⟩, ⟨some 48, none, .mv (.t 7)⟩, ⟨some 49, none, .ixa 11 none (.t 47) (.t 48)⟩, ⟨some 50, none, .ld (some 11) (.t 49)⟩, ⟨some 51, none, .bld [.int .i64 0, .int .i64 0, .int .i64 0, .int .i64 0, .int .i64 0, .int .i64 0, .int .i64 0, .int .i64 0, .int .i64 0, .int .i64 0, .int .i64 0, .int .i64 0, .int .i64 0] [(0, 1, (.c (.int .i64 5))), (1, 11, (.t 50))]⟩, ⟨some 52, none, .bsl 13 [.int .i64 0, .int .i64 0, .int .i64 0, .int .i64 0, .int .i64 0, .int .i64 0, .int .i64 0, .int .i64 0, .int .i64 0, .int .i64 0, .int .i64 0, .int .i64 0, .int .i64 0] 1 [(0, 13, (.t 51))] false⟩, ⟨some 53, none, .app 13 104 (.t 45) (.t 52) false⟩, ⟨some 6, none, .tk (.t 53)⟩])
            (.exit 1))
          (.skip)))
      (.seq (.reg [⟨some 9, none, .tk (.c (.int .i64 0))⟩])
      (.block 2 (l_flotsamref45_Compare_0)))))) r_flotsamref45_Compare_0)

def l_flotsamref45_Compare_1 : AC :=
  .loop [2, 3, 6, 7] b_flotsamref45_Compare_1

def b_flotsamref45_Compare_2 : AC :=
  .seq (.seq (.reg [⟨some 96, none, .mv (.t 11)⟩, ⟨some 97, none, .fa 2 (.t 3)⟩, ⟨some 98, none, .ld none (.t 97)⟩, ⟨some 99, none, .len false (.t 98)⟩, ⟨some 100, none, .ic .lss (.t 96) (.t 99)⟩])
    (.cond (.t 100)
      (.skip)
      (.exit 4)))
  (.seq (.block 5 (.seq (.drw [[], [], [], [], [], [], [], []] [⟨some 103, none, .ld (some 4) (.t 2)⟩, ⟨some 104, none, .fa 2 (.t 3)⟩, ⟨some 105, none, .ld none (.t 104)⟩, ⟨some 106, none, .mv (.t 11)⟩, ⟨some 107, none, .ixa 11 none (.t 105) (.t 106)⟩, ⟨some 108, none, .ld (some 11) (.t 107)⟩, ⟨some 109, none, .callc n_flotsamref45_row [(.t 103), (.t 108)]⟩, ⟨some 110, none, .ic .lss (.t 109) (.c (.int .i64 0))⟩])
      (.cond (.t 110)
        (.reg [⟨some 111, none, .tk (.t 6)⟩, ⟨some 112, none, .fa 2 (.t 3)⟩, ⟨some 113, none, .ld none (.t 112)⟩, ⟨some 114, none, .mv (.t 11)⟩, ⟨some 115, none, .ixa 11 none (.t 113) (.t 114)⟩, ⟨some 116, none, .ld (some 11) (.t 115)⟩, ⟨some 117, none, .bld [.int .i64 0, .int .i64 0, .int .i64 0, .int .i64 0, .int .i64 0, .int .i64 0, .int .i64 0, .int .i64 0, .int .i64 0, .int .i64 0, .int .i64 0, .int .i64 0, .int .i64 0] [(0, 1, (.c (.int .i64 6))), (1, 11, (.t 116))]⟩, ⟨some 118, none, .bsl 13 [.int .i64 0, .int .i64 0, .int .i64 0, .int .i64 0, .int .i64 0, .int .i64 0, .int .i64 0, .int .i64 0, .int .i64 0, .int .i64 0, .int .i64 0, .int .i64 0, .int .i64 0] 1 [(0, 13, (.t 117))] false⟩, ⟨some 119, none, .app 13 104 (.t 111) (.t 118) false⟩, ⟨some 6, none, .tk (.t 119)⟩])
        (.skip))))
  (.reg [⟨some 101, none, .mv (.t 11)⟩, ⟨some 102, none, .ia .add .i64 (.t 101) (.c (.int .i64 1))⟩, ⟨some 11, none, .tk (.t 102)⟩]))

def l_flotsamref45_Compare_2 : AC :=
  .loop [2, 3, 6, 11] b_flotsamref45_Compare_2

def r_flotsamref45_Compare_1 : AC :=
  .seq (.reg [⟨some 120, none, .tk (.t 6)⟩, ⟨some 4, none, .tk (.t 120)⟩, ⟨some 5, none, .tk (.c (.bool true))⟩])
  (.ret)

def r_flotsamref45_Compare_2 : AC :=
  .seq (.seq (.reg [⟨some 11, none, .tk (.c (.int .i64 0))⟩])
    (.block 4 (l_flotsamref45_Compare_2))) r_flotsamref45_Compare_1

def c_flotsamref45_Compare : AFunc :=
  { np := 2, res := [.t 4, .t 5], body := (
    .seq (.reg [⟨some 2, none, .box (.t 0)⟩, ⟨some 3, none, .box (.t 1)⟩, ⟨some 4, none, .tk (.c (.own 13 []))⟩, ⟨some 5, none, .tk (.c (.bool false))⟩])
    (.seq (.seq (.reg [⟨some 12, none, .ld (some 4) (.t 2)⟩, ⟨some 13, none, .callc n_flotsamref32_Right [(.t 12)]⟩, ⟨some 14, none, .notb (.t 13)⟩, ⟨some 15, none, .mv (.t 14)⟩, ⟨some 16, (some (15, false)), .ld (some 4) (.t 3)⟩, ⟨some 17, (some (15, false)), .callc n_flotsamref32_Right [(.t 16)]⟩, ⟨some 18, (some (15, false)), .notb (.t 17)⟩, ⟨some 19, none, .pick (.t 15) (.c (.bool true)) (.t 18)⟩, ⟨some 20, none, .mv (.t 19)⟩, ⟨some 21, (some (20, false)), .fa 1 (.t 2)⟩, ⟨some 22, (some (20, false)), .ld none (.t 21)⟩, ⟨some 23, (some (20, false)), .len false (.t 22)⟩, ⟨some 24, (some (20, false)), .fa 1 (.t 3)⟩, ⟨some 25, (some (20, false)), .ld none (.t 24)⟩, ⟨some 26, (some (20, false)), .len false (.t 25)⟩, ⟨some 27, (some (20, false)), .ic .neq (.t 23) (.t 26)⟩, ⟨some 28, none, .pick (.t 20) (.c (.bool true)) (.t 27)⟩])
      (.cond (.t 28)
        (.seq (.reg [⟨some 4, none, .tk (.c (.own 13 []))⟩, ⟨some 5, none, .tk (.c (.bool false))⟩])
          (.ret))
        (.skip)))
    (.seq (.reg [⟨some 6, none, .tk (.c (.own 13 []))⟩])
    (.seq (.seq (.reg [⟨some 7, none, .tk (.c (.int .i64 0))⟩])
      (.block 0 (l_flotsamref45_Compare_1))) r_flotsamref45_Compare_2)))) }

-- flotsam/flotsamref45.Same
def b_flotsamref45_Same_0 : AC :=
  .seq (.seq (.reg [⟨some 11, none, .mv (.t 5)⟩, ⟨some 12, none, .mv (.t 0)⟩, ⟨some 13, none, .len false (.t 12)⟩, ⟨some 14, none, .ic .lss (.t 11) (.t 13)⟩])
    (.cond (.t 14)
      (.skip)
      (.exit 0)))
  (.seq (.block 1 (.seq (.drw [[], [], [], [], [], [], [], [], []] [⟨some 17, none, .mv (.t 0)⟩, ⟨some 18, none, .mv (.t 5)⟩, ⟨some 19, none, .ixa 13 none (.t 17) (.t 18)⟩, ⟨some 20, none, .ld (some 13) (.t 19)⟩, ⟨some 21, none, .mv (.t 1)⟩, ⟨some 22, none, .mv (.t 5)⟩, ⟨some 23, none, .ixa 13 none (.t 21) (.t 22)⟩, ⟨some 24, none, .ld (some 13) (.t 23)⟩, ⟨some 25, none, .eqa true [.int .i64, .int .i64, .int .i64, .int .i64, .int .i64, .int .i64, .int .i64, .int .i64, .int .i64, .int .i64, .int .i64, .int .i64, .int .i64] (.t 20) (.t 24)⟩])
      (.cond (.t 25)
        (.seq (.reg [⟨some 4, none, .tk (.c (.bool false))⟩])
          (.ret))
        (.skip))))
  (.reg [⟨some 15, none, .mv (.t 5)⟩, ⟨some 16, none, .ia .add .i64 (.t 15) (.c (.int .i64 1))⟩, ⟨some 5, none, .tk (.t 16)⟩]))

def l_flotsamref45_Same_0 : AC :=
  .loop [0, 1, 5] b_flotsamref45_Same_0

def r_flotsamref45_Same_0 : AC :=
  .seq (.reg [⟨some 4, none, .tk (.c (.bool true))⟩])
  (.ret)

def c_flotsamref45_Same : AFunc :=
  { np := 2, res := [.t 4], body := (
    .seq (.reg [⟨some 4, none, .tk (.c (.bool false))⟩])
    (.seq (.seq (.reg [⟨some 6, none, .mv (.t 0)⟩, ⟨some 7, none, .len false (.t 6)⟩, ⟨some 8, none, .mv (.t 1)⟩, ⟨some 9, none, .len false (.t 8)⟩, ⟨some 10, none, .ic .neq (.t 7) (.t 9)⟩])
      (.cond (.t 10)
        (.seq (.reg [⟨some 4, none, .tk (.c (.bool false))⟩])
          (.ret))
        (.skip)))
    (.seq (.seq (.reg [⟨some 5, none, .tk (.c (.int .i64 0))⟩])
      (.block 0 (l_flotsamref45_Same_0))) r_flotsamref45_Same_0))) }

-- flotsam/flotsamlaw45.back
def b_flotsamlaw45_back_0 : AC :=
  .seq (.seq (.reg [⟨some 5, none, .mv (.t 4)⟩, ⟨some 6, none, .mv (.t 0)⟩, ⟨some 7, none, .len false (.t 6)⟩, ⟨some 8, none, .ic .lss (.t 5) (.t 7)⟩])
    (.cond (.t 8)
      (.skip)
      (.exit 0)))
  (.seq (.block 1 (.reg [⟨some 11, none, .tk (.t 3)⟩, ⟨some 12, none, .mv (.t 0)⟩, ⟨some 13, none, .mv (.t 4)⟩, ⟨some 14, none, .ixa 13 none (.t 12) (.t 13)⟩, ⟨some 15, none, .ld (some 13) (.t 14)⟩, ⟨some 16, none, .bsl 13 [.int .i64 0, .int .i64 0, .int .i64 0, .int .i64 0, .int .i64 0, .int .i64 0, .int .i64 0, .int .i64 0, .int .i64 0, .int .i64 0, .int .i64 0, .int .i64 0, .int .i64 0] 1 [(0, 13, (.t 15))] false⟩, ⟨some 17, none, .app 13 104 (.t 11) (.t 16) false⟩, ⟨some 3, none, .tk (.t 17)⟩]))
  (.reg [⟨some 9, none, .mv (.t 4)⟩, ⟨some 10, none, .ia .add .i64 (.t 9) (.c (.int .i64 1))⟩, ⟨some 4, none, .tk (.t 10)⟩]))

def l_flotsamlaw45_back_0 : AC :=
  .loop [0, 3, 4] b_flotsamlaw45_back_0

def r_flotsamlaw45_back_0 : AC :=
  .seq (.reg [⟨some 18, none, .tk (.t 3)⟩, ⟨some 2, none, .tk (.t 18)⟩])
  (.ret)

def c_flotsamlaw45_back : AFunc :=
  { np := 1, res := [.t 2], body := (
    .seq (.reg [⟨some 2, none, .tk (.c (.own 13 []))⟩])
    (.seq (.reg [⟨some 3, none, .tk (.c (.own 13 []))⟩])
    (.seq (.seq (.reg [⟨some 4, none, .tk (.c (.int .i64 0))⟩])
      (.block 0 (l_flotsamlaw45_back_0))) r_flotsamlaw45_back_0))) }

-- flotsam/gate.Opens
def b_gate_Opens_0 : AC :=
  .seq (.reg [⟨some 18, none, .ic .lss (.t 17) (.t 16)⟩])
  (.seq (.cond (.t 18)
      (.skip)
      (.exit 0))
  (.seq (.block 1 (.seq (.reg [⟨some 19, none, .ixa 13 none (.t 15) (.t 17)⟩, ⟨some 20, none, .ld (some 13) (.t 19)⟩, ⟨some 8, none, .alloc [.int .i64 0, .int .i64 0, .int .i64 0, .int .i64 0, .int .i64 0, .int .i64 0, .int .i64 0, .int .i64 0, .int .i64 0, .int .i64 0, .int .i64 0, .int .i64 0, .int .i64 0]⟩, ⟨none, none, .st 13 (.t 8) (.t 20)⟩])
      (.seq (.reg [⟨some 21, none, .fa 0 (.t 8)⟩, ⟨some 22, none, .ld none (.t 21)⟩])
      (.block 2 (.seq (.seq (.reg [⟨some 24, none, .ic .eql (.t 22) (.c (.int .i64 1))⟩, ⟨some 23, none, .tk (.t 24)⟩])
          (.cond (.t 23)
            (.skip)
            (.seq (.reg [⟨some 25, none, .ic .eql (.t 22) (.c (.int .i64 3))⟩, ⟨some 23, none, .tk (.t 25)⟩])
              (.cond (.t 23)
                (.skip)
                (.reg [⟨some 26, none, .ic .eql (.t 22) (.c (.int .i64 5))⟩, ⟨some 23, none, .tk (.t 26)⟩])))))
        (.cond (.t 23)
          (.seq (.reg [⟨some 4, none, .tk (.c (.bool false))⟩])
            (.ret))
          (.skip)))))))
  (.reg [⟨some 27, none, .ia .add .i64 (.t 17) (.c (.int .i64 1))⟩, ⟨some 17, none, .mv (.t 27)⟩])))

def l_gate_Opens_0 : AC :=
  .loop [2, 3, 6, 15, 16, 17] b_gate_Opens_0

def r_gate_Opens_0 : AC :=
  .seq (.reg [⟨some 28, none, .mv (.t 6)⟩, ⟨some 29, none, .mv (.t 28)⟩, ⟨some 30, (some (29, true)), .fa 0 (.t 2)⟩, ⟨some 31, (some (29, true)), .ld none (.t 30)⟩, ⟨some 32, (some (29, true)), .mv (.t 31)⟩, ⟨some 33, (some (32, false)), .fa 0 (.t 3)⟩, ⟨some 34, (some (32, false)), .ld none (.t 33)⟩, ⟨some 35, (some (32, false)), .notb (.t 34)⟩, ⟨some 36, (some (29, true)), .pick (.t 32) (.c (.bool true)) (.t 35)⟩, ⟨some 37, none, .pick (.t 29) (.t 36) (.c (.bool false))⟩, ⟨some 4, none, .tk (.t 37)⟩])
  (.ret)

def c_gate_Opens : AFunc :=
  { np := 2, res := [.t 4], body := (
    .seq (.reg [⟨some 2, none, .box (.t 0)⟩, ⟨some 3, none, .box (.t 1)⟩, ⟨some 4, none, .tk (.c (.bool false))⟩])
    (.seq (.reg [⟨some 10, none, .ld (some 4) (.t 2)⟩, ⟨some 11, none, .ld (some 4) (.t 3)⟩, ⟨some 12, none, .callc n_gate_Compare [(.t 10), (.t 11)]⟩, ⟨some 9, none, .mv (.t 12)⟩, ⟨some 13, none, .ext (.t 9) 0⟩, ⟨some 14, none, .ext (.t 9) 1⟩, ⟨some 5, none, .tk (.t 13)⟩, ⟨some 6, none, .tk (.t 14)⟩])
    (.seq (.seq (.reg [⟨some 15, none, .mv (.t 5)⟩, ⟨some 16, none, .len false (.t 15)⟩, ⟨some 17, none, .mv (.c (.int .i64 0))⟩])
      (.block 0 (l_gate_Opens_0))) r_gate_Opens_0))) }

-- flotsam/flotsamref45.Opens
def b_flotsamref45_Opens_0 : AC :=
  .seq (.seq (.reg [⟨some 25, none, .mv (.t 7)⟩, ⟨some 26, none, .mv (.t 5)⟩, ⟨some 27, none, .len false (.t 26)⟩, ⟨some 28, none, .ic .lss (.t 25) (.t 27)⟩])
    (.cond (.t 28)
      (.skip)
      (.exit 0)))
  (.seq (.block 1 (.seq (.reg [⟨some 31, none, .mv (.t 5)⟩, ⟨some 32, none, .mv (.t 7)⟩, ⟨some 33, none, .ixa 13 none (.t 31) (.t 32)⟩, ⟨some 34, none, .fa 0 (.t 33)⟩, ⟨some 35, none, .ld none (.t 34)⟩, ⟨some 36, none, .ic .eql (.t 35) (.c (.int .i64 1))⟩, ⟨some 37, none, .mv (.t 36)⟩, ⟨some 38, (some (37, false)), .mv (.t 5)⟩, ⟨some 39, (some (37, false)), .mv (.t 7)⟩, ⟨some 40, (some (37, false)), .ixa 13 none (.t 38) (.t 39)⟩, ⟨some 41, (some (37, false)), .fa 0 (.t 40)⟩, ⟨some 42, (some (37, false)), .ld none (.t 41)⟩, ⟨some 43, (some (37, false)), .ic .eql (.t 42) (.c (.int .i64 3))⟩, ⟨some 44, none, .pick (.t 37) (.c (.bool true)) (.t 43)⟩, ⟨some 45, none, .mv (.t 44)⟩, ⟨some 46, (some (45, false)), .mv (.t 5)⟩, ⟨some 47, (some (45, false)), .mv (.t 7)⟩, ⟨some 48, (some (45, false)), .ixa 13 none (.t 46) (.t 47)⟩, ⟨some 49, (some (45, false)), .fa 0 (.t 48)⟩, ⟨some 50, (some (45, false)), .ld none (.t 49)⟩, ⟨some 51, (some (45, false)), .ic .eql (.t 50) (.c (.int .i64 5))⟩, ⟨some 52, none, .pick (.t 45) (.c (.bool true)) (.t 51)⟩])
      (.cond (.t 52)
        (.seq (.reg [⟨some 4, none, .tk (.c (.bool false))⟩])
          (.ret))
        (.skip))))
  (.reg [⟨some 29, none, .mv (.t 7)⟩, ⟨some 30, none, .ia .add .i64 (.t 29) (.c (.int .i64 1))⟩, ⟨some 7, none, .tk (.t 30)⟩]))

def l_flotsamref45_Opens_0 : AC :=
  .loop [5, 7] b_flotsamref45_Opens_0

def r_flotsamref45_Opens_0 : AC :=
  .seq (.reg [⟨some 4, none, .tk (.c (.bool true))⟩])
  (.ret)

def c_flotsamref45_Opens : AFunc :=
  { np := 2, res := [.t 4], body := (
    .seq (.reg [⟨some 2, none, .box (.t 0)⟩, ⟨some 3, none, .box (.t 1)⟩, ⟨some 4, none, .tk (.c (.bool false))⟩])
    (.seq (.reg [⟨some 9, none, .ld (some 4) (.t 2)⟩, ⟨some 10, none, .ld (some 4) (.t 3)⟩, ⟨some 11, none, .callc n_flotsamref45_Compare [(.t 9), (.t 10)]⟩, ⟨some 8, none, .mv (.t 11)⟩, ⟨some 12, none, .ext (.t 8) 0⟩, ⟨some 13, none, .ext (.t 8) 1⟩, ⟨some 5, none, .tk (.t 12)⟩, ⟨some 6, none, .tk (.t 13)⟩])
    (.seq (.seq (.reg [⟨some 14, none, .mv (.t 6)⟩, ⟨some 15, none, .notb (.t 14)⟩, ⟨some 16, none, .mv (.t 15)⟩, ⟨some 17, (some (16, false)), .fa 0 (.t 3)⟩, ⟨some 18, (some (16, false)), .ld none (.t 17)⟩, ⟨some 19, (some (16, false)), .mv (.t 18)⟩, ⟨some 20, (some (19, true)), .fa 0 (.t 2)⟩, ⟨some 21, (some (19, true)), .ld none (.t 20)⟩, ⟨some 22, (some (19, true)), .notb (.t 21)⟩, ⟨some 23, (some (16, false)), .pick (.t 19) (.t 22) (.c (.bool false))⟩, ⟨some 24, none, .pick (.t 16) (.c (.bool true)) (.t 23)⟩])
      (.cond (.t 24)
        (.seq (.reg [⟨some 4, none, .tk (.c (.bool false))⟩])
          (.ret))
        (.skip)))
    (.seq (.seq (.reg [⟨some 7, none, .tk (.c (.int .i64 0))⟩])
      (.block 0 (l_flotsamref45_Opens_0))) r_flotsamref45_Opens_0)))) }

-- flotsam/gate.Show
def b_gate_Show_0 : AC :=
  .seq (.reg [⟨some 12, none, .ic .lss (.t 11) (.t 10)⟩])
  (.seq (.cond (.t 12)
      (.skip)
      (.exit 0))
  (.seq (.block 1 (.seq (.reg [⟨some 13, none, .ixa 13 none (.t 9) (.t 11)⟩, ⟨some 14, none, .ld (some 13) (.t 13)⟩, ⟨some 5, none, .alloc [.int .i64 0, .int .i64 0, .int .i64 0, .int .i64 0, .int .i64 0, .int .i64 0, .int .i64 0, .int .i64 0, .int .i64 0, .int .i64 0, .int .i64 0, .int .i64 0, .int .i64 0]⟩, ⟨none, none, .st 13 (.t 5) (.t 14)⟩])
      (.seq (.reg [⟨some 16, none, .fa 1 (.t 5)⟩, ⟨some 17, none, .ld (some 11) (.t 16)⟩, ⟨some 18, none, .callc n_site_Name [(.t 17)]⟩, ⟨some 15, none, .mv (.t 18)⟩, ⟨some 19, none, .ext (.t 15) 0⟩, ⟨some 20, none, .ext (.t 15) 1⟩, ⟨some 6, none, .tk (.t 19)⟩, ⟨some 7, none, .tk (.t 20)⟩])
      (.seq (.seq (.reg [⟨some 21, none, .mv (.t 7)⟩, ⟨some 22, none, .notb (.t 21)⟩])
        (.cond (.t 22)
          (.reg [⟨some 23, none, .callc n_gate_word [(.c (.int .i64 0))]⟩, ⟨some 6, none, .tk (.t 23)⟩])
          (.skip)))
      (.seq (.reg [⟨some 24, none, .fa 0 (.t 5)⟩, ⟨some 25, none, .ld none (.t 24)⟩, ⟨some 26, none, .callc n_gate_word [(.t 25)]⟩, ⟨some 27, none, .mv (.t 6)⟩, ⟨some 28, none, .bsl 1 [.str []] 2 [(0, 1, (.t 26)), (1, 1, (.t 27))] false⟩, ⟨some 8, none, .tk (.t 28)⟩])
      (.seq (.seq (.reg [⟨some 29, none, .fa 0 (.t 5)⟩, ⟨some 30, none, .ld none (.t 29)⟩, ⟨some 31, none, .ic .neq (.t 30) (.c (.int .i64 5))⟩, ⟨some 32, none, .mv (.t 31)⟩, ⟨some 33, (some (32, true)), .fa 0 (.t 5)⟩, ⟨some 34, (some (32, true)), .ld none (.t 33)⟩, ⟨some 35, (some (32, true)), .ic .neq (.t 34) (.c (.int .i64 6))⟩, ⟨some 36, none, .pick (.t 32) (.t 35) (.c (.bool false))⟩])
        (.cond (.t 36)
          (.reg [⟨some 37, none, .tk (.t 8)⟩, ⟨some 38, none, .fa 12 (.t 5)⟩, ⟨some 39, none, .ld none (.t 38)⟩, ⟨some 40, none, .callc n_num_Digits [(.t 39)]⟩, ⟨some 41, none, .bsl 1 [.str []] 1 [(0, 1, (.t 40))] false⟩, ⟨some 42, none, .app 1 16 (.t 37) (.t 41) false⟩, ⟨some 8, none, .tk (.t 42)⟩])
          (.skip)))
      (.reg [⟨some 43, none, .mv (.t 8)⟩, ⟨some 44, none, .callc n_strings_Join [(.t 43), (.c (.str [32]))]⟩, ⟨some 45, none, .sop .add (.t 44) (.c (.str [10]))⟩, ⟨some 46, none, .call n_pstrings_Builder_WriteString [(.t 3), (.t 45)]⟩])))))))
  (.reg [⟨some 47, none, .ia .add .i64 (.t 11) (.c (.int .i64 1))⟩, ⟨some 11, none, .mv (.t 47)⟩])))

def l_gate_Show_0 : AC :=
  .loop [3, 9, 10, 11] b_gate_Show_0

def r_gate_Show_0 : AC :=
  .seq (.reg [⟨some 48, none, .call n_pstrings_Builder_String [(.t 3)]⟩, ⟨some 2, none, .tk (.t 48)⟩])
  (.ret)

def c_gate_Show : AFunc :=
  { np := 1, res := [.t 2], body := (
    .seq (.reg [⟨some 2, none, .tk (.c (.str []))⟩])
    (.seq (.reg [⟨some 3, none, .allocb bT bE⟩])
    (.seq (.seq (.reg [⟨some 9, none, .mv (.t 0)⟩, ⟨some 10, none, .len false (.t 9)⟩, ⟨some 11, none, .mv (.c (.int .i64 0))⟩])
      (.block 0 (l_gate_Show_0))) r_gate_Show_0))) }

-- flotsam/flotsamlaw45.notes
def b_flotsamlaw45_notes_0 : AC :=
  .seq (.seq (.reg [⟨some 5, none, .mv (.t 4)⟩, ⟨some 6, none, .mv (.t 0)⟩, ⟨some 7, none, .len false (.t 6)⟩, ⟨some 8, none, .ic .lss (.t 5) (.t 7)⟩])
    (.cond (.t 8)
      (.skip)
      (.exit 0)))
  (.seq (.block 1 (.reg [⟨some 11, none, .tk (.t 3)⟩, ⟨some 12, none, .mv (.t 0)⟩, ⟨some 13, none, .mv (.t 4)⟩, ⟨some 14, none, .ixa 13 none (.t 12) (.t 13)⟩, ⟨some 15, none, .ld (some 13) (.t 14)⟩, ⟨some 16, none, .bsl 13 [.int .i64 0, .int .i64 0, .int .i64 0, .int .i64 0, .int .i64 0, .int .i64 0, .int .i64 0, .int .i64 0, .int .i64 0, .int .i64 0, .int .i64 0, .int .i64 0, .int .i64 0] 1 [(0, 13, (.t 15))] false⟩, ⟨some 17, none, .app 13 104 (.t 11) (.t 16) false⟩, ⟨some 3, none, .tk (.t 17)⟩]))
  (.reg [⟨some 9, none, .mv (.t 4)⟩, ⟨some 10, none, .ia .add .i64 (.t 9) (.c (.int .i64 1))⟩, ⟨some 4, none, .tk (.t 10)⟩]))

def l_flotsamlaw45_notes_0 : AC :=
  .loop [0, 3, 4] b_flotsamlaw45_notes_0

def r_flotsamlaw45_notes_0 : AC :=
  .seq (.reg [⟨some 18, none, .tk (.t 3)⟩, ⟨some 2, none, .tk (.t 18)⟩])
  (.ret)

def c_flotsamlaw45_notes : AFunc :=
  { np := 1, res := [.t 2], body := (
    .seq (.reg [⟨some 2, none, .tk (.c (.own 13 []))⟩])
    (.seq (.reg [⟨some 3, none, .tk (.c (.own 13 []))⟩])
    (.seq (.seq (.reg [⟨some 4, none, .tk (.c (.int .i64 0))⟩])
      (.block 0 (l_flotsamlaw45_notes_0))) r_flotsamlaw45_notes_0))) }

-- flotsam/flotsamref45.Show
def b_flotsamref45_Show_0 : AC :=
  .seq (.seq (.reg [⟨some 11, none, .mv (.t 5)⟩, ⟨some 12, none, .mv (.t 0)⟩, ⟨some 13, none, .len false (.t 12)⟩, ⟨some 14, none, .ic .lss (.t 11) (.t 13)⟩])
    (.cond (.t 14)
      (.skip)
      (.exit 0)))
  (.seq (.block 1 (.seq (.reg [⟨some 17, none, .mv (.t 0)⟩, ⟨some 18, none, .mv (.t 5)⟩, ⟨some 19, none, .ixa 13 none (.t 17) (.t 18)⟩, ⟨some 20, none, .ld (some 13) (.t 19)⟩, ⟨some 6, none, .alloc [.int .i64 0, .int .i64 0, .int .i64 0, .int .i64 0, .int .i64 0, .int .i64 0, .int .i64 0, .int .i64 0, .int .i64 0, .int .i64 0, .int .i64 0, .int .i64 0, .int .i64 0]⟩, ⟨none, none, .st 13 (.t 6) (.t 20)⟩])
      (.seq (.reg [⟨some 7, none, .tk (.c (.str [63]))⟩])
      (.seq (.seq (.reg [⟨some 21, none, .fa 0 (.t 6)⟩, ⟨some 22, none, .ld none (.t 21)⟩, ⟨some 23, none, .ic .geq (.t 22) (.c (.int .i64 1))⟩, ⟨some 24, none, .mv (.t 23)⟩, ⟨some 25, (some (24, true)), .fa 0 (.t 6)⟩, ⟨some 26, (some (24, true)), .ld none (.t 25)⟩, ⟨some 27, (some (24, true)), .ic .leq (.t 26) (.c (.int .i64 6))⟩, ⟨some 28, none, .pick (.t 24) (.t 27) (.c (.bool false))⟩])
        (.cond (.t 28)
          (.reg [⟨some 29, none, .mv (.t 3)⟩, ⟨some 30, none, .fa 0 (.t 6)⟩, ⟨some 31, none, .ld none (.t 30)⟩, ⟨some 32, none, .ia .sub .i64 (.t 31) (.c (.int .i64 1))⟩, ⟨some 33, none, .ixa 1 none (.t 29) (.t 32)⟩, ⟨some 34, none, .ld none (.t 33)⟩, ⟨some 7, none, .tk (.t 34)⟩])
          (.skip)))
      (.seq (.reg [⟨some 36, none, .fa 1 (.t 6)⟩, ⟨some 37, none, .ld (some 11) (.t 36)⟩, ⟨some 38, none, .callc n_flotsamref25_Name [(.t 37)]⟩, ⟨some 35, none, .mv (.t 38)⟩, ⟨some 39, none, .ext (.t 35) 0⟩, ⟨some 40, none, .ext (.t 35) 1⟩, ⟨some 8, none, .tk (.t 39)⟩, ⟨some 9, none, .tk (.t 40)⟩])
      (.seq (.seq (.reg [⟨some 41, none, .mv (.t 9)⟩, ⟨some 42, none, .notb (.t 41)⟩])
        (.cond (.t 42)
          (.reg [⟨some 8, none, .tk (.c (.str [63]))⟩])
          (.skip)))
      (.seq (.reg [⟨some 43, none, .mv (.t 4)⟩, ⟨some 44, none, .mv (.t 7)⟩, ⟨some 45, none, .sop .add (.t 43) (.t 44)⟩, ⟨some 46, none, .sop .add (.t 45) (.c (.str [32]))⟩, ⟨some 47, none, .mv (.t 8)⟩, ⟨some 48, none, .sop .add (.t 46) (.t 47)⟩, ⟨some 4, none, .tk (.t 48)⟩])
      (.seq (.seq (.reg [⟨some 49, none, .fa 0 (.t 6)⟩, ⟨some 50, none, .ld none (.t 49)⟩, ⟨some 51, none, .ic .neq (.t 50) (.c (.int .i64 5))⟩, ⟨some 52, none, .mv (.t 51)⟩, ⟨some 53, (some (52, true)), .fa 0 (.t 6)⟩, ⟨some 54, (some (52, true)), .ld none (.t 53)⟩, ⟨some 55, (some (52, true)), .ic .neq (.t 54) (.c (.int .i64 6))⟩, ⟨some 56, none, .pick (.t 52) (.t 55) (.c (.bool false))⟩])
        (.cond (.t 56)
          (.reg [⟨some 57, none, .mv (.t 4)⟩, ⟨some 58, none, .sop .add (.t 57) (.c (.str [32]))⟩, ⟨some 59, none, .fa 12 (.t 6)⟩, ⟨some 60, none, .ld none (.t 59)⟩, ⟨some 61, none, .callc n_flotsamref01_Digits [(.t 60)]⟩, ⟨some 62, none, .sop .add (.t 58) (.t 61)⟩, ⟨some 4, none, .tk (.t 62)⟩])
          (.skip)))
      (.reg [⟨some 63, none, .mv (.t 4)⟩, ⟨some 64, none, .sop .add (.t 63) (.c (.str [10]))⟩, ⟨some 4, none, .tk (.t 64)⟩])))))))))
  (.reg [⟨some 15, none, .mv (.t 5)⟩, ⟨some 16, none, .ia .add .i64 (.t 15) (.c (.int .i64 1))⟩, ⟨some 5, none, .tk (.t 16)⟩]))

def l_flotsamref45_Show_0 : AC :=
  .loop [0, 3, 4, 5] b_flotsamref45_Show_0

def r_flotsamref45_Show_0 : AC :=
  .seq (.reg [⟨some 65, none, .mv (.t 4)⟩, ⟨some 2, none, .tk (.t 65)⟩])
  (.ret)

def c_flotsamref45_Show : AFunc :=
  { np := 1, res := [.t 2], body := (
    .seq (.reg [⟨some 2, none, .tk (.c (.str []))⟩])
    (.seq (.reg [⟨some 10, none, .bsl 1 [.str []] 6 [(0, 1, (.c (.str [108, 111, 115, 116]))), (1, 1, (.c (.str [119, 111, 110]))), (2, 1, (.c (.str [100, 97, 114, 107]))), (3, 1, (.c (.str [99, 108, 101, 97, 114]))), (4, 1, (.c (.str [103, 111, 110, 101]))), (5, 1, (.c (.str [102, 114, 101, 115, 104])))] false⟩, ⟨some 3, none, .tk (.t 10)⟩])
    (.seq (.reg [⟨some 4, none, .tk (.c (.str []))⟩])
    (.seq (.seq (.reg [⟨some 5, none, .tk (.c (.int .i64 0))⟩])
      (.block 0 (l_flotsamref45_Show_0))) r_flotsamref45_Show_0)))) }

-- flotsam/score.Right
def b_score_Right_0 : AC :=
  .seq (.reg [⟨some 68, none, .ic .lss (.t 67) (.t 66)⟩])
  (.seq (.cond (.t 68)
      (.skip)
      (.exit 1))
  (.seq (.block 2 (.seq (.reg [⟨some 69, none, .mv (.t 67)⟩, ⟨some 70, none, .ixa 11 none (.t 65) (.t 67)⟩, ⟨some 71, none, .ld (some 11) (.t 70)⟩, ⟨some 5, none, .alloc [.int .i64 0, .int .i64 0, .int .i64 0, .int .i64 0, .int .i64 0, .int .i64 0, .int .i64 0, .int .i64 0, .int .i64 0, .int .i64 0, .int .i64 0]⟩, ⟨some 4, none, .tk (.t 69)⟩, ⟨none, none, .st 11 (.t 5) (.t 71)⟩])
      (.seq (.reg [⟨some 73, none, .ld (some 11) (.t 5)⟩, ⟨some 74, none, .callc n_site_Name [(.t 73)]⟩, ⟨some 72, none, .mv (.t 74)⟩, ⟨some 75, none, .ext (.t 72) 0⟩, ⟨some 76, none, .ext (.t 72) 1⟩, ⟨some 6, none, .tk (.t 75)⟩, ⟨some 7, none, .tk (.t 76)⟩])
      (.seq (.drw [[], [], [], [], [], [], [], [], [], []] [⟨some 77, none, .mv (.t 7)⟩, ⟨some 78, none, .notb (.t 77)⟩, ⟨some 79, none, .mv (.t 78)⟩, ⟨some 80, (some (79, false)), .fa 2 (.t 1)⟩, ⟨some 81, (some (79, false)), .ld none (.t 80)⟩, ⟨some 82, (some (79, false)), .mv (.t 4)⟩, ⟨some 83, (some (79, false)), .sls 11 (.t 81) none (some (.t 82)) none⟩, ⟨some 84, (some (79, false)), .ld (some 11) (.t 5)⟩, ⟨some 85, (some (79, false)), .callc n_slices_Contains_api_Site_api_Site [(.t 83), (.t 84)]⟩, ⟨some 86, none, .pick (.t 79) (.c (.bool true)) (.t 85)⟩])
      (.cond (.t 86)
        (.seq (.reg [⟨some 2, none, .tk (.c (.bool false))⟩])
          (.ret))
        (.skip))))))
  (.reg [⟨some 87, none, .ia .add .i64 (.t 67) (.c (.int .i64 1))⟩, ⟨some 67, none, .mv (.t 87)⟩])))

def l_score_Right_0 : AC :=
  .loop [1, 65, 66, 67] b_score_Right_0

def r_score_Right_0 : AC :=
  .seq (.reg [⟨some 2, none, .tk (.c (.bool true))⟩])
  (.ret)

def c_score_Right : AFunc :=
  { np := 1, res := [.t 2], body := (
    .seq (.reg [⟨some 1, none, .box (.t 0)⟩, ⟨some 2, none, .tk (.c (.bool false))⟩])
    (.seq (.reg [⟨some 8, none, .fa 1 (.t 1)⟩, ⟨some 9, none, .ld none (.t 8)⟩, ⟨some 10, none, .len false (.t 9)⟩, ⟨some 3, none, .tk (.t 10)⟩])
    (.seq (.block 0 (.seq (.drw [[], [], [], [], [], [], [], [], [], [], [7], [7], [7], [7], [], [], [], [], []] [⟨some 12, none, .mv (.t 3)⟩, ⟨some 13, none, .ic .gtr (.t 12) (.c (.int .i64 16))⟩, ⟨some 14, none, .mv (.t 13)⟩, ⟨some 15, (some (14, false)), .mv (.t 3)⟩, ⟨some 16, (some (14, false)), .callx n_score_odd [(.t 15)]⟩, ⟨some 17, (some (14, false)), .fa 1 (.t 1)⟩, ⟨some 18, (some (14, false)), .ld none (.t 17)⟩, ⟨some 19, (some (14, false)), .callv (.t 16) [(.t 18)]⟩, ⟨some 20, none, .pick (.t 14) (.c (.bool true)) (.t 19)⟩, ⟨some 21, none, .mv (.t 20)⟩, ⟨some 22, (some (21, false)), .fa 0 (.t 1)⟩, ⟨some 23, (some (21, false)), .ld none (.t 22)⟩, ⟨some 24, (some (21, false)), .fa 1 (.t 1)⟩, ⟨some 25, (some (21, false)), .ld none (.t 24)⟩, ⟨some 26, (some (21, false)), .callc n_cell_Sum [(.t 25)]⟩, ⟨some 27, (some (21, false)), .ic .eql (.t 26) (.c (.int .i64 1))⟩, ⟨some 28, (some (21, false)), .eqb true (.t 23) (.t 27)⟩, ⟨some 29, none, .pick (.t 21) (.c (.bool true)) (.t 28)⟩, ⟨some 11, none, .tk (.t 29)⟩])
        (.cond (.t 11)
          (.seq (.reg [⟨some 2, none, .tk (.c (.bool false))⟩])
            (.ret))
          (.seq (.reg [⟨some 31, none, .fa 0 (.t 1)⟩, ⟨some 32, none, .ld none (.t 31)⟩, ⟨some 30, none, .tk (.t 32)⟩])
            (.cond (.t 30)
              (.seq (.reg [⟨some 33, none, .fa 2 (.t 1)⟩, ⟨some 34, none, .ld none (.t 33)⟩, ⟨some 35, none, .len false (.t 34)⟩, ⟨some 36, none, .ic .eql (.t 35) (.c (.int .i64 0))⟩, ⟨some 37, none, .mv (.t 36)⟩, ⟨some 38, (some (37, true)), .fa 3 (.t 1)⟩, ⟨some 39, (some (37, true)), .ld none (.t 38)⟩, ⟨some 40, (some (37, true)), .len false (.t 39)⟩, ⟨some 41, (some (37, true)), .ic .eql (.t 40) (.c (.int .i64 0))⟩, ⟨some 42, none, .pick (.t 37) (.t 41) (.c (.bool false))⟩, ⟨some 2, none, .tk (.t 42)⟩])
                (.ret))
              (.seq (.drw [[], [], [], [1], [1], [], [], [], [], [], [], [6, 9], [1, 6, 9], [1, 6, 9], [1, 6, 9], [1, 6, 9], [], [], [1, 6, 9], [], []] [⟨some 44, none, .fa 2 (.t 1)⟩, ⟨some 45, none, .ld none (.t 44)⟩, ⟨some 46, none, .len false (.t 45)⟩, ⟨some 47, none, .ic .gtr (.t 46) (.c (.int .i64 512))⟩, ⟨some 48, none, .mv (.t 47)⟩, ⟨some 49, (some (48, false)), .fa 2 (.t 1)⟩, ⟨some 50, (some (48, false)), .ld none (.t 49)⟩, ⟨some 51, (some (48, false)), .len false (.t 50)⟩, ⟨some 52, (some (48, false)), .fa 3 (.t 1)⟩, ⟨some 53, (some (48, false)), .ld none (.t 52)⟩, ⟨some 54, (some (48, false)), .len false (.t 53)⟩, ⟨some 55, (some (48, false)), .ic .neq (.t 51) (.t 54)⟩, ⟨some 56, none, .pick (.t 48) (.c (.bool true)) (.t 55)⟩, ⟨some 57, none, .mv (.t 56)⟩, ⟨some 58, (some (57, false)), .fa 3 (.t 1)⟩, ⟨some 59, (some (57, false)), .ld none (.t 58)⟩, ⟨some 60, (some (57, false)), .mv (.t 3)⟩, ⟨some 61, (some (57, false)), .callx n_score_odd [(.t 60)]⟩, ⟨some 62, (some (57, false)), .call n_slices_ContainsFunc_api_Cell_api_Cell [(.t 59), (.t 61)]⟩, ⟨some 63, none, .pick (.t 57) (.c (.bool true)) (.t 62)⟩, ⟨some 43, none, .tk (.t 63)⟩])
                (.cond (.t 43)
                  (.seq (.reg [⟨some 2, none, .tk (.c (.bool false))⟩])
                    (.ret))
                  (.skip))))))))
    (.seq (.seq (.reg [⟨some 64, none, .fa 2 (.t 1)⟩, ⟨some 65, none, .ld none (.t 64)⟩, ⟨some 66, none, .len false (.t 65)⟩, ⟨some 67, none, .mv (.c (.int .i64 0))⟩])
      (.block 1 (l_score_Right_0))) r_score_Right_0)))) }

-- flotsam/flotsamlaw45.count
def b_flotsamlaw45_count_0 : AC :=
  .seq (.seq (.reg [⟨some 7, none, .mv (.t 6)⟩, ⟨some 8, none, .mv (.t 0)⟩, ⟨some 9, none, .len false (.t 8)⟩, ⟨some 10, none, .ic .lss (.t 7) (.t 9)⟩])
    (.cond (.t 10)
      (.skip)
      (.exit 0)))
  (.seq (.block 1 (.seq (.reg [⟨some 13, none, .mv (.t 0)⟩, ⟨some 14, none, .mv (.t 6)⟩, ⟨some 15, none, .ixa 13 none (.t 13) (.t 14)⟩, ⟨some 16, none, .fa 0 (.t 15)⟩, ⟨some 17, none, .ld none (.t 16)⟩, ⟨some 18, none, .mv (.t 1)⟩, ⟨some 19, none, .ic .eql (.t 17) (.t 18)⟩])
      (.cond (.t 19)
        (.reg [⟨some 20, none, .mv (.t 5)⟩, ⟨some 21, none, .ia .add .i64 (.t 20) (.c (.int .i64 1))⟩, ⟨some 5, none, .tk (.t 21)⟩])
        (.skip))))
  (.reg [⟨some 11, none, .mv (.t 6)⟩, ⟨some 12, none, .ia .add .i64 (.t 11) (.c (.int .i64 1))⟩, ⟨some 6, none, .tk (.t 12)⟩]))

def l_flotsamlaw45_count_0 : AC :=
  .loop [0, 1, 5, 6] b_flotsamlaw45_count_0

def r_flotsamlaw45_count_0 : AC :=
  .seq (.reg [⟨some 22, none, .mv (.t 5)⟩, ⟨some 4, none, .tk (.t 22)⟩])
  (.ret)

def c_flotsamlaw45_count : AFunc :=
  { np := 2, res := [.t 4], body := (
    .seq (.reg [⟨some 4, none, .tk (.c (.int .i64 0))⟩])
    (.seq (.reg [⟨some 5, none, .tk (.c (.int .i64 0))⟩])
    (.seq (.seq (.reg [⟨some 6, none, .tk (.c (.int .i64 0))⟩])
      (.block 0 (l_flotsamlaw45_count_0))) r_flotsamlaw45_count_0))) }

-- flotsam/score.Score
def b_score_Score_0 : AC :=
  .seq (.reg [⟨some 13, none, .ic .lss (.t 12) (.t 11)⟩])
  (.seq (.cond (.t 13)
      (.skip)
      (.exit 0))
  (.seq (.block 1 (.seq (.reg [⟨some 14, none, .ixa 1 none (.t 10) (.t 12)⟩, ⟨some 15, none, .ld none (.t 14)⟩, ⟨some 7, none, .tk (.t 15)⟩])
      (.seq (.reg [⟨some 16, none, .mv (.t 7)⟩, ⟨some 17, none, .call n_score_says [(.c (.int .i64 1))]⟩, ⟨some 18, none, .call n_score_count_api_Cell [(.t 16), (.t 17)]⟩, ⟨some 8, none, .tk (.t 18)⟩])
      (.seq (.reg [⟨some 19, none, .mv (.t 4)⟩, ⟨some 20, none, .mv (.t 8)⟩, ⟨some 21, none, .ia .add .i64 (.t 19) (.t 20)⟩, ⟨some 4, none, .tk (.t 21)⟩])
      (.reg [⟨some 22, none, .mv (.t 5)⟩, ⟨some 23, none, .mv (.t 8)⟩, ⟨some 24, none, .mv (.t 7)⟩, ⟨some 25, none, .call n_score_says [(.c (.int .i64 0))]⟩, ⟨some 26, none, .call n_score_count_api_Cell [(.t 24), (.t 25)]⟩, ⟨some 27, none, .ia .add .i64 (.t 23) (.t 26)⟩, ⟨some 28, none, .ia .add .i64 (.t 22) (.t 27)⟩, ⟨some 5, none, .tk (.t 28)⟩])))))
  (.reg [⟨some 29, none, .ia .add .i64 (.t 12) (.c (.int .i64 1))⟩, ⟨some 12, none, .mv (.t 29)⟩])))

def l_score_Score_0 : AC :=
  .loop [4, 5, 10, 11, 12] b_score_Score_0

def r_score_Score_0 : AC :=
  .seq (.reg [⟨some 30, none, .mv (.t 4)⟩, ⟨some 31, none, .mv (.t 5)⟩, ⟨some 2, none, .tk (.t 30)⟩, ⟨some 3, none, .tk (.t 31)⟩])
  (.ret)

def c_score_Score : AFunc :=
  { np := 1, res := [.t 2, .t 3], body := (
    .seq (.reg [⟨some 1, none, .box (.t 0)⟩, ⟨some 2, none, .tk (.c (.int .i64 0))⟩, ⟨some 3, none, .tk (.c (.int .i64 0))⟩])
    (.seq (.reg [⟨some 4, none, .tk (.c (.int .i64 0))⟩, ⟨some 5, none, .tk (.c (.int .i64 0))⟩])
    (.seq (.seq (.reg [⟨some 9, none, .fa 3 (.t 1)⟩, ⟨some 10, none, .ld none (.t 9)⟩, ⟨some 11, none, .len false (.t 10)⟩, ⟨some 12, none, .mv (.c (.int .i64 0))⟩])
      (.block 0 (l_score_Score_0))) r_score_Score_0))) }

-- flotsam/flotsamlaw32.One
def c_flotsamlaw32_One : AFunc :=
  { np := 0, res := [.cell 0 (some 4)], body := (
    .seq (.reg [⟨some 0, none, .alloc [.bool false, .own 6 [], .own 11 [], .own 1 []]⟩])
    (.seq (.reg [⟨some 2, none, .bld [.int .i64 0, .int .u64 0, .int .i64 0, .int .i64 0] [(2, 1, (.c (.int .i64 1)))]⟩, ⟨some 3, none, .bld [.int .i64 0, .int .i64 0, .int .u64 0, .int .i64 0, .int .i64 0, .int .i64 0] [(0, 1, (.c (.int .i64 1))), (1, 4, (.t 2))]⟩, ⟨some 1, none, .alloc [.int .i64 0, .int .i64 0, .int .u64 0, .int .i64 0, .int .i64 0, .int .i64 0]⟩, ⟨none, none, .st 6 (.t 1) (.t 3)⟩])
    (.seq (.drw [[], [], [], [], [], [], [], [], []] [⟨some 4, none, .mkz 6 [.int .i64 0, .int .i64 0, .int .u64 0, .int .i64 0, .int .i64 0, .int .i64 0] 48 (.c (.int .i64 2)) (.c (.int .i64 2))⟩, ⟨some 5, none, .bld [.int .i64 0, .int .i64 0, .int .i64 0, .int .i64 0, .int .i64 0, .int .i64 0, .int .i64 0, .int .i64 0, .int .i64 0, .int .i64 0, .int .i64 0] [(0, 1, (.c (.int .i64 5))), (10, 1, (.c (.int .i64 1)))]⟩, ⟨some 6, none, .bsl 11 [.int .i64 0, .int .i64 0, .int .i64 0, .int .i64 0, .int .i64 0, .int .i64 0, .int .i64 0, .int .i64 0, .int .i64 0, .int .i64 0, .int .i64 0] 1 [(0, 11, (.t 5))] false⟩, ⟨some 7, none, .ld (some 6) (.t 1)⟩, ⟨some 8, none, .bld [.int .i64 0, .int .i64 0, .int .u64 0, .int .i64 0, .int .i64 0, .int .i64 0] []⟩, ⟨some 9, none, .bsl 6 [.int .i64 0, .int .i64 0, .int .u64 0, .int .i64 0, .int .i64 0, .int .i64 0] 2 [(0, 6, (.t 7)), (6, 6, (.t 8))] false⟩, ⟨some 10, none, .bsl 1 [.sl 6 []] 1 [(0, 1, (.t 9))] false⟩, ⟨some 11, none, .bld [.bool false, .sl 6 [], .sl 11 [], .sl 1 []] [(1, 1, (.t 4)), (2, 1, (.t 6)), (3, 1, (.t 10))]⟩, ⟨none, none, .st 4 (.t 0) (.t 11)⟩])
    (.ret)))) }

-- flotsam/flotsamlaw45.other
def c_flotsamlaw45_other : AFunc :=
  { np := 0, res := [.cell 0 (some 4)], body := (
    .seq (.reg [⟨some 0, none, .alloc [.bool false, .own 6 [], .own 11 [], .own 1 []]⟩])
    (.seq (.reg [⟨some 2, none, .callc n_flotsamlaw32_One []⟩, ⟨some 1, none, .alloc [.bool false, .own 6 [], .own 11 [], .own 1 []]⟩, ⟨none, none, .st 4 (.t 1) (.t 2)⟩])
    (.seq (.reg [⟨some 3, none, .mkz 6 [.int .i64 0, .int .i64 0, .int .u64 0, .int .i64 0, .int .i64 0, .int .i64 0] 48 (.c (.int .i64 2)) (.c (.int .i64 2))⟩, ⟨some 4, none, .bsl 1 [.sl 6 []] 1 [(0, 1, (.t 3))] false⟩, ⟨some 5, none, .fa 3 (.t 1)⟩, ⟨none, none, .st 1 (.t 5) (.t 4)⟩])
    (.seq (.reg [⟨some 6, none, .ld (some 4) (.t 1)⟩, ⟨none, none, .st 4 (.t 0) (.t 6)⟩])
    (.ret))))) }

-- flotsam/gate.rows
def b_gate_rows_0 : AC :=
  .seq (.reg [⟨some 11, none, .ic .lss (.t 10) (.t 9)⟩])
  (.seq (.cond (.t 11)
      (.skip)
      (.exit 0))
  (.seq (.block 1 (.seq (.reg [⟨some 12, none, .mv (.t 10)⟩, ⟨some 13, none, .ixa 11 none (.t 8) (.t 10)⟩, ⟨some 14, none, .ld (some 11) (.t 13)⟩, ⟨some 5, none, .alloc [.int .i64 0, .int .i64 0, .int .i64 0, .int .i64 0, .int .i64 0, .int .i64 0, .int .i64 0, .int .i64 0, .int .i64 0, .int .i64 0, .int .i64 0]⟩, ⟨some 4, none, .tk (.t 12)⟩, ⟨none, none, .st 11 (.t 5) (.t 14)⟩])
      (.reg [⟨some 15, none, .mv (.t 3)⟩, ⟨some 16, none, .ld (some 11) (.t 5)⟩, ⟨some 17, none, .mv (.t 4)⟩, ⟨some 18, none, .ia .add .i64 (.t 17) (.c (.int .i64 1))⟩, ⟨none, none, .mst true [.int .i64, .int .i64, .int .i64, .int .i64, .int .i64, .int .i64, .int .i64, .int .i64, .int .i64, .int .i64, .int .i64] (.t 15) (.t 16) (.t 18)⟩])))
  (.reg [⟨some 19, none, .ia .add .i64 (.t 10) (.c (.int .i64 1))⟩, ⟨some 10, none, .mv (.t 19)⟩])))

def l_gate_rows_0 : AC :=
  .loop [3, 8, 9, 10] b_gate_rows_0

def r_gate_rows_0 : AC :=
  .seq (.reg [⟨some 20, none, .mv (.t 3)⟩, ⟨some 2, none, .tk (.t 20)⟩])
  (.ret)

def c_gate_rows : AFunc :=
  { np := 1, res := [.t 2], body := (
    .seq (.reg [⟨some 1, none, .box (.t 0)⟩, ⟨some 2, none, .tk (.c (.nilm))⟩])
    (.seq (.reg [⟨some 6, none, .mkm true [.int .i64, .int .i64, .int .i64, .int .i64, .int .i64, .int .i64, .int .i64, .int .i64, .int .i64, .int .i64, .int .i64]⟩, ⟨some 3, none, .tk (.t 6)⟩])
    (.seq (.seq (.reg [⟨some 7, none, .fa 2 (.t 1)⟩, ⟨some 8, none, .ld none (.t 7)⟩, ⟨some 9, none, .len false (.t 8)⟩, ⟨some 10, none, .mv (.c (.int .i64 0))⟩])
      (.block 0 (l_gate_rows_0))) r_gate_rows_0))) }

-- flotsam/gate.kind
def c_gate_kind : AFunc :=
  { np := 2, res := [.t 4], body := (
    .seq (.reg [⟨some 4, none, .tk (.c (.int .i64 0))⟩])
    (.seq (.reg [⟨some 6, none, .bld [.int .i64 0, .int .i64 0, .int .i64 0] [(1, 1, (.c (.int .i64 2))), (2, 1, (.c (.int .i64 3)))]⟩, ⟨some 7, none, .bld [.int .i64 0, .int .i64 0, .int .i64 0] [(0, 1, (.c (.int .i64 1))), (2, 1, (.c (.int .i64 3)))]⟩, ⟨some 8, none, .bld [.int .i64 0, .int .i64 0, .int .i64 0] [(0, 1, (.c (.int .i64 4))), (1, 1, (.c (.int .i64 4)))]⟩, ⟨some 9, none, .bld [.int .i64 0, .int .i64 0, .int .i64 0, .int .i64 0, .int .i64 0, .int .i64 0, .int .i64 0, .int .i64 0, .int .i64 0] [(0, 3, (.t 6)), (3, 3, (.t 7)), (6, 3, (.t 8))]⟩, ⟨some 5, none, .alloc [.int .i64 0, .int .i64 0, .int .i64 0, .int .i64 0, .int .i64 0, .int .i64 0, .int .i64 0, .int .i64 0, .int .i64 0]⟩, ⟨none, none, .st 9 (.t 5) (.t 9)⟩])
    (.seq (.reg [⟨some 10, none, .mv (.t 0)⟩, ⟨some 11, none, .mv (.t 1)⟩, ⟨some 12, none, .ixa 3 (some 3) (.t 5) (.t 10)⟩, ⟨some 13, none, .ixa 1 (some 3) (.t 12) (.t 11)⟩, ⟨some 14, none, .ld none (.t 13)⟩, ⟨some 4, none, .tk (.t 14)⟩])
    (.ret)))) }

-- flotsam/flotsamref32.Right
def b_flotsamref32_Right_0 : AC :=
  .seq (.seq (.reg [⟨some 90, none, .mv (.t 6)⟩, ⟨some 91, none, .mv (.t 3)⟩, ⟨some 92, none, .ic .lss (.t 90) (.t 91)⟩])
    (.cond (.t 92)
      (.skip)
      (.exit 2)))
  (.seq (.block 3 (.seq (.drw [[], [], [], [], [], [], [], [], [], [], []] [⟨some 95, none, .fa 2 (.t 1)⟩, ⟨some 96, none, .ld none (.t 95)⟩, ⟨some 97, none, .mv (.t 6)⟩, ⟨some 98, none, .ixa 11 none (.t 96) (.t 97)⟩, ⟨some 99, none, .ld (some 11) (.t 98)⟩, ⟨some 100, none, .fa 2 (.t 1)⟩, ⟨some 101, none, .ld none (.t 100)⟩, ⟨some 102, none, .mv (.t 3)⟩, ⟨some 103, none, .ixa 11 none (.t 101) (.t 102)⟩, ⟨some 104, none, .ld (some 11) (.t 103)⟩, ⟨some 105, none, .eqa false [.int .i64, .int .i64, .int .i64, .int .i64, .int .i64, .int .i64, .int .i64, .int .i64, .int .i64, .int .i64, .int .i64] (.t 99) (.t 104)⟩])
      (.cond (.t 105)
        (.seq (.reg [⟨some 2, none, .tk (.c (.bool false))⟩])
          (.ret))
        (.skip))))
  (.reg [⟨some 93, none, .mv (.t 6)⟩, ⟨some 94, none, .ia .add .i64 (.t 93) (.c (.int .i64 1))⟩, ⟨some 6, none, .tk (.t 94)⟩]))

def l_flotsamref32_Right_0 : AC :=
  .loop [1, 3, 6] b_flotsamref32_Right_0

def r_flotsamref32_Right_0 : AC :=
  .reg [⟨some 58, none, .mv (.t 3)⟩, ⟨some 59, none, .ia .add .i64 (.t 58) (.c (.int .i64 1))⟩, ⟨some 3, none, .tk (.t 59)⟩]

def b_flotsamref32_Right_1 : AC :=
  .seq (.seq (.reg [⟨some 53, none, .mv (.t 3)⟩, ⟨some 54, none, .fa 2 (.t 1)⟩, ⟨some 55, none, .ld none (.t 54)⟩, ⟨some 56, none, .len false (.t 55)⟩, ⟨some 57, none, .ic .lss (.t 53) (.t 56)⟩])
    (.cond (.t 57)
      (.skip)
      (.exit 0)))
  (.seq (.block 1 (.seq (.seq (.drw [[], [], [], [], [], [], [], [], [], [], [], [], [], [], [], [], [], [], []] [⟨some 60, none, .fa 3 (.t 1)⟩, ⟨some 61, none, .ld none (.t 60)⟩, ⟨some 62, none, .mv (.t 3)⟩, ⟨some 63, none, .ixa 1 none (.t 61) (.t 62)⟩, ⟨some 64, none, .ld none (.t 63)⟩, ⟨some 65, none, .len false (.t 64)⟩, ⟨some 66, none, .fa 1 (.t 1)⟩, ⟨some 67, none, .ld none (.t 66)⟩, ⟨some 68, none, .len false (.t 67)⟩, ⟨some 69, none, .ic .neq (.t 65) (.t 68)⟩, ⟨some 70, none, .mv (.t 69)⟩, ⟨some 71, (some (70, false)), .fa 3 (.t 1)⟩, ⟨some 72, (some (70, false)), .ld none (.t 71)⟩, ⟨some 73, (some (70, false)), .mv (.t 3)⟩, ⟨some 74, (some (70, false)), .ixa 1 none (.t 72) (.t 73)⟩, ⟨some 75, (some (70, false)), .ld none (.t 74)⟩, ⟨some 76, (some (70, false)), .callc n_flotsamref32_cells [(.t 75)]⟩, ⟨some 77, (some (70, false)), .notb (.t 76)⟩, ⟨some 78, none, .pick (.t 70) (.c (.bool true)) (.t 77)⟩])
        (.cond (.t 78)
          (.seq (.reg [⟨some 2, none, .tk (.c (.bool false))⟩])
            (.ret))
          (.skip)))
      (.seq (.seq (.reg [⟨some 80, none, .fa 2 (.t 1)⟩, ⟨some 81, none, .ld none (.t 80)⟩, ⟨some 82, none, .mv (.t 3)⟩, ⟨some 83, none, .ixa 11 none (.t 81) (.t 82)⟩, ⟨some 84, none, .ld (some 11) (.t 83)⟩, ⟨some 85, none, .callc n_flotsamref25_Name [(.t 84)]⟩, ⟨some 79, none, .mv (.t 85)⟩, ⟨some 86, none, .ext (.t 79) 0⟩, ⟨some 87, none, .ext (.t 79) 1⟩, ⟨some 4, none, .tk (.t 86)⟩, ⟨some 5, none, .tk (.t 87)⟩])
        (.seq (.reg [⟨some 88, none, .mv (.t 5)⟩, ⟨some 89, none, .notb (.t 88)⟩])
        (.cond (.t 89)
          (.seq (.reg [⟨some 2, none, .tk (.c (.bool false))⟩])
            (.ret))
          (.skip))))
      (.seq (.reg [⟨some 6, none, .tk (.c (.int .i64 0))⟩])
      (.block 2 (l_flotsamref32_Right_0)))))) r_flotsamref32_Right_0)

def l_flotsamref32_Right_1 : AC :=
  .loop [1, 3] b_flotsamref32_Right_1

def r_flotsamref32_Right_1 : AC :=
  .seq (.reg [⟨some 2, none, .tk (.c (.bool true))⟩])
  (.ret)

def c_flotsamref32_Right : AFunc :=
  { np := 1, res := [.t 2], body := (
    .seq (.reg [⟨some 1, none, .box (.t 0)⟩, ⟨some 2, none, .tk (.c (.bool false))⟩])
    (.seq (.seq (.drw [[], [], [], [], [], [], [], [], [], [], [], [], [], [], [], [], [], [], [], [], [], [], [], [], [], [], [], [], [], [], [], [], []] [⟨some 7, none, .fa 1 (.t 1)⟩, ⟨some 8, none, .ld none (.t 7)⟩, ⟨some 9, none, .len false (.t 8)⟩, ⟨some 10, none, .ic .gtr (.t 9) (.c (.int .i64 16))⟩, ⟨some 11, none, .mv (.t 10)⟩, ⟨some 12, (some (11, false)), .fa 1 (.t 1)⟩, ⟨some 13, (some (11, false)), .ld none (.t 12)⟩, ⟨some 14, (some (11, false)), .callc n_flotsamref32_cells [(.t 13)]⟩, ⟨some 15, (some (11, false)), .notb (.t 14)⟩, ⟨some 16, none, .pick (.t 11) (.c (.bool true)) (.t 15)⟩, ⟨some 17, none, .mv (.t 16)⟩, ⟨some 18, (some (17, false)), .fa 0 (.t 1)⟩, ⟨some 19, (some (17, false)), .ld none (.t 18)⟩, ⟨some 20, (some (17, false)), .fa 1 (.t 1)⟩, ⟨some 21, (some (17, false)), .ld none (.t 20)⟩, ⟨some 22, (some (17, false)), .callc n_flotsamref30_Sum [(.t 21)]⟩, ⟨some 23, (some (17, false)), .ic .eql (.t 22) (.c (.int .i64 1))⟩, ⟨some 24, (some (17, false)), .eqb true (.t 19) (.t 23)⟩, ⟨some 25, none, .pick (.t 17) (.c (.bool true)) (.t 24)⟩, ⟨some 26, none, .mv (.t 25)⟩, ⟨some 27, (some (26, false)), .fa 0 (.t 1)⟩, ⟨some 28, (some (26, false)), .ld none (.t 27)⟩, ⟨some 29, (some (26, false)), .mv (.t 28)⟩, ⟨some 30, (some (29, true)), .fa 2 (.t 1)⟩, ⟨some 31, (some (29, true)), .ld none (.t 30)⟩, ⟨some 32, (some (29, true)), .len false (.t 31)⟩, ⟨some 33, (some (29, true)), .fa 3 (.t 1)⟩, ⟨some 34, (some (29, true)), .ld none (.t 33)⟩, ⟨some 35, (some (29, true)), .len false (.t 34)⟩, ⟨some 36, (some (29, true)), .ia .add .i64 (.t 32) (.t 35)⟩, ⟨some 37, (some (29, true)), .ic .gtr (.t 36) (.c (.int .i64 0))⟩, ⟨some 38, (some (26, false)), .pick (.t 29) (.t 37) (.c (.bool false))⟩, ⟨some 39, none, .pick (.t 26) (.c (.bool true)) (.t 38)⟩])
      (.cond (.t 39)
        (.seq (.reg [⟨some 2, none, .tk (.c (.bool false))⟩])
          (.ret))
        (.skip)))
    (.seq (.seq (.reg [⟨some 40, none, .fa 2 (.t 1)⟩, ⟨some 41, none, .ld none (.t 40)⟩, ⟨some 42, none, .len false (.t 41)⟩, ⟨some 43, none, .ic .gtr (.t 42) (.c (.int .i64 512))⟩, ⟨some 44, none, .mv (.t 43)⟩, ⟨some 45, (some (44, false)), .fa 2 (.t 1)⟩, ⟨some 46, (some (44, false)), .ld none (.t 45)⟩, ⟨some 47, (some (44, false)), .len false (.t 46)⟩, ⟨some 48, (some (44, false)), .fa 3 (.t 1)⟩, ⟨some 49, (some (44, false)), .ld none (.t 48)⟩, ⟨some 50, (some (44, false)), .len false (.t 49)⟩, ⟨some 51, (some (44, false)), .ic .neq (.t 47) (.t 50)⟩, ⟨some 52, none, .pick (.t 44) (.c (.bool true)) (.t 51)⟩])
      (.cond (.t 52)
        (.seq (.reg [⟨some 2, none, .tk (.c (.bool false))⟩])
          (.ret))
        (.skip)))
    (.seq (.seq (.reg [⟨some 3, none, .tk (.c (.int .i64 0))⟩])
      (.block 0 (l_flotsamref32_Right_1))) r_flotsamref32_Right_1)))) }

-- flotsam/flotsamref45.row
def b_flotsamref45_row_0 : AC :=
  .seq (.seq (.reg [⟨some 6, none, .mv (.t 5)⟩, ⟨some 7, none, .fa 2 (.t 2)⟩, ⟨some 8, none, .ld none (.t 7)⟩, ⟨some 9, none, .len false (.t 8)⟩, ⟨some 10, none, .ic .lss (.t 6) (.t 9)⟩])
    (.cond (.t 10)
      (.skip)
      (.exit 0)))
  (.seq (.block 1 (.seq (.drw [[], [], [], [], [], [], []] [⟨some 13, none, .fa 2 (.t 2)⟩, ⟨some 14, none, .ld none (.t 13)⟩, ⟨some 15, none, .mv (.t 5)⟩, ⟨some 16, none, .ixa 11 none (.t 14) (.t 15)⟩, ⟨some 17, none, .ld (some 11) (.t 16)⟩, ⟨some 18, none, .ld (some 11) (.t 3)⟩, ⟨some 19, none, .eqa false [.int .i64, .int .i64, .int .i64, .int .i64, .int .i64, .int .i64, .int .i64, .int .i64, .int .i64, .int .i64, .int .i64] (.t 17) (.t 18)⟩])
      (.cond (.t 19)
        (.seq (.reg [⟨some 20, none, .mv (.t 5)⟩, ⟨some 4, none, .tk (.t 20)⟩])
          (.ret))
        (.skip))))
  (.reg [⟨some 11, none, .mv (.t 5)⟩, ⟨some 12, none, .ia .add .i64 (.t 11) (.c (.int .i64 1))⟩, ⟨some 5, none, .tk (.t 12)⟩]))

def l_flotsamref45_row_0 : AC :=
  .loop [2, 3, 5] b_flotsamref45_row_0

def r_flotsamref45_row_0 : AC :=
  .seq (.reg [⟨some 4, none, .tk (.c (.int .i64 (-1)))⟩])
  (.ret)

def c_flotsamref45_row : AFunc :=
  { np := 2, res := [.t 4], body := (
    .seq (.reg [⟨some 2, none, .box (.t 0)⟩, ⟨some 3, none, .box (.t 1)⟩, ⟨some 4, none, .tk (.c (.int .i64 0))⟩])
    (.seq (.seq (.reg [⟨some 5, none, .tk (.c (.int .i64 0))⟩])
      (.block 0 (l_flotsamref45_row_0))) r_flotsamref45_row_0)) }

-- flotsam/flotsamref45.kind
def c_flotsamref45_kind : AFunc :=
  { np := 2, res := [.t 4], body := (
    .seq (.reg [⟨some 4, none, .tk (.c (.int .i64 0))⟩])
    (.seq (.seq (.reg [⟨some 5, none, .mv (.t 0)⟩, ⟨some 6, none, .ic .eql (.t 5) (.c (.int .i64 1))⟩, ⟨some 7, none, .mv (.t 6)⟩, ⟨some 8, (some (7, true)), .mv (.t 1)⟩, ⟨some 9, (some (7, true)), .ic .eql (.t 8) (.c (.int .i64 0))⟩, ⟨some 10, none, .pick (.t 7) (.t 9) (.c (.bool false))⟩])
      (.cond (.t 10)
        (.seq (.reg [⟨some 4, none, .tk (.c (.int .i64 1))⟩])
          (.ret))
        (.skip)))
    (.seq (.seq (.reg [⟨some 11, none, .mv (.t 0)⟩, ⟨some 12, none, .ic .eql (.t 11) (.c (.int .i64 0))⟩, ⟨some 13, none, .mv (.t 12)⟩, ⟨some 14, (some (13, true)), .mv (.t 1)⟩, ⟨some 15, (some (13, true)), .ic .eql (.t 14) (.c (.int .i64 1))⟩, ⟨some 16, none, .pick (.t 13) (.t 15) (.c (.bool false))⟩])
      (.cond (.t 16)
        (.seq (.reg [⟨some 4, none, .tk (.c (.int .i64 2))⟩])
          (.ret))
        (.skip)))
    (.seq (.seq (.reg [⟨some 17, none, .mv (.t 0)⟩, ⟨some 18, none, .ic .neq (.t 17) (.c (.int .i64 2))⟩, ⟨some 19, none, .mv (.t 18)⟩, ⟨some 20, (some (19, true)), .mv (.t 1)⟩, ⟨some 21, (some (19, true)), .ic .eql (.t 20) (.c (.int .i64 2))⟩, ⟨some 22, none, .pick (.t 19) (.t 21) (.c (.bool false))⟩])
      (.cond (.t 22)
        (.seq (.reg [⟨some 4, none, .tk (.c (.int .i64 3))⟩])
          (.ret))
        (.skip)))
    (.seq (.seq (.reg [⟨some 23, none, .mv (.t 0)⟩, ⟨some 24, none, .ic .eql (.t 23) (.c (.int .i64 2))⟩, ⟨some 25, none, .mv (.t 24)⟩, ⟨some 26, (some (25, true)), .mv (.t 1)⟩, ⟨some 27, (some (25, true)), .ic .neq (.t 26) (.c (.int .i64 2))⟩, ⟨some 28, none, .pick (.t 25) (.t 27) (.c (.bool false))⟩])
      (.cond (.t 28)
        (.seq (.reg [⟨some 4, none, .tk (.c (.int .i64 4))⟩])
          (.ret))
        (.skip)))
    (.seq (.reg [⟨some 4, none, .tk (.c (.int .i64 0))⟩])
    (.ret))))))) }

-- flotsam/site.Name
def b_site_Name_0 : AC :=
  .seq (.reg [⟨some 45, none, .ic .lss (.t 44) (.t 43)⟩])
  (.seq (.cond (.t 45)
      (.skip)
      (.exit 0))
  (.seq (.block 1 (.seq (.reg [⟨some 46, none, .ixa 1 none (.t 42) (.t 44)⟩, ⟨some 47, none, .ld none (.t 46)⟩, ⟨some 6, none, .tk (.t 47)⟩])
      (.seq (.seq (.reg [⟨some 48, none, .mv (.t 6)⟩, ⟨some 49, none, .ic .gtr (.t 48) (.c (.int .i64 511))⟩])
        (.cond (.t 49)
          (.seq (.reg [⟨some 2, none, .tk (.c (.str []))⟩, ⟨some 3, none, .tk (.c (.bool false))⟩])
            (.ret))
          (.skip)))
      (.reg [⟨some 50, none, .tk (.t 4)⟩, ⟨some 51, none, .mv (.t 6)⟩, ⟨some 52, none, .callc n_num_Digits [(.t 51)]⟩, ⟨some 53, none, .bsl 1 [.str []] 1 [(0, 1, (.t 52))] false⟩, ⟨some 54, none, .app 1 16 (.t 50) (.t 53) false⟩, ⟨some 4, none, .tk (.t 54)⟩]))))
  (.reg [⟨some 55, none, .ia .add .i64 (.t 44) (.c (.int .i64 1))⟩, ⟨some 44, none, .mv (.t 55)⟩])))

def l_site_Name_0 : AC :=
  .loop [4, 42, 43, 44] b_site_Name_0

def r_site_Name_0 : AC :=
  .seq (.reg [⟨some 56, none, .mv (.t 4)⟩, ⟨some 57, none, .callc n_strings_Join [(.t 56), (.c (.str [32]))]⟩, ⟨some 2, none, .tk (.t 57)⟩, ⟨some 3, none, .tk (.c (.bool true))⟩])
  (.ret)

def c_site_Name : AFunc :=
  { np := 1, res := [.t 2, .t 3], body := (
    .seq (.reg [⟨some 1, none, .box (.t 0)⟩, ⟨some 2, none, .tk (.c (.str []))⟩, ⟨some 3, none, .tk (.c (.bool false))⟩])
    (.seq (.seq (.drw [[], [], [], [], [], [], [], [], [], [], [], [], [], [], [], [], [], [], [], [], [], [], [], [], []] [⟨some 7, none, .fa 0 (.t 1)⟩, ⟨some 8, none, .ld none (.t 7)⟩, ⟨some 9, none, .ic .lss (.t 8) (.c (.int .i64 1))⟩, ⟨some 10, none, .mv (.t 9)⟩, ⟨some 11, (some (10, false)), .fa 0 (.t 1)⟩, ⟨some 12, (some (10, false)), .ld none (.t 11)⟩, ⟨some 13, (some (10, false)), .callc n_site_words []⟩, ⟨some 14, (some (10, false)), .len false (.t 13)⟩, ⟨some 15, (some (10, false)), .ic .geq (.t 12) (.t 14)⟩, ⟨some 16, none, .pick (.t 10) (.c (.bool true)) (.t 15)⟩, ⟨some 17, none, .mv (.t 16)⟩, ⟨some 18, (some (17, false)), .fa 1 (.t 1)⟩, ⟨some 19, (some (17, false)), .ld none (.t 18)⟩, ⟨some 20, (some (17, false)), .ic .lss (.t 19) (.c (.int .i64 0))⟩, ⟨some 21, none, .pick (.t 17) (.c (.bool true)) (.t 20)⟩, ⟨some 22, none, .mv (.t 21)⟩, ⟨some 23, (some (22, false)), .fa 1 (.t 1)⟩, ⟨some 24, (some (22, false)), .ld none (.t 23)⟩, ⟨some 25, (some (22, false)), .ic .gtr (.t 24) (.c (.int .i64 16))⟩, ⟨some 26, none, .pick (.t 22) (.c (.bool true)) (.t 25)⟩, ⟨some 27, none, .mv (.t 26)⟩, ⟨some 28, (some (27, false)), .ld (some 11) (.t 1)⟩, ⟨some 29, (some (27, false)), .callc n_site_may [(.t 28)]⟩, ⟨some 30, (some (27, false)), .notb (.t 29)⟩, ⟨some 31, none, .pick (.t 27) (.c (.bool true)) (.t 30)⟩])
      (.cond (.t 31)
        (.seq (.reg [⟨some 2, none, .tk (.c (.str []))⟩, ⟨some 3, none, .tk (.c (.bool false))⟩])
          (.ret))
        (.skip)))
    (.seq (.drw [[], [], [], [], [], [], [], []] [⟨some 32, none, .fa 0 (.t 1)⟩, ⟨some 33, none, .ld none (.t 32)⟩, ⟨some 34, none, .callc n_site_Word [(.t 33)]⟩, ⟨some 35, none, .fa 1 (.t 1)⟩, ⟨some 36, none, .ld none (.t 35)⟩, ⟨some 37, none, .callc n_num_Digits [(.t 36)]⟩, ⟨some 38, none, .bsl 1 [.str []] 2 [(0, 1, (.t 34)), (1, 1, (.t 37))] false⟩, ⟨some 4, none, .tk (.t 38)⟩])
    (.seq (.seq (.reg [⟨some 39, none, .fa 2 (.t 1)⟩, ⟨some 40, none, .fa 10 (.t 1)⟩, ⟨some 41, none, .ld none (.t 40)⟩, ⟨some 42, none, .slp 1 8 (.t 39) none (some (.t 41)) none⟩, ⟨some 43, none, .len false (.t 42)⟩, ⟨some 44, none, .mv (.c (.int .i64 0))⟩])
      (.block 0 (l_site_Name_0))) r_site_Name_0)))) }

-- flotsam/gate.word
def c_gate_word : AFunc :=
  { np := 1, res := [.t 2], body := (
    .seq (.reg [⟨some 2, none, .tk (.c (.str []))⟩])
    (.seq (.reg [⟨some 4, none, .bld [.str [], .str [], .str [], .str [], .str [], .str [], .str []] [(0, 1, (.c (.str [63]))), (1, 1, (.c (.str [108, 111, 115, 116]))), (2, 1, (.c (.str [119, 111, 110]))), (3, 1, (.c (.str [100, 97, 114, 107]))), (4, 1, (.c (.str [99, 108, 101, 97, 114]))), (5, 1, (.c (.str [103, 111, 110, 101]))), (6, 1, (.c (.str [102, 114, 101, 115, 104])))]⟩, ⟨some 3, none, .alloc [.str [], .str [], .str [], .str [], .str [], .str [], .str []]⟩, ⟨none, none, .st 7 (.t 3) (.t 4)⟩])
    (.seq (.seq (.reg [⟨some 5, none, .mv (.t 0)⟩, ⟨some 6, none, .ic .lss (.t 5) (.c (.int .i64 0))⟩, ⟨some 7, none, .mv (.t 6)⟩, ⟨some 8, (some (7, false)), .mv (.t 0)⟩, ⟨some 9, (some (7, false)), .ic .geq (.t 8) (.c (.int .i64 7))⟩, ⟨some 10, none, .pick (.t 7) (.c (.bool true)) (.t 9)⟩])
      (.cond (.t 10)
        (.seq (.reg [⟨some 11, none, .ixa 1 (some 7) (.t 3) (.c (.int .i64 0))⟩, ⟨some 12, none, .ld none (.t 11)⟩, ⟨some 2, none, .tk (.t 12)⟩])
          (.ret))
        (.skip)))
    (.seq (.reg [⟨some 13, none, .mv (.t 0)⟩, ⟨some 14, none, .ixa 1 (some 7) (.t 3) (.t 13)⟩, ⟨some 15, none, .ld none (.t 14)⟩, ⟨some 2, none, .tk (.t 15)⟩])
    (.ret))))) }

-- flotsam/num.Digits
def b_num_Digits_0 : AC :=
  .block 1 (.seq (.reg [⟨some 12, none, .mv (.t 4)⟩, ⟨some 13, none, .ia .sub .i64 (.t 12) (.c (.int .i64 1))⟩, ⟨some 4, none, .tk (.t 13)⟩])
    (.seq (.reg [⟨some 14, none, .mv (.t 4)⟩, ⟨some 15, none, .mv (.t 5)⟩, ⟨some 16, none, .ia .rem .u64 (.t 15) (.c (.int .u64 10))⟩, ⟨some 17, none, .ia .add .u64 (.c (.int .u64 48)) (.t 16)⟩, ⟨some 18, none, .conv .u8 (.t 17)⟩, ⟨some 19, none, .ixa 1 (some 20) (.t 3) (.t 14)⟩, ⟨none, none, .st 1 (.t 19) (.t 18)⟩])
    (.seq (.reg [⟨some 20, none, .mv (.t 5)⟩, ⟨some 21, none, .ia .quo .u64 (.t 20) (.c (.int .u64 10))⟩, ⟨some 5, none, .tk (.t 21)⟩])
    (.seq (.reg [⟨some 22, none, .mv (.t 5)⟩, ⟨some 23, none, .ic .eql (.t 22) (.c (.int .u64 0))⟩])
    (.cond (.t 23)
      (.exit 0)
      (.skip))))))

def l_num_Digits_0 : AC :=
  .loop [0, 3, 4, 5] b_num_Digits_0

def r_num_Digits_0 : AC :=
  .seq (.seq (.reg [⟨some 24, none, .mv (.t 0)⟩, ⟨some 25, none, .ic .lss (.t 24) (.c (.int .i64 0))⟩])
    (.cond (.t 25)
      (.seq (.reg [⟨some 26, none, .mv (.t 4)⟩, ⟨some 27, none, .ia .sub .i64 (.t 26) (.c (.int .i64 1))⟩, ⟨some 4, none, .tk (.t 27)⟩])
        (.reg [⟨some 28, none, .mv (.t 4)⟩, ⟨some 29, none, .ixa 1 (some 20) (.t 3) (.t 28)⟩, ⟨none, none, .st 1 (.t 29) (.c (.int .u8 45))⟩]))
      (.skip)))
  (.seq (.reg [⟨some 30, none, .mv (.t 4)⟩, ⟨some 31, none, .slp 1 20 (.t 3) (some (.t 30)) none none⟩, ⟨some 32, none, .b2s (.t 31)⟩, ⟨some 2, none, .tk (.t 32)⟩])
  (.ret))

def c_num_Digits : AFunc :=
  { np := 1, res := [.t 2], body := (
    .seq (.reg [⟨some 2, none, .tk (.c (.str []))⟩])
    (.seq (.reg [⟨some 3, none, .alloc [.int .u8 0, .int .u8 0, .int .u8 0, .int .u8 0, .int .u8 0, .int .u8 0, .int .u8 0, .int .u8 0, .int .u8 0, .int .u8 0, .int .u8 0, .int .u8 0, .int .u8 0, .int .u8 0, .int .u8 0, .int .u8 0, .int .u8 0, .int .u8 0, .int .u8 0, .int .u8 0]⟩])
    (.seq (.reg [⟨some 4, none, .tk (.c (.int .i64 20))⟩])
    (.seq (.reg [⟨some 6, none, .mv (.t 0)⟩, ⟨some 7, none, .conv .u64 (.t 6)⟩, ⟨some 5, none, .tk (.t 7)⟩])
    (.seq (.seq (.reg [⟨some 8, none, .mv (.t 0)⟩, ⟨some 9, none, .ic .lss (.t 8) (.c (.int .i64 0))⟩])
      (.cond (.t 9)
        (.reg [⟨some 10, none, .mv (.t 5)⟩, ⟨some 11, none, .neg .u64 (.t 10)⟩, ⟨some 5, none, .tk (.t 11)⟩])
        (.skip)))
    (.seq (.block 0 (l_num_Digits_0)) r_num_Digits_0)))))) }

-- flotsam/flotsamref25.Name
def b_flotsamref25_Name_0 : AC :=
  .seq (.seq (.reg [⟨some 37, none, .mv (.t 5)⟩, ⟨some 38, none, .fa 10 (.t 1)⟩, ⟨some 39, none, .ld none (.t 38)⟩, ⟨some 40, none, .ic .lss (.t 37) (.t 39)⟩])
    (.cond (.t 40)
      (.skip)
      (.exit 0)))
  (.seq (.block 1 (.seq (.seq (.reg [⟨some 43, none, .mv (.t 5)⟩, ⟨some 44, none, .fa 2 (.t 1)⟩, ⟨some 45, none, .ixa 1 (some 8) (.t 44) (.t 43)⟩, ⟨some 46, none, .ld none (.t 45)⟩, ⟨some 47, none, .ic .gtr (.t 46) (.c (.int .i64 511))⟩])
        (.cond (.t 47)
          (.seq (.reg [⟨some 2, none, .tk (.c (.str []))⟩, ⟨some 3, none, .tk (.c (.bool false))⟩])
            (.ret))
          (.skip)))
      (.reg [⟨some 48, none, .mv (.t 4)⟩, ⟨some 49, none, .sop .add (.t 48) (.c (.str [32]))⟩, ⟨some 50, none, .mv (.t 5)⟩, ⟨some 51, none, .fa 2 (.t 1)⟩, ⟨some 52, none, .ixa 1 (some 8) (.t 51) (.t 50)⟩, ⟨some 53, none, .ld none (.t 52)⟩, ⟨some 54, none, .callc n_flotsamref01_Digits [(.t 53)]⟩, ⟨some 55, none, .sop .add (.t 49) (.t 54)⟩, ⟨some 4, none, .tk (.t 55)⟩])))
  (.reg [⟨some 41, none, .mv (.t 5)⟩, ⟨some 42, none, .ia .add .i64 (.t 41) (.c (.int .i64 1))⟩, ⟨some 5, none, .tk (.t 42)⟩]))

def l_flotsamref25_Name_0 : AC :=
  .loop [1, 4, 5] b_flotsamref25_Name_0

def r_flotsamref25_Name_0 : AC :=
  .seq (.reg [⟨some 56, none, .mv (.t 4)⟩, ⟨some 2, none, .tk (.t 56)⟩, ⟨some 3, none, .tk (.c (.bool true))⟩])
  (.ret)

def c_flotsamref25_Name : AFunc :=
  { np := 1, res := [.t 2, .t 3], body := (
    .seq (.reg [⟨some 1, none, .box (.t 0)⟩, ⟨some 2, none, .tk (.c (.str []))⟩, ⟨some 3, none, .tk (.c (.bool false))⟩])
    (.seq (.seq (.reg [⟨some 6, none, .fa 0 (.t 1)⟩, ⟨some 7, none, .ld none (.t 6)⟩, ⟨some 8, none, .ic .lss (.t 7) (.c (.int .i64 1))⟩, ⟨some 9, none, .mv (.t 8)⟩, ⟨some 10, (some (9, false)), .fa 0 (.t 1)⟩, ⟨some 11, (some (9, false)), .ld none (.t 10)⟩, ⟨some 12, (some (9, false)), .ic .gtr (.t 11) (.c (.int .i64 8))⟩, ⟨some 13, none, .pick (.t 9) (.c (.bool true)) (.t 12)⟩, ⟨some 14, none, .mv (.t 13)⟩, ⟨some 15, (some (14, false)), .fa 1 (.t 1)⟩, ⟨some 16, (some (14, false)), .ld none (.t 15)⟩, ⟨some 17, (some (14, false)), .ic .lss (.t 16) (.c (.int .i64 0))⟩, ⟨some 18, none, .pick (.t 14) (.c (.bool true)) (.t 17)⟩, ⟨some 19, none, .mv (.t 18)⟩, ⟨some 20, (some (19, false)), .fa 1 (.t 1)⟩, ⟨some 21, (some (19, false)), .ld none (.t 20)⟩, ⟨some 22, (some (19, false)), .ic .gtr (.t 21) (.c (.int .i64 16))⟩, ⟨some 23, none, .pick (.t 19) (.c (.bool true)) (.t 22)⟩, ⟨some 24, none, .mv (.t 23)⟩, ⟨some 25, (some (24, false)), .ld (some 11) (.t 1)⟩, ⟨some 26, (some (24, false)), .callc n_flotsamref25_may [(.t 25)]⟩, ⟨some 27, (some (24, false)), .notb (.t 26)⟩, ⟨some 28, none, .pick (.t 24) (.c (.bool true)) (.t 27)⟩])
      (.cond (.t 28)
        (.seq (.reg [⟨some 2, none, .tk (.c (.str []))⟩, ⟨some 3, none, .tk (.c (.bool false))⟩])
          (.ret))
        (.skip)))
    (.seq (.drw [[], [], [], [], [], [], [], [], []] [⟨some 29, none, .fa 0 (.t 1)⟩, ⟨some 30, none, .ld none (.t 29)⟩, ⟨some 31, none, .callc n_flotsamref25_Word [(.t 30)]⟩, ⟨some 32, none, .sop .add (.t 31) (.c (.str [32]))⟩, ⟨some 33, none, .fa 1 (.t 1)⟩, ⟨some 34, none, .ld none (.t 33)⟩, ⟨some 35, none, .callc n_flotsamref01_Digits [(.t 34)]⟩, ⟨some 36, none, .sop .add (.t 32) (.t 35)⟩, ⟨some 4, none, .tk (.t 36)⟩])
    (.seq (.seq (.reg [⟨some 5, none, .tk (.c (.int .i64 0))⟩])
      (.block 0 (l_flotsamref25_Name_0))) r_flotsamref25_Name_0)))) }

-- flotsam/flotsamref01.Digits
def c_flotsamref01_Digits : AFunc :=
  { np := 1, res := [.t 2], body := (
    .seq (.reg [⟨some 2, none, .tk (.c (.str []))⟩])
    (.seq (.seq (.reg [⟨some 3, none, .mv (.t 0)⟩, ⟨some 4, none, .ic .gtr (.t 3) (.c (.int .i64 (-10)))⟩, ⟨some 5, none, .mv (.t 4)⟩, ⟨some 6, (some (5, true)), .mv (.t 0)⟩, ⟨some 7, (some (5, true)), .ic .lss (.t 6) (.c (.int .i64 0))⟩, ⟨some 8, none, .pick (.t 5) (.t 7) (.c (.bool false))⟩])
      (.cond (.t 8)
        (.seq (.reg [⟨some 9, none, .mv (.t 0)⟩, ⟨some 10, none, .ia .sub .i64 (.c (.int .i64 48)) (.t 9)⟩, ⟨some 11, none, .conv .u8 (.t 10)⟩, ⟨some 12, none, .bsl 1 [.int .u8 0] 1 [(0, 1, (.t 11))] false⟩, ⟨some 13, none, .b2s (.t 12)⟩, ⟨some 14, none, .sop .add (.c (.str [45])) (.t 13)⟩, ⟨some 2, none, .tk (.t 14)⟩])
          (.ret))
        (.skip)))
    (.seq (.seq (.reg [⟨some 15, none, .mv (.t 0)⟩, ⟨some 16, none, .ic .lss (.t 15) (.c (.int .i64 0))⟩])
      (.cond (.t 16)
        (.seq (.drw [[], [], [], [], [], [], [], [], [], [], []] [⟨some 17, none, .mv (.t 0)⟩, ⟨some 18, none, .ia .quo .i64 (.t 17) (.c (.int .i64 10))⟩, ⟨some 19, none, .callc n_flotsamref01_Digits [(.t 18)]⟩, ⟨some 20, none, .mv (.t 0)⟩, ⟨some 21, none, .ia .rem .i64 (.t 20) (.c (.int .i64 10))⟩, ⟨some 22, none, .ia .sub .i64 (.c (.int .i64 48)) (.t 21)⟩, ⟨some 23, none, .conv .u8 (.t 22)⟩, ⟨some 24, none, .bsl 1 [.int .u8 0] 1 [(0, 1, (.t 23))] false⟩, ⟨some 25, none, .b2s (.t 24)⟩, ⟨some 26, none, .sop .add (.t 19) (.t 25)⟩, ⟨some 2, none, .tk (.t 26)⟩])
          (.ret))
        (.skip)))
    (.seq (.seq (.reg [⟨some 27, none, .mv (.t 0)⟩, ⟨some 28, none, .ic .gtr (.t 27) (.c (.int .i64 9))⟩])
      (.cond (.t 28)
        (.seq (.drw [[], [], [], [], [], [], [], [], [], [], []] [⟨some 29, none, .mv (.t 0)⟩, ⟨some 30, none, .ia .quo .i64 (.t 29) (.c (.int .i64 10))⟩, ⟨some 31, none, .callc n_flotsamref01_Digits [(.t 30)]⟩, ⟨some 32, none, .mv (.t 0)⟩, ⟨some 33, none, .ia .rem .i64 (.t 32) (.c (.int .i64 10))⟩, ⟨some 34, none, .ia .add .i64 (.c (.int .i64 48)) (.t 33)⟩, ⟨some 35, none, .conv .u8 (.t 34)⟩, ⟨some 36, none, .bsl 1 [.int .u8 0] 1 [(0, 1, (.t 35))] false⟩, ⟨some 37, none, .b2s (.t 36)⟩, ⟨some 38, none, .sop .add (.t 31) (.t 37)⟩, ⟨some 2, none, .tk (.t 38)⟩])
          (.ret))
        (.skip)))
    (.seq (.reg [⟨some 39, none, .mv (.t 0)⟩, ⟨some 40, none, .ia .add .i64 (.c (.int .i64 48)) (.t 39)⟩, ⟨some 41, none, .conv .u8 (.t 40)⟩, ⟨some 42, none, .bsl 1 [.int .u8 0] 1 [(0, 1, (.t 41))] false⟩, ⟨some 43, none, .b2s (.t 42)⟩, ⟨some 2, none, .tk (.t 43)⟩])
    (.ret)))))) }

-- flotsam/score.odd
def c_score_odd : AFunc :=
  { np := 1, res := [.t 2], body := (
    .seq (.reg [⟨some 1, none, .box (.t 0)⟩, ⟨some 2, none, .tk (.c (.nilf))⟩])
    (.seq (.reg [⟨some 3, none, .mkf (.func n_score_odd_1) [] [(.t 1)]⟩, ⟨some 2, none, .tk (.t 3)⟩])
    (.ret))) }

-- flotsam/cell.Sum
def b_cell_Sum_0 : AC :=
  .seq (.reg [⟨some 9, none, .ic .lss (.t 8) (.t 7)⟩])
  (.seq (.cond (.t 9)
      (.skip)
      (.exit 0))
  (.seq (.block 1 (.seq (.reg [⟨some 10, none, .ixa 6 none (.t 6) (.t 8)⟩, ⟨some 11, none, .ld (some 6) (.t 10)⟩, ⟨some 5, none, .alloc [.int .i64 0, .int .i64 0, .int .u64 0, .int .i64 0, .int .i64 0, .int .i64 0]⟩, ⟨none, none, .st 6 (.t 5) (.t 11)⟩])
      (.seq (.reg [⟨some 12, none, .fa 0 (.t 5)⟩, ⟨some 13, none, .ld none (.t 12)⟩])
      (.block 2 (.seq (.block 4 (.seq (.block 3 (.seq (.seq (.seq (.reg [⟨some 15, none, .ic .eql (.t 13) (.c (.int .i64 2))⟩, ⟨some 14, none, .tk (.t 15)⟩])
                    (.cond (.t 14)
                      (.exit 3)
                      (.skip)))
                  (.seq (.reg [⟨some 17, none, .ic .eql (.t 13) (.c (.int .i64 1))⟩, ⟨some 16, none, .tk (.t 17)⟩])
                  (.cond (.t 16)
                    (.exit 4)
                    (.skip))))
                (.exit 2)))
            (.seq (.reg [⟨some 18, none, .mv (.t 3)⟩, ⟨some 19, none, .ic .eql (.t 18) (.c (.int .i64 1))⟩])
            (.cond (.t 19)
              (.exit 2)
              (.skip)))))
        (.seq (.reg [⟨some 20, none, .fa 0 (.t 5)⟩, ⟨some 21, none, .ld none (.t 20)⟩, ⟨some 3, none, .tk (.t 21)⟩])
        (.exit 2)))))))
  (.reg [⟨some 22, none, .ia .add .i64 (.t 8) (.c (.int .i64 1))⟩, ⟨some 8, none, .mv (.t 22)⟩])))

def l_cell_Sum_0 : AC :=
  .loop [3, 6, 7, 8] b_cell_Sum_0

def r_cell_Sum_0 : AC :=
  .seq (.reg [⟨some 23, none, .mv (.t 3)⟩, ⟨some 2, none, .tk (.t 23)⟩])
  (.ret)

def c_cell_Sum : AFunc :=
  { np := 1, res := [.t 2], body := (
    .seq (.reg [⟨some 2, none, .tk (.c (.int .i64 0))⟩])
    (.seq (.reg [⟨some 3, none, .tk (.c (.int .i64 0))⟩])
    (.seq (.seq (.reg [⟨some 6, none, .mv (.t 0)⟩, ⟨some 7, none, .len false (.t 6)⟩, ⟨some 8, none, .mv (.c (.int .i64 0))⟩])
      (.block 0 (l_cell_Sum_0))) r_cell_Sum_0))) }

-- slices.ContainsFunc[[][]flotsam/api.Cell,[]flotsam/api.Cell]
def c_slices_ContainsFunc_api_Cell_api_Cell : AFunc :=
  { np := 2, res := [.t 4], body := (
    .seq (.reg [⟨some 4, none, .tk (.c (.bool false))⟩])
    (.seq (.reg [⟨some 5, none, .mv (.t 0)⟩, ⟨some 6, none, .mv (.t 1)⟩, ⟨some 7, none, .call n_slices_IndexFunc_api_Cell_api_Cell [(.t 5), (.t 6)]⟩, ⟨some 8, none, .ic .geq (.t 7) (.c (.int .i64 0))⟩, ⟨some 4, none, .tk (.t 8)⟩])
    (.ret))) }

-- slices.Contains[[]flotsam/api.Site,flotsam/api.Site]
def c_slices_Contains_api_Site_api_Site : AFunc :=
  { np := 2, res := [.t 4], body := (
    .seq (.reg [⟨some 3, none, .box (.t 1)⟩, ⟨some 4, none, .tk (.c (.bool false))⟩])
    (.seq (.reg [⟨some 5, none, .mv (.t 0)⟩, ⟨some 6, none, .ld (some 11) (.t 3)⟩, ⟨some 7, none, .callc n_slices_Index_api_Site_api_Site [(.t 5), (.t 6)]⟩, ⟨some 8, none, .ic .geq (.t 7) (.c (.int .i64 0))⟩, ⟨some 4, none, .tk (.t 8)⟩])
    (.ret))) }

-- flotsam/score.count[flotsam/api.Cell]
def b_score_count_api_Cell_0 : AC :=
  .seq (.reg [⟨some 11, none, .ic .lss (.t 10) (.t 9)⟩])
  (.seq (.cond (.t 11)
      (.skip)
      (.exit 0))
  (.seq (.block 1 (.seq (.reg [⟨some 12, none, .ixa 6 none (.t 8) (.t 10)⟩, ⟨some 13, none, .ld (some 6) (.t 12)⟩, ⟨some 7, none, .alloc [.int .i64 0, .int .i64 0, .int .u64 0, .int .i64 0, .int .i64 0, .int .i64 0]⟩, ⟨none, none, .st 6 (.t 7) (.t 13)⟩])
      (.seq (.reg [⟨some 14, none, .mv (.t 1)⟩, ⟨some 15, none, .ld (some 6) (.t 7)⟩, ⟨some 16, none, .callv (.t 14) [(.t 15)]⟩])
      (.cond (.t 16)
        (.reg [⟨some 17, none, .mv (.t 5)⟩, ⟨some 18, none, .ia .add .i64 (.t 17) (.c (.int .i64 1))⟩, ⟨some 5, none, .tk (.t 18)⟩])
        (.skip)))))
  (.reg [⟨some 19, none, .ia .add .i64 (.t 10) (.c (.int .i64 1))⟩, ⟨some 10, none, .mv (.t 19)⟩])))

def l_score_count_api_Cell_0 : AC :=
  .loop [1, 5, 8, 9, 10] b_score_count_api_Cell_0

def r_score_count_api_Cell_0 : AC :=
  .seq (.reg [⟨some 20, none, .mv (.t 5)⟩, ⟨some 4, none, .tk (.t 20)⟩])
  (.ret)

def c_score_count_api_Cell : AFunc :=
  { np := 2, res := [.t 4], body := (
    .seq (.reg [⟨some 4, none, .tk (.c (.int .i64 0))⟩])
    (.seq (.reg [⟨some 5, none, .tk (.c (.int .i64 0))⟩])
    (.seq (.seq (.reg [⟨some 8, none, .mv (.t 0)⟩, ⟨some 9, none, .len false (.t 8)⟩, ⟨some 10, none, .mv (.c (.int .i64 0))⟩])
      (.block 0 (l_score_count_api_Cell_0))) r_score_count_api_Cell_0))) }

-- flotsam/score.says
def c_score_says : AFunc :=
  { np := 1, res := [.t 2], body := (
    .seq (.reg [⟨some 1, none, .box (.t 0)⟩, ⟨some 2, none, .tk (.c (.nilf))⟩])
    (.seq (.reg [⟨some 3, none, .mkf (.func n_score_says_1) [] [(.t 1)]⟩, ⟨some 2, none, .tk (.t 3)⟩])
    (.ret))) }

-- flotsam/flotsamref32.cells
def b_flotsamref32_cells_0 : AC :=
  .seq (.seq (.reg [⟨some 4, none, .mv (.t 3)⟩, ⟨some 5, none, .mv (.t 0)⟩, ⟨some 6, none, .len false (.t 5)⟩, ⟨some 7, none, .ic .lss (.t 4) (.t 6)⟩])
    (.cond (.t 7)
      (.skip)
      (.exit 0)))
  (.seq (.block 1 (.seq (.reg [⟨some 10, none, .mv (.t 0)⟩, ⟨some 11, none, .mv (.t 3)⟩, ⟨some 12, none, .ixa 6 none (.t 10) (.t 11)⟩, ⟨some 13, none, .ld (some 6) (.t 12)⟩, ⟨some 14, none, .callc n_flotsamref30_Right [(.t 13)]⟩, ⟨some 15, none, .notb (.t 14)⟩])
      (.cond (.t 15)
        (.seq (.reg [⟨some 2, none, .tk (.c (.bool false))⟩])
          (.ret))
        (.skip))))
  (.reg [⟨some 8, none, .mv (.t 3)⟩, ⟨some 9, none, .ia .add .i64 (.t 8) (.c (.int .i64 1))⟩, ⟨some 3, none, .tk (.t 9)⟩]))

def l_flotsamref32_cells_0 : AC :=
  .loop [0, 3] b_flotsamref32_cells_0

def r_flotsamref32_cells_0 : AC :=
  .seq (.reg [⟨some 2, none, .tk (.c (.bool true))⟩])
  (.ret)

def c_flotsamref32_cells : AFunc :=
  { np := 1, res := [.t 2], body := (
    .seq (.reg [⟨some 2, none, .tk (.c (.bool false))⟩])
    (.seq (.seq (.reg [⟨some 3, none, .tk (.c (.int .i64 0))⟩])
      (.block 0 (l_flotsamref32_cells_0))) r_flotsamref32_cells_0)) }

-- flotsam/flotsamref30.Sum
def b_flotsamref30_Sum_0 : AC :=
  .seq (.seq (.reg [⟨some 5, none, .mv (.t 4)⟩, ⟨some 6, none, .mv (.t 0)⟩, ⟨some 7, none, .len false (.t 6)⟩, ⟨some 8, none, .ic .lss (.t 5) (.t 7)⟩])
    (.cond (.t 8)
      (.skip)
      (.exit 0)))
  (.seq (.block 1 (.seq (.reg [⟨some 11, none, .mv (.t 0)⟩, ⟨some 12, none, .mv (.t 4)⟩, ⟨some 13, none, .ixa 6 none (.t 11) (.t 12)⟩, ⟨some 14, none, .fa 0 (.t 13)⟩, ⟨some 15, none, .ld none (.t 14)⟩, ⟨some 16, none, .ic .eql (.t 15) (.c (.int .i64 1))⟩, ⟨some 17, none, .mv (.t 16)⟩, ⟨some 18, (some (17, false)), .mv (.t 0)⟩, ⟨some 19, (some (17, false)), .mv (.t 4)⟩, ⟨some 20, (some (17, false)), .ixa 6 none (.t 18) (.t 19)⟩, ⟨some 21, (some (17, false)), .fa 0 (.t 20)⟩, ⟨some 22, (some (17, false)), .ld none (.t 21)⟩, ⟨some 23, (some (17, false)), .ic .eql (.t 22) (.c (.int .i64 2))⟩, ⟨some 24, (some (17, false)), .mv (.t 23)⟩, ⟨some 25, (some (24, true)), .mv (.t 3)⟩, ⟨some 26, (some (24, true)), .ic .eql (.t 25) (.c (.int .i64 0))⟩, ⟨some 27, (some (17, false)), .pick (.t 24) (.t 26) (.c (.bool false))⟩, ⟨some 28, none, .pick (.t 17) (.c (.bool true)) (.t 27)⟩])
      (.cond (.t 28)
        (.reg [⟨some 29, none, .mv (.t 0)⟩, ⟨some 30, none, .mv (.t 4)⟩, ⟨some 31, none, .ixa 6 none (.t 29) (.t 30)⟩, ⟨some 32, none, .fa 0 (.t 31)⟩, ⟨some 33, none, .ld none (.t 32)⟩, ⟨some 3, none, .tk (.t 33)⟩])
        (.skip))))
  (.reg [⟨some 9, none, .mv (.t 4)⟩, ⟨some 10, none, .ia .add .i64 (.t 9) (.c (.int .i64 1))⟩, ⟨some 4, none, .tk (.t 10)⟩]))

def l_flotsamref30_Sum_0 : AC :=
  .loop [0, 3, 4] b_flotsamref30_Sum_0

def r_flotsamref30_Sum_0 : AC :=
  .seq (.reg [⟨some 34, none, .mv (.t 3)⟩, ⟨some 2, none, .tk (.t 34)⟩])
  (.ret)

def c_flotsamref30_Sum : AFunc :=
  { np := 1, res := [.t 2], body := (
    .seq (.reg [⟨some 2, none, .tk (.c (.int .i64 0))⟩])
    (.seq (.reg [⟨some 3, none, .tk (.c (.int .i64 0))⟩])
    (.seq (.seq (.reg [⟨some 4, none, .tk (.c (.int .i64 0))⟩])
      (.block 0 (l_flotsamref30_Sum_0))) r_flotsamref30_Sum_0))) }

-- flotsam/site.words
def c_site_words : AFunc :=
  { np := 0, res := [.t 0], body := (
    .seq (.reg [⟨some 0, none, .tk (.c (.own 1 []))⟩])
    (.seq (.reg [⟨some 1, none, .callc n_strings_Fields [(.c (.str [63, 32, 100, 114, 111, 112, 45, 115, 121, 110, 99, 32, 119, 101, 97, 107, 45, 115, 121, 110, 99, 32, 100, 114, 111, 112, 45, 100, 105, 114, 32, 100, 114, 111, 112, 45, 98, 97, 114, 114, 105, 101, 114, 32, 115, 119, 97, 112, 32, 110, 111, 45, 99, 111, 109, 109, 105, 116, 32, 116, 101, 97, 114, 32, 100, 114, 111, 112, 45, 119, 114, 105, 116, 101]))]⟩, ⟨some 0, none, .tk (.t 1)⟩])
    (.ret))) }

-- flotsam/site.may
def b_site_may_0 : AC :=
  .seq (.reg [⟨some 17, none, .ic .lss (.t 16) (.c (.int .i64 8))⟩])
  (.seq (.cond (.t 17)
      (.skip)
      (.exit 0))
  (.seq (.block 1 (.seq (.reg [⟨some 18, none, .ixv none 1 8 (.t 15) (.t 16)⟩, ⟨some 4, none, .tk (.t 18)⟩])
      (.seq (.reg [⟨some 19, none, .mv (.t 4)⟩, ⟨some 20, none, .ic .lss (.t 19) (.c (.int .i64 0))⟩])
      (.cond (.t 20)
        (.seq (.reg [⟨some 2, none, .tk (.c (.bool false))⟩])
          (.ret))
        (.skip)))))
  (.reg [⟨some 21, none, .ia .add .i64 (.t 16) (.c (.int .i64 1))⟩, ⟨some 16, none, .mv (.t 21)⟩])))

def l_site_may_0 : AC :=
  .loop [1, 15, 16] b_site_may_0

def r_site_may_0 : AC :=
  .seq (.reg [⟨some 22, none, .ld (some 11) (.t 1)⟩, ⟨some 5, none, .alloc [.int .i64 0, .int .i64 0, .int .i64 0, .int .i64 0, .int .i64 0, .int .i64 0, .int .i64 0, .int .i64 0, .int .i64 0, .int .i64 0, .int .i64 0]⟩, ⟨none, none, .st 11 (.t 5) (.t 22)⟩])
  (.seq (.reg [⟨some 23, none, .fa 2 (.t 5)⟩, ⟨some 24, none, .fa 10 (.t 1)⟩, ⟨some 25, none, .ld none (.t 24)⟩, ⟨some 26, none, .slp 1 8 (.t 23) (some (.t 25)) none none⟩, ⟨none, none, .clr 1 [.int .i64 0] (.t 26)⟩])
  (.seq (.reg [⟨some 27, none, .fa 2 (.t 5)⟩, ⟨some 28, none, .ld (some 8) (.t 27)⟩, ⟨some 29, none, .fa 2 (.t 1)⟩, ⟨some 30, none, .ld (some 8) (.t 29)⟩, ⟨some 31, none, .eqa false [.int .i64, .int .i64, .int .i64, .int .i64, .int .i64, .int .i64, .int .i64, .int .i64] (.t 28) (.t 30)⟩, ⟨some 2, none, .tk (.t 31)⟩])
  (.ret)))

def c_site_may : AFunc :=
  { np := 1, res := [.t 2], body := (
    .seq (.reg [⟨some 1, none, .box (.t 0)⟩, ⟨some 2, none, .tk (.c (.bool false))⟩])
    (.seq (.seq (.reg [⟨some 6, none, .fa 10 (.t 1)⟩, ⟨some 7, none, .ld none (.t 6)⟩, ⟨some 8, none, .ic .lss (.t 7) (.c (.int .i64 1))⟩, ⟨some 9, none, .mv (.t 8)⟩, ⟨some 10, (some (9, false)), .fa 10 (.t 1)⟩, ⟨some 11, (some (9, false)), .ld none (.t 10)⟩, ⟨some 12, (some (9, false)), .ic .gtr (.t 11) (.c (.int .i64 8))⟩, ⟨some 13, none, .pick (.t 9) (.c (.bool true)) (.t 12)⟩])
      (.cond (.t 13)
        (.seq (.reg [⟨some 2, none, .tk (.c (.bool false))⟩])
          (.ret))
        (.skip)))
    (.seq (.seq (.reg [⟨some 14, none, .fa 2 (.t 1)⟩, ⟨some 15, none, .ld (some 8) (.t 14)⟩, ⟨some 16, none, .mv (.c (.int .i64 0))⟩])
      (.block 0 (l_site_may_0))) r_site_may_0))) }

-- flotsam/site.Word
def c_site_Word : AFunc :=
  { np := 1, res := [.t 2], body := (
    .seq (.reg [⟨some 2, none, .tk (.c (.str []))⟩])
    (.seq (.reg [⟨some 4, none, .callc n_site_words []⟩, ⟨some 3, none, .tk (.t 4)⟩])
    (.seq (.seq (.reg [⟨some 5, none, .mv (.t 0)⟩, ⟨some 6, none, .ic .lss (.t 5) (.c (.int .i64 0))⟩, ⟨some 7, none, .mv (.t 6)⟩, ⟨some 8, (some (7, false)), .mv (.t 0)⟩, ⟨some 9, (some (7, false)), .mv (.t 3)⟩, ⟨some 10, (some (7, false)), .len false (.t 9)⟩, ⟨some 11, (some (7, false)), .ic .geq (.t 8) (.t 10)⟩, ⟨some 12, none, .pick (.t 7) (.c (.bool true)) (.t 11)⟩])
      (.cond (.t 12)
        (.seq (.reg [⟨some 13, none, .mv (.t 3)⟩, ⟨some 14, none, .ixa 1 none (.t 13) (.c (.int .i64 0))⟩, ⟨some 15, none, .ld none (.t 14)⟩, ⟨some 2, none, .tk (.t 15)⟩])
          (.ret))
        (.skip)))
    (.seq (.reg [⟨some 16, none, .mv (.t 3)⟩, ⟨some 17, none, .mv (.t 0)⟩, ⟨some 18, none, .ixa 1 none (.t 16) (.t 17)⟩, ⟨some 19, none, .ld none (.t 18)⟩, ⟨some 2, none, .tk (.t 19)⟩])
    (.ret))))) }

-- flotsam/flotsamref25.may
def b_flotsamref25_may_0 : AC :=
  .seq (.seq (.reg [⟨some 12, none, .mv (.t 3)⟩, ⟨some 13, none, .ic .lss (.t 12) (.c (.int .i64 8))⟩])
    (.cond (.t 13)
      (.skip)
      (.exit 0)))
  (.seq (.block 1 (.seq (.reg [⟨some 16, none, .mv (.t 3)⟩, ⟨some 17, none, .fa 2 (.t 1)⟩, ⟨some 18, none, .ixa 1 (some 8) (.t 17) (.t 16)⟩, ⟨some 19, none, .ld none (.t 18)⟩, ⟨some 20, none, .ic .lss (.t 19) (.c (.int .i64 0))⟩, ⟨some 21, none, .mv (.t 20)⟩, ⟨some 22, (some (21, false)), .mv (.t 3)⟩, ⟨some 23, (some (21, false)), .fa 10 (.t 1)⟩, ⟨some 24, (some (21, false)), .ld none (.t 23)⟩, ⟨some 25, (some (21, false)), .ic .geq (.t 22) (.t 24)⟩, ⟨some 26, (some (21, false)), .mv (.t 25)⟩, ⟨some 27, (some (26, true)), .mv (.t 3)⟩, ⟨some 28, (some (26, true)), .fa 2 (.t 1)⟩, ⟨some 29, (some (26, true)), .ixa 1 (some 8) (.t 28) (.t 27)⟩, ⟨some 30, (some (26, true)), .ld none (.t 29)⟩, ⟨some 31, (some (26, true)), .ic .neq (.t 30) (.c (.int .i64 0))⟩, ⟨some 32, (some (21, false)), .pick (.t 26) (.t 31) (.c (.bool false))⟩, ⟨some 33, none, .pick (.t 21) (.c (.bool true)) (.t 32)⟩])
      (.cond (.t 33)
        (.seq (.reg [⟨some 2, none, .tk (.c (.bool false))⟩])
          (.ret))
        (.skip))))
  (.reg [⟨some 14, none, .mv (.t 3)⟩, ⟨some 15, none, .ia .add .i64 (.t 14) (.c (.int .i64 1))⟩, ⟨some 3, none, .tk (.t 15)⟩]))

def l_flotsamref25_may_0 : AC :=
  .loop [1, 3] b_flotsamref25_may_0

def r_flotsamref25_may_0 : AC :=
  .seq (.reg [⟨some 2, none, .tk (.c (.bool true))⟩])
  (.ret)

def c_flotsamref25_may : AFunc :=
  { np := 1, res := [.t 2], body := (
    .seq (.reg [⟨some 1, none, .box (.t 0)⟩, ⟨some 2, none, .tk (.c (.bool false))⟩])
    (.seq (.seq (.reg [⟨some 4, none, .fa 10 (.t 1)⟩, ⟨some 5, none, .ld none (.t 4)⟩, ⟨some 6, none, .ic .lss (.t 5) (.c (.int .i64 1))⟩, ⟨some 7, none, .mv (.t 6)⟩, ⟨some 8, (some (7, false)), .fa 10 (.t 1)⟩, ⟨some 9, (some (7, false)), .ld none (.t 8)⟩, ⟨some 10, (some (7, false)), .ic .gtr (.t 9) (.c (.int .i64 8))⟩, ⟨some 11, none, .pick (.t 7) (.c (.bool true)) (.t 10)⟩])
      (.cond (.t 11)
        (.seq (.reg [⟨some 2, none, .tk (.c (.bool false))⟩])
          (.ret))
        (.skip)))
    (.seq (.seq (.reg [⟨some 3, none, .tk (.c (.int .i64 0))⟩])
      (.block 0 (l_flotsamref25_may_0))) r_flotsamref25_may_0))) }

-- flotsam/flotsamref25.Word
def c_flotsamref25_Word : AFunc :=
  { np := 1, res := [.t 2], body := (
    .seq (.reg [⟨some 2, none, .tk (.c (.str []))⟩])
    (.seq (.reg [⟨some 4, none, .bsl 1 [.str []] 8 [(0, 1, (.c (.str [100, 114, 111, 112, 45, 115, 121, 110, 99]))), (1, 1, (.c (.str [119, 101, 97, 107, 45, 115, 121, 110, 99]))), (2, 1, (.c (.str [100, 114, 111, 112, 45, 100, 105, 114]))), (3, 1, (.c (.str [100, 114, 111, 112, 45, 98, 97, 114, 114, 105, 101, 114]))), (4, 1, (.c (.str [115, 119, 97, 112]))), (5, 1, (.c (.str [110, 111, 45, 99, 111, 109, 109, 105, 116]))), (6, 1, (.c (.str [116, 101, 97, 114]))), (7, 1, (.c (.str [100, 114, 111, 112, 45, 119, 114, 105, 116, 101])))] false⟩, ⟨some 3, none, .tk (.t 4)⟩])
    (.seq (.seq (.reg [⟨some 5, none, .mv (.t 0)⟩, ⟨some 6, none, .ic .lss (.t 5) (.c (.int .i64 1))⟩, ⟨some 7, none, .mv (.t 6)⟩, ⟨some 8, (some (7, false)), .mv (.t 0)⟩, ⟨some 9, (some (7, false)), .mv (.t 3)⟩, ⟨some 10, (some (7, false)), .len false (.t 9)⟩, ⟨some 11, (some (7, false)), .ic .gtr (.t 8) (.t 10)⟩, ⟨some 12, none, .pick (.t 7) (.c (.bool true)) (.t 11)⟩])
      (.cond (.t 12)
        (.seq (.reg [⟨some 2, none, .tk (.c (.str [63]))⟩])
          (.ret))
        (.skip)))
    (.seq (.reg [⟨some 13, none, .mv (.t 3)⟩, ⟨some 14, none, .mv (.t 0)⟩, ⟨some 15, none, .ia .sub .i64 (.t 14) (.c (.int .i64 1))⟩, ⟨some 16, none, .ixa 1 none (.t 13) (.t 15)⟩, ⟨some 17, none, .ld none (.t 16)⟩, ⟨some 2, none, .tk (.t 17)⟩])
    (.ret))))) }

-- flotsam/score.odd$1
def c_score_odd_1 : AFunc :=
  { np := 2, res := [.t 3], body := (
    .seq (.reg [⟨some 3, none, .tk (.c (.bool false))⟩])
    (.seq (.drw [[], [], [], [], [], [], [], [], [], [], []] [⟨some 4, none, .mv (.t 0)⟩, ⟨some 5, none, .len false (.t 4)⟩, ⟨some 6, none, .ld none (.t 1)⟩, ⟨some 7, none, .ic .neq (.t 5) (.t 6)⟩, ⟨some 8, none, .mv (.t 7)⟩, ⟨some 9, (some (8, false)), .mv (.t 0)⟩, ⟨some 10, (some (8, false)), .callc n_score_count_api_Cell [(.t 9), (.c (.fn (.func n_cell_Right) [] []))]⟩, ⟨some 11, (some (8, false)), .ld none (.t 1)⟩, ⟨some 12, (some (8, false)), .ic .neq (.t 10) (.t 11)⟩, ⟨some 13, none, .pick (.t 8) (.c (.bool true)) (.t 12)⟩, ⟨some 3, none, .tk (.t 13)⟩])
    (.ret))) }

-- flotsam/cell.Right
def c_cell_Right : AFunc :=
  { np := 1, res := [.t 2], body := (
    .seq (.reg [⟨some 1, none, .box (.t 0)⟩, ⟨some 2, none, .tk (.c (.bool false))⟩])
    (.seq (.seq (.reg [⟨some 3, none, .fa 0 (.t 1)⟩, ⟨some 4, none, .ld none (.t 3)⟩])
      (.block 0 (.seq (.reg [⟨some 6, none, .ic .eql (.t 4) (.c (.int .i64 1))⟩, ⟨some 5, none, .tk (.t 6)⟩])
        (.cond (.t 5)
          (.seq (.reg [⟨some 7, none, .fa 5 (.t 1)⟩, ⟨some 8, none, .ld none (.t 7)⟩, ⟨some 9, none, .ic .eql (.t 8) (.c (.int .i64 0))⟩, ⟨some 10, none, .mv (.t 9)⟩, ⟨some 11, (some (10, true)), .fa 1 (.t 1)⟩, ⟨some 12, (some (10, true)), .ld (some 4) (.t 11)⟩, ⟨some 13, (some (10, true)), .callc n_cell_witness [(.t 12)]⟩, ⟨some 14, none, .pick (.t 10) (.t 13) (.c (.bool false))⟩, ⟨some 2, none, .tk (.t 14)⟩])
            (.ret))
          (.seq (.reg [⟨some 16, none, .ic .eql (.t 4) (.c (.int .i64 2))⟩, ⟨some 15, none, .tk (.t 16)⟩])
            (.cond (.t 15)
              (.seq (.reg [⟨some 17, none, .fa 1 (.t 1)⟩, ⟨some 18, none, .ld (some 4) (.t 17)⟩, ⟨some 19, none, .bld [.int .i64 0, .int .u64 0, .int .i64 0, .int .i64 0] []⟩, ⟨some 20, none, .eqa false [.int .i64, .int .u64, .int .i64, .int .i64] (.t 18) (.t 19)⟩, ⟨some 21, none, .mv (.t 20)⟩, ⟨some 22, (some (21, true)), .fa 5 (.t 1)⟩, ⟨some 23, (some (21, true)), .ld none (.t 22)⟩, ⟨some 24, (some (21, true)), .callc n_cell_limit [(.t 23)]⟩, ⟨some 25, none, .pick (.t 21) (.t 24) (.c (.bool false))⟩, ⟨some 2, none, .tk (.t 25)⟩])
                (.ret))
              (.skip)))))))
    (.seq (.reg [⟨some 26, none, .ld (some 6) (.t 1)⟩, ⟨some 27, none, .bld [.int .i64 0, .int .i64 0, .int .u64 0, .int .i64 0, .int .i64 0, .int .i64 0] []⟩, ⟨some 28, none, .eqa false [.int .i64, .int .i64, .int .u64, .int .i64, .int .i64, .int .i64] (.t 26) (.t 27)⟩, ⟨some 2, none, .tk (.t 28)⟩])
    (.ret)))) }

-- slices.IndexFunc[[][]flotsam/api.Cell,[]flotsam/api.Cell]
def b_slices_IndexFunc_api_Cell_api_Cell_0 : AC :=
  .seq (.reg [⟨some 9, none, .ic .lss (.t 8) (.t 7)⟩])
  (.seq (.cond (.t 9)
      (.skip)
      (.exit 0))
  (.seq (.block 1 (.seq (.reg [⟨some 10, none, .mv (.t 8)⟩, ⟨some 5, none, .tk (.t 10)⟩])
      (.seq (.reg [⟨some 11, none, .mv (.t 1)⟩, ⟨some 12, none, .mv (.t 0)⟩, ⟨some 13, none, .mv (.t 5)⟩, ⟨some 14, none, .ixa 1 none (.t 12) (.t 13)⟩, ⟨some 15, none, .ld none (.t 14)⟩, ⟨some 16, none, .callv (.t 11) [(.t 15)]⟩])
      (.cond (.t 16)
        (.seq (.reg [⟨some 17, none, .mv (.t 5)⟩, ⟨some 4, none, .tk (.t 17)⟩])
          (.ret))
        (.skip)))))
  (.reg [⟨some 18, none, .ia .add .i64 (.t 8) (.c (.int .i64 1))⟩, ⟨some 8, none, .mv (.t 18)⟩])))

def l_slices_IndexFunc_api_Cell_api_Cell_0 : AC :=
  .loop [0, 1, 7, 8] b_slices_IndexFunc_api_Cell_api_Cell_0

def r_slices_IndexFunc_api_Cell_api_Cell_0 : AC :=
  .seq (.reg [⟨some 4, none, .tk (.c (.int .i64 (-1)))⟩])
  (.ret)

def c_slices_IndexFunc_api_Cell_api_Cell : AFunc :=
  { np := 2, res := [.t 4], body := (
    .seq (.reg [⟨some 4, none, .tk (.c (.int .i64 0))⟩])
    (.seq (.seq (.reg [⟨some 6, none, .mv (.t 0)⟩, ⟨some 7, none, .len false (.t 6)⟩, ⟨some 8, none, .mv (.c (.int .i64 0))⟩])
      (.block 0 (l_slices_IndexFunc_api_Cell_api_Cell_0))) r_slices_IndexFunc_api_Cell_api_Cell_0)) }

-- slices.Index[[]flotsam/api.Site,flotsam/api.Site]
def b_slices_Index_api_Site_api_Site_0 : AC :=
  .seq (.reg [⟨some 9, none, .ic .lss (.t 8) (.t 7)⟩])
  (.seq (.cond (.t 9)
      (.skip)
      (.exit 0))
  (.seq (.block 1 (.seq (.reg [⟨some 10, none, .mv (.t 8)⟩, ⟨some 5, none, .tk (.t 10)⟩])
      (.seq (.drw [[], [], [], [], [], []] [⟨some 11, none, .ld (some 11) (.t 3)⟩, ⟨some 12, none, .mv (.t 0)⟩, ⟨some 13, none, .mv (.t 5)⟩, ⟨some 14, none, .ixa 11 none (.t 12) (.t 13)⟩, ⟨some 15, none, .ld (some 11) (.t 14)⟩, ⟨some 16, none, .eqa false [.int .i64, .int .i64, .int .i64, .int .i64, .int .i64, .int .i64, .int .i64, .int .i64, .int .i64, .int .i64, .int .i64] (.t 11) (.t 15)⟩])
      (.cond (.t 16)
        (.seq (.reg [⟨some 17, none, .mv (.t 5)⟩, ⟨some 4, none, .tk (.t 17)⟩])
          (.ret))
        (.skip)))))
  (.reg [⟨some 18, none, .ia .add .i64 (.t 8) (.c (.int .i64 1))⟩, ⟨some 8, none, .mv (.t 18)⟩])))

def l_slices_Index_api_Site_api_Site_0 : AC :=
  .loop [0, 3, 7, 8] b_slices_Index_api_Site_api_Site_0

def r_slices_Index_api_Site_api_Site_0 : AC :=
  .seq (.reg [⟨some 4, none, .tk (.c (.int .i64 (-1)))⟩])
  (.ret)

def c_slices_Index_api_Site_api_Site : AFunc :=
  { np := 2, res := [.t 4], body := (
    .seq (.reg [⟨some 3, none, .box (.t 1)⟩, ⟨some 4, none, .tk (.c (.int .i64 0))⟩])
    (.seq (.seq (.reg [⟨some 6, none, .mv (.t 0)⟩, ⟨some 7, none, .len false (.t 6)⟩, ⟨some 8, none, .mv (.c (.int .i64 0))⟩])
      (.block 0 (l_slices_Index_api_Site_api_Site_0))) r_slices_Index_api_Site_api_Site_0)) }

-- flotsam/score.says$1
def c_score_says_1 : AFunc :=
  { np := 2, res := [.t 3], body := (
    .seq (.reg [⟨some 2, none, .box (.t 0)⟩, ⟨some 3, none, .tk (.c (.bool false))⟩])
    (.seq (.reg [⟨some 4, none, .fa 0 (.t 2)⟩, ⟨some 5, none, .ld none (.t 4)⟩, ⟨some 6, none, .ld none (.t 1)⟩, ⟨some 7, none, .ic .eql (.t 5) (.t 6)⟩, ⟨some 3, none, .tk (.t 7)⟩])
    (.ret))) }

-- flotsam/flotsamref30.Right
def c_flotsamref30_Right : AFunc :=
  { np := 1, res := [.t 2], body := (
    .seq (.reg [⟨some 1, none, .box (.t 0)⟩, ⟨some 2, none, .tk (.c (.bool false))⟩])
    (.seq (.reg [⟨some 4, none, .fa 1 (.t 1)⟩, ⟨some 5, none, .ld (some 4) (.t 4)⟩, ⟨some 3, none, .alloc [.int .i64 0, .int .u64 0, .int .i64 0, .int .i64 0]⟩, ⟨none, none, .st 4 (.t 3) (.t 5)⟩])
    (.seq (.seq (.reg [⟨some 6, none, .fa 0 (.t 1)⟩, ⟨some 7, none, .ld none (.t 6)⟩])
      (.block 0 (.seq (.reg [⟨some 9, none, .ic .eql (.t 7) (.c (.int .i64 0))⟩, ⟨some 8, none, .tk (.t 9)⟩])
        (.cond (.t 8)
          (.seq (.reg [⟨some 10, none, .ld (some 6) (.t 1)⟩, ⟨some 11, none, .bld [.int .i64 0, .int .i64 0, .int .u64 0, .int .i64 0, .int .i64 0, .int .i64 0] []⟩, ⟨some 12, none, .eqa false [.int .i64, .int .i64, .int .u64, .int .i64, .int .i64, .int .i64] (.t 10) (.t 11)⟩, ⟨some 2, none, .tk (.t 12)⟩])
            (.ret))
          (.seq (.reg [⟨some 14, none, .ic .eql (.t 7) (.c (.int .i64 1))⟩, ⟨some 13, none, .tk (.t 14)⟩])
            (.cond (.t 13)
              (.seq (.seq (.reg [⟨some 15, none, .fa 5 (.t 1)⟩, ⟨some 16, none, .ld none (.t 15)⟩, ⟨some 17, none, .ic .neq (.t 16) (.c (.int .i64 0))⟩, ⟨some 18, none, .mv (.t 17)⟩, ⟨some 19, (some (18, false)), .fa 0 (.t 3)⟩, ⟨some 20, (some (18, false)), .ld none (.t 19)⟩, ⟨some 21, (some (18, false)), .ic .lss (.t 20) (.c (.int .i64 0))⟩, ⟨some 22, none, .pick (.t 18) (.c (.bool true)) (.t 21)⟩, ⟨some 23, none, .mv (.t 22)⟩, ⟨some 24, (some (23, false)), .fa 0 (.t 3)⟩, ⟨some 25, (some (23, false)), .ld none (.t 24)⟩, ⟨some 26, (some (23, false)), .ic .gtr (.t 25) (.c (.int .i64 1000000))⟩, ⟨some 27, none, .pick (.t 23) (.c (.bool true)) (.t 26)⟩, ⟨some 28, none, .mv (.t 27)⟩, ⟨some 29, (some (28, false)), .fa 1 (.t 3)⟩, ⟨some 30, (some (28, false)), .ld none (.t 29)⟩, ⟨some 31, (some (28, false)), .ic .geq (.t 30) (.c (.int .u64 65536))⟩, ⟨some 32, none, .pick (.t 28) (.c (.bool true)) (.t 31)⟩])
                  (.cond (.t 32)
                    (.seq (.reg [⟨some 2, none, .tk (.c (.bool false))⟩])
                      (.ret))
                    (.skip)))
                (.seq (.reg [⟨some 33, none, .fa 2 (.t 3)⟩, ⟨some 34, none, .ld none (.t 33)⟩, ⟨some 35, none, .ic .eql (.t 34) (.c (.int .i64 1))⟩, ⟨some 36, none, .mv (.t 35)⟩, ⟨some 37, (some (36, true)), .fa 3 (.t 3)⟩, ⟨some 38, (some (36, true)), .ld none (.t 37)⟩, ⟨some 39, (some (36, true)), .ic .eql (.t 38) (.c (.int .i64 0))⟩, ⟨some 40, none, .pick (.t 36) (.t 39) (.c (.bool false))⟩, ⟨some 41, none, .mv (.t 40)⟩, ⟨some 42, (some (41, false)), .fa 2 (.t 3)⟩, ⟨some 43, (some (41, false)), .ld none (.t 42)⟩, ⟨some 44, (some (41, false)), .ic .eql (.t 43) (.c (.int .i64 2))⟩, ⟨some 45, (some (41, false)), .mv (.t 44)⟩, ⟨some 46, (some (45, true)), .fa 3 (.t 3)⟩, ⟨some 47, (some (45, true)), .ld none (.t 46)⟩, ⟨some 48, (some (45, true)), .ic .geq (.t 47) (.c (.int .i64 1))⟩, ⟨some 49, (some (41, false)), .pick (.t 45) (.t 48) (.c (.bool false))⟩, ⟨some 50, (some (41, false)), .mv (.t 49)⟩, ⟨some 51, (some (50, true)), .fa 3 (.t 3)⟩, ⟨some 52, (some (50, true)), .ld none (.t 51)⟩, ⟨some 53, (some (50, true)), .ic .leq (.t 52) (.c (.int .i64 15))⟩, ⟨some 54, (some (41, false)), .pick (.t 50) (.t 53) (.c (.bool false))⟩, ⟨some 55, (some (41, false)), .mv (.t 54)⟩, ⟨some 56, (some (55, true)), .fa 3 (.t 3)⟩, ⟨some 57, (some (55, true)), .ld none (.t 56)⟩, ⟨some 58, (some (55, true)), .ic .neq (.t 57) (.c (.int .i64 10))⟩, ⟨some 59, (some (41, false)), .pick (.t 55) (.t 58) (.c (.bool false))⟩, ⟨some 60, none, .pick (.t 41) (.c (.bool true)) (.t 59)⟩, ⟨some 2, none, .tk (.t 60)⟩])
                (.ret)))
              (.seq (.reg [⟨some 62, none, .ic .eql (.t 7) (.c (.int .i64 2))⟩, ⟨some 61, none, .tk (.t 62)⟩])
                (.cond (.t 61)
                  (.seq (.reg [⟨some 63, none, .ld (some 4) (.t 3)⟩, ⟨some 64, none, .bld [.int .i64 0, .int .u64 0, .int .i64 0, .int .i64 0] []⟩, ⟨some 65, none, .eqa false [.int .i64, .int .u64, .int .i64, .int .i64] (.t 63) (.t 64)⟩, ⟨some 66, none, .mv (.t 65)⟩, ⟨some 67, (some (66, true)), .fa 5 (.t 1)⟩, ⟨some 68, (some (66, true)), .ld none (.t 67)⟩, ⟨some 69, (some (66, true)), .ic .eql (.t 68) (.c (.int .i64 10))⟩, ⟨some 70, (some (66, true)), .mv (.t 69)⟩, ⟨some 71, (some (70, false)), .fa 5 (.t 1)⟩, ⟨some 72, (some (70, false)), .ld none (.t 71)⟩, ⟨some 73, (some (70, false)), .ic .eql (.t 72) (.c (.int .i64 13))⟩, ⟨some 74, (some (66, true)), .pick (.t 70) (.c (.bool true)) (.t 73)⟩, ⟨some 75, (some (66, true)), .mv (.t 74)⟩, ⟨some 76, (some (75, false)), .fa 5 (.t 1)⟩, ⟨some 77, (some (75, false)), .ld none (.t 76)⟩, ⟨some 78, (some (75, false)), .ic .eql (.t 77) (.c (.int .i64 14))⟩, ⟨some 79, (some (66, true)), .pick (.t 75) (.c (.bool true)) (.t 78)⟩, ⟨some 80, none, .pick (.t 66) (.t 79) (.c (.bool false))⟩, ⟨some 2, none, .tk (.t 80)⟩])
                    (.ret))
                  (.skip)))))))))
    (.seq (.reg [⟨some 2, none, .tk (.c (.bool false))⟩])
    (.ret))))) }

-- flotsam/cell.witness
def c_cell_witness : AFunc :=
  { np := 1, res := [.t 2], body := (
    .seq (.reg [⟨some 1, none, .box (.t 0)⟩, ⟨some 2, none, .tk (.c (.bool false))⟩])
    (.seq (.seq (.reg [⟨some 3, none, .fa 0 (.t 1)⟩, ⟨some 4, none, .ld none (.t 3)⟩, ⟨some 5, none, .ic .lss (.t 4) (.c (.int .i64 0))⟩, ⟨some 6, none, .mv (.t 5)⟩, ⟨some 7, (some (6, false)), .fa 0 (.t 1)⟩, ⟨some 8, (some (6, false)), .ld none (.t 7)⟩, ⟨some 9, (some (6, false)), .ic .gtr (.t 8) (.c (.int .i64 1000000))⟩, ⟨some 10, none, .pick (.t 6) (.c (.bool true)) (.t 9)⟩, ⟨some 11, none, .mv (.t 10)⟩, ⟨some 12, (some (11, false)), .fa 1 (.t 1)⟩, ⟨some 13, (some (11, false)), .ld none (.t 12)⟩, ⟨some 14, (some (11, false)), .ic .geq (.t 13) (.c (.int .u64 65536))⟩, ⟨some 15, none, .pick (.t 11) (.c (.bool true)) (.t 14)⟩])
      (.cond (.t 15)
        (.seq (.reg [⟨some 2, none, .tk (.c (.bool false))⟩])
          (.ret))
        (.skip)))
    (.seq (.seq (.reg [⟨some 16, none, .fa 2 (.t 1)⟩, ⟨some 17, none, .ld none (.t 16)⟩])
      (.block 0 (.seq (.reg [⟨some 19, none, .ic .eql (.t 17) (.c (.int .i64 1))⟩, ⟨some 18, none, .tk (.t 19)⟩])
        (.cond (.t 18)
          (.seq (.reg [⟨some 20, none, .fa 3 (.t 1)⟩, ⟨some 21, none, .ld none (.t 20)⟩, ⟨some 22, none, .ic .eql (.t 21) (.c (.int .i64 0))⟩, ⟨some 2, none, .tk (.t 22)⟩])
            (.ret))
          (.seq (.reg [⟨some 24, none, .ic .eql (.t 17) (.c (.int .i64 2))⟩, ⟨some 23, none, .tk (.t 24)⟩])
            (.cond (.t 23)
              (.seq (.reg [⟨some 25, none, .fa 3 (.t 1)⟩, ⟨some 26, none, .ld none (.t 25)⟩, ⟨some 27, none, .ic .gtr (.t 26) (.c (.int .i64 0))⟩, ⟨some 28, none, .mv (.t 27)⟩, ⟨some 29, (some (28, true)), .fa 3 (.t 1)⟩, ⟨some 30, (some (28, true)), .ld none (.t 29)⟩, ⟨some 31, (some (28, true)), .ic .leq (.t 30) (.c (.int .i64 15))⟩, ⟨some 32, none, .pick (.t 28) (.t 31) (.c (.bool false))⟩, ⟨some 33, none, .mv (.t 32)⟩, ⟨some 34, (some (33, true)), .fa 3 (.t 1)⟩, ⟨some 35, (some (33, true)), .ld none (.t 34)⟩, ⟨some 36, (some (33, true)), .ic .neq (.t 35) (.c (.int .i64 10))⟩, ⟨some 37, none, .pick (.t 33) (.t 36) (.c (.bool false))⟩, ⟨some 2, none, .tk (.t 37)⟩])
                (.ret))
              (.skip)))))))
    (.seq (.reg [⟨some 2, none, .tk (.c (.bool false))⟩])
    (.ret))))) }

-- flotsam/cell.limit
def c_cell_limit : AFunc :=
  { np := 1, res := [.t 2], body := (
    .seq (.reg [⟨some 2, none, .tk (.c (.bool false))⟩])
    (.seq (.reg [⟨some 3, none, .mv (.t 0)⟩, ⟨some 4, none, .ic .eql (.t 3) (.c (.int .i64 10))⟩, ⟨some 5, none, .mv (.t 4)⟩, ⟨some 6, (some (5, false)), .mv (.t 0)⟩, ⟨some 7, (some (5, false)), .ic .eql (.t 6) (.c (.int .i64 13))⟩, ⟨some 8, none, .pick (.t 5) (.c (.bool true)) (.t 7)⟩, ⟨some 9, none, .mv (.t 8)⟩, ⟨some 10, (some (9, false)), .mv (.t 0)⟩, ⟨some 11, (some (9, false)), .ic .eql (.t 10) (.c (.int .i64 14))⟩, ⟨some 12, none, .pick (.t 9) (.c (.bool true)) (.t 11)⟩, ⟨some 2, none, .tk (.t 12)⟩])
    (.ret))) }

def tbl : Tbl := Tab.get [(3, c_flotsamlaw45_GateTells), (4, c_flotsamlaw45_GateTurns), (5, c_flotsamlaw32_Few), (6, c_flotsamlaw45_knows), (7, c_gate_Compare), (8, c_flotsamref45_Compare), (9, c_flotsamref45_Same), (10, c_flotsamlaw45_back), (11, c_gate_Opens), (12, c_flotsamref45_Opens), (13, c_gate_Show), (14, c_flotsamlaw45_notes), (15, c_flotsamref45_Show), (16, c_score_Right), (17, c_flotsamlaw45_count), (18, c_score_Score), (19, c_flotsamlaw32_One), (20, c_flotsamlaw45_other), (21, c_gate_rows), (22, c_gate_kind), (23, c_flotsamref32_Right), (24, c_flotsamref45_row), (25, c_flotsamref45_kind), (26, c_site_Name), (27, c_gate_word), (28, c_num_Digits), (32, c_flotsamref25_Name), (33, c_flotsamref01_Digits), (34, c_score_odd), (35, c_cell_Sum), (36, c_slices_ContainsFunc_api_Cell_api_Cell), (37, c_slices_Contains_api_Site_api_Site), (38, c_score_count_api_Cell), (39, c_score_says), (40, c_flotsamref32_cells), (41, c_flotsamref30_Sum), (42, c_site_words), (43, c_site_may), (44, c_site_Word), (47, c_flotsamref25_may), (48, c_flotsamref25_Word), (49, c_score_odd_1), (50, c_cell_Right), (51, c_slices_IndexFunc_api_Cell_api_Cell), (52, c_slices_Index_api_Site_api_Site), (53, c_score_says_1), (54, c_flotsamref30_Right), (58, c_cell_witness), (59, c_cell_limit)]

theorem t_flotsamlaw45_GateTells : tbl n_flotsamlaw45_GateTells = some c_flotsamlaw45_GateTells := by kernel_rfl
theorem t_flotsamlaw45_GateTurns : tbl n_flotsamlaw45_GateTurns = some c_flotsamlaw45_GateTurns := by kernel_rfl
theorem t_flotsamlaw32_Few : tbl n_flotsamlaw32_Few = some c_flotsamlaw32_Few := by kernel_rfl
theorem t_flotsamlaw45_knows : tbl n_flotsamlaw45_knows = some c_flotsamlaw45_knows := by kernel_rfl
theorem t_gate_Compare : tbl n_gate_Compare = some c_gate_Compare := by kernel_rfl
theorem t_flotsamref45_Compare : tbl n_flotsamref45_Compare = some c_flotsamref45_Compare := by kernel_rfl
theorem t_flotsamref45_Same : tbl n_flotsamref45_Same = some c_flotsamref45_Same := by kernel_rfl
theorem t_flotsamlaw45_back : tbl n_flotsamlaw45_back = some c_flotsamlaw45_back := by kernel_rfl
theorem t_gate_Opens : tbl n_gate_Opens = some c_gate_Opens := by kernel_rfl
theorem t_flotsamref45_Opens : tbl n_flotsamref45_Opens = some c_flotsamref45_Opens := by kernel_rfl
theorem t_gate_Show : tbl n_gate_Show = some c_gate_Show := by kernel_rfl
theorem t_flotsamlaw45_notes : tbl n_flotsamlaw45_notes = some c_flotsamlaw45_notes := by kernel_rfl
theorem t_flotsamref45_Show : tbl n_flotsamref45_Show = some c_flotsamref45_Show := by kernel_rfl
theorem t_score_Right : tbl n_score_Right = some c_score_Right := by kernel_rfl
theorem t_flotsamlaw45_count : tbl n_flotsamlaw45_count = some c_flotsamlaw45_count := by kernel_rfl
theorem t_score_Score : tbl n_score_Score = some c_score_Score := by kernel_rfl
theorem t_flotsamlaw32_One : tbl n_flotsamlaw32_One = some c_flotsamlaw32_One := by kernel_rfl
theorem t_flotsamlaw45_other : tbl n_flotsamlaw45_other = some c_flotsamlaw45_other := by kernel_rfl
theorem t_gate_rows : tbl n_gate_rows = some c_gate_rows := by kernel_rfl
theorem t_gate_kind : tbl n_gate_kind = some c_gate_kind := by kernel_rfl
theorem t_flotsamref32_Right : tbl n_flotsamref32_Right = some c_flotsamref32_Right := by kernel_rfl
theorem t_flotsamref45_row : tbl n_flotsamref45_row = some c_flotsamref45_row := by kernel_rfl
theorem t_flotsamref45_kind : tbl n_flotsamref45_kind = some c_flotsamref45_kind := by kernel_rfl
theorem t_site_Name : tbl n_site_Name = some c_site_Name := by kernel_rfl
theorem t_gate_word : tbl n_gate_word = some c_gate_word := by kernel_rfl
theorem t_num_Digits : tbl n_num_Digits = some c_num_Digits := by kernel_rfl
theorem t_flotsamref25_Name : tbl n_flotsamref25_Name = some c_flotsamref25_Name := by kernel_rfl
theorem t_flotsamref01_Digits : tbl n_flotsamref01_Digits = some c_flotsamref01_Digits := by kernel_rfl
theorem t_score_odd : tbl n_score_odd = some c_score_odd := by kernel_rfl
theorem t_cell_Sum : tbl n_cell_Sum = some c_cell_Sum := by kernel_rfl
theorem t_slices_ContainsFunc_api_Cell_api_Cell : tbl n_slices_ContainsFunc_api_Cell_api_Cell = some c_slices_ContainsFunc_api_Cell_api_Cell := by kernel_rfl
theorem t_slices_Contains_api_Site_api_Site : tbl n_slices_Contains_api_Site_api_Site = some c_slices_Contains_api_Site_api_Site := by kernel_rfl
theorem t_score_count_api_Cell : tbl n_score_count_api_Cell = some c_score_count_api_Cell := by kernel_rfl
theorem t_score_says : tbl n_score_says = some c_score_says := by kernel_rfl
theorem t_flotsamref32_cells : tbl n_flotsamref32_cells = some c_flotsamref32_cells := by kernel_rfl
theorem t_flotsamref30_Sum : tbl n_flotsamref30_Sum = some c_flotsamref30_Sum := by kernel_rfl
theorem t_site_words : tbl n_site_words = some c_site_words := by kernel_rfl
theorem t_site_may : tbl n_site_may = some c_site_may := by kernel_rfl
theorem t_site_Word : tbl n_site_Word = some c_site_Word := by kernel_rfl
theorem t_flotsamref25_may : tbl n_flotsamref25_may = some c_flotsamref25_may := by kernel_rfl
theorem t_flotsamref25_Word : tbl n_flotsamref25_Word = some c_flotsamref25_Word := by kernel_rfl
theorem t_score_odd_1 : tbl n_score_odd_1 = some c_score_odd_1 := by kernel_rfl
theorem t_cell_Right : tbl n_cell_Right = some c_cell_Right := by kernel_rfl
theorem t_slices_IndexFunc_api_Cell_api_Cell : tbl n_slices_IndexFunc_api_Cell_api_Cell = some c_slices_IndexFunc_api_Cell_api_Cell := by kernel_rfl
theorem t_slices_Index_api_Site_api_Site : tbl n_slices_Index_api_Site_api_Site = some c_slices_Index_api_Site_api_Site := by kernel_rfl
theorem t_score_says_1 : tbl n_score_says_1 = some c_score_says_1 := by kernel_rfl
theorem t_flotsamref30_Right : tbl n_flotsamref30_Right = some c_flotsamref30_Right := by kernel_rfl
theorem t_cell_witness : tbl n_cell_witness = some c_cell_witness := by kernel_rfl
theorem t_cell_limit : tbl n_cell_limit = some c_cell_limit := by kernel_rfl

/-- The functions that are taken as given. -/
def noExt : Ext := fun k => if k = n_strings_Join then some (xJoin) else if k = n_strings_Fields then some (xFields) else if k = n_pstrings_Builder_WriteString then some (xWriteString bT bE) else if k = n_pstrings_Builder_String then some (xString bT bE) else none

theorem lt_flotsamlaw45_GateTells : n_flotsamlaw45_GateTells < yBase := Nat.le_of_ble_eq_true rfl
theorem lt_flotsamlaw45_GateTurns : n_flotsamlaw45_GateTurns < yBase := Nat.le_of_ble_eq_true rfl
theorem lt_flotsamlaw32_Few : n_flotsamlaw32_Few < yBase := Nat.le_of_ble_eq_true rfl
theorem lt_flotsamlaw45_knows : n_flotsamlaw45_knows < yBase := Nat.le_of_ble_eq_true rfl
theorem lt_gate_Compare : n_gate_Compare < yBase := Nat.le_of_ble_eq_true rfl
theorem lt_flotsamref45_Compare : n_flotsamref45_Compare < yBase := Nat.le_of_ble_eq_true rfl
theorem lt_flotsamref45_Same : n_flotsamref45_Same < yBase := Nat.le_of_ble_eq_true rfl
theorem lt_flotsamlaw45_back : n_flotsamlaw45_back < yBase := Nat.le_of_ble_eq_true rfl
theorem lt_gate_Opens : n_gate_Opens < yBase := Nat.le_of_ble_eq_true rfl
theorem lt_flotsamref45_Opens : n_flotsamref45_Opens < yBase := Nat.le_of_ble_eq_true rfl
theorem lt_gate_Show : n_gate_Show < yBase := Nat.le_of_ble_eq_true rfl
theorem lt_flotsamlaw45_notes : n_flotsamlaw45_notes < yBase := Nat.le_of_ble_eq_true rfl
theorem lt_flotsamref45_Show : n_flotsamref45_Show < yBase := Nat.le_of_ble_eq_true rfl
theorem lt_score_Right : n_score_Right < yBase := Nat.le_of_ble_eq_true rfl
theorem lt_flotsamlaw45_count : n_flotsamlaw45_count < yBase := Nat.le_of_ble_eq_true rfl
theorem lt_score_Score : n_score_Score < yBase := Nat.le_of_ble_eq_true rfl
theorem lt_flotsamlaw32_One : n_flotsamlaw32_One < yBase := Nat.le_of_ble_eq_true rfl
theorem lt_flotsamlaw45_other : n_flotsamlaw45_other < yBase := Nat.le_of_ble_eq_true rfl
theorem lt_gate_rows : n_gate_rows < yBase := Nat.le_of_ble_eq_true rfl
theorem lt_gate_kind : n_gate_kind < yBase := Nat.le_of_ble_eq_true rfl
theorem lt_flotsamref32_Right : n_flotsamref32_Right < yBase := Nat.le_of_ble_eq_true rfl
theorem lt_flotsamref45_row : n_flotsamref45_row < yBase := Nat.le_of_ble_eq_true rfl
theorem lt_flotsamref45_kind : n_flotsamref45_kind < yBase := Nat.le_of_ble_eq_true rfl
theorem lt_site_Name : n_site_Name < yBase := Nat.le_of_ble_eq_true rfl
theorem lt_gate_word : n_gate_word < yBase := Nat.le_of_ble_eq_true rfl
theorem lt_num_Digits : n_num_Digits < yBase := Nat.le_of_ble_eq_true rfl
theorem lt_pstrings_Builder_WriteString : n_pstrings_Builder_WriteString < yBase := Nat.le_of_ble_eq_true rfl
theorem lt_strings_Join : n_strings_Join < yBase := Nat.le_of_ble_eq_true rfl
theorem lt_pstrings_Builder_String : n_pstrings_Builder_String < yBase := Nat.le_of_ble_eq_true rfl
theorem lt_flotsamref25_Name : n_flotsamref25_Name < yBase := Nat.le_of_ble_eq_true rfl
theorem lt_flotsamref01_Digits : n_flotsamref01_Digits < yBase := Nat.le_of_ble_eq_true rfl
theorem lt_score_odd : n_score_odd < yBase := Nat.le_of_ble_eq_true rfl
theorem lt_cell_Sum : n_cell_Sum < yBase := Nat.le_of_ble_eq_true rfl
theorem lt_slices_ContainsFunc_api_Cell_api_Cell : n_slices_ContainsFunc_api_Cell_api_Cell < yBase := Nat.le_of_ble_eq_true rfl
theorem lt_slices_Contains_api_Site_api_Site : n_slices_Contains_api_Site_api_Site < yBase := Nat.le_of_ble_eq_true rfl
theorem lt_score_count_api_Cell : n_score_count_api_Cell < yBase := Nat.le_of_ble_eq_true rfl
theorem lt_score_says : n_score_says < yBase := Nat.le_of_ble_eq_true rfl
theorem lt_flotsamref32_cells : n_flotsamref32_cells < yBase := Nat.le_of_ble_eq_true rfl
theorem lt_flotsamref30_Sum : n_flotsamref30_Sum < yBase := Nat.le_of_ble_eq_true rfl
theorem lt_site_words : n_site_words < yBase := Nat.le_of_ble_eq_true rfl
theorem lt_site_may : n_site_may < yBase := Nat.le_of_ble_eq_true rfl
theorem lt_site_Word : n_site_Word < yBase := Nat.le_of_ble_eq_true rfl
theorem lt_flotsamref25_may : n_flotsamref25_may < yBase := Nat.le_of_ble_eq_true rfl
theorem lt_flotsamref25_Word : n_flotsamref25_Word < yBase := Nat.le_of_ble_eq_true rfl
theorem lt_score_odd_1 : n_score_odd_1 < yBase := Nat.le_of_ble_eq_true rfl
theorem lt_cell_Right : n_cell_Right < yBase := Nat.le_of_ble_eq_true rfl
theorem lt_slices_IndexFunc_api_Cell_api_Cell : n_slices_IndexFunc_api_Cell_api_Cell < yBase := Nat.le_of_ble_eq_true rfl
theorem lt_slices_Index_api_Site_api_Site : n_slices_Index_api_Site_api_Site < yBase := Nat.le_of_ble_eq_true rfl
theorem lt_score_says_1 : n_score_says_1 < yBase := Nat.le_of_ble_eq_true rfl
theorem lt_flotsamref30_Right : n_flotsamref30_Right < yBase := Nat.le_of_ble_eq_true rfl
theorem lt_strings_Fields : n_strings_Fields < yBase := Nat.le_of_ble_eq_true rfl
theorem lt_cell_witness : n_cell_witness < yBase := Nat.le_of_ble_eq_true rfl
theorem lt_cell_limit : n_cell_limit < yBase := Nat.le_of_ble_eq_true rfl

end Go.AM
