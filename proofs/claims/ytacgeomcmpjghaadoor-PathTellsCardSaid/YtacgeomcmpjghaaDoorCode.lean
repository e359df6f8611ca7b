/-
  The abstract code of the functions, printed by a program (gen.py) out of the loaded program, and each function's place in the table.
-/
import Derived.Test.YtacgeomcmpjghaaDoorXlib
namespace Go.AM

def n_flotsamlaw08_PathTells : Nat := 6
def n_flotsamlaw08_PathBack : Nat := 7
def n_flotsamlaw08_knows : Nat := 37
def n_path_Split : Nat := 38
def n_flotsamref08_Split : Nat := 39
def n_path_Parent : Nat := 40
def n_flotsamref08_Parent : Nat := 41
def n_flotsamlaw08_Texts : Nat := 42
def n_flotsamlaw08_num : Nat := 43
def n_path_Join : Nat := 44
def n_flotsamref08_Join : Nat := 45
def n_path_Under : Nat := 46
def n_flotsamref08_Under : Nat := 47
def n_flotsamref07_Name : Nat := 48
def n_layout_Name : Nat := 75
def n_strings_Join : Nat := 101
def n_strings_CutPrefix : Nat := 104
def n_strings_Split : Nat := 105
def n_slices_ContainsFunc_string_string : Nat := 106
def n_path_Split_1 : Nat := 107
def n_slices_Equal_string_string : Nat := 108
def n_strings_Trim : Nat := 135
def n_internal_stringslite_CutPrefix : Nat := 150
def n_slices_IndexFunc_string_string : Nat := 152
def n_strings_trimLeftByte : Nat := 164
def n_strings_trimRightByte : Nat := 165
def n_strings_makeASCIISet : Nat := 166
def n_strings_trimLeftASCII : Nat := 167
def n_strings_trimRightASCII : Nat := 168
def n_strings_trimLeftUnicode : Nat := 169
def n_strings_trimRightUnicode : Nat := 170
def n_internal_stringslite_HasPrefix : Nat := 176
def n_pstrings_asciiSet_contains : Nat := 193
def n_unicode_utf8_DecodeRuneInString : Nat := 194
def n_strings_ContainsRune : Nat := 195
def n_unicode_utf8_DecodeLastRuneInString : Nat := 196
def n_unicode_utf8_decodeRuneInStringSlow : Nat := 209
def n_strings_IndexRune : Nat := 210
def n_unicode_utf8_RuneStart : Nat := 211


-- flotsam/flotsamlaw08.PathTells
def b_flotsamlaw08_PathTells_0 : AC :=
  .seq (.seq (.reg [⟨some 32, none, .mv (.t 7)⟩, ⟨some 33, none, .mv (.t 2)⟩, ⟨some 34, none, .len false (.t 33)⟩, ⟨some 35, none, .ic .lss (.t 32) (.t 34)⟩])
    (.cond (.t 35)
      (.skip)
      (.exit 0)))
  (.seq (.block 1 (.seq (.reg [⟨some 38, none, .mv (.t 2)⟩, ⟨some 39, none, .mv (.t 7)⟩, ⟨some 40, none, .ixa 1 none (.t 38) (.t 39)⟩, ⟨some 41, none, .ld none (.t 40)⟩, ⟨some 42, none, .len true (.t 41)⟩, ⟨some 43, none, .ic .gtr (.t 42) (.c (.int .i64 100))⟩])
      (.cond (.t 43)
        (.seq (.reg [⟨some 6, none, .tk (.c (.bool true))⟩])
          (.ret))
        (.skip))))
  (.reg [⟨some 36, none, .mv (.t 7)⟩, ⟨some 37, none, .ia .add .i64 (.t 36) (.c (.int .i64 1))⟩, ⟨some 7, none, .tk (.t 37)⟩]))

def l_flotsamlaw08_PathTells_0 : AC :=
  .loop [0, 1, 2, 7] b_flotsamlaw08_PathTells_0

def r_flotsamlaw08_PathTells_0 : AC :=
  .seq (.reg [⟨some 45, none, .mv (.t 0)⟩, ⟨some 46, none, .callc n_path_Split [(.t 45)]⟩, ⟨some 44, none, .mv (.t 46)⟩, ⟨some 47, none, .ext (.t 44) 0⟩, ⟨some 48, none, .ext (.t 44) 1⟩, ⟨some 8, none, .tk (.t 47)⟩, ⟨some 9, none, .tk (.t 48)⟩])
  (.seq (.reg [⟨some 50, none, .mv (.t 0)⟩, ⟨some 51, none, .callc n_flotsamref08_Split [(.t 50)]⟩, ⟨some 49, none, .mv (.t 51)⟩, ⟨some 52, none, .ext (.t 49) 0⟩, ⟨some 53, none, .ext (.t 49) 1⟩, ⟨some 10, none, .tk (.t 52)⟩, ⟨some 11, none, .tk (.t 53)⟩])
  (.seq (.reg [⟨some 55, none, .mv (.t 0)⟩, ⟨some 56, none, .callc n_path_Parent [(.t 55)]⟩, ⟨some 54, none, .mv (.t 56)⟩, ⟨some 57, none, .ext (.t 54) 0⟩, ⟨some 58, none, .ext (.t 54) 1⟩, ⟨some 59, none, .ext (.t 54) 2⟩, ⟨some 12, none, .tk (.t 57)⟩, ⟨some 13, none, .tk (.t 58)⟩, ⟨some 14, none, .tk (.t 59)⟩])
  (.seq (.reg [⟨some 61, none, .mv (.t 0)⟩, ⟨some 62, none, .callc n_flotsamref08_Parent [(.t 61)]⟩, ⟨some 60, none, .mv (.t 62)⟩, ⟨some 63, none, .ext (.t 60) 0⟩, ⟨some 64, none, .ext (.t 60) 1⟩, ⟨some 65, none, .ext (.t 60) 2⟩, ⟨some 15, none, .tk (.t 63)⟩, ⟨some 16, none, .tk (.t 64)⟩, ⟨some 17, none, .tk (.t 65)⟩])
  (.seq (.reg [⟨some 66, none, .mv (.t 8)⟩, ⟨some 67, none, .mv (.t 10)⟩, ⟨some 68, none, .callc n_flotsamlaw08_Texts [(.t 66), (.t 67)]⟩, ⟨some 69, none, .mv (.t 68)⟩, ⟨some 70, (some (69, true)), .mv (.t 9)⟩, ⟨some 71, (some (69, true)), .callc n_flotsamlaw08_num [(.t 70)]⟩, ⟨some 72, (some (69, true)), .mv (.t 11)⟩, ⟨some 73, (some (69, true)), .callc n_flotsamlaw08_num [(.t 72)]⟩, ⟨some 74, (some (69, true)), .ic .eql (.t 71) (.t 73)⟩, ⟨some 75, none, .pick (.t 69) (.t 74) (.c (.bool false))⟩, ⟨some 76, none, .mv (.t 75)⟩, ⟨some 77, (some (76, true)), .mv (.t 12)⟩, ⟨some 78, (some (76, true)), .mv (.t 15)⟩, ⟨some 79, (some (76, true)), .sop .eql (.t 77) (.t 78)⟩, ⟨some 80, none, .pick (.t 76) (.t 79) (.c (.bool false))⟩, ⟨some 81, none, .mv (.t 80)⟩, ⟨some 82, (some (81, true)), .mv (.t 13)⟩, ⟨some 83, (some (81, true)), .mv (.t 16)⟩, ⟨some 84, (some (81, true)), .sop .eql (.t 82) (.t 83)⟩, ⟨some 85, none, .pick (.t 81) (.t 84) (.c (.bool false))⟩, ⟨some 86, none, .mv (.t 85)⟩, ⟨some 87, (some (86, true)), .mv (.t 14)⟩, ⟨some 88, (some (86, true)), .callc n_flotsamlaw08_num [(.t 87)]⟩, ⟨some 89, (some (86, true)), .mv (.t 17)⟩, ⟨some 90, (some (86, true)), .callc n_flotsamlaw08_num [(.t 89)]⟩, ⟨some 91, (some (86, true)), .ic .eql (.t 88) (.t 90)⟩, ⟨some 92, none, .pick (.t 86) (.t 91) (.c (.bool false))⟩, ⟨some 93, none, .mv (.t 92)⟩, ⟨some 94, (some (93, true)), .mv (.t 2)⟩, ⟨some 95, (some (93, true)), .callc n_path_Join [(.t 94)]⟩, ⟨some 96, (some (93, true)), .mv (.t 2)⟩, ⟨some 97, (some (93, true)), .callc n_flotsamref08_Join [(.t 96)]⟩, ⟨some 98, (some (93, true)), .sop .eql (.t 95) (.t 97)⟩, ⟨some 99, none, .pick (.t 93) (.t 98) (.c (.bool false))⟩, ⟨some 100, none, .mv (.t 99)⟩, ⟨some 101, (some (100, true)), .mv (.t 0)⟩, ⟨some 102, (some (100, true)), .mv (.t 1)⟩, ⟨some 103, (some (100, true)), .callc n_path_Under [(.t 101), (.t 102)]⟩, ⟨some 104, (some (100, true)), .mv (.t 0)⟩, ⟨some 105, (some (100, true)), .mv (.t 1)⟩, ⟨some 106, (some (100, true)), .callc n_flotsamref08_Under [(.t 104), (.t 105)]⟩, ⟨some 107, (some (100, true)), .eqb false (.t 103) (.t 106)⟩, ⟨some 108, none, .pick (.t 100) (.t 107) (.c (.bool false))⟩, ⟨some 109, none, .mv (.t 108)⟩, ⟨some 110, (some (109, true)), .callc n_flotsamlaw08_knows []⟩, ⟨some 111, none, .pick (.t 109) (.t 110) (.c (.bool false))⟩, ⟨some 6, none, .tk (.t 111)⟩])
  (.ret)))))

def c_flotsamlaw08_PathTells : AFunc :=
  { np := 3, res := [.t 6], body := (
    .seq (.reg [⟨some 6, none, .tk (.c (.bool false))⟩])
    (.seq (.seq (.reg [⟨some 18, none, .mv (.t 0)⟩, ⟨some 19, none, .len true (.t 18)⟩, ⟨some 20, none, .ic .gtr (.t 19) (.c (.int .i64 200))⟩, ⟨some 21, none, .mv (.t 20)⟩, ⟨some 22, (some (21, false)), .mv (.t 1)⟩, ⟨some 23, (some (21, false)), .len true (.t 22)⟩, ⟨some 24, (some (21, false)), .ic .gtr (.t 23) (.c (.int .i64 200))⟩, ⟨some 25, none, .pick (.t 21) (.c (.bool true)) (.t 24)⟩, ⟨some 26, none, .mv (.t 25)⟩, ⟨some 27, (some (26, false)), .mv (.t 2)⟩, ⟨some 28, (some (26, false)), .len false (.t 27)⟩, ⟨some 29, (some (26, false)), .ic .gtr (.t 28) (.c (.int .i64 20))⟩, ⟨some 30, none, .pick (.t 26) (.c (.bool true)) (.t 29)⟩])
      (.cond (.t 30)
        (.seq (.reg [⟨some 31, none, .callc n_flotsamlaw08_knows []⟩, ⟨some 6, none, .tk (.t 31)⟩])
          (.ret))
        (.skip)))
    (.seq (.seq (.reg [⟨some 7, none, .tk (.c (.int .i64 0))⟩])
      (.block 0 (l_flotsamlaw08_PathTells_0))) r_flotsamlaw08_PathTells_0))) }

-- flotsam/flotsamlaw08.PathBack
def b_flotsamlaw08_PathBack_0 : AC :=
  .seq (.seq (.reg [⟨some 30, none, .mv (.t 6)⟩, ⟨some 31, none, .mv (.t 1)⟩, ⟨some 32, none, .len false (.t 31)⟩, ⟨some 33, none, .ic .lss (.t 30) (.t 32)⟩])
    (.cond (.t 33)
      (.skip)
      (.exit 0)))
  (.seq (.block 1 (.seq (.reg [⟨some 36, none, .mv (.t 5)⟩, ⟨some 37, none, .mv (.t 36)⟩, ⟨some 38, (some (37, true)), .mv (.t 1)⟩, ⟨some 39, (some (37, true)), .mv (.t 6)⟩, ⟨some 40, (some (37, true)), .ixa 1 none (.t 38) (.t 39)⟩, ⟨some 41, (some (37, true)), .ld none (.t 40)⟩, ⟨some 42, (some (37, true)), .callc n_flotsamref07_Name [(.t 41)]⟩, ⟨some 43, none, .pick (.t 37) (.t 42) (.c (.bool false))⟩, ⟨some 5, none, .tk (.t 43)⟩])
      (.seq (.reg [⟨some 44, none, .mv (.t 1)⟩, ⟨some 45, none, .mv (.t 6)⟩, ⟨some 46, none, .ixa 1 none (.t 44) (.t 45)⟩, ⟨some 47, none, .ld none (.t 46)⟩, ⟨some 48, none, .len true (.t 47)⟩, ⟨some 49, none, .ic .gtr (.t 48) (.c (.int .i64 100))⟩])
      (.cond (.t 49)
        (.seq (.reg [⟨some 4, none, .tk (.c (.bool true))⟩])
          (.ret))
        (.skip)))))
  (.reg [⟨some 34, none, .mv (.t 6)⟩, ⟨some 35, none, .ia .add .i64 (.t 34) (.c (.int .i64 1))⟩, ⟨some 6, none, .tk (.t 35)⟩]))

def l_flotsamlaw08_PathBack_0 : AC :=
  .loop [0, 1, 5, 6] b_flotsamlaw08_PathBack_0

def r_flotsamlaw08_PathBack_0 : AC :=
  .seq (.reg [⟨some 51, none, .mv (.t 1)⟩, ⟨some 52, none, .callc n_path_Join [(.t 51)]⟩, ⟨some 53, none, .callc n_path_Split [(.t 52)]⟩, ⟨some 50, none, .mv (.t 53)⟩, ⟨some 54, none, .ext (.t 50) 0⟩, ⟨some 55, none, .ext (.t 50) 1⟩, ⟨some 7, none, .tk (.t 54)⟩, ⟨some 8, none, .tk (.t 55)⟩])
  (.seq (.seq (.reg [⟨some 56, none, .mv (.t 5)⟩, ⟨some 57, none, .mv (.t 56)⟩, ⟨some 58, (some (57, true)), .mv (.t 8)⟩, ⟨some 59, (some (57, true)), .callc n_flotsamlaw08_num [(.t 58)]⟩, ⟨some 60, (some (57, true)), .ic .neq (.t 59) (.c (.int .i64 0))⟩, ⟨some 61, (some (57, true)), .mv (.t 60)⟩, ⟨some 62, (some (61, false)), .mv (.t 1)⟩, ⟨some 63, (some (61, false)), .mv (.t 7)⟩, ⟨some 64, (some (61, false)), .callc n_flotsamlaw08_Texts [(.t 62), (.t 63)]⟩, ⟨some 65, (some (61, false)), .notb (.t 64)⟩, ⟨some 66, (some (57, true)), .pick (.t 61) (.c (.bool true)) (.t 65)⟩, ⟨some 67, none, .pick (.t 57) (.t 66) (.c (.bool false))⟩])
    (.cond (.t 67)
      (.seq (.reg [⟨some 4, none, .tk (.c (.bool false))⟩])
        (.ret))
      (.skip)))
  (.seq (.reg [⟨some 69, none, .mv (.t 0)⟩, ⟨some 70, none, .callc n_path_Split [(.t 69)]⟩, ⟨some 68, none, .mv (.t 70)⟩, ⟨some 71, none, .ext (.t 68) 0⟩, ⟨some 72, none, .ext (.t 68) 1⟩, ⟨some 9, none, .tk (.t 71)⟩, ⟨some 10, none, .tk (.t 72)⟩])
  (.seq (.seq (.reg [⟨some 73, none, .mv (.t 10)⟩, ⟨some 74, none, .callc n_flotsamlaw08_num [(.t 73)]⟩, ⟨some 75, none, .ic .neq (.t 74) (.c (.int .i64 0))⟩])
    (.cond (.t 75)
      (.seq (.reg [⟨some 76, none, .mv (.t 9)⟩, ⟨some 77, none, .len false (.t 76)⟩, ⟨some 78, none, .ic .eql (.t 77) (.c (.int .i64 0))⟩, ⟨some 79, none, .mv (.t 78)⟩, ⟨some 80, (some (79, true)), .mv (.t 0)⟩, ⟨some 81, (some (79, true)), .mv (.t 0)⟩, ⟨some 82, (some (79, true)), .callc n_path_Under [(.t 80), (.t 81)]⟩, ⟨some 83, (some (79, true)), .notb (.t 82)⟩, ⟨some 84, none, .pick (.t 79) (.t 83) (.c (.bool false))⟩, ⟨some 4, none, .tk (.t 84)⟩])
        (.ret))
      (.skip)))
  (.seq (.reg [⟨some 86, none, .mv (.t 0)⟩, ⟨some 87, none, .callc n_path_Parent [(.t 86)]⟩, ⟨some 85, none, .mv (.t 87)⟩, ⟨some 88, none, .ext (.t 85) 0⟩, ⟨some 89, none, .ext (.t 85) 1⟩, ⟨some 90, none, .ext (.t 85) 2⟩, ⟨some 11, none, .tk (.t 88)⟩, ⟨some 12, none, .tk (.t 89)⟩, ⟨some 13, none, .tk (.t 90)⟩])
  (.seq (.seq (.reg [⟨some 91, none, .mv (.t 9)⟩, ⟨some 92, none, .len false (.t 91)⟩, ⟨some 93, none, .ic .eql (.t 92) (.c (.int .i64 0))⟩])
    (.cond (.t 93)
      (.seq (.reg [⟨some 94, none, .mv (.t 13)⟩, ⟨some 95, none, .callc n_flotsamlaw08_num [(.t 94)]⟩, ⟨some 96, none, .callc n_flotsamlaw08_num [(.c (.int .i64 1))]⟩, ⟨some 97, none, .ic .eql (.t 95) (.t 96)⟩, ⟨some 98, none, .mv (.t 97)⟩, ⟨some 99, (some (98, true)), .mv (.t 0)⟩, ⟨some 100, (some (98, true)), .sop .eql (.t 99) (.c (.str [47]))⟩, ⟨some 101, none, .pick (.t 98) (.t 100) (.c (.bool false))⟩, ⟨some 4, none, .tk (.t 101)⟩])
        (.ret))
      (.skip)))
  (.seq (.reg [⟨some 102, none, .mv (.t 9)⟩, ⟨some 103, none, .callc n_path_Join [(.t 102)]⟩, ⟨some 104, none, .mv (.t 0)⟩, ⟨some 105, none, .sop .eql (.t 103) (.t 104)⟩, ⟨some 106, none, .mv (.t 105)⟩, ⟨some 107, (some (106, true)), .mv (.t 13)⟩, ⟨some 108, (some (106, true)), .callc n_flotsamlaw08_num [(.t 107)]⟩, ⟨some 109, (some (106, true)), .ic .eql (.t 108) (.c (.int .i64 0))⟩, ⟨some 110, none, .pick (.t 106) (.t 109) (.c (.bool false))⟩, ⟨some 111, none, .mv (.t 110)⟩, ⟨some 112, (some (111, true)), .mv (.t 0)⟩, ⟨some 113, (some (111, true)), .mv (.t 11)⟩, ⟨some 114, (some (111, true)), .callc n_path_Under [(.t 112), (.t 113)]⟩, ⟨some 115, none, .pick (.t 111) (.t 114) (.c (.bool false))⟩, ⟨some 116, none, .mv (.t 115)⟩, ⟨some 117, (some (116, true)), .mv (.t 11)⟩, ⟨some 118, (some (116, true)), .mv (.t 0)⟩, ⟨some 119, (some (116, true)), .callc n_path_Under [(.t 117), (.t 118)]⟩, ⟨some 120, (some (116, true)), .notb (.t 119)⟩, ⟨some 121, none, .pick (.t 116) (.t 120) (.c (.bool false))⟩, ⟨some 122, none, .mv (.t 121)⟩, ⟨some 123, (some (122, true)), .mv (.t 0)⟩, ⟨some 124, (some (122, true)), .mv (.t 0)⟩, ⟨some 125, (some (122, true)), .callc n_path_Under [(.t 123), (.t 124)]⟩, ⟨some 126, none, .pick (.t 122) (.t 125) (.c (.bool false))⟩, ⟨some 127, none, .mv (.t 126)⟩, ⟨some 128, (some (127, true)), .mv (.t 12)⟩, ⟨some 129, (some (127, true)), .mv (.t 9)⟩, ⟨some 130, (some (127, true)), .mv (.t 9)⟩, ⟨some 131, (some (127, true)), .len false (.t 130)⟩, ⟨some 132, (some (127, true)), .ia .sub .i64 (.t 131) (.c (.int .i64 1))⟩, ⟨some 133, (some (127, true)), .ixa 1 none (.t 129) (.t 132)⟩, ⟨some 134, (some (127, true)), .ld none (.t 133)⟩, ⟨some 135, (some (127, true)), .sop .eql (.t 128) (.t 134)⟩, ⟨some 136, none, .pick (.t 127) (.t 135) (.c (.bool false))⟩, ⟨some 4, none, .tk (.t 136)⟩])
  (.ret)))))))

def c_flotsamlaw08_PathBack : AFunc :=
  { np := 2, res := [.t 4], body := (
    .seq (.reg [⟨some 4, none, .tk (.c (.bool false))⟩])
    (.seq (.seq (.reg [⟨some 14, none, .mv (.t 0)⟩, ⟨some 15, none, .len true (.t 14)⟩, ⟨some 16, none, .ic .gtr (.t 15) (.c (.int .i64 200))⟩, ⟨some 17, none, .mv (.t 16)⟩, ⟨some 18, (some (17, false)), .mv (.t 1)⟩, ⟨some 19, (some (17, false)), .len false (.t 18)⟩, ⟨some 20, (some (17, false)), .ic .gtr (.t 19) (.c (.int .i64 20))⟩, ⟨some 21, none, .pick (.t 17) (.c (.bool true)) (.t 20)⟩, ⟨some 22, none, .mv (.t 21)⟩, ⟨some 23, (some (22, false)), .callc n_flotsamlaw08_knows []⟩, ⟨some 24, (some (22, false)), .notb (.t 23)⟩, ⟨some 25, none, .pick (.t 22) (.c (.bool true)) (.t 24)⟩])
      (.cond (.t 25)
        (.seq (.reg [⟨some 26, none, .callc n_flotsamlaw08_knows []⟩, ⟨some 4, none, .tk (.t 26)⟩])
          (.ret))
        (.skip)))
    (.seq (.reg [⟨some 27, none, .mv (.t 1)⟩, ⟨some 28, none, .len false (.t 27)⟩, ⟨some 29, none, .ic .leq (.t 28) (.c (.int .i64 4))⟩, ⟨some 5, none, .tk (.t 29)⟩])
    (.seq (.seq (.reg [⟨some 6, none, .tk (.c (.int .i64 0))⟩])
      (.block 0 (l_flotsamlaw08_PathBack_0))) r_flotsamlaw08_PathBack_0)))) }

-- flotsam/flotsamlaw08.knows
def c_flotsamlaw08_knows : AFunc :=
  { np := 0, res := [.t 0], body := (
    .seq (.reg [⟨some 0, none, .tk (.c (.bool false))⟩])
    (.seq (.reg [⟨some 7, none, .callc n_path_Parent [(.c (.str [47, 97, 47, 98]))]⟩, ⟨some 6, none, .mv (.t 7)⟩, ⟨some 8, none, .ext (.t 6) 0⟩, ⟨some 9, none, .ext (.t 6) 1⟩, ⟨some 10, none, .ext (.t 6) 2⟩, ⟨some 1, none, .tk (.t 8)⟩, ⟨some 2, none, .tk (.t 9)⟩, ⟨some 3, none, .tk (.t 10)⟩])
    (.seq (.reg [⟨some 12, none, .callc n_path_Split [(.c (.str [47, 97, 47, 98]))]⟩, ⟨some 11, none, .mv (.t 12)⟩, ⟨some 13, none, .ext (.t 11) 0⟩, ⟨some 14, none, .ext (.t 11) 1⟩, ⟨some 4, none, .tk (.t 13)⟩, ⟨some 5, none, .tk (.t 14)⟩])
    (.seq (.reg [⟨some 15, none, .mv (.t 3)⟩, ⟨some 16, none, .callc n_flotsamlaw08_num [(.t 15)]⟩, ⟨some 17, none, .mv (.t 5)⟩, ⟨some 18, none, .callc n_flotsamlaw08_num [(.t 17)]⟩, ⟨some 19, none, .ia .add .i64 (.t 16) (.t 18)⟩, ⟨some 20, none, .ic .eql (.t 19) (.c (.int .i64 0))⟩, ⟨some 21, none, .mv (.t 20)⟩, ⟨some 22, (some (21, true)), .mv (.t 1)⟩, ⟨some 23, (some (21, true)), .sop .eql (.t 22) (.c (.str [47, 97]))⟩, ⟨some 24, none, .pick (.t 21) (.t 23) (.c (.bool false))⟩, ⟨some 25, none, .mv (.t 24)⟩, ⟨some 26, (some (25, true)), .mv (.t 2)⟩, ⟨some 27, (some (25, true)), .sop .eql (.t 26) (.c (.str [98]))⟩, ⟨some 28, none, .pick (.t 25) (.t 27) (.c (.bool false))⟩, ⟨some 29, none, .mv (.t 28)⟩, ⟨some 30, (some (29, true)), .mv (.t 4)⟩, ⟨some 31, (some (29, true)), .len false (.t 30)⟩, ⟨some 32, (some (29, true)), .ic .eql (.t 31) (.c (.int .i64 2))⟩, ⟨some 33, none, .pick (.t 29) (.t 32) (.c (.bool false))⟩, ⟨some 34, none, .mv (.t 33)⟩, ⟨some 35, (some (34, true)), .callc n_path_Join [(.c (.own 1 []))]⟩, ⟨some 36, (some (34, true)), .sop .eql (.t 35) (.c (.str [47]))⟩, ⟨some 37, none, .pick (.t 34) (.t 36) (.c (.bool false))⟩, ⟨some 38, none, .mv (.t 37)⟩, ⟨some 39, (some (38, true)), .callc n_path_Under [(.c (.str [47, 97, 47, 98])), (.c (.str [47]))]⟩, ⟨some 40, none, .pick (.t 38) (.t 39) (.c (.bool false))⟩, ⟨some 0, none, .tk (.t 40)⟩])
    (.ret))))) }

-- flotsam/path.Split
def c_path_Split : AFunc :=
  { np := 1, res := [.t 2, .t 3], body := (
    .seq (.reg [⟨some 2, none, .tk (.c (.own 1 []))⟩, ⟨some 3, none, .tk (.c (.int .i64 0))⟩])
    (.seq (.seq (.reg [⟨some 7, none, .mv (.t 0)⟩, ⟨some 8, none, .sop .eql (.t 7) (.c (.str [47]))⟩])
      (.cond (.t 8)
        (.seq (.reg [⟨some 2, none, .tk (.c (.own 1 []))⟩, ⟨some 3, none, .tk (.c (.int .i64 0))⟩])
          (.ret))
        (.skip)))
    (.seq (.reg [⟨some 10, none, .mv (.t 0)⟩, ⟨some 11, none, .callc n_strings_CutPrefix [(.t 10), (.c (.str [47]))]⟩, ⟨some 9, none, .mv (.t 11)⟩, ⟨some 12, none, .ext (.t 9) 0⟩, ⟨some 13, none, .ext (.t 9) 1⟩, ⟨some 4, none, .tk (.t 12)⟩, ⟨some 5, none, .tk (.t 13)⟩])
    (.seq (.reg [⟨some 14, none, .mv (.t 4)⟩, ⟨some 15, none, .callc n_strings_Split [(.t 14), (.c (.str [47]))]⟩, ⟨some 6, none, .tk (.t 15)⟩])
    (.seq (.seq (.reg [⟨some 16, none, .mv (.t 5)⟩, ⟨some 17, none, .notb (.t 16)⟩, ⟨some 18, none, .mv (.t 17)⟩, ⟨some 19, (some (18, false)), .mv (.t 6)⟩, ⟨some 20, (some (18, false)), .len false (.t 19)⟩, ⟨some 21, (some (18, false)), .ic .gtr (.t 20) (.c (.int .i64 4))⟩, ⟨some 22, none, .pick (.t 18) (.c (.bool true)) (.t 21)⟩, ⟨some 23, none, .mv (.t 22)⟩, ⟨some 24, (some (23, false)), .mv (.t 6)⟩, ⟨some 25, (some (23, false)), .callc n_slices_ContainsFunc_string_string [(.t 24), (.c (.fn (.func n_path_Split_1) [] []))]⟩, ⟨some 26, none, .pick (.t 23) (.c (.bool true)) (.t 25)⟩])
      (.cond (.t 26)
        (.seq (.reg [⟨some 2, none, .tk (.c (.own 1 []))⟩, ⟨some 3, none, .tk (.c (.int .i64 9))⟩])
          (.ret))
        (.skip)))
    (.seq (.reg [⟨some 27, none, .tk (.t 6)⟩, ⟨some 2, none, .tk (.t 27)⟩, ⟨some 3, none, .tk (.c (.int .i64 0))⟩])
    (.ret))))))) }

-- flotsam/flotsamref08.Split
def b_flotsamref08_Split_0 : AC :=
  .seq (.seq (.reg [⟨some 19, none, .mv (.t 6)⟩, ⟨some 20, none, .mv (.t 0)⟩, ⟨some 21, none, .len true (.t 20)⟩, ⟨some 22, none, .ic .lss (.t 19) (.t 21)⟩, ⟨some 23, none, .mv (.t 22)⟩, ⟨some 24, (some (23, true)), .mv (.t 0)⟩, ⟨some 25, (some (23, true)), .mv (.t 6)⟩, ⟨some 26, (some (23, true)), .ixs (.t 24) (.t 25)⟩, ⟨some 27, (some (23, true)), .ic .neq (.t 26) (.c (.int .u8 47))⟩, ⟨some 28, none, .pick (.t 23) (.t 27) (.c (.bool false))⟩])
    (.cond (.t 28)
      (.skip)
      (.exit 2)))
  (.block 3 (.reg [⟨some 29, none, .mv (.t 6)⟩, ⟨some 30, none, .ia .add .i64 (.t 29) (.c (.int .i64 1))⟩, ⟨some 6, none, .tk (.t 30)⟩]))

def l_flotsamref08_Split_0 : AC :=
  .loop [0, 4, 5, 6] b_flotsamref08_Split_0

def r_flotsamref08_Split_0 : AC :=
  .seq (.seq (.reg [⟨some 31, none, .mv (.t 0)⟩, ⟨some 32, none, .mv (.t 5)⟩, ⟨some 33, none, .ia .add .i64 (.t 32) (.c (.int .i64 1))⟩, ⟨some 34, none, .mv (.t 6)⟩, ⟨some 35, none, .slc (.t 31) (some (.t 33)) (some (.t 34))⟩, ⟨some 36, none, .callc n_flotsamref07_Name [(.t 35)]⟩, ⟨some 37, none, .notb (.t 36)⟩])
    (.cond (.t 37)
      (.seq (.reg [⟨some 2, none, .tk (.c (.own 1 []))⟩, ⟨some 3, none, .tk (.c (.int .i64 9))⟩])
        (.ret))
      (.skip)))
  (.seq (.reg [⟨some 38, none, .tk (.t 4)⟩, ⟨some 39, none, .mv (.t 0)⟩, ⟨some 40, none, .mv (.t 5)⟩, ⟨some 41, none, .ia .add .i64 (.t 40) (.c (.int .i64 1))⟩, ⟨some 42, none, .mv (.t 6)⟩, ⟨some 43, none, .slc (.t 39) (some (.t 41)) (some (.t 42))⟩, ⟨some 44, none, .bsl 1 [.str []] 1 [(0, 1, (.t 43))] false⟩, ⟨some 45, none, .app 1 16 (.t 38) (.t 44) false⟩, ⟨some 4, none, .tk (.t 45)⟩])
  (.reg [⟨some 46, none, .mv (.t 6)⟩, ⟨some 5, none, .tk (.t 46)⟩]))

def b_flotsamref08_Split_1 : AC :=
  .seq (.seq (.reg [⟨some 9, none, .mv (.t 5)⟩, ⟨some 10, none, .mv (.t 0)⟩, ⟨some 11, none, .len true (.t 10)⟩, ⟨some 12, none, .ic .lss (.t 9) (.t 11)⟩])
    (.cond (.t 12)
      (.skip)
      (.exit 0)))
  (.block 1 (.seq (.seq (.reg [⟨some 13, none, .mv (.t 0)⟩, ⟨some 14, none, .mv (.t 5)⟩, ⟨some 15, none, .ixs (.t 13) (.t 14)⟩, ⟨some 16, none, .ic .neq (.t 15) (.c (.int .u8 47))⟩])
      (.cond (.t 16)
        (.seq (.reg [⟨some 2, none, .tk (.c (.own 1 []))⟩, ⟨some 3, none, .tk (.c (.int .i64 9))⟩])
          (.ret))
        (.skip)))
    (.seq (.reg [⟨some 17, none, .mv (.t 5)⟩, ⟨some 18, none, .ia .add .i64 (.t 17) (.c (.int .i64 1))⟩, ⟨some 6, none, .tk (.t 18)⟩])
    (.seq (.block 2 (l_flotsamref08_Split_0)) r_flotsamref08_Split_0))))

def l_flotsamref08_Split_1 : AC :=
  .loop [0, 4, 5] b_flotsamref08_Split_1

def r_flotsamref08_Split_1 : AC :=
  .seq (.seq (.reg [⟨some 47, none, .mv (.t 4)⟩, ⟨some 48, none, .len false (.t 47)⟩, ⟨some 49, none, .ic .lss (.t 48) (.c (.int .i64 1))⟩, ⟨some 50, none, .mv (.t 49)⟩, ⟨some 51, (some (50, false)), .mv (.t 4)⟩, ⟨some 52, (some (50, false)), .len false (.t 51)⟩, ⟨some 53, (some (50, false)), .ic .gtr (.t 52) (.c (.int .i64 4))⟩, ⟨some 54, none, .pick (.t 50) (.c (.bool true)) (.t 53)⟩])
    (.cond (.t 54)
      (.seq (.reg [⟨some 2, none, .tk (.c (.own 1 []))⟩, ⟨some 3, none, .tk (.c (.int .i64 9))⟩])
        (.ret))
      (.skip)))
  (.seq (.reg [⟨some 55, none, .tk (.t 4)⟩, ⟨some 2, none, .tk (.t 55)⟩, ⟨some 3, none, .tk (.c (.int .i64 0))⟩])
  (.ret))

def c_flotsamref08_Split : AFunc :=
  { np := 1, res := [.t 2, .t 3], body := (
    .seq (.reg [⟨some 2, none, .tk (.c (.own 1 []))⟩, ⟨some 3, none, .tk (.c (.int .i64 0))⟩])
    (.seq (.seq (.reg [⟨some 7, none, .mv (.t 0)⟩, ⟨some 8, none, .sop .eql (.t 7) (.c (.str [47]))⟩])
      (.cond (.t 8)
        (.seq (.reg [⟨some 2, none, .tk (.c (.own 1 []))⟩, ⟨some 3, none, .tk (.c (.int .i64 0))⟩])
          (.ret))
        (.skip)))
    (.seq (.reg [⟨some 4, none, .tk (.c (.own 1 []))⟩])
    (.seq (.reg [⟨some 5, none, .tk (.c (.int .i64 0))⟩])
    (.seq (.block 0 (l_flotsamref08_Split_1)) r_flotsamref08_Split_1))))) }

-- flotsam/path.Parent
def c_path_Parent : AFunc :=
  { np := 1, res := [.t 2, .t 3, .t 4], body := (
    .seq (.reg [⟨some 2, none, .tk (.c (.str []))⟩, ⟨some 3, none, .tk (.c (.str []))⟩, ⟨some 4, none, .tk (.c (.int .i64 0))⟩])
    (.seq (.reg [⟨some 9, none, .mv (.t 0)⟩, ⟨some 10, none, .callc n_path_Split [(.t 9)]⟩, ⟨some 8, none, .mv (.t 10)⟩, ⟨some 11, none, .ext (.t 8) 0⟩, ⟨some 12, none, .ext (.t 8) 1⟩, ⟨some 5, none, .tk (.t 11)⟩, ⟨some 6, none, .tk (.t 12)⟩])
    (.seq (.block 0 (.seq (.reg [⟨some 14, none, .mv (.t 6)⟩, ⟨some 15, none, .ic .neq (.t 14) (.c (.int .i64 0))⟩, ⟨some 13, none, .tk (.t 15)⟩])
        (.cond (.t 13)
          (.seq (.reg [⟨some 16, none, .mv (.t 6)⟩, ⟨some 2, none, .tk (.c (.str []))⟩, ⟨some 3, none, .tk (.c (.str []))⟩, ⟨some 4, none, .tk (.t 16)⟩])
            (.ret))
          (.seq (.reg [⟨some 18, none, .mv (.t 5)⟩, ⟨some 19, none, .len false (.t 18)⟩, ⟨some 20, none, .ic .eql (.t 19) (.c (.int .i64 0))⟩, ⟨some 17, none, .tk (.t 20)⟩])
            (.cond (.t 17)
              (.seq (.reg [⟨some 2, none, .tk (.c (.str []))⟩, ⟨some 3, none, .tk (.c (.str []))⟩, ⟨some 4, none, .tk (.c (.int .i64 1))⟩])
                (.ret))
              (.skip))))))
    (.seq (.reg [⟨some 21, none, .mv (.t 5)⟩, ⟨some 22, none, .len false (.t 21)⟩, ⟨some 23, none, .ia .sub .i64 (.t 22) (.c (.int .i64 1))⟩, ⟨some 7, none, .tk (.t 23)⟩])
    (.seq (.drw [[], [], [], [], [], [], [], [], [], [], []] [⟨some 24, none, .mv (.t 5)⟩, ⟨some 25, none, .mv (.t 7)⟩, ⟨some 26, none, .sls 1 (.t 24) none (some (.t 25)) none⟩, ⟨some 27, none, .callc n_path_Join [(.t 26)]⟩, ⟨some 28, none, .mv (.t 5)⟩, ⟨some 29, none, .mv (.t 7)⟩, ⟨some 30, none, .ixa 1 none (.t 28) (.t 29)⟩, ⟨some 31, none, .ld none (.t 30)⟩, ⟨some 2, none, .tk (.t 27)⟩, ⟨some 3, none, .tk (.t 31)⟩, ⟨some 4, none, .tk (.c (.int .i64 0))⟩])
    (.ret)))))) }

-- flotsam/flotsamref08.Parent
def c_flotsamref08_Parent : AFunc :=
  { np := 1, res := [.t 2, .t 3, .t 4], body := (
    .seq (.reg [⟨some 2, none, .tk (.c (.str []))⟩, ⟨some 3, none, .tk (.c (.str []))⟩, ⟨some 4, none, .tk (.c (.int .i64 0))⟩])
    (.seq (.reg [⟨some 8, none, .mv (.t 0)⟩, ⟨some 9, none, .callc n_flotsamref08_Split [(.t 8)]⟩, ⟨some 7, none, .mv (.t 9)⟩, ⟨some 10, none, .ext (.t 7) 0⟩, ⟨some 11, none, .ext (.t 7) 1⟩, ⟨some 5, none, .tk (.t 10)⟩, ⟨some 6, none, .tk (.t 11)⟩])
    (.seq (.seq (.reg [⟨some 12, none, .mv (.t 6)⟩, ⟨some 13, none, .ic .neq (.t 12) (.c (.int .i64 0))⟩])
      (.cond (.t 13)
        (.seq (.reg [⟨some 14, none, .mv (.t 6)⟩, ⟨some 2, none, .tk (.c (.str []))⟩, ⟨some 3, none, .tk (.c (.str []))⟩, ⟨some 4, none, .tk (.t 14)⟩])
          (.ret))
        (.skip)))
    (.seq (.seq (.reg [⟨some 15, none, .mv (.t 5)⟩, ⟨some 16, none, .len false (.t 15)⟩, ⟨some 17, none, .ic .eql (.t 16) (.c (.int .i64 0))⟩])
      (.cond (.t 17)
        (.seq (.reg [⟨some 2, none, .tk (.c (.str []))⟩, ⟨some 3, none, .tk (.c (.str []))⟩, ⟨some 4, none, .tk (.c (.int .i64 1))⟩])
          (.ret))
        (.skip)))
    (.seq (.drw [[], [], [], [], [], [], [], [], [], [], [], [], [], [], []] [⟨some 18, none, .mv (.t 5)⟩, ⟨some 19, none, .mv (.t 5)⟩, ⟨some 20, none, .len false (.t 19)⟩, ⟨some 21, none, .ia .sub .i64 (.t 20) (.c (.int .i64 1))⟩, ⟨some 22, none, .sls 1 (.t 18) none (some (.t 21)) none⟩, ⟨some 23, none, .callc n_flotsamref08_Join [(.t 22)]⟩, ⟨some 24, none, .mv (.t 5)⟩, ⟨some 25, none, .mv (.t 5)⟩, ⟨some 26, none, .len false (.t 25)⟩, ⟨some 27, none, .ia .sub .i64 (.t 26) (.c (.int .i64 1))⟩, ⟨some 28, none, .ixa 1 none (.t 24) (.t 27)⟩, ⟨some 29, none, .ld none (.t 28)⟩, ⟨some 2, none, .tk (.t 23)⟩, ⟨some 3, none, .tk (.t 29)⟩, ⟨some 4, none, .tk (.c (.int .i64 0))⟩])
    (.ret)))))) }

-- flotsam/flotsamlaw08.Texts
def b_flotsamlaw08_Texts_0 : AC :=
  .seq (.seq (.reg [⟨some 11, none, .mv (.t 5)⟩, ⟨some 12, none, .mv (.t 0)⟩, ⟨some 13, none, .len false (.t 12)⟩, ⟨some 14, none, .ic .lss (.t 11) (.t 13)⟩])
    (.cond (.t 14)
      (.skip)
      (.exit 0)))
  (.seq (.block 1 (.seq (.drw [[], [], [], [], [], [], [], [], []] [⟨some 17, none, .mv (.t 0)⟩, ⟨some 18, none, .mv (.t 5)⟩, ⟨some 19, none, .ixa 1 none (.t 17) (.t 18)⟩, ⟨some 20, none, .ld none (.t 19)⟩, ⟨some 21, none, .mv (.t 1)⟩, ⟨some 22, none, .mv (.t 5)⟩, ⟨some 23, none, .ixa 1 none (.t 21) (.t 22)⟩, ⟨some 24, none, .ld none (.t 23)⟩, ⟨some 25, none, .sop .neq (.t 20) (.t 24)⟩])
      (.cond (.t 25)
        (.seq (.reg [⟨some 4, none, .tk (.c (.bool false))⟩])
          (.ret))
        (.skip))))
  (.reg [⟨some 15, none, .mv (.t 5)⟩, ⟨some 16, none, .ia .add .i64 (.t 15) (.c (.int .i64 1))⟩, ⟨some 5, none, .tk (.t 16)⟩]))

def l_flotsamlaw08_Texts_0 : AC :=
  .loop [0, 1, 5] b_flotsamlaw08_Texts_0

def r_flotsamlaw08_Texts_0 : AC :=
  .seq (.reg [⟨some 4, none, .tk (.c (.bool true))⟩])
  (.ret)

def c_flotsamlaw08_Texts : AFunc :=
  { np := 2, res := [.t 4], body := (
    .seq (.reg [⟨some 4, none, .tk (.c (.bool false))⟩])
    (.seq (.seq (.reg [⟨some 6, none, .mv (.t 0)⟩, ⟨some 7, none, .len false (.t 6)⟩, ⟨some 8, none, .mv (.t 1)⟩, ⟨some 9, none, .len false (.t 8)⟩, ⟨some 10, none, .ic .neq (.t 7) (.t 9)⟩])
      (.cond (.t 10)
        (.seq (.reg [⟨some 4, none, .tk (.c (.bool false))⟩])
          (.ret))
        (.skip)))
    (.seq (.seq (.reg [⟨some 5, none, .tk (.c (.int .i64 0))⟩])
      (.block 0 (l_flotsamlaw08_Texts_0))) r_flotsamlaw08_Texts_0))) }

-- flotsam/flotsamlaw08.num
def c_flotsamlaw08_num : AFunc :=
  { np := 1, res := [.t 2], body := (
    .seq (.reg [⟨some 2, none, .tk (.c (.int .i64 0))⟩])
    (.seq (.reg [⟨some 3, none, .mv (.t 0)⟩, ⟨some 2, none, .tk (.t 3)⟩])
    (.ret))) }

-- flotsam/path.Join
def c_path_Join : AFunc :=
  { np := 1, res := [.t 2], body := (
    .seq (.reg [⟨some 2, none, .tk (.c (.str []))⟩])
    (.seq (.reg [⟨some 3, none, .mv (.t 0)⟩, ⟨some 4, none, .callc n_strings_Join [(.t 3), (.c (.str [47]))]⟩, ⟨some 5, none, .sop .add (.c (.str [47])) (.t 4)⟩, ⟨some 2, none, .tk (.t 5)⟩])
    (.ret))) }

-- flotsam/flotsamref08.Join
def b_flotsamref08_Join_0 : AC :=
  .seq (.seq (.reg [⟨some 5, none, .mv (.t 4)⟩, ⟨some 6, none, .mv (.t 0)⟩, ⟨some 7, none, .len false (.t 6)⟩, ⟨some 8, none, .ic .lss (.t 5) (.t 7)⟩])
    (.cond (.t 8)
      (.skip)
      (.exit 0)))
  (.seq (.block 1 (.reg [⟨some 11, none, .mv (.t 3)⟩, ⟨some 12, none, .sop .add (.t 11) (.c (.str [47]))⟩, ⟨some 13, none, .mv (.t 0)⟩, ⟨some 14, none, .mv (.t 4)⟩, ⟨some 15, none, .ixa 1 none (.t 13) (.t 14)⟩, ⟨some 16, none, .ld none (.t 15)⟩, ⟨some 17, none, .sop .add (.t 12) (.t 16)⟩, ⟨some 3, none, .tk (.t 17)⟩]))
  (.reg [⟨some 9, none, .mv (.t 4)⟩, ⟨some 10, none, .ia .add .i64 (.t 9) (.c (.int .i64 1))⟩, ⟨some 4, none, .tk (.t 10)⟩]))

def l_flotsamref08_Join_0 : AC :=
  .loop [0, 3, 4] b_flotsamref08_Join_0

def r_flotsamref08_Join_0 : AC :=
  .seq (.seq (.reg [⟨some 18, none, .mv (.t 0)⟩, ⟨some 19, none, .len false (.t 18)⟩, ⟨some 20, none, .ic .eql (.t 19) (.c (.int .i64 0))⟩])
    (.cond (.t 20)
      (.seq (.reg [⟨some 2, none, .tk (.c (.str [47]))⟩])
        (.ret))
      (.skip)))
  (.seq (.reg [⟨some 21, none, .mv (.t 3)⟩, ⟨some 2, none, .tk (.t 21)⟩])
  (.ret))

def c_flotsamref08_Join : AFunc :=
  { np := 1, res := [.t 2], body := (
    .seq (.reg [⟨some 2, none, .tk (.c (.str []))⟩])
    (.seq (.reg [⟨some 3, none, .tk (.c (.str []))⟩])
    (.seq (.seq (.reg [⟨some 4, none, .tk (.c (.int .i64 0))⟩])
      (.block 0 (l_flotsamref08_Join_0))) r_flotsamref08_Join_0))) }

-- flotsam/path.Under
def c_path_Under : AFunc :=
  { np := 2, res := [.t 4], body := (
    .seq (.reg [⟨some 4, none, .tk (.c (.bool false))⟩])
    (.seq (.reg [⟨some 10, none, .mv (.t 0)⟩, ⟨some 11, none, .callc n_path_Split [(.t 10)]⟩, ⟨some 9, none, .mv (.t 11)⟩, ⟨some 12, none, .ext (.t 9) 0⟩, ⟨some 13, none, .ext (.t 9) 1⟩, ⟨some 5, none, .tk (.t 12)⟩, ⟨some 6, none, .tk (.t 13)⟩])
    (.seq (.reg [⟨some 15, none, .mv (.t 1)⟩, ⟨some 16, none, .callc n_path_Split [(.t 15)]⟩, ⟨some 14, none, .mv (.t 16)⟩, ⟨some 17, none, .ext (.t 14) 0⟩, ⟨some 18, none, .ext (.t 14) 1⟩, ⟨some 7, none, .tk (.t 17)⟩, ⟨some 8, none, .tk (.t 18)⟩])
    (.seq (.reg [⟨some 19, none, .mv (.t 6)⟩, ⟨some 20, none, .ic .eql (.t 19) (.c (.int .i64 0))⟩, ⟨some 21, none, .mv (.t 20)⟩, ⟨some 22, (some (21, true)), .mv (.t 8)⟩, ⟨some 23, (some (21, true)), .ic .eql (.t 22) (.c (.int .i64 0))⟩, ⟨some 24, none, .pick (.t 21) (.t 23) (.c (.bool false))⟩, ⟨some 25, none, .mv (.t 24)⟩, ⟨some 26, (some (25, true)), .mv (.t 5)⟩, ⟨some 27, (some (25, true)), .len false (.t 26)⟩, ⟨some 28, (some (25, true)), .mv (.t 7)⟩, ⟨some 29, (some (25, true)), .len false (.t 28)⟩, ⟨some 30, (some (25, true)), .ic .geq (.t 27) (.t 29)⟩, ⟨some 31, none, .pick (.t 25) (.t 30) (.c (.bool false))⟩, ⟨some 32, none, .mv (.t 31)⟩, ⟨some 33, (some (32, true)), .mv (.t 5)⟩, ⟨some 34, (some (32, true)), .mv (.t 7)⟩, ⟨some 35, (some (32, true)), .len false (.t 34)⟩, ⟨some 36, (some (32, true)), .sls 1 (.t 33) none (some (.t 35)) none⟩, ⟨some 37, (some (32, true)), .mv (.t 7)⟩, ⟨some 38, (some (32, true)), .callc n_slices_Equal_string_string [(.t 36), (.t 37)]⟩, ⟨some 39, none, .pick (.t 32) (.t 38) (.c (.bool false))⟩, ⟨some 4, none, .tk (.t 39)⟩])
    (.ret))))) }

-- flotsam/flotsamref08.Under
def b_flotsamref08_Under_0 : AC :=
  .seq (.seq (.reg [⟨some 33, none, .mv (.t 9)⟩, ⟨some 34, none, .mv (.t 7)⟩, ⟨some 35, none, .len false (.t 34)⟩, ⟨some 36, none, .ic .lss (.t 33) (.t 35)⟩])
    (.cond (.t 36)
      (.skip)
      (.exit 0)))
  (.seq (.block 1 (.seq (.drw [[], [], [], [], [], [], [], [], []] [⟨some 39, none, .mv (.t 5)⟩, ⟨some 40, none, .mv (.t 9)⟩, ⟨some 41, none, .ixa 1 none (.t 39) (.t 40)⟩, ⟨some 42, none, .ld none (.t 41)⟩, ⟨some 43, none, .mv (.t 7)⟩, ⟨some 44, none, .mv (.t 9)⟩, ⟨some 45, none, .ixa 1 none (.t 43) (.t 44)⟩, ⟨some 46, none, .ld none (.t 45)⟩, ⟨some 47, none, .sop .neq (.t 42) (.t 46)⟩])
      (.cond (.t 47)
        (.seq (.reg [⟨some 4, none, .tk (.c (.bool false))⟩])
          (.ret))
        (.skip))))
  (.reg [⟨some 37, none, .mv (.t 9)⟩, ⟨some 38, none, .ia .add .i64 (.t 37) (.c (.int .i64 1))⟩, ⟨some 9, none, .tk (.t 38)⟩]))

def l_flotsamref08_Under_0 : AC :=
  .loop [5, 7, 9] b_flotsamref08_Under_0

def r_flotsamref08_Under_0 : AC :=
  .seq (.reg [⟨some 4, none, .tk (.c (.bool true))⟩])
  (.ret)

def c_flotsamref08_Under : AFunc :=
  { np := 2, res := [.t 4], body := (
    .seq (.reg [⟨some 4, none, .tk (.c (.bool false))⟩])
    (.seq (.reg [⟨some 11, none, .mv (.t 0)⟩, ⟨some 12, none, .callc n_flotsamref08_Split [(.t 11)]⟩, ⟨some 10, none, .mv (.t 12)⟩, ⟨some 13, none, .ext (.t 10) 0⟩, ⟨some 14, none, .ext (.t 10) 1⟩, ⟨some 5, none, .tk (.t 13)⟩, ⟨some 6, none, .tk (.t 14)⟩])
    (.seq (.reg [⟨some 16, none, .mv (.t 1)⟩, ⟨some 17, none, .callc n_flotsamref08_Split [(.t 16)]⟩, ⟨some 15, none, .mv (.t 17)⟩, ⟨some 18, none, .ext (.t 15) 0⟩, ⟨some 19, none, .ext (.t 15) 1⟩, ⟨some 7, none, .tk (.t 18)⟩, ⟨some 8, none, .tk (.t 19)⟩])
    (.seq (.seq (.reg [⟨some 20, none, .mv (.t 6)⟩, ⟨some 21, none, .ic .neq (.t 20) (.c (.int .i64 0))⟩, ⟨some 22, none, .mv (.t 21)⟩, ⟨some 23, (some (22, false)), .mv (.t 8)⟩, ⟨some 24, (some (22, false)), .ic .neq (.t 23) (.c (.int .i64 0))⟩, ⟨some 25, none, .pick (.t 22) (.c (.bool true)) (.t 24)⟩, ⟨some 26, none, .mv (.t 25)⟩, ⟨some 27, (some (26, false)), .mv (.t 5)⟩, ⟨some 28, (some (26, false)), .len false (.t 27)⟩, ⟨some 29, (some (26, false)), .mv (.t 7)⟩, ⟨some 30, (some (26, false)), .len false (.t 29)⟩, ⟨some 31, (some (26, false)), .ic .lss (.t 28) (.t 30)⟩, ⟨some 32, none, .pick (.t 26) (.c (.bool true)) (.t 31)⟩])
      (.cond (.t 32)
        (.seq (.reg [⟨some 4, none, .tk (.c (.bool false))⟩])
          (.ret))
        (.skip)))
    (.seq (.seq (.reg [⟨some 9, none, .tk (.c (.int .i64 0))⟩])
      (.block 0 (l_flotsamref08_Under_0))) r_flotsamref08_Under_0))))) }

-- flotsam/flotsamref07.Name
def b_flotsamref07_Name_0 : AC :=
  .seq (.seq (.reg [⟨some 21, none, .mv (.t 3)⟩, ⟨some 22, none, .mv (.t 0)⟩, ⟨some 23, none, .len true (.t 22)⟩, ⟨some 24, none, .ic .lss (.t 21) (.t 23)⟩])
    (.cond (.t 24)
      (.skip)
      (.exit 0)))
  (.seq (.block 1 (.seq (.reg [⟨some 27, none, .mv (.t 0)⟩, ⟨some 28, none, .mv (.t 3)⟩, ⟨some 29, none, .ixs (.t 27) (.t 28)⟩, ⟨some 4, none, .tk (.t 29)⟩])
      (.seq (.reg [⟨some 30, none, .mv (.t 4)⟩, ⟨some 31, none, .ic .geq (.t 30) (.c (.int .u8 97))⟩, ⟨some 32, none, .mv (.t 31)⟩, ⟨some 33, (some (32, true)), .mv (.t 4)⟩, ⟨some 34, (some (32, true)), .ic .leq (.t 33) (.c (.int .u8 122))⟩, ⟨some 35, none, .pick (.t 32) (.t 34) (.c (.bool false))⟩, ⟨some 36, none, .mv (.t 35)⟩, ⟨some 37, (some (36, false)), .mv (.t 4)⟩, ⟨some 38, (some (36, false)), .ic .geq (.t 37) (.c (.int .u8 48))⟩, ⟨some 39, (some (36, false)), .mv (.t 38)⟩, ⟨some 40, (some (39, true)), .mv (.t 4)⟩, ⟨some 41, (some (39, true)), .ic .leq (.t 40) (.c (.int .u8 57))⟩, ⟨some 42, (some (36, false)), .pick (.t 39) (.t 41) (.c (.bool false))⟩, ⟨some 43, none, .pick (.t 36) (.c (.bool true)) (.t 42)⟩, ⟨some 44, none, .mv (.t 43)⟩, ⟨some 45, (some (44, false)), .mv (.t 4)⟩, ⟨some 46, (some (44, false)), .ic .eql (.t 45) (.c (.int .u8 46))⟩, ⟨some 47, none, .pick (.t 44) (.c (.bool true)) (.t 46)⟩, ⟨some 48, none, .mv (.t 47)⟩, ⟨some 49, (some (48, false)), .mv (.t 4)⟩, ⟨some 50, (some (48, false)), .ic .eql (.t 49) (.c (.int .u8 95))⟩, ⟨some 51, none, .pick (.t 48) (.c (.bool true)) (.t 50)⟩, ⟨some 52, none, .notb (.t 51)⟩])
      (.cond (.t 52)
        (.seq (.reg [⟨some 2, none, .tk (.c (.bool false))⟩])
          (.ret))
        (.skip)))))
  (.reg [⟨some 25, none, .mv (.t 3)⟩, ⟨some 26, none, .ia .add .i64 (.t 25) (.c (.int .i64 1))⟩, ⟨some 3, none, .tk (.t 26)⟩]))

def l_flotsamref07_Name_0 : AC :=
  .loop [0, 3] b_flotsamref07_Name_0

def r_flotsamref07_Name_0 : AC :=
  .seq (.reg [⟨some 2, none, .tk (.c (.bool true))⟩])
  (.ret)

def c_flotsamref07_Name : AFunc :=
  { np := 1, res := [.t 2], body := (
    .seq (.reg [⟨some 2, none, .tk (.c (.bool false))⟩])
    (.seq (.seq (.reg [⟨some 5, none, .mv (.t 0)⟩, ⟨some 6, none, .len true (.t 5)⟩, ⟨some 7, none, .ic .lss (.t 6) (.c (.int .i64 1))⟩, ⟨some 8, none, .mv (.t 7)⟩, ⟨some 9, (some (8, false)), .mv (.t 0)⟩, ⟨some 10, (some (8, false)), .len true (.t 9)⟩, ⟨some 11, (some (8, false)), .ic .gtr (.t 10) (.c (.int .i64 8))⟩, ⟨some 12, none, .pick (.t 8) (.c (.bool true)) (.t 11)⟩, ⟨some 13, none, .mv (.t 12)⟩, ⟨some 14, (some (13, false)), .mv (.t 0)⟩, ⟨some 15, (some (13, false)), .sop .eql (.t 14) (.c (.str [46]))⟩, ⟨some 16, none, .pick (.t 13) (.c (.bool true)) (.t 15)⟩, ⟨some 17, none, .mv (.t 16)⟩, ⟨some 18, (some (17, false)), .mv (.t 0)⟩, ⟨some 19, (some (17, false)), .sop .eql (.t 18) (.c (.str [46, 46]))⟩, ⟨some 20, none, .pick (.t 17) (.c (.bool true)) (.t 19)⟩])
      (.cond (.t 20)
        (.seq (.reg [⟨some 2, none, .tk (.c (.bool false))⟩])
          (.ret))
        (.skip)))
    (.seq (.seq (.reg [⟨some 3, none, .tk (.c (.int .i64 0))⟩])
      (.block 0 (l_flotsamref07_Name_0))) r_flotsamref07_Name_0))) }

-- flotsam/layout.Name
def c_layout_Name : AFunc :=
  { np := 1, res := [.t 2], body := (
    .seq (.reg [⟨some 2, none, .tk (.c (.bool false))⟩])
    (.seq (.reg [⟨some 3, none, .mv (.t 0)⟩, ⟨some 4, none, .sop .neq (.t 3) (.c (.str []))⟩, ⟨some 5, none, .mv (.t 4)⟩, ⟨some 6, (some (5, true)), .mv (.t 0)⟩, ⟨some 7, (some (5, true)), .len true (.t 6)⟩, ⟨some 8, (some (5, true)), .ic .leq (.t 7) (.c (.int .i64 8))⟩, ⟨some 9, none, .pick (.t 5) (.t 8) (.c (.bool false))⟩, ⟨some 10, none, .mv (.t 9)⟩, ⟨some 11, (some (10, true)), .mv (.t 0)⟩, ⟨some 12, (some (10, true)), .sop .neq (.t 11) (.c (.str [46]))⟩, ⟨some 13, none, .pick (.t 10) (.t 12) (.c (.bool false))⟩, ⟨some 14, none, .mv (.t 13)⟩, ⟨some 15, (some (14, true)), .mv (.t 0)⟩, ⟨some 16, (some (14, true)), .sop .neq (.t 15) (.c (.str [46, 46]))⟩, ⟨some 17, none, .pick (.t 14) (.t 16) (.c (.bool false))⟩, ⟨some 18, none, .mv (.t 17)⟩, ⟨some 19, (some (18, true)), .mv (.t 0)⟩, ⟨some 20, (some (18, true)), .callc n_strings_Trim [(.t 19), (.c (.str [97, 98, 99, 100, 101, 102, 103, 104, 105, 106, 107, 108, 109, 110, 111, 112, 113, 114, 115, 116, 117, 118, 119, 120, 121, 122, 48, 49, 50, 51, 52, 53, 54, 55, 56, 57, 46, 95]))]⟩, ⟨some 21, (some (18, true)), .sop .eql (.t 20) (.c (.str []))⟩, ⟨some 22, none, .pick (.t 18) (.t 21) (.c (.bool false))⟩, ⟨some 2, none, .tk (.t 22)⟩])
    (.ret))) }

-- strings.CutPrefix
def c_strings_CutPrefix : AFunc :=
  { np := 2, res := [.t 4, .t 5], body := (
    .seq (.reg [⟨some 4, none, .tk (.c (.str []))⟩, ⟨some 5, none, .tk (.c (.bool false))⟩])
    (.seq (.reg [⟨some 6, none, .mv (.t 0)⟩, ⟨some 7, none, .mv (.t 1)⟩, ⟨some 8, none, .callc n_internal_stringslite_CutPrefix [(.t 6), (.t 7)]⟩, ⟨some 9, none, .ext (.t 8) 0⟩, ⟨some 10, none, .ext (.t 8) 1⟩, ⟨some 4, none, .tk (.t 9)⟩, ⟨some 5, none, .tk (.t 10)⟩])
    (.ret))) }

-- slices.ContainsFunc[[]string,string]
def c_slices_ContainsFunc_string_string : AFunc :=
  { np := 2, res := [.t 4], body := (
    .seq (.reg [⟨some 4, none, .tk (.c (.bool false))⟩])
    (.seq (.reg [⟨some 5, none, .mv (.t 0)⟩, ⟨some 6, none, .mv (.t 1)⟩, ⟨some 7, none, .call n_slices_IndexFunc_string_string [(.t 5), (.t 6)]⟩, ⟨some 8, none, .ic .geq (.t 7) (.c (.int .i64 0))⟩, ⟨some 4, none, .tk (.t 8)⟩])
    (.ret))) }

-- flotsam/path.Split$1
def c_path_Split_1 : AFunc :=
  { np := 1, res := [.t 2], body := (
    .seq (.reg [⟨some 2, none, .tk (.c (.bool false))⟩])
    (.seq (.reg [⟨some 3, none, .mv (.t 0)⟩, ⟨some 4, none, .callc n_layout_Name [(.t 3)]⟩, ⟨some 5, none, .notb (.t 4)⟩, ⟨some 2, none, .tk (.t 5)⟩])
    (.ret))) }

-- slices.Equal[[]string,string]
def b_slices_Equal_string_string_0 : AC :=
  .seq (.reg [⟨some 14, none, .ic .lss (.t 13) (.t 12)⟩])
  (.seq (.cond (.t 14)
      (.skip)
      (.exit 0))
  (.seq (.block 1 (.seq (.reg [⟨some 15, none, .mv (.t 13)⟩, ⟨some 5, none, .tk (.t 15)⟩])
      (.seq (.drw [[], [], [], [], [], [], [], [], []] [⟨some 16, none, .mv (.t 0)⟩, ⟨some 17, none, .mv (.t 5)⟩, ⟨some 18, none, .ixa 1 none (.t 16) (.t 17)⟩, ⟨some 19, none, .ld none (.t 18)⟩, ⟨some 20, none, .mv (.t 1)⟩, ⟨some 21, none, .mv (.t 5)⟩, ⟨some 22, none, .ixa 1 none (.t 20) (.t 21)⟩, ⟨some 23, none, .ld none (.t 22)⟩, ⟨some 24, none, .sop .neq (.t 19) (.t 23)⟩])
      (.cond (.t 24)
        (.seq (.reg [⟨some 4, none, .tk (.c (.bool false))⟩])
          (.ret))
        (.skip)))))
  (.reg [⟨some 25, none, .ia .add .i64 (.t 13) (.c (.int .i64 1))⟩, ⟨some 13, none, .mv (.t 25)⟩])))

def l_slices_Equal_string_string_0 : AC :=
  .loop [0, 1, 12, 13] b_slices_Equal_string_string_0

def r_slices_Equal_string_string_0 : AC :=
  .seq (.reg [⟨some 4, none, .tk (.c (.bool true))⟩])
  (.ret)

def c_slices_Equal_string_string : AFunc :=
  { np := 2, res := [.t 4], body := (
    .seq (.reg [⟨some 4, none, .tk (.c (.bool false))⟩])
    (.seq (.seq (.reg [⟨some 6, none, .mv (.t 0)⟩, ⟨some 7, none, .len false (.t 6)⟩, ⟨some 8, none, .mv (.t 1)⟩, ⟨some 9, none, .len false (.t 8)⟩, ⟨some 10, none, .ic .neq (.t 7) (.t 9)⟩])
      (.cond (.t 10)
        (.seq (.reg [⟨some 4, none, .tk (.c (.bool false))⟩])
          (.ret))
        (.skip)))
    (.seq (.seq (.reg [⟨some 11, none, .mv (.t 0)⟩, ⟨some 12, none, .len false (.t 11)⟩, ⟨some 13, none, .mv (.c (.int .i64 0))⟩])
      (.block 0 (l_slices_Equal_string_string_0))) r_slices_Equal_string_string_0))) }

-- strings.Trim
def c_strings_Trim : AFunc :=
  { np := 2, res := [.t 4], body := (
    .seq (.reg [⟨some 4, none, .tk (.c (.str []))⟩])
    (.seq (.seq (.reg [⟨some 7, none, .mv (.t 0)⟩, ⟨some 8, none, .sop .eql (.t 7) (.c (.str []))⟩, ⟨some 9, none, .mv (.t 8)⟩, ⟨some 10, (some (9, false)), .mv (.t 1)⟩, ⟨some 11, (some (9, false)), .sop .eql (.t 10) (.c (.str []))⟩, ⟨some 12, none, .pick (.t 9) (.c (.bool true)) (.t 11)⟩])
      (.cond (.t 12)
        (.seq (.reg [⟨some 13, none, .mv (.t 0)⟩, ⟨some 4, none, .tk (.t 13)⟩])
          (.ret))
        (.skip)))
    (.seq (.seq (.reg [⟨some 14, none, .mv (.t 1)⟩, ⟨some 15, none, .len true (.t 14)⟩, ⟨some 16, none, .ic .eql (.t 15) (.c (.int .i64 1))⟩, ⟨some 17, none, .mv (.t 16)⟩, ⟨some 18, (some (17, true)), .mv (.t 1)⟩, ⟨some 19, (some (17, true)), .ixs (.t 18) (.c (.int .i64 0))⟩, ⟨some 20, (some (17, true)), .ic .lss (.t 19) (.c (.int .u8 128))⟩, ⟨some 21, none, .pick (.t 17) (.t 20) (.c (.bool false))⟩])
      (.cond (.t 21)
        (.seq (.drw [[], [], [], [], [], [], [], []] [⟨some 22, none, .mv (.t 0)⟩, ⟨some 23, none, .mv (.t 1)⟩, ⟨some 24, none, .ixs (.t 23) (.c (.int .i64 0))⟩, ⟨some 25, none, .callc n_strings_trimRightByte [(.t 22), (.t 24)]⟩, ⟨some 26, none, .mv (.t 1)⟩, ⟨some 27, none, .ixs (.t 26) (.c (.int .i64 0))⟩, ⟨some 28, none, .callc n_strings_trimLeftByte [(.t 25), (.t 27)]⟩, ⟨some 4, none, .tk (.t 28)⟩])
          (.ret))
        (.skip)))
    (.seq (.seq (.reg [⟨some 30, none, .mv (.t 1)⟩, ⟨some 31, none, .callc n_strings_makeASCIISet [(.t 30)]⟩, ⟨some 29, none, .mv (.t 31)⟩, ⟨some 32, none, .ext (.t 29) 0⟩, ⟨some 33, none, .ext (.t 29) 1⟩, ⟨some 5, none, .alloc (zs 256 (.bool false))⟩, ⟨none, none, .st 256 (.t 5) (.t 32)⟩, ⟨some 6, none, .tk (.t 33)⟩])
      (.seq (.reg [⟨some 34, none, .mv (.t 6)⟩])
      (.cond (.t 34)
        (.seq (.reg [⟨some 35, none, .mv (.t 0)⟩, ⟨some 36, none, .call n_strings_trimRightASCII [(.t 35), (.t 5)]⟩, ⟨some 37, none, .call n_strings_trimLeftASCII [(.t 36), (.t 5)]⟩, ⟨some 4, none, .tk (.t 37)⟩])
          (.ret))
        (.skip))))
    (.seq (.reg [⟨some 38, none, .mv (.t 0)⟩, ⟨some 39, none, .mv (.t 1)⟩, ⟨some 40, none, .callc n_strings_trimRightUnicode [(.t 38), (.t 39)]⟩, ⟨some 41, none, .mv (.t 1)⟩, ⟨some 42, none, .callc n_strings_trimLeftUnicode [(.t 40), (.t 41)]⟩, ⟨some 4, none, .tk (.t 42)⟩])
    (.ret)))))) }

-- internal/stringslite.CutPrefix
def c_internal_stringslite_CutPrefix : AFunc :=
  { np := 2, res := [.t 4, .t 5], body := (
    .seq (.reg [⟨some 4, none, .tk (.c (.str []))⟩, ⟨some 5, none, .tk (.c (.bool false))⟩])
    (.seq (.seq (.reg [⟨some 6, none, .mv (.t 0)⟩, ⟨some 7, none, .mv (.t 1)⟩, ⟨some 8, none, .callc n_internal_stringslite_HasPrefix [(.t 6), (.t 7)]⟩, ⟨some 9, none, .notb (.t 8)⟩])
      (.cond (.t 9)
        (.seq (.reg [⟨some 10, none, .mv (.t 0)⟩, ⟨some 4, none, .tk (.t 10)⟩, ⟨some 5, none, .tk (.c (.bool false))⟩])
          (.ret))
        (.skip)))
    (.seq (.reg [⟨some 11, none, .mv (.t 0)⟩, ⟨some 12, none, .mv (.t 1)⟩, ⟨some 13, none, .len true (.t 12)⟩, ⟨some 14, none, .slc (.t 11) (some (.t 13)) none⟩, ⟨some 4, none, .tk (.t 14)⟩, ⟨some 5, none, .tk (.c (.bool true))⟩])
    (.ret)))) }

-- slices.IndexFunc[[]string,string]
def b_slices_IndexFunc_string_string_0 : AC :=
  .seq (.reg [⟨some 9, none, .ic .lss (.t 8) (.t 7)⟩])
  (.seq (.cond (.t 9)
      (.skip)
      (.exit 0))
  (.seq (.block 1 (.seq (.reg [⟨some 10, none, .mv (.t 8)⟩, ⟨some 5, none, .tk (.t 10)⟩])
      (.seq (.reg [⟨some 11, none, .mv (.t 1)⟩, ⟨some 12, none, .mv (.t 0)⟩, ⟨some 13, none, .mv (.t 5)⟩, ⟨some 14, none, .ixa 1 none (.t 12) (.t 13)⟩, ⟨some 15, none, .ld none (.t 14)⟩, ⟨some 16, none, .callv (.t 11) [(.t 15)]⟩])
      (.cond (.t 16)
        (.seq (.reg [⟨some 17, none, .mv (.t 5)⟩, ⟨some 4, none, .tk (.t 17)⟩])
          (.ret))
        (.skip)))))
  (.reg [⟨some 18, none, .ia .add .i64 (.t 8) (.c (.int .i64 1))⟩, ⟨some 8, none, .mv (.t 18)⟩])))

def l_slices_IndexFunc_string_string_0 : AC :=
  .loop [0, 1, 7, 8] b_slices_IndexFunc_string_string_0

def r_slices_IndexFunc_string_string_0 : AC :=
  .seq (.reg [⟨some 4, none, .tk (.c (.int .i64 (-1)))⟩])
  (.ret)

def c_slices_IndexFunc_string_string : AFunc :=
  { np := 2, res := [.t 4], body := (
    .seq (.reg [⟨some 4, none, .tk (.c (.int .i64 0))⟩])
    (.seq (.seq (.reg [⟨some 6, none, .mv (.t 0)⟩, ⟨some 7, none, .len false (.t 6)⟩, ⟨some 8, none, .mv (.c (.int .i64 0))⟩])
      (.block 0 (l_slices_IndexFunc_string_string_0))) r_slices_IndexFunc_string_string_0)) }

-- strings.trimLeftByte
def b_strings_trimLeftByte_0 : AC :=
  .seq (.seq (.reg [⟨some 5, none, .mv (.t 0)⟩, ⟨some 6, none, .len true (.t 5)⟩, ⟨some 7, none, .ic .gtr (.t 6) (.c (.int .i64 0))⟩, ⟨some 8, none, .mv (.t 7)⟩, ⟨some 9, (some (8, true)), .mv (.t 0)⟩, ⟨some 10, (some (8, true)), .ixs (.t 9) (.c (.int .i64 0))⟩, ⟨some 11, (some (8, true)), .mv (.t 1)⟩, ⟨some 12, (some (8, true)), .ic .eql (.t 10) (.t 11)⟩, ⟨some 13, none, .pick (.t 8) (.t 12) (.c (.bool false))⟩])
    (.cond (.t 13)
      (.skip)
      (.exit 0)))
  (.block 1 (.reg [⟨some 14, none, .mv (.t 0)⟩, ⟨some 15, none, .slc (.t 14) (some (.c (.int .i64 1))) none⟩, ⟨some 0, none, .tk (.t 15)⟩]))

def l_strings_trimLeftByte_0 : AC :=
  .loop [0, 1] b_strings_trimLeftByte_0

def r_strings_trimLeftByte_0 : AC :=
  .seq (.reg [⟨some 16, none, .mv (.t 0)⟩, ⟨some 4, none, .tk (.t 16)⟩])
  (.ret)

def c_strings_trimLeftByte : AFunc :=
  { np := 2, res := [.t 4], body := (
    .seq (.reg [⟨some 4, none, .tk (.c (.str []))⟩])
    (.seq (.block 0 (l_strings_trimLeftByte_0)) r_strings_trimLeftByte_0)) }

-- strings.trimRightByte
def b_strings_trimRightByte_0 : AC :=
  .seq (.seq (.reg [⟨some 5, none, .mv (.t 0)⟩, ⟨some 6, none, .len true (.t 5)⟩, ⟨some 7, none, .ic .gtr (.t 6) (.c (.int .i64 0))⟩, ⟨some 8, none, .mv (.t 7)⟩, ⟨some 9, (some (8, true)), .mv (.t 0)⟩, ⟨some 10, (some (8, true)), .mv (.t 0)⟩, ⟨some 11, (some (8, true)), .len true (.t 10)⟩, ⟨some 12, (some (8, true)), .ia .sub .i64 (.t 11) (.c (.int .i64 1))⟩, ⟨some 13, (some (8, true)), .ixs (.t 9) (.t 12)⟩, ⟨some 14, (some (8, true)), .mv (.t 1)⟩, ⟨some 15, (some (8, true)), .ic .eql (.t 13) (.t 14)⟩, ⟨some 16, none, .pick (.t 8) (.t 15) (.c (.bool false))⟩])
    (.cond (.t 16)
      (.skip)
      (.exit 0)))
  (.block 1 (.reg [⟨some 17, none, .mv (.t 0)⟩, ⟨some 18, none, .mv (.t 0)⟩, ⟨some 19, none, .len true (.t 18)⟩, ⟨some 20, none, .ia .sub .i64 (.t 19) (.c (.int .i64 1))⟩, ⟨some 21, none, .slc (.t 17) none (some (.t 20))⟩, ⟨some 0, none, .tk (.t 21)⟩]))

def l_strings_trimRightByte_0 : AC :=
  .loop [0, 1] b_strings_trimRightByte_0

def r_strings_trimRightByte_0 : AC :=
  .seq (.reg [⟨some 22, none, .mv (.t 0)⟩, ⟨some 4, none, .tk (.t 22)⟩])
  (.ret)

def c_strings_trimRightByte : AFunc :=
  { np := 2, res := [.t 4], body := (
    .seq (.reg [⟨some 4, none, .tk (.c (.str []))⟩])
    (.seq (.block 0 (l_strings_trimRightByte_0)) r_strings_trimRightByte_0)) }

-- strings.makeASCIISet
def b_strings_makeASCIISet_0 : AC :=
  .seq (.seq (.reg [⟨some 6, none, .mv (.t 4)⟩, ⟨some 7, none, .mv (.t 0)⟩, ⟨some 8, none, .len true (.t 7)⟩, ⟨some 9, none, .ic .lss (.t 6) (.t 8)⟩])
    (.cond (.t 9)
      (.skip)
      (.exit 0)))
  (.seq (.block 1 (.seq (.reg [⟨some 12, none, .mv (.t 0)⟩, ⟨some 13, none, .mv (.t 4)⟩, ⟨some 14, none, .ixs (.t 12) (.t 13)⟩, ⟨some 5, none, .tk (.t 14)⟩])
      (.seq (.seq (.reg [⟨some 15, none, .mv (.t 5)⟩, ⟨some 16, none, .ic .geq (.t 15) (.c (.int .u8 128))⟩])
        (.cond (.t 16)
          (.seq (.reg [⟨some 17, none, .ld (some 256) (.t 2)⟩, ⟨none, none, .st 256 (.t 2) (.t 17)⟩, ⟨some 3, none, .tk (.c (.bool false))⟩])
            (.ret))
          (.skip)))
      (.reg [⟨some 18, none, .mv (.t 5)⟩, ⟨some 19, none, .ixa 1 (some 256) (.t 2) (.t 18)⟩, ⟨none, none, .st 1 (.t 19) (.c (.bool true))⟩]))))
  (.reg [⟨some 10, none, .mv (.t 4)⟩, ⟨some 11, none, .ia .add .i64 (.t 10) (.c (.int .i64 1))⟩, ⟨some 4, none, .tk (.t 11)⟩]))

def l_strings_makeASCIISet_0 : AC :=
  .loop [0, 2, 4] b_strings_makeASCIISet_0

def r_strings_makeASCIISet_0 : AC :=
  .seq (.reg [⟨some 20, none, .ld (some 256) (.t 2)⟩, ⟨none, none, .st 256 (.t 2) (.t 20)⟩, ⟨some 3, none, .tk (.c (.bool true))⟩])
  (.ret)

def c_strings_makeASCIISet : AFunc :=
  { np := 1, res := [.cell 2 (some 256), .t 3], body := (
    .seq (.reg [⟨some 2, none, .alloc (zs 256 (.bool false))⟩, ⟨some 3, none, .tk (.c (.bool false))⟩])
    (.seq (.seq (.reg [⟨some 4, none, .tk (.c (.int .i64 0))⟩])
      (.block 0 (l_strings_makeASCIISet_0))) r_strings_makeASCIISet_0)) }

-- strings.trimLeftASCII
def b_strings_trimLeftASCII_0 : AC :=
  .seq (.seq (.reg [⟨some 5, none, .mv (.t 0)⟩, ⟨some 6, none, .len true (.t 5)⟩, ⟨some 7, none, .ic .gtr (.t 6) (.c (.int .i64 0))⟩])
    (.cond (.t 7)
      (.skip)
      (.exit 0)))
  (.block 1 (.seq (.seq (.reg [⟨some 8, none, .mv (.t 1)⟩, ⟨some 9, none, .mv (.t 0)⟩, ⟨some 10, none, .ixs (.t 9) (.c (.int .i64 0))⟩, ⟨some 11, none, .call n_pstrings_asciiSet_contains [(.t 8), (.t 10)]⟩, ⟨some 12, none, .notb (.t 11)⟩])
      (.cond (.t 12)
        (.exit 0)
        (.skip)))
    (.reg [⟨some 13, none, .mv (.t 0)⟩, ⟨some 14, none, .slc (.t 13) (some (.c (.int .i64 1))) none⟩, ⟨some 0, none, .tk (.t 14)⟩])))

def l_strings_trimLeftASCII_0 : AC :=
  .loop [0, 1] b_strings_trimLeftASCII_0

def r_strings_trimLeftASCII_0 : AC :=
  .seq (.reg [⟨some 15, none, .mv (.t 0)⟩, ⟨some 4, none, .tk (.t 15)⟩])
  (.ret)

def c_strings_trimLeftASCII : AFunc :=
  { np := 2, res := [.t 4], body := (
    .seq (.reg [⟨some 4, none, .tk (.c (.str []))⟩])
    (.seq (.block 0 (l_strings_trimLeftASCII_0)) r_strings_trimLeftASCII_0)) }

-- strings.trimRightASCII
def b_strings_trimRightASCII_0 : AC :=
  .seq (.seq (.reg [⟨some 5, none, .mv (.t 0)⟩, ⟨some 6, none, .len true (.t 5)⟩, ⟨some 7, none, .ic .gtr (.t 6) (.c (.int .i64 0))⟩])
    (.cond (.t 7)
      (.skip)
      (.exit 0)))
  (.block 1 (.seq (.seq (.reg [⟨some 8, none, .mv (.t 1)⟩, ⟨some 9, none, .mv (.t 0)⟩, ⟨some 10, none, .mv (.t 0)⟩, ⟨some 11, none, .len true (.t 10)⟩, ⟨some 12, none, .ia .sub .i64 (.t 11) (.c (.int .i64 1))⟩, ⟨some 13, none, .ixs (.t 9) (.t 12)⟩, ⟨some 14, none, .call n_pstrings_asciiSet_contains [(.t 8), (.t 13)]⟩, ⟨some 15, none, .notb (.t 14)⟩])
      (.cond (.t 15)
        (.exit 0)
        (.skip)))
    (.reg [⟨some 16, none, .mv (.t 0)⟩, ⟨some 17, none, .mv (.t 0)⟩, ⟨some 18, none, .len true (.t 17)⟩, ⟨some 19, none, .ia .sub .i64 (.t 18) (.c (.int .i64 1))⟩, ⟨some 20, none, .slc (.t 16) none (some (.t 19))⟩, ⟨some 0, none, .tk (.t 20)⟩])))

def l_strings_trimRightASCII_0 : AC :=
  .loop [0, 1] b_strings_trimRightASCII_0

def r_strings_trimRightASCII_0 : AC :=
  .seq (.reg [⟨some 21, none, .mv (.t 0)⟩, ⟨some 4, none, .tk (.t 21)⟩])
  (.ret)

def c_strings_trimRightASCII : AFunc :=
  { np := 2, res := [.t 4], body := (
    .seq (.reg [⟨some 4, none, .tk (.c (.str []))⟩])
    (.seq (.block 0 (l_strings_trimRightASCII_0)) r_strings_trimRightASCII_0)) }

-- strings.trimLeftUnicode
def b_strings_trimLeftUnicode_0 : AC :=
  .seq (.seq (.reg [⟨some 7, none, .mv (.t 0)⟩, ⟨some 8, none, .len true (.t 7)⟩, ⟨some 9, none, .ic .gtr (.t 8) (.c (.int .i64 0))⟩])
    (.cond (.t 9)
      (.skip)
      (.exit 0)))
  (.block 1 (.seq (.reg [⟨some 11, none, .mv (.t 0)⟩, ⟨some 12, none, .callc n_unicode_utf8_DecodeRuneInString [(.t 11)]⟩, ⟨some 10, none, .mv (.t 12)⟩, ⟨some 13, none, .ext (.t 10) 0⟩, ⟨some 14, none, .ext (.t 10) 1⟩, ⟨some 5, none, .tk (.t 13)⟩, ⟨some 6, none, .tk (.t 14)⟩])
    (.seq (.seq (.reg [⟨some 15, none, .mv (.t 1)⟩, ⟨some 16, none, .mv (.t 5)⟩, ⟨some 17, none, .callc n_strings_ContainsRune [(.t 15), (.t 16)]⟩, ⟨some 18, none, .notb (.t 17)⟩])
      (.cond (.t 18)
        (.exit 0)
        (.skip)))
    (.reg [⟨some 19, none, .mv (.t 0)⟩, ⟨some 20, none, .mv (.t 6)⟩, ⟨some 21, none, .slc (.t 19) (some (.t 20)) none⟩, ⟨some 0, none, .tk (.t 21)⟩]))))

def l_strings_trimLeftUnicode_0 : AC :=
  .loop [0, 1] b_strings_trimLeftUnicode_0

def r_strings_trimLeftUnicode_0 : AC :=
  .seq (.reg [⟨some 22, none, .mv (.t 0)⟩, ⟨some 4, none, .tk (.t 22)⟩])
  (.ret)

def c_strings_trimLeftUnicode : AFunc :=
  { np := 2, res := [.t 4], body := (
    .seq (.reg [⟨some 4, none, .tk (.c (.str []))⟩])
    (.seq (.block 0 (l_strings_trimLeftUnicode_0)) r_strings_trimLeftUnicode_0)) }

-- strings.trimRightUnicode
def b_strings_trimRightUnicode_0 : AC :=
  .seq (.seq (.reg [⟨some 7, none, .mv (.t 0)⟩, ⟨some 8, none, .len true (.t 7)⟩, ⟨some 9, none, .ic .gtr (.t 8) (.c (.int .i64 0))⟩])
    (.cond (.t 9)
      (.skip)
      (.exit 0)))
  (.block 1 (.seq (.reg [⟨some 10, none, .mv (.t 0)⟩, ⟨some 11, none, .mv (.t 0)⟩, ⟨some 12, none, .len true (.t 11)⟩, ⟨some 13, none, .ia .sub .i64 (.t 12) (.c (.int .i64 1))⟩, ⟨some 14, none, .ixs (.t 10) (.t 13)⟩, ⟨some 15, none, .conv .i32 (.t 14)⟩, ⟨some 5, none, .tk (.t 15)⟩, ⟨some 6, none, .tk (.c (.int .i64 1))⟩])
    (.seq (.seq (.reg [⟨some 16, none, .mv (.t 5)⟩, ⟨some 17, none, .ic .geq (.t 16) (.c (.int .i32 128))⟩])
      (.cond (.t 17)
        (.reg [⟨some 19, none, .mv (.t 0)⟩, ⟨some 20, none, .callc n_unicode_utf8_DecodeLastRuneInString [(.t 19)]⟩, ⟨some 18, none, .mv (.t 20)⟩, ⟨some 21, none, .ext (.t 18) 0⟩, ⟨some 22, none, .ext (.t 18) 1⟩, ⟨some 5, none, .tk (.t 21)⟩, ⟨some 6, none, .tk (.t 22)⟩])
        (.skip)))
    (.seq (.seq (.reg [⟨some 23, none, .mv (.t 1)⟩, ⟨some 24, none, .mv (.t 5)⟩, ⟨some 25, none, .callc n_strings_ContainsRune [(.t 23), (.t 24)]⟩, ⟨some 26, none, .notb (.t 25)⟩])
      (.cond (.t 26)
        (.exit 0)
        (.skip)))
    (.reg [⟨some 27, none, .mv (.t 0)⟩, ⟨some 28, none, .mv (.t 0)⟩, ⟨some 29, none, .len true (.t 28)⟩, ⟨some 30, none, .mv (.t 6)⟩, ⟨some 31, none, .ia .sub .i64 (.t 29) (.t 30)⟩, ⟨some 32, none, .slc (.t 27) none (some (.t 31))⟩, ⟨some 0, none, .tk (.t 32)⟩])))))

def l_strings_trimRightUnicode_0 : AC :=
  .loop [0, 1] b_strings_trimRightUnicode_0

def r_strings_trimRightUnicode_0 : AC :=
  .seq (.reg [⟨some 33, none, .mv (.t 0)⟩, ⟨some 4, none, .tk (.t 33)⟩])
  (.ret)

def c_strings_trimRightUnicode : AFunc :=
  { np := 2, res := [.t 4], body := (
    .seq (.reg [⟨some 4, none, .tk (.c (.str []))⟩])
    (.seq (.block 0 (l_strings_trimRightUnicode_0)) r_strings_trimRightUnicode_0)) }

-- internal/stringslite.HasPrefix
def c_internal_stringslite_HasPrefix : AFunc :=
  { np := 2, res := [.t 4], body := (
    .seq (.reg [⟨some 4, none, .tk (.c (.bool false))⟩])
    (.seq (.reg [⟨some 5, none, .mv (.t 0)⟩, ⟨some 6, none, .len true (.t 5)⟩, ⟨some 7, none, .mv (.t 1)⟩, ⟨some 8, none, .len true (.t 7)⟩, ⟨some 9, none, .ic .geq (.t 6) (.t 8)⟩, ⟨some 10, none, .mv (.t 9)⟩, ⟨some 11, (some (10, true)), .mv (.t 0)⟩, ⟨some 12, (some (10, true)), .mv (.t 1)⟩, ⟨some 13, (some (10, true)), .len true (.t 12)⟩, ⟨some 14, (some (10, true)), .slc (.t 11) none (some (.t 13))⟩, ⟨some 15, (some (10, true)), .mv (.t 1)⟩, ⟨some 16, (some (10, true)), .sop .eql (.t 14) (.t 15)⟩, ⟨some 17, none, .pick (.t 10) (.t 16) (.c (.bool false))⟩, ⟨some 4, none, .tk (.t 17)⟩])
    (.ret))) }

-- (*strings.asciiSet).contains
def c_pstrings_asciiSet_contains : AFunc :=
  { np := 2, res := [.t 4], body := (
    .seq (.reg [⟨some 4, none, .tk (.c (.bool false))⟩])
    (.seq (.reg [⟨some 5, none, .mv (.t 0)⟩, ⟨some 6, none, .mv (.t 1)⟩, ⟨some 7, none, .nck (.t 5)⟩, ⟨some 8, none, .ixa 1 (some 256) (.t 7) (.t 6)⟩, ⟨some 9, none, .ld none (.t 8)⟩, ⟨some 4, none, .tk (.t 9)⟩])
    (.ret))) }

-- unicode/utf8.DecodeRuneInString
def c_unicode_utf8_DecodeRuneInString : AFunc :=
  { np := 1, res := [.t 2, .t 3], body := (
    .seq (.reg [⟨some 2, none, .tk (.c (.int .i32 0))⟩, ⟨some 3, none, .tk (.c (.int .i64 0))⟩])
    (.seq (.seq (.reg [⟨some 4, none, .mv (.t 0)⟩, ⟨some 5, none, .sop .neq (.t 4) (.c (.str []))⟩, ⟨some 6, none, .mv (.t 5)⟩, ⟨some 7, (some (6, true)), .mv (.t 0)⟩, ⟨some 8, (some (6, true)), .ixs (.t 7) (.c (.int .i64 0))⟩, ⟨some 9, (some (6, true)), .ic .lss (.t 8) (.c (.int .u8 128))⟩, ⟨some 10, none, .pick (.t 6) (.t 9) (.c (.bool false))⟩])
      (.cond (.t 10)
        (.seq (.reg [⟨some 11, none, .mv (.t 0)⟩, ⟨some 12, none, .ixs (.t 11) (.c (.int .i64 0))⟩, ⟨some 13, none, .conv .i32 (.t 12)⟩, ⟨some 2, none, .tk (.t 13)⟩, ⟨some 3, none, .tk (.c (.int .i64 1))⟩])
          (.ret))
        (.reg [⟨some 15, none, .mv (.t 0)⟩, ⟨some 16, none, .callc n_unicode_utf8_decodeRuneInStringSlow [(.t 15)]⟩, ⟨some 14, none, .mv (.t 16)⟩, ⟨some 17, none, .ext (.t 14) 0⟩, ⟨some 18, none, .ext (.t 14) 1⟩, ⟨some 2, none, .tk (.t 17)⟩, ⟨some 3, none, .tk (.t 18)⟩])))
    (.ret))) }

-- strings.ContainsRune
def c_strings_ContainsRune : AFunc :=
  { np := 2, res := [.t 4], body := (
    .seq (.reg [⟨some 4, none, .tk (.c (.bool false))⟩])
    (.seq (.reg [⟨some 5, none, .mv (.t 0)⟩, ⟨some 6, none, .mv (.t 1)⟩, ⟨some 7, none, .callc n_strings_IndexRune [(.t 5), (.t 6)]⟩, ⟨some 8, none, .ic .geq (.t 7) (.c (.int .i64 0))⟩, ⟨some 4, none, .tk (.t 8)⟩])
    (.ret))) }

-- unicode/utf8.DecodeLastRuneInString
def b_unicode_utf8_DecodeLastRuneInString_0 : AC :=
  .seq (.seq (.reg [⟨some 25, none, .mv (.t 5)⟩, ⟨some 26, none, .mv (.t 6)⟩, ⟨some 27, none, .ic .geq (.t 25) (.t 26)⟩])
    (.cond (.t 27)
      (.skip)
      (.exit 0)))
  (.seq (.block 1 (.seq (.reg [⟨some 30, none, .mv (.t 0)⟩, ⟨some 31, none, .mv (.t 5)⟩, ⟨some 32, none, .ixs (.t 30) (.t 31)⟩, ⟨some 33, none, .callc n_unicode_utf8_RuneStart [(.t 32)]⟩])
      (.cond (.t 33)
        (.exit 0)
        (.skip))))
  (.reg [⟨some 28, none, .mv (.t 5)⟩, ⟨some 29, none, .ia .sub .i64 (.t 28) (.c (.int .i64 1))⟩, ⟨some 5, none, .tk (.t 29)⟩]))

def l_unicode_utf8_DecodeLastRuneInString_0 : AC :=
  .loop [0, 4, 5, 6] b_unicode_utf8_DecodeLastRuneInString_0

def r_unicode_utf8_DecodeLastRuneInString_0 : AC :=
  .seq (.seq (.reg [⟨some 34, none, .mv (.t 5)⟩, ⟨some 35, none, .ic .lss (.t 34) (.c (.int .i64 0))⟩])
    (.cond (.t 35)
      (.reg [⟨some 5, none, .tk (.c (.int .i64 0))⟩])
      (.skip)))
  (.seq (.reg [⟨some 37, none, .mv (.t 0)⟩, ⟨some 38, none, .mv (.t 5)⟩, ⟨some 39, none, .mv (.t 4)⟩, ⟨some 40, none, .slc (.t 37) (some (.t 38)) (some (.t 39))⟩, ⟨some 41, none, .callc n_unicode_utf8_DecodeRuneInString [(.t 40)]⟩, ⟨some 36, none, .mv (.t 41)⟩, ⟨some 42, none, .ext (.t 36) 0⟩, ⟨some 43, none, .ext (.t 36) 1⟩, ⟨some 2, none, .tk (.t 42)⟩, ⟨some 3, none, .tk (.t 43)⟩])
  (.seq (.seq (.reg [⟨some 44, none, .mv (.t 5)⟩, ⟨some 45, none, .mv (.t 3)⟩, ⟨some 46, none, .ia .add .i64 (.t 44) (.t 45)⟩, ⟨some 47, none, .mv (.t 4)⟩, ⟨some 48, none, .ic .neq (.t 46) (.t 47)⟩])
    (.cond (.t 48)
      (.seq (.reg [⟨some 2, none, .tk (.c (.int .i32 65533))⟩, ⟨some 3, none, .tk (.c (.int .i64 1))⟩])
        (.ret))
      (.skip)))
  (.seq (.reg [⟨some 49, none, .mv (.t 2)⟩, ⟨some 50, none, .mv (.t 3)⟩, ⟨some 2, none, .tk (.t 49)⟩, ⟨some 3, none, .tk (.t 50)⟩])
  (.ret))))

def c_unicode_utf8_DecodeLastRuneInString : AFunc :=
  { np := 1, res := [.t 2, .t 3], body := (
    .seq (.reg [⟨some 2, none, .tk (.c (.int .i32 0))⟩, ⟨some 3, none, .tk (.c (.int .i64 0))⟩])
    (.seq (.reg [⟨some 7, none, .mv (.t 0)⟩, ⟨some 8, none, .len true (.t 7)⟩, ⟨some 4, none, .tk (.t 8)⟩])
    (.seq (.seq (.reg [⟨some 9, none, .mv (.t 4)⟩, ⟨some 10, none, .ic .eql (.t 9) (.c (.int .i64 0))⟩])
      (.cond (.t 10)
        (.seq (.reg [⟨some 2, none, .tk (.c (.int .i32 65533))⟩, ⟨some 3, none, .tk (.c (.int .i64 0))⟩])
          (.ret))
        (.skip)))
    (.seq (.reg [⟨some 11, none, .mv (.t 4)⟩, ⟨some 12, none, .ia .sub .i64 (.t 11) (.c (.int .i64 1))⟩, ⟨some 5, none, .tk (.t 12)⟩])
    (.seq (.reg [⟨some 13, none, .mv (.t 0)⟩, ⟨some 14, none, .mv (.t 5)⟩, ⟨some 15, none, .ixs (.t 13) (.t 14)⟩, ⟨some 16, none, .conv .i32 (.t 15)⟩, ⟨some 2, none, .tk (.t 16)⟩])
    (.seq (.seq (.reg [⟨some 17, none, .mv (.t 2)⟩, ⟨some 18, none, .ic .lss (.t 17) (.c (.int .i32 128))⟩])
      (.cond (.t 18)
        (.seq (.reg [⟨some 19, none, .mv (.t 2)⟩, ⟨some 2, none, .tk (.t 19)⟩, ⟨some 3, none, .tk (.c (.int .i64 1))⟩])
          (.ret))
        (.skip)))
    (.seq (.reg [⟨some 20, none, .mv (.t 4)⟩, ⟨some 21, none, .ia .sub .i64 (.t 20) (.c (.int .i64 4))⟩, ⟨some 22, none, .mx true [(.t 21), (.c (.int .i64 0))]⟩, ⟨some 6, none, .tk (.t 22)⟩])
    (.seq (.seq (.reg [⟨some 23, none, .mv (.t 5)⟩, ⟨some 24, none, .ia .sub .i64 (.t 23) (.c (.int .i64 1))⟩, ⟨some 5, none, .tk (.t 24)⟩])
      (.block 0 (l_unicode_utf8_DecodeLastRuneInString_0))) r_unicode_utf8_DecodeLastRuneInString_0)))))))) }

-- unicode/utf8.RuneStart
def c_unicode_utf8_RuneStart : AFunc :=
  { np := 1, res := [.t 2], body := (
    .seq (.reg [⟨some 2, none, .tk (.c (.bool false))⟩])
    (.seq (.reg [⟨some 3, none, .mv (.t 0)⟩, ⟨some 4, none, .ia .and .u8 (.t 3) (.c (.int .u8 192))⟩, ⟨some 5, none, .ic .neq (.t 4) (.c (.int .u8 128))⟩, ⟨some 2, none, .tk (.t 5)⟩])
    (.ret))) }

def tbl : Tbl := Tab.get [(6, c_flotsamlaw08_PathTells), (7, c_flotsamlaw08_PathBack), (37, c_flotsamlaw08_knows), (38, c_path_Split), (39, c_flotsamref08_Split), (40, c_path_Parent), (41, c_flotsamref08_Parent), (42, c_flotsamlaw08_Texts), (43, c_flotsamlaw08_num), (44, c_path_Join), (45, c_flotsamref08_Join), (46, c_path_Under), (47, c_flotsamref08_Under), (48, c_flotsamref07_Name), (75, c_layout_Name), (104, c_strings_CutPrefix), (106, c_slices_ContainsFunc_string_string), (107, c_path_Split_1), (108, c_slices_Equal_string_string), (135, c_strings_Trim), (150, c_internal_stringslite_CutPrefix), (152, c_slices_IndexFunc_string_string), (164, c_strings_trimLeftByte), (165, c_strings_trimRightByte), (166, c_strings_makeASCIISet), (167, c_strings_trimLeftASCII), (168, c_strings_trimRightASCII), (169, c_strings_trimLeftUnicode), (170, c_strings_trimRightUnicode), (176, c_internal_stringslite_HasPrefix), (193, c_pstrings_asciiSet_contains), (194, c_unicode_utf8_DecodeRuneInString), (195, c_strings_ContainsRune), (196, c_unicode_utf8_DecodeLastRuneInString), (211, c_unicode_utf8_RuneStart)]

theorem t_flotsamlaw08_PathTells : tbl n_flotsamlaw08_PathTells = some c_flotsamlaw08_PathTells := by kernel_rfl
theorem t_flotsamlaw08_PathBack : tbl n_flotsamlaw08_PathBack = some c_flotsamlaw08_PathBack := by kernel_rfl
theorem t_flotsamlaw08_knows : tbl n_flotsamlaw08_knows = some c_flotsamlaw08_knows := by kernel_rfl
theorem t_path_Split : tbl n_path_Split = some c_path_Split := by kernel_rfl
theorem t_flotsamref08_Split : tbl n_flotsamref08_Split = some c_flotsamref08_Split := by kernel_rfl
theorem t_path_Parent : tbl n_path_Parent = some c_path_Parent := by kernel_rfl
theorem t_flotsamref08_Parent : tbl n_flotsamref08_Parent = some c_flotsamref08_Parent := by kernel_rfl
theorem t_flotsamlaw08_Texts : tbl n_flotsamlaw08_Texts = some c_flotsamlaw08_Texts := by kernel_rfl
theorem t_flotsamlaw08_num : tbl n_flotsamlaw08_num = some c_flotsamlaw08_num := by kernel_rfl
theorem t_path_Join : tbl n_path_Join = some c_path_Join := by kernel_rfl
theorem t_flotsamref08_Join : tbl n_flotsamref08_Join = some c_flotsamref08_Join := by kernel_rfl
theorem t_path_Under : tbl n_path_Under = some c_path_Under := by kernel_rfl
theorem t_flotsamref08_Under : tbl n_flotsamref08_Under = some c_flotsamref08_Under := by kernel_rfl
theorem t_flotsamref07_Name : tbl n_flotsamref07_Name = some c_flotsamref07_Name := by kernel_rfl
theorem t_layout_Name : tbl n_layout_Name = some c_layout_Name := by kernel_rfl
theorem t_strings_CutPrefix : tbl n_strings_CutPrefix = some c_strings_CutPrefix := by kernel_rfl
theorem t_slices_ContainsFunc_string_string : tbl n_slices_ContainsFunc_string_string = some c_slices_ContainsFunc_string_string := by kernel_rfl
theorem t_path_Split_1 : tbl n_path_Split_1 = some c_path_Split_1 := by kernel_rfl
theorem t_slices_Equal_string_string : tbl n_slices_Equal_string_string = some c_slices_Equal_string_string := by kernel_rfl
theorem t_strings_Trim : tbl n_strings_Trim = some c_strings_Trim := by kernel_rfl
theorem t_internal_stringslite_CutPrefix : tbl n_internal_stringslite_CutPrefix = some c_internal_stringslite_CutPrefix := by kernel_rfl
theorem t_slices_IndexFunc_string_string : tbl n_slices_IndexFunc_string_string = some c_slices_IndexFunc_string_string := by kernel_rfl
theorem t_strings_trimLeftByte : tbl n_strings_trimLeftByte = some c_strings_trimLeftByte := by kernel_rfl
theorem t_strings_trimRightByte : tbl n_strings_trimRightByte = some c_strings_trimRightByte := by kernel_rfl
theorem t_strings_makeASCIISet : tbl n_strings_makeASCIISet = some c_strings_makeASCIISet := by kernel_rfl
theorem t_strings_trimLeftASCII : tbl n_strings_trimLeftASCII = some c_strings_trimLeftASCII := by kernel_rfl
theorem t_strings_trimRightASCII : tbl n_strings_trimRightASCII = some c_strings_trimRightASCII := by kernel_rfl
theorem t_strings_trimLeftUnicode : tbl n_strings_trimLeftUnicode = some c_strings_trimLeftUnicode := by kernel_rfl
theorem t_strings_trimRightUnicode : tbl n_strings_trimRightUnicode = some c_strings_trimRightUnicode := by kernel_rfl
theorem t_internal_stringslite_HasPrefix : tbl n_internal_stringslite_HasPrefix = some c_internal_stringslite_HasPrefix := by kernel_rfl
theorem t_pstrings_asciiSet_contains : tbl n_pstrings_asciiSet_contains = some c_pstrings_asciiSet_contains := by kernel_rfl
theorem t_unicode_utf8_DecodeRuneInString : tbl n_unicode_utf8_DecodeRuneInString = some c_unicode_utf8_DecodeRuneInString := by kernel_rfl
theorem t_strings_ContainsRune : tbl n_strings_ContainsRune = some c_strings_ContainsRune := by kernel_rfl
theorem t_unicode_utf8_DecodeLastRuneInString : tbl n_unicode_utf8_DecodeLastRuneInString = some c_unicode_utf8_DecodeLastRuneInString := by kernel_rfl
theorem t_unicode_utf8_RuneStart : tbl n_unicode_utf8_RuneStart = some c_unicode_utf8_RuneStart := by kernel_rfl

/-- The functions that are taken as given. -/
def noExt : Ext := fun k => if k = n_strings_Split then some (xSplit) else if k = n_strings_Join then some (xJoin) else none

theorem lt_flotsamlaw08_PathTells : n_flotsamlaw08_PathTells < yBase := Nat.le_of_ble_eq_true rfl
theorem lt_flotsamlaw08_PathBack : n_flotsamlaw08_PathBack < yBase := Nat.le_of_ble_eq_true rfl
theorem lt_flotsamlaw08_knows : n_flotsamlaw08_knows < yBase := Nat.le_of_ble_eq_true rfl
theorem lt_path_Split : n_path_Split < yBase := Nat.le_of_ble_eq_true rfl
theorem lt_flotsamref08_Split : n_flotsamref08_Split < yBase := Nat.le_of_ble_eq_true rfl
theorem lt_path_Parent : n_path_Parent < yBase := Nat.le_of_ble_eq_true rfl
theorem lt_flotsamref08_Parent : n_flotsamref08_Parent < yBase := Nat.le_of_ble_eq_true rfl
theorem lt_flotsamlaw08_Texts : n_flotsamlaw08_Texts < yBase := Nat.le_of_ble_eq_true rfl
theorem lt_flotsamlaw08_num : n_flotsamlaw08_num < yBase := Nat.le_of_ble_eq_true rfl
theorem lt_path_Join : n_path_Join < yBase := Nat.le_of_ble_eq_true rfl
theorem lt_flotsamref08_Join : n_flotsamref08_Join < yBase := Nat.le_of_ble_eq_true rfl
theorem lt_path_Under : n_path_Under < yBase := Nat.le_of_ble_eq_true rfl
theorem lt_flotsamref08_Under : n_flotsamref08_Under < yBase := Nat.le_of_ble_eq_true rfl
theorem lt_flotsamref07_Name : n_flotsamref07_Name < yBase := Nat.le_of_ble_eq_true rfl
theorem lt_layout_Name : n_layout_Name < yBase := Nat.le_of_ble_eq_true rfl
theorem lt_strings_Join : n_strings_Join < yBase := Nat.le_of_ble_eq_true rfl
theorem lt_strings_CutPrefix : n_strings_CutPrefix < yBase := Nat.le_of_ble_eq_true rfl
theorem lt_strings_Split : n_strings_Split < yBase := Nat.le_of_ble_eq_true rfl
theorem lt_slices_ContainsFunc_string_string : n_slices_ContainsFunc_string_string < yBase := Nat.le_of_ble_eq_true rfl
theorem lt_path_Split_1 : n_path_Split_1 < yBase := Nat.le_of_ble_eq_true rfl
theorem lt_slices_Equal_string_string : n_slices_Equal_string_string < yBase := Nat.le_of_ble_eq_true rfl
theorem lt_strings_Trim : n_strings_Trim < yBase := Nat.le_of_ble_eq_true rfl
theorem lt_internal_stringslite_CutPrefix : n_internal_stringslite_CutPrefix < yBase := Nat.le_of_ble_eq_true rfl
theorem lt_slices_IndexFunc_string_string : n_slices_IndexFunc_string_string < yBase := Nat.le_of_ble_eq_true rfl
theorem lt_strings_trimLeftByte : n_strings_trimLeftByte < yBase := Nat.le_of_ble_eq_true rfl
theorem lt_strings_trimRightByte : n_strings_trimRightByte < yBase := Nat.le_of_ble_eq_true rfl
theorem lt_strings_makeASCIISet : n_strings_makeASCIISet < yBase := Nat.le_of_ble_eq_true rfl
theorem lt_strings_trimLeftASCII : n_strings_trimLeftASCII < yBase := Nat.le_of_ble_eq_true rfl
theorem lt_strings_trimRightASCII : n_strings_trimRightASCII < yBase := Nat.le_of_ble_eq_true rfl
theorem lt_strings_trimLeftUnicode : n_strings_trimLeftUnicode < yBase := Nat.le_of_ble_eq_true rfl
theorem lt_strings_trimRightUnicode : n_strings_trimRightUnicode < yBase := Nat.le_of_ble_eq_true rfl
theorem lt_internal_stringslite_HasPrefix : n_internal_stringslite_HasPrefix < yBase := Nat.le_of_ble_eq_true rfl
theorem lt_pstrings_asciiSet_contains : n_pstrings_asciiSet_contains < yBase := Nat.le_of_ble_eq_true rfl
theorem lt_unicode_utf8_DecodeRuneInString : n_unicode_utf8_DecodeRuneInString < yBase := Nat.le_of_ble_eq_true rfl
theorem lt_strings_ContainsRune : n_strings_ContainsRune < yBase := Nat.le_of_ble_eq_true rfl
theorem lt_unicode_utf8_DecodeLastRuneInString : n_unicode_utf8_DecodeLastRuneInString < yBase := Nat.le_of_ble_eq_true rfl
theorem lt_unicode_utf8_decodeRuneInStringSlow : n_unicode_utf8_decodeRuneInStringSlow < yBase := Nat.le_of_ble_eq_true rfl
theorem lt_strings_IndexRune : n_strings_IndexRune < yBase := Nat.le_of_ble_eq_true rfl
theorem lt_unicode_utf8_RuneStart : n_unicode_utf8_RuneStart < yBase := Nat.le_of_ble_eq_true rfl

end Go.AM
