/-
  The abstract code of the functions, printed by a program (gen.py) out of the loaded program, and each function's place in the table.
-/
import Derived.Test.YtjikegkjngamgaaDoorXlib
namespace Go.AM

abbrev bT : Nat := 62
abbrev bE : Nat := 5
def n_flotsamlaw15_LexWords : Nat := 3
def n_flotsamlaw15_LexShows : Nat := 4
def n_flotsamlaw15_LexBack : Nat := 5
def n_flotsamlaw15_knows : Nat := 6
def n_lex_Words : Nat := 7
def n_flotsamref15_Words : Nat := 8
def n_flotsamref15_Same : Nat := 9
def n_flotsamlaw15_Fault : Nat := 10
def n_lex_Key : Nat := 11
def n_flotsamref15_Key : Nat := 12
def n_lex_Name : Nat := 13
def n_flotsamref15_Name : Nat := 14
def n_lex_Show : Nat := 15
def n_flotsamref15_Show : Nat := 16
def n_lex_skip : Nat := 17
def n_lex_next : Nat := 18
def n_flotsamref15_skip : Nat := 19
def n_flotsamref15_one : Nat := 20
def n_strings_Contains : Nat := 21
def n_lex_begins : Nat := 22
def n_lex_letter : Nat := 23
def n_lex_run : Nat := 24
def n_lex_inner : Nat := 25
def n_flotsamref15_letter : Nat := 26
def n_flotsamref15_inner : Nat := 27
def n_num_Digits : Nat := 28
def n_view_Quote : Nat := 29
def n_slices_Equal_api_Word_api_Word : Nat := 30
def n_flotsamref01_Digits : Nat := 31
def n_flotsamref14_Quote : Nat := 32
def n_flotsamref15_Sign : Nat := 33
def n_strings_TrimLeft : Nat := 34
def n_strings_HasPrefix : Nat := 35
def n_strings_IndexByte : Nat := 36
def n_lex_word : Nat := 37
def n_lex_digit : Nat := 38
def n_lex_number : Nat := 39
def n_lex_text : Nat := 40
def n_lex_sign : Nat := 41
def n_flotsamref15_digit : Nat := 42
def n_flotsamref01_Read : Nat := 43
def n_flotsamref14_Unquote : Nat := 44
def n_pstrings_Builder_WriteByte : Nat := 48
def n_view_plain : Nat := 49
def n_pstrings_Builder_String : Nat := 50
def n_flotsamref14_sign : Nat := 51
def n_internal_stringslite_HasPrefix : Nat := 56
def n_num_Read : Nat := 58
def n_view_Unquote : Nat := 59
def n_flotsamref14_value : Nat := 60
def n_strings_CutPrefix : Nat := 68
def n_strings_CutSuffix : Nat := 69
def n_view_pair : Nat := 70
def n_internal_stringslite_CutPrefix : Nat := 77
def n_internal_stringslite_CutSuffix : Nat := 78
def n_internal_stringslite_HasSuffix : Nat := 81


-- flotsam/flotsamlaw15.LexWords
def c_flotsamlaw15_LexWords : AFunc :=
  { np := 1, res := [.t 2], body := (
    .seq (.reg [⟨some 2, none, .tk (.c (.bool false))⟩])
    (.seq (.seq (.reg [⟨some 7, none, .mv (.t 0)⟩, ⟨some 8, none, .len true (.t 7)⟩, ⟨some 9, none, .ic .gtr (.t 8) (.c (.int .i64 5000))⟩])
      (.cond (.t 9)
        (.seq (.reg [⟨some 10, none, .callc n_flotsamlaw15_knows []⟩, ⟨some 2, none, .tk (.t 10)⟩])
          (.ret))
        (.skip)))
    (.seq (.reg [⟨some 12, none, .mv (.t 0)⟩, ⟨some 13, none, .callc n_lex_Words [(.t 12)]⟩, ⟨some 11, none, .mv (.t 13)⟩, ⟨some 14, none, .ext (.t 11) 0⟩, ⟨some 15, none, .ext (.t 11) 1⟩, ⟨some 4, none, .alloc [.int .i64 0, .int .i64 0]⟩, ⟨some 3, none, .tk (.t 14)⟩, ⟨none, none, .st 2 (.t 4) (.t 15)⟩])
    (.seq (.reg [⟨some 17, none, .mv (.t 0)⟩, ⟨some 18, none, .callc n_flotsamref15_Words [(.t 17)]⟩, ⟨some 16, none, .mv (.t 18)⟩, ⟨some 19, none, .ext (.t 16) 0⟩, ⟨some 20, none, .ext (.t 16) 1⟩, ⟨some 6, none, .alloc [.int .i64 0, .int .i64 0]⟩, ⟨some 5, none, .tk (.t 19)⟩, ⟨none, none, .st 2 (.t 6) (.t 20)⟩])
    (.seq (.reg [⟨some 21, none, .mv (.t 3)⟩, ⟨some 22, none, .mv (.t 5)⟩, ⟨some 23, none, .callc n_flotsamref15_Same [(.t 21), (.t 22)]⟩, ⟨some 24, none, .mv (.t 23)⟩, ⟨some 25, (some (24, true)), .ld (some 2) (.t 4)⟩, ⟨some 26, (some (24, true)), .ld (some 2) (.t 6)⟩, ⟨some 27, (some (24, true)), .callc n_flotsamlaw15_Fault [(.t 25), (.t 26)]⟩, ⟨some 28, none, .pick (.t 24) (.t 27) (.c (.bool false))⟩, ⟨some 29, none, .mv (.t 28)⟩, ⟨some 30, (some (29, true)), .mv (.t 0)⟩, ⟨some 31, (some (29, true)), .callc n_lex_Key [(.t 30)]⟩, ⟨some 32, (some (29, true)), .mv (.t 0)⟩, ⟨some 33, (some (29, true)), .callc n_flotsamref15_Key [(.t 32)]⟩, ⟨some 34, (some (29, true)), .eqb false (.t 31) (.t 33)⟩, ⟨some 35, none, .pick (.t 29) (.t 34) (.c (.bool false))⟩, ⟨some 36, none, .mv (.t 35)⟩, ⟨some 37, (some (36, true)), .mv (.t 0)⟩, ⟨some 38, (some (36, true)), .callc n_lex_Name [(.t 37)]⟩, ⟨some 39, (some (36, true)), .mv (.t 0)⟩, ⟨some 40, (some (36, true)), .callc n_flotsamref15_Name [(.t 39)]⟩, ⟨some 41, (some (36, true)), .eqb false (.t 38) (.t 40)⟩, ⟨some 42, none, .pick (.t 36) (.t 41) (.c (.bool false))⟩, ⟨some 43, none, .mv (.t 42)⟩, ⟨some 44, (some (43, true)), .callc n_flotsamlaw15_knows []⟩, ⟨some 45, none, .pick (.t 43) (.t 44) (.c (.bool false))⟩, ⟨some 2, none, .tk (.t 45)⟩])
    (.ret)))))) }

-- flotsam/flotsamlaw15.LexShows
def c_flotsamlaw15_LexShows : AFunc :=
  { np := 1, res := [.t 2], body := (
    .seq (.reg [⟨some 1, none, .box (.t 0)⟩, ⟨some 2, none, .tk (.c (.bool false))⟩])
    (.seq (.seq (.reg [⟨some 7, none, .fa 1 (.t 1)⟩, ⟨some 8, none, .ld none (.t 7)⟩, ⟨some 9, none, .len true (.t 8)⟩, ⟨some 10, none, .ic .gtr (.t 9) (.c (.int .i64 500))⟩])
      (.cond (.t 10)
        (.seq (.reg [⟨some 11, none, .callc n_flotsamlaw15_knows []⟩, ⟨some 2, none, .tk (.t 11)⟩])
          (.ret))
        (.skip)))
    (.seq (.reg [⟨some 13, none, .ld (some 4) (.t 1)⟩, ⟨some 14, none, .callc n_lex_Show [(.t 13)]⟩, ⟨some 12, none, .mv (.t 14)⟩, ⟨some 15, none, .ext (.t 12) 0⟩, ⟨some 16, none, .ext (.t 12) 1⟩, ⟨some 3, none, .tk (.t 15)⟩, ⟨some 4, none, .tk (.t 16)⟩])
    (.seq (.reg [⟨some 18, none, .ld (some 4) (.t 1)⟩, ⟨some 19, none, .callc n_flotsamref15_Show [(.t 18)]⟩, ⟨some 17, none, .mv (.t 19)⟩, ⟨some 20, none, .ext (.t 17) 0⟩, ⟨some 21, none, .ext (.t 17) 1⟩, ⟨some 5, none, .tk (.t 20)⟩, ⟨some 6, none, .tk (.t 21)⟩])
    (.seq (.reg [⟨some 22, none, .mv (.t 3)⟩, ⟨some 23, none, .mv (.t 5)⟩, ⟨some 24, none, .sop .eql (.t 22) (.t 23)⟩, ⟨some 25, none, .mv (.t 24)⟩, ⟨some 26, (some (25, true)), .mv (.t 4)⟩, ⟨some 27, (some (25, true)), .mv (.t 6)⟩, ⟨some 28, (some (25, true)), .eqb false (.t 26) (.t 27)⟩, ⟨some 29, none, .pick (.t 25) (.t 28) (.c (.bool false))⟩, ⟨some 30, none, .mv (.t 29)⟩, ⟨some 31, (some (30, true)), .callc n_flotsamlaw15_knows []⟩, ⟨some 32, none, .pick (.t 30) (.t 31) (.c (.bool false))⟩, ⟨some 2, none, .tk (.t 32)⟩])
    (.ret)))))) }

-- flotsam/flotsamlaw15.LexBack
def b_flotsamlaw15_LexBack_0 : AC :=
  .seq (.seq (.reg [⟨some 28, none, .mv (.t 5)⟩, ⟨some 29, none, .mv (.t 1)⟩, ⟨some 30, none, .len true (.t 29)⟩, ⟨some 31, none, .ic .lss (.t 28) (.t 30)⟩])
    (.cond (.t 31)
      (.skip)
      (.exit 0)))
  (.seq (.block 1 (.seq (.reg [⟨some 34, none, .mv (.t 1)⟩, ⟨some 35, none, .mv (.t 5)⟩, ⟨some 36, none, .ixs (.t 34) (.t 35)⟩, ⟨some 37, none, .ic .eql (.t 36) (.c (.int .u8 10))⟩])
      (.cond (.t 37)
        (.seq (.reg [⟨some 4, none, .tk (.c (.bool true))⟩])
          (.ret))
        (.skip))))
  (.reg [⟨some 32, none, .mv (.t 5)⟩, ⟨some 33, none, .ia .add .i64 (.t 32) (.c (.int .i64 1))⟩, ⟨some 5, none, .tk (.t 33)⟩]))

def l_flotsamlaw15_LexBack_0 : AC :=
  .loop [0, 1, 5] b_flotsamlaw15_LexBack_0

def b_flotsamlaw15_LexBack_1 : AC :=
  .seq (.seq (.reg [⟨some 42, none, .mv (.t 9)⟩, ⟨some 43, none, .mv (.t 0)⟩, ⟨some 44, none, .len false (.t 43)⟩, ⟨some 45, none, .ic .lss (.t 42) (.t 44)⟩])
    (.cond (.t 45)
      (.skip)
      (.exit 2)))
  (.seq (.block 3 (.seq (.seq (.reg [⟨some 48, none, .mv (.t 0)⟩, ⟨some 49, none, .mv (.t 9)⟩, ⟨some 50, none, .ixa 4 none (.t 48) (.t 49)⟩, ⟨some 51, none, .fa 1 (.t 50)⟩, ⟨some 52, none, .ld none (.t 51)⟩, ⟨some 53, none, .len true (.t 52)⟩, ⟨some 54, none, .ic .gtr (.t 53) (.c (.int .i64 100))⟩])
        (.cond (.t 54)
          (.seq (.reg [⟨some 4, none, .tk (.c (.bool true))⟩])
            (.ret))
          (.skip)))
      (.seq (.reg [⟨some 56, none, .mv (.t 0)⟩, ⟨some 57, none, .mv (.t 9)⟩, ⟨some 58, none, .ixa 4 none (.t 56) (.t 57)⟩, ⟨some 59, none, .ld (some 4) (.t 58)⟩, ⟨some 60, none, .callc n_lex_Show [(.t 59)]⟩, ⟨some 55, none, .mv (.t 60)⟩, ⟨some 61, none, .ext (.t 55) 0⟩, ⟨some 62, none, .ext (.t 55) 1⟩, ⟨some 10, none, .tk (.t 61)⟩, ⟨some 11, none, .tk (.t 62)⟩])
      (.seq (.seq (.reg [⟨some 63, none, .mv (.t 11)⟩, ⟨some 64, none, .notb (.t 63)⟩])
        (.cond (.t 64)
          (.exit 3)
          (.skip)))
      (.seq (.reg [⟨some 65, none, .mv (.t 0)⟩, ⟨some 66, none, .mv (.t 9)⟩, ⟨some 67, none, .ixa 4 none (.t 65) (.t 66)⟩, ⟨some 68, none, .ld (some 4) (.t 67)⟩, ⟨some 12, none, .alloc [.int .i64 0, .str [], .int .i64 0, .int .i64 0]⟩, ⟨none, none, .st 4 (.t 12) (.t 68)⟩])
      (.seq (.reg [⟨some 69, none, .mv (.t 7)⟩, ⟨some 70, none, .len true (.t 69)⟩, ⟨some 71, none, .fa 3 (.t 12)⟩, ⟨none, none, .st 1 (.t 71) (.t 70)⟩])
      (.seq (.reg [⟨some 72, none, .tk (.t 8)⟩, ⟨some 73, none, .ld (some 4) (.t 12)⟩, ⟨some 74, none, .bsl 4 [.int .i64 0, .str [], .int .i64 0, .int .i64 0] 1 [(0, 4, (.t 73))] false⟩, ⟨some 75, none, .app 4 40 (.t 72) (.t 74) false⟩, ⟨some 8, none, .tk (.t 75)⟩])
      (.reg [⟨some 76, none, .mv (.t 7)⟩, ⟨some 77, none, .mv (.t 10)⟩, ⟨some 78, none, .sop .add (.t 76) (.t 77)⟩, ⟨some 79, none, .sop .add (.t 78) (.c (.str [32]))⟩, ⟨some 7, none, .tk (.t 79)⟩]))))))))
  (.reg [⟨some 46, none, .mv (.t 9)⟩, ⟨some 47, none, .ia .add .i64 (.t 46) (.c (.int .i64 1))⟩, ⟨some 9, none, .tk (.t 47)⟩]))

def l_flotsamlaw15_LexBack_1 : AC :=
  .loop [0, 1, 7, 8, 9] b_flotsamlaw15_LexBack_1

def r_flotsamlaw15_LexBack_0 : AC :=
  .seq (.reg [⟨some 80, none, .tk (.t 8)⟩, ⟨some 81, none, .mv (.t 7)⟩, ⟨some 82, none, .len true (.t 81)⟩, ⟨some 83, none, .ia .add .i64 (.t 82) (.c (.int .i64 1))⟩, ⟨some 84, none, .mv (.t 1)⟩, ⟨some 85, none, .len true (.t 84)⟩, ⟨some 86, none, .ia .add .i64 (.t 83) (.t 85)⟩, ⟨some 87, none, .bld [.int .i64 0, .str [], .int .i64 0, .int .i64 0] [(0, 1, (.c (.int .i64 0))), (3, 1, (.t 86))]⟩, ⟨some 88, none, .bsl 4 [.int .i64 0, .str [], .int .i64 0, .int .i64 0] 1 [(0, 4, (.t 87))] false⟩, ⟨some 89, none, .app 4 40 (.t 80) (.t 88) false⟩, ⟨some 8, none, .tk (.t 89)⟩])
  (.seq (.reg [⟨some 91, none, .mv (.t 7)⟩, ⟨some 92, none, .sop .add (.t 91) (.c (.str [35]))⟩, ⟨some 93, none, .mv (.t 1)⟩, ⟨some 94, none, .sop .add (.t 92) (.t 93)⟩, ⟨some 95, none, .callc n_lex_Words [(.t 94)]⟩, ⟨some 90, none, .mv (.t 95)⟩, ⟨some 96, none, .ext (.t 90) 0⟩, ⟨some 97, none, .ext (.t 90) 1⟩, ⟨some 14, none, .alloc [.int .i64 0, .int .i64 0]⟩, ⟨some 13, none, .tk (.t 96)⟩, ⟨none, none, .st 2 (.t 14) (.t 97)⟩])
  (.seq (.seq (.reg [⟨some 98, none, .mv (.t 7)⟩, ⟨some 99, none, .len true (.t 98)⟩, ⟨some 100, none, .ia .add .i64 (.t 99) (.c (.int .i64 1))⟩, ⟨some 101, none, .mv (.t 1)⟩, ⟨some 102, none, .len true (.t 101)⟩, ⟨some 103, none, .ia .add .i64 (.t 100) (.t 102)⟩, ⟨some 104, none, .ic .gtr (.t 103) (.c (.int .i64 4096))⟩])
    (.cond (.t 104)
      (.seq (.reg [⟨some 105, none, .ld (some 2) (.t 14)⟩, ⟨some 106, none, .bld [.int .i64 0, .int .i64 0] [(0, 1, (.c (.int .i64 14)))]⟩, ⟨some 107, none, .callc n_flotsamlaw15_Fault [(.t 105), (.t 106)]⟩, ⟨some 108, none, .mv (.t 107)⟩, ⟨some 109, (some (108, true)), .mv (.t 13)⟩, ⟨some 110, (some (108, true)), .len false (.t 109)⟩, ⟨some 111, (some (108, true)), .ic .eql (.t 110) (.c (.int .i64 0))⟩, ⟨some 112, none, .pick (.t 108) (.t 111) (.c (.bool false))⟩, ⟨some 4, none, .tk (.t 112)⟩])
        (.ret))
      (.skip)))
  (.seq (.reg [⟨some 113, none, .ld (some 2) (.t 14)⟩, ⟨some 114, none, .bld [.int .i64 0, .int .i64 0] []⟩, ⟨some 115, none, .callc n_flotsamlaw15_Fault [(.t 113), (.t 114)]⟩, ⟨some 116, none, .mv (.t 115)⟩, ⟨some 117, (some (116, true)), .mv (.t 13)⟩, ⟨some 118, (some (116, true)), .mv (.t 8)⟩, ⟨some 119, (some (116, true)), .callc n_flotsamref15_Same [(.t 117), (.t 118)]⟩, ⟨some 120, none, .pick (.t 116) (.t 119) (.c (.bool false))⟩, ⟨some 4, none, .tk (.t 120)⟩])
  (.ret))))

def r_flotsamlaw15_LexBack_1 : AC :=
  .seq (.reg [⟨some 38, none, .mv (.t 1)⟩, ⟨some 39, none, .sop .add (.c (.str [32, 9, 35])) (.t 38)⟩, ⟨some 40, none, .sop .add (.t 39) (.c (.str [10]))⟩, ⟨some 6, none, .tk (.t 40)⟩])
  (.seq (.reg [⟨some 41, none, .mv (.t 6)⟩, ⟨some 7, none, .tk (.t 41)⟩])
  (.seq (.reg [⟨some 8, none, .tk (.c (.own 4 []))⟩])
  (.seq (.seq (.reg [⟨some 9, none, .tk (.c (.int .i64 0))⟩])
    (.block 2 (l_flotsamlaw15_LexBack_1))) r_flotsamlaw15_LexBack_0)))

def c_flotsamlaw15_LexBack : AFunc :=
  { np := 2, res := [.t 4], body := (
    .seq (.reg [⟨some 4, none, .tk (.c (.bool false))⟩])
    (.seq (.seq (.reg [⟨some 15, none, .mv (.t 0)⟩, ⟨some 16, none, .len false (.t 15)⟩, ⟨some 17, none, .ic .gtr (.t 16) (.c (.int .i64 60))⟩, ⟨some 18, none, .mv (.t 17)⟩, ⟨some 19, (some (18, false)), .mv (.t 1)⟩, ⟨some 20, (some (18, false)), .len true (.t 19)⟩, ⟨some 21, (some (18, false)), .ic .gtr (.t 20) (.c (.int .i64 100))⟩, ⟨some 22, none, .pick (.t 18) (.c (.bool true)) (.t 21)⟩, ⟨some 23, none, .mv (.t 22)⟩, ⟨some 24, (some (23, false)), .callc n_flotsamlaw15_knows []⟩, ⟨some 25, (some (23, false)), .notb (.t 24)⟩, ⟨some 26, none, .pick (.t 23) (.c (.bool true)) (.t 25)⟩])
      (.cond (.t 26)
        (.seq (.reg [⟨some 27, none, .callc n_flotsamlaw15_knows []⟩, ⟨some 4, none, .tk (.t 27)⟩])
          (.ret))
        (.skip)))
    (.seq (.seq (.reg [⟨some 5, none, .tk (.c (.int .i64 0))⟩])
      (.block 0 (l_flotsamlaw15_LexBack_0))) r_flotsamlaw15_LexBack_1))) }

-- flotsam/flotsamlaw15.knows
def c_flotsamlaw15_knows : AFunc :=
  { np := 0, res := [.t 0], body := (
    .seq (.reg [⟨some 0, none, .tk (.c (.bool false))⟩])
    (.seq (.reg [⟨some 6, none, .callc n_lex_Words [(.c (.str [108, 101, 116, 32, 97, 61, 49, 59]))]⟩, ⟨some 5, none, .mv (.t 6)⟩, ⟨some 7, none, .ext (.t 5) 0⟩, ⟨some 8, none, .ext (.t 5) 1⟩, ⟨some 2, none, .alloc [.int .i64 0, .int .i64 0]⟩, ⟨some 1, none, .tk (.t 7)⟩, ⟨none, none, .st 2 (.t 2) (.t 8)⟩])
    (.seq (.reg [⟨some 10, none, .bld [.int .i64 0, .str [], .int .i64 0, .int .i64 0] [(0, 1, (.c (.int .i64 3))), (1, 1, (.c (.str [120])))]⟩, ⟨some 11, none, .callc n_lex_Show [(.t 10)]⟩, ⟨some 9, none, .mv (.t 11)⟩, ⟨some 12, none, .ext (.t 9) 0⟩, ⟨some 13, none, .ext (.t 9) 1⟩, ⟨some 3, none, .tk (.t 12)⟩, ⟨some 4, none, .tk (.t 13)⟩])
    (.seq (.reg [⟨some 14, none, .ld (some 2) (.t 2)⟩, ⟨some 15, none, .bld [.int .i64 0, .int .i64 0] []⟩, ⟨some 16, none, .callc n_flotsamlaw15_Fault [(.t 14), (.t 15)]⟩, ⟨some 17, none, .mv (.t 16)⟩, ⟨some 18, (some (17, true)), .mv (.t 1)⟩, ⟨some 19, (some (17, true)), .len false (.t 18)⟩, ⟨some 20, (some (17, true)), .ic .eql (.t 19) (.c (.int .i64 6))⟩, ⟨some 21, none, .pick (.t 17) (.t 20) (.c (.bool false))⟩, ⟨some 22, none, .mv (.t 21)⟩, ⟨some 23, (some (22, true)), .mv (.t 1)⟩, ⟨some 24, (some (22, true)), .ixa 4 none (.t 23) (.c (.int .i64 3))⟩, ⟨some 25, (some (22, true)), .ld (some 4) (.t 24)⟩, ⟨some 26, (some (22, true)), .bld [.int .i64 0, .str [], .int .i64 0, .int .i64 0] [(0, 1, (.c (.int .i64 2))), (2, 1, (.c (.int .i64 1))), (3, 1, (.c (.int .i64 6)))]⟩, ⟨some 27, (some (22, true)), .eqa false [.int .i64, .str, .int .i64, .int .i64] (.t 25) (.t 26)⟩, ⟨some 28, none, .pick (.t 22) (.t 27) (.c (.bool false))⟩, ⟨some 29, none, .mv (.t 28)⟩, ⟨some 30, (some (29, true)), .mv (.t 1)⟩, ⟨some 31, (some (29, true)), .ixa 4 none (.t 30) (.c (.int .i64 5))⟩, ⟨some 32, (some (29, true)), .fa 3 (.t 31)⟩, ⟨some 33, (some (29, true)), .ld none (.t 32)⟩, ⟨some 34, (some (29, true)), .ic .eql (.t 33) (.c (.int .i64 8))⟩, ⟨some 35, none, .pick (.t 29) (.t 34) (.c (.bool false))⟩, ⟨some 36, none, .mv (.t 35)⟩, ⟨some 37, (some (36, true)), .mv (.t 4)⟩, ⟨some 38, none, .pick (.t 36) (.t 37) (.c (.bool false))⟩, ⟨some 39, none, .mv (.t 38)⟩, ⟨some 40, (some (39, true)), .mv (.t 3)⟩, ⟨some 41, (some (39, true)), .sop .eql (.t 40) (.c (.str [34, 120, 34]))⟩, ⟨some 42, none, .pick (.t 39) (.t 41) (.c (.bool false))⟩, ⟨some 43, none, .mv (.t 42)⟩, ⟨some 44, (some (43, true)), .callc n_lex_Key [(.c (.str [108, 101, 116]))]⟩, ⟨some 45, none, .pick (.t 43) (.t 44) (.c (.bool false))⟩, ⟨some 46, none, .mv (.t 45)⟩, ⟨some 47, (some (46, true)), .callc n_lex_Name [(.c (.str [97]))]⟩, ⟨some 48, none, .pick (.t 46) (.t 47) (.c (.bool false))⟩, ⟨some 0, none, .tk (.t 48)⟩])
    (.ret))))) }

-- flotsam/lex.Words
def b_lex_Words_0 : AC :=
  .seq (.seq (.reg [⟨some 15, none, .mv (.t 5)⟩, ⟨some 16, none, .sop .neq (.t 15) (.c (.str []))⟩])
    (.cond (.t 16)
      (.skip)
      (.exit 0)))
  (.block 1 (.seq (.reg [⟨some 18, none, .mv (.t 5)⟩, ⟨some 19, none, .callc n_lex_next [(.t 18)]⟩, ⟨some 17, none, .mv (.t 19)⟩, ⟨some 20, none, .ext (.t 17) 0⟩, ⟨some 21, none, .ext (.t 17) 1⟩, ⟨some 22, none, .ext (.t 17) 2⟩, ⟨some 6, none, .alloc [.int .i64 0, .str [], .int .i64 0, .int .i64 0]⟩, ⟨none, none, .st 4 (.t 6) (.t 20)⟩, ⟨some 7, none, .tk (.t 21)⟩, ⟨some 8, none, .tk (.t 22)⟩])
    (.seq (.reg [⟨some 23, none, .mv (.t 0)⟩, ⟨some 24, none, .len true (.t 23)⟩, ⟨some 25, none, .mv (.t 5)⟩, ⟨some 26, none, .len true (.t 25)⟩, ⟨some 27, none, .ia .sub .i64 (.t 24) (.t 26)⟩, ⟨some 28, none, .fa 3 (.t 6)⟩, ⟨none, none, .st 1 (.t 28) (.t 27)⟩])
    (.seq (.seq (.reg [⟨some 29, none, .mv (.t 8)⟩, ⟨some 30, none, .ic .neq (.t 29) (.c (.int .i64 0))⟩])
      (.cond (.t 30)
        (.seq (.drw [[], [], [], [], [], []] [⟨some 31, none, .mv (.t 8)⟩, ⟨some 32, none, .fa 3 (.t 6)⟩, ⟨some 33, none, .ld none (.t 32)⟩, ⟨some 34, none, .bld [.int .i64 0, .int .i64 0] [(0, 1, (.t 31)), (1, 1, (.t 33))]⟩, ⟨some 2, none, .tk (.c (.own 4 []))⟩, ⟨none, none, .st 2 (.t 3) (.t 34)⟩])
          (.ret))
        (.skip)))
    (.seq (.reg [⟨some 35, none, .tk (.t 4)⟩, ⟨some 36, none, .ld (some 4) (.t 6)⟩, ⟨some 37, none, .bsl 4 [.int .i64 0, .str [], .int .i64 0, .int .i64 0] 1 [(0, 4, (.t 36))] false⟩, ⟨some 38, none, .app 4 40 (.t 35) (.t 37) false⟩, ⟨some 4, none, .tk (.t 38)⟩])
    (.reg [⟨some 39, none, .mv (.t 5)⟩, ⟨some 40, none, .mv (.t 7)⟩, ⟨some 41, none, .slc (.t 39) (some (.t 40)) none⟩, ⟨some 42, none, .callc n_lex_skip [(.t 41)]⟩, ⟨some 5, none, .tk (.t 42)⟩]))))))

def l_lex_Words_0 : AC :=
  .loop [0, 3, 4, 5] b_lex_Words_0

def r_lex_Words_0 : AC :=
  .seq (.reg [⟨some 43, none, .tk (.t 4)⟩, ⟨some 44, none, .mv (.t 0)⟩, ⟨some 45, none, .len true (.t 44)⟩, ⟨some 46, none, .bld [.int .i64 0, .str [], .int .i64 0, .int .i64 0] [(0, 1, (.c (.int .i64 0))), (3, 1, (.t 45))]⟩, ⟨some 47, none, .bsl 4 [.int .i64 0, .str [], .int .i64 0, .int .i64 0] 1 [(0, 4, (.t 46))] false⟩, ⟨some 48, none, .app 4 40 (.t 43) (.t 47) false⟩, ⟨some 49, none, .bld [.int .i64 0, .int .i64 0] []⟩, ⟨some 2, none, .tk (.t 48)⟩, ⟨none, none, .st 2 (.t 3) (.t 49)⟩])
  (.ret)

def c_lex_Words : AFunc :=
  { np := 1, res := [.t 2, .cell 3 (some 2)], body := (
    .seq (.reg [⟨some 2, none, .tk (.c (.own 4 []))⟩, ⟨some 3, none, .alloc [.int .i64 0, .int .i64 0]⟩])
    (.seq (.seq (.reg [⟨some 9, none, .mv (.t 0)⟩, ⟨some 10, none, .len true (.t 9)⟩, ⟨some 11, none, .ic .gtr (.t 10) (.c (.int .i64 4096))⟩])
      (.cond (.t 11)
        (.seq (.reg [⟨some 12, none, .bld [.int .i64 0, .int .i64 0] [(0, 1, (.c (.int .i64 14)))]⟩, ⟨some 2, none, .tk (.c (.own 4 []))⟩, ⟨none, none, .st 2 (.t 3) (.t 12)⟩])
          (.ret))
        (.skip)))
    (.seq (.reg [⟨some 4, none, .tk (.c (.own 4 []))⟩])
    (.seq (.seq (.reg [⟨some 13, none, .mv (.t 0)⟩, ⟨some 14, none, .callc n_lex_skip [(.t 13)]⟩, ⟨some 5, none, .tk (.t 14)⟩])
      (.block 0 (l_lex_Words_0))) r_lex_Words_0)))) }

-- flotsam/flotsamref15.Words
def b_flotsamref15_Words_0 : AC :=
  .seq (.seq (.reg [⟨some 15, none, .mv (.t 5)⟩, ⟨some 16, none, .mv (.t 0)⟩, ⟨some 17, none, .len true (.t 16)⟩, ⟨some 18, none, .ic .lss (.t 15) (.t 17)⟩])
    (.cond (.t 18)
      (.skip)
      (.exit 0)))
  (.block 1 (.seq (.reg [⟨some 20, none, .mv (.t 0)⟩, ⟨some 21, none, .mv (.t 5)⟩, ⟨some 22, none, .callc n_flotsamref15_one [(.t 20), (.t 21)]⟩, ⟨some 19, none, .mv (.t 22)⟩, ⟨some 23, none, .ext (.t 19) 0⟩, ⟨some 24, none, .ext (.t 19) 1⟩, ⟨some 25, none, .ext (.t 19) 2⟩, ⟨some 6, none, .alloc [.int .i64 0, .str [], .int .i64 0, .int .i64 0]⟩, ⟨none, none, .st 4 (.t 6) (.t 23)⟩, ⟨some 7, none, .tk (.t 24)⟩, ⟨some 8, none, .tk (.t 25)⟩])
    (.seq (.seq (.reg [⟨some 26, none, .mv (.t 8)⟩, ⟨some 27, none, .ic .neq (.t 26) (.c (.int .i64 0))⟩])
      (.cond (.t 27)
        (.seq (.reg [⟨some 28, none, .mv (.t 8)⟩, ⟨some 29, none, .mv (.t 5)⟩, ⟨some 30, none, .bld [.int .i64 0, .int .i64 0] [(0, 1, (.t 28)), (1, 1, (.t 29))]⟩, ⟨some 2, none, .tk (.c (.own 4 []))⟩, ⟨none, none, .st 2 (.t 3) (.t 30)⟩])
          (.ret))
        (.skip)))
    (.seq (.reg [⟨some 31, none, .tk (.t 4)⟩, ⟨some 32, none, .ld (some 4) (.t 6)⟩, ⟨some 33, none, .bsl 4 [.int .i64 0, .str [], .int .i64 0, .int .i64 0] 1 [(0, 4, (.t 32))] false⟩, ⟨some 34, none, .app 4 40 (.t 31) (.t 33) false⟩, ⟨some 4, none, .tk (.t 34)⟩])
    (.reg [⟨some 35, none, .mv (.t 0)⟩, ⟨some 36, none, .mv (.t 7)⟩, ⟨some 37, none, .callc n_flotsamref15_skip [(.t 35), (.t 36)]⟩, ⟨some 5, none, .tk (.t 37)⟩])))))

def l_flotsamref15_Words_0 : AC :=
  .loop [0, 3, 4, 5] b_flotsamref15_Words_0

def r_flotsamref15_Words_0 : AC :=
  .seq (.reg [⟨some 38, none, .tk (.t 4)⟩, ⟨some 39, none, .mv (.t 0)⟩, ⟨some 40, none, .len true (.t 39)⟩, ⟨some 41, none, .bld [.int .i64 0, .str [], .int .i64 0, .int .i64 0] [(0, 1, (.c (.int .i64 0))), (3, 1, (.t 40))]⟩, ⟨some 42, none, .bsl 4 [.int .i64 0, .str [], .int .i64 0, .int .i64 0] 1 [(0, 4, (.t 41))] false⟩, ⟨some 43, none, .app 4 40 (.t 38) (.t 42) false⟩, ⟨some 44, none, .bld [.int .i64 0, .int .i64 0] []⟩, ⟨some 2, none, .tk (.t 43)⟩, ⟨none, none, .st 2 (.t 3) (.t 44)⟩])
  (.ret)

def c_flotsamref15_Words : AFunc :=
  { np := 1, res := [.t 2, .cell 3 (some 2)], body := (
    .seq (.reg [⟨some 2, none, .tk (.c (.own 4 []))⟩, ⟨some 3, none, .alloc [.int .i64 0, .int .i64 0]⟩])
    (.seq (.seq (.reg [⟨some 9, none, .mv (.t 0)⟩, ⟨some 10, none, .len true (.t 9)⟩, ⟨some 11, none, .ic .gtr (.t 10) (.c (.int .i64 4096))⟩])
      (.cond (.t 11)
        (.seq (.reg [⟨some 12, none, .bld [.int .i64 0, .int .i64 0] [(0, 1, (.c (.int .i64 14)))]⟩, ⟨some 2, none, .tk (.c (.own 4 []))⟩, ⟨none, none, .st 2 (.t 3) (.t 12)⟩])
          (.ret))
        (.skip)))
    (.seq (.reg [⟨some 4, none, .tk (.c (.own 4 []))⟩])
    (.seq (.reg [⟨some 13, none, .mv (.t 0)⟩, ⟨some 14, none, .callc n_flotsamref15_skip [(.t 13), (.c (.int .i64 0))]⟩, ⟨some 5, none, .tk (.t 14)⟩])
    (.seq (.block 0 (l_flotsamref15_Words_0)) r_flotsamref15_Words_0))))) }

-- flotsam/flotsamref15.Same
def b_flotsamref15_Same_0 : AC :=
  .seq (.seq (.reg [⟨some 11, none, .mv (.t 5)⟩, ⟨some 12, none, .mv (.t 0)⟩, ⟨some 13, none, .len false (.t 12)⟩, ⟨some 14, none, .ic .lss (.t 11) (.t 13)⟩])
    (.cond (.t 14)
      (.skip)
      (.exit 0)))
  (.seq (.block 1 (.seq (.drw [[], [], [], [], [], [], [], [], []] [⟨some 17, none, .mv (.t 0)⟩, ⟨some 18, none, .mv (.t 5)⟩, ⟨some 19, none, .ixa 4 none (.t 17) (.t 18)⟩, ⟨some 20, none, .ld (some 4) (.t 19)⟩, ⟨some 21, none, .mv (.t 1)⟩, ⟨some 22, none, .mv (.t 5)⟩, ⟨some 23, none, .ixa 4 none (.t 21) (.t 22)⟩, ⟨some 24, none, .ld (some 4) (.t 23)⟩, ⟨some 25, none, .eqa true [.int .i64, .str, .int .i64, .int .i64] (.t 20) (.t 24)⟩])
      (.cond (.t 25)
        (.seq (.reg [⟨some 4, none, .tk (.c (.bool false))⟩])
          (.ret))
        (.skip))))
  (.reg [⟨some 15, none, .mv (.t 5)⟩, ⟨some 16, none, .ia .add .i64 (.t 15) (.c (.int .i64 1))⟩, ⟨some 5, none, .tk (.t 16)⟩]))

def l_flotsamref15_Same_0 : AC :=
  .loop [0, 1, 5] b_flotsamref15_Same_0

def r_flotsamref15_Same_0 : AC :=
  .seq (.reg [⟨some 4, none, .tk (.c (.bool true))⟩])
  (.ret)

def c_flotsamref15_Same : AFunc :=
  { np := 2, res := [.t 4], body := (
    .seq (.reg [⟨some 4, none, .tk (.c (.bool false))⟩])
    (.seq (.seq (.reg [⟨some 6, none, .mv (.t 0)⟩, ⟨some 7, none, .len false (.t 6)⟩, ⟨some 8, none, .mv (.t 1)⟩, ⟨some 9, none, .len false (.t 8)⟩, ⟨some 10, none, .ic .neq (.t 7) (.t 9)⟩])
      (.cond (.t 10)
        (.seq (.reg [⟨some 4, none, .tk (.c (.bool false))⟩])
          (.ret))
        (.skip)))
    (.seq (.seq (.reg [⟨some 5, none, .tk (.c (.int .i64 0))⟩])
      (.block 0 (l_flotsamref15_Same_0))) r_flotsamref15_Same_0))) }

-- flotsam/flotsamlaw15.Fault
def c_flotsamlaw15_Fault : AFunc :=
  { np := 2, res := [.t 4], body := (
    .seq (.reg [⟨some 2, none, .box (.t 0)⟩, ⟨some 3, none, .box (.t 1)⟩, ⟨some 4, none, .tk (.c (.bool false))⟩])
    (.seq (.reg [⟨some 5, none, .fa 0 (.t 2)⟩, ⟨some 6, none, .ld none (.t 5)⟩, ⟨some 7, none, .fa 0 (.t 3)⟩, ⟨some 8, none, .ld none (.t 7)⟩, ⟨some 9, none, .ic .eql (.t 6) (.t 8)⟩, ⟨some 10, none, .mv (.t 9)⟩, ⟨some 11, (some (10, true)), .fa 1 (.t 2)⟩, ⟨some 12, (some (10, true)), .ld none (.t 11)⟩, ⟨some 13, (some (10, true)), .fa 1 (.t 3)⟩, ⟨some 14, (some (10, true)), .ld none (.t 13)⟩, ⟨some 15, (some (10, true)), .ic .eql (.t 12) (.t 14)⟩, ⟨some 16, none, .pick (.t 10) (.t 15) (.c (.bool false))⟩, ⟨some 4, none, .tk (.t 16)⟩])
    (.ret))) }

-- flotsam/lex.Key
def c_lex_Key : AFunc :=
  { np := 1, res := [.t 2], body := (
    .seq (.reg [⟨some 2, none, .tk (.c (.bool false))⟩])
    (.seq (.reg [⟨some 3, none, .mv (.t 0)⟩, ⟨some 4, none, .sop .neq (.t 3) (.c (.str []))⟩, ⟨some 5, none, .mv (.t 4)⟩, ⟨some 6, (some (5, true)), .mv (.t 0)⟩, ⟨some 7, (some (5, true)), .callc n_strings_Contains [(.t 6), (.c (.str [32]))]⟩, ⟨some 8, (some (5, true)), .notb (.t 7)⟩, ⟨some 9, none, .pick (.t 5) (.t 8) (.c (.bool false))⟩, ⟨some 10, none, .mv (.t 9)⟩, ⟨some 11, (some (10, true)), .mv (.t 0)⟩, ⟨some 12, (some (10, true)), .sop .add (.c (.str [32])) (.t 11)⟩, ⟨some 13, (some (10, true)), .sop .add (.t 12) (.c (.str [32]))⟩, ⟨some 14, (some (10, true)), .callc n_strings_Contains [(.c (.str [32, 112, 114, 111, 99, 32, 109, 97, 105, 110, 32, 114, 101, 99, 111, 118, 101, 114, 32, 111, 114, 97, 99, 108, 101, 32, 99, 114, 101, 97, 116, 101, 32, 109, 107, 100, 105, 114, 32, 119, 114, 105, 116, 101, 32, 97, 112, 112, 101, 110, 100, 32, 116, 114, 117, 110, 99, 97, 116, 101, 32, 114, 101, 110, 97, 109, 101, 32, 117, 110, 108, 105, 110, 107, 32, 102, 115, 121, 110, 99, 32, 102, 100, 97, 116, 97, 115, 121, 110, 99, 32, 115, 121, 110, 99, 100, 105, 114, 32, 98, 97, 114, 114, 105, 101, 114, 32, 108, 101, 116, 32, 105, 102, 32, 101, 108, 115, 101, 32, 114, 101, 112, 101, 97, 116, 32, 99, 97, 108, 108, 32, 116, 120, 110, 32, 99, 111, 109, 109, 105, 116, 32, 114, 101, 112, 108, 97, 121, 32, 97, 115, 115, 101, 114, 116, 32, 101, 120, 105, 115, 116, 115, 32, 115, 105, 122, 101, 32, 114, 101, 97, 100, 32, 110, 111, 116, 32, 97, 110, 100, 32, 111, 114, 32, 116, 114, 117, 101, 32, 102, 97, 108, 115, 101, 32])), (.t 13)]⟩, ⟨some 15, none, .pick (.t 10) (.t 14) (.c (.bool false))⟩, ⟨some 2, none, .tk (.t 15)⟩])
    (.ret))) }

-- flotsam/flotsamref15.Key
def b_flotsamref15_Key_0 : AC :=
  .seq (.seq (.reg [⟨some 6, none, .mv (.t 4)⟩, ⟨some 7, none, .mv (.t 3)⟩, ⟨some 8, none, .len false (.t 7)⟩, ⟨some 9, none, .ic .lss (.t 6) (.t 8)⟩])
    (.cond (.t 9)
      (.skip)
      (.exit 0)))
  (.seq (.block 1 (.seq (.reg [⟨some 12, none, .mv (.t 3)⟩, ⟨some 13, none, .mv (.t 4)⟩, ⟨some 14, none, .ixa 1 none (.t 12) (.t 13)⟩, ⟨some 15, none, .ld none (.t 14)⟩, ⟨some 16, none, .mv (.t 0)⟩, ⟨some 17, none, .sop .eql (.t 15) (.t 16)⟩])
      (.cond (.t 17)
        (.seq (.reg [⟨some 2, none, .tk (.c (.bool true))⟩])
          (.ret))
        (.skip))))
  (.reg [⟨some 10, none, .mv (.t 4)⟩, ⟨some 11, none, .ia .add .i64 (.t 10) (.c (.int .i64 1))⟩, ⟨some 4, none, .tk (.t 11)⟩]))

def l_flotsamref15_Key_0 : AC :=
  .loop [0, 3, 4] b_flotsamref15_Key_0

def r_flotsamref15_Key_0 : AC :=
  .seq (.reg [⟨some 2, none, .tk (.c (.bool false))⟩])
  (.ret)

def c_flotsamref15_Key : AFunc :=
  { np := 1, res := [.t 2], body := (
    .seq (.reg [⟨some 2, none, .tk (.c (.bool false))⟩])
    (.seq (.reg [⟨some 5, none, .bsl 1 [.str []] 32 [(0, 1, (.c (.str [112, 114, 111, 99]))), (1, 1, (.c (.str [109, 97, 105, 110]))), (2, 1, (.c (.str [114, 101, 99, 111, 118, 101, 114]))), (3, 1, (.c (.str [111, 114, 97, 99, 108, 101]))), (4, 1, (.c (.str [99, 114, 101, 97, 116, 101]))), (5, 1, (.c (.str [109, 107, 100, 105, 114]))), (6, 1, (.c (.str [119, 114, 105, 116, 101]))), (7, 1, (.c (.str [97, 112, 112, 101, 110, 100]))), (8, 1, (.c (.str [116, 114, 117, 110, 99, 97, 116, 101]))), (9, 1, (.c (.str [114, 101, 110, 97, 109, 101]))), (10, 1, (.c (.str [117, 110, 108, 105, 110, 107]))), (11, 1, (.c (.str [102, 115, 121, 110, 99]))), (12, 1, (.c (.str [102, 100, 97, 116, 97, 115, 121, 110, 99]))), (13, 1, (.c (.str [115, 121, 110, 99, 100, 105, 114]))), (14, 1, (.c (.str [98, 97, 114, 114, 105, 101, 114]))), (15, 1, (.c (.str [108, 101, 116]))), (16, 1, (.c (.str [105, 102]))), (17, 1, (.c (.str [101, 108, 115, 101]))), (18, 1, (.c (.str [114, 101, 112, 101, 97, 116]))), (19, 1, (.c (.str [99, 97, 108, 108]))), (20, 1, (.c (.str [116, 120, 110]))), (21, 1, (.c (.str [99, 111, 109, 109, 105, 116]))), (22, 1, (.c (.str [114, 101, 112, 108, 97, 121]))), (23, 1, (.c (.str [97, 115, 115, 101, 114, 116]))), (24, 1, (.c (.str [101, 120, 105, 115, 116, 115]))), (25, 1, (.c (.str [115, 105, 122, 101]))), (26, 1, (.c (.str [114, 101, 97, 100]))), (27, 1, (.c (.str [110, 111, 116]))), (28, 1, (.c (.str [97, 110, 100]))), (29, 1, (.c (.str [111, 114]))), (30, 1, (.c (.str [116, 114, 117, 101]))), (31, 1, (.c (.str [102, 97, 108, 115, 101])))] false⟩, ⟨some 3, none, .tk (.t 5)⟩])
    (.seq (.seq (.reg [⟨some 4, none, .tk (.c (.int .i64 0))⟩])
      (.block 0 (l_flotsamref15_Key_0))) r_flotsamref15_Key_0))) }

-- flotsam/lex.Name
def c_lex_Name : AFunc :=
  { np := 1, res := [.t 2], body := (
    .seq (.reg [⟨some 2, none, .tk (.c (.bool false))⟩])
    (.seq (.reg [⟨some 3, none, .mv (.t 0)⟩, ⟨some 4, none, .callc n_lex_begins [(.t 3), (.c (.fn (.func n_lex_letter) [] []))]⟩, ⟨some 5, none, .mv (.t 4)⟩, ⟨some 6, (some (5, true)), .mv (.t 0)⟩, ⟨some 7, (some (5, true)), .len true (.t 6)⟩, ⟨some 8, (some (5, true)), .ic .leq (.t 7) (.c (.int .i64 8))⟩, ⟨some 9, none, .pick (.t 5) (.t 8) (.c (.bool false))⟩, ⟨some 10, none, .mv (.t 9)⟩, ⟨some 11, (some (10, true)), .mv (.t 0)⟩, ⟨some 12, (some (10, true)), .callc n_lex_run [(.t 11), (.c (.fn (.func n_lex_inner) [] []))]⟩, ⟨some 13, (some (10, true)), .mv (.t 0)⟩, ⟨some 14, (some (10, true)), .sop .eql (.t 12) (.t 13)⟩, ⟨some 15, none, .pick (.t 10) (.t 14) (.c (.bool false))⟩, ⟨some 16, none, .mv (.t 15)⟩, ⟨some 17, (some (16, true)), .mv (.t 0)⟩, ⟨some 18, (some (16, true)), .callc n_lex_Key [(.t 17)]⟩, ⟨some 19, (some (16, true)), .notb (.t 18)⟩, ⟨some 20, none, .pick (.t 16) (.t 19) (.c (.bool false))⟩, ⟨some 2, none, .tk (.t 20)⟩])
    (.ret))) }

-- flotsam/flotsamref15.Name
def b_flotsamref15_Name_0 : AC :=
  .seq (.seq (.reg [⟨some 22, none, .mv (.t 3)⟩, ⟨some 23, none, .mv (.t 0)⟩, ⟨some 24, none, .len true (.t 23)⟩, ⟨some 25, none, .ic .lss (.t 22) (.t 24)⟩])
    (.cond (.t 25)
      (.skip)
      (.exit 0)))
  (.seq (.block 1 (.seq (.reg [⟨some 28, none, .mv (.t 0)⟩, ⟨some 29, none, .mv (.t 3)⟩, ⟨some 30, none, .ixs (.t 28) (.t 29)⟩, ⟨some 31, none, .callc n_flotsamref15_inner [(.t 30)]⟩, ⟨some 32, none, .notb (.t 31)⟩])
      (.cond (.t 32)
        (.seq (.reg [⟨some 2, none, .tk (.c (.bool false))⟩])
          (.ret))
        (.skip))))
  (.reg [⟨some 26, none, .mv (.t 3)⟩, ⟨some 27, none, .ia .add .i64 (.t 26) (.c (.int .i64 1))⟩, ⟨some 3, none, .tk (.t 27)⟩]))

def l_flotsamref15_Name_0 : AC :=
  .loop [0, 3] b_flotsamref15_Name_0

def r_flotsamref15_Name_0 : AC :=
  .seq (.reg [⟨some 2, none, .tk (.c (.bool true))⟩])
  (.ret)

def c_flotsamref15_Name : AFunc :=
  { np := 1, res := [.t 2], body := (
    .seq (.reg [⟨some 2, none, .tk (.c (.bool false))⟩])
    (.seq (.seq (.reg [⟨some 4, none, .mv (.t 0)⟩, ⟨some 5, none, .len true (.t 4)⟩, ⟨some 6, none, .ic .lss (.t 5) (.c (.int .i64 1))⟩, ⟨some 7, none, .mv (.t 6)⟩, ⟨some 8, (some (7, false)), .mv (.t 0)⟩, ⟨some 9, (some (7, false)), .len true (.t 8)⟩, ⟨some 10, (some (7, false)), .ic .gtr (.t 9) (.c (.int .i64 8))⟩, ⟨some 11, none, .pick (.t 7) (.c (.bool true)) (.t 10)⟩, ⟨some 12, none, .mv (.t 11)⟩, ⟨some 13, (some (12, false)), .mv (.t 0)⟩, ⟨some 14, (some (12, false)), .ixs (.t 13) (.c (.int .i64 0))⟩, ⟨some 15, (some (12, false)), .callc n_flotsamref15_letter [(.t 14)]⟩, ⟨some 16, (some (12, false)), .notb (.t 15)⟩, ⟨some 17, none, .pick (.t 12) (.c (.bool true)) (.t 16)⟩, ⟨some 18, none, .mv (.t 17)⟩, ⟨some 19, (some (18, false)), .mv (.t 0)⟩, ⟨some 20, (some (18, false)), .callc n_flotsamref15_Key [(.t 19)]⟩, ⟨some 21, none, .pick (.t 18) (.c (.bool true)) (.t 20)⟩])
      (.cond (.t 21)
        (.seq (.reg [⟨some 2, none, .tk (.c (.bool false))⟩])
          (.ret))
        (.skip)))
    (.seq (.seq (.reg [⟨some 3, none, .tk (.c (.int .i64 0))⟩])
      (.block 0 (l_flotsamref15_Name_0))) r_flotsamref15_Name_0))) }

-- flotsam/lex.Show
def c_lex_Show : AFunc :=
  { np := 1, res := [.t 2, .t 3], body := (
    .seq (.reg [⟨some 1, none, .box (.t 0)⟩, ⟨some 2, none, .tk (.c (.str []))⟩, ⟨some 3, none, .tk (.c (.bool false))⟩])
    (.seq (.reg [⟨some 7, none, .fa 1 (.t 1)⟩, ⟨some 8, none, .ld none (.t 7)⟩, ⟨some 4, none, .tk (.t 8)⟩])
    (.seq (.seq (.reg [⟨some 9, none, .fa 0 (.t 1)⟩, ⟨some 10, none, .ld none (.t 9)⟩])
      (.block 0 (.seq (.reg [⟨some 12, none, .ic .eql (.t 10) (.c (.int .i64 2))⟩, ⟨some 11, none, .tk (.t 12)⟩])
        (.cond (.t 11)
          (.reg [⟨some 13, none, .fa 2 (.t 1)⟩, ⟨some 14, none, .ld none (.t 13)⟩, ⟨some 15, none, .callc n_num_Digits [(.t 14)]⟩, ⟨some 4, none, .tk (.t 15)⟩])
          (.seq (.reg [⟨some 17, none, .ic .eql (.t 10) (.c (.int .i64 3))⟩, ⟨some 16, none, .tk (.t 17)⟩])
            (.cond (.t 16)
              (.reg [⟨some 18, none, .fa 1 (.t 1)⟩, ⟨some 19, none, .ld none (.t 18)⟩, ⟨some 20, none, .callc n_view_Quote [(.t 19)]⟩, ⟨some 4, none, .tk (.t 20)⟩])
              (.skip)))))))
    (.seq (.reg [⟨some 22, none, .mv (.t 4)⟩, ⟨some 23, none, .callc n_lex_Words [(.t 22)]⟩, ⟨some 21, none, .mv (.t 23)⟩, ⟨some 24, none, .ext (.t 21) 0⟩, ⟨some 25, none, .ext (.t 21) 1⟩, ⟨some 6, none, .alloc [.int .i64 0, .int .i64 0]⟩, ⟨some 5, none, .tk (.t 24)⟩, ⟨none, none, .st 2 (.t 6) (.t 25)⟩])
    (.seq (.reg [⟨some 26, none, .fa 3 (.t 1)⟩, ⟨none, none, .st 1 (.t 26) (.c (.int .i64 0))⟩])
    (.seq (.seq (.reg [⟨some 27, none, .ld (some 2) (.t 6)⟩, ⟨some 28, none, .bld [.int .i64 0, .int .i64 0] []⟩, ⟨some 29, none, .eqa true [.int .i64, .int .i64] (.t 27) (.t 28)⟩, ⟨some 30, none, .mv (.t 29)⟩, ⟨some 31, (some (30, false)), .mv (.t 5)⟩, ⟨some 32, (some (30, false)), .ld (some 4) (.t 1)⟩, ⟨some 33, (some (30, false)), .mv (.t 4)⟩, ⟨some 34, (some (30, false)), .len true (.t 33)⟩, ⟨some 35, (some (30, false)), .bld [.int .i64 0, .str [], .int .i64 0, .int .i64 0] [(0, 1, (.c (.int .i64 0))), (3, 1, (.t 34))]⟩, ⟨some 36, (some (30, false)), .bsl 4 [.int .i64 0, .str [], .int .i64 0, .int .i64 0] 2 [(0, 4, (.t 32)), (4, 4, (.t 35))] false⟩, ⟨some 37, (some (30, false)), .callc n_slices_Equal_api_Word_api_Word [(.t 31), (.t 36)]⟩, ⟨some 38, (some (30, false)), .notb (.t 37)⟩, ⟨some 39, none, .pick (.t 30) (.c (.bool true)) (.t 38)⟩])
      (.cond (.t 39)
        (.seq (.reg [⟨some 2, none, .tk (.c (.str []))⟩, ⟨some 3, none, .tk (.c (.bool false))⟩])
          (.ret))
        (.skip)))
    (.seq (.reg [⟨some 40, none, .mv (.t 4)⟩, ⟨some 2, none, .tk (.t 40)⟩, ⟨some 3, none, .tk (.c (.bool true))⟩])
    (.ret)))))))) }

-- flotsam/flotsamref15.Show
def c_flotsamref15_Show : AFunc :=
  { np := 1, res := [.t 2, .t 3], body := (
    .seq (.reg [⟨some 1, none, .box (.t 0)⟩, ⟨some 2, none, .tk (.c (.str []))⟩, ⟨some 3, none, .tk (.c (.bool false))⟩])
    (.seq (.seq (.reg [⟨some 4, none, .fa 0 (.t 1)⟩, ⟨some 5, none, .ld none (.t 4)⟩, ⟨some 6, none, .ic .eql (.t 5) (.c (.int .i64 2))⟩])
      (.cond (.t 6)
        (.seq (.seq (.reg [⟨some 7, none, .fa 1 (.t 1)⟩, ⟨some 8, none, .ld none (.t 7)⟩, ⟨some 9, none, .sop .neq (.t 8) (.c (.str []))⟩, ⟨some 10, none, .mv (.t 9)⟩, ⟨some 11, (some (10, false)), .fa 2 (.t 1)⟩, ⟨some 12, (some (10, false)), .ld none (.t 11)⟩, ⟨some 13, (some (10, false)), .ic .lss (.t 12) (.c (.int .i64 0))⟩, ⟨some 14, none, .pick (.t 10) (.c (.bool true)) (.t 13)⟩, ⟨some 15, none, .mv (.t 14)⟩, ⟨some 16, (some (15, false)), .fa 2 (.t 1)⟩, ⟨some 17, (some (15, false)), .ld none (.t 16)⟩, ⟨some 18, (some (15, false)), .ic .gtr (.t 17) (.c (.int .i64 1000000000000))⟩, ⟨some 19, none, .pick (.t 15) (.c (.bool true)) (.t 18)⟩])
            (.cond (.t 19)
              (.seq (.reg [⟨some 2, none, .tk (.c (.str []))⟩, ⟨some 3, none, .tk (.c (.bool false))⟩])
                (.ret))
              (.skip)))
          (.seq (.reg [⟨some 20, none, .fa 2 (.t 1)⟩, ⟨some 21, none, .ld none (.t 20)⟩, ⟨some 22, none, .callc n_flotsamref01_Digits [(.t 21)]⟩, ⟨some 2, none, .tk (.t 22)⟩, ⟨some 3, none, .tk (.c (.bool true))⟩])
          (.ret)))
        (.skip)))
    (.seq (.seq (.reg [⟨some 23, none, .fa 2 (.t 1)⟩, ⟨some 24, none, .ld none (.t 23)⟩, ⟨some 25, none, .ic .neq (.t 24) (.c (.int .i64 0))⟩])
      (.cond (.t 25)
        (.seq (.reg [⟨some 2, none, .tk (.c (.str []))⟩, ⟨some 3, none, .tk (.c (.bool false))⟩])
          (.ret))
        (.skip)))
    (.seq (.seq (.reg [⟨some 26, none, .fa 0 (.t 1)⟩, ⟨some 27, none, .ld none (.t 26)⟩, ⟨some 28, none, .ic .eql (.t 27) (.c (.int .i64 3))⟩, ⟨some 29, none, .mv (.t 28)⟩, ⟨some 30, (some (29, true)), .fa 1 (.t 1)⟩, ⟨some 31, (some (29, true)), .ld none (.t 30)⟩, ⟨some 32, (some (29, true)), .len true (.t 31)⟩, ⟨some 33, (some (29, true)), .ic .leq (.t 32) (.c (.int .i64 64))⟩, ⟨some 34, none, .pick (.t 29) (.t 33) (.c (.bool false))⟩])
      (.cond (.t 34)
        (.seq (.reg [⟨some 35, none, .fa 1 (.t 1)⟩, ⟨some 36, none, .ld none (.t 35)⟩, ⟨some 37, none, .callc n_flotsamref14_Quote [(.t 36)]⟩, ⟨some 2, none, .tk (.t 37)⟩, ⟨some 3, none, .tk (.c (.bool true))⟩])
          (.ret))
        (.skip)))
    (.seq (.seq (.reg [⟨some 38, none, .fa 0 (.t 1)⟩, ⟨some 39, none, .ld none (.t 38)⟩, ⟨some 40, none, .ic .eql (.t 39) (.c (.int .i64 1))⟩, ⟨some 41, none, .mv (.t 40)⟩, ⟨some 42, (some (41, true)), .fa 1 (.t 1)⟩, ⟨some 43, (some (41, true)), .ld none (.t 42)⟩, ⟨some 44, (some (41, true)), .callc n_flotsamref15_Name [(.t 43)]⟩, ⟨some 45, none, .pick (.t 41) (.t 44) (.c (.bool false))⟩, ⟨some 46, none, .mv (.t 45)⟩, ⟨some 47, (some (46, false)), .fa 0 (.t 1)⟩, ⟨some 48, (some (46, false)), .ld none (.t 47)⟩, ⟨some 49, (some (46, false)), .ic .eql (.t 48) (.c (.int .i64 4))⟩, ⟨some 50, (some (46, false)), .mv (.t 49)⟩, ⟨some 51, (some (50, true)), .fa 1 (.t 1)⟩, ⟨some 52, (some (50, true)), .ld none (.t 51)⟩, ⟨some 53, (some (50, true)), .callc n_flotsamref15_Key [(.t 52)]⟩, ⟨some 54, (some (46, false)), .pick (.t 50) (.t 53) (.c (.bool false))⟩, ⟨some 55, none, .pick (.t 46) (.c (.bool true)) (.t 54)⟩, ⟨some 56, none, .mv (.t 55)⟩, ⟨some 57, (some (56, false)), .fa 0 (.t 1)⟩, ⟨some 58, (some (56, false)), .ld none (.t 57)⟩, ⟨some 59, (some (56, false)), .ic .eql (.t 58) (.c (.int .i64 5))⟩, ⟨some 60, (some (56, false)), .mv (.t 59)⟩, ⟨some 61, (some (60, true)), .fa 1 (.t 1)⟩, ⟨some 62, (some (60, true)), .ld none (.t 61)⟩, ⟨some 63, (some (60, true)), .callc n_flotsamref15_Sign [(.t 62)]⟩, ⟨some 64, (some (56, false)), .pick (.t 60) (.t 63) (.c (.bool false))⟩, ⟨some 65, none, .pick (.t 56) (.c (.bool true)) (.t 64)⟩])
      (.cond (.t 65)
        (.seq (.reg [⟨some 66, none, .fa 1 (.t 1)⟩, ⟨some 67, none, .ld none (.t 66)⟩, ⟨some 2, none, .tk (.t 67)⟩, ⟨some 3, none, .tk (.c (.bool true))⟩])
          (.ret))
        (.skip)))
    (.seq (.reg [⟨some 2, none, .tk (.c (.str []))⟩, ⟨some 3, none, .tk (.c (.bool false))⟩])
    (.ret))))))) }

-- flotsam/lex.skip
def b_lex_skip_0 : AC :=
  .block 1 (.seq (.reg [⟨some 4, none, .mv (.t 0)⟩, ⟨some 5, none, .callc n_strings_TrimLeft [(.t 4), (.c (.str [32, 9, 10]))]⟩, ⟨some 0, none, .tk (.t 5)⟩])
    (.seq (.seq (.reg [⟨some 6, none, .mv (.t 0)⟩, ⟨some 7, none, .callc n_strings_HasPrefix [(.t 6), (.c (.str [35]))]⟩, ⟨some 8, none, .notb (.t 7)⟩])
      (.cond (.t 8)
        (.seq (.reg [⟨some 9, none, .mv (.t 0)⟩, ⟨some 2, none, .tk (.t 9)⟩])
          (.ret))
        (.skip)))
    (.seq (.reg [⟨some 10, none, .mv (.t 0)⟩, ⟨some 11, none, .callc n_strings_IndexByte [(.t 10), (.c (.int .u8 10))]⟩, ⟨some 3, none, .tk (.t 11)⟩])
    (.seq (.seq (.reg [⟨some 12, none, .mv (.t 3)⟩, ⟨some 13, none, .ic .lss (.t 12) (.c (.int .i64 0))⟩])
      (.cond (.t 13)
        (.seq (.reg [⟨some 2, none, .tk (.c (.str []))⟩])
          (.ret))
        (.skip)))
    (.reg [⟨some 14, none, .mv (.t 0)⟩, ⟨some 15, none, .mv (.t 3)⟩, ⟨some 16, none, .slc (.t 14) (some (.t 15)) none⟩, ⟨some 0, none, .tk (.t 16)⟩])))))

def l_lex_skip_0 : AC :=
  .loop [0] b_lex_skip_0

def c_lex_skip : AFunc :=
  { np := 1, res := [.t 2], body := (
    .seq (.reg [⟨some 2, none, .tk (.c (.str []))⟩])
    (.block 0 (l_lex_skip_0))) }

-- flotsam/lex.next
def c_lex_next : AFunc :=
  { np := 1, res := [.cell 2 (some 4), .t 3, .t 4], body := (
    .seq (.reg [⟨some 2, none, .alloc [.int .i64 0, .str [], .int .i64 0, .int .i64 0]⟩, ⟨some 3, none, .tk (.c (.int .i64 0))⟩, ⟨some 4, none, .tk (.c (.int .i64 0))⟩])
    (.seq (.block 0 (.seq (.reg [⟨some 6, none, .mv (.t 0)⟩, ⟨some 7, none, .callc n_lex_begins [(.t 6), (.c (.fn (.func n_lex_letter) [] []))]⟩, ⟨some 5, none, .tk (.t 7)⟩])
        (.cond (.t 5)
          (.seq (.reg [⟨some 8, none, .mv (.t 0)⟩, ⟨some 9, none, .callc n_lex_word [(.t 8)]⟩, ⟨some 10, none, .ext (.t 9) 0⟩, ⟨some 11, none, .ext (.t 9) 1⟩, ⟨some 12, none, .ext (.t 9) 2⟩, ⟨none, none, .st 4 (.t 2) (.t 10)⟩, ⟨some 3, none, .tk (.t 11)⟩, ⟨some 4, none, .tk (.t 12)⟩])
            (.ret))
          (.seq (.reg [⟨some 14, none, .mv (.t 0)⟩, ⟨some 15, none, .callc n_lex_begins [(.t 14), (.c (.fn (.func n_lex_digit) [] []))]⟩, ⟨some 13, none, .tk (.t 15)⟩])
            (.cond (.t 13)
              (.seq (.reg [⟨some 16, none, .mv (.t 0)⟩, ⟨some 17, none, .callc n_lex_number [(.t 16)]⟩, ⟨some 18, none, .ext (.t 17) 0⟩, ⟨some 19, none, .ext (.t 17) 1⟩, ⟨some 20, none, .ext (.t 17) 2⟩, ⟨none, none, .st 4 (.t 2) (.t 18)⟩, ⟨some 3, none, .tk (.t 19)⟩, ⟨some 4, none, .tk (.t 20)⟩])
                (.ret))
              (.seq (.reg [⟨some 22, none, .mv (.t 0)⟩, ⟨some 23, none, .ixs (.t 22) (.c (.int .i64 0))⟩, ⟨some 24, none, .ic .eql (.t 23) (.c (.int .u8 34))⟩, ⟨some 21, none, .tk (.t 24)⟩])
                (.cond (.t 21)
                  (.seq (.reg [⟨some 25, none, .mv (.t 0)⟩, ⟨some 26, none, .callc n_lex_text [(.t 25)]⟩, ⟨some 27, none, .ext (.t 26) 0⟩, ⟨some 28, none, .ext (.t 26) 1⟩, ⟨some 29, none, .ext (.t 26) 2⟩, ⟨none, none, .st 4 (.t 2) (.t 27)⟩, ⟨some 3, none, .tk (.t 28)⟩, ⟨some 4, none, .tk (.t 29)⟩])
                    (.ret))
                  (.skip))))))))
    (.seq (.reg [⟨some 30, none, .mv (.t 0)⟩, ⟨some 31, none, .callc n_lex_sign [(.t 30)]⟩, ⟨some 32, none, .ext (.t 31) 0⟩, ⟨some 33, none, .ext (.t 31) 1⟩, ⟨some 34, none, .ext (.t 31) 2⟩, ⟨none, none, .st 4 (.t 2) (.t 32)⟩, ⟨some 3, none, .tk (.t 33)⟩, ⟨some 4, none, .tk (.t 34)⟩])
    (.ret)))) }

-- flotsam/flotsamref15.skip
def b_flotsamref15_skip_0 : AC :=
  .seq (.seq (.reg [⟨some 13, none, .mv (.t 1)⟩, ⟨some 14, none, .mv (.t 0)⟩, ⟨some 15, none, .len true (.t 14)⟩, ⟨some 16, none, .ic .lss (.t 13) (.t 15)⟩, ⟨some 17, none, .mv (.t 16)⟩, ⟨some 18, (some (17, true)), .mv (.t 0)⟩, ⟨some 19, (some (17, true)), .mv (.t 1)⟩, ⟨some 20, (some (17, true)), .ixs (.t 18) (.t 19)⟩, ⟨some 21, (some (17, true)), .ic .neq (.t 20) (.c (.int .u8 10))⟩, ⟨some 22, none, .pick (.t 17) (.t 21) (.c (.bool false))⟩])
    (.cond (.t 22)
      (.skip)
      (.exit 2)))
  (.block 3 (.reg [⟨some 23, none, .mv (.t 1)⟩, ⟨some 24, none, .ia .add .i64 (.t 23) (.c (.int .i64 1))⟩, ⟨some 1, none, .tk (.t 24)⟩]))

def l_flotsamref15_skip_0 : AC :=
  .loop [0, 1] b_flotsamref15_skip_0

def r_flotsamref15_skip_0 : AC :=
  .seq (.seq (.reg [⟨some 25, none, .mv (.t 0)⟩, ⟨some 26, none, .mv (.t 1)⟩, ⟨some 27, none, .ixs (.t 25) (.t 26)⟩, ⟨some 28, none, .ic .neq (.t 27) (.c (.int .u8 32))⟩, ⟨some 29, none, .mv (.t 28)⟩, ⟨some 30, (some (29, true)), .mv (.t 0)⟩, ⟨some 31, (some (29, true)), .mv (.t 1)⟩, ⟨some 32, (some (29, true)), .ixs (.t 30) (.t 31)⟩, ⟨some 33, (some (29, true)), .ic .neq (.t 32) (.c (.int .u8 9))⟩, ⟨some 34, none, .pick (.t 29) (.t 33) (.c (.bool false))⟩, ⟨some 35, none, .mv (.t 34)⟩, ⟨some 36, (some (35, true)), .mv (.t 0)⟩, ⟨some 37, (some (35, true)), .mv (.t 1)⟩, ⟨some 38, (some (35, true)), .ixs (.t 36) (.t 37)⟩, ⟨some 39, (some (35, true)), .ic .neq (.t 38) (.c (.int .u8 10))⟩, ⟨some 40, none, .pick (.t 35) (.t 39) (.c (.bool false))⟩])
    (.cond (.t 40)
      (.seq (.reg [⟨some 41, none, .mv (.t 1)⟩, ⟨some 4, none, .tk (.t 41)⟩])
        (.ret))
      (.skip)))
  (.reg [⟨some 42, none, .mv (.t 1)⟩, ⟨some 43, none, .ia .add .i64 (.t 42) (.c (.int .i64 1))⟩, ⟨some 1, none, .tk (.t 43)⟩])

def b_flotsamref15_skip_1 : AC :=
  .seq (.seq (.reg [⟨some 5, none, .mv (.t 1)⟩, ⟨some 6, none, .mv (.t 0)⟩, ⟨some 7, none, .len true (.t 6)⟩, ⟨some 8, none, .ic .lss (.t 5) (.t 7)⟩])
    (.cond (.t 8)
      (.skip)
      (.exit 0)))
  (.block 1 (.seq (.seq (.reg [⟨some 9, none, .mv (.t 0)⟩, ⟨some 10, none, .mv (.t 1)⟩, ⟨some 11, none, .ixs (.t 9) (.t 10)⟩, ⟨some 12, none, .ic .eql (.t 11) (.c (.int .u8 35))⟩])
      (.cond (.t 12)
        (.seq (.block 2 (l_flotsamref15_skip_0))
          (.exit 1))
        (.skip))) r_flotsamref15_skip_0))

def l_flotsamref15_skip_1 : AC :=
  .loop [0, 1] b_flotsamref15_skip_1

def r_flotsamref15_skip_1 : AC :=
  .seq (.reg [⟨some 44, none, .mv (.t 1)⟩, ⟨some 4, none, .tk (.t 44)⟩])
  (.ret)

def c_flotsamref15_skip : AFunc :=
  { np := 2, res := [.t 4], body := (
    .seq (.reg [⟨some 4, none, .tk (.c (.int .i64 0))⟩])
    (.seq (.block 0 (l_flotsamref15_skip_1)) r_flotsamref15_skip_1)) }

-- flotsam/flotsamref15.one
def b_flotsamref15_one_0 : AC :=
  .seq (.seq (.reg [⟨some 19, none, .mv (.t 7)⟩, ⟨some 20, none, .mv (.t 0)⟩, ⟨some 21, none, .len true (.t 20)⟩, ⟨some 22, none, .ic .lss (.t 19) (.t 21)⟩, ⟨some 23, none, .mv (.t 22)⟩, ⟨some 24, (some (23, true)), .mv (.t 0)⟩, ⟨some 25, (some (23, true)), .mv (.t 7)⟩, ⟨some 26, (some (23, true)), .ixs (.t 24) (.t 25)⟩, ⟨some 27, (some (23, true)), .callc n_flotsamref15_inner [(.t 26)]⟩, ⟨some 28, none, .pick (.t 23) (.t 27) (.c (.bool false))⟩])
    (.cond (.t 28)
      (.skip)
      (.exit 0)))
  (.block 1 (.reg [⟨some 29, none, .mv (.t 7)⟩, ⟨some 30, none, .ia .add .i64 (.t 29) (.c (.int .i64 1))⟩, ⟨some 7, none, .tk (.t 30)⟩]))

def l_flotsamref15_one_0 : AC :=
  .loop [0, 1, 4, 7] b_flotsamref15_one_0

def r_flotsamref15_one_0 : AC :=
  .seq (.reg [⟨some 31, none, .mv (.t 0)⟩, ⟨some 32, none, .mv (.t 1)⟩, ⟨some 33, none, .mv (.t 7)⟩, ⟨some 34, none, .slc (.t 31) (some (.t 32)) (some (.t 33))⟩, ⟨some 8, none, .tk (.t 34)⟩])
  (.seq (.seq (.reg [⟨some 35, none, .mv (.t 8)⟩, ⟨some 36, none, .callc n_flotsamref15_Key [(.t 35)]⟩])
    (.cond (.t 36)
      (.seq (.reg [⟨some 37, none, .mv (.t 8)⟩, ⟨some 38, none, .mv (.t 1)⟩, ⟨some 39, none, .bld [.int .i64 0, .str [], .int .i64 0, .int .i64 0] [(0, 1, (.c (.int .i64 4))), (1, 1, (.t 37)), (3, 1, (.t 38))]⟩, ⟨some 40, none, .mv (.t 7)⟩, ⟨none, none, .st 4 (.t 4) (.t 39)⟩, ⟨some 5, none, .tk (.t 40)⟩, ⟨some 6, none, .tk (.c (.int .i64 0))⟩])
        (.ret))
      (.skip)))
  (.seq (.seq (.reg [⟨some 41, none, .mv (.t 8)⟩, ⟨some 42, none, .callc n_flotsamref15_Name [(.t 41)]⟩])
    (.cond (.t 42)
      (.seq (.reg [⟨some 43, none, .mv (.t 8)⟩, ⟨some 44, none, .mv (.t 1)⟩, ⟨some 45, none, .bld [.int .i64 0, .str [], .int .i64 0, .int .i64 0] [(0, 1, (.c (.int .i64 1))), (1, 1, (.t 43)), (3, 1, (.t 44))]⟩, ⟨some 46, none, .mv (.t 7)⟩, ⟨none, none, .st 4 (.t 4) (.t 45)⟩, ⟨some 5, none, .tk (.t 46)⟩, ⟨some 6, none, .tk (.c (.int .i64 0))⟩])
        (.ret))
      (.skip)))
  (.seq (.reg [⟨some 47, none, .bld [.int .i64 0, .str [], .int .i64 0, .int .i64 0] []⟩, ⟨some 48, none, .mv (.t 7)⟩, ⟨none, none, .st 4 (.t 4) (.t 47)⟩, ⟨some 5, none, .tk (.t 48)⟩, ⟨some 6, none, .tk (.c (.int .i64 14))⟩])
  (.ret))))

def b_flotsamref15_one_1 : AC :=
  .seq (.seq (.reg [⟨some 53, none, .mv (.t 7)⟩, ⟨some 54, none, .mv (.t 0)⟩, ⟨some 55, none, .len true (.t 54)⟩, ⟨some 56, none, .ic .lss (.t 53) (.t 55)⟩, ⟨some 57, none, .mv (.t 56)⟩, ⟨some 58, (some (57, true)), .mv (.t 0)⟩, ⟨some 59, (some (57, true)), .mv (.t 7)⟩, ⟨some 60, (some (57, true)), .ixs (.t 58) (.t 59)⟩, ⟨some 61, (some (57, true)), .callc n_flotsamref15_digit [(.t 60)]⟩, ⟨some 62, none, .pick (.t 57) (.t 61) (.c (.bool false))⟩])
    (.cond (.t 62)
      (.skip)
      (.exit 2)))
  (.block 3 (.reg [⟨some 63, none, .mv (.t 7)⟩, ⟨some 64, none, .ia .add .i64 (.t 63) (.c (.int .i64 1))⟩, ⟨some 7, none, .tk (.t 64)⟩]))

def l_flotsamref15_one_1 : AC :=
  .loop [0, 1, 4, 7] b_flotsamref15_one_1

def r_flotsamref15_one_1 : AC :=
  .seq (.reg [⟨some 66, none, .mv (.t 0)⟩, ⟨some 67, none, .mv (.t 1)⟩, ⟨some 68, none, .mv (.t 7)⟩, ⟨some 69, none, .slc (.t 66) (some (.t 67)) (some (.t 68))⟩, ⟨some 70, none, .callc n_flotsamref01_Read [(.t 69)]⟩, ⟨some 65, none, .mv (.t 70)⟩, ⟨some 71, none, .ext (.t 65) 0⟩, ⟨some 72, none, .ext (.t 65) 1⟩, ⟨some 9, none, .tk (.t 71)⟩, ⟨some 10, none, .tk (.t 72)⟩])
  (.seq (.seq (.reg [⟨some 73, none, .mv (.t 10)⟩, ⟨some 74, none, .notb (.t 73)⟩])
    (.cond (.t 74)
      (.seq (.reg [⟨some 75, none, .bld [.int .i64 0, .str [], .int .i64 0, .int .i64 0] []⟩, ⟨some 76, none, .mv (.t 7)⟩, ⟨none, none, .st 4 (.t 4) (.t 75)⟩, ⟨some 5, none, .tk (.t 76)⟩, ⟨some 6, none, .tk (.c (.int .i64 12))⟩])
        (.ret))
      (.skip)))
  (.seq (.reg [⟨some 77, none, .mv (.t 9)⟩, ⟨some 78, none, .mv (.t 1)⟩, ⟨some 79, none, .bld [.int .i64 0, .str [], .int .i64 0, .int .i64 0] [(0, 1, (.c (.int .i64 2))), (2, 1, (.t 77)), (3, 1, (.t 78))]⟩, ⟨some 80, none, .mv (.t 7)⟩, ⟨none, none, .st 4 (.t 4) (.t 79)⟩, ⟨some 5, none, .tk (.t 80)⟩, ⟨some 6, none, .tk (.c (.int .i64 0))⟩])
  (.ret)))

def b_flotsamref15_one_2 : AC :=
  .seq (.seq (.reg [⟨some 85, none, .mv (.t 7)⟩, ⟨some 86, none, .mv (.t 0)⟩, ⟨some 87, none, .len true (.t 86)⟩, ⟨some 88, none, .ic .lss (.t 85) (.t 87)⟩, ⟨some 89, none, .mv (.t 88)⟩, ⟨some 90, (some (89, true)), .mv (.t 0)⟩, ⟨some 91, (some (89, true)), .mv (.t 7)⟩, ⟨some 92, (some (89, true)), .ixs (.t 90) (.t 91)⟩, ⟨some 93, (some (89, true)), .ic .neq (.t 92) (.c (.int .u8 34))⟩, ⟨some 94, none, .pick (.t 89) (.t 93) (.c (.bool false))⟩])
    (.cond (.t 94)
      (.skip)
      (.exit 4)))
  (.block 5 (.reg [⟨some 95, none, .mv (.t 7)⟩, ⟨some 96, none, .ia .add .i64 (.t 95) (.c (.int .i64 1))⟩, ⟨some 7, none, .tk (.t 96)⟩]))

def l_flotsamref15_one_2 : AC :=
  .loop [0, 1, 4, 7] b_flotsamref15_one_2

def r_flotsamref15_one_2 : AC :=
  .seq (.seq (.reg [⟨some 97, none, .mv (.t 7)⟩, ⟨some 98, none, .mv (.t 0)⟩, ⟨some 99, none, .len true (.t 98)⟩, ⟨some 100, none, .ic .eql (.t 97) (.t 99)⟩])
    (.cond (.t 100)
      (.seq (.reg [⟨some 101, none, .bld [.int .i64 0, .str [], .int .i64 0, .int .i64 0] []⟩, ⟨some 102, none, .mv (.t 7)⟩, ⟨none, none, .st 4 (.t 4) (.t 101)⟩, ⟨some 5, none, .tk (.t 102)⟩, ⟨some 6, none, .tk (.c (.int .i64 12))⟩])
        (.ret))
      (.skip)))
  (.seq (.reg [⟨some 104, none, .mv (.t 0)⟩, ⟨some 105, none, .mv (.t 1)⟩, ⟨some 106, none, .mv (.t 7)⟩, ⟨some 107, none, .ia .add .i64 (.t 106) (.c (.int .i64 1))⟩, ⟨some 108, none, .slc (.t 104) (some (.t 105)) (some (.t 107))⟩, ⟨some 109, none, .callc n_flotsamref14_Unquote [(.t 108)]⟩, ⟨some 103, none, .mv (.t 109)⟩, ⟨some 110, none, .ext (.t 103) 0⟩, ⟨some 111, none, .ext (.t 103) 1⟩, ⟨some 11, none, .tk (.t 110)⟩, ⟨some 12, none, .tk (.t 111)⟩])
  (.seq (.seq (.reg [⟨some 112, none, .mv (.t 12)⟩, ⟨some 113, none, .notb (.t 112)⟩])
    (.cond (.t 113)
      (.seq (.reg [⟨some 114, none, .bld [.int .i64 0, .str [], .int .i64 0, .int .i64 0] []⟩, ⟨some 115, none, .mv (.t 7)⟩, ⟨none, none, .st 4 (.t 4) (.t 114)⟩, ⟨some 5, none, .tk (.t 115)⟩, ⟨some 6, none, .tk (.c (.int .i64 12))⟩])
        (.ret))
      (.skip)))
  (.seq (.seq (.reg [⟨some 116, none, .mv (.t 11)⟩, ⟨some 117, none, .len true (.t 116)⟩, ⟨some 118, none, .ic .gtr (.t 117) (.c (.int .i64 64))⟩])
    (.cond (.t 118)
      (.seq (.reg [⟨some 119, none, .bld [.int .i64 0, .str [], .int .i64 0, .int .i64 0] []⟩, ⟨some 120, none, .mv (.t 7)⟩, ⟨none, none, .st 4 (.t 4) (.t 119)⟩, ⟨some 5, none, .tk (.t 120)⟩, ⟨some 6, none, .tk (.c (.int .i64 14))⟩])
        (.ret))
      (.skip)))
  (.seq (.reg [⟨some 121, none, .mv (.t 11)⟩, ⟨some 122, none, .mv (.t 1)⟩, ⟨some 123, none, .bld [.int .i64 0, .str [], .int .i64 0, .int .i64 0] [(0, 1, (.c (.int .i64 3))), (1, 1, (.t 121)), (3, 1, (.t 122))]⟩, ⟨some 124, none, .mv (.t 7)⟩, ⟨some 125, none, .ia .add .i64 (.t 124) (.c (.int .i64 1))⟩, ⟨none, none, .st 4 (.t 4) (.t 123)⟩, ⟨some 5, none, .tk (.t 125)⟩, ⟨some 6, none, .tk (.c (.int .i64 0))⟩])
  (.ret)))))

def r_flotsamref15_one_3 : AC :=
  .seq (.seq (.reg [⟨some 126, none, .mv (.t 7)⟩, ⟨some 127, none, .mv (.t 0)⟩, ⟨some 128, none, .len true (.t 127)⟩, ⟨some 129, none, .ic .lss (.t 126) (.t 128)⟩, ⟨some 130, none, .mv (.t 129)⟩, ⟨some 131, (some (130, true)), .mv (.t 0)⟩, ⟨some 132, (some (130, true)), .mv (.t 1)⟩, ⟨some 133, (some (130, true)), .mv (.t 7)⟩, ⟨some 134, (some (130, true)), .ia .add .i64 (.t 133) (.c (.int .i64 1))⟩, ⟨some 135, (some (130, true)), .slc (.t 131) (some (.t 132)) (some (.t 134))⟩, ⟨some 136, (some (130, true)), .callc n_flotsamref15_Sign [(.t 135)]⟩, ⟨some 137, none, .pick (.t 130) (.t 136) (.c (.bool false))⟩])
    (.cond (.t 137)
      (.reg [⟨some 138, none, .mv (.t 7)⟩, ⟨some 139, none, .ia .add .i64 (.t 138) (.c (.int .i64 1))⟩, ⟨some 7, none, .tk (.t 139)⟩])
      (.skip)))
  (.seq (.seq (.reg [⟨some 140, none, .mv (.t 0)⟩, ⟨some 141, none, .mv (.t 1)⟩, ⟨some 142, none, .mv (.t 7)⟩, ⟨some 143, none, .slc (.t 140) (some (.t 141)) (some (.t 142))⟩, ⟨some 144, none, .callc n_flotsamref15_Sign [(.t 143)]⟩, ⟨some 145, none, .notb (.t 144)⟩])
    (.cond (.t 145)
      (.seq (.reg [⟨some 146, none, .bld [.int .i64 0, .str [], .int .i64 0, .int .i64 0] []⟩, ⟨some 147, none, .mv (.t 7)⟩, ⟨none, none, .st 4 (.t 4) (.t 146)⟩, ⟨some 5, none, .tk (.t 147)⟩, ⟨some 6, none, .tk (.c (.int .i64 12))⟩])
        (.ret))
      (.skip)))
  (.seq (.reg [⟨some 148, none, .mv (.t 0)⟩, ⟨some 149, none, .mv (.t 1)⟩, ⟨some 150, none, .mv (.t 7)⟩, ⟨some 151, none, .slc (.t 148) (some (.t 149)) (some (.t 150))⟩, ⟨some 152, none, .mv (.t 1)⟩, ⟨some 153, none, .bld [.int .i64 0, .str [], .int .i64 0, .int .i64 0] [(0, 1, (.c (.int .i64 5))), (1, 1, (.t 151)), (3, 1, (.t 152))]⟩, ⟨some 154, none, .mv (.t 7)⟩, ⟨none, none, .st 4 (.t 4) (.t 153)⟩, ⟨some 5, none, .tk (.t 154)⟩, ⟨some 6, none, .tk (.c (.int .i64 0))⟩])
  (.ret)))

def r_flotsamref15_one_4 : AC :=
  .seq (.seq (.reg [⟨some 81, none, .mv (.t 0)⟩, ⟨some 82, none, .mv (.t 1)⟩, ⟨some 83, none, .ixs (.t 81) (.t 82)⟩, ⟨some 84, none, .ic .eql (.t 83) (.c (.int .u8 34))⟩])
    (.cond (.t 84)
      (.seq (.block 4 (l_flotsamref15_one_2)) r_flotsamref15_one_2)
      (.skip))) r_flotsamref15_one_3

def r_flotsamref15_one_5 : AC :=
  .seq (.seq (.reg [⟨some 49, none, .mv (.t 0)⟩, ⟨some 50, none, .mv (.t 1)⟩, ⟨some 51, none, .ixs (.t 49) (.t 50)⟩, ⟨some 52, none, .callc n_flotsamref15_digit [(.t 51)]⟩])
    (.cond (.t 52)
      (.seq (.block 2 (l_flotsamref15_one_1)) r_flotsamref15_one_1)
      (.skip))) r_flotsamref15_one_4

def c_flotsamref15_one : AFunc :=
  { np := 2, res := [.cell 4 (some 4), .t 5, .t 6], body := (
    .seq (.reg [⟨some 4, none, .alloc [.int .i64 0, .str [], .int .i64 0, .int .i64 0]⟩, ⟨some 5, none, .tk (.c (.int .i64 0))⟩, ⟨some 6, none, .tk (.c (.int .i64 0))⟩])
    (.seq (.reg [⟨some 13, none, .mv (.t 1)⟩, ⟨some 14, none, .ia .add .i64 (.t 13) (.c (.int .i64 1))⟩, ⟨some 7, none, .tk (.t 14)⟩])
    (.seq (.seq (.reg [⟨some 15, none, .mv (.t 0)⟩, ⟨some 16, none, .mv (.t 1)⟩, ⟨some 17, none, .ixs (.t 15) (.t 16)⟩, ⟨some 18, none, .callc n_flotsamref15_letter [(.t 17)]⟩])
      (.cond (.t 18)
        (.seq (.block 0 (l_flotsamref15_one_0)) r_flotsamref15_one_0)
        (.skip))) r_flotsamref15_one_5))) }

-- flotsam/lex.begins
def c_lex_begins : AFunc :=
  { np := 2, res := [.t 4], body := (
    .seq (.reg [⟨some 4, none, .tk (.c (.bool false))⟩])
    (.seq (.reg [⟨some 5, none, .mv (.t 0)⟩, ⟨some 6, none, .sop .neq (.t 5) (.c (.str []))⟩, ⟨some 7, none, .mv (.t 6)⟩, ⟨some 8, (some (7, true)), .mv (.t 1)⟩, ⟨some 9, (some (7, true)), .mv (.t 0)⟩, ⟨some 10, (some (7, true)), .ixs (.t 9) (.c (.int .i64 0))⟩, ⟨some 11, (some (7, true)), .conv .i32 (.t 10)⟩, ⟨some 12, (some (7, true)), .callv (.t 8) [(.t 11)]⟩, ⟨some 13, none, .pick (.t 7) (.t 12) (.c (.bool false))⟩, ⟨some 4, none, .tk (.t 13)⟩])
    (.ret))) }

-- flotsam/lex.letter
def c_lex_letter : AFunc :=
  { np := 1, res := [.t 2], body := (
    .seq (.reg [⟨some 2, none, .tk (.c (.bool false))⟩])
    (.seq (.reg [⟨some 3, none, .mv (.t 0)⟩, ⟨some 4, none, .ic .geq (.t 3) (.c (.int .i32 97))⟩, ⟨some 5, none, .mv (.t 4)⟩, ⟨some 6, (some (5, true)), .mv (.t 0)⟩, ⟨some 7, (some (5, true)), .ic .leq (.t 6) (.c (.int .i32 122))⟩, ⟨some 8, none, .pick (.t 5) (.t 7) (.c (.bool false))⟩, ⟨some 2, none, .tk (.t 8)⟩])
    (.ret))) }

-- flotsam/lex.inner
def c_lex_inner : AFunc :=
  { np := 1, res := [.t 2], body := (
    .seq (.reg [⟨some 2, none, .tk (.c (.bool false))⟩])
    (.seq (.reg [⟨some 3, none, .mv (.t 0)⟩, ⟨some 4, none, .callc n_lex_letter [(.t 3)]⟩, ⟨some 5, none, .mv (.t 4)⟩, ⟨some 6, (some (5, false)), .mv (.t 0)⟩, ⟨some 7, (some (5, false)), .callc n_lex_digit [(.t 6)]⟩, ⟨some 8, none, .pick (.t 5) (.c (.bool true)) (.t 7)⟩, ⟨some 9, none, .mv (.t 8)⟩, ⟨some 10, (some (9, false)), .mv (.t 0)⟩, ⟨some 11, (some (9, false)), .ic .eql (.t 10) (.c (.int .i32 95))⟩, ⟨some 12, none, .pick (.t 9) (.c (.bool true)) (.t 11)⟩, ⟨some 2, none, .tk (.t 12)⟩])
    (.ret))) }

-- flotsam/flotsamref15.letter
def c_flotsamref15_letter : AFunc :=
  { np := 1, res := [.t 2], body := (
    .seq (.reg [⟨some 2, none, .tk (.c (.bool false))⟩])
    (.seq (.reg [⟨some 3, none, .mv (.t 0)⟩, ⟨some 4, none, .ic .geq (.t 3) (.c (.int .u8 97))⟩, ⟨some 5, none, .mv (.t 4)⟩, ⟨some 6, (some (5, true)), .mv (.t 0)⟩, ⟨some 7, (some (5, true)), .ic .leq (.t 6) (.c (.int .u8 122))⟩, ⟨some 8, none, .pick (.t 5) (.t 7) (.c (.bool false))⟩, ⟨some 2, none, .tk (.t 8)⟩])
    (.ret))) }

-- flotsam/flotsamref15.inner
def c_flotsamref15_inner : AFunc :=
  { np := 1, res := [.t 2], body := (
    .seq (.reg [⟨some 2, none, .tk (.c (.bool false))⟩])
    (.seq (.reg [⟨some 3, none, .mv (.t 0)⟩, ⟨some 4, none, .callc n_flotsamref15_letter [(.t 3)]⟩, ⟨some 5, none, .mv (.t 4)⟩, ⟨some 6, (some (5, false)), .mv (.t 0)⟩, ⟨some 7, (some (5, false)), .callc n_flotsamref15_digit [(.t 6)]⟩, ⟨some 8, none, .pick (.t 5) (.c (.bool true)) (.t 7)⟩, ⟨some 9, none, .mv (.t 8)⟩, ⟨some 10, (some (9, false)), .mv (.t 0)⟩, ⟨some 11, (some (9, false)), .ic .eql (.t 10) (.c (.int .u8 95))⟩, ⟨some 12, none, .pick (.t 9) (.c (.bool true)) (.t 11)⟩, ⟨some 2, none, .tk (.t 12)⟩])
    (.ret))) }

-- flotsam/num.Digits
def b_num_Digits_0 : AC :=
  .block 1 (.seq (.reg [⟨some 12, none, .mv (.t 4)⟩, ⟨some 13, none, .ia .sub .i64 (.t 12) (.c (.int .i64 1))⟩, ⟨some 4, none, .tk (.t 13)⟩])
    (.seq (.reg [⟨some 14, none, .mv (.t 4)⟩, ⟨some 15, none, .mv (.t 5)⟩, ⟨some 16, none, .ia .rem .u64 (.t 15) (.c (.int .u64 10))⟩, ⟨some 17, none, .ia .add .u64 (.c (.int .u64 48)) (.t 16)⟩, ⟨some 18, none, .conv .u8 (.t 17)⟩, ⟨some 19, none, .ixa 1 (some 20) (.t 3) (.t 14)⟩, ⟨none, none, .st 1 (.t 19) (.t 18)⟩])
    (.seq (.reg [⟨some 20, none, .mv (.t 5)⟩, ⟨some 21, none, .ia .quo .u64 (.t 20) (.c (.int .u64 10))⟩, ⟨some 5, none, .tk (.t 21)⟩])
    (.seq (.reg [⟨some 22, none, .mv (.t 5)⟩, ⟨some 23, none, .ic .eql (.t 22) (.c (.int .u64 0))⟩])
    (.cond (.t 23)
      (.exit 0)
      (.skip))))))

def l_num_Digits_0 : AC :=
  .loop [0, 3, 4, 5] b_num_Digits_0

def r_num_Digits_0 : AC :=
  .seq (.seq (.reg [⟨some 24, none, .mv (.t 0)⟩, ⟨some 25, none, .ic .lss (.t 24) (.c (.int .i64 0))⟩])
    (.cond (.t 25)
      (.seq (.reg [⟨some 26, none, .mv (.t 4)⟩, ⟨some 27, none, .ia .sub .i64 (.t 26) (.c (.int .i64 1))⟩, ⟨some 4, none, .tk (.t 27)⟩])
        (.reg [⟨some 28, none, .mv (.t 4)⟩, ⟨some 29, none, .ixa 1 (some 20) (.t 3) (.t 28)⟩, ⟨none, none, .st 1 (.t 29) (.c (.int .u8 45))⟩]))
      (.skip)))
  (.seq (.reg [⟨some 30, none, .mv (.t 4)⟩, ⟨some 31, none, .slp 1 20 (.t 3) (some (.t 30)) none none⟩, ⟨some 32, none, .b2s (.t 31)⟩, ⟨some 2, none, .tk (.t 32)⟩])
  (.ret))

def c_num_Digits : AFunc :=
  { np := 1, res := [.t 2], body := (
    .seq (.reg [⟨some 2, none, .tk (.c (.str []))⟩])
    (.seq (.reg [⟨some 3, none, .alloc [.int .u8 0, .int .u8 0, .int .u8 0, .int .u8 0, .int .u8 0, .int .u8 0, .int .u8 0, .int .u8 0, .int .u8 0, .int .u8 0, .int .u8 0, .int .u8 0, .int .u8 0, .int .u8 0, .int .u8 0, .int .u8 0, .int .u8 0, .int .u8 0, .int .u8 0, .int .u8 0]⟩])
    (.seq (.reg [⟨some 4, none, .tk (.c (.int .i64 20))⟩])
    (.seq (.reg [⟨some 6, none, .mv (.t 0)⟩, ⟨some 7, none, .conv .u64 (.t 6)⟩, ⟨some 5, none, .tk (.t 7)⟩])
    (.seq (.seq (.reg [⟨some 8, none, .mv (.t 0)⟩, ⟨some 9, none, .ic .lss (.t 8) (.c (.int .i64 0))⟩])
      (.cond (.t 9)
        (.reg [⟨some 10, none, .mv (.t 5)⟩, ⟨some 11, none, .neg .u64 (.t 10)⟩, ⟨some 5, none, .tk (.t 11)⟩])
        (.skip)))
    (.seq (.block 0 (l_num_Digits_0)) r_num_Digits_0)))))) }

-- flotsam/view.Quote
def b_view_Quote_0 : AC :=
  .seq (.reg [⟨some 11, none, .ic .lss (.t 10) (.t 9)⟩])
  (.seq (.cond (.t 11)
      (.skip)
      (.exit 0))
  (.seq (.block 1 (.seq (.reg [⟨some 12, none, .ixa 1 none (.t 8) (.t 10)⟩, ⟨some 13, none, .ld none (.t 12)⟩, ⟨some 5, none, .tk (.t 13)⟩])
      (.seq (.seq (.reg [⟨some 14, none, .mv (.t 5)⟩, ⟨some 15, none, .callc n_view_plain [(.t 14)]⟩])
        (.cond (.t 15)
          (.seq (.reg [⟨some 16, none, .mv (.t 5)⟩, ⟨some 17, none, .call n_pstrings_Builder_WriteByte [(.t 3), (.t 16)]⟩])
            (.exit 1))
          (.skip)))
      (.seq (.reg [⟨some 18, none, .call n_pstrings_Builder_WriteByte [(.t 3), (.c (.int .u8 92))]⟩])
      (.seq (.reg [⟨some 19, none, .mv (.t 5)⟩, ⟨some 20, none, .ia .shr .u8 (.t 19) (.c (.int .u64 4))⟩, ⟨some 21, none, .ixs (.c (.str [48, 49, 50, 51, 52, 53, 54, 55, 56, 57, 97, 98, 99, 100, 101, 102])) (.t 20)⟩, ⟨some 22, none, .call n_pstrings_Builder_WriteByte [(.t 3), (.t 21)]⟩])
      (.reg [⟨some 23, none, .mv (.t 5)⟩, ⟨some 24, none, .ia .and .u8 (.t 23) (.c (.int .u8 15))⟩, ⟨some 25, none, .ixs (.c (.str [48, 49, 50, 51, 52, 53, 54, 55, 56, 57, 97, 98, 99, 100, 101, 102])) (.t 24)⟩, ⟨some 26, none, .call n_pstrings_Builder_WriteByte [(.t 3), (.t 25)]⟩]))))))
  (.reg [⟨some 27, none, .ia .add .i64 (.t 10) (.c (.int .i64 1))⟩, ⟨some 10, none, .mv (.t 27)⟩])))

def l_view_Quote_0 : AC :=
  .loop [3, 8, 9, 10] b_view_Quote_0

def r_view_Quote_0 : AC :=
  .seq (.reg [⟨some 28, none, .call n_pstrings_Builder_WriteByte [(.t 3), (.c (.int .u8 34))]⟩])
  (.seq (.reg [⟨some 29, none, .call n_pstrings_Builder_String [(.t 3)]⟩, ⟨some 2, none, .tk (.t 29)⟩])
  (.ret))

def c_view_Quote : AFunc :=
  { np := 1, res := [.t 2], body := (
    .seq (.reg [⟨some 2, none, .tk (.c (.str []))⟩])
    (.seq (.reg [⟨some 3, none, .allocb bT bE⟩])
    (.seq (.reg [⟨some 6, none, .call n_pstrings_Builder_WriteByte [(.t 3), (.c (.int .u8 34))]⟩])
    (.seq (.seq (.reg [⟨some 7, none, .mv (.t 0)⟩, ⟨some 8, none, .s2b (.t 7)⟩, ⟨some 9, none, .len false (.t 8)⟩, ⟨some 10, none, .mv (.c (.int .i64 0))⟩])
      (.block 0 (l_view_Quote_0))) r_view_Quote_0)))) }

-- slices.Equal[[]flotsam/api.Word,flotsam/api.Word]
def b_slices_Equal_api_Word_api_Word_0 : AC :=
  .seq (.reg [⟨some 14, none, .ic .lss (.t 13) (.t 12)⟩])
  (.seq (.cond (.t 14)
      (.skip)
      (.exit 0))
  (.seq (.block 1 (.seq (.reg [⟨some 15, none, .mv (.t 13)⟩, ⟨some 5, none, .tk (.t 15)⟩])
      (.seq (.drw [[], [], [], [], [], [], [], [], []] [⟨some 16, none, .mv (.t 0)⟩, ⟨some 17, none, .mv (.t 5)⟩, ⟨some 18, none, .ixa 4 none (.t 16) (.t 17)⟩, ⟨some 19, none, .ld (some 4) (.t 18)⟩, ⟨some 20, none, .mv (.t 1)⟩, ⟨some 21, none, .mv (.t 5)⟩, ⟨some 22, none, .ixa 4 none (.t 20) (.t 21)⟩, ⟨some 23, none, .ld (some 4) (.t 22)⟩, ⟨some 24, none, .eqa true [.int .i64, .str, .int .i64, .int .i64] (.t 19) (.t 23)⟩])
      (.cond (.t 24)
        (.seq (.reg [⟨some 4, none, .tk (.c (.bool false))⟩])
          (.ret))
        (.skip)))))
  (.reg [⟨some 25, none, .ia .add .i64 (.t 13) (.c (.int .i64 1))⟩, ⟨some 13, none, .mv (.t 25)⟩])))

def l_slices_Equal_api_Word_api_Word_0 : AC :=
  .loop [0, 1, 12, 13] b_slices_Equal_api_Word_api_Word_0

def r_slices_Equal_api_Word_api_Word_0 : AC :=
  .seq (.reg [⟨some 4, none, .tk (.c (.bool true))⟩])
  (.ret)

def c_slices_Equal_api_Word_api_Word : AFunc :=
  { np := 2, res := [.t 4], body := (
    .seq (.reg [⟨some 4, none, .tk (.c (.bool false))⟩])
    (.seq (.seq (.reg [⟨some 6, none, .mv (.t 0)⟩, ⟨some 7, none, .len false (.t 6)⟩, ⟨some 8, none, .mv (.t 1)⟩, ⟨some 9, none, .len false (.t 8)⟩, ⟨some 10, none, .ic .neq (.t 7) (.t 9)⟩])
      (.cond (.t 10)
        (.seq (.reg [⟨some 4, none, .tk (.c (.bool false))⟩])
          (.ret))
        (.skip)))
    (.seq (.seq (.reg [⟨some 11, none, .mv (.t 0)⟩, ⟨some 12, none, .len false (.t 11)⟩, ⟨some 13, none, .mv (.c (.int .i64 0))⟩])
      (.block 0 (l_slices_Equal_api_Word_api_Word_0))) r_slices_Equal_api_Word_api_Word_0))) }

-- flotsam/flotsamref01.Digits
def c_flotsamref01_Digits : AFunc :=
  { np := 1, res := [.t 2], body := (
    .seq (.reg [⟨some 2, none, .tk (.c (.str []))⟩])
    (.seq (.seq (.reg [⟨some 3, none, .mv (.t 0)⟩, ⟨some 4, none, .ic .gtr (.t 3) (.c (.int .i64 (-10)))⟩, ⟨some 5, none, .mv (.t 4)⟩, ⟨some 6, (some (5, true)), .mv (.t 0)⟩, ⟨some 7, (some (5, true)), .ic .lss (.t 6) (.c (.int .i64 0))⟩, ⟨some 8, none, .pick (.t 5) (.t 7) (.c (.bool false))⟩])
      (.cond (.t 8)
        (.seq (.reg [⟨some 9, none, .mv (.t 0)⟩, ⟨some 10, none, .ia .sub .i64 (.c (.int .i64 48)) (.t 9)⟩, ⟨some 11, none, .conv .u8 (.t 10)⟩, ⟨some 12, none, .bsl 1 [.int .u8 0] 1 [(0, 1, (.t 11))] false⟩, ⟨some 13, none, .b2s (.t 12)⟩, ⟨some 14, none, .sop .add (.c (.str [45])) (.t 13)⟩, ⟨some 2, none, .tk (.t 14)⟩])
          (.ret))
        (.skip)))
    (.seq (.seq (.reg [⟨some 15, none, .mv (.t 0)⟩, ⟨some 16, none, .ic .lss (.t 15) (.c (.int .i64 0))⟩])
      (.cond (.t 16)
        (.seq (.drw [[], [], [], [], [], [], [], [], [], [], []] [⟨some 17, none, .mv (.t 0)⟩, ⟨some 18, none, .ia .quo .i64 (.t 17) (.c (.int .i64 10))⟩, ⟨some 19, none, .callc n_flotsamref01_Digits [(.t 18)]⟩, ⟨some 20, none, .mv (.t 0)⟩, ⟨some 21, none, .ia .rem .i64 (.t 20) (.c (.int .i64 10))⟩, ⟨some 22, none, .ia .sub .i64 (.c (.int .i64 48)) (.t 21)⟩, ⟨some 23, none, .conv .u8 (.t 22)⟩, ⟨some 24, none, .bsl 1 [.int .u8 0] 1 [(0, 1, (.t 23))] false⟩, ⟨some 25, none, .b2s (.t 24)⟩, ⟨some 26, none, .sop .add (.t 19) (.t 25)⟩, ⟨some 2, none, .tk (.t 26)⟩])
          (.ret))
        (.skip)))
    (.seq (.seq (.reg [⟨some 27, none, .mv (.t 0)⟩, ⟨some 28, none, .ic .gtr (.t 27) (.c (.int .i64 9))⟩])
      (.cond (.t 28)
        (.seq (.drw [[], [], [], [], [], [], [], [], [], [], []] [⟨some 29, none, .mv (.t 0)⟩, ⟨some 30, none, .ia .quo .i64 (.t 29) (.c (.int .i64 10))⟩, ⟨some 31, none, .callc n_flotsamref01_Digits [(.t 30)]⟩, ⟨some 32, none, .mv (.t 0)⟩, ⟨some 33, none, .ia .rem .i64 (.t 32) (.c (.int .i64 10))⟩, ⟨some 34, none, .ia .add .i64 (.c (.int .i64 48)) (.t 33)⟩, ⟨some 35, none, .conv .u8 (.t 34)⟩, ⟨some 36, none, .bsl 1 [.int .u8 0] 1 [(0, 1, (.t 35))] false⟩, ⟨some 37, none, .b2s (.t 36)⟩, ⟨some 38, none, .sop .add (.t 31) (.t 37)⟩, ⟨some 2, none, .tk (.t 38)⟩])
          (.ret))
        (.skip)))
    (.seq (.reg [⟨some 39, none, .mv (.t 0)⟩, ⟨some 40, none, .ia .add .i64 (.c (.int .i64 48)) (.t 39)⟩, ⟨some 41, none, .conv .u8 (.t 40)⟩, ⟨some 42, none, .bsl 1 [.int .u8 0] 1 [(0, 1, (.t 41))] false⟩, ⟨some 43, none, .b2s (.t 42)⟩, ⟨some 2, none, .tk (.t 43)⟩])
    (.ret)))))) }

-- flotsam/flotsamref14.Quote
def b_flotsamref14_Quote_0 : AC :=
  .seq (.seq (.reg [⟨some 5, none, .mv (.t 4)⟩, ⟨some 6, none, .mv (.t 0)⟩, ⟨some 7, none, .len true (.t 6)⟩, ⟨some 8, none, .ic .lss (.t 5) (.t 7)⟩])
    (.cond (.t 8)
      (.skip)
      (.exit 0)))
  (.seq (.block 1 (.reg [⟨some 11, none, .mv (.t 3)⟩, ⟨some 12, none, .mv (.t 0)⟩, ⟨some 13, none, .mv (.t 4)⟩, ⟨some 14, none, .ixs (.t 12) (.t 13)⟩, ⟨some 15, none, .callc n_flotsamref14_sign [(.t 14)]⟩, ⟨some 16, none, .sop .add (.t 11) (.t 15)⟩, ⟨some 3, none, .tk (.t 16)⟩]))
  (.reg [⟨some 9, none, .mv (.t 4)⟩, ⟨some 10, none, .ia .add .i64 (.t 9) (.c (.int .i64 1))⟩, ⟨some 4, none, .tk (.t 10)⟩]))

def l_flotsamref14_Quote_0 : AC :=
  .loop [0, 3, 4] b_flotsamref14_Quote_0

def r_flotsamref14_Quote_0 : AC :=
  .seq (.reg [⟨some 17, none, .mv (.t 3)⟩, ⟨some 18, none, .sop .add (.t 17) (.c (.str [34]))⟩, ⟨some 2, none, .tk (.t 18)⟩])
  (.ret)

def c_flotsamref14_Quote : AFunc :=
  { np := 1, res := [.t 2], body := (
    .seq (.reg [⟨some 2, none, .tk (.c (.str []))⟩])
    (.seq (.reg [⟨some 3, none, .tk (.c (.str [34]))⟩])
    (.seq (.seq (.reg [⟨some 4, none, .tk (.c (.int .i64 0))⟩])
      (.block 0 (l_flotsamref14_Quote_0))) r_flotsamref14_Quote_0))) }

-- flotsam/flotsamref15.Sign
def b_flotsamref15_Sign_0 : AC :=
  .seq (.seq (.reg [⟨some 6, none, .mv (.t 4)⟩, ⟨some 7, none, .mv (.t 3)⟩, ⟨some 8, none, .len false (.t 7)⟩, ⟨some 9, none, .ic .lss (.t 6) (.t 8)⟩])
    (.cond (.t 9)
      (.skip)
      (.exit 0)))
  (.seq (.block 1 (.seq (.reg [⟨some 12, none, .mv (.t 3)⟩, ⟨some 13, none, .mv (.t 4)⟩, ⟨some 14, none, .ixa 1 none (.t 12) (.t 13)⟩, ⟨some 15, none, .ld none (.t 14)⟩, ⟨some 16, none, .mv (.t 0)⟩, ⟨some 17, none, .sop .eql (.t 15) (.t 16)⟩])
      (.cond (.t 17)
        (.seq (.reg [⟨some 2, none, .tk (.c (.bool true))⟩])
          (.ret))
        (.skip))))
  (.reg [⟨some 10, none, .mv (.t 4)⟩, ⟨some 11, none, .ia .add .i64 (.t 10) (.c (.int .i64 1))⟩, ⟨some 4, none, .tk (.t 11)⟩]))

def l_flotsamref15_Sign_0 : AC :=
  .loop [0, 3, 4] b_flotsamref15_Sign_0

def r_flotsamref15_Sign_0 : AC :=
  .seq (.reg [⟨some 2, none, .tk (.c (.bool false))⟩])
  (.ret)

def c_flotsamref15_Sign : AFunc :=
  { np := 1, res := [.t 2], body := (
    .seq (.reg [⟨some 2, none, .tk (.c (.bool false))⟩])
    (.seq (.reg [⟨some 5, none, .bsl 1 [.str []] 12 [(0, 1, (.c (.str [123]))), (1, 1, (.c (.str [125]))), (2, 1, (.c (.str [40]))), (3, 1, (.c (.str [41]))), (4, 1, (.c (.str [59]))), (5, 1, (.c (.str [44]))), (6, 1, (.c (.str [58]))), (7, 1, (.c (.str [43]))), (8, 1, (.c (.str [45]))), (9, 1, (.c (.str [60]))), (10, 1, (.c (.str [61]))), (11, 1, (.c (.str [61, 61])))] false⟩, ⟨some 3, none, .tk (.t 5)⟩])
    (.seq (.seq (.reg [⟨some 4, none, .tk (.c (.int .i64 0))⟩])
      (.block 0 (l_flotsamref15_Sign_0))) r_flotsamref15_Sign_0))) }

-- strings.HasPrefix
def c_strings_HasPrefix : AFunc :=
  { np := 2, res := [.t 4], body := (
    .seq (.reg [⟨some 4, none, .tk (.c (.bool false))⟩])
    (.seq (.reg [⟨some 5, none, .mv (.t 0)⟩, ⟨some 6, none, .mv (.t 1)⟩, ⟨some 7, none, .callc n_internal_stringslite_HasPrefix [(.t 5), (.t 6)]⟩, ⟨some 4, none, .tk (.t 7)⟩])
    (.ret))) }

-- flotsam/lex.word
def c_lex_word : AFunc :=
  { np := 1, res := [.cell 2 (some 4), .t 3, .t 4], body := (
    .seq (.reg [⟨some 2, none, .alloc [.int .i64 0, .str [], .int .i64 0, .int .i64 0]⟩, ⟨some 3, none, .tk (.c (.int .i64 0))⟩, ⟨some 4, none, .tk (.c (.int .i64 0))⟩])
    (.seq (.reg [⟨some 6, none, .mv (.t 0)⟩, ⟨some 7, none, .callc n_lex_run [(.t 6), (.c (.fn (.func n_lex_inner) [] []))]⟩, ⟨some 5, none, .tk (.t 7)⟩])
    (.seq (.block 0 (.seq (.reg [⟨some 9, none, .mv (.t 5)⟩, ⟨some 10, none, .callc n_lex_Key [(.t 9)]⟩, ⟨some 8, none, .tk (.t 10)⟩])
        (.cond (.t 8)
          (.seq (.reg [⟨some 11, none, .mv (.t 5)⟩, ⟨some 12, none, .bld [.int .i64 0, .str [], .int .i64 0, .int .i64 0] [(0, 1, (.c (.int .i64 4))), (1, 1, (.t 11))]⟩, ⟨some 13, none, .mv (.t 5)⟩, ⟨some 14, none, .len true (.t 13)⟩, ⟨none, none, .st 4 (.t 2) (.t 12)⟩, ⟨some 3, none, .tk (.t 14)⟩, ⟨some 4, none, .tk (.c (.int .i64 0))⟩])
            (.ret))
          (.seq (.reg [⟨some 16, none, .mv (.t 5)⟩, ⟨some 17, none, .callc n_lex_Name [(.t 16)]⟩, ⟨some 15, none, .tk (.t 17)⟩])
            (.cond (.t 15)
              (.seq (.reg [⟨some 18, none, .mv (.t 5)⟩, ⟨some 19, none, .bld [.int .i64 0, .str [], .int .i64 0, .int .i64 0] [(0, 1, (.c (.int .i64 1))), (1, 1, (.t 18))]⟩, ⟨some 20, none, .mv (.t 5)⟩, ⟨some 21, none, .len true (.t 20)⟩, ⟨none, none, .st 4 (.t 2) (.t 19)⟩, ⟨some 3, none, .tk (.t 21)⟩, ⟨some 4, none, .tk (.c (.int .i64 0))⟩])
                (.ret))
              (.skip))))))
    (.seq (.reg [⟨some 22, none, .bld [.int .i64 0, .str [], .int .i64 0, .int .i64 0] []⟩, ⟨none, none, .st 4 (.t 2) (.t 22)⟩, ⟨some 3, none, .tk (.c (.int .i64 0))⟩, ⟨some 4, none, .tk (.c (.int .i64 14))⟩])
    (.ret))))) }

-- flotsam/lex.digit
def c_lex_digit : AFunc :=
  { np := 1, res := [.t 2], body := (
    .seq (.reg [⟨some 2, none, .tk (.c (.bool false))⟩])
    (.seq (.reg [⟨some 3, none, .mv (.t 0)⟩, ⟨some 4, none, .ic .geq (.t 3) (.c (.int .i32 48))⟩, ⟨some 5, none, .mv (.t 4)⟩, ⟨some 6, (some (5, true)), .mv (.t 0)⟩, ⟨some 7, (some (5, true)), .ic .leq (.t 6) (.c (.int .i32 57))⟩, ⟨some 8, none, .pick (.t 5) (.t 7) (.c (.bool false))⟩, ⟨some 2, none, .tk (.t 8)⟩])
    (.ret))) }

-- flotsam/lex.number
def c_lex_number : AFunc :=
  { np := 1, res := [.cell 2 (some 4), .t 3, .t 4], body := (
    .seq (.reg [⟨some 2, none, .alloc [.int .i64 0, .str [], .int .i64 0, .int .i64 0]⟩, ⟨some 3, none, .tk (.c (.int .i64 0))⟩, ⟨some 4, none, .tk (.c (.int .i64 0))⟩])
    (.seq (.reg [⟨some 8, none, .mv (.t 0)⟩, ⟨some 9, none, .callc n_lex_run [(.t 8), (.c (.fn (.func n_lex_digit) [] []))]⟩, ⟨some 5, none, .tk (.t 9)⟩])
    (.seq (.reg [⟨some 11, none, .mv (.t 5)⟩, ⟨some 12, none, .callc n_num_Read [(.t 11)]⟩, ⟨some 10, none, .mv (.t 12)⟩, ⟨some 13, none, .ext (.t 10) 0⟩, ⟨some 14, none, .ext (.t 10) 1⟩, ⟨some 6, none, .tk (.t 13)⟩, ⟨some 7, none, .tk (.t 14)⟩])
    (.seq (.seq (.reg [⟨some 15, none, .mv (.t 7)⟩, ⟨some 16, none, .notb (.t 15)⟩])
      (.cond (.t 16)
        (.seq (.reg [⟨some 17, none, .bld [.int .i64 0, .str [], .int .i64 0, .int .i64 0] []⟩, ⟨none, none, .st 4 (.t 2) (.t 17)⟩, ⟨some 3, none, .tk (.c (.int .i64 0))⟩, ⟨some 4, none, .tk (.c (.int .i64 12))⟩])
          (.ret))
        (.skip)))
    (.seq (.reg [⟨some 18, none, .mv (.t 6)⟩, ⟨some 19, none, .bld [.int .i64 0, .str [], .int .i64 0, .int .i64 0] [(0, 1, (.c (.int .i64 2))), (2, 1, (.t 18))]⟩, ⟨some 20, none, .mv (.t 5)⟩, ⟨some 21, none, .len true (.t 20)⟩, ⟨none, none, .st 4 (.t 2) (.t 19)⟩, ⟨some 3, none, .tk (.t 21)⟩, ⟨some 4, none, .tk (.c (.int .i64 0))⟩])
    (.ret)))))) }

-- flotsam/lex.text
def c_lex_text : AFunc :=
  { np := 1, res := [.cell 2 (some 4), .t 3, .t 4], body := (
    .seq (.reg [⟨some 2, none, .alloc [.int .i64 0, .str [], .int .i64 0, .int .i64 0]⟩, ⟨some 3, none, .tk (.c (.int .i64 0))⟩, ⟨some 4, none, .tk (.c (.int .i64 0))⟩])
    (.seq (.drw [[], [], [], [], [], []] [⟨some 8, none, .mv (.t 0)⟩, ⟨some 9, none, .slc (.t 8) (some (.c (.int .i64 1))) none⟩, ⟨some 10, none, .mv (.t 0)⟩, ⟨some 11, none, .ixs (.t 10) (.c (.int .i64 0))⟩, ⟨some 12, none, .callc n_strings_IndexByte [(.t 9), (.t 11)]⟩, ⟨some 5, none, .tk (.t 12)⟩])
    (.seq (.seq (.reg [⟨some 13, none, .mv (.t 5)⟩, ⟨some 14, none, .ic .lss (.t 13) (.c (.int .i64 0))⟩])
      (.cond (.t 14)
        (.seq (.reg [⟨some 15, none, .bld [.int .i64 0, .str [], .int .i64 0, .int .i64 0] []⟩, ⟨none, none, .st 4 (.t 2) (.t 15)⟩, ⟨some 3, none, .tk (.c (.int .i64 0))⟩, ⟨some 4, none, .tk (.c (.int .i64 12))⟩])
          (.ret))
        (.skip)))
    (.seq (.reg [⟨some 17, none, .mv (.t 0)⟩, ⟨some 18, none, .mv (.t 5)⟩, ⟨some 19, none, .ia .add .i64 (.t 18) (.c (.int .i64 2))⟩, ⟨some 20, none, .slc (.t 17) none (some (.t 19))⟩, ⟨some 21, none, .callc n_view_Unquote [(.t 20)]⟩, ⟨some 16, none, .mv (.t 21)⟩, ⟨some 22, none, .ext (.t 16) 0⟩, ⟨some 23, none, .ext (.t 16) 1⟩, ⟨some 6, none, .tk (.t 22)⟩, ⟨some 7, none, .tk (.t 23)⟩])
    (.seq (.block 0 (.seq (.reg [⟨some 25, none, .mv (.t 7)⟩, ⟨some 26, none, .notb (.t 25)⟩, ⟨some 24, none, .tk (.t 26)⟩])
        (.cond (.t 24)
          (.seq (.reg [⟨some 27, none, .bld [.int .i64 0, .str [], .int .i64 0, .int .i64 0] []⟩, ⟨none, none, .st 4 (.t 2) (.t 27)⟩, ⟨some 3, none, .tk (.c (.int .i64 0))⟩, ⟨some 4, none, .tk (.c (.int .i64 12))⟩])
            (.ret))
          (.seq (.reg [⟨some 29, none, .mv (.t 6)⟩, ⟨some 30, none, .len true (.t 29)⟩, ⟨some 31, none, .ic .gtr (.t 30) (.c (.int .i64 64))⟩, ⟨some 28, none, .tk (.t 31)⟩])
            (.cond (.t 28)
              (.seq (.reg [⟨some 32, none, .bld [.int .i64 0, .str [], .int .i64 0, .int .i64 0] []⟩, ⟨none, none, .st 4 (.t 2) (.t 32)⟩, ⟨some 3, none, .tk (.c (.int .i64 0))⟩, ⟨some 4, none, .tk (.c (.int .i64 14))⟩])
                (.ret))
              (.skip))))))
    (.seq (.reg [⟨some 33, none, .mv (.t 6)⟩, ⟨some 34, none, .bld [.int .i64 0, .str [], .int .i64 0, .int .i64 0] [(0, 1, (.c (.int .i64 3))), (1, 1, (.t 33))]⟩, ⟨some 35, none, .mv (.t 5)⟩, ⟨some 36, none, .ia .add .i64 (.t 35) (.c (.int .i64 2))⟩, ⟨none, none, .st 4 (.t 2) (.t 34)⟩, ⟨some 3, none, .tk (.t 36)⟩, ⟨some 4, none, .tk (.c (.int .i64 0))⟩])
    (.ret))))))) }

-- flotsam/lex.sign
def c_lex_sign : AFunc :=
  { np := 1, res := [.cell 2 (some 4), .t 3, .t 4], body := (
    .seq (.reg [⟨some 2, none, .alloc [.int .i64 0, .str [], .int .i64 0, .int .i64 0]⟩, ⟨some 3, none, .tk (.c (.int .i64 0))⟩, ⟨some 4, none, .tk (.c (.int .i64 0))⟩])
    (.seq (.block 0 (.seq (.reg [⟨some 6, none, .mv (.t 0)⟩, ⟨some 7, none, .callc n_strings_HasPrefix [(.t 6), (.c (.str [61, 61]))]⟩, ⟨some 5, none, .tk (.t 7)⟩])
        (.cond (.t 5)
          (.seq (.reg [⟨some 8, none, .bld [.int .i64 0, .str [], .int .i64 0, .int .i64 0] [(0, 1, (.c (.int .i64 5))), (1, 1, (.c (.str [61, 61])))]⟩, ⟨none, none, .st 4 (.t 2) (.t 8)⟩, ⟨some 3, none, .tk (.c (.int .i64 2))⟩, ⟨some 4, none, .tk (.c (.int .i64 0))⟩])
            (.ret))
          (.seq (.reg [⟨some 10, none, .mv (.t 0)⟩, ⟨some 11, none, .ixs (.t 10) (.c (.int .i64 0))⟩, ⟨some 12, none, .callc n_strings_IndexByte [(.c (.str [123, 125, 40, 41, 59, 44, 58, 43, 45, 60, 61])), (.t 11)]⟩, ⟨some 13, none, .ic .geq (.t 12) (.c (.int .i64 0))⟩, ⟨some 9, none, .tk (.t 13)⟩])
            (.cond (.t 9)
              (.seq (.reg [⟨some 14, none, .mv (.t 0)⟩, ⟨some 15, none, .slc (.t 14) none (some (.c (.int .i64 1)))⟩, ⟨some 16, none, .bld [.int .i64 0, .str [], .int .i64 0, .int .i64 0] [(0, 1, (.c (.int .i64 5))), (1, 1, (.t 15))]⟩, ⟨none, none, .st 4 (.t 2) (.t 16)⟩, ⟨some 3, none, .tk (.c (.int .i64 1))⟩, ⟨some 4, none, .tk (.c (.int .i64 0))⟩])
                (.ret))
              (.skip))))))
    (.seq (.reg [⟨some 17, none, .bld [.int .i64 0, .str [], .int .i64 0, .int .i64 0] []⟩, ⟨none, none, .st 4 (.t 2) (.t 17)⟩, ⟨some 3, none, .tk (.c (.int .i64 0))⟩, ⟨some 4, none, .tk (.c (.int .i64 12))⟩])
    (.ret)))) }

-- flotsam/flotsamref15.digit
def c_flotsamref15_digit : AFunc :=
  { np := 1, res := [.t 2], body := (
    .seq (.reg [⟨some 2, none, .tk (.c (.bool false))⟩])
    (.seq (.reg [⟨some 3, none, .mv (.t 0)⟩, ⟨some 4, none, .ic .geq (.t 3) (.c (.int .u8 48))⟩, ⟨some 5, none, .mv (.t 4)⟩, ⟨some 6, (some (5, true)), .mv (.t 0)⟩, ⟨some 7, (some (5, true)), .ic .leq (.t 6) (.c (.int .u8 57))⟩, ⟨some 8, none, .pick (.t 5) (.t 7) (.c (.bool false))⟩, ⟨some 2, none, .tk (.t 8)⟩])
    (.ret))) }

-- flotsam/flotsamref01.Read
def b_flotsamref01_Read_0 : AC :=
  .seq (.seq (.reg [⟨some 24, none, .mv (.t 5)⟩, ⟨some 25, none, .mv (.t 0)⟩, ⟨some 26, none, .len true (.t 25)⟩, ⟨some 27, none, .ic .lss (.t 24) (.t 26)⟩])
    (.cond (.t 27)
      (.skip)
      (.exit 0)))
  (.seq (.block 1 (.seq (.seq (.reg [⟨some 30, none, .mv (.t 0)⟩, ⟨some 31, none, .mv (.t 5)⟩, ⟨some 32, none, .ixs (.t 30) (.t 31)⟩, ⟨some 33, none, .ic .lss (.t 32) (.c (.int .u8 48))⟩, ⟨some 34, none, .mv (.t 33)⟩, ⟨some 35, (some (34, false)), .mv (.t 0)⟩, ⟨some 36, (some (34, false)), .mv (.t 5)⟩, ⟨some 37, (some (34, false)), .ixs (.t 35) (.t 36)⟩, ⟨some 38, (some (34, false)), .ic .gtr (.t 37) (.c (.int .u8 57))⟩, ⟨some 39, none, .pick (.t 34) (.c (.bool true)) (.t 38)⟩])
        (.cond (.t 39)
          (.seq (.reg [⟨some 2, none, .tk (.c (.int .i64 0))⟩, ⟨some 3, none, .tk (.c (.bool false))⟩])
            (.ret))
          (.skip)))
      (.reg [⟨some 40, none, .mv (.t 4)⟩, ⟨some 41, none, .ia .mul .i64 (.c (.int .i64 10)) (.t 40)⟩, ⟨some 42, none, .mv (.t 0)⟩, ⟨some 43, none, .mv (.t 5)⟩, ⟨some 44, none, .ixs (.t 42) (.t 43)⟩, ⟨some 45, none, .ia .sub .u8 (.t 44) (.c (.int .u8 48))⟩, ⟨some 46, none, .conv .i64 (.t 45)⟩, ⟨some 47, none, .ia .add .i64 (.t 41) (.t 46)⟩, ⟨some 4, none, .tk (.t 47)⟩])))
  (.reg [⟨some 28, none, .mv (.t 5)⟩, ⟨some 29, none, .ia .add .i64 (.t 28) (.c (.int .i64 1))⟩, ⟨some 5, none, .tk (.t 29)⟩]))

def l_flotsamref01_Read_0 : AC :=
  .loop [0, 4, 5] b_flotsamref01_Read_0

def r_flotsamref01_Read_0 : AC :=
  .seq (.seq (.reg [⟨some 48, none, .mv (.t 4)⟩, ⟨some 49, none, .ic .gtr (.t 48) (.c (.int .i64 1000000000000))⟩])
    (.cond (.t 49)
      (.seq (.reg [⟨some 2, none, .tk (.c (.int .i64 0))⟩, ⟨some 3, none, .tk (.c (.bool false))⟩])
        (.ret))
      (.skip)))
  (.seq (.reg [⟨some 50, none, .mv (.t 4)⟩, ⟨some 2, none, .tk (.t 50)⟩, ⟨some 3, none, .tk (.c (.bool true))⟩])
  (.ret))

def c_flotsamref01_Read : AFunc :=
  { np := 1, res := [.t 2, .t 3], body := (
    .seq (.reg [⟨some 2, none, .tk (.c (.int .i64 0))⟩, ⟨some 3, none, .tk (.c (.bool false))⟩])
    (.seq (.seq (.reg [⟨some 6, none, .mv (.t 0)⟩, ⟨some 7, none, .len true (.t 6)⟩, ⟨some 8, none, .ic .lss (.t 7) (.c (.int .i64 1))⟩, ⟨some 9, none, .mv (.t 8)⟩, ⟨some 10, (some (9, false)), .mv (.t 0)⟩, ⟨some 11, (some (9, false)), .len true (.t 10)⟩, ⟨some 12, (some (9, false)), .ic .gtr (.t 11) (.c (.int .i64 13))⟩, ⟨some 13, none, .pick (.t 9) (.c (.bool true)) (.t 12)⟩, ⟨some 14, none, .mv (.t 13)⟩, ⟨some 15, (some (14, false)), .mv (.t 0)⟩, ⟨some 16, (some (14, false)), .len true (.t 15)⟩, ⟨some 17, (some (14, false)), .ic .gtr (.t 16) (.c (.int .i64 1))⟩, ⟨some 18, (some (14, false)), .mv (.t 17)⟩, ⟨some 19, (some (18, true)), .mv (.t 0)⟩, ⟨some 20, (some (18, true)), .ixs (.t 19) (.c (.int .i64 0))⟩, ⟨some 21, (some (18, true)), .ic .eql (.t 20) (.c (.int .u8 48))⟩, ⟨some 22, (some (14, false)), .pick (.t 18) (.t 21) (.c (.bool false))⟩, ⟨some 23, none, .pick (.t 14) (.c (.bool true)) (.t 22)⟩])
      (.cond (.t 23)
        (.seq (.reg [⟨some 2, none, .tk (.c (.int .i64 0))⟩, ⟨some 3, none, .tk (.c (.bool false))⟩])
          (.ret))
        (.skip)))
    (.seq (.reg [⟨some 4, none, .tk (.c (.int .i64 0))⟩])
    (.seq (.seq (.reg [⟨some 5, none, .tk (.c (.int .i64 0))⟩])
      (.block 0 (l_flotsamref01_Read_0))) r_flotsamref01_Read_0)))) }

-- flotsam/flotsamref14.Unquote
def b_flotsamref14_Unquote_0 : AC :=
  .seq (.seq (.reg [⟨some 24, none, .mv (.t 5)⟩, ⟨some 25, none, .mv (.t 0)⟩, ⟨some 26, none, .len true (.t 25)⟩, ⟨some 27, none, .ia .sub .i64 (.t 26) (.c (.int .i64 1))⟩, ⟨some 28, none, .ic .lss (.t 24) (.t 27)⟩])
    (.cond (.t 28)
      (.skip)
      (.exit 0)))
  (.seq (.block 1 (.seq (.reg [⟨some 31, none, .mv (.t 0)⟩, ⟨some 32, none, .mv (.t 5)⟩, ⟨some 33, none, .ixs (.t 31) (.t 32)⟩, ⟨some 6, none, .tk (.t 33)⟩, ⟨some 7, none, .tk (.c (.int .i64 1))⟩])
      (.seq (.seq (.reg [⟨some 34, none, .mv (.t 6)⟩, ⟨some 35, none, .ic .eql (.t 34) (.c (.int .u8 92))⟩, ⟨some 36, none, .mv (.t 35)⟩, ⟨some 37, (some (36, true)), .mv (.t 5)⟩, ⟨some 38, (some (36, true)), .ia .add .i64 (.t 37) (.c (.int .i64 2))⟩, ⟨some 39, (some (36, true)), .mv (.t 0)⟩, ⟨some 40, (some (36, true)), .len true (.t 39)⟩, ⟨some 41, (some (36, true)), .ia .sub .i64 (.t 40) (.c (.int .i64 1))⟩, ⟨some 42, (some (36, true)), .ic .lss (.t 38) (.t 41)⟩, ⟨some 43, none, .pick (.t 36) (.t 42) (.c (.bool false))⟩])
        (.cond (.t 43)
          (.drw [[], [], [], [], [], [], [], [], [], [], [], [], [], []] [⟨some 44, none, .mv (.t 0)⟩, ⟨some 45, none, .mv (.t 5)⟩, ⟨some 46, none, .ia .add .i64 (.t 45) (.c (.int .i64 1))⟩, ⟨some 47, none, .ixs (.t 44) (.t 46)⟩, ⟨some 48, none, .callc n_flotsamref14_value [(.t 47)]⟩, ⟨some 49, none, .ia .mul .u8 (.c (.int .u8 16)) (.t 48)⟩, ⟨some 50, none, .mv (.t 0)⟩, ⟨some 51, none, .mv (.t 5)⟩, ⟨some 52, none, .ia .add .i64 (.t 51) (.c (.int .i64 2))⟩, ⟨some 53, none, .ixs (.t 50) (.t 52)⟩, ⟨some 54, none, .callc n_flotsamref14_value [(.t 53)]⟩, ⟨some 55, none, .ia .add .u8 (.t 49) (.t 54)⟩, ⟨some 6, none, .tk (.t 55)⟩, ⟨some 7, none, .tk (.c (.int .i64 3))⟩])
          (.skip)))
      (.seq (.seq (.drw [[], [], [], [], [], [], [], [], []] [⟨some 56, none, .mv (.t 6)⟩, ⟨some 57, none, .callc n_flotsamref14_sign [(.t 56)]⟩, ⟨some 58, none, .mv (.t 0)⟩, ⟨some 59, none, .mv (.t 5)⟩, ⟨some 60, none, .mv (.t 5)⟩, ⟨some 61, none, .mv (.t 7)⟩, ⟨some 62, none, .ia .add .i64 (.t 60) (.t 61)⟩, ⟨some 63, none, .slc (.t 58) (some (.t 59)) (some (.t 62))⟩, ⟨some 64, none, .sop .neq (.t 57) (.t 63)⟩])
        (.cond (.t 64)
          (.seq (.reg [⟨some 2, none, .tk (.c (.str []))⟩, ⟨some 3, none, .tk (.c (.bool false))⟩])
            (.ret))
          (.skip)))
      (.seq (.reg [⟨some 65, none, .tk (.t 4)⟩, ⟨some 66, none, .mv (.t 6)⟩, ⟨some 67, none, .bsl 1 [.int .u8 0] 1 [(0, 1, (.t 66))] false⟩, ⟨some 68, none, .app 1 1 (.t 65) (.t 67) false⟩, ⟨some 4, none, .tk (.t 68)⟩])
      (.reg [⟨some 69, none, .mv (.t 5)⟩, ⟨some 70, none, .mv (.t 7)⟩, ⟨some 71, none, .ia .add .i64 (.t 69) (.t 70)⟩, ⟨some 72, none, .ia .sub .i64 (.t 71) (.c (.int .i64 1))⟩, ⟨some 5, none, .tk (.t 72)⟩]))))))
  (.reg [⟨some 29, none, .mv (.t 5)⟩, ⟨some 30, none, .ia .add .i64 (.t 29) (.c (.int .i64 1))⟩, ⟨some 5, none, .tk (.t 30)⟩]))

def l_flotsamref14_Unquote_0 : AC :=
  .loop [0, 4, 5] b_flotsamref14_Unquote_0

def r_flotsamref14_Unquote_0 : AC :=
  .seq (.reg [⟨some 73, none, .mv (.t 4)⟩, ⟨some 74, none, .b2s (.t 73)⟩, ⟨some 2, none, .tk (.t 74)⟩, ⟨some 3, none, .tk (.c (.bool true))⟩])
  (.ret)

def c_flotsamref14_Unquote : AFunc :=
  { np := 1, res := [.t 2, .t 3], body := (
    .seq (.reg [⟨some 2, none, .tk (.c (.str []))⟩, ⟨some 3, none, .tk (.c (.bool false))⟩])
    (.seq (.seq (.reg [⟨some 8, none, .mv (.t 0)⟩, ⟨some 9, none, .len true (.t 8)⟩, ⟨some 10, none, .ic .lss (.t 9) (.c (.int .i64 2))⟩, ⟨some 11, none, .mv (.t 10)⟩, ⟨some 12, (some (11, false)), .mv (.t 0)⟩, ⟨some 13, (some (11, false)), .ixs (.t 12) (.c (.int .i64 0))⟩, ⟨some 14, (some (11, false)), .ic .neq (.t 13) (.c (.int .u8 34))⟩, ⟨some 15, none, .pick (.t 11) (.c (.bool true)) (.t 14)⟩, ⟨some 16, none, .mv (.t 15)⟩, ⟨some 17, (some (16, false)), .mv (.t 0)⟩, ⟨some 18, (some (16, false)), .mv (.t 0)⟩, ⟨some 19, (some (16, false)), .len true (.t 18)⟩, ⟨some 20, (some (16, false)), .ia .sub .i64 (.t 19) (.c (.int .i64 1))⟩, ⟨some 21, (some (16, false)), .ixs (.t 17) (.t 20)⟩, ⟨some 22, (some (16, false)), .ic .neq (.t 21) (.c (.int .u8 34))⟩, ⟨some 23, none, .pick (.t 16) (.c (.bool true)) (.t 22)⟩])
      (.cond (.t 23)
        (.seq (.reg [⟨some 2, none, .tk (.c (.str []))⟩, ⟨some 3, none, .tk (.c (.bool false))⟩])
          (.ret))
        (.skip)))
    (.seq (.reg [⟨some 4, none, .tk (.c (.own 1 []))⟩])
    (.seq (.seq (.reg [⟨some 5, none, .tk (.c (.int .i64 1))⟩])
      (.block 0 (l_flotsamref14_Unquote_0))) r_flotsamref14_Unquote_0)))) }

-- flotsam/view.plain
def c_view_plain : AFunc :=
  { np := 1, res := [.t 2], body := (
    .seq (.reg [⟨some 2, none, .tk (.c (.bool false))⟩])
    (.seq (.reg [⟨some 3, none, .mv (.t 0)⟩, ⟨some 4, none, .ic .geq (.t 3) (.c (.int .u8 32))⟩, ⟨some 5, none, .mv (.t 4)⟩, ⟨some 6, (some (5, true)), .mv (.t 0)⟩, ⟨some 7, (some (5, true)), .ic .leq (.t 6) (.c (.int .u8 126))⟩, ⟨some 8, none, .pick (.t 5) (.t 7) (.c (.bool false))⟩, ⟨some 9, none, .mv (.t 8)⟩, ⟨some 10, (some (9, true)), .mv (.t 0)⟩, ⟨some 11, (some (9, true)), .ic .neq (.t 10) (.c (.int .u8 34))⟩, ⟨some 12, none, .pick (.t 9) (.t 11) (.c (.bool false))⟩, ⟨some 13, none, .mv (.t 12)⟩, ⟨some 14, (some (13, true)), .mv (.t 0)⟩, ⟨some 15, (some (13, true)), .ic .neq (.t 14) (.c (.int .u8 92))⟩, ⟨some 16, none, .pick (.t 13) (.t 15) (.c (.bool false))⟩, ⟨some 2, none, .tk (.t 16)⟩])
    (.ret))) }

-- flotsam/flotsamref14.sign
def c_flotsamref14_sign : AFunc :=
  { np := 1, res := [.t 2], body := (
    .seq (.reg [⟨some 2, none, .tk (.c (.str []))⟩])
    (.seq (.seq (.reg [⟨some 3, none, .mv (.t 0)⟩, ⟨some 4, none, .ic .geq (.t 3) (.c (.int .u8 32))⟩, ⟨some 5, none, .mv (.t 4)⟩, ⟨some 6, (some (5, true)), .mv (.t 0)⟩, ⟨some 7, (some (5, true)), .ic .leq (.t 6) (.c (.int .u8 126))⟩, ⟨some 8, none, .pick (.t 5) (.t 7) (.c (.bool false))⟩, ⟨some 9, none, .mv (.t 8)⟩, ⟨some 10, (some (9, true)), .mv (.t 0)⟩, ⟨some 11, (some (9, true)), .ic .neq (.t 10) (.c (.int .u8 34))⟩, ⟨some 12, none, .pick (.t 9) (.t 11) (.c (.bool false))⟩, ⟨some 13, none, .mv (.t 12)⟩, ⟨some 14, (some (13, true)), .mv (.t 0)⟩, ⟨some 15, (some (13, true)), .ic .neq (.t 14) (.c (.int .u8 92))⟩, ⟨some 16, none, .pick (.t 13) (.t 15) (.c (.bool false))⟩])
      (.cond (.t 16)
        (.seq (.reg [⟨some 17, none, .mv (.t 0)⟩, ⟨some 18, none, .bsl 1 [.int .u8 0] 1 [(0, 1, (.t 17))] false⟩, ⟨some 19, none, .b2s (.t 18)⟩, ⟨some 2, none, .tk (.t 19)⟩])
          (.ret))
        (.skip)))
    (.seq (.drw [[], [], [], [], [], [], [], [], []] [⟨some 20, none, .mv (.t 0)⟩, ⟨some 21, none, .ia .quo .u8 (.t 20) (.c (.int .u8 16))⟩, ⟨some 22, none, .ixs (.c (.str [48, 49, 50, 51, 52, 53, 54, 55, 56, 57, 97, 98, 99, 100, 101, 102])) (.t 21)⟩, ⟨some 23, none, .mv (.t 0)⟩, ⟨some 24, none, .ia .rem .u8 (.t 23) (.c (.int .u8 16))⟩, ⟨some 25, none, .ixs (.c (.str [48, 49, 50, 51, 52, 53, 54, 55, 56, 57, 97, 98, 99, 100, 101, 102])) (.t 24)⟩, ⟨some 26, none, .bsl 1 [.int .u8 0] 3 [(0, 1, (.c (.int .u8 92))), (1, 1, (.t 22)), (2, 1, (.t 25))] false⟩, ⟨some 27, none, .b2s (.t 26)⟩, ⟨some 2, none, .tk (.t 27)⟩])
    (.ret)))) }

-- internal/stringslite.HasPrefix
def c_internal_stringslite_HasPrefix : AFunc :=
  { np := 2, res := [.t 4], body := (
    .seq (.reg [⟨some 4, none, .tk (.c (.bool false))⟩])
    (.seq (.reg [⟨some 5, none, .mv (.t 0)⟩, ⟨some 6, none, .len true (.t 5)⟩, ⟨some 7, none, .mv (.t 1)⟩, ⟨some 8, none, .len true (.t 7)⟩, ⟨some 9, none, .ic .geq (.t 6) (.t 8)⟩, ⟨some 10, none, .mv (.t 9)⟩, ⟨some 11, (some (10, true)), .mv (.t 0)⟩, ⟨some 12, (some (10, true)), .mv (.t 1)⟩, ⟨some 13, (some (10, true)), .len true (.t 12)⟩, ⟨some 14, (some (10, true)), .slc (.t 11) none (some (.t 13))⟩, ⟨some 15, (some (10, true)), .mv (.t 1)⟩, ⟨some 16, (some (10, true)), .sop .eql (.t 14) (.t 15)⟩, ⟨some 17, none, .pick (.t 10) (.t 16) (.c (.bool false))⟩, ⟨some 4, none, .tk (.t 17)⟩])
    (.ret))) }

-- flotsam/num.Read
def b_num_Read_0 : AC :=
  .seq (.reg [⟨some 28, none, .ic .lss (.t 27) (.t 26)⟩])
  (.seq (.cond (.t 28)
      (.skip)
      (.exit 0))
  (.seq (.block 1 (.seq (.reg [⟨some 29, none, .ixa 1 none (.t 25) (.t 27)⟩, ⟨some 30, none, .ld none (.t 29)⟩, ⟨some 6, none, .tk (.t 30)⟩])
      (.seq (.reg [⟨some 31, none, .mv (.t 6)⟩, ⟨some 32, none, .conv .i64 (.t 31)⟩, ⟨some 33, none, .ia .sub .i64 (.t 32) (.c (.int .i64 48))⟩, ⟨some 7, none, .tk (.t 33)⟩])
      (.seq (.seq (.reg [⟨some 34, none, .mv (.t 7)⟩, ⟨some 35, none, .ic .lss (.t 34) (.c (.int .i64 0))⟩, ⟨some 36, none, .mv (.t 35)⟩, ⟨some 37, (some (36, false)), .mv (.t 7)⟩, ⟨some 38, (some (36, false)), .ic .gtr (.t 37) (.c (.int .i64 9))⟩, ⟨some 39, none, .pick (.t 36) (.c (.bool true)) (.t 38)⟩])
        (.cond (.t 39)
          (.seq (.reg [⟨some 2, none, .tk (.c (.int .i64 0))⟩, ⟨some 3, none, .tk (.c (.bool false))⟩])
            (.ret))
          (.skip)))
      (.reg [⟨some 40, none, .mv (.t 4)⟩, ⟨some 41, none, .ia .mul .i64 (.t 40) (.c (.int .i64 10))⟩, ⟨some 42, none, .mv (.t 7)⟩, ⟨some 43, none, .ia .add .i64 (.t 41) (.t 42)⟩, ⟨some 4, none, .tk (.t 43)⟩])))))
  (.reg [⟨some 44, none, .ia .add .i64 (.t 27) (.c (.int .i64 1))⟩, ⟨some 27, none, .mv (.t 44)⟩])))

def l_num_Read_0 : AC :=
  .loop [4, 25, 26, 27] b_num_Read_0

def r_num_Read_0 : AC :=
  .seq (.seq (.reg [⟨some 45, none, .mv (.t 4)⟩, ⟨some 46, none, .ic .gtr (.t 45) (.c (.int .i64 1000000000000))⟩])
    (.cond (.t 46)
      (.seq (.reg [⟨some 2, none, .tk (.c (.int .i64 0))⟩, ⟨some 3, none, .tk (.c (.bool false))⟩])
        (.ret))
      (.skip)))
  (.seq (.reg [⟨some 47, none, .mv (.t 4)⟩, ⟨some 2, none, .tk (.t 47)⟩, ⟨some 3, none, .tk (.c (.bool true))⟩])
  (.ret))

def c_num_Read : AFunc :=
  { np := 1, res := [.t 2, .t 3], body := (
    .seq (.reg [⟨some 2, none, .tk (.c (.int .i64 0))⟩, ⟨some 3, none, .tk (.c (.bool false))⟩])
    (.seq (.seq (.reg [⟨some 8, none, .mv (.t 0)⟩, ⟨some 9, none, .sop .eql (.t 8) (.c (.str []))⟩, ⟨some 10, none, .mv (.t 9)⟩, ⟨some 11, (some (10, false)), .mv (.t 0)⟩, ⟨some 12, (some (10, false)), .len true (.t 11)⟩, ⟨some 13, (some (10, false)), .ic .gtr (.t 12) (.c (.int .i64 13))⟩, ⟨some 14, none, .pick (.t 10) (.c (.bool true)) (.t 13)⟩, ⟨some 15, none, .mv (.t 14)⟩, ⟨some 16, (some (15, false)), .mv (.t 0)⟩, ⟨some 17, (some (15, false)), .ixs (.t 16) (.c (.int .i64 0))⟩, ⟨some 18, (some (15, false)), .ic .eql (.t 17) (.c (.int .u8 48))⟩, ⟨some 19, (some (15, false)), .mv (.t 18)⟩, ⟨some 20, (some (19, true)), .mv (.t 0)⟩, ⟨some 21, (some (19, true)), .sop .neq (.t 20) (.c (.str [48]))⟩, ⟨some 22, (some (15, false)), .pick (.t 19) (.t 21) (.c (.bool false))⟩, ⟨some 23, none, .pick (.t 15) (.c (.bool true)) (.t 22)⟩])
      (.cond (.t 23)
        (.seq (.reg [⟨some 2, none, .tk (.c (.int .i64 0))⟩, ⟨some 3, none, .tk (.c (.bool false))⟩])
          (.ret))
        (.skip)))
    (.seq (.reg [⟨some 4, none, .tk (.c (.int .i64 0))⟩])
    (.seq (.seq (.reg [⟨some 24, none, .mv (.t 0)⟩, ⟨some 25, none, .s2b (.t 24)⟩, ⟨some 26, none, .len false (.t 25)⟩, ⟨some 27, none, .mv (.c (.int .i64 0))⟩])
      (.block 0 (l_num_Read_0))) r_num_Read_0)))) }

-- flotsam/view.Unquote
def b_view_Unquote_0 : AC :=
  .seq (.seq (.reg [⟨some 25, none, .mv (.t 4)⟩, ⟨some 26, none, .sop .neq (.t 25) (.c (.str []))⟩])
    (.cond (.t 26)
      (.skip)
      (.exit 0)))
  (.block 1 (.seq (.reg [⟨some 27, none, .mv (.t 4)⟩, ⟨some 28, none, .ixs (.t 27) (.c (.int .i64 0))⟩, ⟨some 8, none, .tk (.t 28)⟩])
    (.seq (.reg [⟨some 29, none, .mv (.t 4)⟩, ⟨some 30, none, .slc (.t 29) (some (.c (.int .i64 1))) none⟩, ⟨some 4, none, .tk (.t 30)⟩])
    (.seq (.seq (.reg [⟨some 31, none, .mv (.t 8)⟩, ⟨some 32, none, .ic .eql (.t 31) (.c (.int .u8 92))⟩])
      (.cond (.t 32)
        (.seq (.seq (.reg [⟨some 34, none, .mv (.t 4)⟩, ⟨some 35, none, .callc n_view_pair [(.t 34)]⟩, ⟨some 33, none, .mv (.t 35)⟩, ⟨some 36, none, .ext (.t 33) 0⟩, ⟨some 37, none, .ext (.t 33) 1⟩, ⟨some 8, none, .tk (.t 36)⟩, ⟨some 5, none, .tk (.t 37)⟩])
            (.seq (.reg [⟨some 38, none, .mv (.t 5)⟩, ⟨some 39, none, .notb (.t 38)⟩])
            (.cond (.t 39)
              (.seq (.reg [⟨some 2, none, .tk (.c (.str []))⟩, ⟨some 3, none, .tk (.c (.bool false))⟩])
                (.ret))
              (.skip))))
          (.reg [⟨some 40, none, .mv (.t 4)⟩, ⟨some 41, none, .slc (.t 40) (some (.c (.int .i64 2))) none⟩, ⟨some 4, none, .tk (.t 41)⟩]))
        (.seq (.reg [⟨some 42, none, .mv (.t 8)⟩, ⟨some 43, none, .callc n_view_plain [(.t 42)]⟩, ⟨some 44, none, .notb (.t 43)⟩])
          (.cond (.t 44)
            (.seq (.reg [⟨some 2, none, .tk (.c (.str []))⟩, ⟨some 3, none, .tk (.c (.bool false))⟩])
              (.ret))
            (.skip)))))
    (.reg [⟨some 45, none, .mv (.t 8)⟩, ⟨some 46, none, .call n_pstrings_Builder_WriteByte [(.t 7), (.t 45)]⟩])))))

def l_view_Unquote_0 : AC :=
  .loop [4, 7] b_view_Unquote_0

def r_view_Unquote_0 : AC :=
  .seq (.reg [⟨some 47, none, .call n_pstrings_Builder_String [(.t 7)]⟩, ⟨some 2, none, .tk (.t 47)⟩, ⟨some 3, none, .tk (.c (.bool true))⟩])
  (.ret)

def c_view_Unquote : AFunc :=
  { np := 1, res := [.t 2, .t 3], body := (
    .seq (.reg [⟨some 2, none, .tk (.c (.str []))⟩, ⟨some 3, none, .tk (.c (.bool false))⟩])
    (.seq (.reg [⟨some 10, none, .mv (.t 0)⟩, ⟨some 11, none, .callc n_strings_CutPrefix [(.t 10), (.c (.str [34]))]⟩, ⟨some 9, none, .mv (.t 11)⟩, ⟨some 12, none, .ext (.t 9) 0⟩, ⟨some 13, none, .ext (.t 9) 1⟩, ⟨some 4, none, .tk (.t 12)⟩, ⟨some 5, none, .tk (.t 13)⟩])
    (.seq (.reg [⟨some 15, none, .mv (.t 4)⟩, ⟨some 16, none, .callc n_strings_CutSuffix [(.t 15), (.c (.str [34]))]⟩, ⟨some 14, none, .mv (.t 16)⟩, ⟨some 17, none, .ext (.t 14) 0⟩, ⟨some 18, none, .ext (.t 14) 1⟩, ⟨some 4, none, .tk (.t 17)⟩, ⟨some 6, none, .tk (.t 18)⟩])
    (.seq (.seq (.reg [⟨some 19, none, .mv (.t 5)⟩, ⟨some 20, none, .notb (.t 19)⟩, ⟨some 21, none, .mv (.t 20)⟩, ⟨some 22, (some (21, false)), .mv (.t 6)⟩, ⟨some 23, (some (21, false)), .notb (.t 22)⟩, ⟨some 24, none, .pick (.t 21) (.c (.bool true)) (.t 23)⟩])
      (.cond (.t 24)
        (.seq (.reg [⟨some 2, none, .tk (.c (.str []))⟩, ⟨some 3, none, .tk (.c (.bool false))⟩])
          (.ret))
        (.skip)))
    (.seq (.reg [⟨some 7, none, .allocb bT bE⟩])
    (.seq (.block 0 (l_view_Unquote_0)) r_view_Unquote_0)))))) }

-- flotsam/flotsamref14.value
def c_flotsamref14_value : AFunc :=
  { np := 1, res := [.t 2], body := (
    .seq (.reg [⟨some 2, none, .tk (.c (.int .u8 0))⟩])
    (.seq (.seq (.reg [⟨some 3, none, .mv (.t 0)⟩, ⟨some 4, none, .ic .geq (.t 3) (.c (.int .u8 48))⟩, ⟨some 5, none, .mv (.t 4)⟩, ⟨some 6, (some (5, true)), .mv (.t 0)⟩, ⟨some 7, (some (5, true)), .ic .leq (.t 6) (.c (.int .u8 57))⟩, ⟨some 8, none, .pick (.t 5) (.t 7) (.c (.bool false))⟩])
      (.cond (.t 8)
        (.seq (.reg [⟨some 9, none, .mv (.t 0)⟩, ⟨some 10, none, .ia .sub .u8 (.t 9) (.c (.int .u8 48))⟩, ⟨some 2, none, .tk (.t 10)⟩])
          (.ret))
        (.skip)))
    (.seq (.seq (.reg [⟨some 11, none, .mv (.t 0)⟩, ⟨some 12, none, .ic .geq (.t 11) (.c (.int .u8 97))⟩, ⟨some 13, none, .mv (.t 12)⟩, ⟨some 14, (some (13, true)), .mv (.t 0)⟩, ⟨some 15, (some (13, true)), .ic .leq (.t 14) (.c (.int .u8 102))⟩, ⟨some 16, none, .pick (.t 13) (.t 15) (.c (.bool false))⟩])
      (.cond (.t 16)
        (.seq (.reg [⟨some 17, none, .mv (.t 0)⟩, ⟨some 18, none, .ia .sub .u8 (.t 17) (.c (.int .u8 97))⟩, ⟨some 19, none, .ia .add .u8 (.t 18) (.c (.int .u8 10))⟩, ⟨some 2, none, .tk (.t 19)⟩])
          (.ret))
        (.skip)))
    (.seq (.reg [⟨some 2, none, .tk (.c (.int .u8 0))⟩])
    (.ret))))) }

-- strings.CutPrefix
def c_strings_CutPrefix : AFunc :=
  { np := 2, res := [.t 4, .t 5], body := (
    .seq (.reg [⟨some 4, none, .tk (.c (.str []))⟩, ⟨some 5, none, .tk (.c (.bool false))⟩])
    (.seq (.reg [⟨some 6, none, .mv (.t 0)⟩, ⟨some 7, none, .mv (.t 1)⟩, ⟨some 8, none, .callc n_internal_stringslite_CutPrefix [(.t 6), (.t 7)]⟩, ⟨some 9, none, .ext (.t 8) 0⟩, ⟨some 10, none, .ext (.t 8) 1⟩, ⟨some 4, none, .tk (.t 9)⟩, ⟨some 5, none, .tk (.t 10)⟩])
    (.ret))) }

-- strings.CutSuffix
def c_strings_CutSuffix : AFunc :=
  { np := 2, res := [.t 4, .t 5], body := (
    .seq (.reg [⟨some 4, none, .tk (.c (.str []))⟩, ⟨some 5, none, .tk (.c (.bool false))⟩])
    (.seq (.reg [⟨some 6, none, .mv (.t 0)⟩, ⟨some 7, none, .mv (.t 1)⟩, ⟨some 8, none, .callc n_internal_stringslite_CutSuffix [(.t 6), (.t 7)]⟩, ⟨some 9, none, .ext (.t 8) 0⟩, ⟨some 10, none, .ext (.t 8) 1⟩, ⟨some 4, none, .tk (.t 9)⟩, ⟨some 5, none, .tk (.t 10)⟩])
    (.ret))) }

-- flotsam/view.pair
def c_view_pair : AFunc :=
  { np := 1, res := [.t 2, .t 3], body := (
    .seq (.reg [⟨some 2, none, .tk (.c (.int .u8 0))⟩, ⟨some 3, none, .tk (.c (.bool false))⟩])
    (.seq (.seq (.reg [⟨some 7, none, .mv (.t 0)⟩, ⟨some 8, none, .len true (.t 7)⟩, ⟨some 9, none, .ic .lss (.t 8) (.c (.int .i64 2))⟩])
      (.cond (.t 9)
        (.seq (.reg [⟨some 2, none, .tk (.c (.int .u8 0))⟩, ⟨some 3, none, .tk (.c (.bool false))⟩])
          (.ret))
        (.skip)))
    (.seq (.drw [[], [], [], [], [], [], [], []] [⟨some 10, none, .mv (.t 0)⟩, ⟨some 11, none, .ixs (.t 10) (.c (.int .i64 0))⟩, ⟨some 12, none, .callc n_strings_IndexByte [(.c (.str [48, 49, 50, 51, 52, 53, 54, 55, 56, 57, 97, 98, 99, 100, 101, 102])), (.t 11)]⟩, ⟨some 13, none, .mv (.t 0)⟩, ⟨some 14, none, .ixs (.t 13) (.c (.int .i64 1))⟩, ⟨some 15, none, .callc n_strings_IndexByte [(.c (.str [48, 49, 50, 51, 52, 53, 54, 55, 56, 57, 97, 98, 99, 100, 101, 102])), (.t 14)]⟩, ⟨some 4, none, .tk (.t 12)⟩, ⟨some 5, none, .tk (.t 15)⟩])
    (.seq (.seq (.reg [⟨some 16, none, .mv (.t 4)⟩, ⟨some 17, none, .ic .lss (.t 16) (.c (.int .i64 0))⟩, ⟨some 18, none, .mv (.t 17)⟩, ⟨some 19, (some (18, false)), .mv (.t 5)⟩, ⟨some 20, (some (18, false)), .ic .lss (.t 19) (.c (.int .i64 0))⟩, ⟨some 21, none, .pick (.t 18) (.c (.bool true)) (.t 20)⟩])
      (.cond (.t 21)
        (.seq (.reg [⟨some 2, none, .tk (.c (.int .u8 0))⟩, ⟨some 3, none, .tk (.c (.bool false))⟩])
          (.ret))
        (.skip)))
    (.seq (.reg [⟨some 22, none, .mv (.t 4)⟩, ⟨some 23, none, .ia .shl .i64 (.t 22) (.c (.int .u64 4))⟩, ⟨some 24, none, .mv (.t 5)⟩, ⟨some 25, none, .ia .or .i64 (.t 23) (.t 24)⟩, ⟨some 26, none, .conv .u8 (.t 25)⟩, ⟨some 6, none, .tk (.t 26)⟩])
    (.seq (.reg [⟨some 27, none, .mv (.t 6)⟩, ⟨some 28, none, .mv (.t 6)⟩, ⟨some 29, none, .callc n_view_plain [(.t 28)]⟩, ⟨some 30, none, .notb (.t 29)⟩, ⟨some 2, none, .tk (.t 27)⟩, ⟨some 3, none, .tk (.t 30)⟩])
    (.ret))))))) }

-- internal/stringslite.CutPrefix
def c_internal_stringslite_CutPrefix : AFunc :=
  { np := 2, res := [.t 4, .t 5], body := (
    .seq (.reg [⟨some 4, none, .tk (.c (.str []))⟩, ⟨some 5, none, .tk (.c (.bool false))⟩])
    (.seq (.seq (.reg [⟨some 6, none, .mv (.t 0)⟩, ⟨some 7, none, .mv (.t 1)⟩, ⟨some 8, none, .callc n_internal_stringslite_HasPrefix [(.t 6), (.t 7)]⟩, ⟨some 9, none, .notb (.t 8)⟩])
      (.cond (.t 9)
        (.seq (.reg [⟨some 10, none, .mv (.t 0)⟩, ⟨some 4, none, .tk (.t 10)⟩, ⟨some 5, none, .tk (.c (.bool false))⟩])
          (.ret))
        (.skip)))
    (.seq (.reg [⟨some 11, none, .mv (.t 0)⟩, ⟨some 12, none, .mv (.t 1)⟩, ⟨some 13, none, .len true (.t 12)⟩, ⟨some 14, none, .slc (.t 11) (some (.t 13)) none⟩, ⟨some 4, none, .tk (.t 14)⟩, ⟨some 5, none, .tk (.c (.bool true))⟩])
    (.ret)))) }

-- internal/stringslite.CutSuffix
def c_internal_stringslite_CutSuffix : AFunc :=
  { np := 2, res := [.t 4, .t 5], body := (
    .seq (.reg [⟨some 4, none, .tk (.c (.str []))⟩, ⟨some 5, none, .tk (.c (.bool false))⟩])
    (.seq (.seq (.reg [⟨some 6, none, .mv (.t 0)⟩, ⟨some 7, none, .mv (.t 1)⟩, ⟨some 8, none, .callc n_internal_stringslite_HasSuffix [(.t 6), (.t 7)]⟩, ⟨some 9, none, .notb (.t 8)⟩])
      (.cond (.t 9)
        (.seq (.reg [⟨some 10, none, .mv (.t 0)⟩, ⟨some 4, none, .tk (.t 10)⟩, ⟨some 5, none, .tk (.c (.bool false))⟩])
          (.ret))
        (.skip)))
    (.seq (.reg [⟨some 11, none, .mv (.t 0)⟩, ⟨some 12, none, .mv (.t 0)⟩, ⟨some 13, none, .len true (.t 12)⟩, ⟨some 14, none, .mv (.t 1)⟩, ⟨some 15, none, .len true (.t 14)⟩, ⟨some 16, none, .ia .sub .i64 (.t 13) (.t 15)⟩, ⟨some 17, none, .slc (.t 11) none (some (.t 16))⟩, ⟨some 4, none, .tk (.t 17)⟩, ⟨some 5, none, .tk (.c (.bool true))⟩])
    (.ret)))) }

-- internal/stringslite.HasSuffix
def c_internal_stringslite_HasSuffix : AFunc :=
  { np := 2, res := [.t 4], body := (
    .seq (.reg [⟨some 4, none, .tk (.c (.bool false))⟩])
    (.seq (.reg [⟨some 5, none, .mv (.t 0)⟩, ⟨some 6, none, .len true (.t 5)⟩, ⟨some 7, none, .mv (.t 1)⟩, ⟨some 8, none, .len true (.t 7)⟩, ⟨some 9, none, .ic .geq (.t 6) (.t 8)⟩, ⟨some 10, none, .mv (.t 9)⟩, ⟨some 11, (some (10, true)), .mv (.t 0)⟩, ⟨some 12, (some (10, true)), .mv (.t 0)⟩, ⟨some 13, (some (10, true)), .len true (.t 12)⟩, ⟨some 14, (some (10, true)), .mv (.t 1)⟩, ⟨some 15, (some (10, true)), .len true (.t 14)⟩, ⟨some 16, (some (10, true)), .ia .sub .i64 (.t 13) (.t 15)⟩, ⟨some 17, (some (10, true)), .slc (.t 11) (some (.t 16)) none⟩, ⟨some 18, (some (10, true)), .mv (.t 1)⟩, ⟨some 19, (some (10, true)), .sop .eql (.t 17) (.t 18)⟩, ⟨some 20, none, .pick (.t 10) (.t 19) (.c (.bool false))⟩, ⟨some 4, none, .tk (.t 20)⟩])
    (.ret))) }

def tbl : Tbl := Tab.get [(3, c_flotsamlaw15_LexWords), (4, c_flotsamlaw15_LexShows), (5, c_flotsamlaw15_LexBack), (6, c_flotsamlaw15_knows), (7, c_lex_Words), (8, c_flotsamref15_Words), (9, c_flotsamref15_Same), (10, c_flotsamlaw15_Fault), (11, c_lex_Key), (12, c_flotsamref15_Key), (13, c_lex_Name), (14, c_flotsamref15_Name), (15, c_lex_Show), (16, c_flotsamref15_Show), (17, c_lex_skip), (18, c_lex_next), (19, c_flotsamref15_skip), (20, c_flotsamref15_one), (22, c_lex_begins), (23, c_lex_letter), (25, c_lex_inner), (26, c_flotsamref15_letter), (27, c_flotsamref15_inner), (28, c_num_Digits), (29, c_view_Quote), (30, c_slices_Equal_api_Word_api_Word), (31, c_flotsamref01_Digits), (32, c_flotsamref14_Quote), (33, c_flotsamref15_Sign), (35, c_strings_HasPrefix), (37, c_lex_word), (38, c_lex_digit), (39, c_lex_number), (40, c_lex_text), (41, c_lex_sign), (42, c_flotsamref15_digit), (43, c_flotsamref01_Read), (44, c_flotsamref14_Unquote), (49, c_view_plain), (51, c_flotsamref14_sign), (56, c_internal_stringslite_HasPrefix), (58, c_num_Read), (59, c_view_Unquote), (60, c_flotsamref14_value), (68, c_strings_CutPrefix), (69, c_strings_CutSuffix), (70, c_view_pair), (77, c_internal_stringslite_CutPrefix), (78, c_internal_stringslite_CutSuffix), (81, c_internal_stringslite_HasSuffix)]

theorem t_flotsamlaw15_LexWords : tbl n_flotsamlaw15_LexWords = some c_flotsamlaw15_LexWords := by kernel_rfl
theorem t_flotsamlaw15_LexShows : tbl n_flotsamlaw15_LexShows = some c_flotsamlaw15_LexShows := by kernel_rfl
theorem t_flotsamlaw15_LexBack : tbl n_flotsamlaw15_LexBack = some c_flotsamlaw15_LexBack := by kernel_rfl
theorem t_flotsamlaw15_knows : tbl n_flotsamlaw15_knows = some c_flotsamlaw15_knows := by kernel_rfl
theorem t_lex_Words : tbl n_lex_Words = some c_lex_Words := by kernel_rfl
theorem t_flotsamref15_Words : tbl n_flotsamref15_Words = some c_flotsamref15_Words := by kernel_rfl
theorem t_flotsamref15_Same : tbl n_flotsamref15_Same = some c_flotsamref15_Same := by kernel_rfl
theorem t_flotsamlaw15_Fault : tbl n_flotsamlaw15_Fault = some c_flotsamlaw15_Fault := by kernel_rfl
theorem t_lex_Key : tbl n_lex_Key = some c_lex_Key := by kernel_rfl
theorem t_flotsamref15_Key : tbl n_flotsamref15_Key = some c_flotsamref15_Key := by kernel_rfl
theorem t_lex_Name : tbl n_lex_Name = some c_lex_Name := by kernel_rfl
theorem t_flotsamref15_Name : tbl n_flotsamref15_Name = some c_flotsamref15_Name := by kernel_rfl
theorem t_lex_Show : tbl n_lex_Show = some c_lex_Show := by kernel_rfl
theorem t_flotsamref15_Show : tbl n_flotsamref15_Show = some c_flotsamref15_Show := by kernel_rfl
theorem t_lex_skip : tbl n_lex_skip = some c_lex_skip := by kernel_rfl
theorem t_lex_next : tbl n_lex_next = some c_lex_next := by kernel_rfl
theorem t_flotsamref15_skip : tbl n_flotsamref15_skip = some c_flotsamref15_skip := by kernel_rfl
theorem t_flotsamref15_one : tbl n_flotsamref15_one = some c_flotsamref15_one := by kernel_rfl
theorem t_lex_begins : tbl n_lex_begins = some c_lex_begins := by kernel_rfl
theorem t_lex_letter : tbl n_lex_letter = some c_lex_letter := by kernel_rfl
theorem t_lex_inner : tbl n_lex_inner = some c_lex_inner := by kernel_rfl
theorem t_flotsamref15_letter : tbl n_flotsamref15_letter = some c_flotsamref15_letter := by kernel_rfl
theorem t_flotsamref15_inner : tbl n_flotsamref15_inner = some c_flotsamref15_inner := by kernel_rfl
theorem t_num_Digits : tbl n_num_Digits = some c_num_Digits := by kernel_rfl
theorem t_view_Quote : tbl n_view_Quote = some c_view_Quote := by kernel_rfl
theorem t_slices_Equal_api_Word_api_Word : tbl n_slices_Equal_api_Word_api_Word = some c_slices_Equal_api_Word_api_Word := by kernel_rfl
theorem t_flotsamref01_Digits : tbl n_flotsamref01_Digits = some c_flotsamref01_Digits := by kernel_rfl
theorem t_flotsamref14_Quote : tbl n_flotsamref14_Quote = some c_flotsamref14_Quote := by kernel_rfl
theorem t_flotsamref15_Sign : tbl n_flotsamref15_Sign = some c_flotsamref15_Sign := by kernel_rfl
theorem t_strings_HasPrefix : tbl n_strings_HasPrefix = some c_strings_HasPrefix := by kernel_rfl
theorem t_lex_word : tbl n_lex_word = some c_lex_word := by kernel_rfl
theorem t_lex_digit : tbl n_lex_digit = some c_lex_digit := by kernel_rfl
theorem t_lex_number : tbl n_lex_number = some c_lex_number := by kernel_rfl
theorem t_lex_text : tbl n_lex_text = some c_lex_text := by kernel_rfl
theorem t_lex_sign : tbl n_lex_sign = some c_lex_sign := by kernel_rfl
theorem t_flotsamref15_digit : tbl n_flotsamref15_digit = some c_flotsamref15_digit := by kernel_rfl
theorem t_flotsamref01_Read : tbl n_flotsamref01_Read = some c_flotsamref01_Read := by kernel_rfl
theorem t_flotsamref14_Unquote : tbl n_flotsamref14_Unquote = some c_flotsamref14_Unquote := by kernel_rfl
theorem t_view_plain : tbl n_view_plain = some c_view_plain := by kernel_rfl
theorem t_flotsamref14_sign : tbl n_flotsamref14_sign = some c_flotsamref14_sign := by kernel_rfl
theorem t_internal_stringslite_HasPrefix : tbl n_internal_stringslite_HasPrefix = some c_internal_stringslite_HasPrefix := by kernel_rfl
theorem t_num_Read : tbl n_num_Read = some c_num_Read := by kernel_rfl
theorem t_view_Unquote : tbl n_view_Unquote = some c_view_Unquote := by kernel_rfl
theorem t_flotsamref14_value : tbl n_flotsamref14_value = some c_flotsamref14_value := by kernel_rfl
theorem t_strings_CutPrefix : tbl n_strings_CutPrefix = some c_strings_CutPrefix := by kernel_rfl
theorem t_strings_CutSuffix : tbl n_strings_CutSuffix = some c_strings_CutSuffix := by kernel_rfl
theorem t_view_pair : tbl n_view_pair = some c_view_pair := by kernel_rfl
theorem t_internal_stringslite_CutPrefix : tbl n_internal_stringslite_CutPrefix = some c_internal_stringslite_CutPrefix := by kernel_rfl
theorem t_internal_stringslite_CutSuffix : tbl n_internal_stringslite_CutSuffix = some c_internal_stringslite_CutSuffix := by kernel_rfl
theorem t_internal_stringslite_HasSuffix : tbl n_internal_stringslite_HasSuffix = some c_internal_stringslite_HasSuffix := by kernel_rfl

/-- The functions that are taken as given. -/
def noExt : Ext := fun k => if k = n_strings_Contains then some (xContains) else if k = n_strings_TrimLeft then some (xTrimLeft) else if k = n_strings_IndexByte then some (xIndexByte) else if k = n_pstrings_Builder_WriteByte then some (xWriteByte bT bE) else if k = n_pstrings_Builder_String then some (xString bT bE) else if k = n_lex_run then some (xRun n_lex_letter n_lex_digit n_lex_inner) else none

theorem lt_flotsamlaw15_LexWords : n_flotsamlaw15_LexWords < yBase := Nat.le_of_ble_eq_true rfl
theorem lt_flotsamlaw15_LexShows : n_flotsamlaw15_LexShows < yBase := Nat.le_of_ble_eq_true rfl
theorem lt_flotsamlaw15_LexBack : n_flotsamlaw15_LexBack < yBase := Nat.le_of_ble_eq_true rfl
theorem lt_flotsamlaw15_knows : n_flotsamlaw15_knows < yBase := Nat.le_of_ble_eq_true rfl
theorem lt_lex_Words : n_lex_Words < yBase := Nat.le_of_ble_eq_true rfl
theorem lt_flotsamref15_Words : n_flotsamref15_Words < yBase := Nat.le_of_ble_eq_true rfl
theorem lt_flotsamref15_Same : n_flotsamref15_Same < yBase := Nat.le_of_ble_eq_true rfl
theorem lt_flotsamlaw15_Fault : n_flotsamlaw15_Fault < yBase := Nat.le_of_ble_eq_true rfl
theorem lt_lex_Key : n_lex_Key < yBase := Nat.le_of_ble_eq_true rfl
theorem lt_flotsamref15_Key : n_flotsamref15_Key < yBase := Nat.le_of_ble_eq_true rfl
theorem lt_lex_Name : n_lex_Name < yBase := Nat.le_of_ble_eq_true rfl
theorem lt_flotsamref15_Name : n_flotsamref15_Name < yBase := Nat.le_of_ble_eq_true rfl
theorem lt_lex_Show : n_lex_Show < yBase := Nat.le_of_ble_eq_true rfl
theorem lt_flotsamref15_Show : n_flotsamref15_Show < yBase := Nat.le_of_ble_eq_true rfl
theorem lt_lex_skip : n_lex_skip < yBase := Nat.le_of_ble_eq_true rfl
theorem lt_lex_next : n_lex_next < yBase := Nat.le_of_ble_eq_true rfl
theorem lt_flotsamref15_skip : n_flotsamref15_skip < yBase := Nat.le_of_ble_eq_true rfl
theorem lt_flotsamref15_one : n_flotsamref15_one < yBase := Nat.le_of_ble_eq_true rfl
theorem lt_strings_Contains : n_strings_Contains < yBase := Nat.le_of_ble_eq_true rfl
theorem lt_lex_begins : n_lex_begins < yBase := Nat.le_of_ble_eq_true rfl
theorem lt_lex_letter : n_lex_letter < yBase := Nat.le_of_ble_eq_true rfl
theorem lt_lex_run : n_lex_run < yBase := Nat.le_of_ble_eq_true rfl
theorem lt_lex_inner : n_lex_inner < yBase := Nat.le_of_ble_eq_true rfl
theorem lt_flotsamref15_letter : n_flotsamref15_letter < yBase := Nat.le_of_ble_eq_true rfl
theorem lt_flotsamref15_inner : n_flotsamref15_inner < yBase := Nat.le_of_ble_eq_true rfl
theorem lt_num_Digits : n_num_Digits < yBase := Nat.le_of_ble_eq_true rfl
theorem lt_view_Quote : n_view_Quote < yBase := Nat.le_of_ble_eq_true rfl
theorem lt_slices_Equal_api_Word_api_Word : n_slices_Equal_api_Word_api_Word < yBase := Nat.le_of_ble_eq_true rfl
theorem lt_flotsamref01_Digits : n_flotsamref01_Digits < yBase := Nat.le_of_ble_eq_true rfl
theorem lt_flotsamref14_Quote : n_flotsamref14_Quote < yBase := Nat.le_of_ble_eq_true rfl
theorem lt_flotsamref15_Sign : n_flotsamref15_Sign < yBase := Nat.le_of_ble_eq_true rfl
theorem lt_strings_TrimLeft : n_strings_TrimLeft < yBase := Nat.le_of_ble_eq_true rfl
theorem lt_strings_HasPrefix : n_strings_HasPrefix < yBase := Nat.le_of_ble_eq_true rfl
theorem lt_strings_IndexByte : n_strings_IndexByte < yBase := Nat.le_of_ble_eq_true rfl
theorem lt_lex_word : n_lex_word < yBase := Nat.le_of_ble_eq_true rfl
theorem lt_lex_digit : n_lex_digit < yBase := Nat.le_of_ble_eq_true rfl
theorem lt_lex_number : n_lex_number < yBase := Nat.le_of_ble_eq_true rfl
theorem lt_lex_text : n_lex_text < yBase := Nat.le_of_ble_eq_true rfl
theorem lt_lex_sign : n_lex_sign < yBase := Nat.le_of_ble_eq_true rfl
theorem lt_flotsamref15_digit : n_flotsamref15_digit < yBase := Nat.le_of_ble_eq_true rfl
theorem lt_flotsamref01_Read : n_flotsamref01_Read < yBase := Nat.le_of_ble_eq_true rfl
theorem lt_flotsamref14_Unquote : n_flotsamref14_Unquote < yBase := Nat.le_of_ble_eq_true rfl
theorem lt_pstrings_Builder_WriteByte : n_pstrings_Builder_WriteByte < yBase := Nat.le_of_ble_eq_true rfl
theorem lt_view_plain : n_view_plain < yBase := Nat.le_of_ble_eq_true rfl
theorem lt_pstrings_Builder_String : n_pstrings_Builder_String < yBase := Nat.le_of_ble_eq_true rfl
theorem lt_flotsamref14_sign : n_flotsamref14_sign < yBase := Nat.le_of_ble_eq_true rfl
theorem lt_internal_stringslite_HasPrefix : n_internal_stringslite_HasPrefix < yBase := Nat.le_of_ble_eq_true rfl
theorem lt_num_Read : n_num_Read < yBase := Nat.le_of_ble_eq_true rfl
theorem lt_view_Unquote : n_view_Unquote < yBase := Nat.le_of_ble_eq_true rfl
theorem lt_flotsamref14_value : n_flotsamref14_value < yBase := Nat.le_of_ble_eq_true rfl
theorem lt_strings_CutPrefix : n_strings_CutPrefix < yBase := Nat.le_of_ble_eq_true rfl
theorem lt_strings_CutSuffix : n_strings_CutSuffix < yBase := Nat.le_of_ble_eq_true rfl
theorem lt_view_pair : n_view_pair < yBase := Nat.le_of_ble_eq_true rfl
theorem lt_internal_stringslite_CutPrefix : n_internal_stringslite_CutPrefix < yBase := Nat.le_of_ble_eq_true rfl
theorem lt_internal_stringslite_CutSuffix : n_internal_stringslite_CutSuffix < yBase := Nat.le_of_ble_eq_true rfl
theorem lt_internal_stringslite_HasSuffix : n_internal_stringslite_HasSuffix < yBase := Nat.le_of_ble_eq_true rfl

end Go.AM
