/-
  The abstract code of the functions, printed by a program (gen.py) out of the loaded program, and each function's place in the table.
-/
import Derived.Test.YtddhdalacanngaaMach
namespace Go.AM

def n_main_main : Nat := 0
def n_gosem_cut : Nat := 1
def n_flotsamlaw01_NumTexts : Nat := 3
def n_flotsamlaw01_NumRange : Nat := 4
def n_flotsamlaw01_NumBack : Nat := 5
def n_flotsamlaw01_knows : Nat := 6
def n_num_Read : Nat := 7
def n_flotsamref01_Read : Nat := 8
def n_num_Digits : Nat := 9
def n_flotsamref01_Digits : Nat := 10
def n_num_Add : Nat := 11
def n_flotsamref01_Add : Nat := 12
def n_num_Sub : Nat := 13
def n_flotsamref01_Sub : Nat := 14
def n_num_Narrow : Nat := 15
def n_flotsamref01_Narrow : Nat := 16
def n_num_in : Nat := 17
def n_flotsamref01_In : Nat := 18
def n_runtime_boundsError_Error : Nat := 19
def n_runtime_boundsError_RuntimeError : Nat := 20
def n_runtime_errorString_Error : Nat := 21
def n_runtime_errorString_RuntimeError : Nat := 22
def n_runtime_plainError_Error : Nat := 23
def n_runtime_plainError_RuntimeError : Nat := 24
def n_runtime_errorAddressString_Error : Nat := 25
def n_runtime_errorAddressString_RuntimeError : Nat := 26
def n_pruntime_TypeAssertionError_Error : Nat := 27
def n_pruntime_TypeAssertionError_RuntimeError : Nat := 28
def n_pruntime_PanicNilError_Error : Nat := 29
def n_pruntime_PanicNilError_RuntimeError : Nat := 30
def n_pinternal_abi_Type_Align : Nat := 31
def n_internal_runtime_maps_unhashableTypeError_Error : Nat := 32
def n_internal_runtime_maps_unhashableTypeError_RuntimeError : Nat := 33
def n_internal_abi_Kind_String : Nat := 34

-- flotsam/flotsamlaw01.NumTexts
def c_flotsamlaw01_NumTexts : AFunc :=
  { np := 2, res := [.t 4], body := (
    .seq (.reg [⟨some 4, none, .tk (.c (.bool false))⟩])
    (.seq (.seq (.reg [⟨some 9, none, .mv (.t 1)⟩, ⟨some 10, none, .len true (.t 9)⟩, ⟨some 11, none, .ic .gtr (.t 10) (.c (.int .i64 200))⟩])
      (.cond (.t 11)
        (.seq (.reg [⟨some 12, none, .call n_flotsamlaw01_knows []⟩, ⟨some 4, none, .tk (.t 12)⟩])
          (.ret))
        (.skip)))
    (.seq (.reg [⟨some 14, none, .mv (.t 1)⟩, ⟨some 15, none, .call n_num_Read [(.t 14)]⟩, ⟨some 13, none, .mv (.t 15)⟩, ⟨some 16, none, .ext (.t 13) 0⟩, ⟨some 17, none, .ext (.t 13) 1⟩, ⟨some 5, none, .tk (.t 16)⟩, ⟨some 6, none, .tk (.t 17)⟩])
    (.seq (.reg [⟨some 19, none, .mv (.t 1)⟩, ⟨some 20, none, .call n_flotsamref01_Read [(.t 19)]⟩, ⟨some 18, none, .mv (.t 20)⟩, ⟨some 21, none, .ext (.t 18) 0⟩, ⟨some 22, none, .ext (.t 18) 1⟩, ⟨some 7, none, .tk (.t 21)⟩, ⟨some 8, none, .tk (.t 22)⟩])
    (.seq (.reg [⟨some 23, none, .mv (.t 0)⟩, ⟨some 24, none, .call n_num_Digits [(.t 23)]⟩, ⟨some 25, none, .mv (.t 0)⟩, ⟨some 26, none, .call n_flotsamref01_Digits [(.t 25)]⟩, ⟨some 27, none, .sop .eql (.t 24) (.t 26)⟩, ⟨some 28, none, .mv (.t 27)⟩, ⟨some 29, (some (28, true)), .mv (.t 5)⟩, ⟨some 30, (some (28, true)), .mv (.t 7)⟩, ⟨some 31, (some (28, true)), .ic .eql (.t 29) (.t 30)⟩, ⟨some 32, none, .pick (.t 28) (.t 31) (.c (.bool false))⟩, ⟨some 33, none, .mv (.t 32)⟩, ⟨some 34, (some (33, true)), .mv (.t 6)⟩, ⟨some 35, (some (33, true)), .mv (.t 8)⟩, ⟨some 36, (some (33, true)), .eqb false (.t 34) (.t 35)⟩, ⟨some 37, none, .pick (.t 33) (.t 36) (.c (.bool false))⟩, ⟨some 38, none, .mv (.t 37)⟩, ⟨some 39, (some (38, true)), .call n_flotsamlaw01_knows []⟩, ⟨some 40, none, .pick (.t 38) (.t 39) (.c (.bool false))⟩, ⟨some 4, none, .tk (.t 40)⟩])
    (.ret)))))) }

-- flotsam/flotsamlaw01.NumRange
def c_flotsamlaw01_NumRange : AFunc :=
  { np := 4, res := [.t 8], body := (
    .seq (.reg [⟨some 8, none, .tk (.c (.bool false))⟩])
    (.seq (.reg [⟨some 9, none, .mv (.t 0)⟩, ⟨some 10, none, .mv (.t 1)⟩, ⟨some 11, none, .call n_num_Add [(.t 9), (.t 10)]⟩, ⟨some 12, none, .mv (.t 0)⟩, ⟨some 13, none, .mv (.t 1)⟩, ⟨some 14, none, .call n_flotsamref01_Add [(.t 12), (.t 13)]⟩, ⟨some 15, none, .ic .eql (.t 11) (.t 14)⟩, ⟨some 16, none, .mv (.t 15)⟩, ⟨some 17, (some (16, true)), .mv (.t 0)⟩, ⟨some 18, (some (16, true)), .mv (.t 1)⟩, ⟨some 19, (some (16, true)), .call n_num_Sub [(.t 17), (.t 18)]⟩, ⟨some 20, (some (16, true)), .mv (.t 0)⟩, ⟨some 21, (some (16, true)), .mv (.t 1)⟩, ⟨some 22, (some (16, true)), .call n_flotsamref01_Sub [(.t 20), (.t 21)]⟩, ⟨some 23, (some (16, true)), .ic .eql (.t 19) (.t 22)⟩, ⟨some 24, none, .pick (.t 16) (.t 23) (.c (.bool false))⟩, ⟨some 25, none, .mv (.t 24)⟩, ⟨some 26, (some (25, true)), .mv (.t 0)⟩, ⟨some 27, (some (25, true)), .mv (.t 2)⟩, ⟨some 28, (some (25, true)), .mv (.t 3)⟩, ⟨some 29, (some (25, true)), .call n_num_Narrow [(.t 26), (.t 27), (.t 28)]⟩, ⟨some 30, (some (25, true)), .mv (.t 0)⟩, ⟨some 31, (some (25, true)), .mv (.t 2)⟩, ⟨some 32, (some (25, true)), .mv (.t 3)⟩, ⟨some 33, (some (25, true)), .call n_flotsamref01_Narrow [(.t 30), (.t 31), (.t 32)]⟩, ⟨some 34, (some (25, true)), .ic .eql (.t 29) (.t 33)⟩, ⟨some 35, none, .pick (.t 25) (.t 34) (.c (.bool false))⟩, ⟨some 36, none, .mv (.t 35)⟩, ⟨some 37, (some (36, true)), .call n_flotsamlaw01_knows []⟩, ⟨some 38, none, .pick (.t 36) (.t 37) (.c (.bool false))⟩, ⟨some 8, none, .tk (.t 38)⟩])
    (.ret))) }

-- flotsam/flotsamlaw01.NumBack
def c_flotsamlaw01_NumBack : AFunc :=
  { np := 3, res := [.t 6], body := (
    .seq (.reg [⟨some 6, none, .tk (.c (.bool false))⟩])
    (.seq (.seq (.reg [⟨some 11, none, .mv (.t 1)⟩, ⟨some 12, none, .len true (.t 11)⟩, ⟨some 13, none, .ic .gtr (.t 12) (.c (.int .i64 200))⟩, ⟨some 14, none, .mv (.t 13)⟩, ⟨some 15, (some (14, false)), .call n_flotsamlaw01_knows []⟩, ⟨some 16, (some (14, false)), .notb (.t 15)⟩, ⟨some 17, none, .pick (.t 14) (.c (.bool true)) (.t 16)⟩])
      (.cond (.t 17)
        (.seq (.reg [⟨some 18, none, .call n_flotsamlaw01_knows []⟩, ⟨some 6, none, .tk (.t 18)⟩])
          (.ret))
        (.skip)))
    (.seq (.reg [⟨some 20, none, .mv (.t 0)⟩, ⟨some 21, none, .call n_num_Digits [(.t 20)]⟩, ⟨some 22, none, .call n_num_Read [(.t 21)]⟩, ⟨some 19, none, .mv (.t 22)⟩, ⟨some 23, none, .ext (.t 19) 0⟩, ⟨some 24, none, .ext (.t 19) 1⟩, ⟨some 7, none, .tk (.t 23)⟩, ⟨some 8, none, .tk (.t 24)⟩])
    (.seq (.reg [⟨some 26, none, .mv (.t 1)⟩, ⟨some 27, none, .call n_num_Read [(.t 26)]⟩, ⟨some 25, none, .mv (.t 27)⟩, ⟨some 28, none, .ext (.t 25) 0⟩, ⟨some 29, none, .ext (.t 25) 1⟩, ⟨some 9, none, .tk (.t 28)⟩, ⟨some 10, none, .tk (.t 29)⟩])
    (.seq (.seq (.reg [⟨some 30, none, .mv (.t 8)⟩, ⟨some 31, none, .mv (.t 0)⟩, ⟨some 32, none, .ic .geq (.t 31) (.c (.int .i64 0))⟩, ⟨some 33, none, .mv (.t 32)⟩, ⟨some 34, (some (33, true)), .mv (.t 0)⟩, ⟨some 35, (some (33, true)), .ic .leq (.t 34) (.c (.int .i64 1000000000000))⟩, ⟨some 36, none, .pick (.t 33) (.t 35) (.c (.bool false))⟩, ⟨some 37, none, .eqb true (.t 30) (.t 36)⟩, ⟨some 38, none, .mv (.t 37)⟩, ⟨some 39, (some (38, false)), .mv (.t 8)⟩, ⟨some 40, (some (38, false)), .mv (.t 39)⟩, ⟨some 41, (some (40, true)), .mv (.t 7)⟩, ⟨some 42, (some (40, true)), .mv (.t 0)⟩, ⟨some 43, (some (40, true)), .ic .neq (.t 41) (.t 42)⟩, ⟨some 44, (some (38, false)), .pick (.t 40) (.t 43) (.c (.bool false))⟩, ⟨some 45, none, .pick (.t 38) (.c (.bool true)) (.t 44)⟩, ⟨some 46, none, .mv (.t 45)⟩, ⟨some 47, (some (46, false)), .mv (.t 10)⟩, ⟨some 48, (some (46, false)), .mv (.t 47)⟩, ⟨some 49, (some (48, true)), .mv (.t 9)⟩, ⟨some 50, (some (48, true)), .call n_num_Digits [(.t 49)]⟩, ⟨some 51, (some (48, true)), .mv (.t 1)⟩, ⟨some 52, (some (48, true)), .sop .neq (.t 50) (.t 51)⟩, ⟨some 53, (some (46, false)), .pick (.t 48) (.t 52) (.c (.bool false))⟩, ⟨some 54, none, .pick (.t 46) (.c (.bool true)) (.t 53)⟩])
      (.cond (.t 54)
        (.seq (.reg [⟨some 6, none, .tk (.c (.bool false))⟩])
          (.ret))
        (.skip)))
    (.seq (.reg [⟨some 55, none, .mv (.t 0)⟩, ⟨some 56, none, .mv (.t 2)⟩, ⟨some 57, none, .call n_num_Add [(.t 55), (.t 56)]⟩, ⟨some 58, none, .mv (.t 2)⟩, ⟨some 59, none, .mv (.t 0)⟩, ⟨some 60, none, .call n_num_Add [(.t 58), (.t 59)]⟩, ⟨some 61, none, .ic .eql (.t 57) (.t 60)⟩, ⟨some 62, none, .mv (.t 61)⟩, ⟨some 63, (some (62, true)), .mv (.t 0)⟩, ⟨some 64, (some (62, true)), .mv (.t 0)⟩, ⟨some 65, (some (62, true)), .call n_num_Sub [(.t 63), (.t 64)]⟩, ⟨some 66, (some (62, true)), .ic .eql (.t 65) (.c (.int .i64 0))⟩, ⟨some 67, none, .pick (.t 62) (.t 66) (.c (.bool false))⟩, ⟨some 68, none, .mv (.t 67)⟩, ⟨some 69, (some (68, true)), .mv (.t 0)⟩, ⟨some 70, (some (68, true)), .call n_num_Add [(.t 69), (.c (.int .i64 0))]⟩, ⟨some 71, (some (68, true)), .mv (.t 0)⟩, ⟨some 72, (some (68, true)), .call n_num_Sub [(.t 71), (.c (.int .i64 0))]⟩, ⟨some 73, (some (68, true)), .ic .eql (.t 70) (.t 72)⟩, ⟨some 74, none, .pick (.t 68) (.t 73) (.c (.bool false))⟩, ⟨some 6, none, .tk (.t 74)⟩])
    (.ret))))))) }

-- flotsam/flotsamlaw01.knows
def c_flotsamlaw01_knows : AFunc :=
  { np := 0, res := [.t 0], body := (
    .seq (.reg [⟨some 0, none, .tk (.c (.bool false))⟩])
    (.seq (.reg [⟨some 4, none, .call n_num_Read [(.c (.str [49, 50, 48]))]⟩, ⟨some 3, none, .mv (.t 4)⟩, ⟨some 5, none, .ext (.t 3) 0⟩, ⟨some 6, none, .ext (.t 3) 1⟩, ⟨some 1, none, .tk (.t 5)⟩, ⟨some 2, none, .tk (.t 6)⟩])
    (.seq (.reg [⟨some 7, none, .call n_num_Add [(.c (.int .i64 1000000000000)), (.c (.int .i64 1))]⟩, ⟨some 8, none, .ic .eql (.t 7) (.c (.int .i64 1000000000000))⟩, ⟨some 9, none, .mv (.t 8)⟩, ⟨some 10, (some (9, true)), .mv (.t 1)⟩, ⟨some 11, (some (9, true)), .ic .eql (.t 10) (.c (.int .i64 120))⟩, ⟨some 12, none, .pick (.t 9) (.t 11) (.c (.bool false))⟩, ⟨some 13, none, .mv (.t 12)⟩, ⟨some 14, (some (13, true)), .mv (.t 2)⟩, ⟨some 15, none, .pick (.t 13) (.t 14) (.c (.bool false))⟩, ⟨some 16, none, .mv (.t 15)⟩, ⟨some 17, (some (16, true)), .call n_num_Digits [(.c (.int .i64 (-45)))]⟩, ⟨some 18, (some (16, true)), .sop .eql (.t 17) (.c (.str [45, 52, 53]))⟩, ⟨some 19, none, .pick (.t 16) (.t 18) (.c (.bool false))⟩, ⟨some 20, none, .mv (.t 19)⟩, ⟨some 21, (some (20, true)), .call n_num_Narrow [(.c (.int .i64 9)), (.c (.int .i64 1)), (.c (.int .i64 5))]⟩, ⟨some 22, (some (20, true)), .ic .eql (.t 21) (.c (.int .i64 5))⟩, ⟨some 23, none, .pick (.t 20) (.t 22) (.c (.bool false))⟩, ⟨some 0, none, .tk (.t 23)⟩])
    (.ret)))) }

-- flotsam/num.Read
def b_num_Read_0 : AC :=
  .seq (.reg [⟨some 28, none, .ic .lss (.t 27) (.t 26)⟩])
  (.seq (.cond (.t 28)
      (.skip)
      (.exit 0))
  (.seq (.block 1 (.seq (.reg [⟨some 29, none, .ixa 1 none (.t 25) (.t 27)⟩, ⟨some 30, none, .ld none (.t 29)⟩, ⟨some 6, none, .tk (.t 30)⟩])
      (.seq (.reg [⟨some 31, none, .mv (.t 6)⟩, ⟨some 32, none, .conv .i64 (.t 31)⟩, ⟨some 33, none, .ia .sub .i64 (.t 32) (.c (.int .i64 48))⟩, ⟨some 7, none, .tk (.t 33)⟩])
      (.seq (.seq (.reg [⟨some 34, none, .mv (.t 7)⟩, ⟨some 35, none, .ic .lss (.t 34) (.c (.int .i64 0))⟩, ⟨some 36, none, .mv (.t 35)⟩, ⟨some 37, (some (36, false)), .mv (.t 7)⟩, ⟨some 38, (some (36, false)), .ic .gtr (.t 37) (.c (.int .i64 9))⟩, ⟨some 39, none, .pick (.t 36) (.c (.bool true)) (.t 38)⟩])
        (.cond (.t 39)
          (.seq (.reg [⟨some 2, none, .tk (.c (.int .i64 0))⟩, ⟨some 3, none, .tk (.c (.bool false))⟩])
            (.ret))
          (.skip)))
      (.reg [⟨some 40, none, .mv (.t 4)⟩, ⟨some 41, none, .ia .mul .i64 (.t 40) (.c (.int .i64 10))⟩, ⟨some 42, none, .mv (.t 7)⟩, ⟨some 43, none, .ia .add .i64 (.t 41) (.t 42)⟩, ⟨some 4, none, .tk (.t 43)⟩])))))
  (.reg [⟨some 44, none, .ia .add .i64 (.t 27) (.c (.int .i64 1))⟩, ⟨some 27, none, .mv (.t 44)⟩])))

def l_num_Read_0 : AC :=
  .loop [4, 25, 26, 27] b_num_Read_0

def r_num_Read_0 : AC :=
  .seq (.seq (.reg [⟨some 45, none, .mv (.t 4)⟩, ⟨some 46, none, .ic .gtr (.t 45) (.c (.int .i64 1000000000000))⟩])
    (.cond (.t 46)
      (.seq (.reg [⟨some 2, none, .tk (.c (.int .i64 0))⟩, ⟨some 3, none, .tk (.c (.bool false))⟩])
        (.ret))
      (.skip)))
  (.seq (.reg [⟨some 47, none, .mv (.t 4)⟩, ⟨some 2, none, .tk (.t 47)⟩, ⟨some 3, none, .tk (.c (.bool true))⟩])
  (.ret))

def c_num_Read : AFunc :=
  { np := 1, res := [.t 2, .t 3], body := (
    .seq (.reg [⟨some 2, none, .tk (.c (.int .i64 0))⟩, ⟨some 3, none, .tk (.c (.bool false))⟩])
    (.seq (.seq (.reg [⟨some 8, none, .mv (.t 0)⟩, ⟨some 9, none, .sop .eql (.t 8) (.c (.str []))⟩, ⟨some 10, none, .mv (.t 9)⟩, ⟨some 11, (some (10, false)), .mv (.t 0)⟩, ⟨some 12, (some (10, false)), .len true (.t 11)⟩, ⟨some 13, (some (10, false)), .ic .gtr (.t 12) (.c (.int .i64 13))⟩, ⟨some 14, none, .pick (.t 10) (.c (.bool true)) (.t 13)⟩, ⟨some 15, none, .mv (.t 14)⟩, ⟨some 16, (some (15, false)), .mv (.t 0)⟩, ⟨some 17, (some (15, false)), .ixs (.t 16) (.c (.int .i64 0))⟩, ⟨some 18, (some (15, false)), .ic .eql (.t 17) (.c (.int .u8 48))⟩, ⟨some 19, (some (15, false)), .mv (.t 18)⟩, ⟨some 20, (some (19, true)), .mv (.t 0)⟩, ⟨some 21, (some (19, true)), .sop .neq (.t 20) (.c (.str [48]))⟩, ⟨some 22, (some (15, false)), .pick (.t 19) (.t 21) (.c (.bool false))⟩, ⟨some 23, none, .pick (.t 15) (.c (.bool true)) (.t 22)⟩])
      (.cond (.t 23)
        (.seq (.reg [⟨some 2, none, .tk (.c (.int .i64 0))⟩, ⟨some 3, none, .tk (.c (.bool false))⟩])
          (.ret))
        (.skip)))
    (.seq (.reg [⟨some 4, none, .tk (.c (.int .i64 0))⟩])
    (.seq (.seq (.reg [⟨some 24, none, .mv (.t 0)⟩, ⟨some 25, none, .s2b (.t 24)⟩, ⟨some 26, none, .len false (.t 25)⟩, ⟨some 27, none, .mv (.c (.int .i64 0))⟩])
      (.block 0 (l_num_Read_0))) r_num_Read_0)))) }

-- flotsam/flotsamref01.Read
def b_flotsamref01_Read_0 : AC :=
  .seq (.seq (.reg [⟨some 24, none, .mv (.t 5)⟩, ⟨some 25, none, .mv (.t 0)⟩, ⟨some 26, none, .len true (.t 25)⟩, ⟨some 27, none, .ic .lss (.t 24) (.t 26)⟩])
    (.cond (.t 27)
      (.skip)
      (.exit 0)))
  (.seq (.block 1 (.seq (.seq (.reg [⟨some 30, none, .mv (.t 0)⟩, ⟨some 31, none, .mv (.t 5)⟩, ⟨some 32, none, .ixs (.t 30) (.t 31)⟩, ⟨some 33, none, .ic .lss (.t 32) (.c (.int .u8 48))⟩, ⟨some 34, none, .mv (.t 33)⟩, ⟨some 35, (some (34, false)), .mv (.t 0)⟩, ⟨some 36, (some (34, false)), .mv (.t 5)⟩, ⟨some 37, (some (34, false)), .ixs (.t 35) (.t 36)⟩, ⟨some 38, (some (34, false)), .ic .gtr (.t 37) (.c (.int .u8 57))⟩, ⟨some 39, none, .pick (.t 34) (.c (.bool true)) (.t 38)⟩])
        (.cond (.t 39)
          (.seq (.reg [⟨some 2, none, .tk (.c (.int .i64 0))⟩, ⟨some 3, none, .tk (.c (.bool false))⟩])
            (.ret))
          (.skip)))
      (.reg [⟨some 40, none, .mv (.t 4)⟩, ⟨some 41, none, .ia .mul .i64 (.c (.int .i64 10)) (.t 40)⟩, ⟨some 42, none, .mv (.t 0)⟩, ⟨some 43, none, .mv (.t 5)⟩, ⟨some 44, none, .ixs (.t 42) (.t 43)⟩, ⟨some 45, none, .ia .sub .u8 (.t 44) (.c (.int .u8 48))⟩, ⟨some 46, none, .conv .i64 (.t 45)⟩, ⟨some 47, none, .ia .add .i64 (.t 41) (.t 46)⟩, ⟨some 4, none, .tk (.t 47)⟩])))
  (.reg [⟨some 28, none, .mv (.t 5)⟩, ⟨some 29, none, .ia .add .i64 (.t 28) (.c (.int .i64 1))⟩, ⟨some 5, none, .tk (.t 29)⟩]))

def l_flotsamref01_Read_0 : AC :=
  .loop [0, 4, 5] b_flotsamref01_Read_0

def r_flotsamref01_Read_0 : AC :=
  .seq (.seq (.reg [⟨some 48, none, .mv (.t 4)⟩, ⟨some 49, none, .ic .gtr (.t 48) (.c (.int .i64 1000000000000))⟩])
    (.cond (.t 49)
      (.seq (.reg [⟨some 2, none, .tk (.c (.int .i64 0))⟩, ⟨some 3, none, .tk (.c (.bool false))⟩])
        (.ret))
      (.skip)))
  (.seq (.reg [⟨some 50, none, .mv (.t 4)⟩, ⟨some 2, none, .tk (.t 50)⟩, ⟨some 3, none, .tk (.c (.bool true))⟩])
  (.ret))

def c_flotsamref01_Read : AFunc :=
  { np := 1, res := [.t 2, .t 3], body := (
    .seq (.reg [⟨some 2, none, .tk (.c (.int .i64 0))⟩, ⟨some 3, none, .tk (.c (.bool false))⟩])
    (.seq (.seq (.reg [⟨some 6, none, .mv (.t 0)⟩, ⟨some 7, none, .len true (.t 6)⟩, ⟨some 8, none, .ic .lss (.t 7) (.c (.int .i64 1))⟩, ⟨some 9, none, .mv (.t 8)⟩, ⟨some 10, (some (9, false)), .mv (.t 0)⟩, ⟨some 11, (some (9, false)), .len true (.t 10)⟩, ⟨some 12, (some (9, false)), .ic .gtr (.t 11) (.c (.int .i64 13))⟩, ⟨some 13, none, .pick (.t 9) (.c (.bool true)) (.t 12)⟩, ⟨some 14, none, .mv (.t 13)⟩, ⟨some 15, (some (14, false)), .mv (.t 0)⟩, ⟨some 16, (some (14, false)), .len true (.t 15)⟩, ⟨some 17, (some (14, false)), .ic .gtr (.t 16) (.c (.int .i64 1))⟩, ⟨some 18, (some (14, false)), .mv (.t 17)⟩, ⟨some 19, (some (18, true)), .mv (.t 0)⟩, ⟨some 20, (some (18, true)), .ixs (.t 19) (.c (.int .i64 0))⟩, ⟨some 21, (some (18, true)), .ic .eql (.t 20) (.c (.int .u8 48))⟩, ⟨some 22, (some (14, false)), .pick (.t 18) (.t 21) (.c (.bool false))⟩, ⟨some 23, none, .pick (.t 14) (.c (.bool true)) (.t 22)⟩])
      (.cond (.t 23)
        (.seq (.reg [⟨some 2, none, .tk (.c (.int .i64 0))⟩, ⟨some 3, none, .tk (.c (.bool false))⟩])
          (.ret))
        (.skip)))
    (.seq (.reg [⟨some 4, none, .tk (.c (.int .i64 0))⟩])
    (.seq (.seq (.reg [⟨some 5, none, .tk (.c (.int .i64 0))⟩])
      (.block 0 (l_flotsamref01_Read_0))) r_flotsamref01_Read_0)))) }

-- flotsam/num.Digits
def b_num_Digits_0 : AC :=
  .block 1 (.seq (.reg [⟨some 12, none, .mv (.t 4)⟩, ⟨some 13, none, .ia .sub .i64 (.t 12) (.c (.int .i64 1))⟩, ⟨some 4, none, .tk (.t 13)⟩])
    (.seq (.reg [⟨some 14, none, .mv (.t 4)⟩, ⟨some 15, none, .mv (.t 5)⟩, ⟨some 16, none, .ia .rem .u64 (.t 15) (.c (.int .u64 10))⟩, ⟨some 17, none, .ia .add .u64 (.c (.int .u64 48)) (.t 16)⟩, ⟨some 18, none, .conv .u8 (.t 17)⟩, ⟨some 19, none, .ixa 1 (some 20) (.t 3) (.t 14)⟩, ⟨none, none, .st 1 (.t 19) (.t 18)⟩])
    (.seq (.reg [⟨some 20, none, .mv (.t 5)⟩, ⟨some 21, none, .ia .quo .u64 (.t 20) (.c (.int .u64 10))⟩, ⟨some 5, none, .tk (.t 21)⟩])
    (.seq (.reg [⟨some 22, none, .mv (.t 5)⟩, ⟨some 23, none, .ic .eql (.t 22) (.c (.int .u64 0))⟩])
    (.cond (.t 23)
      (.exit 0)
      (.skip))))))

def l_num_Digits_0 : AC :=
  .loop [0, 3, 4, 5] b_num_Digits_0

def r_num_Digits_0 : AC :=
  .seq (.seq (.reg [⟨some 24, none, .mv (.t 0)⟩, ⟨some 25, none, .ic .lss (.t 24) (.c (.int .i64 0))⟩])
    (.cond (.t 25)
      (.seq (.reg [⟨some 26, none, .mv (.t 4)⟩, ⟨some 27, none, .ia .sub .i64 (.t 26) (.c (.int .i64 1))⟩, ⟨some 4, none, .tk (.t 27)⟩])
        (.reg [⟨some 28, none, .mv (.t 4)⟩, ⟨some 29, none, .ixa 1 (some 20) (.t 3) (.t 28)⟩, ⟨none, none, .st 1 (.t 29) (.c (.int .u8 45))⟩]))
      (.skip)))
  (.seq (.reg [⟨some 30, none, .mv (.t 4)⟩, ⟨some 31, none, .slp 1 20 (.t 3) (some (.t 30)) none none⟩, ⟨some 32, none, .b2s (.t 31)⟩, ⟨some 2, none, .tk (.t 32)⟩])
  (.ret))

def c_num_Digits : AFunc :=
  { np := 1, res := [.t 2], body := (
    .seq (.reg [⟨some 2, none, .tk (.c (.str []))⟩])
    (.seq (.reg [⟨some 3, none, .alloc [.int .u8 0, .int .u8 0, .int .u8 0, .int .u8 0, .int .u8 0, .int .u8 0, .int .u8 0, .int .u8 0, .int .u8 0, .int .u8 0, .int .u8 0, .int .u8 0, .int .u8 0, .int .u8 0, .int .u8 0, .int .u8 0, .int .u8 0, .int .u8 0, .int .u8 0, .int .u8 0]⟩])
    (.seq (.reg [⟨some 4, none, .tk (.c (.int .i64 20))⟩])
    (.seq (.reg [⟨some 6, none, .mv (.t 0)⟩, ⟨some 7, none, .conv .u64 (.t 6)⟩, ⟨some 5, none, .tk (.t 7)⟩])
    (.seq (.seq (.reg [⟨some 8, none, .mv (.t 0)⟩, ⟨some 9, none, .ic .lss (.t 8) (.c (.int .i64 0))⟩])
      (.cond (.t 9)
        (.reg [⟨some 10, none, .mv (.t 5)⟩, ⟨some 11, none, .neg .u64 (.t 10)⟩, ⟨some 5, none, .tk (.t 11)⟩])
        (.skip)))
    (.seq (.block 0 (l_num_Digits_0)) r_num_Digits_0)))))) }

-- flotsam/flotsamref01.Digits
def c_flotsamref01_Digits : AFunc :=
  { np := 1, res := [.t 2], body := (
    .seq (.reg [⟨some 2, none, .tk (.c (.str []))⟩])
    (.seq (.seq (.reg [⟨some 3, none, .mv (.t 0)⟩, ⟨some 4, none, .ic .gtr (.t 3) (.c (.int .i64 (-10)))⟩, ⟨some 5, none, .mv (.t 4)⟩, ⟨some 6, (some (5, true)), .mv (.t 0)⟩, ⟨some 7, (some (5, true)), .ic .lss (.t 6) (.c (.int .i64 0))⟩, ⟨some 8, none, .pick (.t 5) (.t 7) (.c (.bool false))⟩])
      (.cond (.t 8)
        (.seq (.reg [⟨some 9, none, .mv (.t 0)⟩, ⟨some 10, none, .ia .sub .i64 (.c (.int .i64 48)) (.t 9)⟩, ⟨some 11, none, .conv .u8 (.t 10)⟩, ⟨some 12, none, .bsl 1 [.int .u8 0] 1 [(0, 1, (.t 11))] false⟩, ⟨some 13, none, .b2s (.t 12)⟩, ⟨some 14, none, .sop .add (.c (.str [45])) (.t 13)⟩, ⟨some 2, none, .tk (.t 14)⟩])
          (.ret))
        (.skip)))
    (.seq (.seq (.reg [⟨some 15, none, .mv (.t 0)⟩, ⟨some 16, none, .ic .lss (.t 15) (.c (.int .i64 0))⟩])
      (.cond (.t 16)
        (.seq (.drw 11 [⟨some 17, none, .mv (.t 0)⟩, ⟨some 18, none, .ia .quo .i64 (.t 17) (.c (.int .i64 10))⟩, ⟨some 19, none, .call n_flotsamref01_Digits [(.t 18)]⟩, ⟨some 20, none, .mv (.t 0)⟩, ⟨some 21, none, .ia .rem .i64 (.t 20) (.c (.int .i64 10))⟩, ⟨some 22, none, .ia .sub .i64 (.c (.int .i64 48)) (.t 21)⟩, ⟨some 23, none, .conv .u8 (.t 22)⟩, ⟨some 24, none, .bsl 1 [.int .u8 0] 1 [(0, 1, (.t 23))] false⟩, ⟨some 25, none, .b2s (.t 24)⟩, ⟨some 26, none, .sop .add (.t 19) (.t 25)⟩, ⟨some 2, none, .tk (.t 26)⟩])
          (.ret))
        (.skip)))
    (.seq (.seq (.reg [⟨some 27, none, .mv (.t 0)⟩, ⟨some 28, none, .ic .gtr (.t 27) (.c (.int .i64 9))⟩])
      (.cond (.t 28)
        (.seq (.drw 11 [⟨some 29, none, .mv (.t 0)⟩, ⟨some 30, none, .ia .quo .i64 (.t 29) (.c (.int .i64 10))⟩, ⟨some 31, none, .call n_flotsamref01_Digits [(.t 30)]⟩, ⟨some 32, none, .mv (.t 0)⟩, ⟨some 33, none, .ia .rem .i64 (.t 32) (.c (.int .i64 10))⟩, ⟨some 34, none, .ia .add .i64 (.c (.int .i64 48)) (.t 33)⟩, ⟨some 35, none, .conv .u8 (.t 34)⟩, ⟨some 36, none, .bsl 1 [.int .u8 0] 1 [(0, 1, (.t 35))] false⟩, ⟨some 37, none, .b2s (.t 36)⟩, ⟨some 38, none, .sop .add (.t 31) (.t 37)⟩, ⟨some 2, none, .tk (.t 38)⟩])
          (.ret))
        (.skip)))
    (.seq (.reg [⟨some 39, none, .mv (.t 0)⟩, ⟨some 40, none, .ia .add .i64 (.c (.int .i64 48)) (.t 39)⟩, ⟨some 41, none, .conv .u8 (.t 40)⟩, ⟨some 42, none, .bsl 1 [.int .u8 0] 1 [(0, 1, (.t 41))] false⟩, ⟨some 43, none, .b2s (.t 42)⟩, ⟨some 2, none, .tk (.t 43)⟩])
    (.ret)))))) }

-- flotsam/num.Add
def c_num_Add : AFunc :=
  { np := 2, res := [.t 4], body := (
    .seq (.reg [⟨some 4, none, .tk (.c (.int .i64 0))⟩])
    (.seq (.reg [⟨some 5, none, .mv (.t 0)⟩, ⟨some 6, none, .call n_num_in [(.t 5)]⟩, ⟨some 7, none, .mv (.t 1)⟩, ⟨some 8, none, .call n_num_in [(.t 7)]⟩, ⟨some 9, none, .ia .add .i64 (.t 6) (.t 8)⟩, ⟨some 10, none, .call n_num_in [(.t 9)]⟩, ⟨some 4, none, .tk (.t 10)⟩])
    (.ret))) }

-- flotsam/flotsamref01.Add
def c_flotsamref01_Add : AFunc :=
  { np := 2, res := [.t 4], body := (
    .seq (.reg [⟨some 4, none, .tk (.c (.int .i64 0))⟩])
    (.seq (.reg [⟨some 5, none, .mv (.t 0)⟩, ⟨some 6, none, .call n_flotsamref01_In [(.t 5)]⟩, ⟨some 7, none, .mv (.t 1)⟩, ⟨some 8, none, .call n_flotsamref01_In [(.t 7)]⟩, ⟨some 9, none, .ia .add .i64 (.t 6) (.t 8)⟩, ⟨some 10, none, .call n_flotsamref01_In [(.t 9)]⟩, ⟨some 4, none, .tk (.t 10)⟩])
    (.ret))) }

-- flotsam/num.Sub
def c_num_Sub : AFunc :=
  { np := 2, res := [.t 4], body := (
    .seq (.reg [⟨some 4, none, .tk (.c (.int .i64 0))⟩])
    (.seq (.reg [⟨some 5, none, .mv (.t 0)⟩, ⟨some 6, none, .call n_num_in [(.t 5)]⟩, ⟨some 7, none, .mv (.t 1)⟩, ⟨some 8, none, .call n_num_in [(.t 7)]⟩, ⟨some 9, none, .ia .sub .i64 (.t 6) (.t 8)⟩, ⟨some 10, none, .call n_num_in [(.t 9)]⟩, ⟨some 4, none, .tk (.t 10)⟩])
    (.ret))) }

-- flotsam/flotsamref01.Sub
def c_flotsamref01_Sub : AFunc :=
  { np := 2, res := [.t 4], body := (
    .seq (.reg [⟨some 4, none, .tk (.c (.int .i64 0))⟩])
    (.seq (.reg [⟨some 5, none, .mv (.t 0)⟩, ⟨some 6, none, .call n_flotsamref01_In [(.t 5)]⟩, ⟨some 7, none, .mv (.t 1)⟩, ⟨some 8, none, .call n_flotsamref01_In [(.t 7)]⟩, ⟨some 9, none, .ia .sub .i64 (.t 6) (.t 8)⟩, ⟨some 10, none, .call n_flotsamref01_In [(.t 9)]⟩, ⟨some 4, none, .tk (.t 10)⟩])
    (.ret))) }

-- flotsam/num.Narrow
def c_num_Narrow : AFunc :=
  { np := 3, res := [.t 6], body := (
    .seq (.reg [⟨some 6, none, .tk (.c (.int .i64 0))⟩])
    (.seq (.seq (.reg [⟨some 7, none, .mv (.t 2)⟩, ⟨some 8, none, .mv (.t 1)⟩, ⟨some 9, none, .ic .lss (.t 7) (.t 8)⟩])
      (.cond (.t 9)
        (.seq (.reg [⟨some 10, none, .mv (.t 1)⟩, ⟨some 6, none, .tk (.t 10)⟩])
          (.ret))
        (.skip)))
    (.seq (.reg [⟨some 11, none, .mv (.t 1)⟩, ⟨some 12, none, .mv (.t 0)⟩, ⟨some 13, none, .mv (.t 2)⟩, ⟨some 14, none, .mx false [(.t 12), (.t 13)]⟩, ⟨some 15, none, .mx true [(.t 11), (.t 14)]⟩, ⟨some 6, none, .tk (.t 15)⟩])
    (.ret)))) }

-- flotsam/flotsamref01.Narrow
def c_flotsamref01_Narrow : AFunc :=
  { np := 3, res := [.t 6], body := (
    .seq (.reg [⟨some 6, none, .tk (.c (.int .i64 0))⟩])
    (.seq (.seq (.reg [⟨some 7, none, .mv (.t 2)⟩, ⟨some 8, none, .mv (.t 1)⟩, ⟨some 9, none, .ic .lss (.t 7) (.t 8)⟩, ⟨some 10, none, .mv (.t 9)⟩, ⟨some 11, (some (10, false)), .mv (.t 0)⟩, ⟨some 12, (some (10, false)), .mv (.t 1)⟩, ⟨some 13, (some (10, false)), .ic .lss (.t 11) (.t 12)⟩, ⟨some 14, none, .pick (.t 10) (.c (.bool true)) (.t 13)⟩])
      (.cond (.t 14)
        (.seq (.reg [⟨some 15, none, .mv (.t 1)⟩, ⟨some 6, none, .tk (.t 15)⟩])
          (.ret))
        (.skip)))
    (.seq (.seq (.reg [⟨some 16, none, .mv (.t 0)⟩, ⟨some 17, none, .mv (.t 2)⟩, ⟨some 18, none, .ic .gtr (.t 16) (.t 17)⟩])
      (.cond (.t 18)
        (.seq (.reg [⟨some 19, none, .mv (.t 2)⟩, ⟨some 6, none, .tk (.t 19)⟩])
          (.ret))
        (.skip)))
    (.seq (.reg [⟨some 20, none, .mv (.t 0)⟩, ⟨some 6, none, .tk (.t 20)⟩])
    (.ret))))) }

-- flotsam/num.in
def c_num_in : AFunc :=
  { np := 1, res := [.t 2], body := (
    .seq (.reg [⟨some 2, none, .tk (.c (.int .i64 0))⟩])
    (.seq (.reg [⟨some 3, none, .mv (.t 0)⟩, ⟨some 4, none, .mx false [(.t 3), (.c (.int .i64 1000000000000))]⟩, ⟨some 5, none, .mx true [(.c (.int .i64 (-1000000000000))), (.t 4)]⟩, ⟨some 2, none, .tk (.t 5)⟩])
    (.ret))) }

-- flotsam/flotsamref01.In
def c_flotsamref01_In : AFunc :=
  { np := 1, res := [.t 2], body := (
    .seq (.reg [⟨some 2, none, .tk (.c (.int .i64 0))⟩])
    (.seq (.reg [⟨some 3, none, .mv (.t 0)⟩, ⟨some 4, none, .mx true [(.t 3), (.c (.int .i64 (-1000000000000)))]⟩, ⟨some 5, none, .mx false [(.t 4), (.c (.int .i64 1000000000000))]⟩, ⟨some 2, none, .tk (.t 5)⟩])
    (.ret))) }

def tbl : Tbl := Tab.get [(3, c_flotsamlaw01_NumTexts), (4, c_flotsamlaw01_NumRange), (5, c_flotsamlaw01_NumBack), (6, c_flotsamlaw01_knows), (7, c_num_Read), (8, c_flotsamref01_Read), (9, c_num_Digits), (10, c_flotsamref01_Digits), (11, c_num_Add), (12, c_flotsamref01_Add), (13, c_num_Sub), (14, c_flotsamref01_Sub), (15, c_num_Narrow), (16, c_flotsamref01_Narrow), (17, c_num_in), (18, c_flotsamref01_In)]

theorem t_flotsamlaw01_NumTexts : tbl n_flotsamlaw01_NumTexts = some c_flotsamlaw01_NumTexts := by kernel_rfl
theorem t_flotsamlaw01_NumRange : tbl n_flotsamlaw01_NumRange = some c_flotsamlaw01_NumRange := by kernel_rfl
theorem t_flotsamlaw01_NumBack : tbl n_flotsamlaw01_NumBack = some c_flotsamlaw01_NumBack := by kernel_rfl
theorem t_flotsamlaw01_knows : tbl n_flotsamlaw01_knows = some c_flotsamlaw01_knows := by kernel_rfl
theorem t_num_Read : tbl n_num_Read = some c_num_Read := by kernel_rfl
theorem t_flotsamref01_Read : tbl n_flotsamref01_Read = some c_flotsamref01_Read := by kernel_rfl
theorem t_num_Digits : tbl n_num_Digits = some c_num_Digits := by kernel_rfl
theorem t_flotsamref01_Digits : tbl n_flotsamref01_Digits = some c_flotsamref01_Digits := by kernel_rfl
theorem t_num_Add : tbl n_num_Add = some c_num_Add := by kernel_rfl
theorem t_flotsamref01_Add : tbl n_flotsamref01_Add = some c_flotsamref01_Add := by kernel_rfl
theorem t_num_Sub : tbl n_num_Sub = some c_num_Sub := by kernel_rfl
theorem t_flotsamref01_Sub : tbl n_flotsamref01_Sub = some c_flotsamref01_Sub := by kernel_rfl
theorem t_num_Narrow : tbl n_num_Narrow = some c_num_Narrow := by kernel_rfl
theorem t_flotsamref01_Narrow : tbl n_flotsamref01_Narrow = some c_flotsamref01_Narrow := by kernel_rfl
theorem t_num_in : tbl n_num_in = some c_num_in := by kernel_rfl
theorem t_flotsamref01_In : tbl n_flotsamref01_In = some c_flotsamref01_In := by kernel_rfl

end Go.AM
