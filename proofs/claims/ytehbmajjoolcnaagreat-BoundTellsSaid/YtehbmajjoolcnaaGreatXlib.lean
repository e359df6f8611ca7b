/-
  Functions of the library that the evaluator takes as given: what they answer.
-/
import Derived.Lib.Repeat
import Derived.Test.YtehbmajjoolcnaaGreatMach
import Derived.Lib.IndexMore
import Derived.Lib.Split
import Derived.Lib.Join
import Derived.Lib.Fields
import Derived.Lib.SlTrimSet
namespace Go.AM
def xContains : List V → Heap → Option (V × Heap)
 | [.str s, .str [c]], H => some (.bool (decide (0 ≤ Go.Lib.indexByte s c)), H)
 | [.str s, .str t], H => if s.length < 4294967281 then some (.bool (Go.Lib.contains s t), H) else none
 | _, _ => none
def isLetter (c : UInt8) : Bool := 97 ≤ c && c ≤ 122
def isDigit (c : UInt8) : Bool := 48 ≤ c && c ≤ 57
def isInner (c : UInt8) : Bool := isLetter c || isDigit c || c == 95
def xRun (letter digit inner : Nat) : List V → Heap → Option (V × Heap)
 | [.str s, .fn (.func k) [] []], H =>
  if k = inner then some (.str (s.takeWhile isInner), H) else if k = letter then some (.str (s.takeWhile isLetter), H) else if k = digit then some (.str (s.takeWhile isDigit), H) else none
 | _, _ => none
def zs (n : Nat) (v : V) : List V := List.replicate n v
def plainC (c : UInt8) : Bool := decide (32 ≤ c.toNat) && decide (c.toNat ≤ 126) && decide (c.toNat ≠ 34) && decide (c.toNat ≠ 92)
def hexd (n : Nat) : UInt8 := if n < 10 then UInt8.ofNat (48 + n) else UInt8.ofNat (87 + n)
def signC (c : UInt8) : List UInt8 := if plainC c then [c] else [92, hexd (c.toNat / 16), hexd (c.toNat % 16)]
def quo (s : List UInt8) : List UInt8 := 34 :: (s.flatMap signC ++ [34])
theorem eval_X {tbl : Tbl} {ext : Ext} {f : Nat} {args : List V} {H : Heap} {e : List V → Heap → Option (V × Heap)} (h0 : Nat.blt f yBase = true) (h1 : ext f = some e) : eval tbl ext f args H = e args H := by
 rw [eval_eq, runF, if_pos (by simpa [Nat.blt_eq] using h0)]
 unfold fnRun
 rw [h1]
end Go.AM
