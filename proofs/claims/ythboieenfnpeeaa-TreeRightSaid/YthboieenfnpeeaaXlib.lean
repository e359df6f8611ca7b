/-
  Functions of the library that the evaluator takes as given: what they answer.
-/
import Derived.Test.YthboieenfnpeeaaMach
import Derived.Lib.IndexMore
namespace Go.AM

/-- strings.Contains -/
def xContains : List V → Heap → Option (V × Heap)
  | [.str s, .str [c]], H => some (.bool (decide (0 ≤ Go.Lib.indexByte s c)), H)
  | [.str s, .str t], H => if s.length < 4294967281 then some (.bool (Go.Lib.contains s t), H) else none
  | _, _ => none

def isLetter (c : UInt8) : Bool := 97 ≤ c && c ≤ 122
def isDigit (c : UInt8) : Bool := 48 ≤ c && c ≤ 57
def isInner (c : UInt8) : Bool := isLetter c || isDigit c || c == 95

/-- lex.run -/
def xRun (letter digit inner : Nat) : List V → Heap → Option (V × Heap)
  | [.str s, .fn (.func k) [] []], H =>
    if k = inner then some (.str (s.takeWhile isInner), H) else if k = letter then some (.str (s.takeWhile isLetter), H) else if k = digit then some (.str (s.takeWhile isDigit), H) else none
  | _, _ => none

theorem eval_X {tbl : Tbl} {ext : Ext} {f : Nat} {args : List V} {H : Heap} {e : List V → Heap → Option (V × Heap)} (h0 : Nat.blt f yBase = true) (h1 : ext f = some e) : eval tbl ext f args H = e args H := by
  rw [eval_eq, if_pos (by simpa [Nat.blt_eq] using h0)]
  unfold fnRun
  rw [h1]

end Go.AM
