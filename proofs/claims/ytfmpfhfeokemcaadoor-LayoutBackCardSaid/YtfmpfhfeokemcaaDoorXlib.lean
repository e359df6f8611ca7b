/-
  Functions of the library that the evaluator takes as given: what they answer.
-/
import Derived.Test.YtfmpfhfeokemcaaDoorMach
import Derived.Lib.IndexMore
import Derived.Lib.Split
import Derived.Lib.Join
import Derived.Lib.Fields
import Derived.Lib.SlTrimSet
namespace Go.AM

/-- strings.Contains -/
def xContains : List V → Heap → Option (V × Heap)
  | [.str s, .str [c]], H => some (.bool (decide (0 ≤ Go.Lib.indexByte s c)), H)
  | [.str s, .str t], H => if s.length < 4294967281 then some (.bool (Go.Lib.contains s t), H) else none
  | _, _ => none

def isLetter (c : UInt8) : Bool := 97 ≤ c && c ≤ 122
def isDigit (c : UInt8) : Bool := 48 ≤ c && c ≤ 57
def isInner (c : UInt8) : Bool := isLetter c || isDigit c || c == 95

/-- lex.run -/
def xRun (letter digit inner : Nat) : List V → Heap → Option (V × Heap)
  | [.str s, .fn (.func k) [] []], H =>
    if k = inner then some (.str (s.takeWhile isInner), H) else if k = letter then some (.str (s.takeWhile isLetter), H) else if k = digit then some (.str (s.takeWhile isDigit), H) else none
  | _, _ => none

/-- Many cells that are alike. -/
def zs (n : Nat) (v : V) : List V := List.replicate n v
theorem zs_length (n : Nat) (v : V) : (zs n v).length = n := List.length_replicate

/-- The pieces between the bytes c. -/
def splitOn (c : UInt8) : List UInt8 → List (List UInt8)
  | [] => [[]]
  | b :: l => if b = c then [] :: splitOn c l else match splitOn c l with
    | w :: ws => (b :: w) :: ws
    | [] => [[b]]

def tx (s : List UInt8) : List V := [.str s]

/-- strings.Split, at a separator of one byte -/
def xSplit : List V → Heap → Option (V × Heap)
  | [.str s, .str [c]], H => if s.length < 4294967281 then some (.sl 1 ((splitOn c s).map tx), H) else none
  | _, _ => none

/-- strings.Fields, at a text of ASCII -/
def xFields : List V → Heap → Option (V × Heap)
  | [.str s], H => if s.length < 4294967281 ∧ (s.all fun b => decide (b.toNat < 128)) then some (.sl 1 ((Go.Lib.fields s).map tx), H) else none
  | _, _ => none

/-- strings.Trim, at a cutset of ASCII -/
def xTrim : List V → Heap → Option (V × Heap)
  | [.str s, .str t], H => if s.length ≤ 1000000 ∧ t.length ≤ 1000000 ∧ (t.all fun b => decide (b.toNat < 128)) then some (.str (Go.Lib.trimS s t), H) else none
  | _, _ => none

/-- layout.super: four letters, and zeros -/
def superCells : List V := [.int .u8 70, .int .u8 76, .int .u8 79, .int .u8 84] ++ List.replicate 28 (.int .u8 0)
def xSuper : List V → Heap → Option (V × Heap)
  | [], H => some (.agg superCells, H)
  | _, _ => none

/-- layout.RightInode: what an inode may be. -/
def odd24 (b : Int) : Bool := decide (b < 1) || decide (24 < b)
def rinB (n : Nat) (zs : List Int) : Bool := !((zs.take n).any odd24) && !((zs.drop n).any fun b => decide (b ≠ 0)) && decide (zs.take n).Nodup
def inoOK (k s a b c d : Int) : Bool :=
  if k = 0 ∨ k = 2 then decide (s = 0 ∧ a = 0 ∧ b = 0 ∧ c = 0 ∧ d = 0)
  else if k = 1 then (if s < 0 ∨ 128 < s then false else rinB ((s + 31) / 32).toNat [a, b, c, d])
  else false
def xRightInode : List V → Heap → Option (V × Heap)
  | [.agg [.int .i64 k, .int .i64 s, .int .i64 a, .int .i64 b, .int .i64 c, .int .i64 d]], H => some (.bool (inoOK k s a b c d), H)
  | _, _ => none

/-- The texts of a list of texts. -/
def textsOf : List (List V) → Option (List (List UInt8))
  | [] => some []
  | [.str s] :: r => (textsOf r).map (s :: ·)
  | _ :: _ => none

/-- strings.Join -/
def xJoin : List V → Heap → Option (V × Heap)
  | [.sl 1 rows, .str sep], H => match textsOf rows with
    | some ws => if (Go.Lib.join ws sep).length ≤ 140737488355328 ∧ ws.length ≤ 140737488355328 then some (.str (Go.Lib.join ws sep), H) else none
    | none => none
  | [.own 1 rows, .str sep], H => match textsOf rows with
    | some ws => if (Go.Lib.join ws sep).length ≤ 140737488355328 ∧ ws.length ≤ 140737488355328 then some (.str (Go.Lib.join ws sep), H) else none
    | none => none
  | _, _ => none

theorem textsOf_map (l : List (List UInt8)) : textsOf (l.map tx) = some l := by
  induction l with
  | nil => rfl
  | cons s l ih => simp [textsOf, tx, ih]

theorem eval_X {tbl : Tbl} {ext : Ext} {f : Nat} {args : List V} {H : Heap} {e : List V → Heap → Option (V × Heap)} (h0 : Nat.blt f yBase = true) (h1 : ext f = some e) : eval tbl ext f args H = e args H := by
  rw [eval_eq, if_pos (by simpa [Nat.blt_eq] using h0)]
  unfold fnRun
  rw [h1]

end Go.AM
