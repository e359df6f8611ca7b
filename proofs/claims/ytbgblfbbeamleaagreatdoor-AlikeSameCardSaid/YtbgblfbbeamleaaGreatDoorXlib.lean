/-
  Functions of the library that the evaluator takes as given: what they answer.
-/
import Derived.Lib.Repeat
import Derived.Test.YtbgblfbbeamleaaGreatDoorMach
import Derived.Lib.IndexMore
import Derived.Lib.Split
import Derived.Lib.Join
import Derived.Lib.Fields
import Derived.Lib.SlTrimSet
namespace Go.AM

/-- strings.Contains -/
def xContains : List V → Heap → Option (V × Heap)
  | [.str s, .str [c]], H => some (.bool (decide (0 ≤ Go.Lib.indexByte s c)), H)
  | [.str s, .str t], H => if s.length < 4294967281 then some (.bool (Go.Lib.contains s t), H) else none
  | _, _ => none

def isLetter (c : UInt8) : Bool := 97 ≤ c && c ≤ 122
def isDigit (c : UInt8) : Bool := 48 ≤ c && c ≤ 57
def isInner (c : UInt8) : Bool := isLetter c || isDigit c || c == 95

/-- lex.run -/
def xRun (letter digit inner : Nat) : List V → Heap → Option (V × Heap)
  | [.str s, .fn (.func k) [] []], H =>
    if k = inner then some (.str (s.takeWhile isInner), H) else if k = letter then some (.str (s.takeWhile isLetter), H) else if k = digit then some (.str (s.takeWhile isDigit), H) else none
  | _, _ => none

/-- Many cells that are alike. -/
def zs (n : Nat) (v : V) : List V := List.replicate n v
theorem zs_length (n : Nat) (v : V) : (zs n v).length = n := List.length_replicate

/-- The pieces between the bytes c. -/
def splitOn (c : UInt8) : List UInt8 → List (List UInt8)
  | [] => [[]]
  | b :: l => if b = c then [] :: splitOn c l else match splitOn c l with
    | w :: ws => (b :: w) :: ws
    | [] => [[b]]

def tx (s : List UInt8) : List V := [.str s]

/-- strings.Split, at a separator of one byte -/
def xSplit : List V → Heap → Option (V × Heap)
  | [.str s, .str [c]], H => if s.length < 4294967281 then some (.sl 1 ((splitOn c s).map tx), H) else none
  | _, _ => none

/-- strings.Fields, at a text of ASCII -/
def xFields : List V → Heap → Option (V × Heap)
  | [.str s], H => if s.length < 4294967281 ∧ (s.all fun b => decide (b.toNat < 128)) then some (.sl 1 ((Go.Lib.fields s).map tx), H) else none
  | _, _ => none

/-- strings.Trim, at a cutset of ASCII -/
def xTrim : List V → Heap → Option (V × Heap)
  | [.str s, .str t], H => if s.length ≤ 1000000 ∧ t.length ≤ 1000000 ∧ (t.all fun b => decide (b.toNat < 128)) then some (.str (Go.Lib.trimS s t), H) else none
  | _, _ => none

/-- layout.super: four letters, and zeros -/
def superCells : List V := [.int .u8 70, .int .u8 76, .int .u8 79, .int .u8 84] ++ List.replicate 28 (.int .u8 0)
def xSuper : List V → Heap → Option (V × Heap)
  | [], H => some (.agg superCells, H)
  | _, _ => none

/-- Texts in quotes (view.Quote, view.Unquote). -/
def plainC (c : UInt8) : Bool := decide (32 ≤ c.toNat) && decide (c.toNat ≤ 126) && decide (c.toNat ≠ 34) && decide (c.toNat ≠ 92)
def hexd (n : Nat) : UInt8 := if n < 10 then UInt8.ofNat (48 + n) else UInt8.ofNat (87 + n)
def hexv (c : UInt8) : Option Nat := if 48 ≤ c.toNat ∧ c.toNat ≤ 57 then some (c.toNat - 48) else if 97 ≤ c.toNat ∧ c.toNat ≤ 102 then some (c.toNat - 87) else none
def signC (c : UInt8) : List UInt8 := if plainC c then [c] else [92, hexd (c.toNat / 16), hexd (c.toNat % 16)]
def quo (s : List UInt8) : List UInt8 := 34 :: (s.flatMap signC ++ [34])
/-- A byte of two digits. -/
def pairC (a b : UInt8) : Option UInt8 := match hexv a, hexv b with
  | some x, some y => if plainC (UInt8.ofNat (16 * x + y)) then none else some (UInt8.ofNat (16 * x + y))
  | _, _ => none
def unqL : List UInt8 → Option (List UInt8)
  | [] => some []
  | c :: l => if c = 92 then (match l with
      | a :: b :: l => (match pairC a b with
        | some d => (unqL l).map (d :: ·)
        | none => none)
      | _ => none)
    else if plainC c then (unqL l).map (c :: ·) else none
def unq : List UInt8 → Option (List UInt8)
  | 34 :: r => if r.getLast? = some 34 then unqL r.dropLast else none
  | _ => none
def xUnquote : List V → Heap → Option (V × Heap)
  | [.str s], H => if s.length ≤ 1000000 then some (.tup [.str ((unq s).getD []), .bool (unq s).isSome], H) else none
  | _, _ => none
def xQuote : List V → Heap → Option (V × Heap)
  | [.str s], H => if s.length ≤ 1000000 then some (.str (quo s), H) else none
  | _, _ => none

/-- A text so many times. -/
def xRepeat : List V → Heap → Option (V × Heap)
  | [.str s, .int .i64 n], H => if 0 ≤ n ∧ n ≤ 1000000 ∧ s.length ≤ 1000 then some (.str (Go.Lib.repeatL s n.toNat), H) else none
  | _, _ => none

/-- Builders of texts: a byte, a text is written; the text. -/
def xWriteByte (T T2 e : Nat) : List V → Heap → Option (V × Heap)
  | [.bptr i, .int .u8 n], H => match H[i]? with
    | some (some [.bld T' e' bs]) => if (T' = T ∨ T' = T2) ∧ e' = e ∧ 0 ≤ n ∧ n < 256 ∧ bs.length < 100000000 then some (.undef, H.set i (some [.bld T' e (bs ++ [UInt8.ofNat n.toNat])])) else none
    | _ => none
  | _, _ => none
def xWriteString (T T2 e : Nat) : List V → Heap → Option (V × Heap)
  | [.bptr i, .str s], H => match H[i]? with
    | some (some [.bld T' e' bs]) => if (T' = T ∨ T' = T2) ∧ e' = e ∧ bs.length < 100000000 ∧ s.length < 100000000 then some (.tup [.int .i64 s.length, .undef], H.set i (some [.bld T' e (bs ++ s)])) else none
    | _ => none
  | _, _ => none
def xString (T T2 e : Nat) : List V → Heap → Option (V × Heap)
  | [.bptr i], H => match H[i]? with
    | some (some [.bld T' e' bs]) => if (T' = T ∨ T' = T2) ∧ e' = e then some (.str bs, H.set i none) else none
    | _ => none
  | _, _ => none

/-- strings.TrimLeft, at a cutset of ASCII; strings.IndexByte -/
def xTrimLeft : List V → Heap → Option (V × Heap)
  | [.str s, .str t], H => if s.length ≤ 1000000 ∧ t.length ≤ 1000000 ∧ (t.all fun b => decide (b.toNat < 128)) then some (.str (Go.Lib.trimLeftS s t), H) else none
  | _, _ => none
def xIndexByte : List V → Heap → Option (V × Heap)
  | [.str s, .int .u8 n], H => if 0 ≤ n ∧ n < 256 then some (.int .i64 (Go.Lib.indexByte s (UInt8.ofNat n.toNat)), H) else none
  | _, _ => none

/-- slices.Clone, bytes.Clone, of bytes. -/
def xClone : List V → Heap → Option (V × Heap)
  | [.sl 1 rows], H => match rowsBytes rows with
    | some s => if s.length ≤ 1000000000 then some (.own 1 rows, H) else none
    | none => none
  | _, _ => none

/-- A function whose first look is whether its list is nil: of an empty list it answers an empty one, either way. -/
def xOne (tbl : Tbl) (f k : Nat) (args : List V) (H : Heap) : Option (V × Heap) := match args with
  | [.sl k' []] => if k' = k then some (.sl k [], H) else none
  | _ => run tbl (fun _ => none) 3 f args H

/-- layout.RightInode: what an inode may be. -/
def odd24 (b : Int) : Bool := decide (b < 1) || decide (24 < b)
def rinB (n : Nat) (zs : List Int) : Bool := !((zs.take n).any odd24) && !((zs.drop n).any fun b => decide (b ≠ 0)) && decide (zs.take n).Nodup
def inoOK (k s a b c d : Int) : Bool :=
  if k = 0 ∨ k = 2 then decide (s = 0 ∧ a = 0 ∧ b = 0 ∧ c = 0 ∧ d = 0)
  else if k = 1 then (if s < 0 ∨ 128 < s then false else rinB ((s + 31) / 32).toNat [a, b, c, d])
  else false
def xRightInode : List V → Heap → Option (V × Heap)
  | [.agg [.int .i64 k, .int .i64 s, .int .i64 a, .int .i64 b, .int .i64 c, .int .i64 d]], H => some (.bool (inoOK k s a b c d), H)
  | _, _ => none

/-- The texts of a list of texts. -/
def textsOf : List (List V) → Option (List (List UInt8))
  | [] => some []
  | [.str s] :: r => (textsOf r).map (s :: ·)
  | _ :: _ => none

/-- strings.Join -/
def xJoin : List V → Heap → Option (V × Heap)
  | [.sl 1 rows, .str sep], H => match textsOf rows with
    | some ws => if (Go.Lib.join ws sep).length ≤ 140737488355328 ∧ ws.length ≤ 140737488355328 then some (.str (Go.Lib.join ws sep), H) else none
    | none => none
  | [.own 1 rows, .str sep], H => match textsOf rows with
    | some ws => if (Go.Lib.join ws sep).length ≤ 140737488355328 ∧ ws.length ≤ 140737488355328 then some (.str (Go.Lib.join ws sep), H) else none
    | none => none
  | _, _ => none

theorem textsOf_map (l : List (List UInt8)) : textsOf (l.map tx) = some l := by
  induction l with
  | nil => rfl
  | cons s l ih => simp [textsOf, tx, ih]

theorem eval_X {tbl : Tbl} {ext : Ext} {f : Nat} {args : List V} {H : Heap} {e : List V → Heap → Option (V × Heap)} (h0 : Nat.blt f yBase = true) (h1 : ext f = some e) : eval tbl ext f args H = e args H := by
  rw [eval_eq, runF, if_pos (by simpa [Nat.blt_eq] using h0)]
  unfold fnRun
  rw [h1]

end Go.AM
