/-
  The check that an abstract operation is the model's: by the program's tables alone.
-/
import Derived.Test.YtbgblfbbeamleaaGreatDoorSt
set_option linter.unusedVariables false
namespace Go.AM

def cVal1 : Value → V → Bool
  | .bool b, .bool c => b == c
  | .int k n, .int k' n' => k == k' && n == n'
  | .string s, .str l => s.data.toList == l
  | .pointer none, .nilp => true
  | .nilFunc, .nilf => true
  | .map none, .nilm => true
  | .slice none 0 0, .own _ [] => true
  | .slice none 0 0, .sl _ [] => true
  | .slice none 0 0, .nils _ => true
  | _, _ => false

def cCells : List Value → List V → Bool
  | [], [] => true
  | x :: xs, v :: vs => cVal1 x v && cCells xs vs
  | _, _ => false

def noOwns : List V → Bool
  | [] => true
  | .own .. :: _ => false
  | _ :: vs => noOwns vs

def cVal : Value → V → Bool
  | .agg xs, .agg cs => cCells xs.toList cs && noOwns cs
  | x, v => cVal1 x v

def chkX : Operand → AX → Bool
  | .tmp n, .t m => n == m
  | .const x, .c v => cVal x v
  | .func f, .c (.fn (.func g) [] []) => f == g
  | _, _ => false

def chkXs : List Operand → List AX → Bool
  | [], [] => true
  | X :: Xs, x :: xs => chkX X x && chkXs Xs xs
  | _, _ => false

def chkO : Option Operand → Option AX → Bool
  | none, none => true
  | some X, some x => chkX X x
  | _, _ => false

def sizeIs (P : Program) (t : TypeId) (k : Nat) : Bool :=
  match P.info? t with
  | some i => i.size == k
  | none => false

def bytesIs (P : Program) (t : TypeId) (k : Nat) : Bool :=
  match P.info? t with
  | some i => i.bytes == k
  | none => false

def zeroIs (P : Program) (t : TypeId) (cs : List V) : Bool :=
  match P.info? t with
  | some i => match i.zero with
    | some z => cCells z.cells.toList cs
    | none => false
  | none => false

/-- Is a type one of a single cell ('none'), or a struct or an array of so many cells? -/
def aggIs (P : Program) (t : TypeId) (agg : Option Nat) : Bool :=
  match P.underlying t, agg with
  | some (.struct _), some n | some (.array ..), some n => sizeIs P t n
  | some (.struct _), none | some (.array ..), none => false
  | some _, none => true
  | _, _ => false

def plainType (P : Program) : Nat → TypeId → Bool
  | 0, _ => false
  | n + 1, t => match P.underlying t with
    | some .bool | some (.int _) | some .string => true
    | _ => false

def isInt (P : Program) (t : TypeId) (k : IntKind) : Bool :=
  match P.underlying t with
  | some (.int k') => k == k'
  | _ => false

def isString (P : Program) (t : TypeId) : Bool :=
  match P.underlying t with
  | some .string => true
  | _ => false

def isBool (P : Program) (t : TypeId) : Bool :=
  match P.underlying t with
  | some .bool => true
  | _ => false

def isBytes (P : Program) (t : TypeId) : Bool :=
  match P.underlying t with
  | some (.slice e) => isInt P e .u8 && sizeIs P e 1
  | _ => false

def isSlice (P : Program) (t : TypeId) (k : Nat) : Bool :=
  match P.underlying t with
  | some (.slice e) => sizeIs P e k
  | _ => false

def sliceElem (P : Program) (t : TypeId) (f : TypeId → Bool) : Bool :=
  match P.underlying t with
  | some (.slice e) => f e
  | _ => false

def structField (P : Program) (t : TypeId) (i : Nat) (f : Field → Bool) : Bool :=
  match P.underlying t with
  | some (.struct fs) => match fs[i]? with
    | some x => f x
    | none => false
  | _ => false

def arrayIs (P : Program) (t : TypeId) (n k : Nat) : Bool :=
  match P.underlying t with
  | some (.array m e) => m == n && sizeIs P e k
  | _ => false

def isNilS : Operand → Bool
  | .const (.slice none _ _) => true
  | _ => false

def isSliceT (P : Program) (t : TypeId) : Bool :=
  match P.underlying t with
  | some (.slice _) => true
  | _ => false

def isNilP : Operand → Bool
  | .const (.pointer none) => true
  | _ => false

def isPtrT (P : Program) (t : TypeId) : Bool :=
  match P.underlying t with
  | some (.pointer _) => true
  | _ => false

/-- The parts of a literal: where each goes, and that what goes there has the place's size is asked when it runs. -/
def chkParts (place : Nat → Option (Nat × Nat)) : List (Nat × Operand) → List (Nat × Nat × AX) → Bool
  | [], [] => true
  | (i, X) :: ps, (off, size, x) :: qs => (match place i with | some p => p == (off, size) | none => false) && chkX X x && chkParts place ps qs
  | _, _ => false

end Go.AM
