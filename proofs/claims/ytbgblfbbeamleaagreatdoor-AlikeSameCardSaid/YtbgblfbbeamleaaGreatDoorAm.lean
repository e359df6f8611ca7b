/-
  The abstract machine: a deterministic interpreter over plain data, for code that the loaded program holds.
  Definitions alone; that it tells the truth of the model is proved in the texts behind this one.
-/
import Derived.Calls
namespace Go.AM

/-- Cells that '==' looks at. -/
inductive CK where
  | bool
  | int (k : IntKind)
  | str
  deriving DecidableEq, Inhabited

/-- Values: 'sl': a list that nobody writes any more; 'own': a list whose end belongs to this place; 'ms': a part of a block that can be written; 'rp': a place in a row that nobody writes; 'no': what a passed-over operation leaves; 'undef': anything; 'yld': the yield of a loop over a function; 'mix': a list whose last n rows lie in block i and can be written still; 'lrec': such a loop's record (0 ready, 1 busy, 2 done; the jump that is pending; the body's label; the slots of a round's parameters; the frame); 'bld': a builder of texts, of type T, over bytes of type e, alone in its block; 'bptr': its address; 'mg': a part of a block, of rows of k cells, that can be written and can grow. -/
inductive V where
  | bool (b : Bool)
  | int (k : IntKind) (n : Int)
  | str (s : List UInt8)
  | nilp
  | nilf
  | undef
  | no
  | ptr (i off : Nat)
  | rp (row : List V) (off : Nat)
  | sl (k : Nat) (rows : List (List V))
  | own (k : Nat) (rows : List (List V))
  | ms (i off len cap : Nat)
  | agg (cs : List V)
  | tup (vs : List V)
  | fn (f : Fn) (first cap : List V)
  | yld (i : Nat)
  | mix (k : Nat) (rows : List (List V)) (i n : Nat)
  | lrec (st pend lbl : Nat) (ps ks : List Nat) (vs : List V)
  | bld (T e : Nat) (bs : List UInt8)
  | bptr (i : Nat)
  | mp (ag : Bool) (kinds : List CK) (ks : List (List V)) (vs : List V)
  | mptr (i : Nat)
  | nilm
  | nils (k : Nat)
  | mg (k i off len cap : Nat)
  deriving Inhabited

abbrev Heap := List (Option (List V))
abbrev Fr := List (Nat × V)

def Fr.get : Fr → Nat → V
  | [], _ => .undef
  | (k, v) :: φ, i => if i = k then v else Fr.get φ i

def Fr.put (φ : Fr) : Option Nat → V → Fr
  | some d, v => (d, v) :: φ
  | none, _ => φ

def Fr.mask (φ : Fr) (ks : List Nat) : Fr := ks.map fun k => (k, Fr.get φ k)

mutual
/-- Are two values the same? -/
def V.eqb : V → V → Bool
  | .bool a, y => match y with | .bool b => decide (a = b) | _ => false
  | .int k a, y => match y with | .int l b => decide (k = l) && decide (a = b) | _ => false
  | .str a, y => match y with | .str b => decide (a = b) | _ => false
  | .nilp, y => match y with | .nilp => true | _ => false
  | .nilf, y => match y with | .nilf => true | _ => false
  | .undef, y => match y with | .undef => true | _ => false
  | .no, y => match y with | .no => true | _ => false
  | .ptr i o, y => match y with | .ptr j p => decide (i = j) && decide (o = p) | _ => false
  | .rp r o, y => match y with | .rp s p => V.eqbL r s && decide (o = p) | _ => false
  | .sl k r, y => match y with | .sl l s => decide (k = l) && V.eqbR r s | _ => false
  | .own k r, y => match y with | .own l s => decide (k = l) && V.eqbR r s | _ => false
  | .ms i o l c, y => match y with | .ms j p m d => decide (i = j) && decide (o = p) && decide (l = m) && decide (c = d) | _ => false
  | .agg r, y => match y with | .agg s => V.eqbL r s | _ => false
  | .tup r, y => match y with | .tup s => V.eqbL r s | _ => false
  | .fn f r q, y => match y with | .fn g s t => decide (f = g) && V.eqbL r s && V.eqbL q t | _ => false
  | .yld i, y => match y with | .yld j => decide (i = j) | _ => false
  | .mix k r i n, y => match y with | .mix l s j m => decide (k = l) && V.eqbR r s && decide (i = j) && decide (n = m) | _ => false
  | .lrec a b c d e f, y => match y with | .lrec g h i j k l => decide (a = g) && decide (b = h) && decide (c = i) && decide (d = j) && decide (e = k) && V.eqbL f l | _ => false
  | .bld a b c, y => match y with | .bld d e f => decide (a = d) && decide (b = e) && decide (c = f) | _ => false
  | .bptr i, y => match y with | .bptr j => decide (i = j) | _ => false
  | .mp a b c d, y => match y with | .mp e f g h => decide (a = e) && decide (b = f) && V.eqbR c g && V.eqbL d h | _ => false
  | .mptr i, y => match y with | .mptr j => decide (i = j) | _ => false
  | .nilm, y => match y with | .nilm => true | _ => false
  | .nils k, y => match y with | .nils l => decide (k = l) | _ => false
  | .mg k i o l c, y => match y with | .mg h j p m d => decide (k = h) && decide (i = j) && decide (o = p) && decide (l = m) && decide (c = d) | _ => false
def V.eqbL : List V → List V → Bool
  | [], y => match y with | [] => true | _ => false
  | a :: r, y => match y with | b :: s => V.eqb a b && V.eqbL r s | _ => false
def V.eqbR : List (List V) → List (List V) → Bool
  | [], y => match y with | [] => true | _ => false
  | a :: r, y => match y with | b :: s => V.eqbL a b && V.eqbR r s | _ => false
end

def heapEqb : Heap → Heap → Bool
  | [], [] => true
  | none :: a, none :: b => heapEqb a b
  | some x :: a, some y :: b => V.eqbL x y && heapEqb a b
  | _, _ => false

inductive AX where
  | t (n : Nat)
  | c (v : V)
  deriving Inhabited

def ev (φ : Fr) : AX → V
  | .t n => Fr.get φ n
  | .c v => v

def V.strip : V → V
  | .own k r => .sl k r
  | .nils k => .sl k []
  | v => v

/-- What is read of an operand without taking it. -/
def rd (φ : Fr) (x : AX) : V := (ev φ x).strip

/-- An operand is used up: the end of an own list goes with it. -/
def takeX (φ : Fr) : AX → V × Fr
  | .t s => match Fr.get φ s with
    | .own k r => (.own k r, (s, .sl k r) :: φ)
    | .nils k => (.nils k, (s, .sl k []) :: φ)
    | v => (v, φ)
  | .c v => (v, φ)

def takeAll (φ : Fr) : List AX → List V × Fr
  | [] => ([], φ)
  | x :: xs =>
    let (v, φ) := takeX φ x
    let (vs, φ) := takeAll φ xs
    (v :: vs, φ)

def V.cells : V → List V
  | .agg cs => cs
  | v => [v]

mutual
/-- Every reference goes to a block below m. -/
def V.under (m : Nat) : V → Bool
  | .ptr i _ => decide (i < m)
  | .ms i _ _ _ => decide (i < m)
  | .agg cs => V.underAll m cs
  | .tup cs => V.underAll m cs
  | .fn _ a b => V.underAll m a && V.underAll m b
  | .yld i => decide (i < m)
  | .bptr i => decide (i < m)
  | .mptr i => decide (i < m)
  | .mix _ _ i _ => decide (i < m)
  | .mg _ i _ _ _ => decide (i < m)
  | _ => true
def V.underAll (m : Nat) : List V → Bool
  | [] => true
  | v :: vs => V.under m v && V.underAll m vs
end

/-- May stand in a row that nobody writes. -/
def V.plain : V → Bool
  | .bool _ | .int .. | .str _ | .nilp | .nilf | .nilm | .nils _ | .sl .. => true
  | .fn _ [] [] => true
  | _ => false

def V.isUndef : V → Bool
  | .undef => true
  | _ => false

/-- Fills just one cell. -/
def V.one : V → Bool
  | .undef | .no | .agg _ | .tup _ => false
  | _ => true

inductive AOp where
  | tk (x : AX)
  | mv (x : AX)
  | cs (x : AX)
  | frz (k : Nat) (x : AX)
  | pick (c a b : AX)
  | ia (op : BinOp) (k : IntKind) (x y : AX)
  | ic (op : BinOp) (x y : AX)
  | sop (op : BinOp) (x y : AX)
  | eqb (neg : Bool) (x y : AX)
  | eqa (neg : Bool) (ks : List CK) (x y : AX)
  | notb (x : AX)
  | neg (k : IntKind) (x : AX)
  | cpl (k : IntKind) (x : AX)
  | conv (k : IntKind) (x : AX)
  | b2s (x : AX)
  | s2b (x : AX)
  | i2s (x : AX)
  | box (x : AX)
  | alloc (zero : List V)
  | bld (zero : List V) (parts : List (Nat × Nat × AX))
  | bsl (k : Nat) (zero : List V) (n : Nat) (parts : List (Nat × Nat × AX)) (m : Bool)
  | mk (k : Nat) (zero : List V) (bytes : Nat) (l c : AX)
  | ld (agg : Option Nat) (p : AX)
  | ldo (p : AX)
  | st (size : Nat) (p x : AX)
  | nck (x : AX)
  | fa (off : Nat) (p : AX)
  | ixa (k : Nat) (n : Option Nat) (x i : AX)
  | fld (agg : Option Nat) (off : Nat) (x : AX)
  | ixs (x i : AX)
  | ixv (agg : Option Nat) (k n : Nat) (x i : AX)
  | slc (x : AX) (lo hi : Option AX)
  | sls (k : Nat) (x : AX) (lo hi mx : Option AX)
  | slp (k n : Nat) (x : AX) (lo hi mx : Option AX)
  | ext (x : AX) (i : Nat)
  | len (str : Bool) (x : AX)
  | lena (n : Nat)
  | app (k bytes : Nat) (s x : AX) (m : Bool)
  | cpy (k : Nat) (d s : AX)
  | clr (k : Nat) (zero : List V) (d : AX)
  | mx (isMax : Bool) (xs : List AX)
  | call (f : Nat) (args : List AX)
  | callv (fv : AX) (args : List AX)
  | callc (f : Nat) (args : List AX)
  | callvc (fv : AX) (args : List AX)
  | apz (k bytes : Nat) (s x : AX)
  | tkf (x : AX)
  | stf (p x : AX)
  | mkf (f : Fn) (first captured : List AX)
  | mkz (k : Nat) (zero : List V) (bytes : Nat) (l c : AX)
  | callx (f : Nat) (args : List AX)
  | ldq (agg : Option Nat) (p r : AX)
  | stq (size : Nat) (p x : AX) (rs : List AX)
  | isn (neg : Bool) (x : AX)
  | isp (neg : Bool) (x : AX)
  | allocb (T e : Nat)
  | mkm (ag : Bool) (kinds : List CK)
  | mlk (ok : Bool) (zero : V) (ag : Bool) (kinds : List CK) (x k : AX)
  | mst (ag : Bool) (kinds : List CK) (x k v : AX)
  | ldoq (p r : AX)
  | callh (f : Nat) (args : List AX) (r : AX)
  | callvh (fv : AX) (args : List AX) (r : AX)
  /-- A store whose references may lead to younger blocks. -/
  | stw (size : Nat) (p x : AX)
  /-- An append to a list whose rows can be written. -/
  | apm (k bytes : Nat) (s x : AX)
  /-- A load of what nobody writes from now on. -/
  | ldf (agg : Option Nat) (p : AX)
  /-- Likewise a value. -/
  | tkz (x : AX)
  /-- Calls of functions that may leave references to younger blocks. -/
  | callk (f : Nat) (args : List AX)
  | callck (f : Nat) (args : List AX)
  | callvk (fv : AX) (args : List AX)
  /-- A call that only looks. -/
  | callb (f : Nat) (args : List AX)
  /-- A load of a list whose rows can be written. -/
  | ldm (p : AX)
  /-- A map's entry, laid if it is not there; and a store into it. -/
  | mne (ag : Bool) (kinds : List CK) (zero : V) (x k : AX)
  | mes (x st v : AX)
  /-- A call that leaves the memory as it was. -/
  | callr (f : Nat) (args : List AX)
  deriving Inhabited

structure AOper where
  d : Option Nat
  g : Option (Nat × Bool)
  op : AOp
  deriving Inhabited

inductive AC where
  | skip
  | reg (ops : List AOper)
  | drw (cert : List (List Nat)) (ops : List AOper)
  | seq (a b : AC)
  | cond (x : AX) (a b : AC)
  | block (id : Nat) (b : AC)
  | loop (keep : List Nat) (b : AC)
  | rfn (g : AX) (keep : List Nat) (lbl : Nat) (ps : List Nat) (a b : AC)
  | exit (id : Nat)
  | ret
  /-- At a function's top alone: what comes ahead of 'if c { ops; defer g(ks) }'; the condition; what the condition's way does; the deferred call; the rest. -/
  | dfr (pre : AC) (c : AX) (ops : AC) (g : Nat) (ks : List Nat) (rest : AC)
  deriving Inhabited

inductive AExit where
  | normal
  | exit (id : Nat)
  | ret
  deriving Inhabited, DecidableEq

inductive ARes where
  | t (n : Nat)
  | cell (n : Nat) (agg : Option Nat)
  deriving Inhabited

structure AFunc where
  np : Nat
  body : AC
  res : List ARes
  deriving Inhabited

/-! ### What the operations do -/

def ofNat? (n : Int) (m : Nat) : Option Nat := if 0 ≤ n ∧ n ≤ (m : Int) then some n.toNat else none

def arith (op : BinOp) (k : IntKind) (x y : Int) : Option V :=
  match op with
  | .add => some (.int k (k.wrap (x + y)))
  | .sub => some (.int k (k.wrap (x - y)))
  | .mul => some (.int k (k.wrap (x * y)))
  | .quo => if y = 0 then none else some (.int k (k.wrap (x.tdiv y)))
  | .rem => if y = 0 then none else some (.int k (x.tmod y))
  | .and => some (.int k (k.wrap (BitVec.ofInt k.bits x &&& BitVec.ofInt k.bits y).toNat))
  | .or => some (.int k (k.wrap (BitVec.ofInt k.bits x ||| BitVec.ofInt k.bits y).toNat))
  | .xor => some (.int k (k.wrap (BitVec.ofInt k.bits x ^^^ BitVec.ofInt k.bits y).toNat))
  | .andNot => some (.int k (k.wrap (BitVec.ofInt k.bits x &&& ~~~ BitVec.ofInt k.bits y).toNat))
  | .shl => if y < 0 then none else some (.int k (k.wrap (x * 2 ^ (min y.toNat k.bits))))
  | .shr => if y < 0 then none else some (.int k (x.fdiv (2 ^ (min y.toNat k.bits))))
  | _ => none

def compare (op : BinOp) (x y : Int) : Option V :=
  match op with
  | .eql => some (.bool (decide (x = y)))
  | .neq => some (.bool (decide (x ≠ y)))
  | .lss => some (.bool (decide (x < y)))
  | .leq => some (.bool (decide (x ≤ y)))
  | .gtr => some (.bool (decide (y < x)))
  | .geq => some (.bool (decide (y ≤ x)))
  | _ => none

def strOp (op : BinOp) (x y : List UInt8) : Option V :=
  match op with
  | .add => if x.length + y.length < 2 ^ 62 then some (.str (x ++ y)) else none
  | .eql => some (.bool (decide (x = y)))
  | .neq => some (.bool (decide (x ≠ y)))
  | .lss => some (.bool (Op.bytesLess x y))
  | .leq => some (.bool (Op.bytesLess x y || decide (x = y)))
  | .gtr => some (.bool (!(Op.bytesLess x y || decide (x = y))))
  | .geq => some (.bool (!Op.bytesLess x y))
  | _ => none

/-- '==' of two structs or arrays of plain parts, cell by cell. -/
def eqCells : List CK → List V → List V → Option Bool
  | [], [], [] => some true
  | .bool :: ks, .bool a :: xs, .bool b :: ys => (eqCells ks xs ys).map (decide (a = b) && ·)
  | .int k :: ks, .int k1 a :: xs, .int k2 b :: ys => if k1 = k ∧ k2 = k then (eqCells ks xs ys).map (decide (a = b) && ·) else none
  | .str :: ks, .str a :: xs, .str b :: ys => (eqCells ks xs ys).map (decide (a = b) && ·)
  | _, _, _ => none

/-- A key's cells. -/
def keyOf : Bool → V → List V
  | true, .agg cs => cs
  | true, _ => [.undef]
  | false, v => [v]

/-- Is it a key, of these kinds? -/
def keyWell (kinds : List CK) (k : List V) : Bool := (eqCells kinds k k).isSome

def keyAt (kinds : List CK) (k : List V) (ks : List (List V)) : Option Nat := ks.findIdx? fun k' => decide (eqCells kinds k k' = some true)

/-- What a map has at a key. -/
def lookOf (ok : Bool) (zero : V) (kinds : List CK) (k : List V) (ks : List (List V)) (vs : List V) : Option V := match keyAt kinds k ks with
  | some j => (vs[j]?).map fun v => if ok then .tup [v, .bool true] else v
  | none => some (if ok then .tup [zero, .bool false] else zero)

def mapSt (kinds : List CK) (k : List V) (v : V) (ks : List (List V)) (vs : List V) : List (List V) × List V := match keyAt kinds k ks with
  | some j => (ks, vs.set j v)
  | none => (ks ++ [k], vs ++ [v])

def setMany (cs : List V) (off : Nat) : List V → List V
  | [] => cs
  | v :: vs => setMany (cs.set off v) (off + 1) vs

def bytesRows (s : List UInt8) : List (List V) := s.map fun b => [.int .u8 b.toNat]

def rowsBytes : List (List V) → Option (List UInt8)
  | [] => some []
  | [.int .u8 n] :: r => if 0 ≤ n ∧ n < 256 then (rowsBytes r).map (UInt8.ofNat n.toNat :: ·) else none
  | _ => none

def chunk (k : Nat) (cs : List V) (off : Nat) : Nat → List (List V)
  | 0 => []
  | n + 1 => (cs.drop off).take k :: chunk k cs (off + k) n

/-- The rows that a slice value shows. -/
def rowsOf (H : Heap) (k : Nat) : V → Option (List (List V))
  | .sl k' r => if k' = k then some r else none
  | .own k' r => if k' = k then some r else none
  | .str s => if k = 1 then some (bytesRows s) else none
  | .ms i off len _ => match H[i]? with
    | some (some cs) => if off + len * k ≤ cs.length then some (chunk k (cs.map V.strip) off len) else none
    | _ => none
  | .mg k' i off len _ => match H[i]? with
    | some (some cs) => if k' = k ∧ off + len * k ≤ cs.length then some (chunk k (cs.map V.strip) off len) else none
    | _ => none
  | _ => none

def overlay (cells : List V) : List (Nat × List V) → List V
  | [] => cells
  | (off, vs) :: rest => overlay (setMany cells off vs) rest

/-- A part of a literal: a nil list stays one. -/
def rdp (φ : Fr) : AX → V
  | .c (.nils k) => .nils k
  | x => rd φ x

/-- The parts of a literal: of each its place, and its cells, which must be as many as the place has. -/
def partsOf (φ : Fr) : List (Nat × Nat × AX) → Option (List (Nat × List V))
  | [] => some []
  | (off, size, x) :: ps => match partsOf φ ps with
    | some qs => if (rdp φ x).cells.length = size ∧ (rdp φ x).isUndef = false then some ((off, (rdp φ x).cells) :: qs) else none
    | none => none

def fits (n : Nat) : List (Nat × List V) → Bool
  | [] => true
  | (off, vs) :: ps => decide (off + vs.length ≤ n) && fits n ps

def bound (φ : Fr) (x : AX) (m : Nat) : Option Nat :=
  match rd φ x with
  | .int _ n => ofNat? n m
  | _ => none

def optBound (φ : Fr) (x : Option AX) (dflt m : Nat) : Option Nat :=
  match x with
  | some x => bound φ x m
  | none => some dflt

def index (φ : Fr) (i : AX) (n : Nat) : Option Nat :=
  match rd φ i with
  | .int _ j => if 0 ≤ j ∧ j < (n : Int) then some j.toNat else none
  | _ => none

def allStrip (cs : List V) : List V := cs.map V.strip

def loadFrom (agg : Option Nat) (cs : List V) (off : Nat) : Option V :=
  match agg with
  | none => (cs[off]?).map V.strip
  | some n => if off + n ≤ cs.length then some (.agg (allStrip ((cs.drop off).take n))) else none

def load (H : Heap) (agg : Option Nat) : V → Option V
  | .ptr i off => match H[i]? with
    | some (some cs) => loadFrom agg cs off
    | _ => none
  | .rp row off => loadFrom agg row off
  | _ => none

def trunc (n : Nat) (r : V) (H : Heap) : V × Heap := if r.under n then (r, H.take n) else (r, H)

/-- A call's number: below this a function; from here on, at even places, the yield of a loop's record, and at odd ones the wide form of a function. -/
def yBase : Nat := 1000000
def yNo (i : Nat) : Nat := yBase + 2 * i
def wNo (f : Nat) : Nat := yBase + 2 * f + 1
/-- Where the table has the wide form of a function. -/
def wTab (f : Nat) : Nat := 3000000 + f

abbrev CallF := Nat → List V → Heap → Option (V × Heap)

def fnParts0 : V → Option (Nat × List V × List V)
  | .fn (.func f) first cap => if f < yBase then some (f, first, cap) else none
  | _ => none

def fnParts : V → Option (Nat × List V × List V)
  | .yld i => some (yNo i, [], [])
  | v => fnParts0 v

/-- A call that is given no reference runs over no memory of ours, and leaves none. -/
def callCalm (call : CallF) (f : Nat) (vs : List V) : Option V :=
  if V.underAll 0 vs then
    match call f vs [] with
    | some (r, _) => if r.under 0 then some r else none
    | none => none
  else none

/-- A call over memory of its own: what stands is hidden from it. -/
def callOwn (call : CallF) (f : Nat) (vs : List V) (n : Nat) : Option (V × List (Option (List V))) := (call f vs (List.replicate n none)).map fun r => (r.1, r.2.drop n)

/-- Where a reference leads, or a list that lies in memory. -/
def V.ref : V → V
  | .ms j o _ _ => .ptr j o
  | .mg _ j o _ _ => .ptr j o
  | v => v

/-- Does a reference lead to another block? -/
def V.apart (i : Nat) : V → Bool
  | .ptr j _ => decide (j ≠ i)
  | _ => false

/-- A map's content. -/
def mapOf (H : Heap) (ag : Bool) (kinds : List CK) : V → Option (List (List V) × List V)
  | .nilm => some ([], [])
  | .mptr i => match H[i]? with
    | some (some [.mp ag' kinds' ks vs]) => if ag' = ag ∧ kinds' = kinds then some (ks, vs) else none
    | _ => none
  | _ => none

/-- A store into a map. -/
def mapPut (H : Heap) (ag : Bool) (kinds : List CK) (x : V) (k : List V) (v : V) : Option Heap := match x, mapOf H ag kinds x with
  | .mptr i, some m => if keyWell kinds k ∧ V.under i v = true then some (H.set i (some [.mp ag kinds (mapSt kinds k v m.1 m.2).1 (mapSt kinds k v m.1 m.2).2])) else none
  | _, _ => none

/-- A map's entry: its value and its number; one is laid, if there is none. -/
def mapNew (H : Heap) (ag : Bool) (kinds : List CK) (zero : V) (x : V) (k : List V) : Option (V × Heap) := match x, mapOf H ag kinds x with
  | .mptr i, some m => if keyWell kinds k ∧ V.under i zero = true then
      match keyAt kinds k m.1 with
      | some j => (m.2[j]?).map fun v => (.tup [v, .int .i64 j], H)
      | none => some (.tup [zero, .int .i64 m.1.length], H.set i (some [.mp ag kinds (m.1 ++ [k]) (m.2 ++ [zero])]))
    else none
  | _, _ => none

/-- A store into a map's entry. -/
def mapAt (H : Heap) (x st v : V) : Option Heap := match x, st with
  | .mptr i, .int _ j => match H[i]? with
    | some (some [.mp ag kinds ks vs]) => if 0 ≤ j ∧ j < vs.length ∧ V.under i v = true then some (H.set i (some [.mp ag kinds ks (vs.set j.toNat v)])) else none
    | _ => none
  | _, _ => none

/-- A call after which the memory is as it was. -/
def callSame (call : CallF) (f : Nat) (vs : List V) (H : Heap) : Option V := match call f vs H with
  | some (r, K) => if heapEqb K H then some r else none
  | none => none

/-- A store. -/
def storeOf (φ : Fr) (H : Heap) (size : Nat) (p x : AX) : Option (V × Fr × Heap) := match rd φ p with
  | .ptr i off =>
    let (v, φ) := takeX φ x
    match H[i]? with
    | some (some cs) =>
      if v.cells.length = size ∧ off + size ≤ cs.length ∧ V.underAll (i + 1) v.cells ∧ v.cells.all V.one then some (.undef, φ, H.set i (some (setMany cs off v.cells))) else none
    | _ => none
  | _ => none

/-- The rows that could be written still are given up: the list is all of one kind again. -/
def frzMix (H : Heap) : V → Option (V × Heap)
  | .mix k rows b n => match H[b]? with
    | some (some cs) => if n * k ≤ cs.length ∧ (cs.all V.plain) then some (.own k (rows ++ chunk k (allStrip cs) 0 n), H.set b none) else none
    | _ => none
  | _ => none

/-- A value that nobody writes from now on: the blocks of its lists are given up. -/
def frzL (f : Heap → V → Option (V × Heap)) : Heap → List V → Option (List V × Heap)
  | H, [] => some ([], H)
  | H, v :: vs => match f H v with
    | some (u, H) => match frzL f H vs with
      | some (us, H) => some (u :: us, H)
      | none => none
    | none => none

def frzV : Nat → Heap → V → Option (V × Heap)
  | 0, _, _ => none
  | n + 1, H, .mg k i off len _ => match H[i]? with
    | some (some cs) => if off + len * k ≤ cs.length then match frzL (frzV n) (H.set i none) ((cs.drop off).take (len * k)) with
        | some (us, H) => some (.sl k (chunk k us 0 len), H)
        | none => none
      else none
    | _ => none
  | _ + 1, H, .own k r => some (.sl k r, H)
  | _ + 1, H, .nils k => some (.sl k [], H)
  | _ + 1, H, v => if v.plain then some (v, H) else none

/-- So deep do values go at most. -/
def deepest : Nat := 100000

/-- What is frozen of a value: its cells. -/
def frzA (H : Heap) : V → Option (V × Heap)
  | .agg cs => (frzL (frzV deepest) H cs).map fun r => (.agg r.1, r.2)
  | v => frzV deepest H v

/-- An append to a list whose rows can be written: in its place, where it is known to be wide enough; else the rows move. -/
def appM (H : Heap) (k bytes : Nat) (s : V) (n : Nat) (us : List V) : Option (V × Heap) := match s with
  | .mg k' i off len cap => if k' = k ∧ 0 < k ∧ us.all V.one ∧ 0 < bytes then
      match H[i]? with
      | some (some cs) =>
        if len + n ≤ cap ∧ off + cap * k ≤ cs.length then some (.mg k i off (len + n) cap, H.set i (some (setMany cs (off + len * k) us)))
        else if off + len * k ≤ cs.length ∧ 0 < n ∧ 2 * (len + n) * bytes ≤ 2 ^ 48 then some (.mg k H.length 0 (len + n) (len + n), H.set i none ++ [some ((cs.drop off).take (len * k) ++ us)])
        else none
      | _ => none
    else none
  | .nils k' => if k' = k ∧ 0 < k ∧ us.all V.one ∧ 0 < bytes ∧ 0 < n ∧ 2 * n * bytes ≤ 2 ^ 48 then some (.mg k H.length 0 n n, H ++ [some us]) else none
  | .ms i off len cap => match H[i]? with
    | some (some cs) => if us.all V.one ∧ len + n ≤ cap ∧ off + (len + n) * k ≤ cs.length then some (.ms i off (len + n) cap, H.set i (some (setMany cs (off + len * k) us))) else none
    | _ => none
  | _ => none

/-- One cell, of a number, a text or a truth. -/
def V.scalar : V → Bool
  | .bool _ | .int .. | .str _ => true
  | _ => false

def stepA (call : CallF) (φ : Fr) (H : Heap) : AOp → Option (V × Fr × Heap)
  | .tk x => let (v, φ) := takeX φ x; some (v, φ, H)
  | .mv x => some (rd φ x, φ, H)
  | .cs x => match rd φ x with
    | .str s => some (.str s, φ, H)
    | _ => none
  | .frz k x => match rd φ x with
    | .ms i off len _ => match H[i]? with
      | some (some cs) => if off + len * k ≤ cs.length ∧ (cs.all V.plain) then some (.sl k (chunk k (allStrip cs) off len), φ, H.set i none) else none
      | _ => none
    | .sl k' rows => some (.sl k' rows, φ, H)
    | _ => none
  | .pick c a b => match rd φ c with
    | .bool x => some (if x then rd φ a else rd φ b, φ, H)
    | _ => none
  | .ia op k x y => match rd φ x, rd φ y with
    | .int k1 a, .int k2 b => if k1 = k ∧ (k2 = k ∨ op = .shl ∨ op = .shr) then (arith op k a b).map (·, φ, H) else none
    | _, _ => none
  | .ic op x y => match rd φ x, rd φ y with
    | .int k1 a, .int k2 b => if k1 = k2 then (compare op a b).map (·, φ, H) else none
    | _, _ => none
  | .sop op x y => match rd φ x, rd φ y with
    | .str a, .str b => (strOp op a b).map (·, φ, H)
    | _, _ => none
  | .eqb neg x y => match rd φ x, rd φ y with
    | .bool a, .bool b => some (.bool (if neg then decide (a ≠ b) else decide (a = b)), φ, H)
    | _, _ => none
  | .isn neg x => match rd φ x with
    | .sl _ rows => if rows.length = 0 then none else some (.bool neg, φ, H)
    | .ms _ _ _ cap => if cap = 0 then none else some (.bool neg, φ, H)
    | _ => none
  | .isp neg x => match rd φ x with
    | .nilp => some (.bool (!neg), φ, H)
    | .ptr _ _ => some (.bool neg, φ, H)
    | _ => none
  | .eqa neg ks x y => match rd φ x, rd φ y with
    | .agg a, .agg b => (eqCells ks a b).map fun e => (.bool (if neg then !e else e), φ, H)
    | _, _ => none
  | .notb x => match rd φ x with
    | .bool a => some (.bool (!a), φ, H)
    | _ => none
  | .neg k x => match rd φ x with
    | .int k1 a => if k1 = k then some (.int k (k.wrap (0 - a)), φ, H) else none
    | _ => none
  | .cpl k x => match rd φ x with
    | .int k1 a => if k1 = k then (arith .xor k (if k.signed then -1 else k.max) a).map (·, φ, H) else none
    | _ => none
  | .conv k x => match rd φ x with
    | .int _ a => some (.int k (k.wrap a), φ, H)
    | _ => none
  | .b2s x => match rd φ x with
    | .str _ => none
    | v => match rowsOf H 1 v with
      | some r => (rowsBytes r).map fun s => (.str s, φ, H)
      | none => none
  | .s2b x => match rd φ x with
    | .str s => some (.own 1 (bytesRows s), φ, H)
    | _ => none
  | .i2s x => match rd φ x with
    | .int _ n => some (.str (Utf8.encode n).data.toList, φ, H)
    | _ => none
  | .box x => let (v, φ) := takeX φ x; if v.isUndef then none else some (.ptr H.length 0, φ, H ++ [some v.cells])
  | .alloc zero => some (.ptr H.length 0, φ, H ++ [some zero])
  | .allocb T e => some (.bptr H.length, φ, H ++ [some [.bld T e []]])
  | .mkm ag kinds => some (.mptr H.length, φ, H ++ [some [.mp ag kinds [] []]])
  | .mlk ok zero ag kinds x k => match mapOf H ag kinds (rd φ x) with
    | some m => if keyWell kinds (keyOf ag (rd φ k)) then (lookOf ok zero kinds (keyOf ag (rd φ k)) m.1 m.2).map (·, φ, H) else none
    | none => none
  | .mst ag kinds x k v => (mapPut H ag kinds (rd φ x) (keyOf ag (rd φ k)) (rd φ v)).map fun K => (.undef, φ, K)
  | .bld zero parts => match partsOf φ parts with
    | some ps => if fits zero.length ps then some (.agg (overlay zero ps), φ, H) else none
    | none => none
  | .bsl k zero n parts m => match partsOf φ parts with
    | some ps =>
      if zero.length = k ∧ 0 < k ∧ n * k ≤ 2 ^ 24 ∧ fits (n * k) ps then
        let cells := overlay (List.replicate n zero).flatten ps
        if m then some (if n = 0 then .mg k H.length 0 0 0 else .ms H.length 0 n n, φ, H ++ [some cells])
        else if cells.all V.plain then some (.own k (chunk k cells 0 n), φ, H) else none
      else none
    | none => none
  | .mk k zero bytes l c => match rd φ l, rd φ c with
    | .int _ a, .int _ b =>
      if 0 ≤ a ∧ a ≤ b ∧ b ≤ 2 ^ 40 ∧ bytes ≤ 2 ^ 8 ∧ zero.length = k ∧ 0 < k then some (.ms H.length 0 a.toNat b.toNat, φ, H ++ [some (List.replicate b.toNat zero).flatten]) else none
    | _, _ => none
  | .ld agg p => (load H agg (rd φ p)).map (·, φ, H)
  | .ldo p => match rd φ p with
    | .ptr i off => match H[i]? with
      | some (some cs) => match cs[off]? with
        | some (.own k r) => some (.own k r, φ, H.set i (some (cs.set off (.sl k r))))
        | some (.nils k) => some (.own k [], φ, H)
        | some v => some (v, φ, H)
        | none => none
      | _ => none
    | _ => none
  | .st size p x => match rd φ p with
    | .ptr i off =>
      let (v, φ) := takeX φ x
      match H[i]? with
      | some (some cs) =>
        if v.cells.length = size ∧ off + size ≤ cs.length ∧ V.underAll (i + 1) v.cells ∧ v.cells.all V.one then some (.undef, φ, H.set i (some (setMany cs off v.cells))) else none
      | _ => none
    | _ => none
  | .nck x => match rd φ x with
    | .ptr i o => some (.ptr i o, φ, H)
    | .rp r o => some (.rp r o, φ, H)
    | .fn (.func f) a b => some (.fn (.func f) a b, φ, H)
    | .yld i => some (.yld i, φ, H)
    | .bptr i => some (.bptr i, φ, H)
    | _ => none
  | .fa off p => match rd φ p with
    | .ptr i o => some (.ptr i (o + off), φ, H)
    | .rp r o => some (.rp r (o + off), φ, H)
    | .bptr i => if off = 0 then some (.bptr i, φ, H) else none
    | _ => none
  | .ixa k n x i => match n, rd φ x with
    | some n, .ptr b o => (index φ i n).map fun j => (.ptr b (o + j * k), φ, H)
    | some n, .rp r o => (index φ i n).map fun j => (.rp r (o + j * k), φ, H)
    | none, .sl k' rows => if k' = k then
        match index φ i rows.length with
        | some j => match rows[j]? with
          | some r => some (.rp r 0, φ, H)
          | none => none
        | none => none
      else none
    | none, .ms b o len _ => (index φ i len).map fun j => (.ptr b (o + j * k), φ, H)
    | none, .mg k' b o len _ => if k' = k then (index φ i len).map fun j => (.ptr b (o + j * k), φ, H) else none
    | none, .mix k' rows b n => if k' = k then
        match index φ i (rows.length + n) with
        | some j => match rows[j]? with
          | some r => some (.rp r 0, φ, H)
          | none => some (.ptr b ((j - rows.length) * k), φ, H)
        | none => none
      else none
    | _, _ => none
  | .fld agg off x => match rd φ x with
    | .agg cs => (loadFrom agg cs off).map (·, φ, H)
    | _ => none
  | .ixs x i => match rd φ x with
    | .str s => match index φ i s.length with
      | some j => match s[j]? with
        | some b => some (.int .u8 b.toNat, φ, H)
        | none => none
      | none => none
    | _ => none
  | .ixv agg k n x i => match rd φ x with
    | .agg cs => match index φ i n with
      | some j => (loadFrom agg cs (j * k)).map (·, φ, H)
      | none => none
    | _ => none
  | .slc x lo hi => match rd φ x with
    | .str s => match optBound φ hi s.length s.length with
      | some h => match optBound φ lo 0 h with
        | some l => some (.str ((s.take h).drop l), φ, H)
        | none => none
      | none => none
    | _ => none
  | .sls k x lo hi mx => match rd φ x with
    | .sl k' rows => if k' = k then
        match optBound φ mx rows.length rows.length with
        | some m => match optBound φ hi rows.length m with
          | some h => match optBound φ lo 0 h with
            | some l => if mx.isSome ∧ m = l then some (.own k [], φ, H) else some (.sl k ((rows.take h).drop l), φ, H)
            | none => none
          | none => none
        | none => none
      else none
    | .ms b o len cap => match optBound φ mx cap cap with
      | some m => match optBound φ hi len m with
        | some h => match optBound φ lo 0 h with
          | some l => if mx.isSome ∧ m = l then some (.own k [], φ, H) else some (.ms b (o + l * k) (h - l) (m - l), φ, H)
          | none => none
        | none => none
      | none => none
    | .mg k' b o len cap => if k' = k then
        match optBound φ mx cap cap with
        | some m => match optBound φ hi len m with
          | some h => match optBound φ lo 0 h with
            | some l => some (.mg k b (o + l * k) (h - l) (m - l), φ, H)
            | none => none
          | none => none
        | none => none
      else none
    | _ => none
  | .slp k n x lo hi mx => match rd φ x with
    | .ptr b o => match optBound φ mx n n with
      | some m => match optBound φ hi n m with
        | some h => match optBound φ lo 0 h with
          | some l => if m = l then some (.own k [], φ, H) else some (.ms b (o + l * k) (h - l) (m - l), φ, H)
          | none => none
        | none => none
      | none => none
    | .rp row o => match optBound φ mx n n with
      | some m => match optBound φ hi n m with
        | some h => match optBound φ lo 0 h with
          | some l => if o + n * k ≤ row.length then
              if mx.isSome ∧ m = l then some (.own k [], φ, H) else some (.sl k (chunk k row (o + l * k) (h - l)), φ, H)
            else none
          | none => none
        | none => none
      | none => none
    | _ => none
  | .ext x i => match rd φ x with
    | .tup vs => (vs[i]?).map (·, φ, H)
    | _ => none
  | .len str x => match rd φ x with
    | .str s => if str then some (.int .i64 s.length, φ, H) else none
    | .sl _ r => if str then none else some (.int .i64 r.length, φ, H)
    | .ms _ _ len _ => if str then none else some (.int .i64 len, φ, H)
    | .mg _ _ _ len _ => if str then none else some (.int .i64 len, φ, H)
    | _ => none
  | .lena n => some (.int .i64 n, φ, H)
  | .app k bytes s x m => match takeX φ s with
    | (.own k' rows, φ) => if k' = k then
        match rowsOf H k (rd φ x) with
        | some new =>
          if 2 * (rows.length + new.length) * bytes ≤ 2 ^ 48 ∧ 0 < bytes ∧ (new.all fun r => r.all V.plain) then
            if m then
              if rows.isEmpty then
                if new.isEmpty then some (.own k [], φ, H) else some (.ms H.length 0 new.length new.length, φ, H ++ [some new.flatten])
              else none
            else some (.own k (rows ++ new), φ, H)
          else none
        | none => none
      else none
    | _ => none
  | .cpy k d s => match rd φ d with
    | .ms i off len _ => match rowsOf H k (rd φ s), H[i]? with
      | some new, some (some cs) =>
        let n := min new.length len
        if off + len * k ≤ cs.length ∧ ((new.take n).all fun r => r.all V.plain) then
          some (.int .i64 n, φ, H.set i (some (setMany cs off (new.take n).flatten))) else none
      | _, _ => none
    | .sl _ [] => match rowsOf H k (rd φ s) with
      | some _ => some (.int .i64 0, φ, H)
      | none => none
    | _ => none
  | .clr k zero d => match rd φ d with
    | .ms i off len _ => match H[i]? with
      | some (some cs) => if off + len * k ≤ cs.length ∧ zero.length = k ∧ zero.all V.plain then some (.undef, φ, H.set i (some (setMany cs off (List.replicate len zero).flatten))) else none
      | _ => none
    | .mg k' i off len _ => match H[i]? with
      | some (some cs) => if k' = k ∧ off + len * k ≤ cs.length ∧ zero.length = k ∧ zero.all V.plain then some (.undef, φ, H.set i (some (setMany cs off (List.replicate len zero).flatten))) else none
      | _ => none
    | .sl _ [] => some (.undef, φ, H)
    | _ => none
  | .mx isMax xs => match xs.map (rd φ) with
    | [.int k a, .int _ b] => some (.int k (if isMax then max a b else min a b), φ, H)
    | _ => none
  | .call f args => let (vs, φ) := takeAll φ args; (call f vs H).map fun (r, H) => (r, φ, H)
  | .callv fv args => match fnParts (rd φ fv) with
    | some (f, first, cap) => let (vs, φ) := takeAll φ args; (call f (first ++ vs ++ cap) H).map fun (r, H) => (r, φ, H)
    | none => none
  | .callc f args => (callCalm call f (args.map (rd φ))).map (·, φ, H)
  | .callvc fv args => match fnParts0 (rd φ fv) with
    | some (f, first, cap) => (callCalm call f (first ++ args.map (rd φ) ++ cap)).map (·, φ, H)
    | none => none
  | .apz k bytes s x => match takeX φ s with
    | (.own k' rows, φ) => if k' = k then
        match rowsOf H k (rd φ x) with
        | some new =>
          if 2 * (rows.length + new.length) * bytes ≤ 2 ^ 48 ∧ 0 < bytes ∧ (new.all fun r => r.all V.plain) ∧ new ≠ [] then
            some (.mix k rows H.length new.length, φ, H ++ [some new.flatten])
          else none
        | none => none
      else none
    | _ => none
  | .tkf x => (frzMix H (rd φ x)).map fun r => (r.1, φ, r.2)
  | .stf p x => match rd φ p with
    | .ptr i off => match frzMix H (rd φ x) with
      | some (v, H) => match H[i]? with
        | some (some cs) => if off + 1 ≤ cs.length then some (.undef, φ, H.set i (some (setMany cs off [v]))) else none
        | _ => none
      | none => none
    | _ => none
  | .mkf f first captured => some (.fn f (first.map (rd φ)) (captured.map (rd φ)), φ, H)
  | .mkz k zero bytes l c => match rd φ l, rd φ c with
    | .int _ a, .int _ b =>
      if 0 ≤ a ∧ a = b ∧ b ≤ 2 ^ 24 ∧ bytes ≤ 2 ^ 8 ∧ zero.length = k ∧ 0 < k ∧ zero.all V.plain then some (.own k (chunk k (List.replicate a.toNat zero).flatten 0 a.toNat), φ, H) else none
    | _, _ => none
  | .callx f args => (callOwn call f (args.map (rd φ)) H.length).map fun r => (r.1, φ, H ++ r.2)
  | .ldq agg p r => match rd φ p, (rd φ r).ref with
    | .ptr i off, .ptr j _ => if i = j then (load H agg (.ptr i off)).map (·, φ, H) else none
    | _, _ => none
  | .stq size p x rs => match rd φ p with
    | .ptr i _ => if rs.all (fun r => (rd φ r).ref.apart i) then storeOf φ H size p x else none
    | _ => none

  | .ldoq p r => match rd φ p, rd φ r with
    | .ptr i off, .ptr j _ => if i = j then
        match H[i]? with
        | some (some cs) => match cs[off]? with
          | some (.own k r) => some (.own k r, φ, H.set i (some (cs.set off (.sl k r))))
          | some (.nils k) => some (.own k [], φ, H)
          | some v => some (v, φ, H)
          | none => none
        | _ => none
      else none
    | _, _ => none
  | .callh f args r => match rd φ r with
    | .ptr i _ => match H[i]? with
      | some (some cs) => match call f (args.map (rd φ)) (H.set i none) with
        | some (v, K) => match K[i]? with
          | some none => some (v, φ, K.set i (some cs))
          | _ => none
        | none => none
      | _ => none
    | _ => none
  | .callvh fv args r => match fnParts0 (rd φ fv), rd φ r with
    | some (f, first, cap), .ptr i _ => match H[i]? with
      | some (some cs) => match call f (first ++ args.map (rd φ) ++ cap) (H.set i none) with
        | some (v, K) => match K[i]? with
          | some none => some (v, φ, K.set i (some cs))
          | _ => none
        | none => none
      | _ => none
    | _, _ => none
  | .stw size p x => match rd φ p with
    | .ptr i off =>
      let (v, φ) := takeX φ x
      match H[i]? with
      | some (some cs) => if v.cells.length = size ∧ off + size ≤ cs.length ∧ v.cells.all V.one then some (.undef, φ, H.set i (some (setMany cs off v.cells))) else none
      | _ => none
    | _ => none
  | .apm k bytes s x => match rowsOf H k (rd φ x) with
    | some new => let (v, φ) := takeX φ s; (appM H k bytes v new.length new.flatten).map fun r => (r.1, φ, r.2)
    | none => none
  | .ldf agg p => match rd φ p with
    | .ptr i off => match H[i]? with
      | some (some cs) => if off + agg.getD 1 ≤ cs.length then match frzL (frzV deepest) H ((cs.drop off).take (agg.getD 1)) with
          | some (us, K) => match K[i]? with
            | some (some cs') => (load (K.set i (some (setMany cs' off us))) agg (rd φ p)).map (·, φ, K.set i (some (setMany cs' off us)))
            | _ => none
          | none => none
        else none
      | _ => none
    | _ => none
  | .tkz x => (frzA H (rd φ x)).map fun r => (r.1, φ, r.2)
  | .callk f args => let (vs, φ) := takeAll φ args; (call (wNo f) vs H).map fun (r, H) => (r, φ, H)
  | .callck f args => (callCalm call (wNo f) (args.map (rd φ))).map (·, φ, H)
  | .callvk fv args => match fnParts0 (rd φ fv) with
    | some (f, first, cap) => let (vs, φ) := takeAll φ args; (call (wNo f) (first ++ vs ++ cap) H).map fun (r, H) => (r, φ, H)
    | none => none
  | .ldm p => match rd φ p with
    | .ptr i off => match H[i]? with
      | some (some cs) => match cs[off]? with
        | some (.mg k j o l c) => some (.mg k j o l c, φ, H)
        | some (.nils k) => some (.nils k, φ, H)
        | _ => none
      | _ => none
    | _ => none
  | .mne ag kinds zero x k => (mapNew H ag kinds zero (rd φ x) (keyOf ag (rd φ k))).map fun r => (r.1, φ, r.2)
  | .mes x st v => (mapAt H (rd φ x) (rd φ st) (rd φ v)).map fun K => (.undef, φ, K)
  | .callb f args => match frzL frzA H (args.map (rd φ)) with
    | some (vs, _) => match callCalm call f vs with
      | some r => if r.scalar then some (r, φ, H) else none
      | none => none
    | none => none
  | .callr f args => let (vs, φ) := takeAll φ args; (callSame call f vs H).map (·, φ, H)

def wantedA (φ : Fr) : Option (Nat × Bool) → Option Bool
  | none => some true
  | some (s, b) => match Fr.get φ s with
    | .bool x => some (x == b)
    | .no => some false
    | _ => none

def stepO (call : CallF) (o : AOper) (φ : Fr) (H : Heap) : Option (Fr × Heap) :=
  match wantedA φ o.g with
  | some true => match stepA call φ H o.op with
    | some (v, φ, H) => some (Fr.put φ o.d v, H)
    | none => none
  | some false => some (Fr.put φ o.d .no, H)
  | none => none

def runOps (call : CallF) : List AOper → Fr → Heap → Option (Fr × Heap)
  | [], φ, H => some (φ, H)
  | o :: os, φ, H => match stepO call o φ H with
    | some (φ, H) => runOps call os φ H
    | none => none

/-- What an operation does to the memory: nothing; it reads it; it takes a list's end out of a cell; it lays a block; anything; it looks at all of it. -/
inductive HC where
  | pu
  | rd
  | lo
  | al
  | wr
  | lk
  deriving DecidableEq

def AOp.hc : AOp → HC
  | .ld .. | .ldq .. | .mlk .. | .b2s _ | .app _ _ _ _ false => .rd
  | .ldo _ | .ldoq .. | .ldm _ => .lo
  | .box _ | .alloc _ | .allocb .. | .mkm .. | .mk .. | .bsl _ _ _ _ true | .app _ _ _ _ true | .apz .. | .callx .. => .al
  | .st .. | .stq .. | .stf .. | .tkf _ | .cpy .. | .clr .. | .frz .. | .mst .. | .call .. | .callv .. | .callh .. | .callvh .. | .stw .. | .apm .. | .ldf .. | .tkz _ | .callk .. | .callvk .. | .mne .. | .mes .. => .wr
  | .callb .. | .callr .. => .lk
  | _ => .pu

def AX.slots : AX → List Nat
  | .t n => [n]
  | .c _ => []

/-- What the operation looks at. -/
def AOp.args : AOp → List AX
  | .tk x | .mv x | .cs x | .frz _ x | .notb x | .neg _ x | .cpl _ x | .conv _ x | .b2s x | .s2b x | .i2s x | .box x | .ld _ x | .ldo x | .nck x | .fa _ x | .fld _ _ x | .ext x _ | .len _ x | .clr _ _ x | .tkf x | .isn _ x | .isp _ x | .ldf _ x | .tkz x | .ldm x => [x]
  | .pick a b c => [a, b, c]
  | .ia _ _ x y | .ic _ x y | .sop _ x y | .eqb _ x y | .eqa _ _ x y | .mk _ _ _ x y | .mkz _ _ _ x y | .st _ x y | .ixa _ _ x y | .ixs x y | .ixv _ _ _ x y | .app _ _ x y _ | .apz _ _ x y | .stf x y | .cpy _ x y | .mlk _ _ _ _ x y | .stw _ x y | .apm _ _ x y | .mne _ _ _ x y => [x, y]
  | .mst _ _ x k v | .mes x k v => [x, k, v]
  | .alloc _ | .allocb .. | .mkm .. | .lena _ => []
  | .bld _ ps | .bsl _ _ _ ps _ => ps.map fun p => p.2.2
  | .slc x lo hi => x :: (lo.toList ++ hi.toList)
  | .sls _ x lo hi m | .slp _ _ x lo hi m => x :: (lo.toList ++ hi.toList ++ m.toList)
  | .mx _ xs | .call _ xs | .callc _ xs | .callk _ xs | .callck _ xs | .callb _ xs | .callr _ xs => xs
  | .callv x xs | .callvc x xs | .callvk x xs => x :: xs
  | .mkf _ xs ys => xs ++ ys
  | .callx _ xs => xs
  | .ldq _ p r | .ldoq p r => [p, r]
  | .callh _ xs r => r :: xs
  | .callvh x xs r => r :: x :: xs
  | .stq _ p x rs => p :: x :: rs

def AOper.slots (o : AOper) : List Nat := o.op.args.flatMap AX.slots ++ (o.g.map (·.1)).toList

/-- The slots whose lists' ends the operation takes. -/
def AOp.takes : AOp → List Nat
  | .tk x | .box x | .st _ _ x | .stq _ _ x _ | .app _ _ x _ _ | .apz _ _ x _ | .apm _ _ x _ | .stw _ _ x => x.slots
  | .call _ xs | .callv _ xs | .callk _ xs | .callvk _ xs | .callr _ xs => xs.flatMap AX.slots
  | _ => []

def HC.free : HC → HC → Bool
  | .pu, _ | _, .pu | .rd, .rd | .rd, .lo | .lo, .rd | .rd, .al | .lo, .al | .lk, .lk | .rd, .lk | .lk, .rd => true
  | _, _ => false

def AX.isT : AX → Bool
  | .t _ => true
  | .c _ => false

def AX.same : AX → AX → Bool
  | .t m, .t n => m == n
  | _, _ => false

/-- Looking into a block that is older than what x lays; or a store that leads elsewhere. -/
def AOp.behind (x : AOp) : AOp → Bool
  | .ld _ p | .ldo p | .ldq _ p _ => decide (x.hc = .al) && p.isT
  | .stq _ _ _ rs => match x with
    | .ldq _ _ r => rs.any r.same
    | _ => false
  | .callh _ _ r' => match x with
    | .ldoq _ r => r.same r'
    | .ldq _ _ r => r.same r'
    | _ => false
  | .callvh _ _ r' => match x with
    | .ldq _ _ r => r.same r'
    | _ => false
  | _ => false

/-- May y come ahead of x, which stands ahead of it? -/
def AOper.indep (x y : AOper) : Bool :=
  (HC.free x.op.hc y.op.hc || x.op.behind y.op) && (match x.d with | some d => !y.slots.contains d && y.d != some d | none => true) && (match y.d with | some d => !x.slots.contains d | none => true) &&
    x.op.takes.all fun q => !y.op.takes.contains q

def iter (body : Fr → Heap → Option (AExit × Fr × Heap)) (keep : List Nat) : Nat → Fr → Heap → Option (AExit × Fr × Heap)
  | 0, _, _ => none
  | n + 1, φ, H => match body (Fr.mask φ keep) H with
    | some (.normal, φ, H) => iter body keep n φ H
    | r => r

/-- The jump that a round leaves behind: none, a return, an exit. -/
def pendOf : AExit → Nat
  | .normal => 0
  | .ret => 1
  | .exit i => i + 2

def exitN : Nat → AExit
  | 0 => .normal
  | 1 => .ret
  | n + 2 => .exit n

def recAt (H : Heap) (i : Nat) : Option (Nat × Nat × Nat × List Nat × List Nat × List V) := match H[i]? with
  | some (some [.lrec st pend lbl ps ks vs]) => some (st, pend, lbl, ps, ks, vs)
  | _ => none

/-- What follows the iterator: the jump that is pending. -/
def endRfn (φ : Fr) (i : Nat) (H : Heap) : Option (AExit × Fr × Heap) := match recAt H i with
  | some (st, pend, _) => if st = 1 then none else some (exitN pend, φ, H.take i)
  | none => none

/-- 'for .. := range f': a record is laid, and the iterator called with its yield. -/
def runRfn (call : CallF) (φ : Fr) (H : Heap) (g : AX) (keep : List Nat) (lbl : Nat) (ps : List Nat) : Option (AExit × Fr × Heap) := match fnParts0 (rd φ g) with
  | some (f, first, cap) => match call f (first ++ [.yld H.length] ++ cap) (H ++ [some [.lrec 0 0 lbl ps keep (keep.map fun k => (Fr.get φ k).strip)]]) with
    | some (_, H') => endRfn φ H.length H'
    | none => none
  | none => none

def execC (call : CallF) (fuel : Nat) : AC → Fr → Heap → Option (AExit × Fr × Heap)
  | .skip, φ, H => some (.normal, φ, H)
  | .reg ops, φ, H => match runOps call ops φ H with
    | some (φ, H) => some (.normal, φ, H)
    | none => none
  | .drw _ ops, φ, H => match runOps call ops φ H with
    | some (φ, H) => some (.normal, φ, H)
    | none => none
  | .seq a b, φ, H => match execC call fuel a φ H with
    | some (.normal, φ, H) => execC call fuel b φ H
    | r => r
  | .cond x a b, φ, H => match ev φ x with
    | .bool true => execC call fuel a φ H
    | .bool false => execC call fuel b φ H
    | _ => none
  | .block id b, φ, H => match execC call fuel b φ H with
    | some (.exit i, φ, H) => if i = id then some (.normal, φ, H) else some (.exit i, φ, H)
    | r => r
  | .loop keep b, φ, H => iter (execC call fuel b) keep fuel φ H
  | .rfn g keep lbl ps _ _, φ, H => runRfn call φ H g keep lbl ps
  | .exit id, φ, H => some (.exit id, φ, H)
  | .ret, φ, H => some (.ret, φ, H)
  | .dfr .., _, _ => none

def resOne (φ : Fr) (H : Heap) : ARes → Option V
  | .t n => some (Fr.get φ n)
  | .cell n agg => load H agg (Fr.get φ n)

def resMany (φ : Fr) (H : Heap) : List ARes → Option (List V)
  | [] => some []
  | r :: rs => match resOne φ H r, resMany φ H rs with
    | some v, some vs => some (v.strip :: vs)
    | _, _ => none

def result (φ : Fr) (H : Heap) : List ARes → Option V
  | [r] => resOne φ H r
  | rs => (resMany φ H rs).map .tup

def params : Nat → List V → Fr
  | _, [] => []
  | i, v :: vs => (i, v) :: params (i + 1) vs

abbrev Tbl := Nat → Option AFunc
abbrev Ext := Nat → Option (List V → Heap → Option (V × Heap))

/-- A round's end. -/
def endRound (n i : Nat) (e : AExit) (H : Heap) : Option (V × Heap) := match recAt H i with
  | some (st, _, lbl, ps, ks, vs) => if st = 1 then some (.bool (pendOf e == 0), (H.set i (some [.lrec (if pendOf e = 0 then 0 else 2) (pendOf e) lbl ps ks vs])).take n) else none
  | none => none

/-- A round's second part: the record is busy while the body runs. -/
def bodyRound (ex : AC → Fr → Heap → Option (AExit × Fr × Heap)) (n i : Nat) (b : AC) (φ : Fr) (H : Heap) : Option (V × Heap) := match recAt H i with
  | some (st, p, lbl, ps, ks, vs) => if st = 0 then match ex b φ (H.set i (some [.lrec 1 p lbl ps ks vs])) with
      | some (e, _, H) => endRound n i e H
      | none => none
    else none
  | none => none

/-- A call of yield: a round of the loop's body, on the frame of the loop's beginning. -/
def round (tbl : Tbl) (ex : AC → Fr → Heap → Option (AExit × Fr × Heap)) (i : Nat) (args : List V) (H : Heap) : Option (V × Heap) := match recAt H i with
  | some (st, _, lbl, ps, ks, vs) => if st = 0 ∧ args.length = ps.length then
      match tbl lbl with
      | some ⟨_, .seq a b, _⟩ => match ex a (ps.zip args ++ ks.zip vs) H with
        | some (.normal, φ, H') => bodyRound ex H.length i b φ H'
        | _ => none
      | _ => none
    else none
  | none => none

abbrev ExF := AC → Fr → Heap → Option (AExit × Fr × Heap)

def AC.plain : AC → Bool
  | .dfr .. => false
  | _ => true

/-- What a body's end answers. -/
def fnEnd (res : List ARes) (n : Nat) : AExit × Fr × Heap → Option (V × Heap)
  | (.exit _, _, _) => none
  | (.ret, φ, H) => (result φ H res).map fun r => trunc n r H
  | (.normal, φ, H) => (result φ H res).map fun r => trunc n r H

/-- Likewise, of the wide form: all that was laid stays. -/
def wideEnd (res : List ARes) : AExit × Fr × Heap → Option (V × Heap)
  | (.exit _, _, _) => none
  | (.ret, φ, H) => (result φ H res).map fun r => (r, H)
  | (.normal, φ, H) => (result φ H res).map fun r => (r, H)

/-- The wide form of a function. -/
def wideRun (tbl : Tbl) (ex : ExF) (f : Nat) (args : List V) (H : Heap) : Option (V × Heap) := match tbl (wTab f) with
  | some af => if args.length = af.np then (ex af.body (params 0 args) H).bind (wideEnd af.res) else none
  | none => none

/-- A function of the table, without a deferred call. -/
def fnOne (tbl : Tbl) (ex : ExF) (f : Nat) (args : List V) (H : Heap) : Option (V × Heap) := match tbl f with
  | some af => if args.length = af.np then (ex af.body (params 0 args) H).bind (fnEnd af.res H.length) else none
  | none => none

def dfrEnd (tbl : Tbl) (ex : ExF) (g : Nat) (vs : List V) (res : List ARes) (n : Nat) : AExit × Fr × Heap → Option (V × Heap)
  | (.exit _, _, _) => none
  | (.ret, φ, H) => (fnOne tbl ex g vs H).bind fun p => fnEnd res n (.ret, φ, p.2)
  | (.normal, φ, H) => (fnOne tbl ex g vs H).bind fun p => fnEnd res n (.ret, φ, p.2)

def dfrOps (tbl : Tbl) (ex : ExF) (g : Nat) (ks : List Nat) (rest : AC) (res : List ARes) (n : Nat) : AExit × Fr × Heap → Option (V × Heap)
  | (.normal, φ, H) => (ex rest φ H).bind (dfrEnd tbl ex g (ks.map fun k => (Fr.get φ k).strip) res n)
  | _ => none

def dfrPre (tbl : Tbl) (ex : ExF) (c : AX) (ops : AC) (g : Nat) (ks : List Nat) (rest : AC) (res : List ARes) (n : Nat) : AExit × Fr × Heap → Option (V × Heap)
  | (.normal, φ, H) => match ev φ c with
    | .bool false => (ex rest φ H).bind (fnEnd res n)
    | .bool true => (ex ops φ H).bind (dfrOps tbl ex g ks rest res n)
    | _ => none
  | _ => none

def fnRun (tbl : Tbl) (ext : Ext) (ex : ExF) (f : Nat) (args : List V) (H : Heap) : Option (V × Heap) := match ext f with
  | some e => e args H
  | none => match tbl f with
    | some af => if args.length = af.np then match af.body with
        | .dfr pre c ops g ks rest => (ex pre (params 0 args) H).bind (dfrPre tbl ex c ops g ks rest af.res H.length)
        | b => (ex b (params 0 args) H).bind (fnEnd af.res H.length)
      else none
    | none => none

/-- A call, by its number: a function, a round of a loop, a function's wide form. -/
def runF (tbl : Tbl) (ext : Ext) (ex : ExF) (f : Nat) (args : List V) (H : Heap) : Option (V × Heap) :=
  if f < yBase then fnRun tbl ext ex f args H
  else if (f - yBase) % 2 = 0 then round tbl ex ((f - yBase) / 2) args H
  else wideRun tbl ex ((f - yBase) / 2) args H

def run (tbl : Tbl) (ext : Ext) : Nat → CallF
  | 0, _, _, _ => none
  | n + 1, f, args, H => runF tbl ext (execC (run tbl ext n) n) f args H

/-- Operations that the wide form of a function alone may have. -/
def AOp.wide : AOp → Bool
  | .stw .. | .apm .. | .callk .. | .callvk .. => true
  | .callx f _ => !Nat.blt f yBase
  | _ => false

end Go.AM
