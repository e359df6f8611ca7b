/-
 The parts of this proof that speak of the functions one by one.
-/
import Derived.Test.YtlpokbhooaffmaaGreatDoorSpc
import Derived.Test.YtlpokbhooaffmaaGreatDoorSpecTr
import Derived.Test.YtlpokbhooaffmaaGreatDoorTyl
import Derived.Test.YtlpokbhooaffmaaGreatDoorDoor
namespace Go.AM.Spec
set_option linter.unusedVariables false
set_option linter.unusedSimpArgs false
abbrev iw (n : Int) : V := .int .i64 n
def isBlank (c : UInt8) : Bool := decide (c.toNat = 32) || decide (c.toNat = 9) || decide (c.toNat = 10)
/-- Behind blanks and comments (in one, if so told). -/
def skipG : Bool → List UInt8 → List UInt8
 | _, [] => []
 | false, c :: l => if isBlank c then skipG false l else if c = 35 then skipG true l else c :: l
 | true, c :: l => if c = 10 then skipG false l else skipG true l
theorem skipG_le : ∀ (b : Bool) (l : List UInt8), (skipG b l).length ≤ l.length
 | _, [] => by simp [skipG]
 | false, c :: l => by
  unfold skipG
  split
  ·exact Nat.le_succ_of_le (skipG_le false l)
  ·split
   ·exact Nat.le_succ_of_le (skipG_le true l)
   ·exact Nat.le_refl _
 | true, c :: l => by
  unfold skipG
  split
  ·exact Nat.le_succ_of_le (skipG_le false l)
  ·exact Nat.le_succ_of_le (skipG_le true l)
/-- Where what is left begins. -/
theorem skipG_drop : ∀ (b : Bool) (l : List UInt8), skipG b l = l.drop (l.length - (skipG b l).length)
 | _, [] => by simp [skipG]
 | false, c :: l => by
  have h1 := skipG_drop false l
  have h2 := skipG_drop true l
  have l1 := skipG_le false l
  have l2 := skipG_le true l
  unfold skipG
  split
  ·rw [List.length_cons, show l.length + 1 - (skipG false l).length = (l.length - (skipG false l).length) + 1 by omega, List.drop_succ_cons]; exact h1
  ·split
   ·rw [List.length_cons, show l.length + 1 - (skipG true l).length = (l.length - (skipG true l).length) + 1 by omega, List.drop_succ_cons]; exact h2
   ·simp
 | true, c :: l => by
  have h1 := skipG_drop false l
  have h2 := skipG_drop true l
  have l1 := skipG_le false l
  have l2 := skipG_le true l
  unfold skipG
  split
  ·rw [List.length_cons, show l.length + 1 - (skipG false l).length = (l.length - (skipG false l).length) + 1 by omega, List.drop_succ_cons]; exact h1
  ·rw [List.length_cons, show l.length + 1 - (skipG true l).length = (l.length - (skipG true l).length) + 1 by omega, List.drop_succ_cons]; exact h2
/-- A word, or the number of a fault. -/
structure Wd where
 kind : Int
 s : List UInt8
 n : Int
 deriving DecidableEq
def Wd.at (w : Wd) (at_ : Int) : List V := [iw w.kind, .str w.s, iw w.n, iw at_]
def signsL : List UInt8 := [123, 125, 40, 41, 59, 44, 58, 43, 45, 60, 61]
/-- Where the quotes end: how many bytes stand ahead. -/
def quoteEnd : List UInt8 → Option Nat
 | [] => none
 | c :: l => if c = 34 then some 0 else (quoteEnd l).map (· + 1)
/-- The word with which a text begins, and its length; or a fault's number. -/
def oneS (l : List UInt8) : (Wd × Nat) ⊕ Int :=
 match l with
 | [] => .inr 12
 | c :: r =>
  if isLetter c then
   let w := (c :: r).takeWhile isInner
   if isKey w then .inl (⟨4, w, 0⟩, w.length) else if isName w then .inl (⟨1, w, 0⟩, w.length) else .inr 14
  else if isDigit c then
   let w := (c :: r).takeWhile isDigit
   if (readR w).2 then .inl (⟨2, [], (readR w).1⟩, w.length) else .inr 12
  else if c = 34 then
   match quoteEnd r with
   | none => .inr 12
   | some n => match unq (34 :: (r.take n ++ [34])) with
    | none => .inr 12
    | some u => if 64 < u.length then .inr 14 else .inl (⟨3, u, 0⟩, n + 2)
  else if c = 61 ∧ r.head? = some 61 then .inl (⟨5, [61, 61], 0⟩, 2)
  else if signsL.contains c then .inl (⟨5, [c], 0⟩, 1)
  else .inr 12
/-- The words of what is left, of a text of so many bytes: the list, or a fault. -/
def wordsG (total : Nat) : Nat → List UInt8 → List (List V) → (List (List V)) × Int × Int
 | 0, _, acc => (acc, 0, 0)
 | f + 1, l, acc => if l = [] then (acc ++ [[iw 0, .str [], iw 0, iw total]], 0, 0)
  else match oneS l with
   | .inr e => ([], e, ((total - l.length : Nat) : Int))
   | .inl (w, n) => wordsG total f (skipG false (l.drop n)) (acc ++ [w.at ((total - l.length : Nat) : Int)])
/-- What Words answers: the list and the fault. -/
def wordsS (s : List UInt8) : (List (List V)) × Int × Int := if 4096 < s.length then ([], 14, 0) else wordsG s.length (s.length + 1) (skipG false s) []
end Go.AM.Spec
namespace Go.AM
set_option linter.unusedVariables false
set_option linter.unusedSimpArgs false
namespace Spec
open Go.ChangeShapes Go.WideShapes Go.Deep
structure Wx where
 kind : Int
 s : List UInt8
 n : Int
 a : Int
def Wx.cells (x : Wx) : List V := [iw x.kind, .str x.s, iw x.n, iw x.a]
section
variable {P : Program}
end
end Spec
end Go.AM
namespace Go.AM.Spec
set_option linter.unusedVariables false
set_option linter.unusedSimpArgs false
set_option maxHeartbeats 1000000
set_option maxRecDepth 10000
theorem HasPrefix0 (s p : List UInt8) (hs : s.length ≤ 1000000) (hp : p.length ≤ 1000) (H : Heap) : eval tbl noExt n_isl_HasPrefix [.str s, .str p] H = some (.bool (p.isPrefixOf s), H) := by
 rw [eval_M rfl rfl t_isl_HasPrefix rfl]
 by_cases h : p.length ≤ s.length
 ·have h' : (p.length : Int) ≤ s.length := by omega
  have e : decide (s.take p.length = p) = p.isPrefixOf s := by
   rw [Bool.eq_iff_iff, decide_eq_true_eq, List.isPrefixOf_iff_prefix, List.prefix_iff_eq_take]
   exact ⟨fun h => h.symm, fun h => h.symm⟩
  simp [c_isl_HasPrefix, h, h', e]
 ·have h' : ¬ (p.length : Int) ≤ s.length := by omega
  have e : p.isPrefixOf s = false := by
   rw [Bool.eq_false_iff]
   intro hh
   exact h (List.isPrefixOf_iff_prefix.1 hh).length_le
  simp [c_isl_HasPrefix, h, h', e]
theorem HasPrefix_eq (s p : List UInt8) (hs : s.length ≤ 1000000) (hp : p.length ≤ 1000) (H : Heap) : eval tbl noExt n_strings_HasPrefix [.str s, .str p] H = some (.bool (p.isPrefixOf s), H) := by
 have h1 := HasPrefix0 s p hs hp []
 rw [eval_M rfl rfl t_strings_HasPrefix rfl]
 simp [c_strings_HasPrefix, h1]
theorem IndexByte_eq (s : List UInt8) (c : UInt8) (H : Heap) : eval tbl noExt n_strings_IndexByte [.str s, .int .u8 c.toNat] H = some (.int .i64 (Go.Lib.indexByte s c), H) := by
 have := c.toNat_lt
 rw [eval_X (e := xIndexByte) rfl rfl]
 show (if 0 ≤ (c.toNat : Int) ∧ (c.toNat : Int) < 256 then some (V.int .i64 (Go.Lib.indexByte s (UInt8.ofNat (c.toNat : Int).toNat)), H) else none) = _
 rw [if_pos (by omega)]
 simp
theorem of_bytes {f : Nat} {g : UInt8 → V} (h : ((List.range 256).map fun (i : Nat) => run tbl noExt 30 f [.int .u8 (i : Int)] []) = (List.range 256).map fun (i : Nat) => some (g (UInt8.ofNat i), [])) (c : UInt8) : eval tbl noExt f [.int .u8 c.toNat] [] = some (g c, []) := by
 have hc := c.toNat_lt
 have h1 := congrArg (fun l => l[c.toNat]?) h
 simp only [List.getElem?_map, List.getElem?_range hc, Option.map_some, Option.some.injEq] at h1
 rw [UInt8.ofNat_toNat] at h1
 exact (eval_iff _ _ _ _ _ _).2 ⟨30, h1⟩
theorem all_u8 {p : UInt8 → Bool} (h : ((List.range 256).all fun i => p (UInt8.ofNat i)) = true) (c : UInt8) : p c = true := by
 have := List.all_eq_true.1 h c.toNat (List.mem_range.2 c.toNat_lt)
 rwa [UInt8.ofNat_toNat] at this
theorem hex_facts (c : UInt8) : (match hexv c with | some x => decide (x < 16) && (hexd x == c) | none => !(c == 48)) = true :=
 all_u8 (p := fun c => match hexv c with | some x => decide (x < 16) && (hexd x == c) | none => !(c == 48)) (by decide +kernel) c
theorem plain_eq (c : UInt8) : eval tbl noExt n_view_plain [.int .u8 c.toNat] [] = some (.bool (plainC c), []) := of_bytes (g := fun c => .bool (plainC c)) (by kernel_rfl) c
def hexText : List UInt8 := [48, 49, 50, 51, 52, 53, 54, 55, 56, 57, 97, 98, 99, 100, 101, 102]
def hexI (c : UInt8) : Int := match hexv c with
 | some x => x
 | none => -1
theorem hex_index (c : UInt8) : Go.Lib.indexByte hexText c = hexI c := by
 have := all_u8 (p := fun c => decide (Go.Lib.indexByte hexText c = hexI c)) (by decide +kernel) c
 simpa using this
theorem hexv_lt {c : UInt8} {x : Nat} (h : hexv c = some x) : x < 16 := by
 have := hex_facts c
 rw [h] at this
 simp at this
 exact this.1
theorem nibble {x y : Nat} (hx : x < 16) (hy : y < 16) : arith .shl .i64 x 4 = some (.int .i64 (16 * (x : Int))) ∧ arith .or .i64 (16 * (x : Int)) y = some (.int .i64 (16 * (x : Int) + y)) := by
 have h : ∀ a : Fin 16, ∀ b : Fin 16, (match arith .shl .i64 (a.val : Int) 4 with | some (.int .i64 n) => decide (n = 16 * (a.val : Int)) | _ => false) = true ∧ (match arith .or .i64 (16 * (a.val : Int)) (b.val : Int) with | some (.int .i64 n) => decide (n = 16 * (a.val : Int) + b.val) | _ => false) = true := by decide +kernel
 obtain ⟨h1, h2⟩ := h ⟨x, hx⟩ ⟨y, hy⟩
 constructor
 ·split at h1
  ·rename_i n e; simp at h1; rw [e, h1]
  ·cases h1
 ·split at h2
  ·rename_i n e; simp at h2; rw [e, h2]
  ·cases h2
/-- What pair answers. -/
def pairS : List UInt8 → V
 | a :: b :: _ => match hexv a, hexv b with
  | some x, some y => .tup [.int .u8 ((16 * x + y : Nat) : Int), .bool (!plainC (UInt8.ofNat (16 * x + y)))]
  | _, _ => .tup [.int .u8 0, .bool false]
 | _ => .tup [.int .u8 0, .bool false]
theorem pair_eq (s : List UInt8) (hs : s.length ≤ 1000000) : eval tbl noExt n_view_pair [.str s] [] = some (pairS s, []) := by
 rw [eval_M rfl rfl t_view_pair rfl]
 match s with
 | [] => simp [c_view_pair, pairS]
 | [a] => simp [c_view_pair, pairS]
 | a :: b :: l =>
  have h0 : ¬ ((l.length : Int) + 1 + 1 < 2) := by omega
  have h1 : (0 : Int) < (l.length : Int) + 1 + 1 := by omega
  have h2 : (1 : Int) < (l.length : Int) + 1 + 1 := by omega
  have ea := IndexByte_eq hexText a []
  have eb := IndexByte_eq hexText b []
  rw [hex_index] at ea eb
  simp only [hexText] at ea eb
  cases ha : hexv a with
  | none =>
   have e1 : hexI a = -1 := by simp [hexI, ha]
   rw [e1] at ea
   simp [c_view_pair, pairS, h0, h1, h2, ea, eb, ha]
  | some x =>
   have hx := hexv_lt ha
   have e1 : hexI a = x := by simp [hexI, ha]
   rw [e1] at ea
   have nx : ¬ (x : Int) < 0 := by omega
   cases hb : hexv b with
   | none =>
    have e2 : hexI b = -1 := by simp [hexI, hb]
    rw [e2] at eb
    simp [c_view_pair, pairS, h0, h1, h2, ea, eb, ha, hb, nx]
   | some y =>
    have hy := hexv_lt hb
    have e2 : hexI b = y := by simp [hexI, hb]
    rw [e2] at eb
    have ny : ¬ (y : Int) < 0 := by omega
    obtain ⟨q1, q2⟩ := nibble hx hy
    have hP := plain_eq (UInt8.ofNat (16 * x + y))
    have e3 : ((UInt8.ofNat (16 * x + y)).toNat : Int) = 16 * (x : Int) + y := by
     rw [UInt8.toNat_ofNat', Nat.mod_eq_of_lt (by omega)]
     omega
    rw [e3] at hP
    have e4 : IntKind.u8.wrap (16 * (x : Int) + y) = 16 * (x : Int) + y := by rw [IntKind.wrap_u8]; omega
    simp [-arith, c_view_pair, pairS, h0, h1, h2, ea, eb, ha, hb, nx, ny, q1, q2, e4, hP]
theorem WriteByte_eq (H : Heap) (bs : List UInt8) (c : UInt8) (hl : bs.length < 100000000) : eval tbl noExt n_pstrings_Builder_WriteByte [.bptr H.length, .int .u8 c.toNat] (H ++ [some [.bld bT bE bs]]) = some (.undef, H ++ [some [.bld bT bE (bs ++ [c])]]) := by
 have hc := c.toNat_lt
 have hc' : (c.toNat : Int) < 256 := by omega
 rw [eval_X (e := xWriteByte bT bE) rfl rfl]
 simp [xWriteByte, hc', hl]
theorem BString_eq (H : Heap) (bs : List UInt8) : eval tbl noExt n_pstrings_Builder_String [.bptr H.length] (H ++ [some [.bld bT bE bs]]) = some (.str bs, H ++ [none]) := by
 rw [eval_X (e := xString bT bE) rfl rfl]
 simp [xString]
theorem CutPrefix_eq (s : List UInt8) (c : UInt8) (hs : s.length ≤ 1000000) : eval tbl noExt n_strings_CutPrefix [.str s, .str [c]] [] = some (.tup [.str (if s.head? = some c then s.drop 1 else s), .bool (decide (s.head? = some c))], []) := by
 have h1 : eval tbl noExt n_isl_CutPrefix [.str s, .str [c]] [] = some (.tup [.str (if s.head? = some c then s.drop 1 else s), .bool (decide (s.head? = some c))], []) := by
  have hp := HasPrefix0 s [c] hs (by simp) []
  rw [eval_M rfl rfl t_isl_CutPrefix rfl]
  match s with
  | [] => simp [c_isl_CutPrefix, hp]
  | d :: r =>
   have e : [c].isPrefixOf (d :: r) = decide (d = c) := by
    rw [Bool.eq_iff_iff]; simp only [List.isPrefixOf, Bool.and_true, beq_iff_eq, decide_eq_true_eq]; exact eq_comm
   rw [e] at hp
   by_cases h : d = c
   ·subst h
    have h0 : (0 : Int) ≤ 1 ∧ (1 : Int) ≤ (r.length : Int) + 1 := by omega
    simp at hp
    simp [c_isl_CutPrefix, hp, h0]
   ·simp [h] at hp
    simp [c_isl_CutPrefix, hp, h]
 rw [eval_M rfl rfl t_strings_CutPrefix rfl]
 simp [c_strings_CutPrefix, h1]
theorem last_split {s : List UInt8} {c : UInt8} (h : s.getLast? = some c) : ∃ r, s = r ++ [c] := by
 obtain ⟨r, hr⟩ := List.getLast?_eq_some_iff.1 h
 exact ⟨r, hr⟩
theorem HasSuffix0 (s : List UInt8) (c : UInt8) (hs : s.length ≤ 1000000) : eval tbl noExt n_isl_HasSuffix [.str s, .str [c]] [] = some (.bool (decide (s.getLast? = some c)), []) := by
 rw [eval_M rfl rfl t_isl_HasSuffix rfl]
 rcases List.eq_nil_or_concat s with rfl | ⟨r, d, rfl⟩
 ·simp [c_isl_HasSuffix]
 ·rw [List.concat_eq_append] at *
  have h1 : (1 : Int) ≤ (r.length : Int) + 1 := by omega
  have h2 : IntKind.i64.wrap (r.length : Int) = r.length := by rw [w64] <;> simp at hs <;> omega
  have h3 : (r.length : Int) ≤ (r.length : Int) + 1 := by omega
  have h4 : (r ++ [d]).take (r.length + 1) = r ++ [d] := List.take_of_length_le (by simp)
  simp [c_isl_HasSuffix, h1, h2, h3, h4]
theorem CutSuffix_eq (s : List UInt8) (c : UInt8) (hs : s.length ≤ 1000000) : eval tbl noExt n_strings_CutSuffix [.str s, .str [c]] [] = some (.tup [.str (if s.getLast? = some c then s.dropLast else s), .bool (decide (s.getLast? = some c))], []) := by
 have h1 : eval tbl noExt n_isl_CutSuffix [.str s, .str [c]] [] = some (.tup [.str (if s.getLast? = some c then s.dropLast else s), .bool (decide (s.getLast? = some c))], []) := by
  have hp := HasSuffix0 s c hs
  rw [eval_M rfl rfl t_isl_CutSuffix rfl]
  by_cases h : s.getLast? = some c
  ·obtain ⟨r, rfl⟩ := last_split h
   have h2 : IntKind.i64.wrap (r.length : Int) = r.length := by rw [w64] <;> simp at hs <;> omega
   have h3 : (r.length : Int) ≤ (r.length : Int) + 1 := by omega
   simp at hp
   simp [c_isl_CutSuffix, hp, h2, h3]
  ·simp [h] at hp
   simp [c_isl_CutSuffix, hp, h]
 rw [eval_M rfl rfl t_strings_CutSuffix rfl]
 simp [c_strings_CutSuffix, h1]
def unqOut (acc : List UInt8) : Option (List UInt8) → V
 | some t => .tup [.str (acc ++ t), .bool true]
 | none => .tup [.str [], .bool false]
theorem unq_loop (H : Heap) : ∀ (n : Nat) (l acc : List UInt8) (φ : Fr), l.length ≤ n → l.length + acc.length ≤ 1000000 → Fr.get φ 4 = .str l → Fr.get φ 7 = .bptr H.length →
  M (eval tbl noExt) [.code l_view_Unquote_0, .blk 0, .code r_view_Unquote_0, .fin [.t 2, .t 3] H.length] φ (H ++ [some [.bld bT bE acc]]) = some (unqOut acc (unqL l), H) := by
 intro n
 induction n with
 | zero =>
  intro l acc φ hl ha h4 h7
  obtain rfl : l = [] := List.eq_nil_of_length_eq_zero (by omega)
  rw [l_view_Unquote_0, M_loop, ← l_view_Unquote_0]
  simp [b_view_Unquote_0, r_view_Unquote_0, h4, h7, BString_eq, unqL, unqOut]
 | succ n ih =>
  intro l acc φ hl ha h4 h7
  match l with
  | [] =>
   rw [l_view_Unquote_0, M_loop, ← l_view_Unquote_0]
   simp [b_view_Unquote_0, r_view_Unquote_0, h4, h7, BString_eq, unqL, unqOut]
  | c :: r =>
   simp only [List.length_cons] at hl ha
   have h1 : (0 : Int) < (r.length : Int) + 1 := by omega
   have h2 : (1 : Int) ≤ (r.length : Int) + 1 := by omega
   rw [l_view_Unquote_0, M_loop, ← l_view_Unquote_0]
   by_cases hc : c = 92
   ·subst hc
    have hP := pair_eq r (by omega)
    match r with
    | [] =>
     simp only [pairS] at hP
     simp [b_view_Unquote_0, h4, h7, h1, h2, hP, unqL, unqOut]
    | [a] =>
     simp only [pairS] at hP
     simp [b_view_Unquote_0, h4, h7, h1, h2, hP, unqL, unqOut]
    | a :: b :: t =>
     simp only [List.length_cons] at hl ha
     have h3 : (0 : Int) < (t.length : Int) + 1 + 1 + 1 := by omega
     have h5 : (1 : Int) ≤ (t.length : Int) + 1 + 1 + 1 := by omega
     have h6 : (2 : Int) ≤ (t.length : Int) + 1 + 1 := by omega
     have no : pairC a b = none → unqL (92 :: a :: b :: t) = none := by intro h; rw [unqL]; simp [h]
     have yes : ∀ d, pairC a b = some d → unqL (92 :: a :: b :: t) = (unqL t).map (d :: ·) := by intro d h; rw [unqL]; simp [h]
     cases hx : hexv a with
     | none =>
      simp [pairS, hx] at hP
      have := no (by simp [pairC, hx])
      simp [b_view_Unquote_0, h4, h7, h3, h5, h6, hP, this, unqOut]
     | some x =>
      cases hy : hexv b with
      | none =>
       simp [pairS, hx, hy] at hP
       have := no (by simp [pairC, hx, hy])
       simp [b_view_Unquote_0, h4, h7, h3, h5, h6, hP, this, unqOut]
      | some y =>
       have hx16 := hexv_lt hx
       have hy16 := hexv_lt hy
       have e3 : ((UInt8.ofNat (16 * x + y)).toNat : Int) = 16 * (x : Int) + y := by
        rw [UInt8.toNat_ofNat', Nat.mod_eq_of_lt (by omega)]
        omega
       have hP2 : eval tbl noExt n_view_pair [.str (a :: b :: t)] [] = some (.tup [.int .u8 (16 * (x : Int) + y), .bool (!plainC (UInt8.ofNat (16 * x + y)))], []) := by
        rw [hP]; simp only [pairS, hx, hy]; simp
       have hpc : pairC a b = if plainC (UInt8.ofNat (16 * x + y)) then none else some (UInt8.ofNat (16 * x + y)) := by simp only [pairC, hx, hy]
       generalize UInt8.ofNat (16 * x + y) = d at hP2 hpc e3
       cases hp : plainC d with
       | true =>
        have := no (by rw [hpc, hp]; rfl)
        rw [hp] at hP2
        simp [b_view_Unquote_0, h4, h7, h3, h5, h6, hP2, this, unqOut]
       | false =>
        have hY := yes d (by rw [hpc, hp]; rfl)
        rw [hp] at hP2
        have hW := WriteByte_eq H acc d (by omega)
        rw [e3] at hW
        simp [b_view_Unquote_0, h4, h7, h3, h5, h6, hP2, hW]
        rw [ih t (acc ++ [d]) _ (by omega) (by simp; omega) (by simp) (by simp [h7])]
        rw [hY]
        cases unqL t <;> simp [unqOut]
   ·have hq : ¬ (c.toNat : Int) = 92 := by
     intro h
     exact hc (by apply UInt8.toNat_inj.1; show c.toNat = 92; omega)
    have hP := plain_eq c
    have hu : unqL (c :: r) = if plainC c = true then (unqL r).map (c :: ·) else none := by
     rw [unqL.eq_def]; simp only [hc, if_false]
    cases hp : plainC c with
    | false =>
     rw [hp] at hP hu
     simp [b_view_Unquote_0, h4, h7, h1, h2, hq, hP, hu, unqOut]
    | true =>
     rw [hp] at hP hu
     have hW := WriteByte_eq H acc c (by omega)
     simp [b_view_Unquote_0, h4, h7, h1, h2, hq, hP, hW]
     rw [ih r (acc ++ [c]) _ (by omega) (by simp; omega) (by simp) (by simp [h7])]
     rw [hu]
     cases unqL r <;> simp [unqOut]
theorem Unquote_eq (s : List UInt8) (hs : s.length ≤ 1000000) (H : Heap) : eval tbl noExt n_view_Unquote [.str s] H = some (.tup [.str ((unq s).getD []), .bool (unq s).isSome], H) := by
 have hp := CutPrefix_eq s 34 hs
 rw [eval_M rfl rfl t_view_Unquote rfl]
 by_cases h : s.head? = some 34
 ·obtain ⟨r, rfl⟩ : ∃ r, s = 34 :: r := by
   cases s with
   | nil => cases h
   | cons c r => simp at h; subst h; exact ⟨r, rfl⟩
  simp only [List.length_cons] at hs
  have hq := CutSuffix_eq r 34 (by omega)
  simp at hp
  by_cases h2 : r.getLast? = some 34
  ·obtain ⟨t, rfl⟩ := last_split h2
   have hu : unq (34 :: (t ++ [34])) = unqL t := by simp [unq]
   simp at hq hs
   rw [hu]
   simp [c_view_Unquote, hp, hq]
   rw [unq_loop H t.length t [] _ (Nat.le_refl _) (by simp; omega) (by simp) (by simp)]
   cases unqL t <;> simp [unqOut]
  ·have hu : unq (34 :: r) = none := by simp [unq, h2]
   simp [h2] at hq
   rw [hu]
   simp [c_view_Unquote, hp, hq]
 ·have hq := CutSuffix_eq s 34 hs
  have hu : unq s = none := by
   unfold unq
   split
   ·rename_i r; simp at h
   ·rfl
  simp [h] at hp
  rw [hu]
  by_cases h2 : s.getLast? = some 34 <;> simp [h2] at hq <;> simp [c_view_Unquote, hp, hq]
theorem blank_contains (c : UInt8) : [32, 9, 10].contains c = isBlank c := by
 unfold isBlank
 have h : ∀ a : UInt8, (c == a) = decide (c.toNat = a.toNat) := by
  intro a
  rw [Bool.eq_iff_iff]
  simp only [beq_iff_eq, decide_eq_true_eq, ← UInt8.toNat_inj]
 simp only [List.contains_cons, List.contains_nil, h]
 simp [Bool.or_assoc]
theorem trimLeft_eq (s : List UInt8) (hs : s.length ≤ 1000000) (H : Heap) : eval tbl noExt n_strings_TrimLeft [.str s, .str [32, 9, 10]] H = some (.str (s.dropWhile isBlank), H) := by
 have e : Go.Lib.trimLeftS s [32, 9, 10] = s.dropWhile isBlank := by
  unfold Go.Lib.trimLeftS
  congr 1
  funext c
  exact blank_contains c
 rw [eval_X (e := xTrimLeft) rfl rfl]
 simp [xTrimLeft, hs, e]
def hashG : List UInt8 → List UInt8
 | [] => []
 | c :: r => if c = 35 then skipG true r else c :: r
theorem skip_dw : ∀ s : List UInt8, skipG false s = hashG (s.dropWhile isBlank)
 | [] => rfl
 | c :: l => by
  cases hb : isBlank c with
  | true =>
   rw [List.dropWhile_cons_of_pos hb]
   show (if isBlank c = true then skipG false l else _) = _
   rw [if_pos hb]
   exact skip_dw l
  | false =>
   rw [List.dropWhile_cons_of_neg (by simp [hb])]
   show (if isBlank c = true then skipG false l else _) = _
   rw [if_neg (by simp [hb])]
   rfl
theorem index_10 (c : UInt8) (l : List UInt8) : Go.Lib.indexByte (c :: l) 10 = if c = 10 then 0 else if Go.Lib.indexByte l 10 = -1 then -1 else Go.Lib.indexByte l 10 + 1 := by
 rw [Go.Lib.indexByte]
 by_cases h : c = 10
 ·subst h; rfl
 ·rw [if_neg (by simpa using h), if_neg h]
  by_cases h2 : Go.Lib.indexByte l 10 = -1
  ·rw [h2]; rfl
  ·rw [if_neg (by simpa using h2), if_neg h2]
theorem index_cases (l : List UInt8) (c : UInt8) : Go.Lib.indexByte l c = -1 ∨ ∃ n : Nat, Go.Lib.indexByte l c = n ∧ n < l.length := by
 induction l with
 | nil => exact .inl rfl
 | cons b l ih =>
  rw [Go.Lib.indexByte]
  by_cases h : (b == c) = true
  ·rw [if_pos h]; exact .inr ⟨0, rfl, by simp⟩
  ·rw [if_neg h]
   rcases ih with h2 | ⟨n, h2, h3⟩
   ·rw [h2]; exact .inl rfl
   ·rw [h2]
    have : ¬ (((n : Int) == -1) = true) := by simp
    rw [if_neg this]
    exact .inr ⟨n + 1, by omega, by simpa using h3⟩
theorem skip_com : ∀ r : List UInt8, skipG true r = if Go.Lib.indexByte r 10 = -1 then [] else skipG false (r.drop (Go.Lib.indexByte r 10).toNat)
 | [] => rfl
 | c :: l => by
  rw [index_10]
  show (if c = 10 then skipG false l else skipG true l) = _
  by_cases h : c = 10
  ·rw [if_pos h, if_pos h, if_neg (by decide)]
   subst h
   rfl
  ·rw [if_neg h, if_neg h, skip_com l]
   rcases index_cases l 10 with h2 | ⟨n, h2, h3⟩
   ·rw [h2]; rfl
   ·rw [h2]
    have h4 : ¬ (n : Int) = -1 := by omega
    have h5 : ¬ ((n : Int) + 1) = -1 := by omega
    rw [if_neg h4, if_neg h4, if_neg h5]
    have : ((n : Int) + 1).toNat = n + 1 := by omega
    rw [this, Int.toNat_natCast, List.drop_succ_cons]
theorem skip_loop (H : Heap) : ∀ (n : Nat) (s : List UInt8) (φ : Fr), s.length ≤ n → s.length ≤ 1000000 → Fr.get φ 0 = .str s →
  M (eval tbl noExt) [.code l_lex_skip_0, .blk 0, .fin [.t 2] H.length] φ H = some (.str (skipG false s), H) := by
 intro n
 induction n with
 | zero =>
  intro s φ hn hs h0
  have : s = [] := List.eq_nil_of_length_eq_zero (by omega)
  subst this
  have hT := trimLeft_eq [] hs []
  have hP := HasPrefix_eq [] [35] hs (by decide) []
  have e1 : ([] : List UInt8).dropWhile isBlank = [] := rfl
  have e2 : List.isPrefixOf [35] ([] : List UInt8) = false := rfl
  rw [e1] at hT
  rw [e2] at hP
  rw [l_lex_skip_0, M_loop, ← l_lex_skip_0]
  simp [b_lex_skip_0, h0, hT, hP, skipG]
 | succ n ih =>
  intro s φ hn hs h0
  have hT := trimLeft_eq s hs []
  rw [skip_dw]
  have hl : (s.dropWhile isBlank).length ≤ s.length := (List.dropWhile_sublist _).length_le
  generalize s.dropWhile isBlank = t at hT hl
  have hP := HasPrefix_eq t [35] (by omega) (by decide) []
  match t with
  | [] =>
   have e2 : List.isPrefixOf [35] ([] : List UInt8) = false := rfl
   rw [e2] at hP
   rw [l_lex_skip_0, M_loop, ← l_lex_skip_0]
   simp [b_lex_skip_0, h0, hT, hP, hashG]
  | c :: r =>
   by_cases h : c = 35
   ·subst h
    have e2 : List.isPrefixOf [35] (35 :: r) = true := by simp [List.isPrefixOf]
    have hI := IndexByte_eq (35 :: r) 10 []
    have e3 : ((10 : UInt8).toNat : Int) = 10 := rfl
    rw [e2] at hP
    rw [e3, index_10, if_neg (by decide)] at hI
    rw [show hashG (35 :: r) = skipG true r from rfl, skip_com]
    rw [l_lex_skip_0, M_loop, ← l_lex_skip_0]
    rcases index_cases r 10 with h2 | ⟨m, h2, h3⟩
    ·rw [h2] at hI ⊢
     simp at hI
     simp [b_lex_skip_0, h0, hT, hP, hI]
    ·have h4 : ¬ (m : Int) = -1 := by omega
     rw [h2, if_neg h4] at hI
     rw [h2, if_neg h4, Int.toNat_natCast]
     have h5 : ¬ ((m : Int) + 1 < 0) := by omega
     have h6 : (0 : Int) ≤ (m : Int) + 1 := by omega
     have h7 : (m : Int) + 1 ≤ (r.length : Int) + 1 := by omega
     have h8 : ((m : Int) + 1).toNat = m + 1 := by omega
     simp only [List.length_cons] at hl
     have hih := ih (r.drop m)
     have e : (35 :: r).drop (m + 1) = r.drop m := rfl
     simp [b_lex_skip_0, h0, hT, hP, hI, h5, h6, h7, h8]
     exact hih _ (by rw [List.length_drop]; omega) (by rw [List.length_drop]; omega) (by simp)
   ·have e2 : List.isPrefixOf [35] (c :: r) = false := by simp [List.isPrefixOf]; exact fun e => h e.symm
    rw [e2] at hP
    rw [show hashG (c :: r) = if c = 35 then skipG true r else c :: r from rfl, if_neg h]
    rw [l_lex_skip_0, M_loop, ← l_lex_skip_0]
    simp [b_lex_skip_0, h0, hT, hP]
theorem skip_eq (s : List UInt8) (hs : s.length ≤ 1000000) (H : Heap) : eval tbl noExt n_lex_skip [.str s] H = some (.str (skipG false s), H) := by
 rw [eval_M rfl rfl t_lex_skip rfl]
 simp [c_lex_skip]
 exact skip_loop H s.length s _ (Nat.le_refl _) hs (by simp)
/-! One word. -/
def zeroWd : List V := [iw 0, .str [], iw 0, iw 0]
/-- What a part of the scanner answers. -/
def ansOf : (Wd × Nat) ⊕ Int → V
 | .inl (w, n) => .tup [.agg (w.at 0), .int .i64 n, .int .i64 0]
 | .inr e => .tup [.agg zeroWd, .int .i64 0, .int .i64 e]
def wordP (s : List UInt8) : (Wd × Nat) ⊕ Int :=
 let w := s.takeWhile isInner
 if isKey w then .inl (⟨4, w, 0⟩, w.length) else if isName w then .inl (⟨1, w, 0⟩, w.length) else .inr 14
theorem word_eq (s : List UInt8) (hs : s.length ≤ 1000000) (H : Heap) : eval tbl noExt n_lex_word [.str s] H = some (ansOf (wordP s), H) := by
 have hr := run_inner s []
 have hw : (s.takeWhile isInner).length ≤ 1000000 := Nat.le_trans (List.takeWhile_sublist _).length_le hs
 unfold wordP
 generalize s.takeWhile isInner = w at hr hw
 have hK := Key_eq w hw []
 have hN := Name_eq w hw []
 rw [eval_M rfl rfl t_lex_word rfl]
 cases k : isKey w with
 | true =>
  rw [k] at hK
  simp [c_lex_word, hr, hK, ansOf, Wd.at, k]
 | false =>
  rw [k] at hK
  cases m : isName w with
  | true =>
   rw [m] at hN
   simp [c_lex_word, hr, hK, hN, ansOf, Wd.at, k, m]
  | false =>
   rw [m] at hN
   simp [c_lex_word, hr, hK, hN, ansOf, zeroWd, k, m]
theorem run_digit (s : List UInt8) (H : Heap) : eval tbl noExt n_lex_run [.str s, .fn (.func n_lex_digit) [] []] H = some (.str (s.takeWhile isDigit), H) := by
 rw [eval_X rfl rfl]
 simp [xRun]
 rfl
def numberP (s : List UInt8) : (Wd × Nat) ⊕ Int :=
 let w := s.takeWhile isDigit
 if (readR w).2 then .inl (⟨2, [], (readR w).1⟩, w.length) else .inr 12
theorem number_eq (s : List UInt8) (H : Heap) : eval tbl noExt n_lex_number [.str s] H = some (ansOf (numberP s), H) := by
 have hr := run_digit s []
 unfold numberP
 generalize s.takeWhile isDigit = w at hr
 have hR := read_eq (H := []) w
 rw [eval_M rfl rfl t_lex_number rfl]
 cases k : (readR w).2 with
 | true =>
  rw [k] at hR
  simp [c_lex_number, hr, hR, ansOf, Wd.at, k]
 | false =>
  rw [k] at hR
  simp [c_lex_number, hr, hR, ansOf, zeroWd, k]
theorem quoteEnd_index : ∀ r : List UInt8, Go.Lib.indexByte r 34 = (match quoteEnd r with | none => (-1 : Int) | some n => (n : Int))
 | [] => rfl
 | c :: l => by
  rw [Go.Lib.indexByte, quoteEnd]
  by_cases h : c = 34
  ·subst h; rfl
  ·rw [if_neg (by simpa using h), if_neg h, quoteEnd_index l]
   cases quoteEnd l with
   | none => rfl
   | some n =>
    have : ¬ (((n : Int) == -1) = true) := by simp
    simp only [Option.map_some]
    rw [if_neg this]
    show (n : Int) + 1 = ((n + 1 : Nat) : Int)
    omega
theorem quoteEnd_lt : ∀ (r : List UInt8) (n : Nat), quoteEnd r = some n → n < r.length ∧ r[n]? = some 34
 | [], n, h => by cases h
 | c :: l, n, h => by
  rw [quoteEnd] at h
  by_cases hc : c = 34
  ·rw [if_pos hc] at h
   cases h
   exact ⟨by simp, by simp [hc]⟩
  ·rw [if_neg hc] at h
   obtain ⟨m, hm, rfl⟩ := Option.map_eq_some_iff.1 h
   obtain ⟨h1, h2⟩ := quoteEnd_lt l m hm
   exact ⟨by simpa using h1, by simpa using h2⟩
def textP (r : List UInt8) : (Wd × Nat) ⊕ Int :=
 match quoteEnd r with
 | none => .inr 12
 | some n => match unq (34 :: (r.take n ++ [34])) with
  | none => .inr 12
  | some u => if 64 < u.length then .inr 14 else .inl (⟨3, u, 0⟩, n + 2)
theorem text_eq (r : List UInt8) (hs : r.length ≤ 100000) (H : Heap) : eval tbl noExt n_lex_text [.str (34 :: r)] H = some (ansOf (textP r), H) := by
 have hI := IndexByte_eq r 34 []
 have e3 : ((34 : UInt8).toNat : Int) = 34 := rfl
 rw [e3, quoteEnd_index] at hI
 have l0 : (1 : Int) ≤ (r.length : Int) + 1 := by omega
 unfold textP
 rw [eval_M rfl rfl t_lex_text rfl]
 cases q : quoteEnd r with
 | none =>
  rw [q] at hI
  simp only at hI
  simp [c_lex_text, hI, l0, ansOf, zeroWd]
 | some n =>
  rw [q] at hI
  obtain ⟨h1, h2⟩ := quoteEnd_lt r n q
  obtain ⟨m, hm⟩ : ∃ m, m = n + 2 := ⟨_, rfl⟩
  have w2 : IntKind.i64.wrap ((n : Int) + 2) = (m : Int) := by rw [w64] <;> omega
  have l1 : (m : Int) ≤ (r.length : Int) + 1 := by omega
  have l2 : ¬ (n : Int) < 0 := by omega
  have et : (34 :: r).take m = 34 :: (r.take n ++ [34]) := by
   rw [hm]
   show 34 :: r.take (n + 1) = _
   rw [List.take_add_one, h2]
   rfl
  have hU := Unquote_eq (34 :: (r.take n ++ [34])) (by simp; omega) []
  simp only at hI ⊢
  cases u : unq (34 :: (r.take n ++ [34])) with
  | none =>
   rw [u] at hU
   simp at hU
   simp [c_lex_text, hI, l0, l2, w2, l1, et, hU, ansOf, zeroWd]
  | some t =>
   rw [u] at hU
   simp at hU
   by_cases h64 : 64 < t.length
   ·have h64' : (64 : Int) < t.length := by omega
    simp [c_lex_text, hI, l0, l2, w2, l1, et, hU, h64, h64', ansOf, zeroWd]
   ·have h64' : ¬ (64 : Int) < t.length := by omega
    rw [← hm]
    simp [c_lex_text, hI, l0, l2, w2, l1, et, hU, h64, h64', ansOf, Wd.at]
def signP (c : UInt8) (r : List UInt8) : (Wd × Nat) ⊕ Int :=
 if c = 61 ∧ r.head? = some 61 then .inl (⟨5, [61, 61], 0⟩, 2)
 else if signsL.contains c then .inl (⟨5, [c], 0⟩, 1)
 else .inr 12
theorem index_mem (c : UInt8) : ∀ l : List UInt8, decide (0 ≤ Go.Lib.indexByte l c) = l.contains c
 | [] => rfl
 | b :: l => by
  have ih := index_mem c l
  rw [Go.Lib.indexByte, List.contains_cons]
  by_cases h : b = c
  ·subst h; simp
  ·have h2 : (c == b) = false := by simp; exact fun e => h e.symm
   rw [if_neg (by simpa using h), h2, Bool.false_or, ← ih]
   rcases index_cases l c with h3 | ⟨n, h3, _⟩
   ·rw [h3]; rfl
   ·rw [h3]
    have : ¬ (((n : Int) == -1) = true) := by simp
    rw [if_neg this]
    simp
    omega
theorem sign_eq (c : UInt8) (r : List UInt8) (hs : r.length ≤ 100000) (H : Heap) : eval tbl noExt n_lex_sign [.str (c :: r)] H = some (ansOf (signP c r), H) := by
 have hP := HasPrefix_eq (c :: r) [61, 61] (by simp; omega) (by decide) []
 have hI := IndexByte_eq signsL c []
 have hm := index_mem c signsL
 rw [eval_M rfl rfl t_lex_sign rfl]
 unfold signP
 by_cases h : c = 61 ∧ r.head? = some 61
 ·have e : List.isPrefixOf [61, 61] (c :: r) = true := by
   obtain ⟨rfl, h2⟩ := h
   cases r with
   | nil => cases h2
   | cons d r =>
    have : d = 61 := by simpa using h2
    subst this
    simp [List.isPrefixOf]
  rw [e] at hP
  rw [if_pos h]
  simp [c_lex_sign, hP, ansOf, Wd.at]
 ·have e : List.isPrefixOf [61, 61] (c :: r) = false := by
   rw [Bool.eq_false_iff]
   intro hh
   apply h
   match r, hh with
   | [], hh => simp [List.isPrefixOf] at hh
   | d :: r, hh =>
    simp [List.isPrefixOf] at hh
    exact ⟨hh.1.symm, by simp [hh.2.symm]⟩
  rw [e] at hP
  rw [if_neg h]
  cases k : signsL.contains c with
  | true =>
   rw [k] at hm
   have hm' : (0 : Int) ≤ Go.Lib.indexByte signsL c := by simpa using hm
   simp only [signsL] at hI hm'
   have l0 : (1 : Int) ≤ (r.length : Int) + 1 := by omega
   simp [c_lex_sign, hP, hI, hm', l0, ansOf, Wd.at]
  | false =>
   rw [k] at hm
   have hm' : ¬ (0 : Int) ≤ Go.Lib.indexByte signsL c := by simpa using hm
   simp only [signsL] at hI hm'
   simp [c_lex_sign, hP, hI, hm', ansOf, zeroWd]
theorem digit_eq (c : UInt8) (H : Heap) : eval tbl noExt n_lex_digit [.int .i32 c.toNat] H = some (.bool (isDigit c), H) := by
 have h1 := le_u8 48 c
 have h2 := le_u8 c 57
 simp only [UInt8.reduceToNat] at h1 h2
 rw [eval_M rfl rfl t_lex_digit rfl]
 unfold isDigit
 rw [← h1, ← h2]
 by_cases h : (48 : Int) ≤ c.toNat
 ·simp [c_lex_digit, h]
 ·simp [c_lex_digit, h]
theorem begins_digit (c : UInt8) (l : List UInt8) (H : Heap) : eval tbl noExt n_lex_begins [.str (c :: l), .fn (.func n_lex_digit) [] []] H = some (.bool (isDigit c), H) := by
 rw [eval_M rfl rfl t_lex_begins rfl]
 simp [c_lex_begins, w32, digit_eq]
theorem oneS_cons (c : UInt8) (r : List UInt8) : oneS (c :: r) = if isLetter c then wordP (c :: r) else if isDigit c then numberP (c :: r) else if c = 34 then textP r else signP c r := rfl
theorem ans_shape (x : (Wd × Nat) ⊕ Int) : ∃ k u n a m e, ansOf x = .tup [.agg [iw k, .str u, iw n, iw a], .int .i64 m, .int .i64 e] := by
 match x with
 | .inl (w, n) => exact ⟨_, _, _, _, _, _, rfl⟩
 | .inr e => exact ⟨_, _, _, _, _, _, rfl⟩
theorem next_eq (c : UInt8) (r : List UInt8) (hs : r.length ≤ 10000) (H : Heap) : eval tbl noExt n_lex_next [.str (c :: r)] H = some (ansOf (oneS (c :: r)), H) := by
 have hb := begins_eq (c :: r) []
 have hd := begins_digit c r []
 have hW := word_eq (c :: r) (by simp; omega) []
 have hN := number_eq (c :: r) []
 have hS := sign_eq c r (by omega) []
 rw [oneS_cons, eval_M rfl rfl t_lex_next rfl]
 simp only at hb
 cases b1 : isLetter c with
 | true =>
  rw [b1] at hb
  obtain ⟨k, u, n, a, m, e, h1⟩ := ans_shape (wordP (c :: r))
  rw [h1] at hW
  simp [c_lex_next, hb, hW, h1]
 | false =>
  rw [b1] at hb
  cases b2 : isDigit c with
  | true =>
   rw [b2] at hd
   obtain ⟨k, u, n, a, m, e, h1⟩ := ans_shape (numberP (c :: r))
   rw [h1] at hN
   simp [c_lex_next, hb, hd, hN, h1]
  | false =>
   rw [b2] at hd
   by_cases b3 : c = 34
   ·subst b3
    have hT := text_eq r (by omega) []
    obtain ⟨k, u, n, a, m, e, h1⟩ := ans_shape (textP r)
    rw [h1] at hT
    simp [c_lex_next, hb, hd, hT, h1]
   ·have b4 : ¬ (c.toNat : Int) = 34 := by
     intro h
     exact b3 (UInt8.toNat_inj.1 (by show c.toNat = 34; omega))
    obtain ⟨k, u, n, a, m, e, h1⟩ := ans_shape (signP c r)
    rw [h1] at hS
    simp [c_lex_next, hb, hd, hS, h1, b3, b4]
/-- A word is not empty, nor longer than what is there. -/
theorem oneS_len (c : UInt8) (r : List UInt8) (w : Wd) (n : Nat) (h : oneS (c :: r) = .inl (w, n)) : 0 < n ∧ n ≤ r.length + 1 := by
 rw [oneS_cons] at h
 have tw : ∀ p : UInt8 → Bool, p c = true → 0 < ((c :: r).takeWhile p).length ∧ ((c :: r).takeWhile p).length ≤ r.length + 1 := by
  intro p hp
  refine ⟨by rw [List.takeWhile_cons_of_pos hp]; simp, ?_⟩
  have := (List.takeWhile_sublist (l := c :: r) p).length_le
  simpa using this
 split at h
 ·rename_i hl
  have hi : isInner c = true := by unfold isInner; simp [hl]
  have := tw isInner hi
  unfold wordP at h
  simp only at h
  split at h
  ·cases h; exact this
  ·split at h
   ·cases h; exact this
   ·cases h
 ·split at h
  ·rename_i hd
   have := tw isDigit hd
   unfold numberP at h
   simp only at h
   split at h
   ·cases h; exact this
   ·cases h
  ·split at h
   ·unfold textP at h
    split at h
    ·cases h
    ·rename_i m hm
     have := (quoteEnd_lt r m hm).1
     split at h
     ·cases h
     ·split at h
      ·cases h
      ·cases h; omega
   ·unfold signP at h
    split at h
    ·rename_i hs
     cases h
     cases r with
     | nil => exact absurd hs.2 (by simp)
     | cons d r => simp
    ·split at h
     ·cases h; omega
     ·cases h
theorem oneS_err (c : UInt8) (r : List UInt8) (e : Int) (h : oneS (c :: r) = .inr e) : e ≠ 0 := by
 rw [oneS_cons] at h
 split at h
 ·unfold wordP at h
  simp only at h
  split at h
  ·cases h
  ·split at h <;> cases h
   decide
 ·split at h
  ·unfold numberP at h
   simp only at h
   split at h <;> cases h
   decide
  ·split at h
   ·unfold textP at h
    split at h
    ·cases h; decide
    ·split at h
     ·cases h; decide
     ·split at h <;> cases h
      decide
   ·unfold signP at h
    split at h
    ·cases h
    ·split at h <;> cases h
     decide
/-- What Words answers, as values. -/
def wordsV (x : (List (List V)) × Int × Int) : V := .tup [.sl 4 x.1, .agg [iw x.2.1, iw x.2.2]]
theorem words_loop (H : Heap) (s : List UInt8) (hs : s.length ≤ 4096) : ∀ (f : Nat) (l : List UInt8) (acc : List (List V)) (φ : Fr) (K : Heap), l.length < f → l.length ≤ s.length → acc.length + l.length ≤ s.length →
  K.take H.length = H → K[H.length]? = some (some [iw 0, iw 0]) → Fr.get φ 0 = .str s → Fr.get φ 3 = .ptr H.length 0 → Fr.get φ 4 = .own 4 acc → Fr.get φ 5 = .str l →
  M (eval tbl noExt) [.code l_lex_Words_0, .blk 0, .code r_lex_Words_0, .fin [.t 2, .cell 3 (some 2)] H.length] φ K = some (wordsV (wordsG s.length f l acc), H) := by
 intro f
 induction f with
 | zero => intro l acc φ K hf; omega
 | succ f ih =>
  intro l acc φ K hf hl ha hK hc h0 h3 h4 h5
  have hKl : H.length < K.length := (List.getElem?_eq_some_iff.1 hc).1
  have hb : 2 * (acc.length + 1) * 40 ≤ 281474976710656 := by omega
  have e1 : ∀ x, (K.set H.length x)[H.length]? = some x := fun x => by simp [hKl]
  have e2 : ∀ x, (K.set H.length x).take H.length = H := fun x => by rw [List.take_set_of_le (Nat.le_refl _)]; exact hK
  match l with
  | [] =>
   rw [l_lex_Words_0, M_loop, ← l_lex_Words_0]
   simp [b_lex_Words_0, h0, h3, h4, h5]
   simp [r_lex_Words_0, h0, h3, h4, h5, hb, hc, wordsV, wordsG, e1, e2]
  | c :: r =>
   have hX := next_eq c r (by simp at hl; omega) []
   have e3 : ∀ x, (K ++ [x])[H.length]? = some (some [iw 0, iw 0]) := fun x => by rw [List.getElem?_append_left hKl]; exact hc
   have e4 : ∀ x y, ((K ++ [x]).set H.length y)[H.length]? = some y := fun x y => by rw [List.getElem?_set_self (by simp; omega)]
   have e5 : ∀ x y, ((K ++ [x]).set H.length y).take H.length = H := fun x y => by rw [List.take_set_of_le (Nat.le_refl _), List.take_append_of_le_length (by omega)]; exact hK
   simp only [List.length_cons] at hf hl ha
   have hw : IntKind.i64.wrap ((s.length : Int) - ((r.length : Int) + 1)) = ((s.length - (r.length + 1) : Nat) : Int) := by rw [w64] <;> omega
   have eG : wordsG s.length (f + 1) (c :: r) acc = (match oneS (c :: r) with
    | .inr e => ([], e, ((s.length - (r.length + 1) : Nat) : Int))
    | .inl (w, n) => wordsG s.length f (skipG false ((c :: r).drop n)) (acc ++ [w.at ((s.length - (r.length + 1) : Nat) : Int)])) := by
    rw [wordsG, if_neg (by simp)]
    rfl
   rw [eG]
   rw [l_lex_Words_0, M_loop, ← l_lex_Words_0]
   cases ho : oneS (c :: r) with
   | inr e =>
    have he := oneS_err c r e ho
    rw [ho] at hX
    simp only [ansOf, zeroWd] at hX
    simp [b_lex_Words_0, h0, h3, h4, h5, hX, hw, get0, set0, e3, e4, e5, he, wordsV]
   | inl p =>
    obtain ⟨w, n⟩ := p
    obtain ⟨n0, n1⟩ := oneS_len c r w n ho
    have hS := skip_eq ((c :: r).drop n) (by rw [List.length_drop]; simp; omega) []
    have hle := skipG_le false ((c :: r).drop n)
    rw [List.length_drop, List.length_cons] at hle
    have hi := ih (skipG false ((c :: r).drop n)) (acc ++ [w.at ((s.length - (r.length + 1) : Nat) : Int)])
    rw [ho] at hX
    show _ = some (wordsV (wordsG s.length f (skipG false ((c :: r).drop n)) (acc ++ [w.at ((s.length - (r.length + 1) : Nat) : Int)])), H)
    generalize skipG false ((c :: r).drop n) = t at hS hle hi ⊢
    simp only [ansOf, Wd.at] at hX hi ⊢
    have d1 : (n : Int) ≤ (r.length : Int) + 1 := by omega
    simp [b_lex_Words_0, h0, h3, h4, h5, hX, hw, get0, set0, e3, e4, e5, hb, hS, d1]
    refine hi _ _ (by omega) (by omega) (by simp; omega) ?_ ?_ ?_ ?_ ?_ ?_ <;> simp [e3, h0, h3, hK, List.take_append_of_le_length (Nat.le_of_lt hKl)]
theorem Words_eq (s : List UInt8) (hs : s.length ≤ 1000000) (H : Heap) : eval tbl noExt n_lex_Words [.str s] H = some (wordsV (wordsS s), H) := by
 rw [eval_M rfl rfl t_lex_Words rfl]
 unfold wordsS
 by_cases h : 4096 < s.length
 ·have h' : (4096 : Int) < s.length := by omega
  rw [if_pos h]
  simp [c_lex_Words, h, h', wordsV]
 ·have h' : ¬ (4096 : Int) < s.length := by omega
  rw [if_neg h]
  have hS := skip_eq s hs []
  have hle := skipG_le false s
  simp [c_lex_Words, h, h', hS]
  exact words_loop H s (by omega) (s.length + 1) (skipG false s) [] _ _ (by omega) hle (by simpa using hle) (by simp) (by simp) (by simp) (by simp) (by simp) (by simp)
def signList : List (List UInt8) := [[123], [125], [40], [41], [59], [44], [58], [43], [45], [60], [61], [61, 61]]
theorem sign_one (c : UInt8) : signList.contains [c] = signsL.contains c := by
 simp [signList, signsL]
theorem toNat_eq (c : UInt8) (n : Nat) (hn : n < 256) : c.toNat = n ↔ c = UInt8.ofNat n := by
 rw [← UInt8.toNat_inj, UInt8.toNat_ofNat']
 omega
theorem drop_at {s : List UInt8} {i : Nat} (h : i < s.length) : s.drop i = s[i] :: s.drop (i + 1) := List.drop_eq_getElem_cons h
/-- The comment's end. -/
theorem refSkip_com (s : List UInt8) (hs : s.length ≤ 1000000) (H : Heap) (R : Option (V × Heap)) (k : List Item) (T : List UInt8) (lo : Nat)
  (hk : ∀ (φ' : Fr) (j : Nat), lo ≤ j → j ≤ s.length → (j = s.length ∨ s[j]? = some 10) → skipG false (s.drop j) = T → Fr.get φ' 0 = .str s → Fr.get φ' 1 = .int .i64 j → M (eval tbl noExt) k φ' H = R) :
  ∀ (n j : Nat) (φ : Fr), lo ≤ j → s.length - j ≤ n → j ≤ s.length → skipG true (s.drop j) = T → Fr.get φ 0 = .str s → Fr.get φ 1 = .int .i64 j →
   M (eval tbl noExt) (.code l_r15_skip_0 :: .blk 2 :: k) φ H = R := by
 intro n
 induction n with
 | zero =>
  intro j φ hlo hn hj hT h0 h1
  have hj' : j = s.length := by omega
  have hi : ¬ ((j : Int) < s.length) := by omega
  rw [l_r15_skip_0, M_loop, ← l_r15_skip_0]
  simp [b_r15_skip_0, h0, h1, hi]
  refine hk _ j hlo hj (.inl hj') ?_ (by simp [h0]) (by simp [h1])
  subst hj'
  rw [List.drop_length] at hT ⊢
  exact hT
 | succ n ih =>
  intro j φ hlo hn hj hT h0 h1
  by_cases hl : j < s.length
  ·have hi : (j : Int) < s.length := by omega
   have hg : s[j]? = some s[j] := List.getElem?_eq_getElem hl
   have hw1 : IntKind.i64.wrap ((j : Int) + 1) = ((j + 1 : Nat) : Int) := by rw [w64 (by omega) (by omega)]; rfl
   rw [drop_at hl] at hT
   rw [l_r15_skip_0, M_loop, ← l_r15_skip_0]
   by_cases hc : s[j] = 10
   ·have h10 : ((s[j]).toNat : Int) = 10 := by rw [hc]; rfl
    simp [b_r15_skip_0, h0, h1, hi, hl, hg, hc]
    refine hk _ j hlo hj (.inr (by rw [hg, hc])) ?_ (by simp [h0]) (by simp [h1])
    rw [drop_at hl, ← hT, hc]
    rfl
   ·have h10 : ¬ (((s[j]).toNat : Int) = 10) := by
     intro h
     exact hc ((toNat_eq _ 10 (by omega)).1 (by omega))
    simp [b_r15_skip_0, h0, h1, hi, hl, hg, h10, hw1]
    refine ih (j + 1) _ (by omega) (by omega) (by omega) ?_ (by simp [h0]) (by simp)
    rw [← hT]
    show _ = (if s[j] = 10 then _ else skipG true (s.drop (j + 1)))
    rw [if_neg hc]
  ·have hi : ¬ ((j : Int) < s.length) := by omega
   rw [l_r15_skip_0, M_loop, ← l_r15_skip_0]
   simp [b_r15_skip_0, h0, h1, hi]
   refine hk _ j hlo hj (.inl (by omega)) ?_ (by simp [h0]) (by simp [h1])
   have hj' : j = s.length := by omega
   subst hj'
   rw [List.drop_length] at hT ⊢
   exact hT
theorem refSkip_loop (s : List UInt8) (hs : s.length ≤ 1000000) (H : Heap) : ∀ (n i : Nat) (φ : Fr), s.length - i ≤ n → i ≤ s.length → Fr.get φ 0 = .str s → Fr.get φ 1 = .int .i64 i →
  M (eval tbl noExt) [.code l_r15_skip_1, .blk 0, .code r_r15_skip_1, .fin [.t 4] H.length] φ H = some (.int .i64 ((s.length - (skipG false (s.drop i)).length : Nat) : Int), H) := by
 intro n
 induction n with
 | zero =>
  intro i φ hn hj h0 h1
  have hj' : i = s.length := by omega
  have hi : ¬ ((i : Int) < s.length) := by omega
  rw [l_r15_skip_1, M_loop, ← l_r15_skip_1]
  simp [b_r15_skip_1, h0, h1, hi]
  simp [r_r15_skip_1, h0, h1, hj', skipG]
 | succ n ih =>
  intro i φ hn hj h0 h1
  by_cases hl : i < s.length
  ·have hi : (i : Int) < s.length := by omega
   have hg : s[i]? = some s[i] := List.getElem?_eq_getElem hl
   have hw1 : IntKind.i64.wrap ((i : Int) + 1) = ((i + 1 : Nat) : Int) := by rw [w64 (by omega) (by omega)]; rfl
   rw [l_r15_skip_1, M_loop, ← l_r15_skip_1]
   by_cases h35 : s[i] = 35
   ·have e35 : ((s[i]).toNat : Int) = 35 := by rw [h35]; rfl
    simp [b_r15_skip_1, h0, h1, hi, hl, hg, h35]
    have hT : skipG true (s.drop i) = skipG false (s.drop i) := by
     rw [drop_at hl, h35]
     rfl
    refine refSkip_com s hs H _ _ (skipG false (s.drop i)) i (fun φ' j q0 q1 q2 q3 q4 q5 => ?_) s.length i _ (Nat.le_refl _) (by omega) hj hT (by simp [h0]) (by simp [h1])
    have hne : j ≠ i := by
     rintro rfl
     rcases q2 with q2 | q2
     ·omega
     ·rw [hg, h35] at q2; cases q2
    have := ih j (Fr.mask φ' [0, 1]) (by omega) q1 (by simp [q4]) (by simp [q5])
    rw [q3] at this
    simp
    first
     | exact this
     | (rw [← q3]; exact ih j _ (by omega) q1 (by simp [q4]) (by simp [q5]))
   ·have e35 : ¬ ((s[i]).toNat : Int) = 35 := by
     intro h
     exact h35 ((toNat_eq _ 35 (by omega)).1 (by omega))
    have hd : skipG false (s.drop i) = if isBlank s[i] then skipG false (s.drop (i + 1)) else s.drop i := by
     rw [drop_at hl]
     show (if isBlank s[i] = true then _ else if s[i] = 35 then _ else _) = _
     rw [if_neg h35]
    have hlen : s.length - (s.drop i).length = i := by rw [List.length_drop]; omega
    rw [hd]
    by_cases b1 : ((s[i]).toNat : Int) = 32
    ·have hb : isBlank s[i] = true := by unfold isBlank; simp; omega
     rw [if_pos hb]
     simp [b_r15_skip_1, r_r15_skip_0, h0, h1, hi, hl, hg, e35, b1, hw1]
     exact ih (i + 1) _ (by omega) (by omega) (by simp [h0]) (by simp)
    ·by_cases b2 : ((s[i]).toNat : Int) = 9
     ·have hb : isBlank s[i] = true := by unfold isBlank; simp; omega
      rw [if_pos hb]
      simp [b_r15_skip_1, r_r15_skip_0, h0, h1, hi, hl, hg, e35, b1, b2, hw1]
      exact ih (i + 1) _ (by omega) (by omega) (by simp [h0]) (by simp)
     ·by_cases b3 : ((s[i]).toNat : Int) = 10
      ·have hb : isBlank s[i] = true := by unfold isBlank; simp; omega
       rw [if_pos hb]
       simp [b_r15_skip_1, r_r15_skip_0, h0, h1, hi, hl, hg, e35, b1, b2, b3, hw1]
       exact ih (i + 1) _ (by omega) (by omega) (by simp [h0]) (by simp)
      ·have hb : isBlank s[i] = false := by unfold isBlank; simp; omega
       rw [if_neg (by simp [hb]), hlen]
       simp [b_r15_skip_1, r_r15_skip_0, h0, h1, hi, hl, hg, e35, b1, b2, b3]
  ·have hj' : i = s.length := by omega
   have hi : ¬ ((i : Int) < s.length) := by omega
   rw [l_r15_skip_1, M_loop, ← l_r15_skip_1]
   simp [b_r15_skip_1, h0, h1, hi]
   simp [r_r15_skip_1, h0, h1, hj', skipG]
theorem refSkip_eq (s : List UInt8) (hs : s.length ≤ 1000000) (i : Nat) (hi : i ≤ s.length) (H : Heap) : eval tbl noExt n_r15_skip [.str s, .int .i64 i] H = some (.int .i64 ((s.length - (skipG false (s.drop i)).length : Nat) : Int), H) := by
 rw [eval_M rfl rfl t_r15_skip rfl]
 simp [c_r15_skip]
 exact refSkip_loop s hs H s.length i _ (by omega) hi (by simp) (by simp)
theorem refSign_loop (s : List UInt8) (l : List (List UInt8)) (hl : l.length ≤ 1000) (H : Heap) (call : CallF) (Q : Option (V × Heap) → Prop) (k : List Item)
  (hret : ∀ φ', l.contains s = true → Fr.get φ' 2 = .bool true → Q (retK k φ' H)) (hexit : ∀ φ', l.contains s = false → Q (M call k φ' H)) :
  ∀ (j i : Nat) (φ : Fr), i + j = l.length → l.contains s = (l.drop i).contains s → Fr.get φ 0 = .str s → Fr.get φ 3 = .own 1 (l.map fun w => [.str w]) → Fr.get φ 4 = .int .i64 i →
   Q (M call (.code l_r15_Sign_0 :: .blk 0 :: k) φ H) := by
 intro j
 induction j with
 | zero =>
  intro i φ hj hs h0 h3 h4
  have hi : ¬ ((i : Int) < l.length) := by omega
  rw [List.drop_of_length_le (by omega)] at hs
  rw [l_r15_Sign_0, M_loop, ← l_r15_Sign_0]
  simp [b_r15_Sign_0, h0, h3, h4, hi]
  exact hexit _ (by rw [hs]; rfl)
 | succ j ih =>
  intro i φ hj hs h0 h3 h4
  have hi : (i : Int) < l.length := by omega
  have hil : i < l.length := by omega
  obtain ⟨a, ha, hd⟩ : ∃ a, l[i]? = some a ∧ l.drop i = a :: l.drop (i + 1) := ⟨l[i], List.getElem?_eq_getElem hil, List.drop_eq_getElem_cons hil⟩
  have hr : (l.map fun w => [V.str w])[i]? = some [.str a] := by rw [List.getElem?_map, ha]; rfl
  have hgl : (l.map fun w => [V.str w]).length = l.length := List.length_map ..
  have hw1 : IntKind.i64.wrap ((i : Int) + 1) = ((i + 1 : Nat) : Int) := by rw [w64 (by omega) (by omega)]; rfl
  rw [hd, List.contains_cons] at hs
  rw [l_r15_Sign_0, M_loop, ← l_r15_Sign_0]
  by_cases hb : a = s
  ·have hb2 : (s == a) = true := by simp [hb]
   rw [hb2, Bool.true_or] at hs
   simp [b_r15_Sign_0, h0, h3, h4, hi, hgl, hr, hb]
   exact hret _ hs (by simp)
  ·have hb2 : (s == a) = false := by simp; exact fun h => hb h.symm
   rw [hb2, Bool.false_or] at hs
   simp [b_r15_Sign_0, h0, h3, h4, hi, hgl, hr, hb, hw1]
   exact ih (i + 1) _ (by omega) hs (by simp [h0]) (by simp [h3]) (by simp)
def notQ (c : UInt8) : Bool := !(c == 34)
theorem u8_eq34 (c : UInt8) : (!decide ((c.toNat : Int) = 34)) = notQ c := by
 unfold notQ
 have := eq_u8 c 34
 rw [show ((34 : UInt8).toNat : Int) = 34 from rfl] at this
 rw [this]
theorem scan0 (s : List UInt8) (hs : s.length ≤ 1000000) (H : Heap) (R : Option (V × Heap)) (k : List Item) (i E : Nat) (t2 : V)
  (hk : ∀ (φ' : Fr), Fr.get φ' 0 = .str s → Fr.get φ' 1 = .int .i64 i → Fr.get φ' 4 = t2 → Fr.get φ' 7 = .int .i64 E → M (eval tbl noExt) k φ' H = R) :
  ∀ (n e : Nat) (φ : Fr), s.length - e ≤ n → e ≤ s.length → e + ((s.drop e).takeWhile isInner).length = E → Fr.get φ 0 = .str s → Fr.get φ 1 = .int .i64 i → Fr.get φ 4 = t2 → Fr.get φ 7 = .int .i64 e →
   M (eval tbl noExt) (.code l_r15_one_0 :: .blk 0 :: k) φ H = R := by
 intro n
 induction n with
 | zero =>
  intro e φ hn he hE h0 h1 h4 h7
  have he' : e = s.length := by omega
  have hi : ¬ ((e : Int) < s.length) := by omega
  have hE' : E = e := by
   rw [← hE, he', List.drop_length]
   rfl
  rw [l_r15_one_0, M_loop, ← l_r15_one_0]
  simp [b_r15_one_0, h0, h1, h4, h7, hi]
  exact hk _ (by simp [h0]) (by simp [h1]) (by simp [h4]) (by simp [h7, hE'])
 | succ n ih =>
  intro e φ hn he hE h0 h1 h4 h7
  by_cases hl : e < s.length
  ·have hi : (e : Int) < s.length := by omega
   have hg : s[e]? = some s[e] := List.getElem?_eq_getElem hl
   have hw1 : IntKind.i64.wrap ((e : Int) + 1) = ((e + 1 : Nat) : Int) := by rw [w64 (by omega) (by omega)]; rfl
   have hc := refInner_eq s[e] []
   rw [drop_at hl] at hE
   rw [l_r15_one_0, M_loop, ← l_r15_one_0]
   cases hp : isInner s[e] with
   | true =>
    rw [List.takeWhile_cons_of_pos hp, List.length_cons] at hE
    rw [hp] at hc
    simp [b_r15_one_0, h0, h1, h4, h7, hi, hl, hg, hc, hw1]
    exact ih (e + 1) _ (by omega) (by omega) (by omega) (by simp [h0]) (by simp [h1]) (by simp [h4]) (by simp)
   | false =>
    rw [List.takeWhile_cons_of_neg (by simp [hp])] at hE
    rw [hp] at hc
    simp [b_r15_one_0, h0, h1, h4, h7, hi, hl, hg, hc]
    exact hk _ (by simp [h0]) (by simp [h1]) (by simp [h4]) (by simp [h7, show e = E by simpa using hE])
  ·have he' : e = s.length := by omega
   have hi : ¬ ((e : Int) < s.length) := by omega
   have hE' : E = e := by
    rw [← hE, he', List.drop_length]
    rfl
   rw [l_r15_one_0, M_loop, ← l_r15_one_0]
   simp [b_r15_one_0, h0, h1, h4, h7, hi]
   exact hk _ (by simp [h0]) (by simp [h1]) (by simp [h4]) (by simp [h7, hE'])
theorem scan1 (s : List UInt8) (hs : s.length ≤ 1000000) (H : Heap) (R : Option (V × Heap)) (k : List Item) (i E : Nat) (t2 : V)
  (hk : ∀ (φ' : Fr), Fr.get φ' 0 = .str s → Fr.get φ' 1 = .int .i64 i → Fr.get φ' 4 = t2 → Fr.get φ' 7 = .int .i64 E → M (eval tbl noExt) k φ' H = R) :
  ∀ (n e : Nat) (φ : Fr), s.length - e ≤ n → e ≤ s.length → e + ((s.drop e).takeWhile Go.AM.isDigit).length = E → Fr.get φ 0 = .str s → Fr.get φ 1 = .int .i64 i → Fr.get φ 4 = t2 → Fr.get φ 7 = .int .i64 e →
   M (eval tbl noExt) (.code l_r15_one_1 :: .blk 2 :: k) φ H = R := by
 intro n
 induction n with
 | zero =>
  intro e φ hn he hE h0 h1 h4 h7
  have he' : e = s.length := by omega
  have hi : ¬ ((e : Int) < s.length) := by omega
  have hE' : E = e := by
   rw [← hE, he', List.drop_length]
   rfl
  rw [l_r15_one_1, M_loop, ← l_r15_one_1]
  simp [b_r15_one_1, h0, h1, h4, h7, hi]
  exact hk _ (by simp [h0]) (by simp [h1]) (by simp [h4]) (by simp [h7, hE'])
 | succ n ih =>
  intro e φ hn he hE h0 h1 h4 h7
  by_cases hl : e < s.length
  ·have hi : (e : Int) < s.length := by omega
   have hg : s[e]? = some s[e] := List.getElem?_eq_getElem hl
   have hw1 : IntKind.i64.wrap ((e : Int) + 1) = ((e + 1 : Nat) : Int) := by rw [w64 (by omega) (by omega)]; rfl
   have hc := refDigit_eq s[e] []
   rw [drop_at hl] at hE
   rw [l_r15_one_1, M_loop, ← l_r15_one_1]
   cases hp : Go.AM.isDigit s[e] with
   | true =>
    rw [List.takeWhile_cons_of_pos hp, List.length_cons] at hE
    rw [hp] at hc
    simp [b_r15_one_1, h0, h1, h4, h7, hi, hl, hg, hc, hw1]
    exact ih (e + 1) _ (by omega) (by omega) (by omega) (by simp [h0]) (by simp [h1]) (by simp [h4]) (by simp)
   | false =>
    rw [List.takeWhile_cons_of_neg (by simp [hp])] at hE
    rw [hp] at hc
    simp [b_r15_one_1, h0, h1, h4, h7, hi, hl, hg, hc]
    exact hk _ (by simp [h0]) (by simp [h1]) (by simp [h4]) (by simp [h7, show e = E by simpa using hE])
  ·have he' : e = s.length := by omega
   have hi : ¬ ((e : Int) < s.length) := by omega
   have hE' : E = e := by
    rw [← hE, he', List.drop_length]
    rfl
   rw [l_r15_one_1, M_loop, ← l_r15_one_1]
   simp [b_r15_one_1, h0, h1, h4, h7, hi]
   exact hk _ (by simp [h0]) (by simp [h1]) (by simp [h4]) (by simp [h7, hE'])
theorem scan2 (s : List UInt8) (hs : s.length ≤ 1000000) (H : Heap) (R : Option (V × Heap)) (k : List Item) (i E : Nat) (t2 : V)
  (hk : ∀ (φ' : Fr), Fr.get φ' 0 = .str s → Fr.get φ' 1 = .int .i64 i → Fr.get φ' 4 = t2 → Fr.get φ' 7 = .int .i64 E → M (eval tbl noExt) k φ' H = R) :
  ∀ (n e : Nat) (φ : Fr), s.length - e ≤ n → e ≤ s.length → e + ((s.drop e).takeWhile notQ).length = E → Fr.get φ 0 = .str s → Fr.get φ 1 = .int .i64 i → Fr.get φ 4 = t2 → Fr.get φ 7 = .int .i64 e →
   M (eval tbl noExt) (.code l_r15_one_2 :: .blk 4 :: k) φ H = R := by
 intro n
 induction n with
 | zero =>
  intro e φ hn he hE h0 h1 h4 h7
  have he' : e = s.length := by omega
  have hi : ¬ ((e : Int) < s.length) := by omega
  have hE' : E = e := by
   rw [← hE, he', List.drop_length]
   rfl
  rw [l_r15_one_2, M_loop, ← l_r15_one_2]
  simp [b_r15_one_2, h0, h1, h4, h7, hi]
  exact hk _ (by simp [h0]) (by simp [h1]) (by simp [h4]) (by simp [h7, hE'])
 | succ n ih =>
  intro e φ hn he hE h0 h1 h4 h7
  by_cases hl : e < s.length
  ·have hi : (e : Int) < s.length := by omega
   have hg : s[e]? = some s[e] := List.getElem?_eq_getElem hl
   have hw1 : IntKind.i64.wrap ((e : Int) + 1) = ((e + 1 : Nat) : Int) := by rw [w64 (by omega) (by omega)]; rfl
   have hc := u8_eq34 s[e]
   rw [drop_at hl] at hE
   rw [l_r15_one_2, M_loop, ← l_r15_one_2]
   cases hp : notQ s[e] with
   | true =>
    rw [List.takeWhile_cons_of_pos hp, List.length_cons] at hE
    rw [hp] at hc; simp at hc
    simp [b_r15_one_2, h0, h1, h4, h7, hi, hl, hg, hc, hw1]
    exact ih (e + 1) _ (by omega) (by omega) (by omega) (by simp [h0]) (by simp [h1]) (by simp [h4]) (by simp)
   | false =>
    rw [List.takeWhile_cons_of_neg (by simp [hp])] at hE
    rw [hp] at hc; simp at hc
    simp [b_r15_one_2, h0, h1, h4, h7, hi, hl, hg, hc]
    exact hk _ (by simp [h0]) (by simp [h1]) (by simp [h4]) (by simp [h7, show e = E by simpa using hE])
  ·have he' : e = s.length := by omega
   have hi : ¬ ((e : Int) < s.length) := by omega
   have hE' : E = e := by
    rw [← hE, he', List.drop_length]
    rfl
   rw [l_r15_one_2, M_loop, ← l_r15_one_2]
   simp [b_r15_one_2, h0, h1, h4, h7, hi]
   exact hk _ (by simp [h0]) (by simp [h1]) (by simp [h4]) (by simp [h7, hE'])
theorem refSign_eq (s : List UInt8) (H : Heap) : eval tbl noExt n_r15_Sign [.str s] H = some (.bool (signList.contains s), H) := by
 rw [eval_M rfl rfl t_r15_Sign rfl]
 generalize hb : signList.contains s = b
 simp [c_r15_Sign]
 refine refSign_loop s signList (by decide) H _ (fun o => o = some (.bool b, H)) _ (fun φ' h g => ?_) (fun φ' h => ?_) 12 0 _ (by rfl) rfl (by simp) (by simp [signList]) (by simp)
 ·rw [hb] at h; simp [g, h]
 ·rw [hb] at h; simp [r_r15_Sign_0, h]
/-! One word. -/
def refAns (i : Nat) (m : Int) : (Wd × Nat) ⊕ Int → V
 | .inl (w, n) => .tup [.agg (w.at i), .int .i64 ((i + n : Nat) : Int), .int .i64 0]
 | .inr e => .tup [.agg zeroWd, .int .i64 m, .int .i64 e]
theorem slice_take (s : List UInt8) (i n : Nat) : (s.take (i + n)).drop i = (s.drop i).take n := by
 rw [List.drop_take]
 congr 1
 omega
theorem take_while (p : UInt8 → Bool) (l : List UInt8) : l.take (l.takeWhile p).length = l.takeWhile p :=
 (List.prefix_iff_eq_take.1 (List.takeWhile_prefix p)).symm
theorem quote_tw : ∀ r : List UInt8, (r.takeWhile notQ).length = (match quoteEnd r with | none => r.length | some n => n)
 | [] => rfl
 | c :: l => by
  have ih := quote_tw l
  rw [quoteEnd]
  by_cases h : c = 34
  ·subst h; rfl
  ·have : notQ c = true := by unfold notQ; simp [h]
   rw [List.takeWhile_cons_of_pos this, if_neg h, List.length_cons, ih]
   cases quoteEnd l <;> rfl
theorem quote_take {r : List UInt8} {n : Nat} (h : quoteEnd r = some n) : (34 :: r).take (n + 2) = 34 :: (r.take n ++ [34]) := by
 obtain ⟨h1, h2⟩ := quoteEnd_lt r n h
 show 34 :: r.take (n + 1) = _
 rw [List.take_add_one, h2]
 rfl
theorem refOne_word (s : List UInt8) (hs : s.length ≤ 10000) (i : Nat) (c : UInt8) (r : List UInt8) (hd : s.drop i = c :: r) (hl : isLetter c = true) (H : Heap) :
  ∃ m, eval tbl noExt n_r15_one [.str s, .int .i64 i] H = some (refAns i m (wordP (c :: r)), H) := by
 have hi : i < s.length := by
  rcases Nat.lt_or_ge i s.length with h | h
  ·exact h
  ·rw [List.drop_of_length_le h] at hd; cases hd
 have hi' : (i : Int) < s.length := by omega
 have hg : s[i] = c := by rw [drop_at hi] at hd; exact (List.cons.inj hd).1
 have hr : s.drop (i + 1) = r := by rw [drop_at hi] at hd; exact (List.cons.inj hd).2
 have hL := refLetter_eq c []
 have hw1 : IntKind.i64.wrap ((i : Int) + 1) = ((i + 1 : Nat) : Int) := by rw [w64 (by omega) (by omega)]; rfl
 have hcl : (c :: r).length = s.length - i := by rw [← hd, List.length_drop]
 rw [hl] at hL
 have hin : isInner c = true := by unfold isInner; simp [hl]
 have hE : i + 1 + ((s.drop (i + 1)).takeWhile isInner).length = i + ((c :: r).takeWhile isInner).length := by
  rw [hr, List.takeWhile_cons_of_pos hin, List.length_cons]; omega
 have hwl : ((c :: r).takeWhile isInner).length ≤ (c :: r).length := (List.takeWhile_sublist _).length_le
 have htw := take_while isInner (c :: r)
 have hsl := slice_take s i ((c :: r).takeWhile isInner).length
 rw [hd, htw] at hsl
 have hE2 : i + ((c :: r).takeWhile isInner).length ≤ s.length := by omega
 unfold wordP
 generalize (c :: r).takeWhile isInner = w at hE hwl hsl hE2
 have hK := refKey_eq w []
 have hN := refName_eq w (by omega) []
 refine ⟨((i + w.length : Nat) : Int), ?_⟩
 rw [eval_M rfl rfl t_r15_one rfl]
 simp [c_r15_one, hw1, hi, hi', hg, hL]
 refine scan0 s (by omega) _ _ _ i (i + w.length) (.ptr H.length 0) (fun φ' h0 h1 h4 h7 => ?_) s.length (i + 1) _ (by omega) (by omega) hE (by simp) (by simp) (by simp) (by simp)
 have q1 : (i : Int) ≤ ((i + w.length : Nat) : Int) := by omega
 have q2 : ((i + w.length : Nat) : Int) ≤ s.length := by omega
 generalize hEE : i + w.length = E at *
 cases k : isKey w with
 | true =>
  rw [k] at hK
  simp [r_r15_one_0, h0, h1, h4, h7, q1, q2, hsl, hK, refAns, Wd.at, k]
  omega
 | false =>
  rw [k] at hK
  cases m : isName w with
  | true =>
   rw [m] at hN
   simp [r_r15_one_0, h0, h1, h4, h7, q1, q2, hsl, hK, hN, refAns, Wd.at, k, m]
   omega
  | false =>
   rw [m] at hN
   simp [r_r15_one_0, h0, h1, h4, h7, q1, q2, hsl, hK, hN, refAns, zeroWd, k, m]
   try omega
theorem refOne_number (s : List UInt8) (hs : s.length ≤ 10000) (i : Nat) (c : UInt8) (r : List UInt8) (hd : s.drop i = c :: r) (hl : isLetter c = false) (hdg : Go.AM.isDigit c = true) (H : Heap) :
  ∃ m, eval tbl noExt n_r15_one [.str s, .int .i64 i] H = some (refAns i m (numberP (c :: r)), H) := by
 have hi : i < s.length := by
  rcases Nat.lt_or_ge i s.length with h | h
  ·exact h
  ·rw [List.drop_of_length_le h] at hd; cases hd
 have hi' : (i : Int) < s.length := by omega
 have hg : s[i] = c := by rw [drop_at hi] at hd; exact (List.cons.inj hd).1
 have hr : s.drop (i + 1) = r := by rw [drop_at hi] at hd; exact (List.cons.inj hd).2
 have hL := refLetter_eq c []
 have hw1 : IntKind.i64.wrap ((i : Int) + 1) = ((i + 1 : Nat) : Int) := by rw [w64 (by omega) (by omega)]; rfl
 have hcl : (c :: r).length = s.length - i := by rw [← hd, List.length_drop]
 rw [hl] at hL
 have hD := refDigit_eq c []
 rw [hdg] at hD
 have hin := hdg
 have hE : i + 1 + ((s.drop (i + 1)).takeWhile Go.AM.isDigit).length = i + ((c :: r).takeWhile Go.AM.isDigit).length := by
  rw [hr, List.takeWhile_cons_of_pos hin, List.length_cons]; omega
 have hwl : ((c :: r).takeWhile Go.AM.isDigit).length ≤ (c :: r).length := (List.takeWhile_sublist _).length_le
 have htw := take_while Go.AM.isDigit (c :: r)
 have hsl := slice_take s i ((c :: r).takeWhile Go.AM.isDigit).length
 rw [hd, htw] at hsl
 have hE2 : i + ((c :: r).takeWhile Go.AM.isDigit).length ≤ s.length := by omega
 unfold numberP
 generalize (c :: r).takeWhile Go.AM.isDigit = w at hE hwl hsl hE2
 have hK := refRead_eq (H := []) w
 refine ⟨((i + w.length : Nat) : Int), ?_⟩
 rw [eval_M rfl rfl t_r15_one rfl]
 simp [c_r15_one, hw1, hi, hi', hg, hL, r_r15_one_5, hD]
 refine scan1 s (by omega) _ _ _ i (i + w.length) (.ptr H.length 0) (fun φ' h0 h1 h4 h7 => ?_) s.length (i + 1) _ (by omega) (by omega) hE (by simp) (by simp) (by simp) (by simp)
 have q1 : (i : Int) ≤ ((i + w.length : Nat) : Int) := by omega
 have q2 : ((i + w.length : Nat) : Int) ≤ s.length := by omega
 generalize hEE : i + w.length = E at *
 cases k : (readR w).2 with
 | true =>
  rw [k] at hK
  simp [r_r15_one_1, h0, h1, h4, h7, q1, q2, hsl, hK, refAns, Wd.at, k]
  omega
 | false =>
  rw [k] at hK
  simp [r_r15_one_1, h0, h1, h4, h7, q1, q2, hsl, hK, refAns, zeroWd, k]
  try omega
theorem refOne_text (s : List UInt8) (hs : s.length ≤ 10000) (i : Nat) (r : List UInt8) (hd : s.drop i = 34 :: r) (H : Heap)
  (hU : ∀ t : List UInt8, t.length ≤ 10000 → eval tbl noExt n_r14_Unquote [.str t] [] = some (.tup [.str ((unq t).getD []), .bool (unq t).isSome], [])) :
  ∃ m, eval tbl noExt n_r15_one [.str s, .int .i64 i] H = some (refAns i m (textP r), H) := by
 generalize hc34 : (34 : UInt8) = c at hd
 have hl : isLetter c = false := by rw [← hc34]; rfl
 have hdg : Go.AM.isDigit c = false := by rw [← hc34]; rfl
 have hi : i < s.length := by
  rcases Nat.lt_or_ge i s.length with h | h
  ·exact h
  ·rw [List.drop_of_length_le h] at hd; cases hd
 have hi' : (i : Int) < s.length := by omega
 have hg : s[i] = c := by rw [drop_at hi] at hd; exact (List.cons.inj hd).1
 have hr : s.drop (i + 1) = r := by rw [drop_at hi] at hd; exact (List.cons.inj hd).2
 have hL := refLetter_eq c []
 have hw1 : IntKind.i64.wrap ((i : Int) + 1) = ((i + 1 : Nat) : Int) := by rw [w64 (by omega) (by omega)]; rfl
 have hcl : (c :: r).length = s.length - i := by rw [← hd, List.length_drop]
 rw [hl] at hL
 have hD := refDigit_eq c []
 rw [hdg] at hD
 have h34 : (c.toNat : Int) = 34 := by rw [← hc34]; rfl
 rw [h34] at hL hD
 have hq := quote_tw r
 have hE : i + 1 + ((s.drop (i + 1)).takeWhile notQ).length = i + 1 + (r.takeWhile notQ).length := by rw [hr]
 simp only [List.length_cons] at hcl
 unfold textP
 cases q : quoteEnd r with
 | none =>
  rw [q] at hq
  simp only at hq
  rw [hq, show i + 1 + r.length = s.length by omega] at hE
  refine ⟨(s.length : Int), ?_⟩
  rw [eval_M rfl rfl t_r15_one rfl]
  simp [c_r15_one, hw1, hi, hi', hg, hL, r_r15_one_5, hD, r_r15_one_4, h34]
  refine scan2 s (by omega) _ _ _ i s.length (.ptr H.length 0) (fun φ' h0 h1 h4 h7 => ?_) s.length (i + 1) _ (by omega) (by omega) hE (by simp) (by simp) (by simp) (by simp)
  simp [r_r15_one_2, h0, h1, h4, h7, refAns, zeroWd]
 | some n =>
  rw [q] at hq
  simp only at hq
  rw [hq] at hE
  obtain ⟨n1, n2⟩ := quoteEnd_lt r n q
  have hT := quote_take q
  have hsl := slice_take s i (n + 2)
  rw [hd, ← hc34, hT] at hsl
  have hUt := hU (34 :: (r.take n ++ [34])) (by simp; omega)
  generalize hEE : i + 1 + n = E at *
  have hw2 : IntKind.i64.wrap ((E : Int) + 1) = ((i + (n + 2) : Nat) : Int) := by rw [w64 (by omega) (by omega)]; omega
  have q0 : ¬ (E : Int) = s.length := by omega
  have q1 : (i : Int) ≤ ((i + (n + 2) : Nat) : Int) := by omega
  have q2 : ((i + (n + 2) : Nat) : Int) ≤ s.length := by omega
  have hne : ¬ E = s.length := by omega
  generalize hFF : i + (n + 2) = F at *
  simp only
  cases u : unq (34 :: (r.take n ++ [34])) with
  | none =>
   rw [u] at hUt
   simp at hUt
   refine ⟨(E : Int), ?_⟩
   rw [eval_M rfl rfl t_r15_one rfl]
   simp [c_r15_one, hw1, hi, hi', hg, hL, r_r15_one_5, hD, r_r15_one_4, h34]
   refine scan2 s (by omega) _ _ _ i E (.ptr H.length 0) (fun φ' h0 h1 h4 h7 => ?_) s.length (i + 1) _ (by omega) (by omega) hE (by simp) (by simp) (by simp) (by simp)
   simp [r_r15_one_2, h0, h1, h4, h7, refAns, zeroWd, q0, hne, q1, q2, hw2, hsl, hUt]
  | some t =>
   rw [u] at hUt
   simp at hUt
   by_cases h64 : 64 < t.length
   ·have h64' : (64 : Int) < t.length := by omega
    refine ⟨(E : Int), ?_⟩
    rw [eval_M rfl rfl t_r15_one rfl]
    simp [c_r15_one, hw1, hi, hi', hg, hL, r_r15_one_5, hD, r_r15_one_4, h34]
    refine scan2 s (by omega) _ _ _ i E (.ptr H.length 0) (fun φ' h0 h1 h4 h7 => ?_) s.length (i + 1) _ (by omega) (by omega) hE (by simp) (by simp) (by simp) (by simp)
    simp [r_r15_one_2, h0, h1, h4, h7, refAns, zeroWd, q0, hne, q1, q2, hw2, hsl, hUt, h64, h64']
   ·have h64' : ¬ (64 : Int) < t.length := by omega
    refine ⟨0, ?_⟩
    rw [eval_M rfl rfl t_r15_one rfl]
    simp [c_r15_one, hw1, hi, hi', hg, hL, r_r15_one_5, hD, r_r15_one_4, h34]
    refine scan2 s (by omega) _ _ _ i E (.ptr H.length 0) (fun φ' h0 h1 h4 h7 => ?_) s.length (i + 1) _ (by omega) (by omega) hE (by simp) (by simp) (by simp) (by simp)
    simp [r_r15_one_2, h0, h1, h4, h7, refAns, Wd.at, q0, hne, q1, q2, hw2, hsl, hUt, h64, h64']
    omega
theorem sign_two (c d : UInt8) : signList.contains [c, d] = decide (c = 61 ∧ d = 61) := by
 simp [signList]
theorem refOne_sign (s : List UInt8) (hs : s.length ≤ 10000) (i : Nat) (c : UInt8) (r : List UInt8) (hd : s.drop i = c :: r) (hl : isLetter c = false) (hdg : Go.AM.isDigit c = false) (h34c : ¬ c = 34) (H : Heap) :
  ∃ m, eval tbl noExt n_r15_one [.str s, .int .i64 i] H = some (refAns i m (signP c r), H) := by
 have hi : i < s.length := by
  rcases Nat.lt_or_ge i s.length with h | h
  ·exact h
  ·rw [List.drop_of_length_le h] at hd; cases hd
 have hi' : (i : Int) < s.length := by omega
 have hg : s[i] = c := by rw [drop_at hi] at hd; exact (List.cons.inj hd).1
 have hr : s.drop (i + 1) = r := by rw [drop_at hi] at hd; exact (List.cons.inj hd).2
 have hL := refLetter_eq c []
 have hw1 : IntKind.i64.wrap ((i : Int) + 1) = ((i + 1 : Nat) : Int) := by rw [w64 (by omega) (by omega)]; rfl
 have hcl : (c :: r).length = s.length - i := by rw [← hd, List.length_drop]
 rw [hl] at hL
 have hD := refDigit_eq c []
 rw [hdg] at hD
 have h34 : ¬ (c.toNat : Int) = 34 := by
  intro h
  exact h34c ((toNat_eq _ 34 (by omega)).1 (by omega))
 simp only [List.length_cons] at hcl
 have hs1 := slice_take s i 1
 rw [hd] at hs1
 have e1 : (c :: r).take 1 = [c] := rfl
 rw [e1] at hs1
 have hS1 := refSign_eq [c] []
 rw [sign_one] at hS1
 have p1 : (i : Int) ≤ ((i + 1 : Nat) : Int) := by omega
 have p2 : ((i + 1 : Nat) : Int) ≤ s.length := by omega
 refine ⟨((i + 1 : Nat) : Int), ?_⟩
 rw [eval_M rfl rfl t_r15_one rfl]
 unfold signP
 cases r with
 | nil =>
  have hlt : ¬ ((i + 1 : Nat) : Int) < s.length := by simp at hcl; omega
  rw [if_neg (by simp)]
  generalize hF : i + 1 = F at *
  cases k : signsL.contains c with
  | true =>
   rw [k] at hS1
   simp [c_r15_one, hw1, hi, hi', hg, hL, r_r15_one_5, hD, r_r15_one_4, h34, r_r15_one_3, hlt, p1, p2, hs1, hS1, refAns, Wd.at]
   try omega
  | false =>
   rw [k] at hS1
   simp [c_r15_one, hw1, hi, hi', hg, hL, r_r15_one_5, hD, r_r15_one_4, h34, r_r15_one_3, hlt, p1, p2, hs1, hS1, refAns, zeroWd]
   try omega
 | cons d r =>
  simp only [List.length_cons] at hcl
  have hlt : ((i + 1 : Nat) : Int) < s.length := by omega
  have hs2 := slice_take s i 2
  rw [hd] at hs2
  have e2 : (c :: d :: r).take 2 = [c, d] := rfl
  rw [e2] at hs2
  have hS2 := refSign_eq [c, d] []
  rw [sign_two] at hS2
  have hw2 : IntKind.i64.wrap (((i + 1 : Nat) : Int) + 1) = ((i + 2 : Nat) : Int) := by rw [w64 (by omega) (by omega)]; omega
  have p3 : (i : Int) ≤ ((i + 2 : Nat) : Int) := by omega
  have p4 : ((i + 2 : Nat) : Int) ≤ s.length := by omega
  generalize hF : i + 1 = F at *
  generalize hG : i + 2 = G at *
  by_cases h61 : c = 61 ∧ d = 61
  ·rw [decide_eq_true h61] at hS2
   rw [h61.1, h61.2] at hs2 hS2
   rw [if_pos ⟨h61.1, by simp [h61.2]⟩]
   simp [c_r15_one, hw1, hw2, hi, hi', hg, hL, r_r15_one_5, hD, r_r15_one_4, h34, r_r15_one_3, hlt, p1, p2, p3, p4, hs1, hs2, hS1, hS2, refAns, Wd.at]
   try omega
  ·rw [decide_eq_false h61] at hS2
   rw [if_neg (by simpa using h61)]
   cases k : signsL.contains c with
   | true =>
    rw [k] at hS1
    simp [c_r15_one, hw1, hw2, hi, hi', hg, hL, r_r15_one_5, hD, r_r15_one_4, h34, r_r15_one_3, hlt, p1, p2, p3, p4, hs1, hs2, hS1, hS2, refAns, Wd.at]
    try omega
   | false =>
    rw [k] at hS1
    simp [c_r15_one, hw1, hw2, hi, hi', hg, hL, r_r15_one_5, hD, r_r15_one_4, h34, r_r15_one_3, hlt, p1, p2, p3, p4, hs1, hs2, hS1, hS2, refAns, zeroWd]
    try omega
def valC (c : UInt8) : Nat := (hexv c).getD 0
theorem refSignC_eq (c : UInt8) : eval tbl noExt n_r14_sign [.int .u8 c.toNat] [] = some (.str (signC c), []) := of_bytes (g := fun c => .str (signC c)) (by kernel_rfl) c
theorem refValue_eq (c : UInt8) : eval tbl noExt n_r14_value [.int .u8 c.toNat] [] = some (.int .u8 (valC c), []) := of_bytes (g := fun c => .int .u8 (valC c)) (by kernel_rfl) c
theorem low_plain (c : UInt8) : (!(decide (c.toNat < 16)) || !(plainC c)) = true := all_u8 (p := fun c => !(decide (c.toNat < 16)) || !(plainC c)) (by decide +kernel) c
theorem valC_lt (c : UInt8) : valC c < 16 := by
 have := hex_facts c
 unfold valC
 cases h : hexv c with
 | none => simp
 | some x => rw [h] at this; simp at this; simpa using this.1
/-- Does a pair of digits stand for its byte? -/
theorem pair_sign (a b : UInt8) : (signC (UInt8.ofNat (16 * valC a + valC b)) = [92, a, b] ∧ pairC a b = some (UInt8.ofNat (16 * valC a + valC b))) ∨ (signC (UInt8.ofNat (16 * valC a + valC b)) ≠ [92, a, b] ∧ pairC a b = none) := by
 have fa := hex_facts a
 have fb := hex_facts b
 have la := valC_lt a
 have lb := valC_lt b
 have hn : (UInt8.ofNat (16 * valC a + valC b)).toNat = 16 * valC a + valC b := by rw [UInt8.toNat_ofNat']; omega
 have hlow := low_plain (UInt8.ofNat (16 * valC a + valC b))
 unfold pairC signC
 rw [hn] at hlow ⊢
 have d1 : (16 * valC a + valC b) / 16 = valC a := by omega
 have d2 : (16 * valC a + valC b) % 16 = valC b := by omega
 rw [d1, d2]
 cases ha : hexv a with
 | none =>
  have va : valC a = 0 := by unfold valC; rw [ha]; rfl
  rw [ha] at fa
  right
  refine ⟨?_, by cases hexv b <;> rfl⟩
  rw [va] at hlow ⊢
  have : plainC (UInt8.ofNat (16 * 0 + valC b)) = false := by
   simp only [Nat.mul_zero, Nat.zero_add] at hlow ⊢
   have h1 : decide (valC b < 16) = true := by simpa using lb
   rw [h1] at hlow
   simpa using hlow
  rw [if_neg (by rw [this]; exact Bool.false_ne_true)]
  intro h
  simp only [List.cons.injEq, true_and, and_true] at h
  have h2 : a = 48 := by rw [← h.1]; rfl
  simp at fa
  exact fa h2
 | some x =>
  have va : valC a = x := by unfold valC; rw [ha]; rfl
  rw [ha] at fa
  simp at fa
  cases hb : hexv b with
  | none =>
   have vb : valC b = 0 := by unfold valC; rw [hb]; rfl
   rw [hb] at fb
   right
   refine ⟨?_, rfl⟩
   split
   ·simp
   ·intro h
    simp only [List.cons.injEq, true_and, and_true] at h
    have h2 : b = 48 := by rw [← h.2, vb]; rfl
    simp at fb
    exact fb h2
  | some y =>
   have vb : valC b = y := by unfold valC; rw [hb]; rfl
   rw [hb] at fb
   simp at fb
   simp only [va, vb]
   by_cases hp : plainC (UInt8.ofNat (16 * x + y)) = true
   ·rw [if_pos hp, if_pos hp]
    right
    exact ⟨by simp, rfl⟩
   ·rw [if_neg hp, if_neg hp]
    left
    exact ⟨by rw [fa.2, fb.2], rfl⟩
theorem sign_self (c : UInt8) : (signC c = [c]) ↔ plainC c = true := by
 unfold signC
 split
 ·rename_i h; simp [h]
 ·rename_i h; simp [h]
theorem rowsBytes_of : ∀ s : List UInt8, rowsBytes (bytesRows s) = some s
 | [] => rfl
 | c :: s => by
  have ih := rowsBytes_of s
  have hb : c.toNat < 256 := UInt8.toNat_lt c
  unfold bytesRows at ih ⊢
  rw [List.map_cons]
  unfold rowsBytes
  rw [if_pos (by omega), ih]
  simp
theorem unqL_cons {c : UInt8} (h : ¬ c = 92) (l : List UInt8) : unqL (c :: l) = if plainC c = true then (unqL l).map (c :: ·) else none := by
 match l with
 | [] => simp [unqL, h]
 | [a] => rw [unqL, if_neg h]; simp
 | a :: b :: l => rw [unqL, if_neg h]
theorem refUnq_loop (s : List UInt8) (L : Nat) (hL : L + 1 = s.length) (hs : s.length ≤ 10000) (H : Heap) : ∀ (n i : Nat) (acc : List UInt8) (φ : Fr), L - i ≤ n → i ≤ L → 1 ≤ i → acc.length ≤ i → Fr.get φ 0 = .str s → Fr.get φ 4 = .own 1 (bytesRows acc) → Fr.get φ 5 = .int .i64 i →
  M (eval tbl noExt) [.code l_r14_Unquote_0, .blk 0, .code r_r14_Unquote_0, .fin [.t 2, .t 3] H.length] φ H =
   some (.tup [.str (((unqL ((s.take L).drop i)).map (acc ++ ·)).getD []), .bool (unqL ((s.take L).drop i)).isSome], H) := by
 have hw0 : IntKind.i64.wrap ((s.length : Int) - 1) = (L : Int) := by rw [w64] <;> omega
 have fin : ∀ (acc : List UInt8) (φ : Fr), Fr.get φ 0 = .str s → Fr.get φ 4 = .own 1 (bytesRows acc) → Fr.get φ 5 = .int .i64 L → M (eval tbl noExt) [.code l_r14_Unquote_0, .blk 0, .code r_r14_Unquote_0, .fin [.t 2, .t 3] H.length] φ H =
   some (.tup [.str (((unqL ((s.take L).drop L)).map (acc ++ ·)).getD []), .bool (unqL ((s.take L).drop L)).isSome], H) := by
  intro acc φ h0 h4 h5
  have hd : (s.take L).drop L = [] := by rw [List.drop_of_length_le]; rw [List.length_take]; omega
  rw [hd, l_r14_Unquote_0, M_loop, ← l_r14_Unquote_0]
  simp [b_r14_Unquote_0, h0, h4, h5, hw0]
  simp [r_r14_Unquote_0, h0, h4, h5, rowsBytes_of, unqL]
 intro n
 induction n with
 | zero =>
  intro i acc φ hn hi h1 ha h0 h4 h5
  obtain rfl : i = L := by omega
  exact fin acc φ h0 h4 h5
 | succ n ih =>
  intro i acc φ hn hi h1 ha h0 h4 h5
  by_cases hl : i < L
  ·have hl' : (i : Int) < L := by omega
   have hil : i < s.length := by omega
   have hil' : (i : Int) < s.length := by omega
   have hTl : (s.take L).length = L := by rw [List.length_take]; omega
   have dropT : ∀ q, (h : q < L) → (s.take L).drop q = (s[q]'(by omega)) :: (s.take L).drop (q + 1) := by
    intro q hq
    rw [List.drop_eq_getElem_cons (by omega), List.getElem_take]
   have hw2 : IntKind.i64.wrap ((i : Int) + 2) = ((i + 2 : Nat) : Int) := by rw [w64 (by omega) (by omega)]; rfl
   have hw1 : IntKind.i64.wrap ((i : Int) + 1) = ((i + 1 : Nat) : Int) := by rw [w64 (by omega) (by omega)]; rfl
   have hw3 : IntKind.i64.wrap ((i : Int) + 3) = ((i + 3 : Nat) : Int) := by rw [w64 (by omega) (by omega)]; rfl
   have hb : 2 * (acc.length + 1) ≤ 281474976710656 := by omega
   have hrl : (bytesRows acc).length = acc.length := by simp [bytesRows]
   have happ : ∀ c : UInt8, bytesRows acc ++ [[V.int .u8 c.toNat]] = bytesRows (acc ++ [c]) := fun c => by simp [bytesRows]
   rw [dropT i hl]
   have sl1 : (s.take (i + 1)).drop i = [s[i]] := by rw [slice_take, List.drop_eq_getElem_cons hil]; rfl
   have hS := refSignC_eq s[i]
   have hg0 : s[i]? = some s[i] := List.getElem?_eq_getElem hil
   by_cases h92 : s[i] = 92 ∧ i + 2 < L
   ·obtain ⟨c92, hl2⟩ := h92
    have hl2' : ((i + 2 : Nat) : Int) < L := by omega
    have hi1 : i + 1 < s.length := by omega
    have hi2 : i + 2 < s.length := by omega
    have hi1' : ((i + 1 : Nat) : Int) < s.length := by omega
    have hi2' : ((i + 2 : Nat) : Int) < s.length := by omega
    rw [dropT (i + 1) (by omega), dropT (i + 2) (by omega), c92]
    have sl3 : (s.take (i + 3)).drop i = [92, s[i + 1], s[i + 2]] := by
     rw [slice_take, List.drop_eq_getElem_cons hil, List.drop_eq_getElem_cons hi1, List.drop_eq_getElem_cons hi2, c92]; rfl
    have hg1 : s[i + 1]? = some s[i + 1] := List.getElem?_eq_getElem hi1
    have hg2 : s[i + 2]? = some s[i + 2] := List.getElem?_eq_getElem hi2
    obtain ⟨a, hA⟩ : ∃ a, a = s[i + 1] := ⟨_, rfl⟩
    obtain ⟨b, hB⟩ : ∃ b, b = s[i + 2] := ⟨_, rfl⟩
    rw [← hA, ← hB] at sl3
    rw [← hA] at hg1
    rw [← hB] at hg2
    have eA : ∀ h : i + 1 < s.length, s[i + 1] = a := fun _ => hA.symm
    have eB : ∀ h : i + 2 < s.length, s[i + 2] = b := fun _ => hB.symm
    rw [← hA, ← hB]
    have vA := refValue_eq a
    have vB := refValue_eq b
    have la := valC_lt a
    have lb := valC_lt b
    have u1 : IntKind.u8.wrap (16 * (valC a : Int)) = ((16 * valC a : Nat) : Int) := by rw [IntKind.wrap_u8]; omega
    have u2 : IntKind.u8.wrap (((16 * valC a : Nat) : Int) + (valC b : Int)) = ((16 * valC a + valC b : Nat) : Int) := by rw [IntKind.wrap_u8]; omega
    have hdn : (UInt8.ofNat (16 * valC a + valC b)).toNat = 16 * valC a + valC b := by rw [UInt8.toNat_ofNat']; omega
    have hSd := refSignC_eq (UInt8.ofNat (16 * valC a + valC b))
    have hap := happ (UInt8.ofNat (16 * valC a + valC b))
    have hps := pair_sign a b
    have hU : unqL (92 :: a :: b :: (s.take L).drop (i + 3)) = (match pairC a b with | some d => (unqL ((s.take L).drop (i + 3))).map (d :: ·) | none => none) := rfl
    rw [hU]
    generalize hD : UInt8.ofNat (16 * valC a + valC b) = d at hdn hSd hap hps
    rw [hdn] at hSd hap
    have p1 : (i : Int) ≤ ((i + 3 : Nat) : Int) := by omega
    have p2 : ((i + 3 : Nat) : Int) ≤ s.length := by omega
    have hw4 : IntKind.i64.wrap (((i + 3 : Nat) : Int) - 1) = ((i + 2 : Nat) : Int) := by rw [w64 (by omega) (by omega)]; omega
    have hw5 : IntKind.i64.wrap (((i + 2 : Nat) : Int) + 1) = ((i + 3 : Nat) : Int) := by rw [w64 (by omega) (by omega)]; omega
    have e92 : ((s[i]).toNat : Int) = 92 := by rw [c92]; rfl
    rw [l_r14_Unquote_0, M_loop, ← l_r14_Unquote_0]
    generalize hV : 16 * valC a + valC b = VV at *
    generalize hW : 16 * valC a = WW at *
    generalize hI1 : i + 1 = I1 at *
    generalize hI2 : i + 2 = I2 at *
    generalize hI3 : i + 3 = I3 at *
    rcases hps with ⟨q1, q2⟩ | ⟨q1, q2⟩
    ·rw [q2]
     rw [q1] at hSd
     have hih := ih I3 (acc ++ [d])
     have hcv : (((unqL ((s.take L).drop I3)).map (d :: ·)).map (acc ++ ·)) = (unqL ((s.take L).drop I3)).map ((acc ++ [d]) ++ ·) := by
      cases unqL ((s.take L).drop I3) with
      | none => rfl
      | some t => simp
     have hsm : ((unqL ((s.take L).drop I3)).map (d :: ·)).isSome = (unqL ((s.take L).drop I3)).isSome := by simp
     simp only
     rw [hcv, hsm]
     generalize some (V.tup [V.str (((unqL ((s.take L).drop I3)).map ((acc ++ [d]) ++ ·)).getD []), V.bool (unqL ((s.take L).drop I3)).isSome], H) = RR at hih ⊢
     simp [b_r14_Unquote_0, h0, h4, h5, hw0, hw1, hw2, hw3, hw4, hw5, hl', hil, hil', hg0, c92, hl2', hi1, hi1', hi2, hi2', hg1, hg2, eA, eB, vA, vB, u1, u2, hSd, p1, p2, sl3, hrl, hb, hap]
     exact hih _ (by omega) (by omega) (by omega) (by simp; omega) (by simp [h0]) (by simp) (by simp)
    ·rw [q2]
     simp [b_r14_Unquote_0, h0, h4, h5, hw0, hw1, hw2, hw3, hw4, hw5, hl', hil, hil', hg0, c92, hl2', hi1, hi1', hi2, hi2', hg1, hg2, eA, eB, vA, vB, u1, u2, hSd, p1, p2, sl3, q1]
   ·have p1 : (i : Int) ≤ ((i + 1 : Nat) : Int) := by omega
    have p2 : ((i + 1 : Nat) : Int) ≤ s.length := by omega
    have hw4 : IntKind.i64.wrap (((i + 1 : Nat) : Int) - 1) = (i : Int) := by rw [w64 (by omega) (by omega)]; omega
    have hap := happ s[i]
    have hss := sign_self s[i]
    have hguard : ((s[i]).toNat : Int) = 92 → ¬ ((i + 2 : Nat) : Int) < L := by
     intro h h'
     exact h92 ⟨(toNat_eq _ 92 (by omega)).1 (by omega), by omega⟩
    have hU : unqL (s[i] :: (s.take L).drop (i + 1)) = if plainC s[i] = true then (unqL ((s.take L).drop (i + 1))).map (s[i] :: ·) else none := by
     by_cases c92 : s[i] = 92
     ·have hnp : ¬ plainC s[i] = true := by rw [c92]; decide
      rw [if_neg hnp, c92]
      have hlen : ((s.take L).drop (i + 1)).length < 2 := by
       rw [List.length_drop, hTl]
       have : ¬ i + 2 < L := fun h => h92 ⟨c92, h⟩
       omega
      generalize (s.take L).drop (i + 1) = T at hlen
      match T, hlen with
      | [], _ => rfl
      | [_], _ => rfl
     ·exact unqL_cons c92 _
    rw [hU]
    rw [l_r14_Unquote_0, M_loop, ← l_r14_Unquote_0]
    generalize hc : s[i] = c at *
    generalize hI1 : i + 1 = I1 at *
    generalize hI2 : i + 2 = I2 at *
    by_cases hp : plainC c = true
    ·rw [if_pos hp]
     rw [hss.2 hp] at hS
     have hih := ih I1 (acc ++ [c])
     have hcv : (((unqL ((s.take L).drop I1)).map (c :: ·)).map (acc ++ ·)) = (unqL ((s.take L).drop I1)).map ((acc ++ [c]) ++ ·) := by
      cases unqL ((s.take L).drop I1) with
      | none => rfl
      | some t => simp
     have hsm : ((unqL ((s.take L).drop I1)).map (c :: ·)).isSome = (unqL ((s.take L).drop I1)).isSome := by simp
     rw [hcv, hsm]
     generalize some (V.tup [V.str (((unqL ((s.take L).drop I1)).map ((acc ++ [c]) ++ ·)).getD []), V.bool (unqL ((s.take L).drop I1)).isSome], H) = RR at hih ⊢
     by_cases h9 : (c.toNat : Int) = 92
     ·have hg2 := hguard h9
      have c92 : c = 92 := (toNat_eq c 92 (by omega)).1 (by omega)
      exact absurd hp (by rw [c92]; decide)
     ·simp [b_r14_Unquote_0, h0, h4, h5, hw0, hw1, hw2, hw3, hw4, hl', hil, hil', hg0, hc, h9, hS, p1, p2, sl1, hrl, hb, hap]
      exact hih _ (by omega) (by omega) (by omega) (by simp; omega) (by simp [h0]) (by simp) (by simp)
    ·rw [if_neg hp]
     have hns : ¬ signC c = [c] := fun h => hp (hss.1 h)
     by_cases h9 : (c.toNat : Int) = 92
     ·have hg2 := hguard h9
      have hS92 := hS
      rw [h9] at hS92
      simp [b_r14_Unquote_0, h0, h4, h5, hw0, hw1, hw2, hw3, hw4, hl', hil, hil', hg0, hc, h9, hg2, hS92, p1, p2, sl1, hns]
     ·simp [b_r14_Unquote_0, h0, h4, h5, hw0, hw1, hw2, hw3, hw4, hl', hil, hil', hg0, hc, h9, hS, p1, p2, sl1, hns]
  ·obtain rfl : i = L := by omega
   exact fin acc φ h0 h4 h5
theorem refUnquote_eq (t : List UInt8) (hs : t.length ≤ 10000) : eval tbl noExt n_r14_Unquote [.str t] [] = some (.tup [.str ((unq t).getD []), .bool (unq t).isSome], []) := by
 rw [eval_M rfl rfl t_r14_Unquote rfl]
 match t, hs with
 | [], _ => simp [c_r14_Unquote, unq]
 | [c], _ =>
  have hU : unq [c] = none := by
   unfold unq
   split
   ·rename_i r h
    simp at h
    rw [h.2, if_neg (by simp)]
   ·rfl
  simp [c_r14_Unquote, hU]
 | c :: d :: r, hs =>
  simp only [List.length_cons] at hs
  have l2 : ¬ (r.length : Int) + 1 + 1 < 2 := by omega
  have lt0 : (0 : Int) < (r.length : Int) + 1 + 1 := by omega
  have hlast : (d :: r).getLast? = some ((d :: r)[r.length]'(by simp)) := by
   rw [List.getLast?_eq_getElem?]
   simp
  have hgz : (c :: d :: r)[r.length + 1]? = some ((d :: r)[r.length]'(by simp)) := by
   rw [List.getElem?_cons_succ, List.getElem?_eq_getElem (by simp)]
  generalize ((d :: r)[r.length]'(by simp)) = z at hlast hgz
  obtain ⟨n1, hn1⟩ : ∃ n1, n1 = r.length + 1 := ⟨_, rfl⟩
  rw [← hn1] at hgz
  have hw : IntKind.i64.wrap ((r.length : Int) + 1) = (n1 : Int) := by rw [w64 (by omega) (by omega)]; omega
  have hgz' : ∀ h : n1 < (c :: d :: r).length, (c :: d :: r)[n1] = z := fun h => by
   rw [List.getElem?_eq_getElem h] at hgz
   exact Option.some.inj hgz
  have lt1 : (n1 : Int) < (r.length : Int) + 1 + 1 := by omega
  have lt2 : n1 < r.length + 1 + 1 := by omega
  by_cases hc : c = 34
  ·subst hc
   by_cases h34 : z = 34
   ·subst h34
    have hU : unq (34 :: d :: r) = unqL (d :: r).dropLast := by
     show (if (d :: r).getLast? = some 34 then unqL (d :: r).dropLast else none) = _
     rw [if_pos hlast]
    have hd : ((34 :: d :: r).take n1).drop 1 = (d :: r).dropLast := by
     rw [List.dropLast_eq_take, hn1]
     rfl
    have hl := refUnq_loop (34 :: d :: r) n1 (by simp; omega) (by simp; omega) [] n1 1 []
    rw [hd, ← hU] at hl
    have hm : (unq (34 :: d :: r)).map (([] : List UInt8) ++ ·) = unq (34 :: d :: r) := by
     cases unq (34 :: d :: r) <;> simp
    rw [hm] at hl
    generalize some (V.tup [V.str ((unq (34 :: d :: r)).getD []), V.bool (unq (34 :: d :: r)).isSome], ([] : Heap)) = RR at hl ⊢
    simp [c_r14_Unquote, l2, lt0, hw, hgz, hgz', lt1, lt2]
    exact hl _ (by omega) (by omega) (by omega) (by simp) (by simp) (by simp [bytesRows]) (by simp)
   ·have hU : unq (34 :: d :: r) = none := by
     show (if (d :: r).getLast? = some 34 then unqL (d :: r).dropLast else none) = _
     rw [hlast, if_neg (by simpa using h34)]
    have hz34 : ¬ (z.toNat : Int) = 34 := by
     intro h
     exact h34 ((toNat_eq _ 34 (by omega)).1 (by omega))
    simp [c_r14_Unquote, l2, lt0, hw, hgz, hgz', lt1, lt2, hU, hz34]
  ·have hU : unq (c :: d :: r) = none := by
    unfold unq
    split
    ·rename_i r' h
     simp only [List.cons.injEq] at h
     exact absurd h.1 hc
    ·rfl
   have hc34 : ¬ (c.toNat : Int) = 34 := by
    intro h
    exact hc ((toNat_eq _ 34 (by omega)).1 (by omega))
   simp [c_r14_Unquote, l2, lt0, hU, hc34]
theorem refOne_eq (s : List UInt8) (hs : s.length ≤ 5000) (i : Nat) (c : UInt8) (r : List UInt8) (hd : s.drop i = c :: r) (H : Heap) : ∃ m, eval tbl noExt n_r15_one [.str s, .int .i64 i] H = some (refAns i m (oneS (c :: r)), H) := by
 rw [oneS_cons]
 cases h1 : isLetter c with
 | true => exact refOne_word s (by omega) i c r hd h1 H
 | false =>
  cases h2 : Go.AM.isDigit c with
  | true => exact refOne_number s (by omega) i c r hd h1 h2 H
  | false =>
   by_cases h3 : c = 34
   ·subst h3
    exact refOne_text s (by omega) i r hd H refUnquote_eq
   ·have := refOne_sign s (by omega) i c r hd h1 h2 h3 H
    simpa [h3] using this
theorem refWords_loop (H : Heap) (s : List UInt8) (hs : s.length ≤ 4096) : ∀ (f i : Nat) (acc : List (List V)) (φ : Fr) (K : Heap), s.length - i < f → i ≤ s.length → acc.length ≤ i →
  K.take H.length = H → K[H.length]? = some (some [iw 0, iw 0]) → Fr.get φ 0 = .str s → Fr.get φ 3 = .ptr H.length 0 → Fr.get φ 4 = .own 4 acc → Fr.get φ 5 = .int .i64 i →
  M (eval tbl noExt) [.code l_r15_Words_0, .blk 0, .code r_r15_Words_0, .fin [.t 2, .cell 3 (some 2)] H.length] φ K = some (wordsV (wordsG s.length f (s.drop i) acc), H) := by
 intro f
 induction f with
 | zero => intro i acc φ K hf; omega
 | succ f ih =>
  intro i acc φ K hf hl ha hK hc h0 h3 h4 h5
  have hKl : H.length < K.length := (List.getElem?_eq_some_iff.1 hc).1
  have hb : 2 * (acc.length + 1) * 40 ≤ 281474976710656 := by omega
  have e1 : ∀ x, (K.set H.length x)[H.length]? = some x := fun x => by simp [hKl]
  have e2 : ∀ x, (K.set H.length x).take H.length = H := fun x => by rw [List.take_set_of_le (Nat.le_refl _)]; exact hK
  cases hd : s.drop i with
  | nil =>
   have hlt : ¬ (i : Int) < s.length := by
    have : (s.drop i).length = 0 := by rw [hd]; rfl
    rw [List.length_drop] at this
    omega
   rw [l_r15_Words_0, M_loop, ← l_r15_Words_0]
   simp [b_r15_Words_0, h0, h3, h4, h5, hlt]
   simp [r_r15_Words_0, h0, h3, h4, h5, hb, hc, wordsV, wordsG, e1, e2]
  | cons c r =>
   have hcl : s.length - i = r.length + 1 := by rw [← List.length_drop, hd]; rfl
   have hlt : (i : Int) < s.length := by omega
   obtain ⟨m, hX⟩ := refOne_eq s (by omega) i c r hd []
   have e3 : ∀ x, (K ++ [x])[H.length]? = some (some [iw 0, iw 0]) := fun x => by rw [List.getElem?_append_left hKl]; exact hc
   have e4 : ∀ x y, ((K ++ [x]).set H.length y)[H.length]? = some y := fun x y => by rw [List.getElem?_set_self (by simp; omega)]
   have e5 : ∀ x y, ((K ++ [x]).set H.length y).take H.length = H := fun x y => by rw [List.take_set_of_le (Nat.le_refl _), List.take_append_of_le_length (by omega)]; exact hK
   have epos : s.length - (r.length + 1) = i := by omega
   have eG : wordsG s.length (f + 1) (c :: r) acc = (match oneS (c :: r) with
    | .inr e => ([], e, ((i : Nat) : Int))
    | .inl (w, n) => wordsG s.length f (skipG false ((c :: r).drop n)) (acc ++ [w.at ((i : Nat) : Int)])) := by
    rw [wordsG, if_neg (by simp), List.length_cons, epos]
    try rfl
   rw [eG]
   rw [l_r15_Words_0, M_loop, ← l_r15_Words_0]
   cases ho : oneS (c :: r) with
   | inr e =>
    have he := oneS_err c r e ho
    rw [ho] at hX
    simp only [refAns, zeroWd] at hX
    simp [b_r15_Words_0, h0, h3, h4, h5, hlt, hX, get0, set0, e3, e4, e5, he, wordsV]
   | inl p =>
    obtain ⟨w, n⟩ := p
    obtain ⟨n0, n1⟩ := oneS_len c r w n ho
    have hS := refSkip_eq s (by omega) (i + n) (by omega) []
    have hdd : s.drop (i + n) = (c :: r).drop n := by rw [← hd, List.drop_drop]
    rw [hdd] at hS
    have hle := skipG_le false ((c :: r).drop n)
    have hdr := skipG_drop false ((c :: r).drop n)
    rw [List.length_drop, List.length_cons] at hle
    obtain ⟨j, hj⟩ : ∃ j, j = s.length - (skipG false ((c :: r).drop n)).length := ⟨_, rfl⟩
    have hjd : s.drop j = skipG false ((c :: r).drop n) := by
     rw [hdr, ← hdd, List.drop_drop, hj]
     congr 1
     rw [hdd]
     simp only [List.length_drop, List.length_cons] at hle ⊢
     omega
    have hi := ih j (acc ++ [w.at ((i : Nat) : Int)])
    rw [← hj] at hS
    rw [hjd] at hi
    rw [ho] at hX
    show _ = some (wordsV (wordsG s.length f (skipG false ((c :: r).drop n)) (acc ++ [w.at ((i : Nat) : Int)])), H)
    generalize skipG false ((c :: r).drop n) = t at hle hi hj ⊢
    simp only [refAns, Wd.at] at hX hi ⊢
    generalize hin : i + n = I at *
    simp [b_r15_Words_0, h0, h3, h4, h5, hlt, hX, get0, set0, e3, e4, e5, hb, hS]
    refine hi _ _ (by omega) (by omega) (by simp; omega) ?_ ?_ ?_ ?_ ?_ ?_ <;> simp [e3, h0, h3, hK, List.take_append_of_le_length (Nat.le_of_lt hKl)]
theorem refWords_eq (s : List UInt8) (hs : s.length ≤ 1000000) (H : Heap) : eval tbl noExt n_r15_Words [.str s] H = some (wordsV (wordsS s), H) := by
 rw [eval_M rfl rfl t_r15_Words rfl]
 unfold wordsS
 by_cases h : 4096 < s.length
 ·have h' : (4096 : Int) < s.length := by omega
  rw [if_pos h]
  simp [c_r15_Words, h, h', wordsV]
 ·have h' : ¬ (4096 : Int) < s.length := by omega
  rw [if_neg h]
  have hS := refSkip_eq s hs 0 (Nat.zero_le _) []
  have hle := skipG_le false s
  have hdr := skipG_drop false s
  rw [List.drop_zero] at hS
  have e0 : ((0 : Nat) : Int) = 0 := rfl
  rw [e0] at hS
  have hl := refWords_loop H s (by omega) (s.length + 1) (s.length - (skipG false s).length) []
  rw [← hdr] at hl
  have hjl : s.length - (skipG false s).length ≤ s.length := Nat.sub_le _ _
  generalize s.length - (skipG false s).length = j at hS hl hjl
  simp [c_r15_Words, h, h', hS]
  exact hl _ _ (by omega) hjl (by simp) (by simp) (by simp) (by simp) (by simp) (by simp) (by simp)
/-! Two lists of words. -/
theorem fault_eq (e a : Int) (H : Heap) : eval tbl noExt n_l15_Fault [.agg [iw e, iw a], .agg [iw e, iw a]] H = some (.bool true, H) := by
 rw [eval_M rfl rfl t_l15_Fault rfl]
 simp [c_l15_Fault]
end Go.AM.Spec
