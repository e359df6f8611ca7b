/-
 The parts of this proof that speak of the functions one by one.
-/
import Derived.Test.YtfbnodahmmlfdaaGreatDoorSpc
import Derived.Test.YtfbnodahmmlfdaaGreatDoorSpecTx
import Derived.Test.YtfbnodahmmlfdaaGreatDoorSpecTr
import Derived.Test.YtfbnodahmmlfdaaGreatDoorTyl
import Derived.Test.YtfbnodahmmlfdaaGreatDoorDoor
namespace Go.AM.Spec
set_option linter.unusedVariables false
set_option linter.unusedSimpArgs false
set_option maxHeartbeats 1000000
set_option maxRecDepth 10000
theorem HasPrefix0 (s p : List UInt8) (hs : s.length ≤ 1000000) (hp : p.length ≤ 1000) (H : Heap) : eval tbl noExt n_isl_HasPrefix [.str s, .str p] H = some (.bool (p.isPrefixOf s), H) := by
 rw [eval_M rfl rfl t_isl_HasPrefix rfl]
 by_cases h : p.length ≤ s.length
 ·have h' : (p.length : Int) ≤ s.length := by omega
  have e : decide (s.take p.length = p) = p.isPrefixOf s := by
   rw [Bool.eq_iff_iff, decide_eq_true_eq, List.isPrefixOf_iff_prefix, List.prefix_iff_eq_take]
   exact ⟨fun h => h.symm, fun h => h.symm⟩
  simp [c_isl_HasPrefix, h, h', e]
 ·have h' : ¬ (p.length : Int) ≤ s.length := by omega
  have e : p.isPrefixOf s = false := by
   rw [Bool.eq_false_iff]
   intro hh
   exact h (List.isPrefixOf_iff_prefix.1 hh).length_le
  simp [c_isl_HasPrefix, h, h', e]
theorem HasPrefix_eq (s p : List UInt8) (hs : s.length ≤ 1000000) (hp : p.length ≤ 1000) (H : Heap) : eval tbl noExt n_strings_HasPrefix [.str s, .str p] H = some (.bool (p.isPrefixOf s), H) := by
 have h1 := HasPrefix0 s p hs hp []
 rw [eval_M rfl rfl t_strings_HasPrefix rfl]
 simp [c_strings_HasPrefix, h1]
theorem IndexByte_eq (s : List UInt8) (c : UInt8) (H : Heap) : eval tbl noExt n_strings_IndexByte [.str s, .int .u8 c.toNat] H = some (.int .i64 (Go.Lib.indexByte s c), H) := by
 have := c.toNat_lt
 rw [eval_X (e := xIndexByte) rfl rfl]
 show (if 0 ≤ (c.toNat : Int) ∧ (c.toNat : Int) < 256 then some (V.int .i64 (Go.Lib.indexByte s (UInt8.ofNat (c.toNat : Int).toNat)), H) else none) = _
 rw [if_pos (by omega)]
 simp
theorem of_bytes {f : Nat} {g : UInt8 → V} (h : ((List.range 256).map fun (i : Nat) => run tbl noExt 30 f [.int .u8 (i : Int)] []) = (List.range 256).map fun (i : Nat) => some (g (UInt8.ofNat i), [])) (c : UInt8) : eval tbl noExt f [.int .u8 c.toNat] [] = some (g c, []) := by
 have hc := c.toNat_lt
 have h1 := congrArg (fun l => l[c.toNat]?) h
 simp only [List.getElem?_map, List.getElem?_range hc, Option.map_some, Option.some.injEq] at h1
 rw [UInt8.ofNat_toNat] at h1
 exact (eval_iff _ _ _ _ _ _).2 ⟨30, h1⟩
theorem all_u8 {p : UInt8 → Bool} (h : ((List.range 256).all fun i => p (UInt8.ofNat i)) = true) (c : UInt8) : p c = true := by
 have := List.all_eq_true.1 h c.toNat (List.mem_range.2 c.toNat_lt)
 rwa [UInt8.ofNat_toNat] at this
theorem hex_facts (c : UInt8) : (match hexv c with | some x => decide (x < 16) && (hexd x == c) | none => !(c == 48)) = true :=
 all_u8 (p := fun c => match hexv c with | some x => decide (x < 16) && (hexd x == c) | none => !(c == 48)) (by decide +kernel) c
theorem plain_eq (c : UInt8) : eval tbl noExt n_view_plain [.int .u8 c.toNat] [] = some (.bool (plainC c), []) := of_bytes (g := fun c => .bool (plainC c)) (by kernel_rfl) c
def hexText : List UInt8 := [48, 49, 50, 51, 52, 53, 54, 55, 56, 57, 97, 98, 99, 100, 101, 102]
def hexI (c : UInt8) : Int := match hexv c with
 | some x => x
 | none => -1
theorem hex_index (c : UInt8) : Go.Lib.indexByte hexText c = hexI c := by
 have := all_u8 (p := fun c => decide (Go.Lib.indexByte hexText c = hexI c)) (by decide +kernel) c
 simpa using this
theorem hexv_lt {c : UInt8} {x : Nat} (h : hexv c = some x) : x < 16 := by
 have := hex_facts c
 rw [h] at this
 simp at this
 exact this.1
theorem nibble {x y : Nat} (hx : x < 16) (hy : y < 16) : arith .shl .i64 x 4 = some (.int .i64 (16 * (x : Int))) ∧ arith .or .i64 (16 * (x : Int)) y = some (.int .i64 (16 * (x : Int) + y)) := by
 have h : ∀ a : Fin 16, ∀ b : Fin 16, (match arith .shl .i64 (a.val : Int) 4 with | some (.int .i64 n) => decide (n = 16 * (a.val : Int)) | _ => false) = true ∧ (match arith .or .i64 (16 * (a.val : Int)) (b.val : Int) with | some (.int .i64 n) => decide (n = 16 * (a.val : Int) + b.val) | _ => false) = true := by decide +kernel
 obtain ⟨h1, h2⟩ := h ⟨x, hx⟩ ⟨y, hy⟩
 constructor
 ·split at h1
  ·rename_i n e; simp at h1; rw [e, h1]
  ·cases h1
 ·split at h2
  ·rename_i n e; simp at h2; rw [e, h2]
  ·cases h2
def pairS : List UInt8 → V
 | a :: b :: _ => match hexv a, hexv b with
  | some x, some y => .tup [.int .u8 ((16 * x + y : Nat) : Int), .bool (!plainC (UInt8.ofNat (16 * x + y)))]
  | _, _ => .tup [.int .u8 0, .bool false]
 | _ => .tup [.int .u8 0, .bool false]
theorem pair_eq (s : List UInt8) (hs : s.length ≤ 1000000) : eval tbl noExt n_view_pair [.str s] [] = some (pairS s, []) := by
 rw [eval_M rfl rfl t_view_pair rfl]
 match s with
 | [] => simp [c_view_pair, pairS]
 | [a] => simp [c_view_pair, pairS]
 | a :: b :: l =>
  have h0 : ¬ ((l.length : Int) + 1 + 1 < 2) := by omega
  have h1 : (0 : Int) < (l.length : Int) + 1 + 1 := by omega
  have h2 : (1 : Int) < (l.length : Int) + 1 + 1 := by omega
  have ea := IndexByte_eq hexText a []
  have eb := IndexByte_eq hexText b []
  rw [hex_index] at ea eb
  simp only [hexText] at ea eb
  cases ha : hexv a with
  | none =>
   have e1 : hexI a = -1 := by simp [hexI, ha]
   rw [e1] at ea
   simp [c_view_pair, pairS, h0, h1, h2, ea, eb, ha]
  | some x =>
   have hx := hexv_lt ha
   have e1 : hexI a = x := by simp [hexI, ha]
   rw [e1] at ea
   have nx : ¬ (x : Int) < 0 := by omega
   cases hb : hexv b with
   | none =>
    have e2 : hexI b = -1 := by simp [hexI, hb]
    rw [e2] at eb
    simp [c_view_pair, pairS, h0, h1, h2, ea, eb, ha, hb, nx]
   | some y =>
    have hy := hexv_lt hb
    have e2 : hexI b = y := by simp [hexI, hb]
    rw [e2] at eb
    have ny : ¬ (y : Int) < 0 := by omega
    obtain ⟨q1, q2⟩ := nibble hx hy
    have hP := plain_eq (UInt8.ofNat (16 * x + y))
    have e3 : ((UInt8.ofNat (16 * x + y)).toNat : Int) = 16 * (x : Int) + y := by
     rw [UInt8.toNat_ofNat', Nat.mod_eq_of_lt (by omega)]
     omega
    rw [e3] at hP
    have e4 : IntKind.u8.wrap (16 * (x : Int) + y) = 16 * (x : Int) + y := by rw [IntKind.wrap_u8]; omega
    simp [-arith, c_view_pair, pairS, h0, h1, h2, ea, eb, ha, hb, nx, ny, q1, q2, e4, hP]
theorem WriteByte_eq (H : Heap) (bs : List UInt8) (c : UInt8) (hl : bs.length < 100000000) : eval tbl noExt n_pstrings_Builder_WriteByte [.bptr H.length, .int .u8 c.toNat] (H ++ [some [.bld bT bE bs]]) = some (.undef, H ++ [some [.bld bT bE (bs ++ [c])]]) := by
 have hc := c.toNat_lt
 have hc' : (c.toNat : Int) < 256 := by omega
 rw [eval_X (e := xWriteByte bT bP bE) rfl rfl]
 simp [xWriteByte, hc', hl]
theorem BString_eq (H : Heap) (bs : List UInt8) : eval tbl noExt n_pstrings_Builder_String [.bptr H.length] (H ++ [some [.bld bT bE bs]]) = some (.str bs, H ++ [none]) := by
 rw [eval_X (e := xString bT bP bE) rfl rfl]
 simp [xString]
theorem CutPrefix_eq (s : List UInt8) (c : UInt8) (hs : s.length ≤ 1000000) : eval tbl noExt n_strings_CutPrefix [.str s, .str [c]] [] = some (.tup [.str (if s.head? = some c then s.drop 1 else s), .bool (decide (s.head? = some c))], []) := by
 have h1 : eval tbl noExt n_isl_CutPrefix [.str s, .str [c]] [] = some (.tup [.str (if s.head? = some c then s.drop 1 else s), .bool (decide (s.head? = some c))], []) := by
  have hp := HasPrefix0 s [c] hs (by simp) []
  rw [eval_M rfl rfl t_isl_CutPrefix rfl]
  match s with
  | [] => simp [c_isl_CutPrefix, hp]
  | d :: r =>
   have e : [c].isPrefixOf (d :: r) = decide (d = c) := by
    rw [Bool.eq_iff_iff]; simp only [List.isPrefixOf, Bool.and_true, beq_iff_eq, decide_eq_true_eq]; exact eq_comm
   rw [e] at hp
   by_cases h : d = c
   ·subst h
    have h0 : (0 : Int) ≤ 1 ∧ (1 : Int) ≤ (r.length : Int) + 1 := by omega
    simp at hp
    simp [c_isl_CutPrefix, hp, h0]
   ·simp [h] at hp
    simp [c_isl_CutPrefix, hp, h]
 rw [eval_M rfl rfl t_strings_CutPrefix rfl]
 simp [c_strings_CutPrefix, h1]
theorem last_split {s : List UInt8} {c : UInt8} (h : s.getLast? = some c) : ∃ r, s = r ++ [c] := by
 obtain ⟨r, hr⟩ := List.getLast?_eq_some_iff.1 h
 exact ⟨r, hr⟩
theorem HasSuffix0 (s : List UInt8) (c : UInt8) (hs : s.length ≤ 1000000) : eval tbl noExt n_isl_HasSuffix [.str s, .str [c]] [] = some (.bool (decide (s.getLast? = some c)), []) := by
 rw [eval_M rfl rfl t_isl_HasSuffix rfl]
 rcases List.eq_nil_or_concat s with rfl | ⟨r, d, rfl⟩
 ·simp [c_isl_HasSuffix]
 ·rw [List.concat_eq_append] at *
  have h1 : (1 : Int) ≤ (r.length : Int) + 1 := by omega
  have h2 : IntKind.i64.wrap (r.length : Int) = r.length := by rw [w64] <;> simp at hs <;> omega
  have h3 : (r.length : Int) ≤ (r.length : Int) + 1 := by omega
  have h4 : (r ++ [d]).take (r.length + 1) = r ++ [d] := List.take_of_length_le (by simp)
  simp [c_isl_HasSuffix, h1, h2, h3, h4]
theorem CutSuffix_eq (s : List UInt8) (c : UInt8) (hs : s.length ≤ 1000000) : eval tbl noExt n_strings_CutSuffix [.str s, .str [c]] [] = some (.tup [.str (if s.getLast? = some c then s.dropLast else s), .bool (decide (s.getLast? = some c))], []) := by
 have h1 : eval tbl noExt n_isl_CutSuffix [.str s, .str [c]] [] = some (.tup [.str (if s.getLast? = some c then s.dropLast else s), .bool (decide (s.getLast? = some c))], []) := by
  have hp := HasSuffix0 s c hs
  rw [eval_M rfl rfl t_isl_CutSuffix rfl]
  by_cases h : s.getLast? = some c
  ·obtain ⟨r, rfl⟩ := last_split h
   have h2 : IntKind.i64.wrap (r.length : Int) = r.length := by rw [w64] <;> simp at hs <;> omega
   have h3 : (r.length : Int) ≤ (r.length : Int) + 1 := by omega
   simp at hp
   simp [c_isl_CutSuffix, hp, h2, h3]
  ·simp [h] at hp
   simp [c_isl_CutSuffix, hp, h]
 rw [eval_M rfl rfl t_strings_CutSuffix rfl]
 simp [c_strings_CutSuffix, h1]
def unqOut (acc : List UInt8) : Option (List UInt8) → V
 | some t => .tup [.str (acc ++ t), .bool true]
 | none => .tup [.str [], .bool false]
theorem unq_loop (H : Heap) : ∀ (n : Nat) (l acc : List UInt8) (φ : Fr), l.length ≤ n → l.length + acc.length ≤ 1000000 → Fr.get φ 4 = .str l → Fr.get φ 7 = .bptr H.length →
  M (eval tbl noExt) [.code l_view_Unquote_0, .blk 0, .code r_view_Unquote_0, .fin [.t 2, .t 3] H.length] φ (H ++ [some [.bld bT bE acc]]) = some (unqOut acc (unqL l), H) := by
 intro n
 induction n with
 | zero =>
  intro l acc φ hl ha h4 h7
  obtain rfl : l = [] := List.eq_nil_of_length_eq_zero (by omega)
  rw [l_view_Unquote_0, M_loop, ← l_view_Unquote_0]
  simp [b_view_Unquote_0, r_view_Unquote_0, h4, h7, BString_eq, unqL, unqOut]
 | succ n ih =>
  intro l acc φ hl ha h4 h7
  match l with
  | [] =>
   rw [l_view_Unquote_0, M_loop, ← l_view_Unquote_0]
   simp [b_view_Unquote_0, r_view_Unquote_0, h4, h7, BString_eq, unqL, unqOut]
  | c :: r =>
   simp only [List.length_cons] at hl ha
   have h1 : (0 : Int) < (r.length : Int) + 1 := by omega
   have h2 : (1 : Int) ≤ (r.length : Int) + 1 := by omega
   rw [l_view_Unquote_0, M_loop, ← l_view_Unquote_0]
   by_cases hc : c = 92
   ·subst hc
    have hP := pair_eq r (by omega)
    match r with
    | [] =>
     simp only [pairS] at hP
     simp [b_view_Unquote_0, h4, h7, h1, h2, hP, unqL, unqOut]
    | [a] =>
     simp only [pairS] at hP
     simp [b_view_Unquote_0, h4, h7, h1, h2, hP, unqL, unqOut]
    | a :: b :: t =>
     simp only [List.length_cons] at hl ha
     have h3 : (0 : Int) < (t.length : Int) + 1 + 1 + 1 := by omega
     have h5 : (1 : Int) ≤ (t.length : Int) + 1 + 1 + 1 := by omega
     have h6 : (2 : Int) ≤ (t.length : Int) + 1 + 1 := by omega
     have no : pairC a b = none → unqL (92 :: a :: b :: t) = none := by intro h; rw [unqL]; simp [h]
     have yes : ∀ d, pairC a b = some d → unqL (92 :: a :: b :: t) = (unqL t).map (d :: ·) := by intro d h; rw [unqL]; simp [h]
     cases hx : hexv a with
     | none =>
      simp [pairS, hx] at hP
      have := no (by simp [pairC, hx])
      simp [b_view_Unquote_0, h4, h7, h3, h5, h6, hP, this, unqOut]
     | some x =>
      cases hy : hexv b with
      | none =>
       simp [pairS, hx, hy] at hP
       have := no (by simp [pairC, hx, hy])
       simp [b_view_Unquote_0, h4, h7, h3, h5, h6, hP, this, unqOut]
      | some y =>
       have hx16 := hexv_lt hx
       have hy16 := hexv_lt hy
       have e3 : ((UInt8.ofNat (16 * x + y)).toNat : Int) = 16 * (x : Int) + y := by
        rw [UInt8.toNat_ofNat', Nat.mod_eq_of_lt (by omega)]
        omega
       have hP2 : eval tbl noExt n_view_pair [.str (a :: b :: t)] [] = some (.tup [.int .u8 (16 * (x : Int) + y), .bool (!plainC (UInt8.ofNat (16 * x + y)))], []) := by
        rw [hP]; simp only [pairS, hx, hy]; simp
       have hpc : pairC a b = if plainC (UInt8.ofNat (16 * x + y)) then none else some (UInt8.ofNat (16 * x + y)) := by simp only [pairC, hx, hy]
       generalize UInt8.ofNat (16 * x + y) = d at hP2 hpc e3
       cases hp : plainC d with
       | true =>
        have := no (by rw [hpc, hp]; rfl)
        rw [hp] at hP2
        simp [b_view_Unquote_0, h4, h7, h3, h5, h6, hP2, this, unqOut]
       | false =>
        have hY := yes d (by rw [hpc, hp]; rfl)
        rw [hp] at hP2
        have hW := WriteByte_eq H acc d (by omega)
        rw [e3] at hW
        simp [b_view_Unquote_0, h4, h7, h3, h5, h6, hP2, hW]
        rw [ih t (acc ++ [d]) _ (by omega) (by simp; omega) (by simp) (by simp [h7])]
        rw [hY]
        cases unqL t <;> simp [unqOut]
   ·have hq : ¬ (c.toNat : Int) = 92 := by
     intro h
     exact hc (by apply UInt8.toNat_inj.1; show c.toNat = 92; omega)
    have hP := plain_eq c
    have hu : unqL (c :: r) = if plainC c = true then (unqL r).map (c :: ·) else none := by
     rw [unqL.eq_def]; simp only [hc, if_false]
    cases hp : plainC c with
    | false =>
     rw [hp] at hP hu
     simp [b_view_Unquote_0, h4, h7, h1, h2, hq, hP, hu, unqOut]
    | true =>
     rw [hp] at hP hu
     have hW := WriteByte_eq H acc c (by omega)
     simp [b_view_Unquote_0, h4, h7, h1, h2, hq, hP, hW]
     rw [ih r (acc ++ [c]) _ (by omega) (by simp; omega) (by simp) (by simp [h7])]
     rw [hu]
     cases unqL r <;> simp [unqOut]
theorem Unquote_eq (s : List UInt8) (hs : s.length ≤ 1000000) (H : Heap) : eval tbl noExt n_view_Unquote [.str s] H = some (.tup [.str ((unq s).getD []), .bool (unq s).isSome], H) := by
 have hp := CutPrefix_eq s 34 hs
 rw [eval_M rfl rfl t_view_Unquote rfl]
 by_cases h : s.head? = some 34
 ·obtain ⟨r, rfl⟩ : ∃ r, s = 34 :: r := by
   cases s with
   | nil => cases h
   | cons c r => simp at h; subst h; exact ⟨r, rfl⟩
  simp only [List.length_cons] at hs
  have hq := CutSuffix_eq r 34 (by omega)
  simp at hp
  by_cases h2 : r.getLast? = some 34
  ·obtain ⟨t, rfl⟩ := last_split h2
   have hu : unq (34 :: (t ++ [34])) = unqL t := by simp [unq]
   simp at hq hs
   rw [hu]
   simp [c_view_Unquote, hp, hq]
   rw [unq_loop H t.length t [] _ (Nat.le_refl _) (by simp; omega) (by simp) (by simp)]
   cases unqL t <;> simp [unqOut]
  ·have hu : unq (34 :: r) = none := by simp [unq, h2]
   simp [h2] at hq
   rw [hu]
   simp [c_view_Unquote, hp, hq]
 ·have hq := CutSuffix_eq s 34 hs
  have hu : unq s = none := by
   unfold unq
   split
   ·rename_i r; simp at h
   ·rfl
  simp [h] at hp
  rw [hu]
  by_cases h2 : s.getLast? = some 34 <;> simp [h2] at hq <;> simp [c_view_Unquote, hp, hq]
def Ex.op : Ex → Int
 | .mk op _ _ _ => op
def strong (op : Int) : Nat := if op = 14 then 0 else if op = 13 then 1 else if op = 8 then 2 else if op = 11 ∨ op = 12 then 3 else if op = 9 ∨ op = 10 then 4 else 5
def signT (op : Int) : List UInt8 := if op = 9 then [32, 43, 32] else if op = 10 then [32, 45, 32] else if op = 11 then [32, 61, 61, 32] else if op = 12 then [32, 60, 32] else if op = 13 then [32, 97, 110, 100, 32] else [32, 111, 114, 32]
def callT (op : Int) : List UInt8 := if op = 5 then [101, 120, 105, 115, 116, 115] else if op = 6 then [115, 105, 122, 101] else [114, 101, 97, 100]
def par (b : Bool) (s : List UInt8) : List UInt8 := if b then 40 :: (s ++ [41]) else s
def leastOf (op : Int) (i : Nat) : Nat := if op = 8 then 2 else if op = 5 ∨ op = 6 ∨ op = 7 then 0 else if i = 0 then (if strong op = 3 then 4 else strong op) else strong op + 1
def boolT (n : Int) : List UInt8 := if n = 1 then [116, 114, 117, 101] else [102, 97, 108, 115, 101]
def exBody (op n : Int) (s p q : List UInt8) : List UInt8 :=
 if op = 1 then text n else if op = 2 then quo s else if op = 4 then s else if op = 3 then boolT n
 else if op = 8 then [110, 111, 116, 32] ++ p else if op = 5 ∨ op = 6 ∨ op = 7 then callT op ++ [40] ++ p ++ [41] else p ++ signT op ++ q
mutual
def Ex.bare : Ex → List UInt8
 | .mk op n s x => exBody op n s ((Ex.bares op 0 x).getD 0 []) ((Ex.bares op 0 x).getD 1 [])
def Ex.bares (op : Int) (i : Nat) : List Ex → List (List UInt8)
 | [] => []
 | e :: l => par (decide (strong e.op < leastOf op i)) e.bare :: Ex.bares op (i + 1) l
end
def exsT : Bool → List Ex → List UInt8
 | _, [] => []
 | first, e :: l => (if first then [] else [44]) ++ [32] ++ e.bare ++ exsT false l
def keysT : List (List UInt8) := Go.Lib.fields [99, 114, 101, 97, 116, 101, 32, 109, 107, 100, 105, 114, 32, 119, 114, 105, 116, 101, 32, 97, 112, 112, 101, 110, 100, 32, 116, 114, 117, 110, 99, 97, 116, 101, 32, 114, 101, 110, 97, 109, 101, 32, 117, 110, 108, 105, 110, 107, 32, 102, 115, 121, 110, 99, 32, 102, 100, 97, 116, 97, 115, 121, 110, 99, 32, 115, 121, 110, 99, 100, 105, 114, 32, 98, 97, 114, 114, 105, 101, 114, 32, 108, 101, 116, 32, 105, 102, 32, 114, 101, 112, 101, 97, 116, 32, 99, 97, 108, 108, 32, 116, 120, 110, 32, 114, 101, 112, 108, 97, 121, 32, 97, 115, 115, 101, 114, 116]
def keyT (op : Int) : List UInt8 := keysT.getD (op - 1).toNat []
def midT (op : Int) (s : List UInt8) (n : Int) : List UInt8 := if op = 12 then 32 :: (s ++ [32, 61]) else if op = 15 then 32 :: s else if op = 14 then 32 :: text n else []
def tabT (t : Nat) : List UInt8 := Go.Lib.repeatL [9] t
mutual
def Sm.text : Sm → Nat → List UInt8
 | .mk op s n e b c g, t => keyT op ++ midT op s n ++ exsT true e ++
  (if op = 13 ∨ op = 14 then ([32, 123, 10] ++ Sm.texts b (t + 1) ++ tabT t ++ [125]) ++ (if c.length = 0 then [] else [32, 101, 108, 115, 101] ++ ([32, 123, 10] ++ Sm.texts c (t + 1) ++ tabT t ++ [125]))
  else (if op = 16 then ([32, 123, 10] ++ Sm.texts b (t + 1) ++ tabT t ++ [125]) ++ (if g then [32, 99, 111, 109, 109, 105, 116] else []) else []) ++ [59])
def Sm.texts : List Sm → Nat → List UInt8
 | [], _ => []
 | e :: l, t => tabT t ++ e.text t ++ [10] ++ Sm.texts l t
end
def blkT (l : List Sm) (t : Nat) : List UInt8 := [32, 123, 10] ++ Sm.texts l (t + 1) ++ tabT t ++ [125]
def procT (x : List UInt8 × List Sm) : List UInt8 := [112, 114, 111, 99, 32] ++ x.1 ++ blkT x.2 0 ++ [10]
def oraT (x : List UInt8 × Ex) : List UInt8 := [111, 114, 97, 99, 108, 101, 32] ++ x.1 ++ [58, 32] ++ x.2.bare ++ [59, 10]
def Pg.text (p : Pg) : List UInt8 :=
 p.procs.flatMap procT ++ ([109, 97, 105, 110] ++ blkT p.main 0 ++ [10]) ++ (if p.recover.length = 0 then [] else [114, 101, 99, 111, 118, 101, 114] ++ blkT p.recover 0 ++ [10]) ++ p.oracles.flatMap oraT
theorem parts_some {op : Int} {k : Nat} (h : parts op = some k) : 1 ≤ op ∧ op ≤ 14 ∧ k = if op ≤ 4 then 0 else if op ≤ 8 then 1 else 2 := by
 unfold parts at h
 split at h
 ·cases h
 split at h
 ·cases h
 refine ⟨by omega, by omega, ?_⟩
 split at h
 ·rw [if_pos ‹_›]; exact (Option.some.inj h).symm
 ·rw [if_neg ‹_›]
  split at h
  ·rw [if_pos ‹_›]; exact (Option.some.inj h).symm
  ·rw [if_neg ‹_›]; exact (Option.some.inj h).symm
theorem ex_txts_mem : ∀ {l : List Ex}, Ex.txts l → ∀ e ∈ l, e.txt := by
 intro l
 induction l with
 | nil => intro _ e he; simp at he
 | cons y l ih2 =>
  intro h e he
  rcases List.mem_cons.1 he with rfl | he
  ·exact h.1
  ·exact ih2 h.2 e he
theorem sm_txts_mem : ∀ {l : List Sm}, Sm.txts l → ∀ e ∈ l, e.txt := by
 intro l
 induction l with
 | nil => intro _ e he; simp at he
 | cons y l ih2 =>
  intro h e he
  rcases List.mem_cons.1 he with rfl | he
  ·exact h.1
  ·exact ih2 h.2 e he
theorem exprs_some {op : Int} {k : Nat} (h : exprs op = some k) : 1 ≤ op ∧ op ≤ 18 := by
 unfold exprs at h
 by_cases h1 : op < 1
 ·rw [if_neg (by omega), if_neg (by omega), if_neg (by omega), if_neg (by omega), if_neg (by omega), if_neg (by omega), if_neg (by omega), if_pos h1] at h
  cases h
 by_cases h2 : 18 < op
 ·rw [if_neg (by omega), if_neg (by omega), if_neg (by omega), if_neg (by omega), if_neg (by omega), if_neg (by omega), if_neg (by omega), if_neg h1, if_pos h2] at h
  cases h
 omega
theorem par_length (b : Bool) (s : List UInt8) : (par b s).length ≤ s.length + 2 := by unfold par; split <;> simp
theorem tabT_length (t : Nat) : (tabT t).length = t := by unfold tabT; rw [Go.Lib.repeatL_length]; simp
theorem sign_length (op : Int) : (signT op).length ≤ 5 := by
 unfold signT
 repeat' split
 all_goals simp
theorem call_length (op : Int) : (callT op).length ≤ 6 := by
 unfold callT
 repeat' split
 all_goals simp
theorem boolT_length (n : Int) : (boolT n).length ≤ 5 := by unfold boolT; split <;> simp
theorem keys_all : ((List.range 18).all fun i => decide ((keysT.getD i []).length ≤ 9)) = true := by kernel_rfl
theorem keysT_length : keysT.length = 18 := by kernel_rfl
theorem key_length (op : Int) : (keyT op).length ≤ 9 := by
 unfold keyT
 by_cases h : (op - 1).toNat < 18
 ·have := List.all_eq_true.1 keys_all (op - 1).toNat (List.mem_range.2 h)
  simpa using this
 ·rw [List.getD_eq_getElem?_getD, List.getElem?_eq_none (by rw [keysT_length]; omega)]; simp
theorem signC_all : ((List.range 256).all fun i => decide ((signC (UInt8.ofNat i)).length ≤ 4)) = true := by kernel_rfl
theorem quo_length (s : List UInt8) : (quo s).length ≤ 4 * s.length + 2 := by
 have h : ∀ l : List UInt8, (l.flatMap signC).length ≤ 4 * l.length := by
  intro l
  induction l with
  | nil => simp
  | cons c l ih =>
   have := all_u8 (p := fun c => decide ((signC c).length ≤ 4)) signC_all c
   simp at this
   simp only [List.flatMap_cons, List.length_append, List.length_cons]
   omega
 have := h s
 unfold quo
 simp only [List.length_cons, List.length_append, List.length_nil]
 omega
theorem exBody_length (op n : Int) (s p q : List UInt8) (hs : s.length ≤ 300) : (exBody op n s p q).length ≤ 1300 + p.length + q.length := by
 have h1 := text_length n
 have h2 := quo_length s
 have h3 := boolT_length n
 have h4 := call_length op
 have h5 := sign_length op
 unfold exBody
 repeat' split
 all_goals first | omega | (simp only [List.length_append, List.length_cons, List.length_nil]; omega)
theorem getD_le (l : List (List UInt8)) : (l.getD 0 []).length + (l.getD 1 []).length ≤ (l.map List.length).sum := by
 match l with
 | [] => simp
 | [a] => simp
 | a :: b :: l => simp only [List.getD_cons_zero, List.getD_cons_succ, List.map_cons, List.sum_cons]; omega
mutual
theorem bare_length : ∀ (e : Ex), e.txt → e.bare.length + 2 ≤ 1400 * e.size
 | .mk op n s x, h => by
  simp only [Ex.txt] at h
  have h1 := bares_length op 0 x h.2
  have h2 := getD_le (Ex.bares op 0 x)
  have h3 := exBody_length op n s ((Ex.bares op 0 x).getD 0 []) ((Ex.bares op 0 x).getD 1 []) h.1
  simp only [Ex.bare, Ex.size]
  omega
theorem bares_length (op : Int) : ∀ (i : Nat) (l : List Ex), Ex.txts l → ((Ex.bares op i l).map List.length).sum ≤ 1400 * Ex.sizes l
 | _, [], _ => by simp [Ex.bares]
 | i, e :: l, h => by
  simp only [Ex.txts] at h
  have h1 := bare_length e h.1
  have h2 := bares_length op (i + 1) l h.2
  have h3 := par_length (decide (strong e.op < leastOf op i)) e.bare
  simp only [Ex.bares, List.map_cons, List.sum_cons, Ex.sizes]
  omega
end
theorem exsT_length : ∀ (b : Bool) (l : List Ex), Ex.txts l → (exsT b l).length ≤ 1400 * Ex.sizes l
 | _, [], _ => by simp [exsT]
 | b, e :: l, h => by
  simp only [Ex.txts] at h
  have h1 := bare_length e h.1
  have h2 := exsT_length false l h.2
  simp only [exsT, List.length_append, Ex.sizes]
  split <;> simp <;> omega
theorem midT_length (op : Int) (s : List UInt8) (n : Int) (hs : s.length ≤ 300) : (midT op s n).length ≤ 310 := by
 have := text_length n
 unfold midT
 repeat' split
 all_goals simp
 all_goals omega
theorem Sm.ok_parts {op : Int} {s : List UInt8} {n : Int} {e : List Ex} {b c : List Sm} {g : Bool} {d : Nat} (h : (Sm.mk op s n e b c g).ok d = true) : d ≤ 8 ∧ shapeOk op s n e b c g = true ∧ txnOk op b = true ∧ Sm.oks b (d + 1) = true ∧ Sm.oks c (d + 1) = true := by
 rw [Sm.ok] at h
 simpa only [Bool.and_eq_true, decide_eq_true_eq] using h
mutual
theorem text_len : ∀ (e : Sm) (t : Nat), e.txt → e.ok t = true → (e.text t).length + t + 1 ≤ 1500 * e.size
 | .mk op s n e b c g, t, h, ht => by
  obtain ⟨ht, _, _, hob, hoc⟩ := Sm.ok_parts ht
  simp only [Sm.txt] at h
  simp only [Sm.size]
  have h1 := key_length op
  have h2 := midT_length op s n h.1
  have h3 := exsT_length true e h.2.1
  have h4 := texts_len b (t + 1) h.2.2.1 hob
  have h5 := texts_len c (t + 1) h.2.2.2 hoc
  have h6 := tabT_length t
  simp only [Sm.text, List.length_append]
  repeat' split
  all_goals simp only [List.length_append, List.length_cons, List.length_nil, h6]
  all_goals omega
theorem texts_len : ∀ (l : List Sm) (t : Nat), Sm.txts l → Sm.oks l t = true → (Sm.texts l t).length ≤ 1500 * Sm.sizes l
 | [], _, _, _ => by simp [Sm.texts]
 | e :: l, t, h, ht => by
  simp only [Sm.txts] at h
  simp only [Sm.oks, Bool.and_eq_true] at ht
  simp only [Sm.sizes]
  have h1 := text_len e t h.1 ht.1
  have h2 := texts_len l t h.2 ht.2
  have h6 := tabT_length t
  simp only [Sm.texts, List.length_append, List.length_singleton, h6]
  omega
end
abbrev iw (n : Int) : V := .int .i64 n
def isBlank (c : UInt8) : Bool := decide (c.toNat = 32) || decide (c.toNat = 9) || decide (c.toNat = 10)
def skipG : Bool → List UInt8 → List UInt8
 | _, [] => []
 | false, c :: l => if isBlank c then skipG false l else if c = 35 then skipG true l else c :: l
 | true, c :: l => if c = 10 then skipG false l else skipG true l
theorem skipG_le : ∀ (b : Bool) (l : List UInt8), (skipG b l).length ≤ l.length
 | _, [] => by simp [skipG]
 | false, c :: l => by
  unfold skipG
  split
  ·exact Nat.le_succ_of_le (skipG_le false l)
  ·split
   ·exact Nat.le_succ_of_le (skipG_le true l)
   ·exact Nat.le_refl _
 | true, c :: l => by
  unfold skipG
  split
  ·exact Nat.le_succ_of_le (skipG_le false l)
  ·exact Nat.le_succ_of_le (skipG_le true l)
structure Wd where
 kind : Int
 s : List UInt8
 n : Int
 deriving DecidableEq
def Wd.at (w : Wd) (at_ : Int) : List V := [iw w.kind, .str w.s, iw w.n, iw at_]
def signsL : List UInt8 := [123, 125, 40, 41, 59, 44, 58, 43, 45, 60, 61]
def quoteEnd : List UInt8 → Option Nat
 | [] => none
 | c :: l => if c = 34 then some 0 else (quoteEnd l).map (· + 1)
def oneS (l : List UInt8) : (Wd × Nat) ⊕ Int :=
 match l with
 | [] => .inr 12
 | c :: r =>
  if isLetter c then
   let w := (c :: r).takeWhile isInner
   if isKey w then .inl (⟨4, w, 0⟩, w.length) else if isName w then .inl (⟨1, w, 0⟩, w.length) else .inr 14
  else if isDigit c then
   let w := (c :: r).takeWhile isDigit
   if (readR w).2 then .inl (⟨2, [], (readR w).1⟩, w.length) else .inr 12
  else if c = 34 then
   match quoteEnd r with
   | none => .inr 12
   | some n => match unq (34 :: (r.take n ++ [34])) with
    | none => .inr 12
    | some u => if 64 < u.length then .inr 14 else .inl (⟨3, u, 0⟩, n + 2)
  else if c = 61 ∧ r.head? = some 61 then .inl (⟨5, [61, 61], 0⟩, 2)
  else if signsL.contains c then .inl (⟨5, [c], 0⟩, 1)
  else .inr 12
def wordsG (total : Nat) : Nat → List UInt8 → List (List V) → (List (List V)) × Int × Int
 | 0, _, acc => (acc, 0, 0)
 | f + 1, l, acc => if l = [] then (acc ++ [[iw 0, .str [], iw 0, iw total]], 0, 0)
  else match oneS l with
   | .inr e => ([], e, ((total - l.length : Nat) : Int))
   | .inl (w, n) => wordsG total f (skipG false (l.drop n)) (acc ++ [w.at ((total - l.length : Nat) : Int)])
def wordsS (s : List UInt8) : (List (List V)) × Int × Int := if 4096 < s.length then ([], 14, 0) else wordsG s.length (s.length + 1) (skipG false s) []
theorem blank_contains (c : UInt8) : [32, 9, 10].contains c = isBlank c := by
 unfold isBlank
 have h : ∀ a : UInt8, (c == a) = decide (c.toNat = a.toNat) := by
  intro a
  rw [Bool.eq_iff_iff]
  simp only [beq_iff_eq, decide_eq_true_eq, ← UInt8.toNat_inj]
 simp only [List.contains_cons, List.contains_nil, h]
 simp [Bool.or_assoc]
theorem trimLeft_eq (s : List UInt8) (hs : s.length ≤ 1000000) (H : Heap) : eval tbl noExt n_strings_TrimLeft [.str s, .str [32, 9, 10]] H = some (.str (s.dropWhile isBlank), H) := by
 have e : Go.Lib.trimLeftS s [32, 9, 10] = s.dropWhile isBlank := by
  unfold Go.Lib.trimLeftS
  congr 1
  funext c
  exact blank_contains c
 rw [eval_X (e := xTrimLeft) rfl rfl]
 simp [xTrimLeft, hs, e]
def hashG : List UInt8 → List UInt8
 | [] => []
 | c :: r => if c = 35 then skipG true r else c :: r
theorem skip_dw : ∀ s : List UInt8, skipG false s = hashG (s.dropWhile isBlank)
 | [] => rfl
 | c :: l => by
  cases hb : isBlank c with
  | true =>
   rw [List.dropWhile_cons_of_pos hb]
   show (if isBlank c = true then skipG false l else _) = _
   rw [if_pos hb]
   exact skip_dw l
  | false =>
   rw [List.dropWhile_cons_of_neg (by simp [hb])]
   show (if isBlank c = true then skipG false l else _) = _
   rw [if_neg (by simp [hb])]
   rfl
theorem index_10 (c : UInt8) (l : List UInt8) : Go.Lib.indexByte (c :: l) 10 = if c = 10 then 0 else if Go.Lib.indexByte l 10 = -1 then -1 else Go.Lib.indexByte l 10 + 1 := by
 rw [Go.Lib.indexByte]
 by_cases h : c = 10
 ·subst h; rfl
 ·rw [if_neg (by simpa using h), if_neg h]
  by_cases h2 : Go.Lib.indexByte l 10 = -1
  ·rw [h2]; rfl
  ·rw [if_neg (by simpa using h2), if_neg h2]
theorem index_cases (l : List UInt8) (c : UInt8) : Go.Lib.indexByte l c = -1 ∨ ∃ n : Nat, Go.Lib.indexByte l c = n ∧ n < l.length := by
 induction l with
 | nil => exact .inl rfl
 | cons b l ih =>
  rw [Go.Lib.indexByte]
  by_cases h : (b == c) = true
  ·rw [if_pos h]; exact .inr ⟨0, rfl, by simp⟩
  ·rw [if_neg h]
   rcases ih with h2 | ⟨n, h2, h3⟩
   ·rw [h2]; exact .inl rfl
   ·rw [h2]
    have : ¬ (((n : Int) == -1) = true) := by simp
    rw [if_neg this]
    exact .inr ⟨n + 1, by omega, by simpa using h3⟩
theorem skip_com : ∀ r : List UInt8, skipG true r = if Go.Lib.indexByte r 10 = -1 then [] else skipG false (r.drop (Go.Lib.indexByte r 10).toNat)
 | [] => rfl
 | c :: l => by
  rw [index_10]
  show (if c = 10 then skipG false l else skipG true l) = _
  by_cases h : c = 10
  ·rw [if_pos h, if_pos h, if_neg (by decide)]
   subst h
   rfl
  ·rw [if_neg h, if_neg h, skip_com l]
   rcases index_cases l 10 with h2 | ⟨n, h2, h3⟩
   ·rw [h2]; rfl
   ·rw [h2]
    have h4 : ¬ (n : Int) = -1 := by omega
    have h5 : ¬ ((n : Int) + 1) = -1 := by omega
    rw [if_neg h4, if_neg h4, if_neg h5]
    have : ((n : Int) + 1).toNat = n + 1 := by omega
    rw [this, Int.toNat_natCast, List.drop_succ_cons]
theorem skip_loop (H : Heap) : ∀ (n : Nat) (s : List UInt8) (φ : Fr), s.length ≤ n → s.length ≤ 1000000 → Fr.get φ 0 = .str s →
  M (eval tbl noExt) [.code l_lex_skip_0, .blk 0, .fin [.t 2] H.length] φ H = some (.str (skipG false s), H) := by
 intro n
 induction n with
 | zero =>
  intro s φ hn hs h0
  have : s = [] := List.eq_nil_of_length_eq_zero (by omega)
  subst this
  have hT := trimLeft_eq [] hs []
  have hP := HasPrefix_eq [] [35] hs (by decide) []
  have e1 : ([] : List UInt8).dropWhile isBlank = [] := rfl
  have e2 : List.isPrefixOf [35] ([] : List UInt8) = false := rfl
  rw [e1] at hT
  rw [e2] at hP
  rw [l_lex_skip_0, M_loop, ← l_lex_skip_0]
  simp [b_lex_skip_0, h0, hT, hP, skipG]
 | succ n ih =>
  intro s φ hn hs h0
  have hT := trimLeft_eq s hs []
  rw [skip_dw]
  have hl : (s.dropWhile isBlank).length ≤ s.length := (List.dropWhile_sublist _).length_le
  generalize s.dropWhile isBlank = t at hT hl
  have hP := HasPrefix_eq t [35] (by omega) (by decide) []
  match t with
  | [] =>
   have e2 : List.isPrefixOf [35] ([] : List UInt8) = false := rfl
   rw [e2] at hP
   rw [l_lex_skip_0, M_loop, ← l_lex_skip_0]
   simp [b_lex_skip_0, h0, hT, hP, hashG]
  | c :: r =>
   by_cases h : c = 35
   ·subst h
    have e2 : List.isPrefixOf [35] (35 :: r) = true := by simp [List.isPrefixOf]
    have hI := IndexByte_eq (35 :: r) 10 []
    have e3 : ((10 : UInt8).toNat : Int) = 10 := rfl
    rw [e2] at hP
    rw [e3, index_10, if_neg (by decide)] at hI
    rw [show hashG (35 :: r) = skipG true r from rfl, skip_com]
    rw [l_lex_skip_0, M_loop, ← l_lex_skip_0]
    rcases index_cases r 10 with h2 | ⟨m, h2, h3⟩
    ·rw [h2] at hI ⊢
     simp at hI
     simp [b_lex_skip_0, h0, hT, hP, hI]
    ·have h4 : ¬ (m : Int) = -1 := by omega
     rw [h2, if_neg h4] at hI
     rw [h2, if_neg h4, Int.toNat_natCast]
     have h5 : ¬ ((m : Int) + 1 < 0) := by omega
     have h6 : (0 : Int) ≤ (m : Int) + 1 := by omega
     have h7 : (m : Int) + 1 ≤ (r.length : Int) + 1 := by omega
     have h8 : ((m : Int) + 1).toNat = m + 1 := by omega
     simp only [List.length_cons] at hl
     have hih := ih (r.drop m)
     have e : (35 :: r).drop (m + 1) = r.drop m := rfl
     simp [b_lex_skip_0, h0, hT, hP, hI, h5, h6, h7, h8]
     exact hih _ (by rw [List.length_drop]; omega) (by rw [List.length_drop]; omega) (by simp)
   ·have e2 : List.isPrefixOf [35] (c :: r) = false := by simp [List.isPrefixOf]; exact fun e => h e.symm
    rw [e2] at hP
    rw [show hashG (c :: r) = if c = 35 then skipG true r else c :: r from rfl, if_neg h]
    rw [l_lex_skip_0, M_loop, ← l_lex_skip_0]
    simp [b_lex_skip_0, h0, hT, hP]
theorem skip_eq (s : List UInt8) (hs : s.length ≤ 1000000) (H : Heap) : eval tbl noExt n_lex_skip [.str s] H = some (.str (skipG false s), H) := by
 rw [eval_M rfl rfl t_lex_skip rfl]
 simp [c_lex_skip]
 exact skip_loop H s.length s _ (Nat.le_refl _) hs (by simp)
def zeroWd : List V := [iw 0, .str [], iw 0, iw 0]
def ansOf : (Wd × Nat) ⊕ Int → V
 | .inl (w, n) => .tup [.agg (w.at 0), .int .i64 n, .int .i64 0]
 | .inr e => .tup [.agg zeroWd, .int .i64 0, .int .i64 e]
def wordP (s : List UInt8) : (Wd × Nat) ⊕ Int :=
 let w := s.takeWhile isInner
 if isKey w then .inl (⟨4, w, 0⟩, w.length) else if isName w then .inl (⟨1, w, 0⟩, w.length) else .inr 14
theorem word_eq (s : List UInt8) (hs : s.length ≤ 1000000) (H : Heap) : eval tbl noExt n_lex_word [.str s] H = some (ansOf (wordP s), H) := by
 have hr := run_inner s []
 have hw : (s.takeWhile isInner).length ≤ 1000000 := Nat.le_trans (List.takeWhile_sublist _).length_le hs
 unfold wordP
 generalize s.takeWhile isInner = w at hr hw
 have hK := Key_eq w hw []
 have hN := Name_eq w hw []
 rw [eval_M rfl rfl t_lex_word rfl]
 cases k : isKey w with
 | true =>
  rw [k] at hK
  simp [c_lex_word, hr, hK, ansOf, Wd.at, k]
 | false =>
  rw [k] at hK
  cases m : isName w with
  | true =>
   rw [m] at hN
   simp [c_lex_word, hr, hK, hN, ansOf, Wd.at, k, m]
  | false =>
   rw [m] at hN
   simp [c_lex_word, hr, hK, hN, ansOf, zeroWd, k, m]
theorem run_digit (s : List UInt8) (H : Heap) : eval tbl noExt n_lex_run [.str s, .fn (.func n_lex_digit) [] []] H = some (.str (s.takeWhile isDigit), H) := by
 rw [eval_X rfl rfl]
 simp [xRun]
 rfl
def numberP (s : List UInt8) : (Wd × Nat) ⊕ Int :=
 let w := s.takeWhile isDigit
 if (readR w).2 then .inl (⟨2, [], (readR w).1⟩, w.length) else .inr 12
theorem number_eq (s : List UInt8) (H : Heap) : eval tbl noExt n_lex_number [.str s] H = some (ansOf (numberP s), H) := by
 have hr := run_digit s []
 unfold numberP
 generalize s.takeWhile isDigit = w at hr
 have hR := read_eq (H := []) w
 rw [eval_M rfl rfl t_lex_number rfl]
 cases k : (readR w).2 with
 | true =>
  rw [k] at hR
  simp [c_lex_number, hr, hR, ansOf, Wd.at, k]
 | false =>
  rw [k] at hR
  simp [c_lex_number, hr, hR, ansOf, zeroWd, k]
theorem quoteEnd_index : ∀ r : List UInt8, Go.Lib.indexByte r 34 = (match quoteEnd r with | none => (-1 : Int) | some n => (n : Int))
 | [] => rfl
 | c :: l => by
  rw [Go.Lib.indexByte, quoteEnd]
  by_cases h : c = 34
  ·subst h; rfl
  ·rw [if_neg (by simpa using h), if_neg h, quoteEnd_index l]
   cases quoteEnd l with
   | none => rfl
   | some n =>
    have : ¬ (((n : Int) == -1) = true) := by simp
    simp only [Option.map_some]
    rw [if_neg this]
    show (n : Int) + 1 = ((n + 1 : Nat) : Int)
    omega
theorem quoteEnd_lt : ∀ (r : List UInt8) (n : Nat), quoteEnd r = some n → n < r.length ∧ r[n]? = some 34
 | [], n, h => by cases h
 | c :: l, n, h => by
  rw [quoteEnd] at h
  by_cases hc : c = 34
  ·rw [if_pos hc] at h
   cases h
   exact ⟨by simp, by simp [hc]⟩
  ·rw [if_neg hc] at h
   obtain ⟨m, hm, rfl⟩ := Option.map_eq_some_iff.1 h
   obtain ⟨h1, h2⟩ := quoteEnd_lt l m hm
   exact ⟨by simpa using h1, by simpa using h2⟩
def textP (r : List UInt8) : (Wd × Nat) ⊕ Int :=
 match quoteEnd r with
 | none => .inr 12
 | some n => match unq (34 :: (r.take n ++ [34])) with
  | none => .inr 12
  | some u => if 64 < u.length then .inr 14 else .inl (⟨3, u, 0⟩, n + 2)
theorem text_eq (r : List UInt8) (hs : r.length ≤ 100000) (H : Heap) : eval tbl noExt n_lex_text [.str (34 :: r)] H = some (ansOf (textP r), H) := by
 have hI := IndexByte_eq r 34 []
 have e3 : ((34 : UInt8).toNat : Int) = 34 := rfl
 rw [e3, quoteEnd_index] at hI
 have l0 : (1 : Int) ≤ (r.length : Int) + 1 := by omega
 unfold textP
 rw [eval_M rfl rfl t_lex_text rfl]
 cases q : quoteEnd r with
 | none =>
  rw [q] at hI
  simp only at hI
  simp [c_lex_text, hI, l0, ansOf, zeroWd]
 | some n =>
  rw [q] at hI
  obtain ⟨h1, h2⟩ := quoteEnd_lt r n q
  obtain ⟨m, hm⟩ : ∃ m, m = n + 2 := ⟨_, rfl⟩
  have w2 : IntKind.i64.wrap ((n : Int) + 2) = (m : Int) := by rw [w64] <;> omega
  have l1 : (m : Int) ≤ (r.length : Int) + 1 := by omega
  have l2 : ¬ (n : Int) < 0 := by omega
  have et : (34 :: r).take m = 34 :: (r.take n ++ [34]) := by
   rw [hm]
   show 34 :: r.take (n + 1) = _
   rw [List.take_add_one, h2]
   rfl
  have hU := Unquote_eq (34 :: (r.take n ++ [34])) (by simp; omega) []
  simp only at hI ⊢
  cases u : unq (34 :: (r.take n ++ [34])) with
  | none =>
   rw [u] at hU
   simp at hU
   simp [c_lex_text, hI, l0, l2, w2, l1, et, hU, ansOf, zeroWd]
  | some t =>
   rw [u] at hU
   simp at hU
   by_cases h64 : 64 < t.length
   ·have h64' : (64 : Int) < t.length := by omega
    simp [c_lex_text, hI, l0, l2, w2, l1, et, hU, h64, h64', ansOf, zeroWd]
   ·have h64' : ¬ (64 : Int) < t.length := by omega
    rw [← hm]
    simp [c_lex_text, hI, l0, l2, w2, l1, et, hU, h64, h64', ansOf, Wd.at]
def signP (c : UInt8) (r : List UInt8) : (Wd × Nat) ⊕ Int :=
 if c = 61 ∧ r.head? = some 61 then .inl (⟨5, [61, 61], 0⟩, 2)
 else if signsL.contains c then .inl (⟨5, [c], 0⟩, 1)
 else .inr 12
theorem index_mem (c : UInt8) : ∀ l : List UInt8, decide (0 ≤ Go.Lib.indexByte l c) = l.contains c
 | [] => rfl
 | b :: l => by
  have ih := index_mem c l
  rw [Go.Lib.indexByte, List.contains_cons]
  by_cases h : b = c
  ·subst h; simp
  ·have h2 : (c == b) = false := by simp; exact fun e => h e.symm
   rw [if_neg (by simpa using h), h2, Bool.false_or, ← ih]
   rcases index_cases l c with h3 | ⟨n, h3, _⟩
   ·rw [h3]; rfl
   ·rw [h3]
    have : ¬ (((n : Int) == -1) = true) := by simp
    rw [if_neg this]
    simp
    omega
theorem sign_eq (c : UInt8) (r : List UInt8) (hs : r.length ≤ 100000) (H : Heap) : eval tbl noExt n_lex_sign [.str (c :: r)] H = some (ansOf (signP c r), H) := by
 have hP := HasPrefix_eq (c :: r) [61, 61] (by simp; omega) (by decide) []
 have hI := IndexByte_eq signsL c []
 have hm := index_mem c signsL
 rw [eval_M rfl rfl t_lex_sign rfl]
 unfold signP
 by_cases h : c = 61 ∧ r.head? = some 61
 ·have e : List.isPrefixOf [61, 61] (c :: r) = true := by
   obtain ⟨rfl, h2⟩ := h
   cases r with
   | nil => cases h2
   | cons d r =>
    have : d = 61 := by simpa using h2
    subst this
    simp [List.isPrefixOf]
  rw [e] at hP
  rw [if_pos h]
  simp [c_lex_sign, hP, ansOf, Wd.at]
 ·have e : List.isPrefixOf [61, 61] (c :: r) = false := by
   rw [Bool.eq_false_iff]
   intro hh
   apply h
   match r, hh with
   | [], hh => simp [List.isPrefixOf] at hh
   | d :: r, hh =>
    simp [List.isPrefixOf] at hh
    exact ⟨hh.1.symm, by simp [hh.2.symm]⟩
  rw [e] at hP
  rw [if_neg h]
  cases k : signsL.contains c with
  | true =>
   rw [k] at hm
   have hm' : (0 : Int) ≤ Go.Lib.indexByte signsL c := by simpa using hm
   simp only [signsL] at hI hm'
   have l0 : (1 : Int) ≤ (r.length : Int) + 1 := by omega
   simp [c_lex_sign, hP, hI, hm', l0, ansOf, Wd.at]
  | false =>
   rw [k] at hm
   have hm' : ¬ (0 : Int) ≤ Go.Lib.indexByte signsL c := by simpa using hm
   simp only [signsL] at hI hm'
   simp [c_lex_sign, hP, hI, hm', ansOf, zeroWd]
theorem digit_eq (c : UInt8) (H : Heap) : eval tbl noExt n_lex_digit [.int .i32 c.toNat] H = some (.bool (isDigit c), H) := by
 have h1 := le_u8 48 c
 have h2 := le_u8 c 57
 simp only [UInt8.reduceToNat] at h1 h2
 rw [eval_M rfl rfl t_lex_digit rfl]
 unfold isDigit
 rw [← h1, ← h2]
 by_cases h : (48 : Int) ≤ c.toNat
 ·simp [c_lex_digit, h]
 ·simp [c_lex_digit, h]
theorem begins_digit (c : UInt8) (l : List UInt8) (H : Heap) : eval tbl noExt n_lex_begins [.str (c :: l), .fn (.func n_lex_digit) [] []] H = some (.bool (isDigit c), H) := by
 rw [eval_M rfl rfl t_lex_begins rfl]
 simp [c_lex_begins, w32, digit_eq]
theorem oneS_cons (c : UInt8) (r : List UInt8) : oneS (c :: r) = if isLetter c then wordP (c :: r) else if isDigit c then numberP (c :: r) else if c = 34 then textP r else signP c r := rfl
theorem ans_shape (x : (Wd × Nat) ⊕ Int) : ∃ k u n a m e, ansOf x = .tup [.agg [iw k, .str u, iw n, iw a], .int .i64 m, .int .i64 e] := by
 match x with
 | .inl (w, n) => exact ⟨_, _, _, _, _, _, rfl⟩
 | .inr e => exact ⟨_, _, _, _, _, _, rfl⟩
theorem next_eq (c : UInt8) (r : List UInt8) (hs : r.length ≤ 10000) (H : Heap) : eval tbl noExt n_lex_next [.str (c :: r)] H = some (ansOf (oneS (c :: r)), H) := by
 have hb := begins_eq (c :: r) []
 have hd := begins_digit c r []
 have hW := word_eq (c :: r) (by simp; omega) []
 have hN := number_eq (c :: r) []
 have hS := sign_eq c r (by omega) []
 rw [oneS_cons, eval_M rfl rfl t_lex_next rfl]
 simp only at hb
 cases b1 : isLetter c with
 | true =>
  rw [b1] at hb
  obtain ⟨k, u, n, a, m, e, h1⟩ := ans_shape (wordP (c :: r))
  rw [h1] at hW
  simp [c_lex_next, hb, hW, h1]
 | false =>
  rw [b1] at hb
  cases b2 : isDigit c with
  | true =>
   rw [b2] at hd
   obtain ⟨k, u, n, a, m, e, h1⟩ := ans_shape (numberP (c :: r))
   rw [h1] at hN
   simp [c_lex_next, hb, hd, hN, h1]
  | false =>
   rw [b2] at hd
   by_cases b3 : c = 34
   ·subst b3
    have hT := text_eq r (by omega) []
    obtain ⟨k, u, n, a, m, e, h1⟩ := ans_shape (textP r)
    rw [h1] at hT
    simp [c_lex_next, hb, hd, hT, h1]
   ·have b4 : ¬ (c.toNat : Int) = 34 := by
     intro h
     exact b3 (UInt8.toNat_inj.1 (by show c.toNat = 34; omega))
    obtain ⟨k, u, n, a, m, e, h1⟩ := ans_shape (signP c r)
    rw [h1] at hS
    simp [c_lex_next, hb, hd, hS, h1, b3, b4]
theorem oneS_len (c : UInt8) (r : List UInt8) (w : Wd) (n : Nat) (h : oneS (c :: r) = .inl (w, n)) : 0 < n ∧ n ≤ r.length + 1 := by
 rw [oneS_cons] at h
 have tw : ∀ p : UInt8 → Bool, p c = true → 0 < ((c :: r).takeWhile p).length ∧ ((c :: r).takeWhile p).length ≤ r.length + 1 := by
  intro p hp
  refine ⟨by rw [List.takeWhile_cons_of_pos hp]; simp, ?_⟩
  have := (List.takeWhile_sublist (l := c :: r) p).length_le
  simpa using this
 split at h
 ·rename_i hl
  have hi : isInner c = true := by unfold isInner; simp [hl]
  have := tw isInner hi
  unfold wordP at h
  simp only at h
  split at h
  ·cases h; exact this
  ·split at h
   ·cases h; exact this
   ·cases h
 ·split at h
  ·rename_i hd
   have := tw isDigit hd
   unfold numberP at h
   simp only at h
   split at h
   ·cases h; exact this
   ·cases h
  ·split at h
   ·unfold textP at h
    split at h
    ·cases h
    ·rename_i m hm
     have := (quoteEnd_lt r m hm).1
     split at h
     ·cases h
     ·split at h
      ·cases h
      ·cases h; omega
   ·unfold signP at h
    split at h
    ·rename_i hs
     cases h
     cases r with
     | nil => exact absurd hs.2 (by simp)
     | cons d r => simp
    ·split at h
     ·cases h; omega
     ·cases h
theorem oneS_err (c : UInt8) (r : List UInt8) (e : Int) (h : oneS (c :: r) = .inr e) : e ≠ 0 := by
 rw [oneS_cons] at h
 split at h
 ·unfold wordP at h
  simp only at h
  split at h
  ·cases h
  ·split at h <;> cases h
   decide
 ·split at h
  ·unfold numberP at h
   simp only at h
   split at h <;> cases h
   decide
  ·split at h
   ·unfold textP at h
    split at h
    ·cases h; decide
    ·split at h
     ·cases h; decide
     ·split at h <;> cases h
      decide
   ·unfold signP at h
    split at h
    ·cases h
    ·split at h <;> cases h
     decide
def wordsV (x : (List (List V)) × Int × Int) : V := .tup [.sl 4 x.1, .agg [iw x.2.1, iw x.2.2]]
theorem words_loop (H : Heap) (s : List UInt8) (hs : s.length ≤ 4096) : ∀ (f : Nat) (l : List UInt8) (acc : List (List V)) (φ : Fr) (K : Heap), l.length < f → l.length ≤ s.length → acc.length + l.length ≤ s.length →
  K.take H.length = H → K[H.length]? = some (some [iw 0, iw 0]) → Fr.get φ 0 = .str s → Fr.get φ 3 = .ptr H.length 0 → Fr.get φ 4 = .own 4 acc → Fr.get φ 5 = .str l →
  M (eval tbl noExt) [.code l_lex_Words_0, .blk 0, .code r_lex_Words_0, .fin [.t 2, .cell 3 (some 2)] H.length] φ K = some (wordsV (wordsG s.length f l acc), H) := by
 intro f
 induction f with
 | zero => intro l acc φ K hf; omega
 | succ f ih =>
  intro l acc φ K hf hl ha hK hc h0 h3 h4 h5
  have hKl : H.length < K.length := (List.getElem?_eq_some_iff.1 hc).1
  have hb : 2 * (acc.length + 1) * 40 ≤ 281474976710656 := by omega
  have e1 : ∀ x, (K.set H.length x)[H.length]? = some x := fun x => by simp [hKl]
  have e2 : ∀ x, (K.set H.length x).take H.length = H := fun x => by rw [List.take_set_of_le (Nat.le_refl _)]; exact hK
  match l with
  | [] =>
   rw [l_lex_Words_0, M_loop, ← l_lex_Words_0]
   simp [b_lex_Words_0, h0, h3, h4, h5]
   simp [r_lex_Words_0, h0, h3, h4, h5, hb, hc, wordsV, wordsG, e1, e2]
  | c :: r =>
   have hX := next_eq c r (by simp at hl; omega) []
   have e3 : ∀ x, (K ++ [x])[H.length]? = some (some [iw 0, iw 0]) := fun x => by rw [List.getElem?_append_left hKl]; exact hc
   have e4 : ∀ x y, ((K ++ [x]).set H.length y)[H.length]? = some y := fun x y => by rw [List.getElem?_set_self (by simp; omega)]
   have e5 : ∀ x y, ((K ++ [x]).set H.length y).take H.length = H := fun x y => by rw [List.take_set_of_le (Nat.le_refl _), List.take_append_of_le_length (by omega)]; exact hK
   simp only [List.length_cons] at hf hl ha
   have hw : IntKind.i64.wrap ((s.length : Int) - ((r.length : Int) + 1)) = ((s.length - (r.length + 1) : Nat) : Int) := by rw [w64] <;> omega
   have eG : wordsG s.length (f + 1) (c :: r) acc = (match oneS (c :: r) with
    | .inr e => ([], e, ((s.length - (r.length + 1) : Nat) : Int))
    | .inl (w, n) => wordsG s.length f (skipG false ((c :: r).drop n)) (acc ++ [w.at ((s.length - (r.length + 1) : Nat) : Int)])) := by
    rw [wordsG, if_neg (by simp)]
    rfl
   rw [eG]
   rw [l_lex_Words_0, M_loop, ← l_lex_Words_0]
   cases ho : oneS (c :: r) with
   | inr e =>
    have he := oneS_err c r e ho
    rw [ho] at hX
    simp only [ansOf, zeroWd] at hX
    simp [b_lex_Words_0, h0, h3, h4, h5, hX, hw, get0, set0, e3, e4, e5, he, wordsV]
   | inl p =>
    obtain ⟨w, n⟩ := p
    obtain ⟨n0, n1⟩ := oneS_len c r w n ho
    have hS := skip_eq ((c :: r).drop n) (by rw [List.length_drop]; simp; omega) []
    have hle := skipG_le false ((c :: r).drop n)
    rw [List.length_drop, List.length_cons] at hle
    have hi := ih (skipG false ((c :: r).drop n)) (acc ++ [w.at ((s.length - (r.length + 1) : Nat) : Int)])
    rw [ho] at hX
    show _ = some (wordsV (wordsG s.length f (skipG false ((c :: r).drop n)) (acc ++ [w.at ((s.length - (r.length + 1) : Nat) : Int)])), H)
    generalize skipG false ((c :: r).drop n) = t at hS hle hi ⊢
    simp only [ansOf, Wd.at] at hX hi ⊢
    have d1 : (n : Int) ≤ (r.length : Int) + 1 := by omega
    simp [b_lex_Words_0, h0, h3, h4, h5, hX, hw, get0, set0, e3, e4, e5, hb, hS, d1]
    refine hi _ _ (by omega) (by omega) (by simp; omega) ?_ ?_ ?_ ?_ ?_ ?_ <;> simp [e3, h0, h3, hK, List.take_append_of_le_length (Nat.le_of_lt hKl)]
theorem Words_eq (s : List UInt8) (hs : s.length ≤ 1000000) (H : Heap) : eval tbl noExt n_lex_Words [.str s] H = some (wordsV (wordsS s), H) := by
 rw [eval_M rfl rfl t_lex_Words rfl]
 unfold wordsS
 by_cases h : 4096 < s.length
 ·have h' : (4096 : Int) < s.length := by omega
  rw [if_pos h]
  simp [c_lex_Words, h, h', wordsV]
 ·have h' : ¬ (4096 : Int) < s.length := by omega
  rw [if_neg h]
  have hS := skip_eq s hs []
  have hle := skipG_le false s
  simp [c_lex_Words, h, h', hS]
  exact words_loop H s (by omega) (s.length + 1) (skipG false s) [] _ _ (by omega) hle (by simpa using hle) (by simp) (by simp) (by simp) (by simp) (by simp) (by simp)
def signList : List (List UInt8) := [[123], [125], [40], [41], [59], [44], [58], [43], [45], [60], [61], [61, 61]]
theorem wordsG_mono (total : Nat) : ∀ (f g : Nat) (l : List UInt8) (acc : List (List V)), l.length < f → l.length < g → wordsG total f l acc = wordsG total g l acc := by
 intro f
 induction f with
 | zero => intro g l acc h; omega
 | succ f ih =>
  intro g l acc hf hg
  match g, hg with
  | g + 1, hg =>
   match l with
   | [] => rfl
   | c :: r =>
    rw [wordsG, wordsG, if_neg (by simp), if_neg (by simp)]
    cases ho : oneS (c :: r) with
    | inr e => rfl
    | inl p =>
     obtain ⟨w, n⟩ := p
     obtain ⟨n0, n1⟩ := oneS_len c r w n ho
     have hle := skipG_le false ((c :: r).drop n)
     rw [List.length_drop] at hle
     simp only [List.length_cons] at hf hg hle
     exact ih g _ _ (by omega) (by omega)
def showS (k : Int) (s : List UInt8) (n : Int) : Option (List UInt8) :=
 if k = 2 then (if s ≠ [] ∨ n < 0 ∨ 1000000000000 < n then none else some (text n))
 else if n ≠ 0 then none
 else if k = 3 ∧ s.length ≤ 64 then some (quo s)
 else if (k = 1 ∧ isName s = true) ∨ (k = 4 ∧ isKey s = true) ∨ (k = 5 ∧ signList.contains s = true) then some s
 else none
theorem dig_digit (u : Nat) : isDigit (dig u) = true := by
 unfold isDigit dig
 have h : u % 10 < 10 := Nat.mod_lt _ (by omega)
 generalize u % 10 = m at h
 have : ∀ m, m < 10 → (48 ≤ UInt8.ofNat (48 + m) && UInt8.ofNat (48 + m) ≤ 57) = true := by decide
 exact this m h
theorem digs_all : ∀ (k u : Nat) (acc : List UInt8), (∀ c ∈ acc, isDigit c = true) → ∀ c ∈ digs k u acc, isDigit c = true
 | 0, _, acc, h => h
 | k + 1, u, acc, h => by
  unfold digs
  have h' : ∀ c ∈ dig u :: acc, isDigit c = true := by
   intro c hc
   rcases List.mem_cons.1 hc with rfl | hc
   ·exact dig_digit u
   ·exact h c hc
  split
  ·exact h'
  ·exact digs_all k (u / 10) (dig u :: acc) h'
theorem tw_all {p : UInt8 → Bool} : ∀ {l : List UInt8}, (∀ c ∈ l, p c = true) → l.takeWhile p = l
 | [], _ => rfl
 | c :: l, h => by simp [h c (by simp), tw_all (l := l) (fun d hd => h d (by simp [hd]))]
theorem digit_facts (c : UInt8) (h : isDigit c = true) : isLetter c = false ∧ isBlank c = false ∧ ¬ c = 35 := by
 have := all_u8 (p := fun c => !(isDigit c) || (!(isLetter c) && !(isBlank c) && !(decide (c = 35)))) (by decide +kernel) c
 simp [h] at this
 exact ⟨this.1.1, this.1.2, this.2⟩
theorem skip_id (c : UInt8) (l : List UInt8) (h1 : isBlank c = false) (h2 : ¬ c = 35) : skipG false (c :: l) = c :: l := by
 rw [skip_dw]
 simp [h1, hashG, h2]
theorem sign_no34 (c : UInt8) : (signC c).all (fun d => !(decide (d = 34))) = true := all_u8 (p := fun c => (signC c).all (fun d => !(decide (d = 34)))) (by decide +kernel) c
theorem sign_head (c : UInt8) : (match signC c with | [d] => decide (d = c) && plainC c && !(decide (c = 92)) | [d, a, b] => decide (d = 92) && decide (pairC a b = some c) | _ => false) = true :=
 all_u8 (p := fun c => match signC c with | [d] => decide (d = c) && plainC c && !(decide (c = 92)) | [d, a, b] => decide (d = 92) && decide (pairC a b = some c) | _ => false) (by decide +kernel) c
theorem quoteEnd_app : ∀ (l r : List UInt8), l.all (fun d => !(decide (d = 34))) = true → quoteEnd (l ++ 34 :: r) = some l.length
 | [], r, _ => by simp [quoteEnd]
 | c :: l, r, h => by
  simp only [List.all_cons, Bool.and_eq_true, Bool.not_eq_true', decide_eq_false_iff_not] at h
  rw [List.cons_append, quoteEnd, if_neg h.1, quoteEnd_app l r h.2]
  simp
theorem flat_no34 : ∀ s : List UInt8, (s.flatMap signC).all (fun d => !(decide (d = 34))) = true
 | [] => rfl
 | c :: l => by rw [List.flatMap_cons, List.all_append, sign_no34, flat_no34 l]; rfl
theorem unqL_flat : ∀ s : List UInt8, unqL (s.flatMap signC) = some s
 | [] => by simp [unqL]
 | c :: l => by
  have ih := unqL_flat l
  have hh := sign_head c
  rw [List.flatMap_cons]
  match hs : signC c, hh with
  | [d], hh =>
   simp only [Bool.and_eq_true, decide_eq_true_eq, Bool.not_eq_true', decide_eq_false_iff_not] at hh
   obtain ⟨⟨rfl, h1⟩, h2⟩ := hh
   rw [List.singleton_append, unqL.eq_def]
   simp only [h2, if_false, h1, if_true, ih, Option.map_some]
  | [d, a, b], hh =>
   simp only [Bool.and_eq_true, decide_eq_true_eq] at hh
   obtain ⟨rfl, h1⟩ := hh
   simp only [List.cons_append, List.nil_append]
   rw [unqL.eq_def]
   simp only [if_true, h1, ih, Option.map_some]
theorem unq_quo (s : List UInt8) : unq (quo s) = some s := by
 unfold quo unq
 simp [unqL_flat]
theorem key_shape : ∀ w ∈ keyWords, ((match w with | c :: _ => isLetter c | [] => false) && w.all isInner) = true := by decide +kernel
theorem letter_facts (c : UInt8) (h : isLetter c = true) : isBlank c = false ∧ ¬ c = 35 := by
 have := all_u8 (p := fun c => !(isLetter c) || (!(isBlank c) && !(decide (c = 35)))) (by decide +kernel) c
 simp [h] at this
 exact this
theorem all_tw {p : UInt8 → Bool} {l : List UInt8} (h : l.all p = true) : l.takeWhile p = l := tw_all (fun c hc => List.all_eq_true.1 h c hc)
set_option maxHeartbeats 2000000
theorem tw_stop {p : UInt8 → Bool} {l : List UInt8} (h : l.all p = true) (c : UInt8) (hc : p c = false) (r : List UInt8) : (l ++ c :: r).takeWhile p = l := by
 induction l with
 | nil => simp [hc]
 | cons d l ih =>
  simp only [List.all_cons, Bool.and_eq_true] at h
  simp [h.1, ih h.2]
theorem sign_facts (c : UInt8) (h : signsL.contains c = true) : isLetter c = false ∧ Go.AM.isDigit c = false ∧ ¬ c = 34 ∧ isBlank c = false ∧ ¬ c = 35 := by
 have := all_u8 (p := fun c => !(signsL.contains c) || (!(isLetter c) && !(Go.AM.isDigit c) && !(decide (c = 34)) && !(isBlank c) && !(decide (c = 35)))) (by decide +kernel) c
 simp only [h, Bool.not_true, Bool.false_or, Bool.and_eq_true, Bool.not_eq_true', decide_eq_false_iff_not] at this
 exact ⟨this.1.1.1.1, this.1.1.1.2, this.1.1.2, this.1.2, this.2⟩
theorem shown {k n : Int} {s t : List UInt8} (hs : s.length ≤ 500) (h1 : -9223372036854775808 ≤ n) (h2 : n ≤ 9223372036854775807) (h : showS k s n = some t) :
  t ≠ [] ∧ (∀ r, skipG false (t ++ r) = t ++ r) ∧ ∀ r, oneS (t ++ 32 :: r) = .inl (⟨k, s, n⟩, t.length) := by
 unfold showS at h
 split at h
 ·rename_i hk
  subst hk
  split at h
  ·cases h
  ·rename_i hc
   simp only [not_or, ne_eq, Decidable.not_not, Int.not_lt] at hc
   obtain ⟨rfl, h0, h9⟩ := hc
   cases h
   have ha : ∀ c ∈ text n, Go.AM.isDigit c = true := by
    unfold text
    rw [if_neg (by omega)]
    exact digs_all 19 _ [] (by simp)
   have hp : (text n).length > 0 := by
    unfold text
    rw [if_neg (by omega)]
    exact digs_pos 18 _ []
   have hr := read_text n h1 h2
   rw [if_pos ⟨h0, h9⟩] at hr
   generalize text n = t at *
   match t with
   | c :: q =>
    have hc := ha c (by simp)
    obtain ⟨f1, f2, f3⟩ := digit_facts c hc
    refine ⟨by simp, fun r => skip_id c _ f2 f3, fun r => ?_⟩
    rw [List.cons_append, oneS_cons, f1, hc]
    simp only [Bool.false_eq_true, if_false, if_true, numberP]
    have := tw_stop (p := Go.AM.isDigit) (l := c :: q) (List.all_eq_true.2 ha) 32 (by decide) r
    rw [List.cons_append] at this
    rw [this, hr]
    rfl
 ·split at h
  ·cases h
  ·rename_i hn
   have hn : n = 0 := by simpa using hn
   subst hn
   split at h
   ·rename_i hh
    obtain ⟨rfl, hl⟩ := hh
    cases h
    have hu := unq_quo s
    have hq : ∀ r, quoteEnd (s.flatMap signC ++ [34] ++ 32 :: r) = some (s.flatMap signC).length := fun r => by
     have := quoteEnd_app (s.flatMap signC) (32 :: r) (flat_no34 s)
     rw [List.append_assoc]
     exact this
    unfold quo at hu ⊢
    refine ⟨by simp, fun r => skip_id 34 _ (by decide) (by decide), fun r => ?_⟩
    rw [List.cons_append, oneS_cons]
    have e1 : isLetter 34 = false := by decide
    have e2 : Go.AM.isDigit 34 = false := by decide
    rw [e1, e2]
    simp only [Bool.false_eq_true, if_false, if_true]
    unfold textP
    rw [hq]
    have ht : (s.flatMap signC ++ [34] ++ 32 :: r).take (s.flatMap signC).length = s.flatMap signC := by
     rw [List.append_assoc, List.take_left]
    simp only [ht, hu]
    rw [if_neg (by omega)]
    simp
   ·split at h
    ·rename_i hh
     cases h
     rcases hh with ⟨rfl, hh⟩ | ⟨rfl, hh⟩ | ⟨rfl, hh⟩
     ·have hnm := hh
      unfold isName at hh
      simp only [Bool.and_eq_true, Bool.not_eq_true'] at hh
      obtain ⟨⟨⟨q1, q2⟩, q3⟩, q4⟩ := hh
      match s, q1 with
      | c :: q, q1 =>
       simp only at q1
       obtain ⟨f1, f2⟩ := letter_facts c q1
       refine ⟨by simp, fun r => skip_id c _ f1 f2, fun r => ?_⟩
       rw [List.cons_append, oneS_cons, q1]
       have := tw_stop (p := isInner) (l := c :: q) q3 32 (by decide) r
       rw [List.cons_append] at this
       simp only [if_true, wordP, this, q4, hnm]
       simp
     ·have hm : s ∈ keyWords := by simpa [isKey] using hh
      have hs := key_shape s hm
      simp only [Bool.and_eq_true] at hs
      match s, hs with
      | c :: q, hs =>
       obtain ⟨q1, q3⟩ := hs
       simp only at q1
       obtain ⟨f1, f2⟩ := letter_facts c q1
       refine ⟨by simp, fun r => skip_id c _ f1 f2, fun r => ?_⟩
       rw [List.cons_append, oneS_cons, q1]
       have := tw_stop (p := isInner) (l := c :: q) q3 32 (by decide) r
       rw [List.cons_append] at this
       simp only [if_true, wordP, this, hh]
     ·by_cases h61 : s = [61, 61]
      ·subst h61
       exact ⟨by simp, fun r => skip_id 61 _ (by decide) (by decide), fun r => rfl⟩
      ·have hm : ∃ c, s = [c] ∧ signsL.contains c = true := by
        have hall : ∀ w ∈ signList, w = [61, 61] ∨ (match w with | [c] => signsL.contains c | _ => false) = true := by decide +kernel
        rcases hall s (by simpa using hh) with e | e
        ·exact absurd e h61
        ·match s, e with
         | [c], e => exact ⟨c, rfl, e⟩
       obtain ⟨c, rfl, hc⟩ := hm
       obtain ⟨f1, f2, f3, f4, f5⟩ := sign_facts c hc
       refine ⟨by simp, fun r => skip_id c _ f4 f5, fun r => ?_⟩
       rw [List.singleton_append, oneS_cons, f1, f2]
       simp only [Bool.false_eq_true, if_false, f3]
       unfold signP
       rw [if_neg (by simp), hc]
       simp
    ·cases h
theorem skip_blank (c : UInt8) (h : isBlank c = true) (X : List UInt8) : skipG false (c :: X) = skipG false X := by
 rw [skip_dw, skip_dw]
 simp [h]
end Go.AM.Spec
namespace Go.AM
set_option linter.unusedVariables false
set_option linter.unusedSimpArgs false
namespace Spec
open Go.ChangeShapes Go.WideShapes Go.Deep
structure Wx where
 kind : Int
 s : List UInt8
 n : Int
 a : Int
def Wx.cells (x : Wx) : List V := [iw x.kind, .str x.s, iw x.n, iw x.a]
def Wx.fit (x : Wx) : Prop := Fit x.kind ∧ Fit x.n ∧ Fit x.a
section
variable {P : Program}
end
end Spec
end Go.AM
