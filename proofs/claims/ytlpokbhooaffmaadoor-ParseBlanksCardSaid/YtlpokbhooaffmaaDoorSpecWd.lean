/-
  The parts of this proof that speak of the functions one by one.
-/
import Derived.Test.YtlpokbhooaffmaaDoorSpc
import Derived.Test.YtlpokbhooaffmaaDoorSpecTr
import Derived.Test.YtlpokbhooaffmaaDoorTyl
import Derived.Test.YtlpokbhooaffmaaDoorDoor
namespace Go.AM.Spec
set_option linter.unusedVariables false
set_option linter.unusedSimpArgs false

abbrev iw (n : Int) : V := .int .i64 n

def isBlank (c : UInt8) : Bool := decide (c.toNat = 32) || decide (c.toNat = 9) || decide (c.toNat = 10)

/-- Behind blanks and comments (in one, if so told). -/
def skipG : Bool → List UInt8 → List UInt8
  | _, [] => []
  | false, c :: l => if isBlank c then skipG false l else if c = 35 then skipG true l else c :: l
  | true, c :: l => if c = 10 then skipG false l else skipG true l

theorem skipG_le : ∀ (b : Bool) (l : List UInt8), (skipG b l).length ≤ l.length
  | _, [] => by simp [skipG]
  | false, c :: l => by
    unfold skipG
    split
    · exact Nat.le_succ_of_le (skipG_le false l)
    · split
      · exact Nat.le_succ_of_le (skipG_le true l)
      · exact Nat.le_refl _
  | true, c :: l => by
    unfold skipG
    split
    · exact Nat.le_succ_of_le (skipG_le false l)
    · exact Nat.le_succ_of_le (skipG_le true l)

/-- Where what is left begins. -/
theorem skipG_drop : ∀ (b : Bool) (l : List UInt8), skipG b l = l.drop (l.length - (skipG b l).length)
  | _, [] => by simp [skipG]
  | false, c :: l => by
    have h1 := skipG_drop false l
    have h2 := skipG_drop true l
    have l1 := skipG_le false l
    have l2 := skipG_le true l
    unfold skipG
    split
    · rw [List.length_cons, show l.length + 1 - (skipG false l).length = (l.length - (skipG false l).length) + 1 by omega, List.drop_succ_cons]; exact h1
    · split
      · rw [List.length_cons, show l.length + 1 - (skipG true l).length = (l.length - (skipG true l).length) + 1 by omega, List.drop_succ_cons]; exact h2
      · simp
  | true, c :: l => by
    have h1 := skipG_drop false l
    have h2 := skipG_drop true l
    have l1 := skipG_le false l
    have l2 := skipG_le true l
    unfold skipG
    split
    · rw [List.length_cons, show l.length + 1 - (skipG false l).length = (l.length - (skipG false l).length) + 1 by omega, List.drop_succ_cons]; exact h1
    · rw [List.length_cons, show l.length + 1 - (skipG true l).length = (l.length - (skipG true l).length) + 1 by omega, List.drop_succ_cons]; exact h2

/-- A word, or the number of a fault. -/
structure Wd where
  kind : Int
  s : List UInt8
  n : Int
  deriving DecidableEq
def Wd.at (w : Wd) (at_ : Int) : List V := [iw w.kind, .str w.s, iw w.n, iw at_]

def signsL : List UInt8 := [123, 125, 40, 41, 59, 44, 58, 43, 45, 60, 61]

/-- Where the quotes end: how many bytes stand ahead. -/
def quoteEnd : List UInt8 → Option Nat
  | [] => none
  | c :: l => if c = 34 then some 0 else (quoteEnd l).map (· + 1)

/-- The word with which a text begins, and its length; or a fault's number. -/
def oneS (l : List UInt8) : (Wd × Nat) ⊕ Int :=
  match l with
  | [] => .inr 12
  | c :: r =>
    if isLetter c then
      let w := (c :: r).takeWhile isInner
      if isKey w then .inl (⟨4, w, 0⟩, w.length) else if isName w then .inl (⟨1, w, 0⟩, w.length) else .inr 14
    else if isDigit c then
      let w := (c :: r).takeWhile isDigit
      if (readR w).2 then .inl (⟨2, [], (readR w).1⟩, w.length) else .inr 12
    else if c = 34 then
      match quoteEnd r with
      | none => .inr 12
      | some n => match unq (34 :: (r.take n ++ [34])) with
        | none => .inr 12
        | some u => if 64 < u.length then .inr 14 else .inl (⟨3, u, 0⟩, n + 2)
    else if c = 61 ∧ r.head? = some 61 then .inl (⟨5, [61, 61], 0⟩, 2)
    else if signsL.contains c then .inl (⟨5, [c], 0⟩, 1)
    else .inr 12

/-- The words of what is left, of a text of so many bytes: the list, or a fault. -/
def wordsG (total : Nat) : Nat → List UInt8 → List (List V) → (List (List V)) × Int × Int
  | 0, _, acc => (acc, 0, 0)
  | f + 1, l, acc => if l = [] then (acc ++ [[iw 0, .str [], iw 0, iw total]], 0, 0)
    else match oneS l with
      | .inr e => ([], e, ((total - l.length : Nat) : Int))
      | .inl (w, n) => wordsG total f (skipG false (l.drop n)) (acc ++ [w.at ((total - l.length : Nat) : Int)])

/-- What Words answers: the list and the fault. -/
def wordsS (s : List UInt8) : (List (List V)) × Int × Int := if 4096 < s.length then ([], 14, 0) else wordsG s.length (s.length + 1) (skipG false s) []

end Go.AM.Spec

namespace Go.AM
set_option linter.unusedVariables false
set_option linter.unusedSimpArgs false
namespace Spec
open Go.ChangeShapes Go.WideShapes Go.Deep

structure Wx where
  kind : Int
  s : List UInt8
  n : Int
  a : Int
def Wx.cells (x : Wx) : List V := [iw x.kind, .str x.s, iw x.n, iw x.a]
def Wx.fit (x : Wx) : Prop := Fit x.kind ∧ Fit x.n ∧ Fit x.a

section
variable {P : Program}

theorem word_of {t tI tS tN : TypeId} {fs : Array Field} {vs : List V} (h : Ty P t vs) (hu : P.underlying t = some (.struct fs)) (hf : fs.toList.map (·.type) = [tI, tS, tN, tI])
    (hI : P.underlying tI = some (.int .i64)) (hS : P.underlying tS = some .string) (hN : P.underlying tN = some (.int .i64)) : ∃ x : Wx, vs = x.cells ∧ x.fit := by
  obtain ⟨parts, rfl, hl⟩ := Ty_struct_of h hu
  rw [hf] at hl
  obtain ⟨p, q, r, u, rfl, h0, h1, h2, h3⟩ := TyL_4 hl
  obtain ⟨a, rfl, wa⟩ := Ty_int_of h0 hI
  obtain ⟨b, rfl, _⟩ := Ty_str_of h1 hS
  obtain ⟨c, rfl, wc⟩ := Ty_int_of h2 hN
  obtain ⟨d, rfl, wd⟩ := Ty_int_of h3 hI
  exact ⟨⟨a, b, c, d⟩, rfl, wa, wc, wd⟩

/-- An argument that is a list of words. -/
theorem words_of {H : Type} {enc : TypeId × Value → H} {w : World} {ts : List TypeId} (hts : ∀ t ∈ ts, plainAt P ts t = true) {t e tI tS tN : TypeId} {fs : Array Field} (ht : t ∈ ts) (hu : P.underlying t = some (.slice e)) (he : P.underlying e = some (.struct fs)) (hf : fs.toList.map (·.type) = [tI, tS, tN, tI])
    (hI : P.underlying tI = some (.int .i64)) (hS : P.underlying tS = some .string) (hN : P.underlying tN = some (.int .i64)) (hc : P.cellsOf e = 4)
    {r : Reach} {b0 : Nat} {v : Value} {d : DataW H} {p : List MemPlace} (hv : Value.okWide P w r b0 t v) (h : DataW.Trod enc P w 0 (fun _ => true) true t v d p) :
    ∃ l : List Wx, (∀ x ∈ l, x.fit) ∧ R w (fun _ _ => False) [] (.sl 4 (l.map Wx.cells)) v := by
  obtain ⟨a, len, cap, rfl⟩ := okWide_slice hu hv
  obtain ⟨vs, hty, hpr⟩ := open_list hts ht hu (v := .slice a len cap) rfl h
  obtain ⟨rows, hr, _, hel⟩ := Ty_sl_of hty hu
  cases hr
  rw [hc] at hpr
  have key : ∀ {rows : List (List V)}, (∀ r ∈ rows, Ty P e r) → ∃ l : List Wx, rows = l.map Wx.cells ∧ ∀ x ∈ l, x.fit := by
    intro rows
    induction rows with
    | nil => intro _; exact ⟨[], rfl, by simp⟩
    | cons r rows ih =>
      intro h
      obtain ⟨l, rfl, h2⟩ := ih (fun q hq => h q (by simp [hq]))
      obtain ⟨s, rfl, hs⟩ := word_of (h r (by simp)) he hf hI hS hN
      refine ⟨s :: l, rfl, fun q hq => ?_⟩
      rcases List.mem_cons.1 hq with rfl | hq
      · exact hs
      · exact h2 q hq
  obtain ⟨l, rfl, h2⟩ := key hel
  exact ⟨l, h2, .pr hpr⟩

end
end Spec
end Go.AM

namespace Go.AM.Spec
set_option linter.unusedVariables false
set_option linter.unusedSimpArgs false
set_option maxHeartbeats 1000000
set_option maxRecDepth 10000

theorem HasPrefix0 (s p : List UInt8) (hs : s.length ≤ 1000000) (hp : p.length ≤ 1000) (H : Heap) : eval tbl noExt n_internal_stringslite_HasPrefix [.str s, .str p] H = some (.bool (p.isPrefixOf s), H) := by
  rw [eval_M rfl rfl t_internal_stringslite_HasPrefix rfl]
  by_cases h : p.length ≤ s.length
  · have h' : (p.length : Int) ≤ s.length := by omega
    have e : decide (s.take p.length = p) = p.isPrefixOf s := by
      rw [Bool.eq_iff_iff, decide_eq_true_eq, List.isPrefixOf_iff_prefix, List.prefix_iff_eq_take]
      exact ⟨fun h => h.symm, fun h => h.symm⟩
    simp [c_internal_stringslite_HasPrefix, h, h', e]
  · have h' : ¬ (p.length : Int) ≤ s.length := by omega
    have e : p.isPrefixOf s = false := by
      rw [Bool.eq_false_iff]
      intro hh
      exact h (List.isPrefixOf_iff_prefix.1 hh).length_le
    simp [c_internal_stringslite_HasPrefix, h, h', e]

theorem HasPrefix_eq (s p : List UInt8) (hs : s.length ≤ 1000000) (hp : p.length ≤ 1000) (H : Heap) : eval tbl noExt n_strings_HasPrefix [.str s, .str p] H = some (.bool (p.isPrefixOf s), H) := by
  have h1 := HasPrefix0 s p hs hp []
  rw [eval_M rfl rfl t_strings_HasPrefix rfl]
  simp [c_strings_HasPrefix, h1]

theorem IndexByte_eq (s : List UInt8) (c : UInt8) (H : Heap) : eval tbl noExt n_strings_IndexByte [.str s, .int .u8 c.toNat] H = some (.int .i64 (Go.Lib.indexByte s c), H) := by
  have := c.toNat_lt
  rw [eval_X (e := xIndexByte) rfl rfl]
  show (if 0 ≤ (c.toNat : Int) ∧ (c.toNat : Int) < 256 then some (V.int .i64 (Go.Lib.indexByte s (UInt8.ofNat (c.toNat : Int).toNat)), H) else none) = _
  rw [if_pos (by omega)]
  simp

theorem of_bytes {f : Nat} {g : UInt8 → V} (h : ((List.range 256).map fun (i : Nat) => run tbl noExt 30 f [.int .u8 (i : Int)] []) = (List.range 256).map fun (i : Nat) => some (g (UInt8.ofNat i), [])) (c : UInt8) : eval tbl noExt f [.int .u8 c.toNat] [] = some (g c, []) := by
  have hc := c.toNat_lt
  have h1 := congrArg (fun l => l[c.toNat]?) h
  simp only [List.getElem?_map, List.getElem?_range hc, Option.map_some, Option.some.injEq] at h1
  rw [UInt8.ofNat_toNat] at h1
  exact (eval_iff _ _ _ _ _ _).2 ⟨30, h1⟩

theorem all_u8 {p : UInt8 → Bool} (h : ((List.range 256).all fun i => p (UInt8.ofNat i)) = true) (c : UInt8) : p c = true := by
  have := List.all_eq_true.1 h c.toNat (List.mem_range.2 c.toNat_lt)
  rwa [UInt8.ofNat_toNat] at this

theorem hex_facts (c : UInt8) : (match hexv c with | some x => decide (x < 16) && (hexd x == c) | none => !(c == 48)) = true :=
  all_u8 (p := fun c => match hexv c with | some x => decide (x < 16) && (hexd x == c) | none => !(c == 48)) (by decide +kernel) c

theorem plain_eq (c : UInt8) : eval tbl noExt n_view_plain [.int .u8 c.toNat] [] = some (.bool (plainC c), []) := of_bytes (g := fun c => .bool (plainC c)) (by kernel_rfl) c

def hexText : List UInt8 := [48, 49, 50, 51, 52, 53, 54, 55, 56, 57, 97, 98, 99, 100, 101, 102]
def hexI (c : UInt8) : Int := match hexv c with
  | some x => x
  | none => -1
theorem hex_index (c : UInt8) : Go.Lib.indexByte hexText c = hexI c := by
  have := all_u8 (p := fun c => decide (Go.Lib.indexByte hexText c = hexI c)) (by decide +kernel) c
  simpa using this
theorem hexv_lt {c : UInt8} {x : Nat} (h : hexv c = some x) : x < 16 := by
  have := hex_facts c
  rw [h] at this
  simp at this
  exact this.1
theorem nibble {x y : Nat} (hx : x < 16) (hy : y < 16) : arith .shl .i64 x 4 = some (.int .i64 (16 * (x : Int))) ∧ arith .or .i64 (16 * (x : Int)) y = some (.int .i64 (16 * (x : Int) + y)) := by
  have h : ∀ a : Fin 16, ∀ b : Fin 16, (match arith .shl .i64 (a.val : Int) 4 with | some (.int .i64 n) => decide (n = 16 * (a.val : Int)) | _ => false) = true ∧ (match arith .or .i64 (16 * (a.val : Int)) (b.val : Int) with | some (.int .i64 n) => decide (n = 16 * (a.val : Int) + b.val) | _ => false) = true := by decide +kernel
  obtain ⟨h1, h2⟩ := h ⟨x, hx⟩ ⟨y, hy⟩
  constructor
  · split at h1
    · rename_i n e; simp at h1; rw [e, h1]
    · cases h1
  · split at h2
    · rename_i n e; simp at h2; rw [e, h2]
    · cases h2

/-- What pair answers. -/
def pairS : List UInt8 → V
  | a :: b :: _ => match hexv a, hexv b with
    | some x, some y => .tup [.int .u8 ((16 * x + y : Nat) : Int), .bool (!plainC (UInt8.ofNat (16 * x + y)))]
    | _, _ => .tup [.int .u8 0, .bool false]
  | _ => .tup [.int .u8 0, .bool false]

theorem pair_eq (s : List UInt8) (hs : s.length ≤ 1000000) : eval tbl noExt n_view_pair [.str s] [] = some (pairS s, []) := by
  rw [eval_M rfl rfl t_view_pair rfl]
  match s with
  | [] => simp [c_view_pair, pairS]
  | [a] => simp [c_view_pair, pairS]
  | a :: b :: l =>
    have h0 : ¬ ((l.length : Int) + 1 + 1 < 2) := by omega
    have h1 : (0 : Int) < (l.length : Int) + 1 + 1 := by omega
    have h2 : (1 : Int) < (l.length : Int) + 1 + 1 := by omega
    have ea := IndexByte_eq hexText a []
    have eb := IndexByte_eq hexText b []
    rw [hex_index] at ea eb
    simp only [hexText] at ea eb
    cases ha : hexv a with
    | none =>
      have e1 : hexI a = -1 := by simp [hexI, ha]
      rw [e1] at ea
      simp [c_view_pair, pairS, h0, h1, h2, ea, eb, ha]
    | some x =>
      have hx := hexv_lt ha
      have e1 : hexI a = x := by simp [hexI, ha]
      rw [e1] at ea
      have nx : ¬ (x : Int) < 0 := by omega
      cases hb : hexv b with
      | none =>
        have e2 : hexI b = -1 := by simp [hexI, hb]
        rw [e2] at eb
        simp [c_view_pair, pairS, h0, h1, h2, ea, eb, ha, hb, nx]
      | some y =>
        have hy := hexv_lt hb
        have e2 : hexI b = y := by simp [hexI, hb]
        rw [e2] at eb
        have ny : ¬ (y : Int) < 0 := by omega
        obtain ⟨q1, q2⟩ := nibble hx hy
        have hP := plain_eq (UInt8.ofNat (16 * x + y))
        have e3 : ((UInt8.ofNat (16 * x + y)).toNat : Int) = 16 * (x : Int) + y := by
          rw [UInt8.toNat_ofNat', Nat.mod_eq_of_lt (by omega)]
          omega
        rw [e3] at hP
        have e4 : IntKind.u8.wrap (16 * (x : Int) + y) = 16 * (x : Int) + y := by rw [IntKind.wrap_u8]; omega
        simp [-arith, c_view_pair, pairS, h0, h1, h2, ea, eb, ha, hb, nx, ny, q1, q2, e4, hP]

theorem WriteByte_eq (H : Heap) (bs : List UInt8) (c : UInt8) (hl : bs.length < 100000000) : eval tbl noExt n_pstrings_Builder_WriteByte [.bptr H.length, .int .u8 c.toNat] (H ++ [some [.bld bT bE bs]]) = some (.undef, H ++ [some [.bld bT bE (bs ++ [c])]]) := by
  have hc := c.toNat_lt
  have hc' : (c.toNat : Int) < 256 := by omega
  rw [eval_X (e := xWriteByte bT bE) rfl rfl]
  simp [xWriteByte, hc', hl]

theorem BString_eq (H : Heap) (bs : List UInt8) : eval tbl noExt n_pstrings_Builder_String [.bptr H.length] (H ++ [some [.bld bT bE bs]]) = some (.str bs, H ++ [none]) := by
  rw [eval_X (e := xString bT bE) rfl rfl]
  simp [xString]

theorem CutPrefix_eq (s : List UInt8) (c : UInt8) (hs : s.length ≤ 1000000) : eval tbl noExt n_strings_CutPrefix [.str s, .str [c]] [] = some (.tup [.str (if s.head? = some c then s.drop 1 else s), .bool (decide (s.head? = some c))], []) := by
  have h1 : eval tbl noExt n_internal_stringslite_CutPrefix [.str s, .str [c]] [] = some (.tup [.str (if s.head? = some c then s.drop 1 else s), .bool (decide (s.head? = some c))], []) := by
    have hp := HasPrefix0 s [c] hs (by simp) []
    rw [eval_M rfl rfl t_internal_stringslite_CutPrefix rfl]
    match s with
    | [] => simp [c_internal_stringslite_CutPrefix, hp]
    | d :: r =>
      have e : [c].isPrefixOf (d :: r) = decide (d = c) := by
        rw [Bool.eq_iff_iff]; simp only [List.isPrefixOf, Bool.and_true, beq_iff_eq, decide_eq_true_eq]; exact eq_comm
      rw [e] at hp
      by_cases h : d = c
      · subst h
        have h0 : (0 : Int) ≤ 1 ∧ (1 : Int) ≤ (r.length : Int) + 1 := by omega
        simp at hp
        simp [c_internal_stringslite_CutPrefix, hp, h0]
      · simp [h] at hp
        simp [c_internal_stringslite_CutPrefix, hp, h]
  rw [eval_M rfl rfl t_strings_CutPrefix rfl]
  simp [c_strings_CutPrefix, h1]

theorem last_split {s : List UInt8} {c : UInt8} (h : s.getLast? = some c) : ∃ r, s = r ++ [c] := by
  obtain ⟨r, hr⟩ := List.getLast?_eq_some_iff.1 h
  exact ⟨r, hr⟩

theorem HasSuffix0 (s : List UInt8) (c : UInt8) (hs : s.length ≤ 1000000) : eval tbl noExt n_internal_stringslite_HasSuffix [.str s, .str [c]] [] = some (.bool (decide (s.getLast? = some c)), []) := by
  rw [eval_M rfl rfl t_internal_stringslite_HasSuffix rfl]
  rcases List.eq_nil_or_concat s with rfl | ⟨r, d, rfl⟩
  · simp [c_internal_stringslite_HasSuffix]
  · rw [List.concat_eq_append] at *
    have h1 : (1 : Int) ≤ (r.length : Int) + 1 := by omega
    have h2 : IntKind.i64.wrap (r.length : Int) = r.length := by rw [w64] <;> simp at hs <;> omega
    have h3 : (r.length : Int) ≤ (r.length : Int) + 1 := by omega
    have h4 : (r ++ [d]).take (r.length + 1) = r ++ [d] := List.take_of_length_le (by simp)
    simp [c_internal_stringslite_HasSuffix, h1, h2, h3, h4]

theorem CutSuffix_eq (s : List UInt8) (c : UInt8) (hs : s.length ≤ 1000000) : eval tbl noExt n_strings_CutSuffix [.str s, .str [c]] [] = some (.tup [.str (if s.getLast? = some c then s.dropLast else s), .bool (decide (s.getLast? = some c))], []) := by
  have h1 : eval tbl noExt n_internal_stringslite_CutSuffix [.str s, .str [c]] [] = some (.tup [.str (if s.getLast? = some c then s.dropLast else s), .bool (decide (s.getLast? = some c))], []) := by
    have hp := HasSuffix0 s c hs
    rw [eval_M rfl rfl t_internal_stringslite_CutSuffix rfl]
    by_cases h : s.getLast? = some c
    · obtain ⟨r, rfl⟩ := last_split h
      have h2 : IntKind.i64.wrap (r.length : Int) = r.length := by rw [w64] <;> simp at hs <;> omega
      have h3 : (r.length : Int) ≤ (r.length : Int) + 1 := by omega
      simp at hp
      simp [c_internal_stringslite_CutSuffix, hp, h2, h3]
    · simp [h] at hp
      simp [c_internal_stringslite_CutSuffix, hp, h]
  rw [eval_M rfl rfl t_strings_CutSuffix rfl]
  simp [c_strings_CutSuffix, h1]

def unqOut (acc : List UInt8) : Option (List UInt8) → V
  | some t => .tup [.str (acc ++ t), .bool true]
  | none => .tup [.str [], .bool false]

theorem unq_loop (H : Heap) : ∀ (n : Nat) (l acc : List UInt8) (φ : Fr), l.length ≤ n → l.length + acc.length ≤ 1000000 → Fr.get φ 4 = .str l → Fr.get φ 7 = .bptr H.length →
    M (eval tbl noExt) [.code l_view_Unquote_0, .blk 0, .code r_view_Unquote_0, .fin [.t 2, .t 3] H.length] φ (H ++ [some [.bld bT bE acc]]) = some (unqOut acc (unqL l), H) := by
  intro n
  induction n with
  | zero =>
    intro l acc φ hl ha h4 h7
    obtain rfl : l = [] := List.eq_nil_of_length_eq_zero (by omega)
    rw [l_view_Unquote_0, M_loop, ← l_view_Unquote_0]
    simp [b_view_Unquote_0, r_view_Unquote_0, h4, h7, BString_eq, unqL, unqOut]
  | succ n ih =>
    intro l acc φ hl ha h4 h7
    match l with
    | [] =>
      rw [l_view_Unquote_0, M_loop, ← l_view_Unquote_0]
      simp [b_view_Unquote_0, r_view_Unquote_0, h4, h7, BString_eq, unqL, unqOut]
    | c :: r =>
      simp only [List.length_cons] at hl ha
      have h1 : (0 : Int) < (r.length : Int) + 1 := by omega
      have h2 : (1 : Int) ≤ (r.length : Int) + 1 := by omega
      rw [l_view_Unquote_0, M_loop, ← l_view_Unquote_0]
      by_cases hc : c = 92
      · subst hc
        have hP := pair_eq r (by omega)
        match r with
        | [] =>
          simp only [pairS] at hP
          simp [b_view_Unquote_0, h4, h7, h1, h2, hP, unqL, unqOut]
        | [a] =>
          simp only [pairS] at hP
          simp [b_view_Unquote_0, h4, h7, h1, h2, hP, unqL, unqOut]
        | a :: b :: t =>
          simp only [List.length_cons] at hl ha
          have h3 : (0 : Int) < (t.length : Int) + 1 + 1 + 1 := by omega
          have h5 : (1 : Int) ≤ (t.length : Int) + 1 + 1 + 1 := by omega
          have h6 : (2 : Int) ≤ (t.length : Int) + 1 + 1 := by omega
          have no : pairC a b = none → unqL (92 :: a :: b :: t) = none := by intro h; rw [unqL]; simp [h]
          have yes : ∀ d, pairC a b = some d → unqL (92 :: a :: b :: t) = (unqL t).map (d :: ·) := by intro d h; rw [unqL]; simp [h]
          cases hx : hexv a with
          | none =>
            simp [pairS, hx] at hP
            have := no (by simp [pairC, hx])
            simp [b_view_Unquote_0, h4, h7, h3, h5, h6, hP, this, unqOut]
          | some x =>
            cases hy : hexv b with
            | none =>
              simp [pairS, hx, hy] at hP
              have := no (by simp [pairC, hx, hy])
              simp [b_view_Unquote_0, h4, h7, h3, h5, h6, hP, this, unqOut]
            | some y =>
              have hx16 := hexv_lt hx
              have hy16 := hexv_lt hy
              have e3 : ((UInt8.ofNat (16 * x + y)).toNat : Int) = 16 * (x : Int) + y := by
                rw [UInt8.toNat_ofNat', Nat.mod_eq_of_lt (by omega)]
                omega
              have hP2 : eval tbl noExt n_view_pair [.str (a :: b :: t)] [] = some (.tup [.int .u8 (16 * (x : Int) + y), .bool (!plainC (UInt8.ofNat (16 * x + y)))], []) := by
                rw [hP]; simp only [pairS, hx, hy]; simp
              have hpc : pairC a b = if plainC (UInt8.ofNat (16 * x + y)) then none else some (UInt8.ofNat (16 * x + y)) := by simp only [pairC, hx, hy]
              generalize UInt8.ofNat (16 * x + y) = d at hP2 hpc e3
              cases hp : plainC d with
              | true =>
                have := no (by rw [hpc, hp]; rfl)
                rw [hp] at hP2
                simp [b_view_Unquote_0, h4, h7, h3, h5, h6, hP2, this, unqOut]
              | false =>
                have hY := yes d (by rw [hpc, hp]; rfl)
                rw [hp] at hP2
                have hW := WriteByte_eq H acc d (by omega)
                rw [e3] at hW
                simp [b_view_Unquote_0, h4, h7, h3, h5, h6, hP2, hW]
                rw [ih t (acc ++ [d]) _ (by omega) (by simp; omega) (by simp) (by simp [h7])]
                rw [hY]
                cases unqL t <;> simp [unqOut]
      · have hq : ¬ (c.toNat : Int) = 92 := by
          intro h
          exact hc (by apply UInt8.toNat_inj.1; show c.toNat = 92; omega)
        have hP := plain_eq c
        have hu : unqL (c :: r) = if plainC c = true then (unqL r).map (c :: ·) else none := by
          rw [unqL.eq_def]; simp only [hc, if_false]
        cases hp : plainC c with
        | false =>
          rw [hp] at hP hu
          simp [b_view_Unquote_0, h4, h7, h1, h2, hq, hP, hu, unqOut]
        | true =>
          rw [hp] at hP hu
          have hW := WriteByte_eq H acc c (by omega)
          simp [b_view_Unquote_0, h4, h7, h1, h2, hq, hP, hW]
          rw [ih r (acc ++ [c]) _ (by omega) (by simp; omega) (by simp) (by simp [h7])]
          rw [hu]
          cases unqL r <;> simp [unqOut]

theorem Unquote_eq (s : List UInt8) (hs : s.length ≤ 1000000) (H : Heap) : eval tbl noExt n_view_Unquote [.str s] H = some (.tup [.str ((unq s).getD []), .bool (unq s).isSome], H) := by
  have hp := CutPrefix_eq s 34 hs
  rw [eval_M rfl rfl t_view_Unquote rfl]
  by_cases h : s.head? = some 34
  · obtain ⟨r, rfl⟩ : ∃ r, s = 34 :: r := by
      cases s with
      | nil => cases h
      | cons c r => simp at h; subst h; exact ⟨r, rfl⟩
    simp only [List.length_cons] at hs
    have hq := CutSuffix_eq r 34 (by omega)
    simp at hp
    by_cases h2 : r.getLast? = some 34
    · obtain ⟨t, rfl⟩ := last_split h2
      have hu : unq (34 :: (t ++ [34])) = unqL t := by simp [unq]
      simp at hq hs
      rw [hu]
      simp [c_view_Unquote, hp, hq]
      rw [unq_loop H t.length t [] _ (Nat.le_refl _) (by simp; omega) (by simp) (by simp)]
      cases unqL t <;> simp [unqOut]
    · have hu : unq (34 :: r) = none := by simp [unq, h2]
      simp [h2] at hq
      rw [hu]
      simp [c_view_Unquote, hp, hq]
  · have hq := CutSuffix_eq s 34 hs
    have hu : unq s = none := by
      unfold unq
      split
      · rename_i r; simp at h
      · rfl
    simp [h] at hp
    rw [hu]
    by_cases h2 : s.getLast? = some 34 <;> simp [h2] at hq <;> simp [c_view_Unquote, hp, hq]

end Go.AM.Spec

namespace Go.AM.Spec
set_option linter.unusedVariables false
set_option linter.unusedSimpArgs false
set_option maxHeartbeats 1000000
set_option maxRecDepth 10000

theorem quo_loop (H : Heap) (s : List UInt8) (hs : s.length ≤ 1000000) : ∀ (n i : Nat) (acc : List UInt8) (φ : Fr), s.length - i ≤ n → i ≤ s.length → acc.length ≤ 3 * i + 1 → Fr.get φ 3 = .bptr H.length → Fr.get φ 8 = .own 1 (bytesRows s) → Fr.get φ 9 = .int .i64 s.length → Fr.get φ 10 = .int .i64 i →
    M (eval tbl noExt) [.code l_view_Quote_0, .blk 0, .code r_view_Quote_0, .fin [.t 2] H.length] φ (H ++ [some [.bld bT bE acc]]) = some (.str (acc ++ (s.drop i).flatMap signC ++ [34]), H) := by
  intro n
  induction n with
  | zero =>
    intro i acc φ hn hi ha h3 h8 h9 h10
    obtain rfl : i = s.length := by omega
    have hW := WriteByte_eq H acc 34 (by omega)
    have e34 : ((34 : UInt8).toNat : Int) = 34 := rfl
    rw [e34] at hW
    rw [l_view_Quote_0, M_loop, ← l_view_Quote_0]
    simp [b_view_Quote_0, r_view_Quote_0, h3, h8, h9, h10, hW, BString_eq]
  | succ n ih =>
    intro i acc φ hn hi ha h3 h8 h9 h10
    by_cases hil : i = s.length
    · subst hil
      have hW := WriteByte_eq H acc 34 (by omega)
      have e34 : ((34 : UInt8).toNat : Int) = 34 := rfl
      rw [e34] at hW
      rw [l_view_Quote_0, M_loop, ← l_view_Quote_0]
      simp [b_view_Quote_0, r_view_Quote_0, h3, h8, h9, h10, hW, BString_eq]
    · have hlt : i < s.length := by omega
      have hd : s.drop i = s[i] :: s.drop (i + 1) := List.drop_eq_getElem_cons hlt
      have h1 : (i : Int) < s.length := by omega
      have hl : (bytesRows s).length = s.length := by simp [bytesRows]
      have hr : (bytesRows s)[i]'(by rw [hl]; exact hlt) = [.int .u8 (s[i]).toNat] := by simp [bytesRows]
      have hw : IntKind.i64.wrap ((i : Int) + 1) = (i + 1 : Nat) := by rw [w64] <;> omega
      have hP := plain_eq s[i]
      rw [hd]
      generalize s[i] = c at hr hP ⊢
      have hc := c.toNat_lt
      rw [l_view_Quote_0, M_loop, ← l_view_Quote_0]
      cases hp : plainC c with
      | true =>
        rw [hp] at hP
        have hW := WriteByte_eq H acc c (by omega)
        simp [b_view_Quote_0, h3, h8, h9, h10, h1, hl, hlt, hr, hP, hW, hw]
        rw [ih (i + 1) (acc ++ [c]) _ (by omega) (by omega) (by simp; omega) (by simp [h3]) (by simp [h8]) (by simp [h9]) (by simp)]
        simp [signC, hp]
      | false =>
        rw [hp] at hP
        have hW1 := WriteByte_eq H acc 92 (by omega)
        have e92 : ((92 : UInt8).toNat : Int) = 92 := rfl
        rw [e92] at hW1
        obtain ⟨a, ea⟩ : ∃ a, a = c.toNat / 16 := ⟨_, rfl⟩
        obtain ⟨b, eb⟩ : ∃ b, b = c.toNat % 16 := ⟨_, rfl⟩
        have q1 : (c.toNat : Int).fdiv (2 ^ min 4 IntKind.u8.bits) = (a : Int) := by
          have : (2 : Int) ^ min 4 IntKind.u8.bits = 16 := rfl
          rw [this, Int.fdiv_eq_ediv_of_nonneg _ (by omega)]; omega
        have q2 : IntKind.u8.wrap ((c.toNat % 2 ^ IntKind.u8.bits &&& 15 % 2 ^ IntKind.u8.bits : Nat) : Int) = (b : Int) := by
          have := all_u8 (p := fun c => decide (IntKind.u8.wrap ((c.toNat % 2 ^ IntKind.u8.bits &&& 15 % 2 ^ IntKind.u8.bits : Nat) : Int) = (c.toNat % 16 : Nat))) (by decide +kernel) c
          rw [eb]
          simpa using this
        have q3 : a < 16 := by omega
        have q4 : b < 16 := by omega
        have q3' : (a : Int) < 16 := by omega
        have q4' : (b : Int) < 16 := by omega
        have g1 : ∀ k, k < 16 → hexText[k]? = some (hexd k) := by decide
        have r1 := g1 _ q3
        have r2 := g1 _ q4
        simp only [hexText] at r1 r2
        have hsg : signC c = [92, hexd a, hexd b] := by simp [signC, hp, ea, eb]
        have hW2 := WriteByte_eq H (acc ++ [92]) (hexd a) (by simp; omega)
        have hW3 := WriteByte_eq H (acc ++ [92] ++ [hexd a]) (hexd b) (by simp; omega)
        simp only [List.append_assoc, List.cons_append, List.nil_append] at hW2 hW3
        simp [b_view_Quote_0, h3, h8, h9, h10, h1, hl, hlt, hr, hP, hW1, hW2, hW3, q1, q2, q3', q4', r1, r2, hw]
        rw [ih (i + 1) (acc ++ [92, hexd a, hexd b]) _ (by omega) (by omega) (by simp; omega) (by simp [h3]) (by simp [h8]) (by simp [h9]) (by simp)]
        simp [hsg]

theorem Quote_eq (s : List UInt8) (hs : s.length ≤ 1000000) (H : Heap) : eval tbl noExt n_view_Quote [.str s] H = some (.str (quo s), H) := by
  have hW := WriteByte_eq H [] 34 (by simp)
  have e34 : ((34 : UInt8).toNat : Int) = 34 := rfl
  rw [e34] at hW
  have hl : (bytesRows s).length = s.length := by simp [bytesRows]
  rw [eval_M rfl rfl t_view_Quote rfl]
  simp [c_view_Quote, hW, hl]
  rw [quo_loop H s hs s.length 0 [34] _ (by omega) (by omega) (by simp) (by simp) (by simp) (by simp) (by simp)]
  simp [quo]

end Go.AM.Spec

namespace Go.AM.Spec
set_option linter.unusedVariables false
set_option linter.unusedSimpArgs false
set_option maxHeartbeats 1000000
set_option maxRecDepth 10000

theorem blank_contains (c : UInt8) : [32, 9, 10].contains c = isBlank c := by
  unfold isBlank
  have h : ∀ a : UInt8, (c == a) = decide (c.toNat = a.toNat) := by
    intro a
    rw [Bool.eq_iff_iff]
    simp only [beq_iff_eq, decide_eq_true_eq, ← UInt8.toNat_inj]
  simp only [List.contains_cons, List.contains_nil, h]
  simp [Bool.or_assoc]

theorem trimLeft_eq (s : List UInt8) (hs : s.length ≤ 1000000) (H : Heap) : eval tbl noExt n_strings_TrimLeft [.str s, .str [32, 9, 10]] H = some (.str (s.dropWhile isBlank), H) := by
  have e : Go.Lib.trimLeftS s [32, 9, 10] = s.dropWhile isBlank := by
    unfold Go.Lib.trimLeftS
    congr 1
    funext c
    exact blank_contains c
  rw [eval_X (e := xTrimLeft) rfl rfl]
  simp [xTrimLeft, hs, e]

def hashG : List UInt8 → List UInt8
  | [] => []
  | c :: r => if c = 35 then skipG true r else c :: r

theorem skip_dw : ∀ s : List UInt8, skipG false s = hashG (s.dropWhile isBlank)
  | [] => rfl
  | c :: l => by
    cases hb : isBlank c with
    | true =>
      rw [List.dropWhile_cons_of_pos hb]
      show (if isBlank c = true then skipG false l else _) = _
      rw [if_pos hb]
      exact skip_dw l
    | false =>
      rw [List.dropWhile_cons_of_neg (by simp [hb])]
      show (if isBlank c = true then skipG false l else _) = _
      rw [if_neg (by simp [hb])]
      rfl

theorem index_10 (c : UInt8) (l : List UInt8) : Go.Lib.indexByte (c :: l) 10 = if c = 10 then 0 else if Go.Lib.indexByte l 10 = -1 then -1 else Go.Lib.indexByte l 10 + 1 := by
  rw [Go.Lib.indexByte]
  by_cases h : c = 10
  · subst h; rfl
  · rw [if_neg (by simpa using h), if_neg h]
    by_cases h2 : Go.Lib.indexByte l 10 = -1
    · rw [h2]; rfl
    · rw [if_neg (by simpa using h2), if_neg h2]

theorem index_cases (l : List UInt8) (c : UInt8) : Go.Lib.indexByte l c = -1 ∨ ∃ n : Nat, Go.Lib.indexByte l c = n ∧ n < l.length := by
  induction l with
  | nil => exact .inl rfl
  | cons b l ih =>
    rw [Go.Lib.indexByte]
    by_cases h : (b == c) = true
    · rw [if_pos h]; exact .inr ⟨0, rfl, by simp⟩
    · rw [if_neg h]
      rcases ih with h2 | ⟨n, h2, h3⟩
      · rw [h2]; exact .inl rfl
      · rw [h2]
        have : ¬ (((n : Int) == -1) = true) := by simp
        rw [if_neg this]
        exact .inr ⟨n + 1, by omega, by simpa using h3⟩

theorem skip_com : ∀ r : List UInt8, skipG true r = if Go.Lib.indexByte r 10 = -1 then [] else skipG false (r.drop (Go.Lib.indexByte r 10).toNat)
  | [] => rfl
  | c :: l => by
    rw [index_10]
    show (if c = 10 then skipG false l else skipG true l) = _
    by_cases h : c = 10
    · rw [if_pos h, if_pos h, if_neg (by decide)]
      subst h
      rfl
    · rw [if_neg h, if_neg h, skip_com l]
      rcases index_cases l 10 with h2 | ⟨n, h2, h3⟩
      · rw [h2]; rfl
      · rw [h2]
        have h4 : ¬ (n : Int) = -1 := by omega
        have h5 : ¬ ((n : Int) + 1) = -1 := by omega
        rw [if_neg h4, if_neg h4, if_neg h5]
        have : ((n : Int) + 1).toNat = n + 1 := by omega
        rw [this, Int.toNat_natCast, List.drop_succ_cons]

theorem skip_loop (H : Heap) : ∀ (n : Nat) (s : List UInt8) (φ : Fr), s.length ≤ n → s.length ≤ 1000000 → Fr.get φ 0 = .str s →
    M (eval tbl noExt) [.code l_lex_skip_0, .blk 0, .fin [.t 2] H.length] φ H = some (.str (skipG false s), H) := by
  intro n
  induction n with
  | zero =>
    intro s φ hn hs h0
    have : s = [] := List.eq_nil_of_length_eq_zero (by omega)
    subst this
    have hT := trimLeft_eq [] hs []
    have hP := HasPrefix_eq [] [35] hs (by decide) []
    have e1 : ([] : List UInt8).dropWhile isBlank = [] := rfl
    have e2 : List.isPrefixOf [35] ([] : List UInt8) = false := rfl
    rw [e1] at hT
    rw [e2] at hP
    rw [l_lex_skip_0, M_loop, ← l_lex_skip_0]
    simp [b_lex_skip_0, h0, hT, hP, skipG]
  | succ n ih =>
    intro s φ hn hs h0
    have hT := trimLeft_eq s hs []
    rw [skip_dw]
    have hl : (s.dropWhile isBlank).length ≤ s.length := (List.dropWhile_sublist _).length_le
    generalize s.dropWhile isBlank = t at hT hl
    have hP := HasPrefix_eq t [35] (by omega) (by decide) []
    match t with
    | [] =>
      have e2 : List.isPrefixOf [35] ([] : List UInt8) = false := rfl
      rw [e2] at hP
      rw [l_lex_skip_0, M_loop, ← l_lex_skip_0]
      simp [b_lex_skip_0, h0, hT, hP, hashG]
    | c :: r =>
      by_cases h : c = 35
      · subst h
        have e2 : List.isPrefixOf [35] (35 :: r) = true := by simp [List.isPrefixOf]
        have hI := IndexByte_eq (35 :: r) 10 []
        have e3 : ((10 : UInt8).toNat : Int) = 10 := rfl
        rw [e2] at hP
        rw [e3, index_10, if_neg (by decide)] at hI
        rw [show hashG (35 :: r) = skipG true r from rfl, skip_com]
        rw [l_lex_skip_0, M_loop, ← l_lex_skip_0]
        rcases index_cases r 10 with h2 | ⟨m, h2, h3⟩
        · rw [h2] at hI ⊢
          simp at hI
          simp [b_lex_skip_0, h0, hT, hP, hI]
        · have h4 : ¬ (m : Int) = -1 := by omega
          rw [h2, if_neg h4] at hI
          rw [h2, if_neg h4, Int.toNat_natCast]
          have h5 : ¬ ((m : Int) + 1 < 0) := by omega
          have h6 : (0 : Int) ≤ (m : Int) + 1 := by omega
          have h7 : (m : Int) + 1 ≤ (r.length : Int) + 1 := by omega
          have h8 : ((m : Int) + 1).toNat = m + 1 := by omega
          simp only [List.length_cons] at hl
          have hih := ih (r.drop m)
          have e : (35 :: r).drop (m + 1) = r.drop m := rfl
          simp [b_lex_skip_0, h0, hT, hP, hI, h5, h6, h7, h8]
          exact hih _ (by rw [List.length_drop]; omega) (by rw [List.length_drop]; omega) (by simp)
      · have e2 : List.isPrefixOf [35] (c :: r) = false := by simp [List.isPrefixOf]; exact fun e => h e.symm
        rw [e2] at hP
        rw [show hashG (c :: r) = if c = 35 then skipG true r else c :: r from rfl, if_neg h]
        rw [l_lex_skip_0, M_loop, ← l_lex_skip_0]
        simp [b_lex_skip_0, h0, hT, hP]

theorem skip_eq (s : List UInt8) (hs : s.length ≤ 1000000) (H : Heap) : eval tbl noExt n_lex_skip [.str s] H = some (.str (skipG false s), H) := by
  rw [eval_M rfl rfl t_lex_skip rfl]
  simp [c_lex_skip]
  exact skip_loop H s.length s _ (Nat.le_refl _) hs (by simp)

/-! One word. -/

def zeroWd : List V := [iw 0, .str [], iw 0, iw 0]
/-- What a part of the scanner answers. -/
def ansOf : (Wd × Nat) ⊕ Int → V
  | .inl (w, n) => .tup [.agg (w.at 0), .int .i64 n, .int .i64 0]
  | .inr e => .tup [.agg zeroWd, .int .i64 0, .int .i64 e]

def wordP (s : List UInt8) : (Wd × Nat) ⊕ Int :=
  let w := s.takeWhile isInner
  if isKey w then .inl (⟨4, w, 0⟩, w.length) else if isName w then .inl (⟨1, w, 0⟩, w.length) else .inr 14

theorem word_eq (s : List UInt8) (hs : s.length ≤ 1000000) (H : Heap) : eval tbl noExt n_lex_word [.str s] H = some (ansOf (wordP s), H) := by
  have hr := run_inner s []
  have hw : (s.takeWhile isInner).length ≤ 1000000 := Nat.le_trans (List.takeWhile_sublist _).length_le hs
  unfold wordP
  generalize s.takeWhile isInner = w at hr hw
  have hK := Key_eq w hw []
  have hN := Name_eq w hw []
  rw [eval_M rfl rfl t_lex_word rfl]
  cases k : isKey w with
  | true =>
    rw [k] at hK
    simp [c_lex_word, hr, hK, ansOf, Wd.at, k]
  | false =>
    rw [k] at hK
    cases m : isName w with
    | true =>
      rw [m] at hN
      simp [c_lex_word, hr, hK, hN, ansOf, Wd.at, k, m]
    | false =>
      rw [m] at hN
      simp [c_lex_word, hr, hK, hN, ansOf, zeroWd, k, m]

theorem run_digit (s : List UInt8) (H : Heap) : eval tbl noExt n_lex_run [.str s, .fn (.func n_lex_digit) [] []] H = some (.str (s.takeWhile isDigit), H) := by
  rw [eval_X rfl rfl]
  simp [xRun]
  rfl

def numberP (s : List UInt8) : (Wd × Nat) ⊕ Int :=
  let w := s.takeWhile isDigit
  if (readR w).2 then .inl (⟨2, [], (readR w).1⟩, w.length) else .inr 12

theorem number_eq (s : List UInt8) (H : Heap) : eval tbl noExt n_lex_number [.str s] H = some (ansOf (numberP s), H) := by
  have hr := run_digit s []
  unfold numberP
  generalize s.takeWhile isDigit = w at hr
  have hR := read_eq (H := []) w
  rw [eval_M rfl rfl t_lex_number rfl]
  cases k : (readR w).2 with
  | true =>
    rw [k] at hR
    simp [c_lex_number, hr, hR, ansOf, Wd.at, k]
  | false =>
    rw [k] at hR
    simp [c_lex_number, hr, hR, ansOf, zeroWd, k]

theorem quoteEnd_index : ∀ r : List UInt8, Go.Lib.indexByte r 34 = (match quoteEnd r with | none => (-1 : Int) | some n => (n : Int))
  | [] => rfl
  | c :: l => by
    rw [Go.Lib.indexByte, quoteEnd]
    by_cases h : c = 34
    · subst h; rfl
    · rw [if_neg (by simpa using h), if_neg h, quoteEnd_index l]
      cases quoteEnd l with
      | none => rfl
      | some n =>
        have : ¬ (((n : Int) == -1) = true) := by simp
        simp only [Option.map_some]
        rw [if_neg this]
        show (n : Int) + 1 = ((n + 1 : Nat) : Int)
        omega

theorem quoteEnd_lt : ∀ (r : List UInt8) (n : Nat), quoteEnd r = some n → n < r.length ∧ r[n]? = some 34
  | [], n, h => by cases h
  | c :: l, n, h => by
    rw [quoteEnd] at h
    by_cases hc : c = 34
    · rw [if_pos hc] at h
      cases h
      exact ⟨by simp, by simp [hc]⟩
    · rw [if_neg hc] at h
      obtain ⟨m, hm, rfl⟩ := Option.map_eq_some_iff.1 h
      obtain ⟨h1, h2⟩ := quoteEnd_lt l m hm
      exact ⟨by simpa using h1, by simpa using h2⟩

def textP (r : List UInt8) : (Wd × Nat) ⊕ Int :=
  match quoteEnd r with
  | none => .inr 12
  | some n => match unq (34 :: (r.take n ++ [34])) with
    | none => .inr 12
    | some u => if 64 < u.length then .inr 14 else .inl (⟨3, u, 0⟩, n + 2)

theorem text_eq (r : List UInt8) (hs : r.length ≤ 100000) (H : Heap) : eval tbl noExt n_lex_text [.str (34 :: r)] H = some (ansOf (textP r), H) := by
  have hI := IndexByte_eq r 34 []
  have e3 : ((34 : UInt8).toNat : Int) = 34 := rfl
  rw [e3, quoteEnd_index] at hI
  have l0 : (1 : Int) ≤ (r.length : Int) + 1 := by omega
  unfold textP
  rw [eval_M rfl rfl t_lex_text rfl]
  cases q : quoteEnd r with
  | none =>
    rw [q] at hI
    simp only at hI
    simp [c_lex_text, hI, l0, ansOf, zeroWd]
  | some n =>
    rw [q] at hI
    obtain ⟨h1, h2⟩ := quoteEnd_lt r n q
    obtain ⟨m, hm⟩ : ∃ m, m = n + 2 := ⟨_, rfl⟩
    have w2 : IntKind.i64.wrap ((n : Int) + 2) = (m : Int) := by rw [w64] <;> omega
    have l1 : (m : Int) ≤ (r.length : Int) + 1 := by omega
    have l2 : ¬ (n : Int) < 0 := by omega
    have et : (34 :: r).take m = 34 :: (r.take n ++ [34]) := by
      rw [hm]
      show 34 :: r.take (n + 1) = _
      rw [List.take_add_one, h2]
      rfl
    have hU := Unquote_eq (34 :: (r.take n ++ [34])) (by simp; omega) []
    simp only at hI ⊢
    cases u : unq (34 :: (r.take n ++ [34])) with
    | none =>
      rw [u] at hU
      simp at hU
      simp [c_lex_text, hI, l0, l2, w2, l1, et, hU, ansOf, zeroWd]
    | some t =>
      rw [u] at hU
      simp at hU
      by_cases h64 : 64 < t.length
      · have h64' : (64 : Int) < t.length := by omega
        simp [c_lex_text, hI, l0, l2, w2, l1, et, hU, h64, h64', ansOf, zeroWd]
      · have h64' : ¬ (64 : Int) < t.length := by omega
        rw [← hm]
        simp [c_lex_text, hI, l0, l2, w2, l1, et, hU, h64, h64', ansOf, Wd.at]

def signP (c : UInt8) (r : List UInt8) : (Wd × Nat) ⊕ Int :=
  if c = 61 ∧ r.head? = some 61 then .inl (⟨5, [61, 61], 0⟩, 2)
  else if signsL.contains c then .inl (⟨5, [c], 0⟩, 1)
  else .inr 12

theorem index_mem (c : UInt8) : ∀ l : List UInt8, decide (0 ≤ Go.Lib.indexByte l c) = l.contains c
  | [] => rfl
  | b :: l => by
    have ih := index_mem c l
    rw [Go.Lib.indexByte, List.contains_cons]
    by_cases h : b = c
    · subst h; simp
    · have h2 : (c == b) = false := by simp; exact fun e => h e.symm
      rw [if_neg (by simpa using h), h2, Bool.false_or, ← ih]
      rcases index_cases l c with h3 | ⟨n, h3, _⟩
      · rw [h3]; rfl
      · rw [h3]
        have : ¬ (((n : Int) == -1) = true) := by simp
        rw [if_neg this]
        simp
        omega

theorem sign_eq (c : UInt8) (r : List UInt8) (hs : r.length ≤ 100000) (H : Heap) : eval tbl noExt n_lex_sign [.str (c :: r)] H = some (ansOf (signP c r), H) := by
  have hP := HasPrefix_eq (c :: r) [61, 61] (by simp; omega) (by decide) []
  have hI := IndexByte_eq signsL c []
  have hm := index_mem c signsL
  rw [eval_M rfl rfl t_lex_sign rfl]
  unfold signP
  by_cases h : c = 61 ∧ r.head? = some 61
  · have e : List.isPrefixOf [61, 61] (c :: r) = true := by
      obtain ⟨rfl, h2⟩ := h
      cases r with
      | nil => cases h2
      | cons d r =>
        have : d = 61 := by simpa using h2
        subst this
        simp [List.isPrefixOf]
    rw [e] at hP
    rw [if_pos h]
    simp [c_lex_sign, hP, ansOf, Wd.at]
  · have e : List.isPrefixOf [61, 61] (c :: r) = false := by
      rw [Bool.eq_false_iff]
      intro hh
      apply h
      match r, hh with
      | [], hh => simp [List.isPrefixOf] at hh
      | d :: r, hh =>
        simp [List.isPrefixOf] at hh
        exact ⟨hh.1.symm, by simp [hh.2.symm]⟩
    rw [e] at hP
    rw [if_neg h]
    cases k : signsL.contains c with
    | true =>
      rw [k] at hm
      have hm' : (0 : Int) ≤ Go.Lib.indexByte signsL c := by simpa using hm
      simp only [signsL] at hI hm'
      have l0 : (1 : Int) ≤ (r.length : Int) + 1 := by omega
      simp [c_lex_sign, hP, hI, hm', l0, ansOf, Wd.at]
    | false =>
      rw [k] at hm
      have hm' : ¬ (0 : Int) ≤ Go.Lib.indexByte signsL c := by simpa using hm
      simp only [signsL] at hI hm'
      simp [c_lex_sign, hP, hI, hm', ansOf, zeroWd]

theorem digit_eq (c : UInt8) (H : Heap) : eval tbl noExt n_lex_digit [.int .i32 c.toNat] H = some (.bool (isDigit c), H) := by
  have h1 := le_u8 48 c
  have h2 := le_u8 c 57
  simp only [UInt8.reduceToNat] at h1 h2
  rw [eval_M rfl rfl t_lex_digit rfl]
  unfold isDigit
  rw [← h1, ← h2]
  by_cases h : (48 : Int) ≤ c.toNat
  · simp [c_lex_digit, h]
  · simp [c_lex_digit, h]

theorem begins_digit (c : UInt8) (l : List UInt8) (H : Heap) : eval tbl noExt n_lex_begins [.str (c :: l), .fn (.func n_lex_digit) [] []] H = some (.bool (isDigit c), H) := by
  rw [eval_M rfl rfl t_lex_begins rfl]
  simp [c_lex_begins, w32, digit_eq, lt_lex_digit]

theorem oneS_cons (c : UInt8) (r : List UInt8) : oneS (c :: r) = if isLetter c then wordP (c :: r) else if isDigit c then numberP (c :: r) else if c = 34 then textP r else signP c r := rfl

theorem ans_shape (x : (Wd × Nat) ⊕ Int) : ∃ k u n a m e, ansOf x = .tup [.agg [iw k, .str u, iw n, iw a], .int .i64 m, .int .i64 e] := by
  match x with
  | .inl (w, n) => exact ⟨_, _, _, _, _, _, rfl⟩
  | .inr e => exact ⟨_, _, _, _, _, _, rfl⟩

theorem next_eq (c : UInt8) (r : List UInt8) (hs : r.length ≤ 10000) (H : Heap) : eval tbl noExt n_lex_next [.str (c :: r)] H = some (ansOf (oneS (c :: r)), H) := by
  have hb := begins_eq (c :: r) []
  have hd := begins_digit c r []
  have hW := word_eq (c :: r) (by simp; omega) []
  have hN := number_eq (c :: r) []
  have hS := sign_eq c r (by omega) []
  rw [oneS_cons, eval_M rfl rfl t_lex_next rfl]
  simp only at hb
  cases b1 : isLetter c with
  | true =>
    rw [b1] at hb
    obtain ⟨k, u, n, a, m, e, h1⟩ := ans_shape (wordP (c :: r))
    rw [h1] at hW
    simp [c_lex_next, hb, hW, h1]
  | false =>
    rw [b1] at hb
    cases b2 : isDigit c with
    | true =>
      rw [b2] at hd
      obtain ⟨k, u, n, a, m, e, h1⟩ := ans_shape (numberP (c :: r))
      rw [h1] at hN
      simp [c_lex_next, hb, hd, hN, h1]
    | false =>
      rw [b2] at hd
      by_cases b3 : c = 34
      · subst b3
        have hT := text_eq r (by omega) []
        obtain ⟨k, u, n, a, m, e, h1⟩ := ans_shape (textP r)
        rw [h1] at hT
        simp [c_lex_next, hb, hd, hT, h1]
      · have b4 : ¬ (c.toNat : Int) = 34 := by
          intro h
          exact b3 (UInt8.toNat_inj.1 (by show c.toNat = 34; omega))
        obtain ⟨k, u, n, a, m, e, h1⟩ := ans_shape (signP c r)
        rw [h1] at hS
        simp [c_lex_next, hb, hd, hS, h1, b3, b4]

end Go.AM.Spec

namespace Go.AM.Spec
set_option linter.unusedVariables false
set_option linter.unusedSimpArgs false
set_option maxHeartbeats 1000000
set_option maxRecDepth 10000

/-- A word is not empty, nor longer than what is there. -/
theorem oneS_len (c : UInt8) (r : List UInt8) (w : Wd) (n : Nat) (h : oneS (c :: r) = .inl (w, n)) : 0 < n ∧ n ≤ r.length + 1 := by
  rw [oneS_cons] at h
  have tw : ∀ p : UInt8 → Bool, p c = true → 0 < ((c :: r).takeWhile p).length ∧ ((c :: r).takeWhile p).length ≤ r.length + 1 := by
    intro p hp
    refine ⟨by rw [List.takeWhile_cons_of_pos hp]; simp, ?_⟩
    have := (List.takeWhile_sublist (l := c :: r) p).length_le
    simpa using this
  split at h
  · rename_i hl
    have hi : isInner c = true := by unfold isInner; simp [hl]
    have := tw isInner hi
    unfold wordP at h
    simp only at h
    split at h
    · cases h; exact this
    · split at h
      · cases h; exact this
      · cases h
  · split at h
    · rename_i hd
      have := tw isDigit hd
      unfold numberP at h
      simp only at h
      split at h
      · cases h; exact this
      · cases h
    · split at h
      · unfold textP at h
        split at h
        · cases h
        · rename_i m hm
          have := (quoteEnd_lt r m hm).1
          split at h
          · cases h
          · split at h
            · cases h
            · cases h; omega
      · unfold signP at h
        split at h
        · rename_i hs
          cases h
          cases r with
          | nil => exact absurd hs.2 (by simp)
          | cons d r => simp
        · split at h
          · cases h; omega
          · cases h

theorem oneS_err (c : UInt8) (r : List UInt8) (e : Int) (h : oneS (c :: r) = .inr e) : e ≠ 0 := by
  rw [oneS_cons] at h
  split at h
  · unfold wordP at h
    simp only at h
    split at h
    · cases h
    · split at h <;> cases h
      decide
  · split at h
    · unfold numberP at h
      simp only at h
      split at h <;> cases h
      decide
    · split at h
      · unfold textP at h
        split at h
        · cases h; decide
        · split at h
          · cases h; decide
          · split at h <;> cases h
            decide
      · unfold signP at h
        split at h
        · cases h
        · split at h <;> cases h
          decide

/-- What Words answers, as values. -/
def wordsV (x : (List (List V)) × Int × Int) : V := .tup [.sl 4 x.1, .agg [iw x.2.1, iw x.2.2]]

theorem words_loop (H : Heap) (s : List UInt8) (hs : s.length ≤ 4096) : ∀ (f : Nat) (l : List UInt8) (acc : List (List V)) (φ : Fr) (K : Heap), l.length < f → l.length ≤ s.length → acc.length + l.length ≤ s.length →
    K.take H.length = H → K[H.length]? = some (some [iw 0, iw 0]) → Fr.get φ 0 = .str s → Fr.get φ 3 = .ptr H.length 0 → Fr.get φ 4 = .own 4 acc → Fr.get φ 5 = .str l →
    M (eval tbl noExt) [.code l_lex_Words_0, .blk 0, .code r_lex_Words_0, .fin [.t 2, .cell 3 (some 2)] H.length] φ K = some (wordsV (wordsG s.length f l acc), H) := by
  intro f
  induction f with
  | zero => intro l acc φ K hf; omega
  | succ f ih =>
    intro l acc φ K hf hl ha hK hc h0 h3 h4 h5
    have hKl : H.length < K.length := (List.getElem?_eq_some_iff.1 hc).1
    have hb : 2 * (acc.length + 1) * 40 ≤ 281474976710656 := by omega
    have e1 : ∀ x, (K.set H.length x)[H.length]? = some x := fun x => by simp [hKl]
    have e2 : ∀ x, (K.set H.length x).take H.length = H := fun x => by rw [List.take_set_of_le (Nat.le_refl _)]; exact hK
    match l with
    | [] =>
      rw [l_lex_Words_0, M_loop, ← l_lex_Words_0]
      simp [b_lex_Words_0, h0, h3, h4, h5]
      simp [r_lex_Words_0, h0, h3, h4, h5, hb, hc, wordsV, wordsG, e1, e2]
    | c :: r =>
      have hX := next_eq c r (by simp at hl; omega) []
      have e3 : ∀ x, (K ++ [x])[H.length]? = some (some [iw 0, iw 0]) := fun x => by rw [List.getElem?_append_left hKl]; exact hc
      have e4 : ∀ x y, ((K ++ [x]).set H.length y)[H.length]? = some y := fun x y => by rw [List.getElem?_set_self (by simp; omega)]
      have e5 : ∀ x y, ((K ++ [x]).set H.length y).take H.length = H := fun x y => by rw [List.take_set_of_le (Nat.le_refl _), List.take_append_of_le_length (by omega)]; exact hK
      simp only [List.length_cons] at hf hl ha
      have hw : IntKind.i64.wrap ((s.length : Int) - ((r.length : Int) + 1)) = ((s.length - (r.length + 1) : Nat) : Int) := by rw [w64] <;> omega
      have eG : wordsG s.length (f + 1) (c :: r) acc = (match oneS (c :: r) with
        | .inr e => ([], e, ((s.length - (r.length + 1) : Nat) : Int))
        | .inl (w, n) => wordsG s.length f (skipG false ((c :: r).drop n)) (acc ++ [w.at ((s.length - (r.length + 1) : Nat) : Int)])) := by
        rw [wordsG, if_neg (by simp)]
        rfl
      rw [eG]
      rw [l_lex_Words_0, M_loop, ← l_lex_Words_0]
      cases ho : oneS (c :: r) with
      | inr e =>
        have he := oneS_err c r e ho
        rw [ho] at hX
        simp only [ansOf, zeroWd] at hX
        simp [b_lex_Words_0, h0, h3, h4, h5, hX, hw, get0, set0, e3, e4, e5, he, wordsV]
      | inl p =>
        obtain ⟨w, n⟩ := p
        obtain ⟨n0, n1⟩ := oneS_len c r w n ho
        have hS := skip_eq ((c :: r).drop n) (by rw [List.length_drop]; simp; omega) []
        have hle := skipG_le false ((c :: r).drop n)
        rw [List.length_drop, List.length_cons] at hle
        have hi := ih (skipG false ((c :: r).drop n)) (acc ++ [w.at ((s.length - (r.length + 1) : Nat) : Int)])
        rw [ho] at hX
        show _ = some (wordsV (wordsG s.length f (skipG false ((c :: r).drop n)) (acc ++ [w.at ((s.length - (r.length + 1) : Nat) : Int)])), H)
        generalize skipG false ((c :: r).drop n) = t at hS hle hi ⊢
        simp only [ansOf, Wd.at] at hX hi ⊢
        have d1 : (n : Int) ≤ (r.length : Int) + 1 := by omega
        simp [b_lex_Words_0, h0, h3, h4, h5, hX, hw, get0, set0, e3, e4, e5, hb, hS, d1]
        refine hi _ _ (by omega) (by omega) (by simp; omega) ?_ ?_ ?_ ?_ ?_ ?_ <;> simp [e3, h0, h3, hK, List.take_append_of_le_length (Nat.le_of_lt hKl)]

theorem Words_eq (s : List UInt8) (hs : s.length ≤ 1000000) (H : Heap) : eval tbl noExt n_lex_Words [.str s] H = some (wordsV (wordsS s), H) := by
  rw [eval_M rfl rfl t_lex_Words rfl]
  unfold wordsS
  by_cases h : 4096 < s.length
  · have h' : (4096 : Int) < s.length := by omega
    rw [if_pos h]
    simp [c_lex_Words, h, h', wordsV]
  · have h' : ¬ (4096 : Int) < s.length := by omega
    rw [if_neg h]
    have hS := skip_eq s hs []
    have hle := skipG_le false s
    simp [c_lex_Words, h, h', hS]
    exact words_loop H s (by omega) (s.length + 1) (skipG false s) [] _ _ (by omega) hle (by simpa using hle) (by simp) (by simp) (by simp) (by simp) (by simp) (by simp)

end Go.AM.Spec

namespace Go.AM.Spec
set_option linter.unusedVariables false
set_option linter.unusedSimpArgs false
set_option maxHeartbeats 1000000
set_option maxRecDepth 10000

def signList : List (List UInt8) := [[123], [125], [40], [41], [59], [44], [58], [43], [45], [60], [61], [61, 61]]

theorem sign_one (c : UInt8) : signList.contains [c] = signsL.contains c := by
  simp [signList, signsL]

theorem wordsG_mono (total : Nat) : ∀ (f g : Nat) (l : List UInt8) (acc : List (List V)), l.length < f → l.length < g → wordsG total f l acc = wordsG total g l acc := by
  intro f
  induction f with
  | zero => intro g l acc h; omega
  | succ f ih =>
    intro g l acc hf hg
    match g, hg with
    | g + 1, hg =>
      match l with
      | [] => rfl
      | c :: r =>
        rw [wordsG, wordsG, if_neg (by simp), if_neg (by simp)]
        cases ho : oneS (c :: r) with
        | inr e => rfl
        | inl p =>
          obtain ⟨w, n⟩ := p
          obtain ⟨n0, n1⟩ := oneS_len c r w n ho
          have hle := skipG_le false ((c :: r).drop n)
          rw [List.length_drop] at hle
          simp only [List.length_cons] at hf hg hle
          exact ih g _ _ (by omega) (by omega)

def WdRow (r : List V) : Prop := ∃ k u n a, r = [iw k, .str u, iw n, iw a]

theorem wordsG_rows (total : Nat) : ∀ (f : Nat) (l : List UInt8) (acc : List (List V)), (∀ r ∈ acc, WdRow r) → ∀ r ∈ (wordsG total f l acc).1, WdRow r := by
  intro f
  induction f with
  | zero => intro l acc h; exact h
  | succ f ih =>
    intro l acc h
    rw [wordsG]
    split
    · intro r hr
      rcases List.mem_append.1 hr with hr | hr
      · exact h r hr
      · rw [List.mem_singleton] at hr; subst hr; exact ⟨_, _, _, _, rfl⟩
    · split
      · intro r hr; cases hr
      · refine ih _ _ (fun r hr => ?_)
        rcases List.mem_append.1 hr with hr | hr
        · exact h r hr
        · rw [List.mem_singleton] at hr; subst hr; exact ⟨_, _, _, _, rfl⟩

theorem wordsG_len (total : Nat) : ∀ (f : Nat) (l : List UInt8) (acc : List (List V)), (wordsG total f l acc).1.length ≤ acc.length + f := by
  intro f
  induction f with
  | zero => intro l acc; exact Nat.le_refl _
  | succ f ih =>
    intro l acc
    rw [wordsG]
    split
    · simp
    · split
      · simp
      · refine Nat.le_trans (ih _ _) ?_
        simp; omega

theorem wordsS_rows (s : List UInt8) : ∀ r ∈ (wordsS s).1, WdRow r := by
  unfold wordsS
  split
  · intro r hr; cases hr
  · exact wordsG_rows _ _ _ _ (fun r hr => by cases hr)
theorem wordsS_len (s : List UInt8) : (wordsS s).1.length ≤ 5000 := by
  unfold wordsS
  split
  · simp
  · have := wordsG_len s.length (s.length + 1) (skipG false s) []
    simp at this
    omega

end Go.AM.Spec

namespace Go.AM.Spec
set_option linter.unusedVariables false
set_option linter.unusedSimpArgs false
set_option maxHeartbeats 1000000
set_option maxRecDepth 10000

/-- How a list of words grows. -/
theorem wordsG_grow (total : Nat) : ∀ (f : Nat) (l : List UInt8) (acc : List (List V)), l.length < f →
    ((wordsG total f l acc).1 = [] ∧ (wordsG total f l acc).2.1 ≠ 0) ∨ (acc.length + 1 ≤ (wordsG total f l acc).1.length ∧ (l ≠ [] → acc.length + 2 ≤ (wordsG total f l acc).1.length)) := by
  intro f
  induction f with
  | zero => intro l acc h; omega
  | succ f ih =>
    intro l acc h
    unfold wordsG
    match l with
    | [] => right; simp
    | c :: r =>
      rw [if_neg (by simp)]
      cases ho : oneS (c :: r) with
      | inr e => left; exact ⟨rfl, oneS_err c r e ho⟩
      | inl p =>
        obtain ⟨w, n⟩ := p
        obtain ⟨n0, n1⟩ := oneS_len c r w n ho
        have hle := skipG_le false ((c :: r).drop n)
        rw [List.length_drop, List.length_cons] at hle
        simp only [List.length_cons] at h
        simp only
        rcases ih (skipG false ((c :: r).drop n)) (acc ++ [w.at ((total - (c :: r).length : Nat) : Int)]) (by omega) with h1 | ⟨h1, _⟩
        · exact .inl h1
        · right
          simp only [List.length_append, List.length_cons, List.length_nil] at h1
          exact ⟨by simp only [List.length_cons] at *; omega, fun _ => by simp only [List.length_cons] at *; omega⟩

/-- Words without a fault. -/
theorem wordsG_ok (total : Nat) : ∀ (f : Nat) (l : List UInt8) (acc : List (List V)), l.length < f → (wordsG total f l acc).1 ≠ [] → (wordsG total f l acc).2.1 = 0 ∧ (wordsG total f l acc).2.2 = 0 := by
  intro f
  induction f with
  | zero => intro l acc h; omega
  | succ f ih =>
    intro l acc h
    unfold wordsG
    match l with
    | [] => simp
    | c :: r =>
      rw [if_neg (by simp)]
      cases ho : oneS (c :: r) with
      | inr e => simp
      | inl p =>
        obtain ⟨w, n⟩ := p
        obtain ⟨n0, n1⟩ := oneS_len c r w n ho
        have hle := skipG_le false ((c :: r).drop n)
        rw [List.length_drop, List.length_cons] at hle
        simp only [List.length_cons] at h
        exact ih _ _ (by omega)

def endRow (t : List UInt8) : List V := [iw 0, .str [], iw 0, iw t.length]

/-- Is a text just this word? -/
theorem one_word (t : List UInt8) (ht : t.length ≤ 4096) (w : Wd) : wordsS t = ([w.at 0, endRow t], 0, 0) ↔ t ≠ [] ∧ skipG false t = t ∧ ∃ m, oneS t = .inl (w, m) ∧ skipG false (t.drop m) = [] := by
  have hle := skipG_le false t
  have hdr := skipG_drop false t
  have ht0 : (∃ c r, skipG false t = c :: r) ∨ skipG false t = [] := by cases skipG false t <;> simp
  unfold wordsS
  rw [if_neg (by omega)]
  unfold wordsG
  constructor
  · intro h
    rcases ht0 with ⟨c, r, e⟩ | e
    · rw [e] at h hle hdr
      rw [if_neg (by simp)] at h
      cases ho : oneS (c :: r) with
      | inr e' => rw [ho] at h; simp at h
      | inl p =>
        obtain ⟨v, n⟩ := p
        obtain ⟨n0, n1⟩ := oneS_len c r v n ho
        rw [ho] at h
        simp only at h
        have hle2 := skipG_le false ((c :: r).drop n)
        rw [List.length_drop, List.length_cons] at hle2
        simp only [List.length_cons] at hle
        have hg := wordsG_grow t.length t.length (skipG false ((c :: r).drop n)) ([] ++ [v.at ((t.length - (c :: r).length : Nat) : Int)]) (by omega)
        rw [h] at hg
        have hnil : skipG false ((c :: r).drop n) = [] := by
          rcases hg with ⟨h1, _⟩ | ⟨_, h1⟩
          · simp at h1
          · by_cases hn : skipG false ((c :: r).drop n) = []
            · exact hn
            · have := h1 hn; simp at this
        obtain ⟨f, hf⟩ : ∃ f, t.length = f + 1 := ⟨t.length - 1, by omega⟩
        rw [hnil] at h
        rw [hf] at h
        unfold wordsG at h
        rw [if_pos rfl, ← hf] at h
        have hrow : v.at ((t.length - (c :: r).length : Nat) : Int) = w.at 0 := by
          have := congrArg (fun x : List (List V) × Int × Int => x.1.head?) h
          simpa using this
        simp only [Wd.at, List.cons.injEq, V.int.injEq, V.str.injEq, true_and, and_true] at hrow
        obtain ⟨h1, h2, h3, h4⟩ := hrow
        have hw : v = w := by
          cases w with
          | mk b1 b2 b3 =>
            cases v with
            | mk a1 a2 a3 =>
              simp only at h1 h2 h3
              rw [h1, h2, h3]
        have hlen : t.length - (c :: r).length = 0 := by omega
        have hall : skipG false t = t := by
          rw [e]
          have : t.drop 0 = t := rfl
          rw [hlen] at hdr
          rw [hdr]; exact this
        rw [e] at hall
        subst hw
        subst hall
        exact ⟨by simp, e, n, ho, hnil⟩
    · rw [e, if_pos rfl] at h
      simp at h
  · rintro ⟨h0, h1, m, h2, h3⟩
    rw [h1, if_neg h0, h2]
    simp only
    obtain ⟨f, hf⟩ : ∃ f, t.length = f + 1 := ⟨t.length - 1, by have := List.length_pos_iff.2 h0; omega⟩
    rw [h3, hf]
    unfold wordsG
    rw [if_pos rfl, ← hf]
    simp [endRow]

/-- What a word is written as. -/
def showS (k : Int) (s : List UInt8) (n : Int) : Option (List UInt8) :=
  if k = 2 then (if s ≠ [] ∨ n < 0 ∨ 1000000000000 < n then none else some (text n))
  else if n ≠ 0 then none
  else if k = 3 ∧ s.length ≤ 64 then some (quo s)
  else if (k = 1 ∧ isName s = true) ∨ (k = 4 ∧ isKey s = true) ∨ (k = 5 ∧ signList.contains s = true) then some s
  else none

/-- The text that the program tries. -/
def tryS (k : Int) (s : List UInt8) (n : Int) : List UInt8 := if k = 2 then text n else if k = 3 then quo s else s

theorem dig_digit (u : Nat) : isDigit (dig u) = true := by
  unfold isDigit dig
  have h : u % 10 < 10 := Nat.mod_lt _ (by omega)
  generalize u % 10 = m at h
  have : ∀ m, m < 10 → (48 ≤ UInt8.ofNat (48 + m) && UInt8.ofNat (48 + m) ≤ 57) = true := by decide
  exact this m h
theorem digs_all : ∀ (k u : Nat) (acc : List UInt8), (∀ c ∈ acc, isDigit c = true) → ∀ c ∈ digs k u acc, isDigit c = true
  | 0, _, acc, h => h
  | k + 1, u, acc, h => by
    unfold digs
    have h' : ∀ c ∈ dig u :: acc, isDigit c = true := by
      intro c hc
      rcases List.mem_cons.1 hc with rfl | hc
      · exact dig_digit u
      · exact h c hc
    split
    · exact h'
    · exact digs_all k (u / 10) (dig u :: acc) h'

theorem tw_all {p : UInt8 → Bool} : ∀ {l : List UInt8}, (∀ c ∈ l, p c = true) → l.takeWhile p = l
  | [], _ => rfl
  | c :: l, h => by simp [h c (by simp), tw_all (l := l) (fun d hd => h d (by simp [hd]))]

theorem digit_facts (c : UInt8) (h : isDigit c = true) : isLetter c = false ∧ isBlank c = false ∧ ¬ c = 35 := by
  have := all_u8 (p := fun c => !(isDigit c) || (!(isLetter c) && !(isBlank c) && !(decide (c = 35)))) (by decide +kernel) c
  simp [h] at this
  exact ⟨this.1.1, this.1.2, this.2⟩

theorem skip_id (c : UInt8) (l : List UInt8) (h1 : isBlank c = false) (h2 : ¬ c = 35) : skipG false (c :: l) = c :: l := by
  rw [skip_dw]
  simp [h1, hashG, h2]

theorem oneS_number (n : Int) (h0 : 0 ≤ n) (h2 : n ≤ 9223372036854775807) : skipG false (text n) = text n ∧ text n ≠ [] ∧ oneS (text n) = if n ≤ 1000000000000 then .inl (⟨2, [], n⟩, (text n).length) else .inr 12 := by
  have hr := read_text n (by omega) h2
  have ha : ∀ c ∈ text n, isDigit c = true := by
    unfold text
    rw [if_neg (by omega)]
    exact digs_all 19 _ [] (by simp)
  have hp : (text n).length > 0 := by
    unfold text
    rw [if_neg (by omega)]
    exact digs_pos 18 _ []
  generalize text n = t at hr ha hp ⊢
  match t with
  | c :: r =>
    have hc := ha c (by simp)
    obtain ⟨f1, f2, f3⟩ := digit_facts c hc
    refine ⟨skip_id c r f2 f3, by simp, ?_⟩
    rw [oneS_cons, f1, hc]
    simp only [Bool.false_eq_true, if_false, if_true, numberP]
    rw [tw_all ha, hr]
    by_cases hn : n ≤ 1000000000000
    · simp [h0, hn]
    · simp [hn]

theorem oneS_minus (n : Int) (h0 : n < 0) : oneS (text n) = .inl (⟨5, [45], 0⟩, 1) := by
  unfold text
  rw [if_pos h0]
  rfl

theorem sign_no34 (c : UInt8) : (signC c).all (fun d => !(decide (d = 34))) = true := all_u8 (p := fun c => (signC c).all (fun d => !(decide (d = 34)))) (by decide +kernel) c
theorem sign_head (c : UInt8) : (match signC c with | [d] => decide (d = c) && plainC c && !(decide (c = 92)) | [d, a, b] => decide (d = 92) && decide (pairC a b = some c) | _ => false) = true :=
  all_u8 (p := fun c => match signC c with | [d] => decide (d = c) && plainC c && !(decide (c = 92)) | [d, a, b] => decide (d = 92) && decide (pairC a b = some c) | _ => false) (by decide +kernel) c

theorem quoteEnd_app : ∀ (l r : List UInt8), l.all (fun d => !(decide (d = 34))) = true → quoteEnd (l ++ 34 :: r) = some l.length
  | [], r, _ => by simp [quoteEnd]
  | c :: l, r, h => by
    simp only [List.all_cons, Bool.and_eq_true, Bool.not_eq_true', decide_eq_false_iff_not] at h
    rw [List.cons_append, quoteEnd, if_neg h.1, quoteEnd_app l r h.2]
    simp

theorem flat_no34 : ∀ s : List UInt8, (s.flatMap signC).all (fun d => !(decide (d = 34))) = true
  | [] => rfl
  | c :: l => by rw [List.flatMap_cons, List.all_append, sign_no34, flat_no34 l]; rfl

theorem unqL_flat : ∀ s : List UInt8, unqL (s.flatMap signC) = some s
  | [] => by simp [unqL]
  | c :: l => by
    have ih := unqL_flat l
    have hh := sign_head c
    rw [List.flatMap_cons]
    match hs : signC c, hh with
    | [d], hh =>
      simp only [Bool.and_eq_true, decide_eq_true_eq, Bool.not_eq_true', decide_eq_false_iff_not] at hh
      obtain ⟨⟨rfl, h1⟩, h2⟩ := hh
      rw [List.singleton_append, unqL.eq_def]
      simp only [h2, if_false, h1, if_true, ih, Option.map_some]
    | [d, a, b], hh =>
      simp only [Bool.and_eq_true, decide_eq_true_eq] at hh
      obtain ⟨rfl, h1⟩ := hh
      simp only [List.cons_append, List.nil_append]
      rw [unqL.eq_def]
      simp only [if_true, h1, ih, Option.map_some]

theorem unq_quo (s : List UInt8) : unq (quo s) = some s := by
  unfold quo unq
  simp [unqL_flat]

theorem quo_len (s : List UInt8) : (quo s).length ≤ 3 * s.length + 2 := by
  have : ∀ l : List UInt8, (l.flatMap signC).length ≤ 3 * l.length := by
    intro l
    induction l with
    | nil => simp
    | cons c l ih =>
      rw [List.flatMap_cons, List.length_append, List.length_cons]
      have : (signC c).length ≤ 3 := by unfold signC; split <;> simp
      omega
  have := this s
  unfold quo
  rw [List.length_cons, List.length_append, List.length_cons, List.length_nil]
  omega

theorem oneS_quo (s : List UInt8) : skipG false (quo s) = quo s ∧ quo s ≠ [] ∧ oneS (quo s) = if 64 < s.length then .inr 14 else .inl (⟨3, s, 0⟩, (quo s).length) := by
  have hu := unq_quo s
  have hq := quoteEnd_app (s.flatMap signC) [] (flat_no34 s)
  unfold quo at hu ⊢
  refine ⟨skip_id 34 _ (by decide) (by decide), by simp, ?_⟩
  rw [oneS_cons]
  have e1 : isLetter 34 = false := by decide
  have e2 : isDigit 34 = false := by decide
  rw [e1, e2]
  simp only [Bool.false_eq_true, if_false, if_true]
  unfold textP
  rw [hq]
  have ht : (s.flatMap signC ++ [34]).take (s.flatMap signC).length = s.flatMap signC := by simp
  simp only [ht, hu]
  by_cases h : 64 < s.length
  · simp [h]
  · simp [h]

theorem key_shape : ∀ w ∈ keyWords, ((match w with | c :: _ => isLetter c | [] => false) && w.all isInner) = true := by decide +kernel

theorem letter_facts (c : UInt8) (h : isLetter c = true) : isBlank c = false ∧ ¬ c = 35 := by
  have := all_u8 (p := fun c => !(isLetter c) || (!(isBlank c) && !(decide (c = 35)))) (by decide +kernel) c
  simp [h] at this
  exact this

theorem sign_shape : ∀ w ∈ signList, w ≠ [] ∧ skipG false w = w ∧ oneS w = .inl (⟨5, w, 0⟩, w.length) := by decide +kernel

theorem all_tw {p : UInt8 → Bool} {l : List UInt8} (h : l.all p = true) : l.takeWhile p = l := tw_all (fun c hc => List.all_eq_true.1 h c hc)

/-- A text that is a word of its own. -/
theorem oneS_self (k : Int) (s : List UInt8) (n : Int) (h2 : k ≠ 2) (h3 : k ≠ 3) :
    (s ≠ [] ∧ skipG false s = s ∧ ∃ m, oneS s = .inl (⟨k, s, n⟩, m) ∧ skipG false (s.drop m) = []) ↔ n = 0 ∧ ((k = 1 ∧ isName s = true) ∨ (k = 4 ∧ isKey s = true) ∨ (k = 5 ∧ signList.contains s = true)) := by
  constructor
  · rintro ⟨h0, h1, m, h4, h5⟩
    match s, h0 with
    | c :: r, _ =>
      rw [oneS_cons] at h4
      split at h4
      · unfold wordP at h4
        generalize (c :: r).takeWhile isInner = w at h4
        simp only at h4
        split at h4
        · rename_i hk
          simp only [Sum.inl.injEq, Prod.mk.injEq, Wd.mk.injEq] at h4
          obtain ⟨⟨rfl, rfl, rfl⟩, _⟩ := h4
          exact ⟨rfl, .inr (.inl ⟨rfl, hk⟩)⟩
        · split at h4
          · rename_i hk
            simp only [Sum.inl.injEq, Prod.mk.injEq, Wd.mk.injEq] at h4
            obtain ⟨⟨rfl, rfl, rfl⟩, _⟩ := h4
            exact ⟨rfl, .inl ⟨rfl, hk⟩⟩
          · cases h4
      · split at h4
        · unfold numberP at h4
          simp only at h4
          split at h4
          · simp only [Sum.inl.injEq, Prod.mk.injEq, Wd.mk.injEq] at h4
            exact absurd h4.1.1.symm h2
          · cases h4
        · split at h4
          · unfold textP at h4
            split at h4
            · cases h4
            · split at h4
              · cases h4
              · split at h4
                · cases h4
                · simp only [Sum.inl.injEq, Prod.mk.injEq, Wd.mk.injEq] at h4
                  exact absurd h4.1.1.symm h3
          · unfold signP at h4
            split at h4
            · rename_i hh
              simp only [Sum.inl.injEq, Prod.mk.injEq, Wd.mk.injEq] at h4
              obtain ⟨⟨rfl, e, rfl⟩, _⟩ := h4
              refine ⟨rfl, .inr (.inr ⟨rfl, ?_⟩)⟩
              rw [← e]; decide
            · split at h4
              · rename_i hh
                simp only [Sum.inl.injEq, Prod.mk.injEq, Wd.mk.injEq] at h4
                obtain ⟨⟨rfl, e, rfl⟩, _⟩ := h4
                refine ⟨rfl, .inr (.inr ⟨rfl, ?_⟩)⟩
                rw [← e, sign_one]; exact hh
              · cases h4
  · rintro ⟨rfl, ⟨rfl, h⟩ | ⟨rfl, h⟩ | ⟨rfl, h⟩⟩
    · unfold isName at h
      simp only [Bool.and_eq_true, Bool.not_eq_true'] at h
      obtain ⟨⟨⟨q1, q2⟩, q3⟩, q4⟩ := h
      match s, q1 with
      | c :: r, q1 =>
        simp only at q1
        obtain ⟨f1, f2⟩ := letter_facts c q1
        refine ⟨by simp, skip_id c r f1 f2, (c :: r).length, ?_, by simp [skipG]⟩
        rw [oneS_cons, q1]
        simp only [if_true, wordP, all_tw q3, q4]
        have : isName (c :: r) = true := by unfold isName; simp only [q1, q2, q3, q4]; rfl
        simp [this]
    · have hm : s ∈ keyWords := by simpa [isKey] using h
      have hs := key_shape s hm
      simp only [Bool.and_eq_true] at hs
      match s, hs with
      | c :: r, hs =>
        obtain ⟨q1, q3⟩ := hs
        simp only at q1
        obtain ⟨f1, f2⟩ := letter_facts c q1
        refine ⟨by simp, skip_id c r f1 f2, (c :: r).length, ?_, by simp [skipG]⟩
        rw [oneS_cons, q1]
        simp only [if_true, wordP, all_tw q3, h]
    · have hm : s ∈ signList := by simpa using h
      obtain ⟨q1, q2, q3⟩ := sign_shape s hm
      exact ⟨q1, q2, s.length, q3, by simp [skipG]⟩

theorem show_iff (k n : Int) (s : List UInt8) (hs : s.length ≤ 500) (h1 : -9223372036854775808 ≤ n) (h2 : n ≤ 9223372036854775807) :
    (wordsS (tryS k s n) = ([[iw k, .str s, iw n, iw 0], endRow (tryS k s n)], 0, 0) ↔ showS k s n = some (tryS k s n)) ∧ (showS k s n = none ∨ showS k s n = some (tryS k s n)) := by
  have ow := fun t (ht : t.length ≤ 4096) => one_word t ht ⟨k, s, n⟩
  simp only [Wd.at] at ow
  unfold tryS showS
  by_cases hk : k = 2
  · subst hk
    simp only [if_true]
    rw [ow _ (by have := text_length n; omega)]
    by_cases hn : n < 0
    · have hm := oneS_minus n hn
      simp only [hn, true_or, or_true, if_true, true_or, and_true]
      refine ⟨fun ⟨_, _, m, h, _⟩ => ?_, fun h => by cases h⟩
      rw [hm] at h
      simp at h
    · obtain ⟨q1, q2, q3⟩ := oneS_number n (by omega) h2
      by_cases hb : n ≤ 1000000000000
      · rw [if_pos hb] at q3
        by_cases hs0 : s = []
        · subst hs0
          have : ¬ 1000000000000 < n := by omega
          simp only [hn, this, ne_eq, not_true_eq_false, or_false, if_false, or_true, and_true, iff_true]
          exact ⟨q2, q1, _, q3, by simp [skipG]⟩
        · simp only [ne_eq, hs0, not_false_eq_true, true_or, if_true, and_true]
          refine ⟨fun ⟨_, _, m, h, _⟩ => ?_, fun h => by cases h⟩
          rw [q3] at h
          simp at h
          exact absurd (by first | exact h.1 | exact h.1.symm) hs0
      · have : 1000000000000 < n := by omega
        rw [if_neg hb] at q3
        simp only [this, or_true, if_true, true_or, and_true]
        refine ⟨fun ⟨_, _, m, h, _⟩ => ?_, fun h => by cases h⟩
        rw [q3] at h
        cases h
  · rw [if_neg hk, if_neg hk]
    by_cases hk3 : k = 3
    · subst hk3
      obtain ⟨q1, q2, q3⟩ := oneS_quo s
      have hql : (quo s).length ≤ 4096 := by have := quo_len s; omega
      simp only [if_true, true_and]
      rw [ow _ hql]
      by_cases hn : n = 0
      · subst hn
        simp only [ne_eq, not_true_eq_false, if_false]
        by_cases hl : s.length ≤ 64
        · rw [if_neg (by omega)] at q3
          simp only [hl, if_true, or_true, and_true, iff_true]
          exact ⟨q2, q1, _, q3, by simp [skipG]⟩
        · rw [if_pos (by omega)] at q3
          simp only [hl, if_false]
          refine ⟨⟨fun ⟨_, _, m, h, _⟩ => ?_, fun h => ?_⟩, .inl (by simp)⟩
          · rw [q3] at h; cases h
          · simp at h
      · simp only [ne_eq, hn, not_false_eq_true, if_true, true_or, and_true]
        refine ⟨fun ⟨_, _, m, h, _⟩ => ?_, fun h => by cases h⟩
        rw [q3] at h
        split at h
        · cases h
        · simp at h; exact absurd h.1.symm hn
    · rw [if_neg hk3]
      rw [ow _ (by omega), oneS_self k s n hk hk3]
      simp only [hk3, false_and, if_false]
      by_cases hn : n = 0
      · subst hn
        simp only [ne_eq, not_true_eq_false, if_false, true_and]
        by_cases hc : (k = 1 ∧ isName s = true) ∨ (k = 4 ∧ isKey s = true) ∨ (k = 5 ∧ signList.contains s = true)
        · rw [if_pos hc]; exact ⟨⟨fun _ => rfl, fun _ => hc⟩, .inr rfl⟩
        · rw [if_neg hc]; exact ⟨⟨fun h => absurd h hc, fun h => by cases h⟩, .inl rfl⟩
      · simp [hn]

end Go.AM.Spec

namespace Go.AM.Spec
set_option linter.unusedVariables false
set_option linter.unusedSimpArgs false
set_option maxHeartbeats 2000000
set_option maxRecDepth 10000

theorem eqWd (a b c d a' b' c' d') : eqCells [.int .i64, .str, .int .i64, .int .i64] [iw a, .str b, iw c, iw d] [iw a', .str b', iw c', iw d'] = some (decide (a = a' ∧ b = b' ∧ c = c' ∧ d = d')) := by
  simp [eqCells]

theorem eqFault (a b a' b' : Int) : eqCells [.int .i64, .int .i64] [iw a, iw b] [iw a', iw b'] = some (decide (a = a' ∧ b = b')) := by
  simp [eqCells]

/-- Two words, held against a list. -/
theorem Equal2 (A : List (List V)) (hl : A.length ≤ 5000) (hA : ∀ r ∈ A, WdRow r) (k n : Int) (s : List UInt8) (t : Int) (H : Heap) :
    ∃ b, eval tbl noExt n_slices_Equal_api_Word_api_Word [.sl 4 A, .sl 4 [[iw k, .str s, iw n, iw 0], [iw 0, .str [], iw 0, iw t]]] H = some (.bool b, H) ∧ (b = true ↔ A = [[iw k, .str s, iw n, iw 0], [iw 0, .str [], iw 0, iw t]]) := by
  rw [eval_M rfl rfl t_slices_Equal_api_Word_api_Word rfl]
  match A, hl, hA with
  | [], _, _ => exact ⟨false, by simp [c_slices_Equal_api_Word_api_Word], by simp⟩
  | [x], _, _ => exact ⟨false, by simp [c_slices_Equal_api_Word_api_Word], by simp⟩
  | x :: y :: z :: l, hl, _ =>
    refine ⟨false, ?_, by simp⟩
    have : ¬ ((l.length : Int) + 1 + 1 + 1 = 2) := by omega
    simp [c_slices_Equal_api_Word_api_Word, this]
  | [x, y], _, hA =>
    obtain ⟨k1, u1, n1, a1, rfl⟩ := hA x (by simp)
    obtain ⟨k2, u2, n2, a2, rfl⟩ := hA y (by simp)
    have e1 := eqWd k1 u1 n1 a1 k s n 0
    have e2 := eqWd k2 u2 n2 a2 0 [] 0 t
    have w1 : IntKind.i64.wrap 1 = 1 := by decide
    have w2 : IntKind.i64.wrap 2 = 2 := by decide
    by_cases h1 : k1 = k ∧ u1 = s ∧ n1 = n ∧ a1 = 0
    · by_cases h2 : k2 = 0 ∧ u2 = [] ∧ n2 = 0 ∧ a2 = t
      · refine ⟨true, ?_, ?_⟩
        · rw [decide_eq_true h1] at e1
          rw [decide_eq_true h2] at e2
          simp [c_slices_Equal_api_Word_api_Word]
          rw [l_slices_Equal_api_Word_api_Word_0, M_loop, ← l_slices_Equal_api_Word_api_Word_0]
          simp [b_slices_Equal_api_Word_api_Word_0, e1, w1]
          rw [l_slices_Equal_api_Word_api_Word_0, M_loop, ← l_slices_Equal_api_Word_api_Word_0]
          simp [b_slices_Equal_api_Word_api_Word_0, e2, w2]
          rw [l_slices_Equal_api_Word_api_Word_0, M_loop, ← l_slices_Equal_api_Word_api_Word_0]
          simp [b_slices_Equal_api_Word_api_Word_0, r_slices_Equal_api_Word_api_Word_0]
        · obtain ⟨rfl, rfl, rfl, rfl⟩ := h1
          obtain ⟨rfl, rfl, rfl, rfl⟩ := h2
          simp
      · refine ⟨false, ?_, ?_⟩
        · rw [decide_eq_true h1] at e1
          rw [decide_eq_false h2] at e2
          simp [c_slices_Equal_api_Word_api_Word]
          rw [l_slices_Equal_api_Word_api_Word_0, M_loop, ← l_slices_Equal_api_Word_api_Word_0]
          simp [b_slices_Equal_api_Word_api_Word_0, e1, w1]
          rw [l_slices_Equal_api_Word_api_Word_0, M_loop, ← l_slices_Equal_api_Word_api_Word_0]
          simp [b_slices_Equal_api_Word_api_Word_0, e2, w2]
        · simp only [Bool.false_eq_true, false_iff]
          intro h
          simp at h
          exact h2 h.2
    · refine ⟨false, ?_, ?_⟩
      · rw [decide_eq_false h1] at e1
        simp [c_slices_Equal_api_Word_api_Word]
        rw [l_slices_Equal_api_Word_api_Word_0, M_loop, ← l_slices_Equal_api_Word_api_Word_0]
        simp [b_slices_Equal_api_Word_api_Word_0, e1, w1]
      · simp only [Bool.false_eq_true, false_iff]
        intro h
        simp at h
        exact h1 h.1

def showV : Option (List UInt8) → V
  | some t => .tup [.str t, .bool true]
  | none => .tup [.str [], .bool false]

theorem Show_eq (k n a : Int) (s : List UInt8) (hs : s.length ≤ 500) (h1 : -9223372036854775808 ≤ n) (h2 : n ≤ 9223372036854775807) : eval tbl noExt n_lex_Show [.agg [iw k, .str s, iw n, iw a]] [] = some (showV (showS k s n), []) := by
  have hD := fun H => digits_eq H n h1 h2
  have hQ := fun H => Quote_eq s (by omega) H
  obtain ⟨hi, hor⟩ := show_iff k n s hs h1 h2
  have hlen : (tryS k s n).length ≤ 100000 := by
    unfold tryS
    split
    · have := text_length n; omega
    · split
      · have := quo_len s; omega
      · omega
  have hW := fun H => Words_eq (tryS k s n) (by omega) H
  obtain ⟨b, hE, hb⟩ := Equal2 (wordsS (tryS k s n)).1 (wordsS_len _) (wordsS_rows _) k n s (tryS k s n).length []
  have hf : (wordsS (tryS k s n)).2.1 ≠ 0 → (wordsS (tryS k s n)).1 = [] := by
    unfold wordsS
    split
    · intro _; rfl
    · intro h
      rcases wordsG_grow (tryS k s n).length ((tryS k s n).length + 1) (skipG false (tryS k s n)) [] (by have := skipG_le false (tryS k s n); omega) with h3 | h3
      · exact h3.1
      · exfalso
        exact h (wordsG_ok _ _ _ _ (by have := skipG_le false (tryS k s n); omega) (by intro e; rw [e] at h3; simp at h3)).1
  have hf2 : (wordsS (tryS k s n)).1 ≠ [] → (wordsS (tryS k s n)).2 = (0, 0) := by
    unfold wordsS
    split
    · intro h; exact absurd rfl h
    · intro h
      exact Prod.ext (wordsG_ok _ _ _ _ (by have := skipG_le false (tryS k s n); omega) h).1 (wordsG_ok _ _ _ _ (by have := skipG_le false (tryS k s n); omega) h).2
  obtain ⟨A, e, at_, hA⟩ : ∃ A e at_, wordsS (tryS k s n) = (A, e, at_) := ⟨_, _, _, rfl⟩
  rw [hA] at hf hf2 hE hb hi
  simp only [hA, wordsV] at hW
  simp only at hf hf2 hE hb
  have key : eval tbl noExt n_lex_Show [.agg [iw k, .str s, iw n, iw a]] [] = some (if (e = 0 ∧ at_ = 0) ∧ b = true then .tup [.str (tryS k s n), .bool true] else .tup [.str [], .bool false], []) := by
    rw [eval_M rfl rfl t_lex_Show rfl]
    have hE' : ∀ x, b = x → eval tbl noExt n_slices_Equal_api_Word_api_Word [.sl 4 A, .sl 4 [[iw k, .str s, iw n, iw 0], [iw 0, .str [], iw 0, iw (tryS k s n).length]]] [] = some (.bool x, []) := fun x hx => hx ▸ hE
    have hfc := eqFault e at_ 0 0
    by_cases hk : k = 2
    · subst hk
      have ht : tryS 2 s n = text n := rfl
      rw [ht] at hW hE' hlen ⊢
      by_cases h0 : e = 0 ∧ at_ = 0
      · rw [decide_eq_true h0] at hfc
        obtain ⟨rfl, rfl⟩ := h0
        cases hbb : b with
        | true =>
          have hEE := hE' true hbb
          simp [c_lex_Show, hD, hW, hfc, hEE, get0, set0, get1, set1]
        | false =>
          have hEE := hE' false hbb
          simp [c_lex_Show, hD, hW, hfc, hEE, get0, set0, get1, set1]
      · rw [decide_eq_false h0] at hfc
        have h0' : e = 0 → ¬ at_ = 0 := fun h1 h2 => h0 ⟨h1, h2⟩
        simp [c_lex_Show, hD, hW, hfc, h0', get0, set0, get1, set1]
        exact fun h1 h2 => absurd h2 (h0' h1)
    · by_cases hk3 : k = 3
      · subst hk3
        have ht : tryS 3 s n = quo s := rfl
        rw [ht] at hW hE' hlen ⊢
        by_cases h0 : e = 0 ∧ at_ = 0
        · rw [decide_eq_true h0] at hfc
          obtain ⟨rfl, rfl⟩ := h0
          cases hbb : b with
          | true =>
            have hEE := hE' true hbb
            simp [c_lex_Show, hQ, hW, hfc, hEE, get0, set0, get1, set1]
          | false =>
            have hEE := hE' false hbb
            simp [c_lex_Show, hQ, hW, hfc, hEE, get0, set0, get1, set1]
        · rw [decide_eq_false h0] at hfc
          have h0' : e = 0 → ¬ at_ = 0 := fun h1 h2 => h0 ⟨h1, h2⟩
          simp [c_lex_Show, hQ, hW, hfc, h0', get0, set0, get1, set1]
          exact fun h1 h2 => absurd h2 (h0' h1)
      · have ht : tryS k s n = s := by simp [tryS, hk, hk3]
        rw [ht] at hW hE' hlen ⊢
        by_cases h0 : e = 0 ∧ at_ = 0
        · rw [decide_eq_true h0] at hfc
          obtain ⟨rfl, rfl⟩ := h0
          cases hbb : b with
          | true =>
            have hEE := hE' true hbb
            simp [c_lex_Show, hk, hk3, hW, hfc, hEE, get0, set0, get1, set1]
          | false =>
            have hEE := hE' false hbb
            simp [c_lex_Show, hk, hk3, hW, hfc, hEE, get0, set0, get1, set1]
        · rw [decide_eq_false h0] at hfc
          have h0' : e = 0 → ¬ at_ = 0 := fun h1 h2 => h0 ⟨h1, h2⟩
          simp [c_lex_Show, hk, hk3, hW, hfc, h0', get0, set0, get1, set1]
          exact fun h1 h2 => absurd h2 (h0' h1)
  rw [key]
  by_cases hAe : A = [[iw k, .str s, iw n, iw 0], [iw 0, .str [], iw 0, iw (tryS k s n).length]]
  · have h3 := hf2 (by rw [hAe]; simp)
    simp only [Prod.mk.injEq] at h3
    obtain ⟨rfl, rfl⟩ := h3
    rw [if_pos ⟨⟨rfl, rfl⟩, hb.2 hAe⟩, hi.1 (by rw [hAe]; rfl)]
    rfl
  · rw [if_neg (fun h => hAe (hb.1 h.2))]
    rcases hor with h | h
    · rw [h]; rfl
    · exfalso
      have := hi.2 h
      simp only [Prod.mk.injEq] at this
      exact hAe this.1

theorem fit_i64 {n : Int} (h : Fit n) : -9223372036854775808 ≤ n ∧ n ≤ 9223372036854775807 := by
  have h' : (Lit.int .i64 n).wf = true := h
  simp [Lit.wf] at h'
  have hm : IntKind.i64.min = -9223372036854775808 := by decide
  rw [hm] at h'
  omega

end Go.AM.Spec

namespace Go.AM.Spec
set_option linter.unusedVariables false
set_option linter.unusedSimpArgs false
set_option maxHeartbeats 2000000
set_option maxRecDepth 10000

theorem tw_stop {p : UInt8 → Bool} {l : List UInt8} (h : l.all p = true) (c : UInt8) (hc : p c = false) (r : List UInt8) : (l ++ c :: r).takeWhile p = l := by
  induction l with
  | nil => simp [hc]
  | cons d l ih =>
    simp only [List.all_cons, Bool.and_eq_true] at h
    simp [h.1, ih h.2]

theorem sign_facts (c : UInt8) (h : signsL.contains c = true) : isLetter c = false ∧ Go.AM.isDigit c = false ∧ ¬ c = 34 ∧ isBlank c = false ∧ ¬ c = 35 := by
  have := all_u8 (p := fun c => !(signsL.contains c) || (!(isLetter c) && !(Go.AM.isDigit c) && !(decide (c = 34)) && !(isBlank c) && !(decide (c = 35)))) (by decide +kernel) c
  simp only [h, Bool.not_true, Bool.false_or, Bool.and_eq_true, Bool.not_eq_true', decide_eq_false_iff_not] at this
  exact ⟨this.1.1.1.1, this.1.1.1.2, this.1.1.2, this.1.2, this.2⟩

/-- A word's text, with a blank behind it, is read as this word. -/
theorem shown {k n : Int} {s t : List UInt8} (hs : s.length ≤ 500) (h1 : -9223372036854775808 ≤ n) (h2 : n ≤ 9223372036854775807) (h : showS k s n = some t) :
    t ≠ [] ∧ (∀ r, skipG false (t ++ r) = t ++ r) ∧ ∀ r, oneS (t ++ 32 :: r) = .inl (⟨k, s, n⟩, t.length) := by
  unfold showS at h
  split at h
  · rename_i hk
    subst hk
    split at h
    · cases h
    · rename_i hc
      simp only [not_or, ne_eq, Decidable.not_not, Int.not_lt] at hc
      obtain ⟨rfl, h0, h9⟩ := hc
      cases h
      have ha : ∀ c ∈ text n, Go.AM.isDigit c = true := by
        unfold text
        rw [if_neg (by omega)]
        exact digs_all 19 _ [] (by simp)
      have hp : (text n).length > 0 := by
        unfold text
        rw [if_neg (by omega)]
        exact digs_pos 18 _ []
      have hr := read_text n h1 h2
      rw [if_pos ⟨h0, h9⟩] at hr
      generalize text n = t at *
      match t with
      | c :: q =>
        have hc := ha c (by simp)
        obtain ⟨f1, f2, f3⟩ := digit_facts c hc
        refine ⟨by simp, fun r => skip_id c _ f2 f3, fun r => ?_⟩
        rw [List.cons_append, oneS_cons, f1, hc]
        simp only [Bool.false_eq_true, if_false, if_true, numberP]
        have := tw_stop (p := Go.AM.isDigit) (l := c :: q) (List.all_eq_true.2 ha) 32 (by decide) r
        rw [List.cons_append] at this
        rw [this, hr]
        rfl
  · split at h
    · cases h
    · rename_i hn
      have hn : n = 0 := by simpa using hn
      subst hn
      split at h
      · rename_i hh
        obtain ⟨rfl, hl⟩ := hh
        cases h
        have hu := unq_quo s
        have hq : ∀ r, quoteEnd (s.flatMap signC ++ [34] ++ 32 :: r) = some (s.flatMap signC).length := fun r => by
          have := quoteEnd_app (s.flatMap signC) (32 :: r) (flat_no34 s)
          rw [List.append_assoc]
          exact this
        unfold quo at hu ⊢
        refine ⟨by simp, fun r => skip_id 34 _ (by decide) (by decide), fun r => ?_⟩
        rw [List.cons_append, oneS_cons]
        have e1 : isLetter 34 = false := by decide
        have e2 : Go.AM.isDigit 34 = false := by decide
        rw [e1, e2]
        simp only [Bool.false_eq_true, if_false, if_true]
        unfold textP
        rw [hq]
        have ht : (s.flatMap signC ++ [34] ++ 32 :: r).take (s.flatMap signC).length = s.flatMap signC := by
          rw [List.append_assoc, List.take_left]
        simp only [ht, hu]
        rw [if_neg (by omega)]
        simp
      · split at h
        · rename_i hh
          cases h
          rcases hh with ⟨rfl, hh⟩ | ⟨rfl, hh⟩ | ⟨rfl, hh⟩
          · have hnm := hh
            unfold isName at hh
            simp only [Bool.and_eq_true, Bool.not_eq_true'] at hh
            obtain ⟨⟨⟨q1, q2⟩, q3⟩, q4⟩ := hh
            match s, q1 with
            | c :: q, q1 =>
              simp only at q1
              obtain ⟨f1, f2⟩ := letter_facts c q1
              refine ⟨by simp, fun r => skip_id c _ f1 f2, fun r => ?_⟩
              rw [List.cons_append, oneS_cons, q1]
              have := tw_stop (p := isInner) (l := c :: q) q3 32 (by decide) r
              rw [List.cons_append] at this
              simp only [if_true, wordP, this, q4, hnm]
              simp
          · have hm : s ∈ keyWords := by simpa [isKey] using hh
            have hs := key_shape s hm
            simp only [Bool.and_eq_true] at hs
            match s, hs with
            | c :: q, hs =>
              obtain ⟨q1, q3⟩ := hs
              simp only at q1
              obtain ⟨f1, f2⟩ := letter_facts c q1
              refine ⟨by simp, fun r => skip_id c _ f1 f2, fun r => ?_⟩
              rw [List.cons_append, oneS_cons, q1]
              have := tw_stop (p := isInner) (l := c :: q) q3 32 (by decide) r
              rw [List.cons_append] at this
              simp only [if_true, wordP, this, hh]
          · by_cases h61 : s = [61, 61]
            · subst h61
              exact ⟨by simp, fun r => skip_id 61 _ (by decide) (by decide), fun r => rfl⟩
            · have hm : ∃ c, s = [c] ∧ signsL.contains c = true := by
                have hall : ∀ w ∈ signList, w = [61, 61] ∨ (match w with | [c] => signsL.contains c | _ => false) = true := by decide +kernel
                rcases hall s (by simpa using hh) with e | e
                · exact absurd e h61
                · match s, e with
                  | [c], e => exact ⟨c, rfl, e⟩
              obtain ⟨c, rfl, hc⟩ := hm
              obtain ⟨f1, f2, f3, f4, f5⟩ := sign_facts c hc
              refine ⟨by simp, fun r => skip_id c _ f4 f5, fun r => ?_⟩
              rw [List.singleton_append, oneS_cons, f1, f2]
              simp only [Bool.false_eq_true, if_false, f3]
              unfold signP
              rw [if_neg (by simp), hc]
              simp
        · cases h

/-- What was written so far. -/
def Inv (cur : List UInt8) (acc : List (List V)) : Prop := ∀ X : List UInt8, cur.length + X.length ≤ 4096 → wordsS (cur ++ X) = wordsG (cur.length + X.length) (cur.length + X.length + 1) (skipG false X) acc

theorem skip_note : ∀ (note X : List UInt8), 10 ∉ note → skipG true (note ++ 10 :: X) = skipG false X
  | [], X, _ => by simp [skipG]
  | c :: l, X, h => by
    have hc : ¬ c = 10 := fun e => h (by simp [e])
    rw [List.cons_append, skipG, if_neg hc]
    exact skip_note l X (fun e => h (by simp [e]))
theorem skip_blank (c : UInt8) (h : isBlank c = true) (X : List UInt8) : skipG false (c :: X) = skipG false X := by
  rw [skip_dw, skip_dw]
  simp [h]
theorem skip_hash (X : List UInt8) : skipG false (35 :: X) = skipG true X := by
  rw [skip_dw]
  have : isBlank 35 = false := by decide
  simp [this, hashG]

theorem inv_step {cur t s : List UInt8} {acc : List (List V)} {k n : Int} (hi : Inv cur acc) (hs : s.length ≤ 500) (h1 : -9223372036854775808 ≤ n) (h2 : n ≤ 9223372036854775807) (h : showS k s n = some t) :
    Inv (cur ++ t ++ [32]) (acc ++ [[iw k, .str s, iw n, iw cur.length]]) := by
  obtain ⟨q0, q1, q2⟩ := shown hs h1 h2 h
  intro X hX
  simp only [List.length_append, List.length_cons, List.length_nil] at hX
  have e : cur ++ t ++ [32] ++ X = cur ++ (t ++ 32 :: X) := by simp
  have hlen : (t ++ 32 :: X).length = t.length + 1 + X.length := by simp; omega
  rw [e, hi (t ++ 32 :: X) (by omega), q1]
  have ht : (cur ++ t ++ [32]).length + X.length = cur.length + (t ++ 32 :: X).length := by rw [hlen]; simp; omega
  rw [ht]
  have htot : cur.length + (t ++ 32 :: X).length = (cur.length + t.length + X.length) + 1 := by omega
  conv => lhs; rw [wordsG.eq_def]
  simp only
  rw [if_neg (by simp), q2]
  simp only
  have hd : (t ++ 32 :: X).drop t.length = 32 :: X := by simp
  rw [hd, skip_blank 32 (by decide)]
  have hat : (cur.length + (t ++ 32 :: X).length - (t ++ 32 :: X).length : Nat) = cur.length := by omega
  rw [hat]
  have hle := skipG_le false X
  simp only [Wd.at]
  exact wordsG_mono _ _ _ _ _ (by omega) (by omega)

end Go.AM.Spec
