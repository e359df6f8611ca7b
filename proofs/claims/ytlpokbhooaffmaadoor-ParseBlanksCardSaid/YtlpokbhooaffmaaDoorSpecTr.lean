/-
  The parts of this proof that speak of the functions one by one.
-/
import Derived.Test.YtlpokbhooaffmaaDoorSpc
import Derived.Lib.IndexLaws
namespace Go.AM.Spec
set_option linter.unusedVariables false
set_option linter.unusedSimpArgs false
set_option maxHeartbeats 1000000
set_option maxRecDepth 10000

def keyText : List UInt8 := [32, 112, 114, 111, 99, 32, 109, 97, 105, 110, 32, 114, 101, 99, 111, 118, 101, 114, 32, 111, 114, 97, 99, 108, 101, 32, 99, 114, 101, 97, 116, 101, 32, 109, 107, 100, 105, 114, 32, 119, 114, 105, 116, 101, 32, 97, 112, 112, 101, 110, 100, 32, 116, 114, 117, 110, 99, 97, 116, 101, 32, 114, 101, 110, 97, 109, 101, 32, 117, 110, 108, 105, 110, 107, 32, 102, 115, 121, 110, 99, 32, 102, 100, 97, 116, 97, 115, 121, 110, 99, 32, 115, 121, 110, 99, 100, 105, 114, 32, 98, 97, 114, 114, 105, 101, 114, 32, 108, 101, 116, 32, 105, 102, 32, 101, 108, 115, 101, 32, 114, 101, 112, 101, 97, 116, 32, 99, 97, 108, 108, 32, 116, 120, 110, 32, 99, 111, 109, 109, 105, 116, 32, 114, 101, 112, 108, 97, 121, 32, 97, 115, 115, 101, 114, 116, 32, 101, 120, 105, 115, 116, 115, 32, 115, 105, 122, 101, 32, 114, 101, 97, 100, 32, 110, 111, 116, 32, 97, 110, 100, 32, 111, 114, 32, 116, 114, 117, 101, 32, 102, 97, 108, 115, 101, 32]

/-- The words between the blanks. -/
def splitWords : List UInt8 → List UInt8 → List (List UInt8)
  | [], w => [w]
  | c :: l, w => if c = 32 then w :: splitWords l [] else splitWords l (w ++ [c])
def keyWords : List (List UInt8) := (splitWords keyText []).filter (· ≠ [])
def isKey (s : List UInt8) : Bool := keyWords.contains s
def isName (s : List UInt8) : Bool := (match s with | c :: _ => isLetter c | [] => false) && decide (s.length ≤ 8) && s.all isInner && !isKey s

theorem takeWhile_blank {s r : List UInt8} (h : 32 ∉ s) : (s ++ 32 :: r).takeWhile (· ≠ 32) = s := by
  induction s with
  | nil => simp
  | cons c l ih =>
    have hc : c ≠ 32 := fun e => h (by simp [e])
    have hl : 32 ∉ l := fun e => h (by simp [e])
    have := ih hl
    simp only [ne_eq, decide_not] at this
    simp [hc, this]

theorem key_words {s : List UInt8} (h0 : s ≠ []) (h : 32 ∉ s) : Go.Lib.contains keyText (32 :: (s ++ [32])) = isKey s := by
  have hmem : ∀ i : Nat, i < 200 → (keyText.drop i).head? = some 32 → (keyText.drop (i + 1)).takeWhile (· ≠ 32) = [] ∨ isKey ((keyText.drop (i + 1)).takeWhile (· ≠ 32)) = true := by decide +kernel
  have hall : ∀ w ∈ keyWords, Go.Lib.contains keyText (32 :: (w ++ [32])) = true := by decide +kernel
  cases hk : isKey s with
  | true => exact hall s (by simpa [isKey] using hk)
  | false =>
    rcases Go.Lib.index_spec keyText (32 :: (s ++ [32])) with ⟨h1, _⟩ | ⟨i, h1, h2, h3, _⟩
    · simp [Go.Lib.contains, h1]
    · exfalso
      have hlen : keyText.length < 200 := by decide +kernel
      unfold Go.Lib.occAt at h3
      rw [List.isPrefixOf_iff_prefix] at h3
      obtain ⟨r, hr⟩ := h3
      have e1 : keyText.drop (i + 1) = s ++ 32 :: r := by
        have : keyText.drop (i + 1) = (keyText.drop i).drop 1 := by rw [List.drop_drop]
        rw [this, ← hr]; simp
      have e2 : (keyText.drop i).head? = some 32 := by rw [← hr]; rfl
      have := hmem i (by omega) e2
      rw [e1, takeWhile_blank h, hk] at this
      rcases this with h | h
      · exact h0 h
      · cases h

theorem has_blank (s : List UInt8) : decide (0 ≤ Go.Lib.indexByte s 32) = s.contains 32 := by
  rw [← Go.Lib.index_one]
  rcases Go.Lib.index_spec s [32] with ⟨h1, h2⟩ | ⟨i, h1, h2, h3, _⟩
  · rw [h1]
    have : ¬ 32 ∈ s := by
      intro hm
      obtain ⟨i, hi⟩ := List.getElem?_of_mem hm
      have hlt := (List.getElem?_eq_some_iff.1 hi).1
      have := h2 i (by omega)
      unfold Go.Lib.occAt at this
      rw [List.drop_eq_getElem_cons hlt] at this
      rw [List.getElem?_eq_getElem hlt] at hi
      simp [List.isPrefixOf, Option.some.inj hi] at this
    simp [this]
  · rw [h1]
    have : 32 ∈ s := by
      unfold Go.Lib.occAt at h3
      rw [List.isPrefixOf_iff_prefix] at h3
      obtain ⟨r, hr⟩ := h3
      have : 32 ∈ s.drop i := by rw [← hr]; simp
      exact List.mem_of_mem_drop this
    simp [this]

theorem key_blank {s : List UInt8} (h : 32 ∈ s) : isKey s = false := by
  have hall : ∀ w ∈ keyWords, ¬ (32 : UInt8) ∈ w := by decide +kernel
  cases hk : isKey s with
  | false => rfl
  | true => exact absurd h (hall s (by simpa [isKey] using hk))

theorem xContains_more (s t : List UInt8) (hs : s.length < 4294967281) (ht : 2 ≤ t.length) (H : Heap) : xContains [.str s, .str t] H = some (.bool (Go.Lib.contains s t), H) := by
  match t, ht with
  | a :: b :: l, _ => simp [xContains, hs]

theorem Key_eq (s : List UInt8) (hs : s.length ≤ 1000000) (H : Heap) : eval tbl noExt n_lex_Key [.str s] H = some (.bool (isKey s), H) := by
  have hc1 : ∀ K, eval tbl noExt n_strings_Contains [.str s, .str [32]] K = some (.bool (s.contains 32), K) := by
    intro K
    rw [eval_X rfl rfl]
    simp only [xContains, has_blank]
  have hc2 : ∀ K, eval tbl noExt n_strings_Contains [.str keyText, .str (32 :: (s ++ [32]))] K = some (.bool (Go.Lib.contains keyText (32 :: (s ++ [32]))), K) := by
    intro K
    rw [eval_X rfl rfl]
    exact xContains_more _ _ (by decide +kernel) (by simp) _
  rw [eval_M rfl rfl t_lex_Key rfl]
  by_cases h0 : s = []
  · subst h0
    have : isKey [] = false := by decide +kernel
    simp [c_lex_Key, this]
  by_cases hb : 32 ∈ s
  · simp [c_lex_Key, h0, hc1, hb, lt_strings_Contains, key_blank hb]
  · rw [key_words h0 hb] at hc2
    simp only [keyText] at hc2
    have hl1 : 1 + s.length < 4611686018427387904 := by omega
    have hl2 : 1 + s.length + 1 < 4611686018427387904 := by omega
    have hl3 : s.length + 1 + 1 < 4611686018427387904 := by omega
    simp [hl1, hl2, hl3, c_lex_Key, h0, hc1, hc2, hb, lt_strings_Contains]

theorem le_u8 (a c : UInt8) : decide ((a.toNat : Int) ≤ (c.toNat : Int)) = decide (a ≤ c) := by
  simp [UInt8.le_iff_toNat_le]
theorem letter_eq (c : UInt8) (H : Heap) : eval tbl noExt n_lex_letter [.int .i32 c.toNat] H = some (.bool (isLetter c), H) := by
  have h1 := le_u8 97 c
  have h2 := le_u8 c 122
  simp only [UInt8.reduceToNat] at h1 h2
  rw [eval_M rfl rfl t_lex_letter rfl]
  unfold isLetter
  rw [← h1, ← h2]
  by_cases h : (97 : Int) ≤ c.toNat
  · simp [c_lex_letter, h]
  · simp [c_lex_letter, h]
theorem w32 (c : UInt8) : IntKind.i32.wrap (c.toNat : Int) = c.toNat := by
  have := c.toNat_lt
  rw [IntKind.wrap_i32]; omega

theorem begins_eq (s : List UInt8) (H : Heap) : eval tbl noExt n_lex_begins [.str s, .fn (.func n_lex_letter) [] []] H = some (.bool (match s with | c :: _ => isLetter c | [] => false), H) := by
  rw [eval_M rfl rfl t_lex_begins rfl]
  cases s with
  | nil => simp [c_lex_begins]
  | cons c l => simp [c_lex_begins, w32, letter_eq, lt_lex_letter]

theorem takeWhile_all (p : UInt8 → Bool) (s : List UInt8) : decide (s.takeWhile p = s) = s.all p := by
  induction s with
  | nil => rfl
  | cons c l ih =>
    cases hp : p c with
    | true => simp [hp, ← ih]
    | false => simp [hp]

theorem run_inner (s : List UInt8) (H : Heap) : eval tbl noExt n_lex_run [.str s, .fn (.func n_lex_inner) [] []] H = some (.str (s.takeWhile isInner), H) := by
  rw [eval_X rfl rfl]
  simp [xRun]

theorem Name_eq (s : List UInt8) (hs : s.length ≤ 1000000) (H : Heap) : eval tbl noExt n_lex_Name [.str s] H = some (.bool (isName s), H) := by
  have hb := begins_eq s
  have hr := run_inner s
  have ht := takeWhile_all isInner s
  rw [eval_M rfl rfl t_lex_Name rfl]
  unfold isName
  rw [← ht]
  generalize (match s with | c :: _ => isLetter c | [] => false) = b at hb ⊢
  cases b with
  | false => simp [c_lex_Name, hb, lt_lex_begins]
  | true =>
    by_cases h8 : s.length ≤ 8
    · have h8' : (s.length : Int) ≤ 8 := by omega
      by_cases hw : s.takeWhile isInner = s
      · simp only [hw] at hr
        simp [c_lex_Name, hb, lt_lex_begins, h8, h8', hr, lt_lex_run, hw, Key_eq s hs, lt_lex_Key]
      · simp [c_lex_Name, hb, lt_lex_begins, h8, h8', hr, lt_lex_run, hw]
    · have h8' : ¬ (s.length : Int) ≤ 8 := by omega
      simp [c_lex_Name, hb, lt_lex_begins, h8, h8']

end Go.AM.Spec

namespace Go.AM.Spec
set_option linter.unusedVariables false
set_option linter.unusedSimpArgs false

/-- The value of a text behind n, as the code counts it. -/
def val (n : Int) : List UInt8 → Option Int
  | [] => some n
  | c :: cs => if c.toNat < 48 ∨ 57 < c.toNat then none else val (IntKind.i64.wrap (IntKind.i64.wrap (n * 10) + (c.toNat - 48))) cs

@[simp] theorem bytesRows_length (s : List UInt8) : (bytesRows s).length = s.length := by simp [bytesRows]
@[simp] theorem bytesRows_get (s : List UInt8) (i : Nat) : (bytesRows s)[i]? = (s[i]?).map fun b => [V.int .u8 b.toNat] := by simp [bytesRows]

@[simp] theorem bytesRows_getElem (s : List UInt8) (i : Nat) (h : i < (bytesRows s).length) : (bytesRows s)[i] = [V.int .u8 (s[i]'(by simpa using h)).toNat] := by simp [bytesRows]

theorem byte_lt (c : UInt8) : c.toNat < 256 := UInt8.toNat_lt c

/-- What Read answers. -/
def readR (s : List UInt8) : Int × Bool :=
  if s = [] ∨ 13 < s.length ∨ s[0]? = some 48 ∧ s ≠ [48] then (0, false)
  else match val 0 s with
    | none => (0, false)
    | some v => if 1000000000000 < v then (0, false) else (v, true)

end Go.AM.Spec

namespace Go.AM.Spec
set_option linter.unusedVariables false
set_option linter.unusedSimpArgs false

set_option maxHeartbeats 400000
variable (H : Heap) (call : CallF) (R : Option (V × Heap))

theorem read_loop (s : List UInt8) (hs : s.length < 100000) (k : List Item)
    (X : Option Int) (hsome : ∀ v φ', X = some v → Fr.get φ' 4 = .int .i64 v → M call k φ' H = R) (hnone : ∀ φ', X = none → Fr.get φ' 2 = .int .i64 0 → Fr.get φ' 3 = .bool false → retK k φ' H = R) :
    ∀ (j i : Nat) (n : Int) (φ : Fr), i + j = s.length → val n (s.drop i) = X → Fr.get φ 4 = .int .i64 n → Fr.get φ 25 = .own 1 (bytesRows s) → Fr.get φ 26 = .int .i64 s.length → Fr.get φ 27 = .int .i64 i →
    M call (.code l_num_Read_0 :: .blk 0 :: k) φ H = R := by
  intro j
  induction j with
  | zero =>
    intro i n φ hj hv h4 h25 h26 h27
    have hi : ¬ ((i : Int) < s.length) := by omega
    rw [List.drop_eq_nil_of_le (by omega)] at hv
    rw [l_num_Read_0, M_loop]
    simp [b_num_Read_0, h4, h25, h26, h27, hi]
    exact hsome n _ hv.symm (by simp)
  | succ j ih =>
    intro i n φ hj hv h4 h25 h26 h27
    have hi : (i : Int) < s.length := by omega
    have hi' : i < s.length := by omega
    rw [List.drop_eq_getElem_cons hi'] at hv
    have hb := byte_lt s[i]
    have h1 : IntKind.i64.wrap (s[i].toNat : Int) = s[i].toNat := w64 (by omega) (by omega)
    have h2 : IntKind.i64.wrap ((s[i].toNat : Int) - 48) = s[i].toNat - 48 := w64 (by omega) (by omega)
    have h3 : IntKind.i64.wrap ((i : Int) + 1) = (i + 1 : Nat) := by rw [w64] <;> omega
    rw [l_num_Read_0, M_loop, ← l_num_Read_0]
    unfold val at hv
    by_cases hc : s[i].toNat < 48
    · have hc' : (s[i].toNat : Int) - 48 < 0 := by omega
      rw [if_pos (by omega)] at hv
      simp [b_num_Read_0, h4, h25, h26, h27, hi, hi', h1, h2, h3, hc']
      refine hnone _ hv.symm ?_ ?_ <;> simp
    · have hc1' : ¬ (s[i].toNat : Int) - 48 < 0 := by omega
      by_cases hc2 : 57 < s[i].toNat
      · have hc2' : 9 < (s[i].toNat : Int) - 48 := by omega
        rw [if_pos (by omega)] at hv
        simp [b_num_Read_0, h4, h25, h26, h27, hi, hi', h1, h2, h3, hc1', hc2']
        refine hnone _ hv.symm ?_ ?_ <;> simp
      · have hc2' : ¬ 9 < (s[i].toNat : Int) - 48 := by omega
        rw [if_neg (by omega)] at hv
        simp [b_num_Read_0, h4, h25, h26, h27, hi, hi', h1, h2, h3, hc1', hc2']
        refine ih (i + 1) _ _ (by omega) hv ?_ ?_ ?_ ?_ <;> simp

theorem read_eq (s : List UInt8) : eval tbl noExt n_num_Read [.str s] H = some (.tup [.int .i64 (readR s).1, .bool (readR s).2], H) := by
  rw [eval_M rfl rfl t_num_Read rfl]
  unfold readR
  by_cases h0 : s = []
  · simp [c_num_Read, h0]
  · by_cases h1 : 13 < s.length
    · have h1' : (13 : Int) < s.length := by omega
      simp [c_num_Read, h0, h1, h1']
    · have h1' : ¬ (13 : Int) < s.length := by omega
      have hp : 0 < s.length := by
        cases s with
        | nil => exact (h0 rfl).elim
        | cons c cs => simp
      have hg : s[0]? = some s[0] := List.getElem?_eq_getElem hp
      have hl : ((s[0].toNat : Int) = 48) ↔ s[0] = 48 := by
        constructor
        · intro h
          apply UInt8.toNat_inj.1
          have : s[0].toNat = 48 := by omega
          rw [this]; rfl
        · intro h; rw [h]; rfl
      have last : ∀ φ k, k = [Item.code r_num_Read_0, Item.fin [ARes.t 2, ARes.t 3] (List.length H)] → Fr.get φ 4 = .int .i64 0 → Fr.get φ 25 = .own 1 (bytesRows s) → Fr.get φ 26 = .int .i64 s.length → Fr.get φ 27 = .int .i64 0 → 
        M (eval tbl noExt) (.code l_num_Read_0 :: .blk 0 :: k) φ H = some (.tup [.int .i64 (match val 0 s with
          | none => (0, false)
          | some v => if 1000000000000 < v then (0, false) else (v, true)).1, .bool (match val 0 s with
          | none => (0, false)
          | some v => if 1000000000000 < v then (0, false) else (v, true)).2], H) := by
        intro φ k hk h4 h25 h26 h27
        refine read_loop H _ _ s (by omega) _ (val 0 s) ?_ ?_ s.length 0 0 _ (by omega) rfl h4 h25 h26 h27
        · intro v φ' hv h4
          rw [hk, hv]
          by_cases hm : 1000000000000 < v <;> simp [r_num_Read_0, h4, hm]
        · intro φ' hv h2 h3
          rw [hk, hv]
          simp [h2, h3]
      by_cases h2 : s[0] = 48
      · by_cases h3 : s = [48]
        · subst h3
          simp [c_num_Read]
          refine last _ _ rfl ?_ ?_ ?_ ?_ <;> simp
        · simp [c_num_Read, h0, h1, h1', h2, h3, hp, hg, hl]
      · simp [c_num_Read, h0, h1, h1', h2, hp, hg, hl]
        refine last _ _ rfl ?_ ?_ ?_ ?_ <;> simp

end Go.AM.Spec

namespace Go.AM.Spec
set_option linter.unusedVariables false
set_option linter.unusedSimpArgs false

def dig (u : Nat) : UInt8 := UInt8.ofNat (48 + u % 10)

def digs : Nat → Nat → List UInt8 → List UInt8
  | 0, _, acc => acc
  | k + 1, u, acc => if u / 10 = 0 then dig u :: acc else digs k (u / 10) (dig u :: acc)

def byteVs (txt : List UInt8) : List V := txt.map fun c => .int .u8 c.toNat

def cells20 (txt : List UInt8) : List V := List.replicate (20 - txt.length) (.int .u8 0) ++ byteVs txt

theorem cells20_length {txt : List UInt8} (h : txt.length ≤ 20) : (cells20 txt).length = 20 := by simp [cells20, byteVs]; omega

theorem cells20_set {txt : List UInt8} (h : txt.length < 20) (c : UInt8) : (cells20 txt).set (19 - txt.length) (.int .u8 c.toNat) = cells20 (c :: txt) := by
  unfold cells20
  obtain ⟨m, hm⟩ : ∃ m, 20 - txt.length = m + 1 := ⟨19 - txt.length, by omega⟩
  have h1 : 19 - txt.length = m := by omega
  have h2 : 20 - (c :: txt).length = m := by simp; omega
  rw [hm, h1, h2, List.replicate_succ', List.append_assoc, List.set_append_right _ _ (by simp)]
  simp [byteVs]

theorem digs_length (k u : Nat) (acc : List UInt8) : (digs k u acc).length ≤ k + acc.length := by
  induction k generalizing u acc with
  | zero => simp [digs]
  | succ k ih =>
    unfold digs
    split
    · simp; omega
    · have := ih (u / 10) (dig u :: acc)
      simp at this; omega

theorem digit_u8 (u : Nat) : IntKind.u8.wrap (IntKind.u64.wrap (48 + (u : Int) % 10)) = (dig u).toNat := by
  unfold dig
  rw [IntKind.wrap_u64, IntKind.wrap_u8]
  have : (UInt8.ofNat (48 + u % 10)).toNat = 48 + u % 10 := by
    rw [UInt8.toNat_ofNat']; omega
  rw [this]; omega

set_option maxHeartbeats 400000
variable (H : Heap) (call : CallF) (R : Option (V × Heap))

theorem digits_loop (n : Int) (k : List Item) (X : List UInt8) (hk : ∀ φ', Fr.get φ' 0 = .int .i64 n → Fr.get φ' 3 = .ptr H.length 0 → Fr.get φ' 4 = .int .i64 (20 - X.length : Nat) → M call k φ' (H ++ [some (cells20 X)]) = R) :
    ∀ (j u : Nat) (txt : List UInt8) (φ : Fr), u < 10 ^ (j + 1) → u < 18446744073709551616 → txt.length + j + 1 ≤ 20 → digs (j + 1) u txt = X → Fr.get φ 0 = .int .i64 n → Fr.get φ 3 = .ptr H.length 0 → Fr.get φ 4 = .int .i64 (20 - txt.length : Nat) → Fr.get φ 5 = .int .u64 u →
    M call (.code l_num_Digits_0 :: .blk 0 :: k) φ (H ++ [some (cells20 txt)]) = R := by
  intro j
  induction j with
  | zero =>
    intro u txt φ hu hu2 ht hX h0 h3 h4 h5
    have e1 : (u : Int).tmod 10 = (u : Int) % 10 := by rw [Int.tmod_eq_emod_of_nonneg (by omega)]
    have e0 : IntKind.u64.wrap 0 = 0 := by rw [IntKind.wrap_u64]; rfl
    have e2 : IntKind.u64.wrap ((u : Int) / 10) = (u : Int) / 10 := by rw [IntKind.wrap_u64]; omega
    have e3 : IntKind.i64.wrap (((20 - txt.length : Nat) : Int) - 1) = (19 - txt.length : Nat) := by rw [w64] <;> omega
    have e4 : ((19 - txt.length : Nat) : Int) < 20 := by omega
    have e5 : (u : Int) / 10 = 0 := by omega
    have hl := cells20_length (txt := txt) (by omega)
    have e6 : 19 - txt.length + 1 ≤ 20 := by omega
    have e7 := cells20_set (txt := txt) (by omega)
    unfold digs at hX
    rw [if_pos (by omega)] at hX
    rw [l_num_Digits_0, M_loop, ← l_num_Digits_0]
    simp [b_num_Digits_0, h0, h3, h4, h5, e0, e1, e2, e3, e4, e5, e6, e7, hl, digit_u8, V.cells, V.one, setMany, hX]
    refine hk _ ?_ ?_ ?_ <;> simp [← hX] <;> omega
  | succ j ih =>
    intro u txt φ hu hu2 ht hX h0 h3 h4 h5
    have e1 : (u : Int).tmod 10 = (u : Int) % 10 := by rw [Int.tmod_eq_emod_of_nonneg (by omega)]
    have e0 : IntKind.u64.wrap 0 = 0 := by rw [IntKind.wrap_u64]; rfl
    have e2 : IntKind.u64.wrap ((u : Int) / 10) = (u : Int) / 10 := by rw [IntKind.wrap_u64]; omega
    have e3 : IntKind.i64.wrap (((20 - txt.length : Nat) : Int) - 1) = (19 - txt.length : Nat) := by rw [w64] <;> omega
    have e4 : ((19 - txt.length : Nat) : Int) < 20 := by omega
    have hl := cells20_length (txt := txt) (by omega)
    have e6 : 19 - txt.length + 1 ≤ 20 := by omega
    have e7 := cells20_set (txt := txt) (by omega)
    unfold digs at hX
    rw [l_num_Digits_0, M_loop, ← l_num_Digits_0]
    by_cases hq : u / 10 = 0
    · have e5 : (u : Int) / 10 = 0 := by omega
      rw [if_pos hq] at hX
      simp [b_num_Digits_0, h0, h3, h4, h5, e0, e1, e2, e3, e4, e5, e6, e7, hl, digit_u8, V.cells, V.one, setMany, hX]
      refine hk _ ?_ ?_ ?_ <;> simp [← hX] <;> omega
    · have e5 : ¬ (u : Int) / 10 = 0 := by omega
      rw [if_neg hq] at hX
      simp [b_num_Digits_0, h0, h3, h4, h5, e0, e1, e2, e3, e4, e5, e6, e7, hl, digit_u8, V.cells, V.one, setMany]
      refine ih (u / 10) (dig u :: txt) _ ?_ ?_ ?_ hX ?_ ?_ ?_ ?_ <;> first | omega | (simp; done) | (simp; omega)

theorem chunk_bytes (pre : List V) (X : List UInt8) : rowsBytes (chunk 1 (pre ++ byteVs X) pre.length X.length) = some X := by
  induction X generalizing pre with
  | nil => rfl
  | cons c X ih =>
    have h1 := ih (pre ++ [.int .u8 c.toNat])
    have h2 : pre ++ byteVs (c :: X) = (pre ++ [V.int .u8 c.toNat]) ++ byteVs X := by simp [byteVs]
    have hc := byte_lt c
    rw [List.length_cons, chunk, h2]
    have h3 : (((pre ++ [V.int .u8 c.toNat]) ++ byteVs X).drop pre.length).take 1 = [V.int .u8 c.toNat] := by simp
    rw [h3]
    simp only [List.length_append, List.length_singleton] at h1
    unfold rowsBytes
    rw [if_pos (by omega), h1]
    simp

theorem cells20_bytes (X : List UInt8) : rowsBytes (chunk 1 ((cells20 X).map V.strip) (20 - X.length) X.length) = some X := by
  have h : (cells20 X).map V.strip = List.replicate (20 - X.length) (V.int .u8 0) ++ byteVs X := by
    simp [cells20, byteVs, V.strip, Function.comp_def]
  have := chunk_bytes (List.replicate (20 - X.length) (V.int .u8 0)) X
  rw [List.length_replicate] at this
  rw [h, this]

theorem digs_pos (k u : Nat) (acc : List UInt8) : acc.length < (digs (k + 1) u acc).length := by
  induction k generalizing u acc with
  | zero => unfold digs; split <;> simp [digs]
  | succ k ih =>
    unfold digs
    split
    · simp
    · have := ih (u / 10) (dig u :: acc)
      simp at this; omega

/-- A number as a text. -/
def text (n : Int) : List UInt8 := if n < 0 then 45 :: digs 19 (-n).toNat [] else digs 19 n.toNat []

theorem digits_eq (n : Int) (h1 : -9223372036854775808 ≤ n) (h2 : n ≤ 9223372036854775807) : eval tbl noExt n_num_Digits [.int .i64 n] H = some (.str (text n), H) := by
  rw [eval_M rfl rfl t_num_Digits rfl]
  unfold text
  by_cases hn : n < 0
  · obtain ⟨X, hX⟩ : ∃ X, X = digs 19 (-n).toNat [] := ⟨_, rfl⟩
    have hl := digs_length 19 (-n).toNat []
    have hp := digs_pos 18 (-n).toNat []
    rw [← hX] at hl hp ⊢
    have e1 : IntKind.u64.wrap (-IntKind.u64.wrap n) = ((-n).toNat : Int) := by rw [IntKind.wrap_u64, IntKind.wrap_u64]; omega
    simp at hl hp
    simp [c_num_Digits, hn, e1]
    refine digits_loop H _ _ n _ X ?_ 18 (-n).toNat [] _ (by omega) (by omega) (by simp) hX.symm ?_ ?_ ?_ ?_
    · intro φ' h0 h3 h4
      have e3 : IntKind.i64.wrap (((20 - X.length : Nat) : Int) - 1) = (19 - X.length : Nat) := by rw [w64] <;> omega
      have e4 : ((19 - X.length : Nat) : Int) < 20 := by omega
      have e5 : ((19 - X.length : Nat) : Int) ≤ 20 := by omega
      have e6 : 19 - X.length + 1 ≤ 20 := by omega
      have e7 := cells20_set (txt := X) (by omega) 45
      have e8 : ¬ 20 = 19 - X.length := by omega
      have e9 := cells20_length (txt := 45 :: X) (by simp; omega)
      have e10 : 19 - X.length + (20 - (19 - X.length)) ≤ 20 := by omega
      have e11 := cells20_bytes (45 :: X)
      have e12 : 20 - (45 :: X).length = 19 - X.length := by rw [List.length_cons]; omega
      have e13 : (45 :: X).length = 20 - (19 - X.length) := by rw [List.length_cons]; omega
      rw [e12, e13] at e11
      have hl' := cells20_length (txt := X) (by omega)
      have e7' : (cells20 X).set (19 - X.length) (V.int IntKind.u8 45) = cells20 (45 :: X) := e7
      simp [r_num_Digits_0, h0, h3, h4, hn, e3, e4, e5, e6, e7', e8, e9, e10, hl', V.cells, V.one, setMany, rowsOf, e11]
    · simp
    · simp
    · simp
    · simp
  · obtain ⟨X, hX⟩ : ∃ X, X = digs 19 n.toNat [] := ⟨_, rfl⟩
    have hl := digs_length 19 n.toNat []
    have hp := digs_pos 18 n.toNat []
    rw [← hX] at hl hp ⊢
    have e1 : IntKind.u64.wrap n = (n.toNat : Int) := by rw [IntKind.wrap_u64]; omega
    simp at hl hp
    simp [c_num_Digits, hn, e1]
    refine digits_loop H _ _ n _ X ?_ 18 n.toNat [] _ (by omega) (by omega) (by simp) hX.symm ?_ ?_ ?_ ?_
    · intro φ' h0 h3 h4
      have e5 : ((20 - X.length : Nat) : Int) ≤ 20 := by omega
      have e8 : ¬ 20 = 20 - X.length := by omega
      have e9 := cells20_length (txt := X) (by omega)
      have e10 : 20 - X.length + X.length ≤ 20 := by omega
      have e11 := cells20_bytes X
      have e13 : X.length = 20 - (20 - X.length) := by omega
      have e14 : 20 - (20 - X.length) = X.length := by omega
      simp [r_num_Digits_0, h0, h3, h4, hn, e5, e8, e9, e10, rowsOf, e14, e11]
    · simp
    · simp
    · simp
    · simp

end Go.AM.Spec

namespace Go.AM.Spec
set_option linter.unusedVariables false
set_option linter.unusedSimpArgs false

def stepN (n : Nat) (c : UInt8) : Nat := n * 10 + (c.toNat - 48)

def valN (n : Nat) (s : List UInt8) : Nat := s.foldl stepN n

theorem valN_nil (n : Nat) : valN n [] = n := rfl

theorem valN_cons (n : Nat) (c : UInt8) (cs : List UInt8) : valN n (c :: cs) = valN (n * 10 + (c.toNat - 48)) cs := by
  have : n * 10 + (c.toNat - 48) = stepN n c := by rw [stepN]
  rw [this]; rfl

def isDigP (c : UInt8) : Prop := 48 ≤ c.toNat ∧ c.toNat ≤ 57

/-- Digits without a zero in front. -/
def Good (s : List UInt8) : Prop := s ≠ [] ∧ (∀ c ∈ s, isDigP c) ∧ (s.head? = some 48 → s = [48])

theorem valN_append (s : List UInt8) (c : UInt8) (n : Nat) : valN n (s ++ [c]) = valN n s * 10 + (c.toNat - 48) := by
  have : ∀ m, m * 10 + (c.toNat - 48) = stepN m c := fun m => by rw [stepN]
  rw [this]
  simp [valN]

theorem valN_ge (n : Nat) (s : List UInt8) : n * 10 ^ s.length ≤ valN n s := by
  induction s generalizing n with
  | nil => simp [valN_cons, valN_nil]
  | cons x s ih =>
    have := ih (n * 10 + (x.toNat - 48))
    rw [valN_cons]
    refine Nat.le_trans ?_ this
    rw [List.length_cons, Nat.pow_succ, Nat.mul_comm (10 ^ s.length) 10, ← Nat.mul_assoc]
    exact Nat.mul_le_mul_right _ (Nat.le_add_right _ _)

theorem val_some (n : Nat) (s : List UInt8) (h : ∀ c ∈ s, isDigP c) (a : Nat) (hn : n < 10 ^ a) (ha : a + s.length ≤ 18) : val n s = some (valN n s : Int) := by
  induction s generalizing n a with
  | nil => rfl
  | cons c s ih =>
    have hc := h c (by simp)
    unfold isDigP at hc
    rw [valN_cons]
    unfold val
    rw [if_neg (by omega)]
    simp only [List.length_cons] at ha
    have h18 : 10 ^ (a + 1) ≤ 10 ^ 18 := Nat.pow_le_pow_right (by omega) (by omega)
    have hp : 10 ^ (a + 1) = 10 * 10 ^ a := by rw [Nat.pow_succ, Nat.mul_comm]
    have e : (10 : Nat) ^ 18 = 1000000000000000000 := by decide
    rw [w64 (n := (n : Int) * 10) (by omega) (by omega), w64 (n := (n : Int) * 10 + ((c.toNat : Int) - 48)) (by omega) (by omega)]
    have e2 : (n : Int) * 10 + ((c.toNat : Int) - 48) = ((n * 10 + (c.toNat - 48) : Nat) : Int) := by omega
    rw [e2]
    exact ih (n * 10 + (c.toNat - 48)) (fun c hc => h c (by simp [hc])) (a + 1) (by omega) (by omega)

theorem dig_toNat (u : Nat) : (dig u).toNat = 48 + u % 10 := by unfold dig; rw [UInt8.toNat_ofNat']; omega

theorem dig_of (v : Nat) (c : UInt8) (hc : isDigP c) : dig (v * 10 + (c.toNat - 48)) = c := by
  unfold isDigP at hc
  apply UInt8.toNat_inj.1
  rw [dig_toNat]; omega

theorem good_pos {s : List UInt8} (h : Good s) (hl : 1 < s.length) : 0 < valN 0 s := by
  obtain ⟨h1, h2, h3⟩ := h
  cases s with
  | nil => exact (h1 rfl).elim
  | cons c s =>
    have hc := h2 c (by simp)
    unfold isDigP at hc
    have hne : c.toNat ≠ 48 := by
      intro he
      have : c = 48 := UInt8.toNat_inj.1 he
      have := h3 (by simp [this])
      simp at this
      simp [this.2] at hl
    rw [valN_cons]
    have := valN_ge (0 * 10 + (c.toNat - 48)) s
    have hp : 0 < 10 ^ s.length := Nat.pow_pos (by omega)
    have : 1 * 10 ^ s.length ≤ (0 * 10 + (c.toNat - 48)) * 10 ^ s.length := Nat.mul_le_mul_right _ (by omega)
    omega

theorem good_ge {s : List UInt8} (h : Good s) (hl : 1 < s.length) : 10 ^ (s.length - 1) ≤ valN 0 s := by
  obtain ⟨h1, h2, h3⟩ := h
  cases s with
  | nil => exact (h1 rfl).elim
  | cons c s =>
    have hc := h2 c (by simp)
    unfold isDigP at hc
    have hne : c.toNat ≠ 48 := by
      intro he
      have : c = 48 := UInt8.toNat_inj.1 he
      have := h3 (by simp [this])
      simp at this
      simp [this.2] at hl
    rw [valN_cons]
    have := valN_ge (0 * 10 + (c.toNat - 48)) s
    have : 1 * 10 ^ s.length ≤ (0 * 10 + (c.toNat - 48)) * 10 ^ s.length := Nat.mul_le_mul_right _ (by omega)
    simp only [List.length_cons, Nat.add_sub_cancel]
    omega

theorem good_init {s : List UInt8} {c : UInt8} (h : Good (s ++ [c])) (hs : s ≠ []) : Good s := by
  obtain ⟨h1, h2, h3⟩ := h
  refine ⟨hs, fun x hx => h2 x (by simp [hx]), fun he => ?_⟩
  cases s with
  | nil => exact (hs rfl).elim
  | cons x s =>
    have := h3 (by simpa using he)
    simp at this

theorem digs_good (k : Nat) : ∀ (s acc : List UInt8), Good s → s.length ≤ k → digs k (valN 0 s) acc = s ++ acc := by
  induction k with
  | zero =>
    intro s acc h hl
    have : s = [] := List.eq_nil_of_length_eq_zero (by omega)
    exact (h.1 this).elim
  | succ k ih =>
    intro s acc h hl
    obtain ⟨t, c, rfl⟩ : ∃ t c, s = t ++ [c] := ⟨s.dropLast, s.getLast h.1, (List.dropLast_concat_getLast h.1).symm⟩
    have hc := h.2.1 c (by simp)
    rw [valN_append t c 0]
    unfold digs
    rw [dig_of _ _ hc]
    unfold isDigP at hc
    by_cases ht : t = []
    · subst ht
      rw [if_pos (by simp [valN_cons, valN_nil]; omega)]
      simp
    · have hg := good_init h ht
      have hq : (valN 0 t * 10 + (c.toNat - 48)) / 10 = valN 0 t := by omega
      have hp : 0 < valN 0 t := by
        by_cases h1 : 1 < t.length
        · exact good_pos hg h1
        · cases t with
          | nil => exact (ht rfl).elim
          | cons x t =>
            have : t = [] := by
              apply List.eq_nil_of_length_eq_zero
              simp only [List.length_cons] at h1; omega
            subst this
            have hx := h.2.1 x (by simp)
            unfold isDigP at hx
            have hne : x.toNat ≠ 48 := by
              intro he
              have hx' : x = 48 := UInt8.toNat_inj.1 he
              have := h.2.2 (by simp [hx'])
              simp at this
            simp [valN_cons, valN_nil]; omega
      rw [hq, if_neg (by omega), ih t (c :: acc) hg (by simp at hl; omega)]
      simp

theorem good_of (k : Nat) : ∀ u, u < 10 ^ (k + 1) → ∃ s, Good s ∧ s.length ≤ k + 1 ∧ valN 0 s = u ∧ (0 < u → s.head? ≠ some 48) := by
  induction k with
  | zero =>
    intro u hu
    have hd := dig_toNat u
    refine ⟨[dig u], ⟨by simp, fun c hc => ?_, fun h => by simpa using h⟩, by simp, by simp [valN_cons, valN_nil]; omega, fun hp he => ?_⟩
    · simp at hc; subst hc; unfold isDigP; omega
    · simp at he
      rw [he] at hd
      have : (48 : UInt8).toNat = 48 := rfl
      omega
  | succ k ih =>
    intro u hu
    by_cases h10 : u < 10
    · obtain ⟨s, h1, h2, h3⟩ := ih u (Nat.lt_of_lt_of_le h10 (by
        have : 10 ^ 1 ≤ 10 ^ (k + 1) := Nat.pow_le_pow_right (by omega) (by omega)
        simpa using this))
      exact ⟨s, h1, by omega, h3⟩
    · have hp : 10 ^ (k + 1 + 1) = 10 * 10 ^ (k + 1) := by rw [Nat.pow_succ, Nat.mul_comm]
      obtain ⟨s, h1, h2, h3, h4⟩ := ih (u / 10) (by omega)
      have hd := dig_toNat u
      have hh := h4 (by omega)
      have hhd : (s ++ [dig u]).head? = s.head? := by
        cases s with
        | nil => exact (h1.1 rfl).elim
        | cons x s => rfl
      refine ⟨s ++ [dig u], ⟨by simp, fun c hc => ?_, fun h => ?_⟩, by simp; omega, by rw [valN_append s (dig u) 0, h3]; omega, fun _ => by rw [hhd]; exact hh⟩
      · rcases List.mem_append.1 hc with hc | hc
        · exact h1.2.1 c hc
        · simp at hc; subst hc; unfold isDigP; omega
      · rw [hhd] at h; exact (hh h).elim

theorem read_good {s : List UInt8} (h : Good s) : readR s = if 1000000000000 < valN 0 s then (0, false) else ((valN 0 s : Int), true) := by
  unfold readR
  by_cases hl : 13 < s.length
  · have := good_ge h (by omega)
    have h2 : 10 ^ 13 ≤ 10 ^ (s.length - 1) := Nat.pow_le_pow_right (by omega) (by omega)
    have e : (10 : Nat) ^ 13 = 10000000000000 := by decide
    rw [if_pos (Or.inr (Or.inl hl)), if_pos (by omega)]
  · rw [if_neg]
    · have hv := val_some 0 s h.2.1 0 (by simp) (by omega)
      have hv' : val 0 s = some (valN 0 s : Int) := hv
      rw [hv']
      dsimp only
      by_cases hb : 1000000000000 < valN 0 s
      · rw [if_pos hb, if_pos (by omega)]
      · rw [if_neg hb, if_neg (by omega)]
    · rintro (h1 | h1 | ⟨h1, h2⟩)
      · exact h.1 h1
      · exact hl h1
      · exact h2 (h.2.2 (by rw [List.head?_eq_getElem?]; exact h1))

theorem read_text (n : Int) (h1 : -9223372036854775808 ≤ n) (h2 : n ≤ 9223372036854775807) : readR (text n) = if 0 ≤ n ∧ n ≤ 1000000000000 then (n, true) else (0, false) := by
  unfold text
  have e : (10 : Nat) ^ 19 = 10000000000000000000 := by decide
  by_cases hn : n < 0
  · rw [if_pos hn, if_neg (by omega)]
    unfold readR
    split
    · rfl
    · unfold val
      rw [if_pos (by decide)]
  · rw [if_neg hn]
    obtain ⟨s, hg, hl, hv, _⟩ := good_of 18 n.toNat (by omega)
    rw [← hv, digs_good 19 s [] hg (by omega), List.append_nil, read_good hg]
    by_cases hb : 1000000000000 < valN 0 s
    · rw [if_pos hb, if_neg (by omega)]
    · rw [if_neg hb, if_pos (by omega)]
      have : (valN 0 s : Int) = n := by omega
      rw [this]

theorem text_length (n : Int) : (text n).length ≤ 20 := by
  unfold text
  split
  · have := digs_length 19 (-n).toNat []
    simp at this ⊢; omega
  · have := digs_length 19 n.toNat []
    simp at this ⊢; omega

end Go.AM.Spec

namespace Go.AM.Spec
set_option linter.unusedVariables false
set_option linter.unusedSimpArgs false
set_option maxHeartbeats 1000000

inductive Ex where
  | mk (op n : Int) (s : List UInt8) (x : List Ex)

inductive Sm where
  | mk (op : Int) (s : List UInt8) (n : Int) (e : List Ex) (body els : List Sm) (commit : Bool)

mutual
def Ex.cells : Ex → List V
  | .mk op n s x => [.int .i64 op, .int .i64 n, .str s, .sl 4 (Ex.rows x)]
def Ex.rows : List Ex → List (List V)
  | [] => []
  | e :: l => e.cells :: Ex.rows l
end

mutual
def Sm.cells : Sm → List V
  | .mk op s n e b c k => [.int .i64 op, .str s, .int .i64 n, .sl 4 (Ex.rows e), .sl 7 (Sm.rows b), .sl 7 (Sm.rows c), .bool k]
def Sm.rows : List Sm → List (List V)
  | [] => []
  | e :: l => e.cells :: Sm.rows l
end

theorem Ex.rows_eq (l : List Ex) : Ex.rows l = l.map Ex.cells := by induction l with
  | nil => rfl
  | cons e l ih => simp [Ex.rows, ih]
theorem Sm.rows_eq (l : List Sm) : Sm.rows l = l.map Sm.cells := by induction l with
  | nil => rfl
  | cons e l ih => simp [Sm.rows, ih]

mutual
/-- How many expressions. -/
def Ex.size : Ex → Nat
  | .mk _ _ _ x => 1 + Ex.sizes x
def Ex.sizes : List Ex → Nat
  | [] => 0
  | e :: l => e.size + Ex.sizes l
end

mutual
def Sm.size : Sm → Nat
  | .mk _ _ _ e b c _ => 1 + Ex.sizes e + Sm.sizes b + Sm.sizes c
def Sm.sizes : List Sm → Nat
  | [] => 0
  | e :: l => e.size + Sm.sizes l
end

theorem Ex.sizes_ge : ∀ l : List Ex, l.length ≤ Ex.sizes l
  | [] => Nat.le_refl _
  | e :: l => by
    have := Ex.sizes_ge l
    cases e
    simp only [Ex.sizes, Ex.size, List.length_cons]; omega
theorem Sm.sizes_ge : ∀ l : List Sm, l.length ≤ Sm.sizes l
  | [] => Nat.le_refl _
  | e :: l => by
    have := Sm.sizes_ge l
    cases e
    simp only [Sm.sizes, Sm.size, List.length_cons]; omega
theorem Ex.sizes_mem : ∀ {l : List Ex} {e : Ex}, e ∈ l → e.size ≤ Ex.sizes l
  | [], _, h => by simp at h
  | x :: l, e, h => by
    simp only [Ex.sizes]
    rcases List.mem_cons.1 h with rfl | h
    · omega
    · have := Ex.sizes_mem h; omega
theorem Sm.sizes_mem : ∀ {l : List Sm} {e : Sm}, e ∈ l → e.size ≤ Sm.sizes l
  | [], _, h => by simp at h
  | x :: l, e, h => by
    simp only [Sm.sizes]
    rcases List.mem_cons.1 h with rfl | h
    · omega
    · have := Sm.sizes_mem h; omega

end Go.AM.Spec

namespace Go.AM.Spec
set_option linter.unusedVariables false
set_option linter.unusedSimpArgs false
set_option maxHeartbeats 1000000




/-- A program. -/
structure Pg where
  procs : List (List UInt8 × List Sm)
  main : List Sm
  recover : List Sm
  oracles : List (List UInt8 × Ex)

def Pg.pcells (p : Pg) : List (List V) := p.procs.map fun x => [.str x.1, .sl 7 (Sm.rows x.2)]
def Pg.ocells (p : Pg) : List (List V) := p.oracles.map fun x => .str x.1 :: x.2.cells
def Pg.cells (p : Pg) : List V := [.sl 2 p.pcells, .sl 7 (Sm.rows p.main), .sl 7 (Sm.rows p.recover), .sl 5 p.ocells]
def Pg.psize (p : Pg) : Nat := (p.procs.map fun x => 1 + Sm.sizes x.2).sum
def Pg.osize (p : Pg) : Nat := (p.oracles.map fun x => 1 + x.2.size).sum
def Pg.size (p : Pg) : Nat := p.psize + Sm.sizes p.main + Sm.sizes p.recover + p.osize
def Pg.parts (p : Pg) : List (List Sm) := p.procs.map (·.2) ++ [p.main, p.recover]

theorem sizes_append (a b : List Sm) : Sm.sizes (a ++ b) = Sm.sizes a + Sm.sizes b := by
  induction a with
  | nil => simp [Sm.sizes]
  | cons e l ih => simp only [List.cons_append, Sm.sizes, ih]; omega

theorem sizes_flatten {bs : List (List Sm)} {b : List Sm} (h : b ∈ bs) : Sm.sizes b ≤ Sm.sizes bs.flatten := by
  induction bs with
  | nil => simp at h
  | cons x l ih =>
    simp only [List.flatten_cons, sizes_append]
    rcases List.mem_cons.1 h with rfl | h
    · omega
    · have := ih h; omega

theorem Pg.prow {p : Pg} {i : Nat} {e : List UInt8 × List Sm} (he : p.procs[i]? = some e) : p.pcells[i]? = some [.str e.1, .sl 7 (Sm.rows e.2)] := by rw [Pg.pcells, List.getElem?_map, he]; rfl
theorem Pg.pcells_len (p : Pg) : p.pcells.length = p.procs.length := by simp [Pg.pcells]
theorem Pg.ocells_len (p : Pg) : p.ocells.length = p.oracles.length := by simp [Pg.ocells]

def Sm.op : Sm → Int
  | .mk op _ _ _ _ _ _ => op

mutual
/-- Are two the same? -/
def Ex.same : Ex → Ex → Bool
  | .mk op n s x, .mk op' n' s' x' => op == op' && n == n' && s == s' && Ex.sames x x'
def Ex.sames : List Ex → List Ex → Bool
  | [], [] => true
  | a :: l, b :: m => a.same b && Ex.sames l m
  | _, _ => false
end

mutual
def Sm.same : Sm → Sm → Bool
  | .mk op s n e b c k, .mk op' s' n' e' b' c' k' => op == op' && s == s' && n == n' && k == k' && Ex.sames e e' && Sm.sames b b' && Sm.sames c c'
def Sm.sames : List Sm → List Sm → Bool
  | [], [] => true
  | a :: l, b :: m => a.same b && Sm.sames l m
  | _, _ => false
end

theorem Ex.sames_len {l m : List Ex} (h : l.length ≠ m.length) : Ex.sames l m = false := by
  induction l generalizing m with
  | nil => cases m with
    | nil => simp at h
    | cons => rfl
  | cons a l ih => cases m with
    | nil => rfl
    | cons b m => simp only [Ex.sames, ih (m := m) (fun e => h (by simp [e])), Bool.and_false]
theorem Sm.sames_len {l m : List Sm} (h : l.length ≠ m.length) : Sm.sames l m = false := by
  induction l generalizing m with
  | nil => cases m with
    | nil => simp at h
    | cons => rfl
  | cons a l ih => cases m with
    | nil => rfl
    | cons b m => simp only [Sm.sames, ih (m := m) (fun e => h (by simp [e])), Bool.and_false]

mutual
theorem Ex.same_rfl : ∀ e : Ex, e.same e = true
  | .mk op n s x => by simp [Ex.same, Ex.sames_rfl x]
theorem Ex.sames_rfl : ∀ l : List Ex, Ex.sames l l = true
  | [] => rfl
  | e :: l => by simp [Ex.sames, Ex.same_rfl e, Ex.sames_rfl l]
end
mutual
theorem Sm.same_rfl : ∀ e : Sm, e.same e = true
  | .mk op s n e b c k => by simp [Sm.same, Ex.sames_rfl e, Sm.sames_rfl b, Sm.sames_rfl c]
theorem Sm.sames_rfl : ∀ l : List Sm, Sm.sames l l = true
  | [] => rfl
  | e :: l => by simp [Sm.sames, Sm.same_rfl e, Sm.sames_rfl l]
end


theorem Ex.rows_len (l : List Ex) : (Ex.rows l).length = l.length := by simp [Ex.rows_eq]
theorem Sm.rows_len (l : List Sm) : (Sm.rows l).length = l.length := by simp [Sm.rows_eq]
theorem Ex.rows_at {l : List Ex} {i : Nat} {e : Ex} (h : l[i]? = some e) : (Ex.rows l)[i]? = some e.cells := by rw [Ex.rows_eq, List.getElem?_map, h]; rfl
theorem Sm.rows_at {l : List Sm} {i : Nat} {e : Sm} (h : l[i]? = some e) : (Sm.rows l)[i]? = some e.cells := by rw [Sm.rows_eq, List.getElem?_map, h]; rfl
theorem Ex.cells_shape (e : Ex) : ∃ a b c d, e.cells = [.int .i64 a, .int .i64 b, .str c, .sl 4 d] := by cases e; exact ⟨_, _, _, _, rfl⟩
theorem Sm.cells_shape (e : Sm) : ∃ a b c d f g h, e.cells = [.int .i64 a, .str b, .int .i64 c, .sl 4 d, .sl 7 f, .sl 7 g, .bool h] := by cases e; exact ⟨_, _, _, _, _, _, _, rfl⟩

theorem at_some {α : Type} {l : List α} {i : Nat} (h : i < l.length) : ∃ e, l[i]? = some e ∧ e ∈ l ∧ l.drop i = e :: l.drop (i + 1) := by
  refine ⟨l[i], List.getElem?_eq_getElem h, List.getElem_mem h, ?_⟩
  rw [List.drop_eq_getElem_cons h]

end Go.AM.Spec

namespace Go.AM.Spec
set_option linter.unusedVariables false
set_option linter.unusedSimpArgs false
set_option maxHeartbeats 1000000

/-- The loop over the parts of two expressions. -/
theorem SameExpr_loop (call : CallF) (a0 a1 a2 b0 b1 b2 : V) (l m : List Ex) (hl : l.length ≤ 20000) (hm : m.length = l.length)
    (hf : ∀ e ∈ l, ∀ f, call n_flotsamref16_SameExpr [.agg e.cells, .agg f.cells] [] = some (.bool (e.same f), [])) (R : Option (V × Heap)) (k : List Item)
    (hret : ∀ φ' , Fr.get φ' 4 = .bool false → Ex.sames l m = false → retK k φ' [some [a0, a1, a2, .sl 4 (Ex.rows l)], some [b0, b1, b2, .sl 4 (Ex.rows m)]] = R)
    (hexit : ∀ φ', Ex.sames l m = true → M call k φ' [some [a0, a1, a2, .sl 4 (Ex.rows l)], some [b0, b1, b2, .sl 4 (Ex.rows m)]] = R) :
    ∀ (j i : Nat) (φ : Fr), i + j = l.length → Fr.get φ 2 = .ptr 0 0 → Fr.get φ 3 = .ptr 1 0 → Fr.get φ 5 = .int .i64 i → Ex.sames l m = Ex.sames (l.drop i) (m.drop i) →
      M call (.code l_flotsamref16_SameExpr_0 :: .blk 0 :: k) φ [some [a0, a1, a2, .sl 4 (Ex.rows l)], some [b0, b1, b2, .sl 4 (Ex.rows m)]] = R := by
  intro j
  induction j with
  | zero =>
    intro i φ hj h2 h3 h5 hs
    have hi : ¬ ((i : Int) < l.length) := by omega
    rw [List.drop_of_length_le (by omega), List.drop_of_length_le (by omega)] at hs
    have h := fun φ' => hexit φ' (by rw [hs]; rfl)
    rw [l_flotsamref16_SameExpr_0, M_loop, ← l_flotsamref16_SameExpr_0]
    simp [b_flotsamref16_SameExpr_0, h2, h3, h5, hi, Ex.rows_len, h]
  | succ j ih =>
    intro i φ hj h2 h3 h5 hs
    have hi : (i : Int) < l.length := by omega
    have hi' : (i : Int) < m.length := by omega
    obtain ⟨e, he, hmem, hd⟩ := at_some (l := l) (i := i) (by omega)
    obtain ⟨f, hf', hmem', hd'⟩ := at_some (l := m) (i := i) (by omega)
    have hre := Ex.rows_at he
    have hrf := Ex.rows_at hf'
    have hw : IntKind.i64.wrap ((i : Int) + 1) = ((i + 1 : Nat) : Int) := by rw [w64 (by omega) (by omega)]; rfl
    have hcall := hf e hmem f
    rw [hd, hd', Ex.sames] at hs
    obtain ⟨c0, c1, c2, c3, hc⟩ := e.cells_shape
    obtain ⟨d0, d1, d2, d3, hd0⟩ := f.cells_shape
    rw [hc, hd0] at hcall
    rw [hc] at hre
    rw [hd0] at hrf
    rw [l_flotsamref16_SameExpr_0, M_loop, ← l_flotsamref16_SameExpr_0]
    cases hb : e.same f with
    | false =>
      rw [hb, Bool.false_and] at hs
      rw [hb] at hcall
      simp [b_flotsamref16_SameExpr_0, h2, h3, h5, hi, Ex.rows_len, hi', hre, hrf, hcall]
      exact hret _ (by simp) hs
    | true =>
      rw [hb, Bool.true_and] at hs
      rw [hb] at hcall
      simp [b_flotsamref16_SameExpr_0, h2, h3, h5, hi, Ex.rows_len, hi', hre, hrf, hcall, hw]
      exact ih (i + 1) _ (by omega) (by simp [h2]) (by simp [h3]) (by simp) hs

theorem SameExpr_eq : ∀ (n : Nat) (a b : Ex), a.size ≤ n → n ≤ 20000 → eval tbl noExt n_flotsamref16_SameExpr [.agg a.cells, .agg b.cells] [] = some (.bool (a.same b), []) := by
  intro n
  induction n with
  | zero => intro a b h; cases a; simp only [Ex.size] at h; omega
  | succ n ih =>
    intro a b h hn
    obtain ⟨op, w, s, x⟩ := a
    obtain ⟨op', w', s', x'⟩ := b
    simp only [Ex.size] at h
    have hx := Ex.sizes_ge x
    have hf : ∀ e ∈ x, ∀ f, eval tbl noExt n_flotsamref16_SameExpr [.agg e.cells, .agg f.cells] [] = some (.bool (e.same f), []) := fun e he f => ih e f (by have := Ex.sizes_mem he; omega) (by omega)
    rw [eval_M rfl rfl t_flotsamref16_SameExpr rfl]
    by_cases h1 : op = op'
    · by_cases h2 : w = w'
      · by_cases h3 : s = s'
        · by_cases h4 : x.length = x'.length
          · have h4' : (x.length : Int) = x'.length := by omega
            simp [c_flotsamref16_SameExpr, Ex.cells, h1, h2, h3, h4', Ex.rows_len]
            refine SameExpr_loop _ _ _ _ _ _ _ x x' (by omega) h4.symm hf _ _ (fun φ' g hs => ?_) (fun φ' hs => ?_) x.length 0 _ (by omega) (by simp) (by simp) (by simp) (by simp)
            · simp [g, Ex.same, hs]
            · simp [r_flotsamref16_SameExpr_0, Ex.same, hs]
          · have h4' : ¬ (x.length : Int) = x'.length := by omega
            simp [c_flotsamref16_SameExpr, Ex.cells, h1, h2, h3, h4', Ex.rows_len, Ex.same, Ex.sames_len h4]
        · simp [c_flotsamref16_SameExpr, Ex.cells, h1, h2, h3, Ex.same]
      · simp [c_flotsamref16_SameExpr, Ex.cells, h1, h2, Ex.same]
    · simp [c_flotsamref16_SameExpr, Ex.cells, h1, Ex.same]

theorem SameStmt_loop (call : CallF) (a0 a1 a2 a4 a5 a6 b0 b1 b2 b4 b5 b6 : V) (l m : List Ex) (hl : l.length ≤ 20000) (hm : m.length = l.length)
    (hf : ∀ e ∈ l, ∀ f, call n_flotsamref16_SameExpr [.agg e.cells, .agg f.cells] [] = some (.bool (e.same f), [])) (R : Option (V × Heap)) (k : List Item)
    (hret : ∀ φ' , Fr.get φ' 4 = .bool false → Ex.sames l m = false → retK k φ' [some [a0, a1, a2, .sl 4 (Ex.rows l), a4, a5, a6], some [b0, b1, b2, .sl 4 (Ex.rows m), b4, b5, b6]] = R)
    (hexit : ∀ φ', Fr.get φ' 2 = .ptr 0 0 → Fr.get φ' 3 = .ptr 1 0 → Ex.sames l m = true → M call k φ' [some [a0, a1, a2, .sl 4 (Ex.rows l), a4, a5, a6], some [b0, b1, b2, .sl 4 (Ex.rows m), b4, b5, b6]] = R) :
    ∀ (j i : Nat) (φ : Fr), i + j = l.length → Fr.get φ 2 = .ptr 0 0 → Fr.get φ 3 = .ptr 1 0 → Fr.get φ 5 = .int .i64 i → Ex.sames l m = Ex.sames (l.drop i) (m.drop i) →
      M call (.code l_flotsamref16_SameStmt_0 :: .blk 0 :: k) φ [some [a0, a1, a2, .sl 4 (Ex.rows l), a4, a5, a6], some [b0, b1, b2, .sl 4 (Ex.rows m), b4, b5, b6]] = R := by
  intro j
  induction j with
  | zero =>
    intro i φ hj h2 h3 h5 hs
    have hi : ¬ ((i : Int) < l.length) := by omega
    rw [List.drop_of_length_le (by omega), List.drop_of_length_le (by omega)] at hs
    rw [l_flotsamref16_SameStmt_0, M_loop, ← l_flotsamref16_SameStmt_0]
    simp [b_flotsamref16_SameStmt_0, h2, h3, h5, hi, Ex.rows_len]
    exact hexit _ (by simp [h2]) (by simp [h3]) (by rw [hs]; rfl)
  | succ j ih =>
    intro i φ hj h2 h3 h5 hs
    have hi : (i : Int) < l.length := by omega
    have hi' : (i : Int) < m.length := by omega
    obtain ⟨e, he, hmem, hd⟩ := at_some (l := l) (i := i) (by omega)
    obtain ⟨f, hf', hmem', hd'⟩ := at_some (l := m) (i := i) (by omega)
    have hre := Ex.rows_at he
    have hrf := Ex.rows_at hf'
    have hw : IntKind.i64.wrap ((i : Int) + 1) = ((i + 1 : Nat) : Int) := by rw [w64 (by omega) (by omega)]; rfl
    have hcall := hf e hmem f
    rw [hd, hd', Ex.sames] at hs
    obtain ⟨c0, c1, c2, c3, hc⟩ := e.cells_shape
    obtain ⟨d0, d1, d2, d3, hd0⟩ := f.cells_shape
    rw [hc, hd0] at hcall
    rw [hc] at hre
    rw [hd0] at hrf
    rw [l_flotsamref16_SameStmt_0, M_loop, ← l_flotsamref16_SameStmt_0]
    cases hb : e.same f with
    | false =>
      rw [hb, Bool.false_and] at hs
      rw [hb] at hcall
      simp [b_flotsamref16_SameStmt_0, h2, h3, h5, hi, Ex.rows_len, hi', hre, hrf, hcall]
      exact hret _ (by simp) hs
    | true =>
      rw [hb, Bool.true_and] at hs
      rw [hb] at hcall
      simp [b_flotsamref16_SameStmt_0, h2, h3, h5, hi, Ex.rows_len, hi', hre, hrf, hcall, hw]
      exact ih (i + 1) _ (by omega) (by simp [h2]) (by simp [h3]) (by simp) hs

theorem SameStmts_loop (call : CallF) (l m : List Sm) (hl : l.length ≤ 20000) (hm : m.length = l.length)
    (hf : ∀ e ∈ l, ∀ f, call n_flotsamref16_SameStmt [.agg e.cells, .agg f.cells] [] = some (.bool (e.same f), [])) (R : Option (V × Heap)) (k : List Item)
    (hret : ∀ φ' , Fr.get φ' 4 = .bool false → Sm.sames l m = false → retK k φ' [] = R)
    (hexit : ∀ φ', Sm.sames l m = true → M call k φ' [] = R) :
    ∀ (j i : Nat) (φ : Fr), i + j = l.length → Fr.get φ 0 = .sl 7 (Sm.rows l) → Fr.get φ 1 = .sl 7 (Sm.rows m) → Fr.get φ 5 = .int .i64 i → Sm.sames l m = Sm.sames (l.drop i) (m.drop i) →
      M call (.code l_flotsamref16_SameStmts_0 :: .blk 0 :: k) φ [] = R := by
  intro j
  induction j with
  | zero =>
    intro i φ hj h2 h3 h5 hs
    have hi : ¬ ((i : Int) < l.length) := by omega
    rw [List.drop_of_length_le (by omega), List.drop_of_length_le (by omega)] at hs
    rw [l_flotsamref16_SameStmts_0, M_loop, ← l_flotsamref16_SameStmts_0]
    simp [b_flotsamref16_SameStmts_0, h2, h3, h5, hi, Sm.rows_len]
    exact hexit _ (by rw [hs]; rfl)
  | succ j ih =>
    intro i φ hj h2 h3 h5 hs
    have hi : (i : Int) < l.length := by omega
    have hi' : (i : Int) < m.length := by omega
    obtain ⟨e, he, hmem, hd⟩ := at_some (l := l) (i := i) (by omega)
    obtain ⟨f, hf', hmem', hd'⟩ := at_some (l := m) (i := i) (by omega)
    have hre := Sm.rows_at he
    have hrf := Sm.rows_at hf'
    have hw : IntKind.i64.wrap ((i : Int) + 1) = ((i + 1 : Nat) : Int) := by rw [w64 (by omega) (by omega)]; rfl
    have hcall := hf e hmem f
    rw [hd, hd', Sm.sames] at hs
    obtain ⟨c0, c1, c2, c3, c4, c5, c6, hc⟩ := e.cells_shape
    obtain ⟨d0, d1, d2, d3, d4, d5, d6, hd0⟩ := f.cells_shape
    rw [hc, hd0] at hcall
    rw [hc] at hre
    rw [hd0] at hrf
    rw [l_flotsamref16_SameStmts_0, M_loop, ← l_flotsamref16_SameStmts_0]
    cases hb : e.same f with
    | false =>
      rw [hb, Bool.false_and] at hs
      rw [hb] at hcall
      simp [b_flotsamref16_SameStmts_0, h2, h3, h5, hi, Sm.rows_len, hi', hre, hrf, hcall]
      exact hret _ (by simp) hs
    | true =>
      rw [hb, Bool.true_and] at hs
      rw [hb] at hcall
      simp [b_flotsamref16_SameStmts_0, h2, h3, h5, hi, Sm.rows_len, hi', hre, hrf, hcall, hw]
      exact ih (i + 1) _ (by omega) (by simp [h2]) (by simp [h3]) (by simp) hs

theorem SameStmts_step (l m : List Sm) (hl : l.length ≤ 20000)
    (hf : ∀ e ∈ l, ∀ f, eval tbl noExt n_flotsamref16_SameStmt [.agg e.cells, .agg f.cells] [] = some (.bool (e.same f), [])) :
    eval tbl noExt n_flotsamref16_SameStmts [.sl 7 (Sm.rows l), .sl 7 (Sm.rows m)] [] = some (.bool (Sm.sames l m), []) := by
  rw [eval_M rfl rfl t_flotsamref16_SameStmts rfl]
  by_cases h4 : l.length = m.length
  · have h4' : (l.length : Int) = m.length := by omega
    simp [c_flotsamref16_SameStmts, h4', Sm.rows_len]
    refine SameStmts_loop _ l m (by omega) h4.symm hf _ _ (fun φ' g hs => ?_) (fun φ' hs => ?_) l.length 0 _ (by omega) (by simp) (by simp) (by simp) (by simp)
    · simp [g, hs]
    · simp [r_flotsamref16_SameStmts_0, hs]
  · have h4' : ¬ (l.length : Int) = m.length := by omega
    simp [c_flotsamref16_SameStmts, h4', Sm.rows_len, Sm.sames_len h4]

theorem SameStmt_eq : ∀ (n : Nat) (a b : Sm), a.size ≤ n → n ≤ 20000 → eval tbl noExt n_flotsamref16_SameStmt [.agg a.cells, .agg b.cells] [] = some (.bool (a.same b), []) := by
  intro n
  induction n with
  | zero => intro a b h; cases a; simp only [Sm.size] at h; omega
  | succ n ih =>
    intro a b h hn
    obtain ⟨op, s, w, x, y, z, g⟩ := a
    obtain ⟨op', s', w', x', y', z', g'⟩ := b
    simp only [Sm.size] at h
    have hx := Ex.sizes_ge x
    have hy := Sm.sizes_ge y
    have hz := Sm.sizes_ge z
    have hf : ∀ e ∈ x, ∀ f, eval tbl noExt n_flotsamref16_SameExpr [.agg e.cells, .agg f.cells] [] = some (.bool (e.same f), []) := fun e he f => SameExpr_eq 20000 e f (by have := Ex.sizes_mem he; omega) (by omega)
    have e1 := SameStmts_step y y' (by omega) (fun e he f => ih e f (by have := Sm.sizes_mem he; omega) (by omega))
    have e2 := SameStmts_step z z' (by omega) (fun e he f => ih e f (by have := Sm.sizes_mem he; omega) (by omega))
    rw [eval_M rfl rfl t_flotsamref16_SameStmt rfl]
    by_cases h1 : op = op'
    · by_cases h2 : s = s'
      · by_cases h3 : w = w'
        · by_cases h5 : g = g'
          · by_cases h4 : x.length = x'.length
            · have h4' : (x.length : Int) = x'.length := by omega
              simp [c_flotsamref16_SameStmt, Sm.cells, h1, h2, h3, h4', h5, Ex.rows_len]
              refine SameStmt_loop _ _ _ _ _ _ _ _ _ _ _ _ _ x x' (by omega) h4.symm hf _ _ (fun φ' q hs => ?_) (fun φ' q2 q3 hs => ?_) x.length 0 _ (by omega) (by simp) (by simp) (by simp) (by simp)
              · simp [q, Sm.same, hs]
              · cases hv : Sm.sames y y' <;> simp [r_flotsamref16_SameStmt_0, Sm.same, hs, q2, q3, e1, e2, hv]
            · have h4' : ¬ (x.length : Int) = x'.length := by omega
              simp [c_flotsamref16_SameStmt, Sm.cells, h1, h2, h3, h4', h5, Ex.rows_len, Sm.same, Ex.sames_len h4]
          · simp [c_flotsamref16_SameStmt, Sm.cells, h1, h2, h3, h5, Sm.same]
        · simp [c_flotsamref16_SameStmt, Sm.cells, h1, h2, h3, Sm.same]
      · simp [c_flotsamref16_SameStmt, Sm.cells, h1, h2, Sm.same]
    · simp [c_flotsamref16_SameStmt, Sm.cells, h1, Sm.same]

theorem SameStmts_eq (l m : List Sm) (hl : l.length ≤ 20000) (he : ∀ e ∈ l, e.size ≤ 20000) :
    eval tbl noExt n_flotsamref16_SameStmts [.sl 7 (Sm.rows l), .sl 7 (Sm.rows m)] [] = some (.bool (Sm.sames l m), []) :=
  SameStmts_step l m hl fun e h f => SameStmt_eq 20000 e f (he e h) (Nat.le_refl _)


/-! The document's lists. -/
end Go.AM.Spec

namespace Go.AM.Spec
set_option linter.unusedVariables false
set_option linter.unusedSimpArgs false
set_option maxHeartbeats 1000000

mutual
/-- Are all texts short? -/
def Ex.txt : Ex → Prop
  | .mk _ _ s x => s.length ≤ 300 ∧ Ex.txts x
def Ex.txts : List Ex → Prop
  | [] => True
  | e :: l => e.txt ∧ Ex.txts l
end
mutual
def Sm.txt : Sm → Prop
  | .mk _ s _ e b c _ => s.length ≤ 300 ∧ Ex.txts e ∧ Sm.txts b ∧ Sm.txts c
def Sm.txts : List Sm → Prop
  | [] => True
  | e :: l => e.txt ∧ Sm.txts l
end

theorem Ex.sizes_append (a b : List Ex) : Ex.sizes (a ++ b) = Ex.sizes a + Ex.sizes b := by
  induction a with
  | nil => simp [Ex.sizes]
  | cons e l ih => simp only [List.cons_append, Ex.sizes, ih]; omega
def Pg.bodies (p : Pg) : List (List Sm) := p.procs.map (·.2)
def Pg.exprs (p : Pg) : List Ex := p.oracles.map (·.2)

theorem Pg.size_eq (p : Pg) : p.size = p.procs.length + p.oracles.length + Sm.sizes p.bodies.flatten + Sm.sizes p.main + Sm.sizes p.recover + Ex.sizes p.exprs := by
  have h : ∀ l : List (List UInt8 × List Sm), Sm.sizes (l.map (·.2)).flatten + l.length = (l.map fun x => 1 + Sm.sizes x.2).sum := by
    intro l
    induction l with
    | nil => rfl
    | cons x l ih => simp only [List.map_cons, List.flatten_cons, Go.AM.Spec.sizes_append, List.length_cons, List.sum_cons]; omega
  have h2 : ∀ l : List (List UInt8 × Ex), Ex.sizes (l.map (·.2)) + l.length = (l.map fun x => 1 + x.2.size).sum := by
    intro l
    induction l with
    | nil => rfl
    | cons x l ih => simp only [List.map_cons, Ex.sizes, List.length_cons, List.sum_cons]; omega
  have := h p.procs
  have := h2 p.oracles
  simp only [Pg.size, Pg.psize, Pg.osize, Pg.bodies, Pg.exprs]
  omega

/-- Are all its texts short? -/
def Pg.txt (p : Pg) : Prop := (∀ x ∈ p.procs, x.1.length ≤ 300 ∧ Sm.txts x.2) ∧ Sm.txts p.main ∧ Sm.txts p.recover ∧ (∀ x ∈ p.oracles, x.1.length ≤ 300 ∧ x.2.txt)

theorem Pg.orow {p : Pg} {i : Nat} {e : List UInt8 × Ex} (he : p.oracles[i]? = some e) : p.ocells[i]? = some (.str e.1 :: e.2.cells) := by rw [Pg.ocells, List.getElem?_map, he]; rfl

end Go.AM.Spec

namespace Go.AM.Spec
set_option linter.unusedVariables false
set_option linter.unusedSimpArgs false
set_option maxHeartbeats 4000000
set_option maxRecDepth 10000

theorem refSame_oracles (p : Pg) (hol : p.oracles.length ≤ 20000) (ho : ∀ x ∈ p.oracles, x.2.size ≤ 20000) :
    ∀ (j i : Nat) (φ : Fr), i + j = p.oracles.length → Fr.get φ 2 = .ptr 0 0 → Fr.get φ 3 = .ptr 1 0 → Fr.get φ 6 = .int .i64 i →
      M (eval tbl noExt) [.code l_flotsamref16_Same_1, .blk 2, .code r_flotsamref16_Same_0, .fin [.t 4] 0] φ [some p.cells, some p.cells] = some (.bool true, []) := by
  intro j
  have hpc : p.cells = [.sl 2 p.pcells, .sl 7 (Sm.rows p.main), .sl 7 (Sm.rows p.recover), .sl 5 p.ocells] := rfl
  have hl := p.ocells_len
  induction j with
  | zero =>
    intro i φ hj h2 h3 h6
    have hi : ¬ ((i : Int) < p.oracles.length) := by omega
    rw [l_flotsamref16_Same_1, M_loop]
    simp [b_flotsamref16_Same_1, r_flotsamref16_Same_0, hpc, h2, h3, h6, hi, hl]
  | succ j ih =>
    intro i φ hj h2 h3 h6
    have hi : (i : Int) < p.oracles.length := by omega
    obtain ⟨x, hx, hmem, hd⟩ := at_some (l := p.oracles) (i := i) (by omega)
    have hr := Pg.orow hx
    have hw : IntKind.i64.wrap ((i : Int) + 1) = ((i + 1 : Nat) : Int) := by rw [w64 (by omega) (by omega)]; rfl
    obtain ⟨nm, e⟩ := x
    have hcall := SameExpr_eq 20000 e e (ho _ hmem) (Nat.le_refl _)
    rw [Ex.same_rfl] at hcall
    obtain ⟨c0, c1, c2, c3, hc⟩ := e.cells_shape
    simp only [hc] at hr hcall
    have hn := ih (i + 1)
    rw [hpc] at hn ⊢
    rw [l_flotsamref16_Same_1, M_loop, ← l_flotsamref16_Same_1]
    simp [b_flotsamref16_Same_1, h2, h3, h6, hi, hl, hr, hcall, hw, lt_flotsamref16_SameExpr]
    exact hn _ (by omega) (by simp [h2]) (by simp [h3]) (by simp)

theorem refSame_procs (p : Pg) (hpl : p.procs.length ≤ 20000) (hp : ∀ x ∈ p.procs, Sm.sizes x.2 ≤ 20000) (hol : p.oracles.length ≤ 20000) (ho : ∀ x ∈ p.oracles, x.2.size ≤ 20000) :
    ∀ (j i : Nat) (φ : Fr), i + j = p.procs.length → Fr.get φ 2 = .ptr 0 0 → Fr.get φ 3 = .ptr 1 0 → Fr.get φ 5 = .int .i64 i →
      M (eval tbl noExt) [.code l_flotsamref16_Same_0, .blk 0, .code r_flotsamref16_Same_1, .fin [.t 4] 0] φ [some p.cells, some p.cells] = some (.bool true, []) := by
  intro j
  have hpc : p.cells = [.sl 2 p.pcells, .sl 7 (Sm.rows p.main), .sl 7 (Sm.rows p.recover), .sl 5 p.ocells] := rfl
  have hl := p.pcells_len
  induction j with
  | zero =>
    intro i φ hj h2 h3 h6
    have hi : ¬ ((i : Int) < p.procs.length) := by omega
    have hn := refSame_oracles p hol ho p.oracles.length 0
    rw [hpc] at hn ⊢
    rw [l_flotsamref16_Same_0, M_loop]
    simp [b_flotsamref16_Same_0, r_flotsamref16_Same_1, h2, h3, h6, hi, hl]
    exact hn _ (by omega) (by simp [h2]) (by simp [h3]) (by simp)
  | succ j ih =>
    intro i φ hj h2 h3 h6
    have hi : (i : Int) < p.procs.length := by omega
    obtain ⟨x, hx, hmem, hd⟩ := at_some (l := p.procs) (i := i) (by omega)
    have hr := Pg.prow hx
    have hw : IntKind.i64.wrap ((i : Int) + 1) = ((i + 1 : Nat) : Int) := by rw [w64 (by omega) (by omega)]; rfl
    obtain ⟨nm, e⟩ := x
    have hs := hp _ hmem
    have hcall := SameStmts_eq e e (by have := Sm.sizes_ge e; dsimp only at hs; omega) (fun y hy => by have := Sm.sizes_mem hy; dsimp only at hs; omega)
    rw [Sm.sames_rfl] at hcall
    simp only at hr
    have hn := ih (i + 1)
    rw [hpc] at hn ⊢
    rw [l_flotsamref16_Same_0, M_loop, ← l_flotsamref16_Same_0]
    simp [b_flotsamref16_Same_0, h2, h3, h6, hi, hl, hr, hcall, hw, lt_flotsamref16_SameStmts]
    exact hn _ (by omega) (by simp [h2]) (by simp [h3]) (by simp)

theorem refSame_eq (p : Pg) (h : p.size ≤ 20000) : eval tbl noExt n_flotsamref16_Same [.agg p.cells, .agg p.cells] [] = some (.bool true, []) := by
  have hpc : p.cells = [.sl 2 p.pcells, .sl 7 (Sm.rows p.main), .sl 7 (Sm.rows p.recover), .sl 5 p.ocells] := rfl
  have hs := p.size_eq
  have hb : ∀ b, Sm.sizes b ≤ 20000 → eval tbl noExt n_flotsamref16_SameStmts [.sl 7 (Sm.rows b), .sl 7 (Sm.rows b)] [] = some (.bool true, []) := fun b hb => by
    have := SameStmts_eq b b (by have := Sm.sizes_ge b; omega) (fun y hy => by have := Sm.sizes_mem hy; omega)
    rwa [Sm.sames_rfl] at this
  have h1 := hb p.main (by omega)
  have h2 := hb p.recover (by omega)
  have hp : ∀ x ∈ p.procs, Sm.sizes x.2 ≤ 20000 := fun x hx => by
    have hm : x.2 ∈ p.bodies := by simp only [Pg.bodies, List.mem_map]; exact ⟨x, hx, rfl⟩
    have := sizes_flatten hm
    omega
  have ho : ∀ x ∈ p.oracles, x.2.size ≤ 20000 := fun x hx => by
    have hm : x.2 ∈ p.exprs := by simp only [Pg.exprs, List.mem_map]; exact ⟨x, hx, rfl⟩
    have := Ex.sizes_mem hm
    omega
  have hn := refSame_procs p (by omega) hp (by omega) ho p.procs.length 0
  rw [hpc] at hn ⊢
  rw [eval_M rfl rfl t_flotsamref16_Same rfl]
  simp [c_flotsamref16_Same, h1, h2, lt_flotsamref16_SameStmts]
  exact hn _ (by omega) (by simp) (by simp) (by simp)

end Go.AM.Spec
