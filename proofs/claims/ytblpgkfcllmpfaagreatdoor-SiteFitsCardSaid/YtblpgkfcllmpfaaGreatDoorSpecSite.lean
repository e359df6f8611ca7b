/-
  The parts of this proof that speak of the functions one by one.
-/
import Derived.Test.YtblpgkfcllmpfaaGreatDoorSpc
import Derived.Test.YtblpgkfcllmpfaaGreatDoorTyl
import Derived.Test.YtblpgkfcllmpfaaGreatDoorSpecTree
namespace Go.AM.Spec
set_option linter.unusedVariables false
set_option linter.unusedSimpArgs false

/-- The value of a text behind n, as the code counts it. -/
def val (n : Int) : List UInt8 → Option Int
  | [] => some n
  | c :: cs => if c.toNat < 48 ∨ 57 < c.toNat then none else val (IntKind.i64.wrap (IntKind.i64.wrap (n * 10) + (c.toNat - 48))) cs

@[simp] theorem bytesRows_length (s : List UInt8) : (bytesRows s).length = s.length := by simp [bytesRows]
@[simp] theorem bytesRows_get (s : List UInt8) (i : Nat) : (bytesRows s)[i]? = (s[i]?).map fun b => [V.int .u8 b.toNat] := by simp [bytesRows]

@[simp] theorem bytesRows_getElem (s : List UInt8) (i : Nat) (h : i < (bytesRows s).length) : (bytesRows s)[i] = [V.int .u8 (s[i]'(by simpa using h)).toNat] := by simp [bytesRows]

theorem byte_lt (c : UInt8) : c.toNat < 256 := UInt8.toNat_lt c

/-- What Read answers. -/
def readR (s : List UInt8) : Int × Bool :=
  if s = [] ∨ 13 < s.length ∨ s[0]? = some 48 ∧ s ≠ [48] then (0, false)
  else match val 0 s with
    | none => (0, false)
    | some v => if 1000000000000 < v then (0, false) else (v, true)

end Go.AM.Spec

namespace Go.AM.Spec
set_option linter.unusedVariables false
set_option linter.unusedSimpArgs false

set_option maxHeartbeats 400000
variable (H : Heap) (call : CallF) (R : Option (V × Heap))

theorem read_loop (s : List UInt8) (hs : s.length < 100000) (k : List Item)
    (X : Option Int) (hsome : ∀ v φ', X = some v → Fr.get φ' 4 = .int .i64 v → M call k φ' H = R) (hnone : ∀ φ', X = none → Fr.get φ' 2 = .int .i64 0 → Fr.get φ' 3 = .bool false → retK k φ' H = R) :
    ∀ (j i : Nat) (n : Int) (φ : Fr), i + j = s.length → val n (s.drop i) = X → Fr.get φ 4 = .int .i64 n → Fr.get φ 25 = .own 1 (bytesRows s) → Fr.get φ 26 = .int .i64 s.length → Fr.get φ 27 = .int .i64 i →
    M call (.code l_num_Read_0 :: .blk 0 :: k) φ H = R := by
  intro j
  induction j with
  | zero =>
    intro i n φ hj hv h4 h25 h26 h27
    have hi : ¬ ((i : Int) < s.length) := by omega
    rw [List.drop_eq_nil_of_le (by omega)] at hv
    rw [l_num_Read_0, M_loop]
    simp [b_num_Read_0, h4, h25, h26, h27, hi]
    exact hsome n _ hv.symm (by simp)
  | succ j ih =>
    intro i n φ hj hv h4 h25 h26 h27
    have hi : (i : Int) < s.length := by omega
    have hi' : i < s.length := by omega
    rw [List.drop_eq_getElem_cons hi'] at hv
    have hb := byte_lt s[i]
    have h1 : IntKind.i64.wrap (s[i].toNat : Int) = s[i].toNat := w64 (by omega) (by omega)
    have h2 : IntKind.i64.wrap ((s[i].toNat : Int) - 48) = s[i].toNat - 48 := w64 (by omega) (by omega)
    have h3 : IntKind.i64.wrap ((i : Int) + 1) = (i + 1 : Nat) := by rw [w64] <;> omega
    rw [l_num_Read_0, M_loop, ← l_num_Read_0]
    unfold val at hv
    by_cases hc : s[i].toNat < 48
    · have hc' : (s[i].toNat : Int) - 48 < 0 := by omega
      rw [if_pos (by omega)] at hv
      simp [b_num_Read_0, h4, h25, h26, h27, hi, hi', h1, h2, h3, hc']
      refine hnone _ hv.symm ?_ ?_ <;> simp
    · have hc1' : ¬ (s[i].toNat : Int) - 48 < 0 := by omega
      by_cases hc2 : 57 < s[i].toNat
      · have hc2' : 9 < (s[i].toNat : Int) - 48 := by omega
        rw [if_pos (by omega)] at hv
        simp [b_num_Read_0, h4, h25, h26, h27, hi, hi', h1, h2, h3, hc1', hc2']
        refine hnone _ hv.symm ?_ ?_ <;> simp
      · have hc2' : ¬ 9 < (s[i].toNat : Int) - 48 := by omega
        rw [if_neg (by omega)] at hv
        simp [b_num_Read_0, h4, h25, h26, h27, hi, hi', h1, h2, h3, hc1', hc2']
        refine ih (i + 1) _ _ (by omega) hv ?_ ?_ ?_ ?_ <;> simp

theorem read_eq (s : List UInt8) : eval tbl noExt n_num_Read [.str s] H = some (.tup [.int .i64 (readR s).1, .bool (readR s).2], H) := by
  rw [eval_M rfl rfl t_num_Read rfl]
  unfold readR
  by_cases h0 : s = []
  · simp [c_num_Read, h0]
  · by_cases h1 : 13 < s.length
    · have h1' : (13 : Int) < s.length := by omega
      simp [c_num_Read, h0, h1, h1']
    · have h1' : ¬ (13 : Int) < s.length := by omega
      have hp : 0 < s.length := by
        cases s with
        | nil => exact (h0 rfl).elim
        | cons c cs => simp
      have hg : s[0]? = some s[0] := List.getElem?_eq_getElem hp
      have hl : ((s[0].toNat : Int) = 48) ↔ s[0] = 48 := by
        constructor
        · intro h
          apply UInt8.toNat_inj.1
          have : s[0].toNat = 48 := by omega
          rw [this]; rfl
        · intro h; rw [h]; rfl
      have last : ∀ φ k, k = [Item.code r_num_Read_0, Item.fin [ARes.t 2, ARes.t 3] (List.length H)] → Fr.get φ 4 = .int .i64 0 → Fr.get φ 25 = .own 1 (bytesRows s) → Fr.get φ 26 = .int .i64 s.length → Fr.get φ 27 = .int .i64 0 → 
        M (eval tbl noExt) (.code l_num_Read_0 :: .blk 0 :: k) φ H = some (.tup [.int .i64 (match val 0 s with
          | none => (0, false)
          | some v => if 1000000000000 < v then (0, false) else (v, true)).1, .bool (match val 0 s with
          | none => (0, false)
          | some v => if 1000000000000 < v then (0, false) else (v, true)).2], H) := by
        intro φ k hk h4 h25 h26 h27
        refine read_loop H _ _ s (by omega) _ (val 0 s) ?_ ?_ s.length 0 0 _ (by omega) rfl h4 h25 h26 h27
        · intro v φ' hv h4
          rw [hk, hv]
          by_cases hm : 1000000000000 < v <;> simp [r_num_Read_0, h4, hm]
        · intro φ' hv h2 h3
          rw [hk, hv]
          simp [h2, h3]
      by_cases h2 : s[0] = 48
      · by_cases h3 : s = [48]
        · subst h3
          simp [c_num_Read]
          refine last _ _ rfl ?_ ?_ ?_ ?_ <;> simp
        · simp [c_num_Read, h0, h1, h1', h2, h3, hp, hg, hl]
      · simp [c_num_Read, h0, h1, h1', h2, hp, hg, hl]
        refine last _ _ rfl ?_ ?_ ?_ ?_ <;> simp

end Go.AM.Spec

namespace Go.AM.Spec
set_option linter.unusedVariables false
set_option linter.unusedSimpArgs false

def dig (u : Nat) : UInt8 := UInt8.ofNat (48 + u % 10)

def digs : Nat → Nat → List UInt8 → List UInt8
  | 0, _, acc => acc
  | k + 1, u, acc => if u / 10 = 0 then dig u :: acc else digs k (u / 10) (dig u :: acc)

def byteVs (txt : List UInt8) : List V := txt.map fun c => .int .u8 c.toNat

def cells20 (txt : List UInt8) : List V := List.replicate (20 - txt.length) (.int .u8 0) ++ byteVs txt

theorem cells20_length {txt : List UInt8} (h : txt.length ≤ 20) : (cells20 txt).length = 20 := by simp [cells20, byteVs]; omega

theorem cells20_set {txt : List UInt8} (h : txt.length < 20) (c : UInt8) : (cells20 txt).set (19 - txt.length) (.int .u8 c.toNat) = cells20 (c :: txt) := by
  unfold cells20
  obtain ⟨m, hm⟩ : ∃ m, 20 - txt.length = m + 1 := ⟨19 - txt.length, by omega⟩
  have h1 : 19 - txt.length = m := by omega
  have h2 : 20 - (c :: txt).length = m := by simp; omega
  rw [hm, h1, h2, List.replicate_succ', List.append_assoc, List.set_append_right _ _ (by simp)]
  simp [byteVs]

theorem digs_length (k u : Nat) (acc : List UInt8) : (digs k u acc).length ≤ k + acc.length := by
  induction k generalizing u acc with
  | zero => simp [digs]
  | succ k ih =>
    unfold digs
    split
    · simp; omega
    · have := ih (u / 10) (dig u :: acc)
      simp at this; omega

theorem digit_u8 (u : Nat) : IntKind.u8.wrap (IntKind.u64.wrap (48 + (u : Int) % 10)) = (dig u).toNat := by
  unfold dig
  rw [IntKind.wrap_u64, IntKind.wrap_u8]
  have : (UInt8.ofNat (48 + u % 10)).toNat = 48 + u % 10 := by
    rw [UInt8.toNat_ofNat']; omega
  rw [this]; omega

set_option maxHeartbeats 400000
variable (H : Heap) (call : CallF) (R : Option (V × Heap))

theorem digits_loop (n : Int) (k : List Item) (X : List UInt8) (hk : ∀ φ', Fr.get φ' 0 = .int .i64 n → Fr.get φ' 3 = .ptr H.length 0 → Fr.get φ' 4 = .int .i64 (20 - X.length : Nat) → M call k φ' (H ++ [some (cells20 X)]) = R) :
    ∀ (j u : Nat) (txt : List UInt8) (φ : Fr), u < 10 ^ (j + 1) → u < 18446744073709551616 → txt.length + j + 1 ≤ 20 → digs (j + 1) u txt = X → Fr.get φ 0 = .int .i64 n → Fr.get φ 3 = .ptr H.length 0 → Fr.get φ 4 = .int .i64 (20 - txt.length : Nat) → Fr.get φ 5 = .int .u64 u →
    M call (.code l_num_Digits_0 :: .blk 0 :: k) φ (H ++ [some (cells20 txt)]) = R := by
  intro j
  induction j with
  | zero =>
    intro u txt φ hu hu2 ht hX h0 h3 h4 h5
    have e1 : (u : Int).tmod 10 = (u : Int) % 10 := by rw [Int.tmod_eq_emod_of_nonneg (by omega)]
    have e0 : IntKind.u64.wrap 0 = 0 := by rw [IntKind.wrap_u64]; rfl
    have e2 : IntKind.u64.wrap ((u : Int) / 10) = (u : Int) / 10 := by rw [IntKind.wrap_u64]; omega
    have e3 : IntKind.i64.wrap (((20 - txt.length : Nat) : Int) - 1) = (19 - txt.length : Nat) := by rw [w64] <;> omega
    have e4 : ((19 - txt.length : Nat) : Int) < 20 := by omega
    have e5 : (u : Int) / 10 = 0 := by omega
    have hl := cells20_length (txt := txt) (by omega)
    have e6 : 19 - txt.length + 1 ≤ 20 := by omega
    have e7 := cells20_set (txt := txt) (by omega)
    unfold digs at hX
    rw [if_pos (by omega)] at hX
    rw [l_num_Digits_0, M_loop, ← l_num_Digits_0]
    simp [b_num_Digits_0, h0, h3, h4, h5, e0, e1, e2, e3, e4, e5, e6, e7, hl, digit_u8, V.cells, V.one, setMany, hX]
    refine hk _ ?_ ?_ ?_ <;> simp [← hX] <;> omega
  | succ j ih =>
    intro u txt φ hu hu2 ht hX h0 h3 h4 h5
    have e1 : (u : Int).tmod 10 = (u : Int) % 10 := by rw [Int.tmod_eq_emod_of_nonneg (by omega)]
    have e0 : IntKind.u64.wrap 0 = 0 := by rw [IntKind.wrap_u64]; rfl
    have e2 : IntKind.u64.wrap ((u : Int) / 10) = (u : Int) / 10 := by rw [IntKind.wrap_u64]; omega
    have e3 : IntKind.i64.wrap (((20 - txt.length : Nat) : Int) - 1) = (19 - txt.length : Nat) := by rw [w64] <;> omega
    have e4 : ((19 - txt.length : Nat) : Int) < 20 := by omega
    have hl := cells20_length (txt := txt) (by omega)
    have e6 : 19 - txt.length + 1 ≤ 20 := by omega
    have e7 := cells20_set (txt := txt) (by omega)
    unfold digs at hX
    rw [l_num_Digits_0, M_loop, ← l_num_Digits_0]
    by_cases hq : u / 10 = 0
    · have e5 : (u : Int) / 10 = 0 := by omega
      rw [if_pos hq] at hX
      simp [b_num_Digits_0, h0, h3, h4, h5, e0, e1, e2, e3, e4, e5, e6, e7, hl, digit_u8, V.cells, V.one, setMany, hX]
      refine hk _ ?_ ?_ ?_ <;> simp [← hX] <;> omega
    · have e5 : ¬ (u : Int) / 10 = 0 := by omega
      rw [if_neg hq] at hX
      simp [b_num_Digits_0, h0, h3, h4, h5, e0, e1, e2, e3, e4, e5, e6, e7, hl, digit_u8, V.cells, V.one, setMany]
      refine ih (u / 10) (dig u :: txt) _ ?_ ?_ ?_ hX ?_ ?_ ?_ ?_ <;> first | omega | (simp; done) | (simp; omega)

theorem chunk_bytes (pre : List V) (X : List UInt8) : rowsBytes (chunk 1 (pre ++ byteVs X) pre.length X.length) = some X := by
  induction X generalizing pre with
  | nil => rfl
  | cons c X ih =>
    have h1 := ih (pre ++ [.int .u8 c.toNat])
    have h2 : pre ++ byteVs (c :: X) = (pre ++ [V.int .u8 c.toNat]) ++ byteVs X := by simp [byteVs]
    have hc := byte_lt c
    rw [List.length_cons, chunk, h2]
    have h3 : (((pre ++ [V.int .u8 c.toNat]) ++ byteVs X).drop pre.length).take 1 = [V.int .u8 c.toNat] := by simp
    rw [h3]
    simp only [List.length_append, List.length_singleton] at h1
    unfold rowsBytes
    rw [if_pos (by omega), h1]
    simp

theorem cells20_bytes (X : List UInt8) : rowsBytes (chunk 1 ((cells20 X).map V.strip) (20 - X.length) X.length) = some X := by
  have h : (cells20 X).map V.strip = List.replicate (20 - X.length) (V.int .u8 0) ++ byteVs X := by
    simp [cells20, byteVs, V.strip, Function.comp_def]
  have := chunk_bytes (List.replicate (20 - X.length) (V.int .u8 0)) X
  rw [List.length_replicate] at this
  rw [h, this]

theorem digs_pos (k u : Nat) (acc : List UInt8) : acc.length < (digs (k + 1) u acc).length := by
  induction k generalizing u acc with
  | zero => unfold digs; split <;> simp [digs]
  | succ k ih =>
    unfold digs
    split
    · simp
    · have := ih (u / 10) (dig u :: acc)
      simp at this; omega

/-- A number as a text. -/
def text (n : Int) : List UInt8 := if n < 0 then 45 :: digs 19 (-n).toNat [] else digs 19 n.toNat []

theorem digits_eq (n : Int) (h1 : -9223372036854775808 ≤ n) (h2 : n ≤ 9223372036854775807) : eval tbl noExt n_num_Digits [.int .i64 n] H = some (.str (text n), H) := by
  rw [eval_M rfl rfl t_num_Digits rfl]
  unfold text
  by_cases hn : n < 0
  · obtain ⟨X, hX⟩ : ∃ X, X = digs 19 (-n).toNat [] := ⟨_, rfl⟩
    have hl := digs_length 19 (-n).toNat []
    have hp := digs_pos 18 (-n).toNat []
    rw [← hX] at hl hp ⊢
    have e1 : IntKind.u64.wrap (-IntKind.u64.wrap n) = ((-n).toNat : Int) := by rw [IntKind.wrap_u64, IntKind.wrap_u64]; omega
    simp at hl hp
    simp [c_num_Digits, hn, e1]
    refine digits_loop H _ _ n _ X ?_ 18 (-n).toNat [] _ (by omega) (by omega) (by simp) hX.symm ?_ ?_ ?_ ?_
    · intro φ' h0 h3 h4
      have e3 : IntKind.i64.wrap (((20 - X.length : Nat) : Int) - 1) = (19 - X.length : Nat) := by rw [w64] <;> omega
      have e4 : ((19 - X.length : Nat) : Int) < 20 := by omega
      have e5 : ((19 - X.length : Nat) : Int) ≤ 20 := by omega
      have e6 : 19 - X.length + 1 ≤ 20 := by omega
      have e7 := cells20_set (txt := X) (by omega) 45
      have e8 : ¬ 20 = 19 - X.length := by omega
      have e9 := cells20_length (txt := 45 :: X) (by simp; omega)
      have e10 : 19 - X.length + (20 - (19 - X.length)) ≤ 20 := by omega
      have e11 := cells20_bytes (45 :: X)
      have e12 : 20 - (45 :: X).length = 19 - X.length := by rw [List.length_cons]; omega
      have e13 : (45 :: X).length = 20 - (19 - X.length) := by rw [List.length_cons]; omega
      rw [e12, e13] at e11
      have hl' := cells20_length (txt := X) (by omega)
      have e7' : (cells20 X).set (19 - X.length) (V.int IntKind.u8 45) = cells20 (45 :: X) := e7
      simp [r_num_Digits_0, h0, h3, h4, hn, e3, e4, e5, e6, e7', e8, e9, e10, hl', V.cells, V.one, setMany, rowsOf, e11]
    · simp
    · simp
    · simp
    · simp
  · obtain ⟨X, hX⟩ : ∃ X, X = digs 19 n.toNat [] := ⟨_, rfl⟩
    have hl := digs_length 19 n.toNat []
    have hp := digs_pos 18 n.toNat []
    rw [← hX] at hl hp ⊢
    have e1 : IntKind.u64.wrap n = (n.toNat : Int) := by rw [IntKind.wrap_u64]; omega
    simp at hl hp
    simp [c_num_Digits, hn, e1]
    refine digits_loop H _ _ n _ X ?_ 18 n.toNat [] _ (by omega) (by omega) (by simp) hX.symm ?_ ?_ ?_ ?_
    · intro φ' h0 h3 h4
      have e5 : ((20 - X.length : Nat) : Int) ≤ 20 := by omega
      have e8 : ¬ 20 = 20 - X.length := by omega
      have e9 := cells20_length (txt := X) (by omega)
      have e10 : 20 - X.length + X.length ≤ 20 := by omega
      have e11 := cells20_bytes X
      have e13 : X.length = 20 - (20 - X.length) := by omega
      have e14 : 20 - (20 - X.length) = X.length := by omega
      simp [r_num_Digits_0, h0, h3, h4, hn, e5, e8, e9, e10, rowsOf, e14, e11]
    · simp
    · simp
    · simp
    · simp

end Go.AM.Spec

namespace Go.AM.Spec
set_option linter.unusedVariables false
set_option linter.unusedSimpArgs false

def stepN (n : Nat) (c : UInt8) : Nat := n * 10 + (c.toNat - 48)

def valN (n : Nat) (s : List UInt8) : Nat := s.foldl stepN n

theorem valN_nil (n : Nat) : valN n [] = n := rfl

theorem valN_cons (n : Nat) (c : UInt8) (cs : List UInt8) : valN n (c :: cs) = valN (n * 10 + (c.toNat - 48)) cs := by
  have : n * 10 + (c.toNat - 48) = stepN n c := by rw [stepN]
  rw [this]; rfl

def isDigit (c : UInt8) : Prop := 48 ≤ c.toNat ∧ c.toNat ≤ 57

/-- Digits without a zero in front. -/
def Good (s : List UInt8) : Prop := s ≠ [] ∧ (∀ c ∈ s, isDigit c) ∧ (s.head? = some 48 → s = [48])

theorem valN_append (s : List UInt8) (c : UInt8) (n : Nat) : valN n (s ++ [c]) = valN n s * 10 + (c.toNat - 48) := by
  have : ∀ m, m * 10 + (c.toNat - 48) = stepN m c := fun m => by rw [stepN]
  rw [this]
  simp [valN]

theorem valN_ge (n : Nat) (s : List UInt8) : n * 10 ^ s.length ≤ valN n s := by
  induction s generalizing n with
  | nil => simp [valN_cons, valN_nil]
  | cons x s ih =>
    have := ih (n * 10 + (x.toNat - 48))
    rw [valN_cons]
    refine Nat.le_trans ?_ this
    rw [List.length_cons, Nat.pow_succ, Nat.mul_comm (10 ^ s.length) 10, ← Nat.mul_assoc]
    exact Nat.mul_le_mul_right _ (Nat.le_add_right _ _)

theorem valN_lt (n : Nat) (s : List UInt8) (h : ∀ c ∈ s, isDigit c) : valN n s < (n + 1) * 10 ^ s.length := by
  induction s generalizing n with
  | nil => simp [valN_cons, valN_nil]
  | cons x s ih =>
    have h1 := ih (n * 10 + (x.toNat - 48)) (fun c hc => h c (by simp [hc]))
    have h2 := h x (by simp)
    rw [valN_cons]
    refine Nat.lt_of_lt_of_le h1 ?_
    rw [List.length_cons, Nat.pow_succ, Nat.mul_comm (10 ^ s.length) 10, ← Nat.mul_assoc]
    refine Nat.mul_le_mul_right _ ?_
    unfold isDigit at h2
    omega

theorem val_some (n : Nat) (s : List UInt8) (h : ∀ c ∈ s, isDigit c) (a : Nat) (hn : n < 10 ^ a) (ha : a + s.length ≤ 18) : val n s = some (valN n s : Int) := by
  induction s generalizing n a with
  | nil => rfl
  | cons c s ih =>
    have hc := h c (by simp)
    unfold isDigit at hc
    rw [valN_cons]
    unfold val
    rw [if_neg (by omega)]
    simp only [List.length_cons] at ha
    have h18 : 10 ^ (a + 1) ≤ 10 ^ 18 := Nat.pow_le_pow_right (by omega) (by omega)
    have hp : 10 ^ (a + 1) = 10 * 10 ^ a := by rw [Nat.pow_succ, Nat.mul_comm]
    have e : (10 : Nat) ^ 18 = 1000000000000000000 := by decide
    rw [w64 (n := (n : Int) * 10) (by omega) (by omega), w64 (n := (n : Int) * 10 + ((c.toNat : Int) - 48)) (by omega) (by omega)]
    have e2 : (n : Int) * 10 + ((c.toNat : Int) - 48) = ((n * 10 + (c.toNat - 48) : Nat) : Int) := by omega
    rw [e2]
    exact ih (n * 10 + (c.toNat - 48)) (fun c hc => h c (by simp [hc])) (a + 1) (by omega) (by omega)

theorem val_digits (n : Int) (s : List UInt8) {v : Int} (h : val n s = some v) : ∀ c ∈ s, isDigit c := by
  induction s generalizing n with
  | nil => intro c hc; cases hc
  | cons x s ih =>
    unfold val at h
    split at h
    · cases h
    · intro c hc
      rcases List.mem_cons.1 hc with rfl | hc
      · unfold isDigit; omega
      · exact ih _ h c hc

theorem dig_toNat (u : Nat) : (dig u).toNat = 48 + u % 10 := by unfold dig; rw [UInt8.toNat_ofNat']; omega

theorem dig_of (v : Nat) (c : UInt8) (hc : isDigit c) : dig (v * 10 + (c.toNat - 48)) = c := by
  unfold isDigit at hc
  apply UInt8.toNat_inj.1
  rw [dig_toNat]; omega

theorem good_pos {s : List UInt8} (h : Good s) (hl : 1 < s.length) : 0 < valN 0 s := by
  obtain ⟨h1, h2, h3⟩ := h
  cases s with
  | nil => exact (h1 rfl).elim
  | cons c s =>
    have hc := h2 c (by simp)
    unfold isDigit at hc
    have hne : c.toNat ≠ 48 := by
      intro he
      have : c = 48 := UInt8.toNat_inj.1 he
      have := h3 (by simp [this])
      simp at this
      simp [this.2] at hl
    rw [valN_cons]
    have := valN_ge (0 * 10 + (c.toNat - 48)) s
    have hp : 0 < 10 ^ s.length := Nat.pow_pos (by omega)
    have : 1 * 10 ^ s.length ≤ (0 * 10 + (c.toNat - 48)) * 10 ^ s.length := Nat.mul_le_mul_right _ (by omega)
    omega

theorem good_ge {s : List UInt8} (h : Good s) (hl : 1 < s.length) : 10 ^ (s.length - 1) ≤ valN 0 s := by
  obtain ⟨h1, h2, h3⟩ := h
  cases s with
  | nil => exact (h1 rfl).elim
  | cons c s =>
    have hc := h2 c (by simp)
    unfold isDigit at hc
    have hne : c.toNat ≠ 48 := by
      intro he
      have : c = 48 := UInt8.toNat_inj.1 he
      have := h3 (by simp [this])
      simp at this
      simp [this.2] at hl
    rw [valN_cons]
    have := valN_ge (0 * 10 + (c.toNat - 48)) s
    have : 1 * 10 ^ s.length ≤ (0 * 10 + (c.toNat - 48)) * 10 ^ s.length := Nat.mul_le_mul_right _ (by omega)
    simp only [List.length_cons, Nat.add_sub_cancel]
    omega

theorem good_init {s : List UInt8} {c : UInt8} (h : Good (s ++ [c])) (hs : s ≠ []) : Good s := by
  obtain ⟨h1, h2, h3⟩ := h
  refine ⟨hs, fun x hx => h2 x (by simp [hx]), fun he => ?_⟩
  cases s with
  | nil => exact (hs rfl).elim
  | cons x s =>
    have := h3 (by simpa using he)
    simp at this

theorem digs_good (k : Nat) : ∀ (s acc : List UInt8), Good s → s.length ≤ k → digs k (valN 0 s) acc = s ++ acc := by
  induction k with
  | zero =>
    intro s acc h hl
    have : s = [] := List.eq_nil_of_length_eq_zero (by omega)
    exact (h.1 this).elim
  | succ k ih =>
    intro s acc h hl
    obtain ⟨t, c, rfl⟩ : ∃ t c, s = t ++ [c] := ⟨s.dropLast, s.getLast h.1, (List.dropLast_concat_getLast h.1).symm⟩
    have hc := h.2.1 c (by simp)
    rw [valN_append t c 0]
    unfold digs
    rw [dig_of _ _ hc]
    unfold isDigit at hc
    by_cases ht : t = []
    · subst ht
      rw [if_pos (by simp [valN_cons, valN_nil]; omega)]
      simp
    · have hg := good_init h ht
      have hq : (valN 0 t * 10 + (c.toNat - 48)) / 10 = valN 0 t := by omega
      have hp : 0 < valN 0 t := by
        by_cases h1 : 1 < t.length
        · exact good_pos hg h1
        · cases t with
          | nil => exact (ht rfl).elim
          | cons x t =>
            have : t = [] := by
              apply List.eq_nil_of_length_eq_zero
              simp only [List.length_cons] at h1; omega
            subst this
            have hx := h.2.1 x (by simp)
            unfold isDigit at hx
            have hne : x.toNat ≠ 48 := by
              intro he
              have hx' : x = 48 := UInt8.toNat_inj.1 he
              have := h.2.2 (by simp [hx'])
              simp at this
            simp [valN_cons, valN_nil]; omega
      rw [hq, if_neg (by omega), ih t (c :: acc) hg (by simp at hl; omega)]
      simp

theorem good_of (k : Nat) : ∀ u, u < 10 ^ (k + 1) → ∃ s, Good s ∧ s.length ≤ k + 1 ∧ valN 0 s = u ∧ (0 < u → s.head? ≠ some 48) := by
  induction k with
  | zero =>
    intro u hu
    have hd := dig_toNat u
    refine ⟨[dig u], ⟨by simp, fun c hc => ?_, fun h => by simpa using h⟩, by simp, by simp [valN_cons, valN_nil]; omega, fun hp he => ?_⟩
    · simp at hc; subst hc; unfold isDigit; omega
    · simp at he
      rw [he] at hd
      have : (48 : UInt8).toNat = 48 := rfl
      omega
  | succ k ih =>
    intro u hu
    by_cases h10 : u < 10
    · obtain ⟨s, h1, h2, h3⟩ := ih u (Nat.lt_of_lt_of_le h10 (by
        have : 10 ^ 1 ≤ 10 ^ (k + 1) := Nat.pow_le_pow_right (by omega) (by omega)
        simpa using this))
      exact ⟨s, h1, by omega, h3⟩
    · have hp : 10 ^ (k + 1 + 1) = 10 * 10 ^ (k + 1) := by rw [Nat.pow_succ, Nat.mul_comm]
      obtain ⟨s, h1, h2, h3, h4⟩ := ih (u / 10) (by omega)
      have hd := dig_toNat u
      have hh := h4 (by omega)
      have hhd : (s ++ [dig u]).head? = s.head? := by
        cases s with
        | nil => exact (h1.1 rfl).elim
        | cons x s => rfl
      refine ⟨s ++ [dig u], ⟨by simp, fun c hc => ?_, fun h => ?_⟩, by simp; omega, by rw [valN_append s (dig u) 0, h3]; omega, fun _ => by rw [hhd]; exact hh⟩
      · rcases List.mem_append.1 hc with hc | hc
        · exact h1.2.1 c hc
        · simp at hc; subst hc; unfold isDigit; omega
      · rw [hhd] at h; exact (hh h).elim

theorem read_good {s : List UInt8} (h : Good s) : readR s = if 1000000000000 < valN 0 s then (0, false) else ((valN 0 s : Int), true) := by
  unfold readR
  by_cases hl : 13 < s.length
  · have := good_ge h (by omega)
    have h2 : 10 ^ 13 ≤ 10 ^ (s.length - 1) := Nat.pow_le_pow_right (by omega) (by omega)
    have e : (10 : Nat) ^ 13 = 10000000000000 := by decide
    rw [if_pos (Or.inr (Or.inl hl)), if_pos (by omega)]
  · rw [if_neg]
    · have hv := val_some 0 s h.2.1 0 (by simp) (by omega)
      have hv' : val 0 s = some (valN 0 s : Int) := hv
      rw [hv']
      dsimp only
      by_cases hb : 1000000000000 < valN 0 s
      · rw [if_pos hb, if_pos (by omega)]
      · rw [if_neg hb, if_neg (by omega)]
    · rintro (h1 | h1 | ⟨h1, h2⟩)
      · exact h.1 h1
      · exact hl h1
      · exact h2 (h.2.2 (by rw [List.head?_eq_getElem?]; exact h1))

theorem read_text (n : Int) (h1 : -9223372036854775808 ≤ n) (h2 : n ≤ 9223372036854775807) : readR (text n) = if 0 ≤ n ∧ n ≤ 1000000000000 then (n, true) else (0, false) := by
  unfold text
  have e : (10 : Nat) ^ 19 = 10000000000000000000 := by decide
  by_cases hn : n < 0
  · rw [if_pos hn, if_neg (by omega)]
    unfold readR
    split
    · rfl
    · unfold val
      rw [if_pos (by decide)]
  · rw [if_neg hn]
    obtain ⟨s, hg, hl, hv, _⟩ := good_of 18 n.toNat (by omega)
    rw [← hv, digs_good 19 s [] hg (by omega), List.append_nil, read_good hg]
    by_cases hb : 1000000000000 < valN 0 s
    · rw [if_pos hb, if_neg (by omega)]
    · rw [if_neg hb, if_pos (by omega)]
      have : (valN 0 s : Int) = n := by omega
      rw [this]

theorem text_read (s : List UInt8) (h : (readR s).2 = true) : text (readR s).1 = s := by
  have hg : Good s := by
    unfold readR at h
    split at h
    · cases h
    · rename_i hc
      split at h
      · cases h
      · rename_i v hv
        refine ⟨fun he => hc (Or.inl he), val_digits 0 s hv, fun hh => ?_⟩
        apply Classical.byContradiction
        intro hne
        exact hc (Or.inr (Or.inr ⟨by rw [← List.head?_eq_getElem?]; exact hh, hne⟩))
  rw [read_good hg] at h ⊢
  split at h
  · cases h
  · rename_i hb
    rw [if_neg hb]
    have hlen : s.length ≤ 19 := by
      apply Classical.byContradiction
      intro hl
      have := good_ge hg (by omega)
      have h2 : 10 ^ 13 ≤ 10 ^ (s.length - 1) := Nat.pow_le_pow_right (by omega) (by omega)
      have e : (10 : Nat) ^ 13 = 10000000000000 := by decide
      omega
    unfold text
    rw [if_neg (by omega)]
    simp only [Int.toNat_natCast]
    rw [digs_good 19 s [] hg hlen, List.append_nil]

theorem read_small (s : List UInt8) : 0 ≤ (readR s).1 ∧ (readR s).1 ≤ 1000000000000 := by
  unfold readR
  split
  · simp
  · split
    · simp
    · rename_i v hv
      split
      · simp
      · rename_i hc hb
        have hd := val_digits 0 s hv
        have := val_some 0 s hd 0 (by simp) (by omega)
        have hv' : val 0 s = some (valN 0 s : Int) := this
        rw [hv'] at hv
        cases hv
        constructor <;> simp <;> omega

theorem text_length (n : Int) : (text n).length ≤ 20 := by
  unfold text
  split
  · have := digs_length 19 (-n).toNat []
    simp at this ⊢; omega
  · have := digs_length 19 n.toNat []
    simp at this ⊢; omega

end Go.AM.Spec

namespace Go.AM.Spec
set_option linter.unusedVariables false
set_option linter.unusedSimpArgs false
set_option maxHeartbeats 1000000
set_option maxRecDepth 10000

abbrev iv (n : Int) : V := .int .i64 n

/-- A site. -/
structure Si where
  kind : Int
  part : Int
  way : List Int
  deep : Int
  deriving DecidableEq

def Si.cells (s : Si) : List V := iv s.kind :: iv s.part :: (s.way.map iv ++ [iv s.deep])
def Si.ok (s : Si) : Prop := s.way.length = 8

theorem map_iv_strip (l : List Int) : (l.map iv).map V.strip = l.map iv := by
  rw [List.map_map]; rfl

theorem eqCells_ints : ∀ (n : Nat) (k : IntKind) (xs ys : List Int), xs.length = n → ys.length = n → eqCells (List.replicate n (.int k)) (xs.map (V.int k)) (ys.map (V.int k)) = some (decide (xs = ys))
  | 0, _, [], [], _, _ => rfl
  | n + 1, k, x :: xs, y :: ys, hx, hy => by
    simp only [List.length_cons, Nat.add_right_cancel_iff] at hx hy
    simp [List.replicate, eqCells, eqCells_ints n k xs ys hx hy]
  | 0, _, _ :: _, _, h, _ => by simp at h
  | 0, _, [], _ :: _, _, h => by simp at h
  | n + 1, _, [], _, h, _ => by simp at h
  | n + 1, _, _ :: _, [], _, h => by simp at h

variable {s : Si}

theorem Si.len (h : s.ok) : s.cells.length = 11 := by simp [Si.cells, show s.way.length = 8 from h]
theorem Si.c0 : s.cells[0]? = some (iv s.kind) := rfl
theorem Si.c1 : s.cells[1]? = some (iv s.part) := rfl
theorem Si.c10 (h : s.ok) : s.cells[10]? = some (iv s.deep) := by
  have h8 : s.way.length = 8 := h
  simp only [Si.cells, List.getElem?_cons_succ]
  rw [List.getElem?_append_right (by simp [h8])]
  simp [h8]
theorem Si.cw {i : Nat} {w : Int} (h : s.way[i]? = some w) : s.cells[2 + i]? = some (iv w) := by
  have hi : i < s.way.length := by
    rcases Nat.lt_or_ge i s.way.length with h1 | h1
    · exact h1
    · rw [List.getElem?_eq_none h1] at h; cases h
  rw [Nat.add_comm]
  simp only [Si.cells, List.getElem?_cons_succ]
  rw [List.getElem?_append_left (by simpa using hi), List.getElem?_map, h]; rfl
theorem Si.strip : s.cells.map V.strip = s.cells := by simp [Si.cells, Function.comp_def, V.strip]
theorem Si.one : s.cells.all V.one = true := by simp [Si.cells, V.one]
theorem Si.under (n : Nat) : V.underAll n s.cells = true := by
  have : ∀ l : List Int, V.underAll n (l.map iv ++ [iv s.deep]) = true := by
    intro l
    induction l with
    | nil => simp [V.underAll, V.under]
    | cons x l ih => simp only [List.map_cons, List.cons_append, V.underAll, V.under, ih, Bool.and_self]
  simp only [Si.cells, V.underAll, V.under, this, Bool.and_self]
theorem Si.take (h : s.ok) : s.cells.take 11 = s.cells := List.take_of_length_le (by rw [Si.len h]; omega)
theorem Si.ways (h : s.ok) : (s.cells.drop 2).take 8 = s.way.map iv := by
  have h8 : s.way.length = 8 := h
  simp only [Si.cells, List.drop_succ_cons, List.drop_zero]
  rw [List.take_append_of_le_length (by simp [h8]), List.take_of_length_le (by simp [h8])]

/-- May a site's way be? -/
def Si.may (s : Si) : Bool := decide (1 ≤ s.deep) && (decide (s.deep ≤ 8) && (s.way.all (fun w => decide (0 ≤ w)) && (s.way.drop s.deep.toNat).all (fun w => decide (w = 0))))

/-- The rest of the document's look. -/
def mayFrom (deep : Int) : Nat → List Int → Bool
  | _, [] => true
  | i, w :: ws => decide (0 ≤ w) && ((!decide (deep ≤ i) || decide (w = 0)) && mayFrom deep (i + 1) ws)

theorem mayFrom_eq (deep : Int) (h1 : 1 ≤ deep) : ∀ (i : Nat) (l : List Int), mayFrom deep i l = (l.all (fun w => decide (0 ≤ w)) && (l.drop (deep.toNat - i)).all (fun w => decide (w = 0)))
  | i, [] => by simp [mayFrom]
  | i, w :: ws => by
    rw [mayFrom, mayFrom_eq deep h1 (i + 1) ws]
    by_cases h : deep ≤ i
    · have e1 : deep.toNat - i = 0 := by omega
      have e2 : deep.toNat - (i + 1) = 0 := by omega
      rw [e1, e2]
      simp only [h, decide_true, Bool.not_true, Bool.false_or, List.all_cons, List.drop_zero]
      cases decide (0 ≤ w) <;> cases decide (w = 0) <;> simp
    · obtain ⟨m, hm⟩ : ∃ m, deep.toNat - i = m + 1 := ⟨deep.toNat - i - 1, by omega⟩
      have e2 : deep.toNat - (i + 1) = m := by omega
      rw [hm, e2]
      simp only [h, decide_false, Bool.not_false, Bool.true_or, List.all_cons, List.drop_succ_cons, Bool.true_and, Bool.and_assoc]

end Go.AM.Spec

namespace Go.AM.Spec
set_option linter.unusedVariables false
set_option linter.unusedSimpArgs false
set_option maxHeartbeats 1000000
set_option maxRecDepth 10000

variable {s : Si}

def zeroS (k : Nat) : List V := List.replicate k (V.int .i64 0)
theorem zeroS_eq (k : Nat) : zeroS k = (List.replicate k (0 : Int)).map iv := by simp [zeroS]

theorem setMany_mid (a b vs cs : List V) (h : vs.length = b.length) : setMany (a ++ (b ++ cs)) a.length vs = a ++ (vs ++ cs) := by
  induction vs generalizing a b with
  | nil =>
    have : b = [] := List.eq_nil_of_length_eq_zero (by simpa using h.symm)
    subst this; rfl
  | cons v vs ih =>
    match b, h with
    | x :: b, h =>
      simp only [List.length_cons, Nat.add_right_cancel_iff] at h
      simp only [setMany]
      have e1 : (a ++ (x :: b ++ cs)).set a.length v = (a ++ [v]) ++ (b ++ cs) := by
        rw [List.set_append_right _ _ (Nat.le_refl _)]
        simp
      have := ih (a ++ [v]) b h
      rw [e1]
      simp only [List.length_append, List.length_singleton] at this
      rw [this]; simp

/-- The way, its end cleared. -/
theorem Si.cut (ok : s.ok) (d : Nat) (hd : d ≤ 8) : (((setMany s.cells (2 + d) (zeroS (8 - d))).drop 2).take 8) = (s.way.take d ++ List.replicate (8 - d) 0).map iv := by
  have h8 : s.way.length = 8 := ok
  have e : s.cells = (iv s.kind :: iv s.part :: (s.way.take d).map iv) ++ ((s.way.drop d).map iv ++ [iv s.deep]) := by
    simp only [Si.cells, List.cons_append, ← List.append_assoc, ← List.map_append, List.take_append_drop]
  have hl : (iv s.kind :: iv s.part :: (s.way.take d).map iv).length = 2 + d := by simp; omega
  have h1 := setMany_mid (iv s.kind :: iv s.part :: (s.way.take d).map iv) ((s.way.drop d).map iv) (zeroS (8 - d)) [iv s.deep] (by rw [zeroS_eq]; simp [h8])
  rw [hl, ← e] at h1
  rw [h1]
  simp only [List.cons_append, List.drop_succ_cons, List.drop_zero, ← List.append_assoc]
  rw [List.take_append_of_le_length (by rw [zeroS_eq]; simp; omega), zeroS_eq, ← List.map_append, List.take_of_length_le (by simp; omega)]

theorem replicate_iff (l : List Int) : l = List.replicate l.length 0 ↔ (l.all fun w => decide (w = 0)) = true := by
  rw [List.eq_replicate_iff]
  simp

theorem cut_iff (ok : s.ok) (d : Nat) (hd : d ≤ 8) : decide (s.way.take d ++ List.replicate (8 - d) 0 = s.way) = (s.way.drop d).all (fun w => decide (w = 0)) := by
  have h8 : s.way.length = 8 := ok
  rw [Bool.eq_iff_iff, decide_eq_true_eq, ← replicate_iff]
  have hl : (s.way.drop d).length = 8 - d := by simp [h8]
  rw [hl]
  constructor
  · intro h
    have h1 : s.way.take d ++ List.replicate (8 - d) 0 = s.way.take d ++ s.way.drop d := by rw [h, List.take_append_drop]
    exact (List.append_cancel_left h1).symm
  · intro h
    rw [← h, List.take_append_drop]

theorem may_loop (K : Heap) (call : CallF) (Q : Option (V × Heap) → Prop) (k : List Item) (way : List Int) (h8 : way.length = 8) (v1 : V)
    (hyes : ∀ φ', Fr.get φ' 1 = v1.strip → (way.all fun w => decide (0 ≤ w)) = true → Q (M call k φ' K)) (hno : ∀ φ', (way.all fun w => decide (0 ≤ w)) = false → Fr.get φ' 2 = .bool false → Q (retK k φ' K)) :
    ∀ (j i : Nat) (φ : Fr), i + j = 8 → (way.all fun w => decide (0 ≤ w)) = ((way.drop i).all fun w => decide (0 ≤ w)) → Fr.get φ 1 = v1.strip → Fr.get φ 15 = .agg (way.map iv) → Fr.get φ 16 = iv i → Q (M call (.code l_site_may_0 :: .blk 0 :: k) φ K) := by
  intro j
  induction j with
  | zero =>
    intro i φ hi hX h1 h15 h16
    obtain rfl : i = 8 := by omega
    rw [List.drop_eq_nil_of_le (by omega)] at hX
    rw [l_site_may_0, M_loop]
    simp [b_site_may_0, h1, h15, h16]
    exact hyes _ (by simp [h1]) (by rw [hX]; rfl)
  | succ j ih =>
    intro i φ hi hX h1 h15 h16
    have hlt : i < way.length := by omega
    rw [List.drop_eq_getElem_cons hlt] at hX
    have e1 : (i : Int) < 8 := by omega
    have e2 : IntKind.i64.wrap ((i : Int) + 1) = ((i + 1 : Nat) : Int) := by rw [w64] <;> omega
    have e3 : way[i]? = some way[i] := List.getElem?_eq_getElem hlt
    rw [l_site_may_0, M_loop, ← l_site_may_0]
    by_cases a1 : way[i] < 0
    · have a1' : ¬ 0 ≤ way[i] := by omega
      simp [b_site_may_0, h1, h15, h16, e1, e2, e3, a1]
      exact hno _ (by rw [hX, List.all_cons, decide_eq_false a1', Bool.false_and]) (by simp)
    · have a1' : 0 ≤ way[i] := by omega
      simp [b_site_may_0, h1, h15, h16, e1, e2, e3, a1]
      exact ih (i + 1) _ (by omega) (by rw [hX, List.all_cons, decide_eq_true a1', Bool.true_and]) (by simp [h1]) (by simp [h15]) (by simp)

theorem eq8 (xs ys : List Int) (hx : xs.length = 8) (hy : ys.length = 8) : eqCells [.int .i64, .int .i64, .int .i64, .int .i64, .int .i64, .int .i64, .int .i64, .int .i64] (xs.map iv) (ys.map iv) = some (decide (xs = ys)) := eqCells_ints 8 .i64 xs ys hx hy

theorem setMany_len : ∀ (vs cs : List V) (off : Nat), (setMany cs off vs).length = cs.length
  | [], cs, off => rfl
  | v :: vs, cs, off => by simp [setMany, setMany_len vs]
theorem setMany_over (a cs : List V) : ∀ (vs : List V) , vs.length = cs.length → setMany (a ++ cs) a.length vs = a ++ vs := by
  intro vs h
  have := setMany_mid a cs vs [] h
  simpa using this
theorem setMany_self (cs vs : List V) (h : vs.length = cs.length) : setMany cs 0 vs = vs := by
  have := setMany_over [] cs vs h
  simpa using this
theorem h11 (s : Si) (ok : s.ok) : ∀ a b c d e f g h i j k : V, setMany [a, b, c, d, e, f, g, h, i, j, k] 0 s.cells = s.cells := fun a b c d e f g h i j k => setMany_self _ _ (by rw [Si.len ok]; rfl)

theorem eq11' (xs ys : List Int) (hx : xs.length = 11) (hy : ys.length = 11) : eqCells [.int .i64, .int .i64, .int .i64, .int .i64, .int .i64, .int .i64, .int .i64, .int .i64, .int .i64, .int .i64, .int .i64] (xs.map iv) (ys.map iv) = some (decide (xs = ys)) := eqCells_ints 11 .i64 xs ys hx hy
def Si.ints (s : Si) : List Int := s.kind :: s.part :: (s.way ++ [s.deep])
theorem Si.cells_ints (s : Si) : s.cells = s.ints.map iv := by simp [Si.cells, Si.ints]
theorem Si.ints_inj {s t : Si} (hs : s.ok) (ht : t.ok) (h : s.ints = t.ints) : s = t := by
  unfold Si.ints at h
  simp only [List.cons.injEq] at h
  obtain ⟨h1, h2, h3⟩ := h
  have hl : s.way.length = t.way.length := by rw [show s.way.length = 8 from hs, show t.way.length = 8 from ht]
  have := List.append_inj h3 hl
  cases s; cases t
  simp at this h1 h2
  simp [h1, h2, this]
theorem Si.eqc {s t : Si} (hs : s.ok) (ht : t.ok) : eqCells [.int .i64, .int .i64, .int .i64, .int .i64, .int .i64, .int .i64, .int .i64, .int .i64, .int .i64, .int .i64, .int .i64] s.cells t.cells = some (decide (s = t)) := by
  rw [Si.cells_ints, Si.cells_ints, eq11' _ _ (by simp [Si.ints, show s.way.length = 8 from hs]) (by simp [Si.ints, show t.way.length = 8 from ht])]
  congr 1
  rw [Bool.eq_iff_iff, decide_eq_true_eq, decide_eq_true_eq]
  exact ⟨Si.ints_inj hs ht, fun h => by rw [h]⟩

theorem Si.ways_strip (ok : s.ok) : List.map V.strip ((s.cells.drop 2).take 8) = s.way.map iv := by rw [Si.ways ok, map_iv_strip]
theorem Si.cut_strip (ok : s.ok) (d : Nat) (hd : d ≤ 8) : List.take 8 (List.drop 2 (List.map V.strip (setMany s.cells (2 + d) (zeroS (8 - d))))) = (s.way.take d ++ List.replicate (8 - d) 0).map iv := by
  rw [← List.map_drop, ← List.map_take, Si.cut ok d hd, map_iv_strip]

theorem may_eq (s : Si) (ok : s.ok) (H : Heap) : eval tbl noExt n_site_may [.agg s.cells] H = some (.bool s.may, H) := by
  have h8 : s.way.length = 8 := ok
  have hc := Si.c10 ok
  have hl := Si.len ok
  have hst := Si.strip (s := s)
  have hone := Si.one (s := s)
  have htk := Si.take ok
  have hw := Si.ways_strip ok
  have hself := h11 s ok
  have hcg : ∀ h : 10 < s.cells.length, s.cells[10] = iv s.deep := fun h => by
    have := hc
    rw [List.getElem?_eq_getElem h] at this
    exact Option.some.inj this
  rw [eval_M rfl rfl t_site_may rfl]
  unfold Si.may
  by_cases a1 : s.deep < 1
  · have a1' : ¬ 1 ≤ s.deep := by omega
    simp [c_site_may, hc, a1, a1']
  · have a1' : 1 ≤ s.deep := by omega
    by_cases a2 : 8 < s.deep
    · have a2' : ¬ s.deep ≤ 8 := by omega
      simp [c_site_may, hc, a1, a2, a2']
    · have a2' : s.deep ≤ 8 := by omega
      simp only [a1', a2', decide_true, Bool.true_and]
      obtain ⟨A, hA⟩ : ∃ A, A = ((s.way.all fun w => decide (0 ≤ w)) && ((s.way.drop s.deep.toNat).all fun w => decide (w = 0))) := ⟨_, rfl⟩
      rw [← hA]
      simp [c_site_may, hc, a1, a2, hw, hl, hcg]
      refine may_loop _ _ (fun r => r = some (V.bool A, H)) _ s.way h8 (.ptr H.length 0) ?_ ?_ 8 0 _ (by omega) rfl ?_ ?_ ?_
      · intro φ' h1 hX
        rw [hA]
        obtain ⟨d, hd⟩ : ∃ d : Nat, s.deep = d := ⟨s.deep.toNat, by omega⟩
        have hd8 : d ≤ 8 := by omega
        have hdi : (d : Int) ≤ 8 := by omega
        have hdt : s.deep.toNat = d := by omega
        rw [hX, hdt, Bool.true_and]
        have hci := cut_iff (s := s) ok d hd8
        rw [← hci]
        have he := eq8 (s.way.take d ++ List.replicate (8 - d) 0) s.way (by simp [h8]; omega) h8
        have hun := fun n => Si.under (s := s) n
        by_cases a3 : d = 8
        · subst a3
          have ht : s.way.take 8 = s.way := List.take_of_length_le (by omega)
          have he2 := eq8 s.way s.way h8 h8
          simp [r_site_may_0, h1, hc, hcg, hd, hl, hst, hone, htk, hw, hun, hself, ht, he2]
        · have a3' : ¬ (8 = d) := by omega
          have e1 : 2 + d + (8 - d) ≤ 11 := by omega
          have hcs := Si.cut_strip (s := s) ok d hd8
          unfold zeroS at hcs
          obtain ⟨cw, hcw⟩ : ∃ cw, cw = s.way.take d ++ List.replicate (8 - d) 0 := ⟨_, rfl⟩
          rw [← hcw] at he hcs ⊢
          have hlen : (setMany s.cells (2 + d) (List.replicate (8 - d) (V.int .i64 0))).length = 11 := by rw [setMany_len, hl]
          simp [r_site_may_0, h1, hc, hcg, hd, hdi, hl, hst, hone, htk, hw, hun, hself, a3', e1, hcs, he, hlen]
      · intro φ' hX h2
        rw [hA, hX, Bool.false_and]
        simp [h2]
      · simp
      · simp
      · simp

end Go.AM.Spec

namespace Go.AM.Spec
set_option linter.unusedVariables false
set_option linter.unusedSimpArgs false

def Si.fit (s : Si) : Prop := s.ok ∧ Fit s.kind ∧ Fit s.part ∧ (∀ w ∈ s.way, Fit w) ∧ Fit s.deep

theorem site_of {P : Program} {t tI tA : TypeId} {fs : Array Field} {vs : List V} (h : Ty P t vs) (hu : P.underlying t = some (.struct fs)) (hf : fs.toList.map (·.type) = [tI, tI, tA, tI]) (hI : P.underlying tI = some (.int .i64)) (hA : P.underlying tA = some (.array 8 tI)) :
    ∃ s : Si, vs = s.cells ∧ s.ok ∧ Fit s.kind ∧ Fit s.part ∧ (∀ w ∈ s.way, Fit w) ∧ Fit s.deep := by
  obtain ⟨parts, rfl, hL⟩ := Ty_struct_of h hu
  rw [hf] at hL
  obtain ⟨p, q, r, u, rfl, h0, h1, h2, h3⟩ := TyL_4 hL
  obtain ⟨a, rfl, w0⟩ := Ty_int_of h0 hI
  obtain ⟨b, rfl, w1⟩ := Ty_int_of h1 hI
  obtain ⟨d, rfl, w3⟩ := Ty_int_of h3 hI
  obtain ⟨ps, rfl, hl, hp⟩ := Ty_arr_of h2 hA
  obtain ⟨l, e1, e2, e3⟩ := ints_of hI hp
  refine ⟨⟨a, b, l, d⟩, ?_, by show l.length = 8; omega, w0, w1, e3, w3⟩
  simp only [List.flatten_cons, List.flatten_nil, e1, Si.cells]
  rfl

end Go.AM.Spec

namespace Go.AM.Spec
set_option linter.unusedVariables false
set_option linter.unusedSimpArgs false
set_option maxHeartbeats 1000000
set_option maxRecDepth 10000

variable {s : Si}

/-- The words of kinds. -/
def siteWords : List (List UInt8) := [[63], [100, 114, 111, 112, 45, 115, 121, 110, 99], [119, 101, 97, 107, 45, 115, 121, 110, 99], [100, 114, 111, 112, 45, 100, 105, 114], [100, 114, 111, 112, 45, 98, 97, 114, 114, 105, 101, 114], [115, 119, 97, 112], [110, 111, 45, 99, 111, 109, 109, 105, 116], [116, 101, 97, 114], [100, 114, 111, 112, 45, 119, 114, 105, 116, 101]]
def kindsText : List UInt8 := [63, 32, 100, 114, 111, 112, 45, 115, 121, 110, 99, 32, 119, 101, 97, 107, 45, 115, 121, 110, 99, 32, 100, 114, 111, 112, 45, 100, 105, 114, 32, 100, 114, 111, 112, 45, 98, 97, 114, 114, 105, 101, 114, 32, 115, 119, 97, 112, 32, 110, 111, 45, 99, 111, 109, 109, 105, 116, 32, 116, 101, 97, 114, 32, 100, 114, 111, 112, 45, 119, 114, 105, 116, 101]

theorem fields_kinds : Go.Lib.fields kindsText = siteWords := by decide +kernel
theorem ascii_kinds : (kindsText.all fun b => decide (b.toNat < 128)) = true := by decide +kernel
theorem fields_eq : eval tbl noExt n_strings_Fields [.str kindsText] [] = some (.sl 1 (siteWords.map tx), []) := by
  rw [eval_X rfl (show noExt n_strings_Fields = some xFields from rfl)]
  simp only [xFields]
  rw [if_pos ⟨by decide +kernel, ascii_kinds⟩, fields_kinds]

theorem words_eq (H : Heap) : eval tbl noExt n_site_words [] H = some (.sl 1 (siteWords.map tx), H) := by
  have hF := fields_eq
  unfold kindsText at hF
  rw [eval_M rfl rfl t_site_words rfl]
  simp [c_site_words, hF]

/-- A kind's word. -/
def wordOf (k : Int) : List UInt8 := if k < 1 ∨ 8 < k then [63] else (siteWords[k.toNat]?).getD [63]

theorem nine {k : Int} (h0 : 0 ≤ k) (h1 : k < 9) : k = 0 ∨ k = 1 ∨ k = 2 ∨ k = 3 ∨ k = 4 ∨ k = 5 ∨ k = 6 ∨ k = 7 ∨ k = 8 := by omega

theorem Word_eq (k : Int) (H : Heap) : eval tbl noExt n_site_Word [iv k] H = some (.str (wordOf k), H) := by
  have hw := words_eq []
  rw [eval_M rfl rfl t_site_Word rfl]
  by_cases h0 : k < 0
  · have e : wordOf k = [63] := if_pos (.inl (by omega))
    simp [c_site_Word, hw, h0, e]
    simp [siteWords, tx]
  · by_cases h1 : 9 ≤ k
    · have e : wordOf k = [63] := if_pos (.inr (by omega))
      have h2 : ¬ k < 9 := by omega
      simp [c_site_Word, hw, h0, e]
      simp [siteWords, tx, h1]
    · have h2 : ¬ 9 ≤ k := h1
      rcases nine (k := k) (by omega) (by omega) with rfl | rfl | rfl | rfl | rfl | rfl | rfl | rfl | rfl <;> (simp [c_site_Word, hw]; simp [siteWords, tx, wordOf])

/-! Names. -/
theorem jn_cons2 (x y : List UInt8) (r : List (List UInt8)) (p : List UInt8) : Go.Lib.join (x :: y :: r) p = x ++ (p ++ Go.Lib.join (y :: r) p) := by
  rw [Go.Lib.join_cons, Go.Lib.join_cons]
  simp [Go.Lib.joinTail]
theorem jn_snoc (l : List (List UInt8)) (x p : List UInt8) (h : l ≠ []) : Go.Lib.join (l ++ [x]) p = Go.Lib.join l p ++ (p ++ x) := by
  cases l with
  | nil => exact absurd rfl h
  | cons y r =>
    rw [List.cons_append, Go.Lib.join_cons, Go.Lib.join_cons]
    simp [Go.Lib.joinTail]
theorem jn_len (p : List UInt8) (n : Nat) : ∀ l : List (List UInt8), (∀ w ∈ l, w.length ≤ n) → (Go.Lib.join l p).length ≤ (n + p.length) * l.length
  | [], _ => by simp [Go.Lib.join_nil]
  | [x], h => by rw [Go.Lib.join_one]; have := h x (by simp); simp; omega
  | x :: y :: r, h => by
    have ih := jn_len p n (y :: r) (fun w hw => h w (by simp at hw ⊢; right; exact hw))
    have hx := h x (by simp)
    rw [jn_cons2]
    have e : (n + p.length) * (x :: y :: r).length = (n + p.length) + (n + p.length) * (y :: r).length := by rw [List.length_cons, Nat.mul_add]; omega
    rw [e]
    simp only [List.length_append]
    omega

/-- The parts of a site's name. -/
def Si.parts (s : Si) : List (List UInt8) := wordOf s.kind :: text s.part :: (s.way.take s.deep.toNat).map text

/-- A site's name. -/
def Si.name (s : Si) : List UInt8 × Bool :=
  if s.kind < 1 ∨ 8 < s.kind ∨ s.part < 0 ∨ 16 < s.part ∨ s.may = false then ([], false)
  else if ((s.way.take s.deep.toNat).any fun w => decide (511 < w)) = true then ([], false)
  else (Go.Lib.join s.parts [32], true)

theorem wordOf_len (k : Int) : (wordOf k).length ≤ 20 := by
  unfold wordOf
  split
  · simp
  · rcases nine (k := k) (by omega) (by omega) with rfl | rfl | rfl | rfl | rfl | rfl | rfl | rfl | rfl <;> decide

theorem name_loop (K : Heap) (n : Nat) (hK : K[n]? = some (some s.cells)) (ok : s.ok) (d : Nat) (hd : d ≤ 8) (hpos : ∀ w ∈ s.way.take d, 0 ≤ w) (Q : Option (V × Heap) → Prop) (k : List Item)
    (X : Bool) (L : List (List UInt8)) (hL : L.length ≤ 2)
    (hyes : ∀ φ', X = false → Fr.get φ' 4 = .own 1 ((L ++ (s.way.take d).map text).map tx) → Q (M (eval tbl noExt) k φ' K)) (hno : ∀ φ', X = true → Fr.get φ' 2 = .str [] → Fr.get φ' 3 = .bool false → Q (retK k φ' K)) :
    ∀ (j i : Nat) (φ : Fr), i + j = d → (((s.way.take d).drop i).any fun w => decide (511 < w)) = X → Fr.get φ 4 = .own 1 ((L ++ ((s.way.take d).take i).map text).map tx) → Fr.get φ 42 = .ms n 2 d 8 → Fr.get φ 43 = iv d → Fr.get φ 44 = iv i →
      Q (M (eval tbl noExt) (.code l_site_Name_0 :: .blk 0 :: k) φ K) := by
  have h8 : s.way.length = 8 := ok
  have hln : (s.way.take d).length = d := by simp [h8]; omega
  intro j
  induction j with
  | zero =>
    intro i φ hi hX h4 h42 h43 h44
    have hlt : ¬ (i : Int) < d := by omega
    rw [List.drop_eq_nil_of_le (by omega)] at hX
    rw [List.take_of_length_le (by omega)] at h4
    rw [l_site_Name_0, M_loop]
    simp [b_site_Name_0, h4, h42, h43, h44, hlt]
    exact hyes _ (by rw [← hX]; rfl) (by simp [h4])
  | succ j ih =>
    intro i φ hi hX h4 h42 h43 h44
    have hlt : i < (s.way.take d).length := by omega
    have hlt' : i < s.way.length := by omega
    rw [List.drop_eq_getElem_cons hlt, List.any_cons] at hX
    obtain ⟨u, hu⟩ : ∃ u, u = (s.way.take d)[i] := ⟨_, rfl⟩
    have hu' : s.way[i]? = some u := by
      rw [hu]
      simp [hlt']
    have hp := hpos u (by rw [hu]; exact List.getElem_mem _)
    rw [← hu] at hX
    have hw := Si.cw (s := s) (i := i) (w := u) hu'
    have e1 : (i : Int) < d := by omega
    have e2 : IntKind.i64.wrap ((i : Int) + 1) = ((i + 1 : Nat) : Int) := by rw [w64] <;> omega
    rw [l_site_Name_0, M_loop, ← l_site_Name_0]
    by_cases a1 : 511 < u
    · simp [b_site_Name_0, h4, h42, h43, h44, hK, hw, e1, e2, a1]
      exact hno _ (by rw [← hX]; simp [a1]) (by simp) (by simp)
    · have hdg := digits_eq [] u (by omega) (by omega)
      obtain ⟨rows, hrows⟩ : ∃ rows, rows = (L ++ ((s.way.take d).take i).map text).map tx := ⟨_, rfl⟩
      have hlen : rows.length ≤ 20 := by
        rw [hrows]
        simp only [List.length_map, List.length_append, List.length_take]; omega
      rw [← hrows] at h4
      have hc : 2 * (rows.length + 1) * 16 ≤ 281474976710656 := by omega
      have hnext : rows ++ [[V.str (text u)]] = (L ++ ((s.way.take d).take (i + 1)).map text).map tx := by
        rw [List.take_add_one, List.getElem?_eq_getElem hlt, ← hu, hrows]
        simp only [Option.toList_some, List.map_append, List.map_cons, List.map_nil, List.append_assoc, tx]
      clear hrows
      simp [b_site_Name_0, h4, h42, h43, h44, hK, hw, e1, e2, a1, hdg, hc]
      exact ih (i + 1) _ (by omega) (by rw [← hX]; simp [a1]) (by rw [← hnext]; simp) (by simp [h42]) (by simp [h43]) (by simp)

theorem Si.range (h : s.may = true) : 1 ≤ s.deep ∧ s.deep ≤ 8 ∧ ∀ w ∈ s.way.take s.deep.toNat, 0 ≤ w := by
  unfold Si.may at h
  simp only [Bool.and_eq_true, decide_eq_true_eq, List.all_eq_true] at h
  exact ⟨h.1, h.2.1, fun w hw => h.2.2.1 w (List.mem_of_mem_take hw)⟩

theorem sjoin_eq (l : List (List UInt8)) (hl : l.length ≤ 10) (hw : ∀ w ∈ l, w.length ≤ 100) (H : Heap) : eval tbl noExt n_strings_Join [.sl 1 (l.map tx), .str [32]] H = some (.str (Go.Lib.join l [32]), H) := by
  have hlen := jn_len [32] 100 l hw
  rw [eval_X rfl (show noExt n_strings_Join = some xJoin from rfl)]
  simp only [xJoin, textsOf_map]
  rw [if_pos ⟨by simp only [List.length_singleton] at hlen; have : (100 + 1) * l.length ≤ 101 * 10 := Nat.mul_le_mul_left _ hl; omega, by omega⟩]

theorem parts_len (h : s.may = true) : s.parts.length ≤ 10 ∧ ∀ w ∈ s.parts, w.length ≤ 100 := by
  obtain ⟨h1, h2, _⟩ := Si.range h
  refine ⟨by simp [Si.parts]; omega, fun w hw => ?_⟩
  simp only [Si.parts, List.mem_cons, List.mem_map] at hw
  rcases hw with rfl | rfl | ⟨n, _, rfl⟩
  · have := wordOf_len s.kind; omega
  · have := text_length s.part; omega
  · have := text_length n; omega

theorem Name_eq (s : Si) (ok : s.ok) (H : Heap) : eval tbl noExt n_site_Name [.agg s.cells] H = some (.tup [.str s.name.1, .bool s.name.2], H) := by
  have hc0 := Si.c0 (s := s)
  have hc1 := Si.c1 (s := s)
  have hc := Si.c10 ok
  have hl := Si.len ok
  have hst := Si.strip (s := s)
  have htk := Si.take ok
  have hun := fun n => Si.under (s := s) n
  have hm := fun K => may_eq s ok K
  have hw := fun K => words_eq K
  have hW := fun K => Word_eq s.kind K
  have e9 : siteWords.length = 9 := rfl
  have g0 : ∀ h : 0 < s.cells.length, s.cells[0] = iv s.kind := fun h => rfl
  have g1 : ∀ h : 1 < s.cells.length, s.cells[1] = iv s.part := fun h => rfl
  have g10 : ∀ h : 10 < s.cells.length, s.cells[10] = iv s.deep := fun h => by
    have := hc
    rw [List.getElem?_eq_getElem h] at this
    exact Option.some.inj this
  rw [eval_M rfl rfl t_site_Name rfl]
  by_cases a1 : s.kind < 1
  · have e : s.name = ([], false) := if_pos (.inl a1)
    simp [c_site_Name, hc0, hl, g0, a1, e]
  · by_cases a2 : 9 ≤ s.kind
    · have e : s.name = ([], false) := if_pos (.inr (.inl (by omega)))
      simp [c_site_Name, hc0, hl, g0, hw, e9, a1, a2, e]
    · by_cases a3 : s.part < 0
      · have e : s.name = ([], false) := if_pos (.inr (.inr (.inl (by omega))))
        simp [c_site_Name, hc0, hc1, hl, g0, g1, hw, e9, a1, a2, a3, e]
      · by_cases a4 : 16 < s.part
        · have e : s.name = ([], false) := if_pos (.inr (.inr (.inr (.inl (by omega)))))
          simp [c_site_Name, hc0, hc1, hl, g0, g1, hw, e9, a1, a2, a3, a4, e]
        · cases hmay : s.may with
          | false =>
            have e : s.name = ([], false) := if_pos (.inr (.inr (.inr (.inr hmay))))
            simp [c_site_Name, hc0, hc1, hl, g0, g1, hw, e9, a1, a2, a3, a4, e, hm, hmay, htk, hst, hun]
          | true =>
            obtain ⟨h1, h2, h3⟩ := Si.range hmay
            obtain ⟨d, hd⟩ : ∃ d : Nat, s.deep = d := ⟨s.deep.toNat, by omega⟩
            have hdt : s.deep.toNat = d := by omega
            rw [hdt] at h3
            have hd8 : (d : Int) ≤ 8 := by omega
            have hdg := digits_eq [] s.part (by omega) (by omega)
            obtain ⟨hp1, hp2⟩ := parts_len hmay
            have hj := fun K => sjoin_eq s.parts hp1 hp2 K
            have hparts : s.parts = [wordOf s.kind, text s.part] ++ (s.way.take d).map text := by unfold Si.parts; rw [hdt]; rfl
            obtain ⟨X, hX⟩ : ∃ X, X = ((s.way.take d).any fun w => decide (511 < w)) := ⟨_, rfl⟩
            have e : s.name = if X = true then ([], false) else (Go.Lib.join s.parts [32], true) := by
              unfold Si.name
              rw [if_neg (by rintro (h | h | h | h | h) <;> first | omega | (rw [hmay] at h; cases h)), hdt, hX]
            rw [e]
            have hd0 : ¬ ((d : Int) < 0) := by omega
            have d8' : d ≤ 8 := by omega
            simp [c_site_Name, hc0, hc1, hc, hl, g0, g1, g10, hw, hW, e9, a1, a2, a3, a4, hm, hmay, htk, hst, hun, hdg, hd, hd8, d8']
            refine name_loop (s := s) _ H.length (by simp) ok d d8' h3 (fun r => r = some (V.tup [.str (if X = true then (([] : List UInt8), false) else (Go.Lib.join s.parts [32], true)).1, .bool (if X = true then (([] : List UInt8), false) else (Go.Lib.join s.parts [32], true)).2], H)) _ X [wordOf s.kind, text s.part] (by simp) ?_ ?_ d 0 _ (by omega) ?_ ?_ ?_ ?_ ?_
            · intro φ' hx h4
              rw [← hparts] at h4
              simp [r_site_Name_0, h4, hj, hx]
            · intro φ' hx q2 q3
              simp [q2, q3, hx]
            · rw [List.drop_zero, hX]
            · simp [tx]
            · simp
            · simp
            · simp

end Go.AM.Spec

namespace Go.AM.Spec
set_option linter.unusedVariables false
set_option linter.unusedSimpArgs false

variable {c : UInt8}

theorem spl_same (c : UInt8) (l : List UInt8) : splitOn c (c :: l) = [] :: splitOn c l := by rw [splitOn, if_pos rfl]
theorem spl_ne (c : UInt8) : ∀ s : List UInt8, splitOn c s ≠ []
  | [] => by simp [splitOn]
  | b :: l => by
    rw [splitOn]
    split
    · simp
    · split <;> simp
theorem spl_other {b : UInt8} (h : b ≠ c) (l : List UInt8) {w : List UInt8} {ws : List (List UInt8)} (hl : splitOn c l = w :: ws) : splitOn c (b :: l) = (b :: w) :: ws := by rw [splitOn, if_neg h, hl]
theorem spl_none : ∀ (w : List UInt8), c ∉ w → splitOn c w = [w]
  | [], _ => rfl
  | b :: l, h => by
    have hb : b ≠ c := fun e => h (by simp [e])
    exact spl_other hb l (spl_none l (fun e => h (by simp [e])))
theorem spl_app : ∀ (w r : List UInt8), c ∉ w → splitOn c (w ++ c :: r) = w :: splitOn c r
  | [], r, _ => spl_same c r
  | b :: l, r, h => by
    have hb : b ≠ c := fun e => h (by simp [e])
    exact spl_other hb _ (spl_app l r (fun e => h (by simp [e])))
theorem spl_len : ∀ s : List UInt8, (splitOn c s).length ≤ s.length + 1
  | [] => by simp [splitOn]
  | b :: l => by
    have ih := spl_len l
    by_cases h : b = c
    · subst h; rw [spl_same]; simp; omega
    · cases hl : splitOn c l with
      | nil => exact absurd hl (spl_ne c l)
      | cons w ws => rw [spl_other h l hl]; rw [hl] at ih; simp at ih ⊢; omega
theorem spl_jn2 (x y : List UInt8) (r : List (List UInt8)) (p : List UInt8) : Go.Lib.join (x :: y :: r) p = x ++ (p ++ Go.Lib.join (y :: r) p) := by
  rw [Go.Lib.join_cons, Go.Lib.join_cons]
  simp [Go.Lib.joinTail]
theorem join_spl : ∀ s : List UInt8, Go.Lib.join (splitOn c s) [c] = s
  | [] => by simp [splitOn, Go.Lib.join_one]
  | b :: l => by
    have ih := join_spl l
    by_cases h : b = c
    · subst h
      rw [spl_same]
      cases hs : splitOn b l with
      | nil => exact absurd hs (spl_ne b l)
      | cons w ws =>
        rw [hs] at ih
        rw [spl_jn2, ih]; rfl
    · cases hs : splitOn c l with
      | nil => exact absurd hs (spl_ne c l)
      | cons w ws =>
        rw [hs] at ih
        rw [spl_other h l hs]
        cases ws with
        | nil => rw [Go.Lib.join_one] at ih ⊢; rw [ih]
        | cons v vs => rw [spl_jn2] at ih ⊢; rw [List.cons_append, ih]

/-- Where a text is cut first, looked at from a place on. -/
theorem spl_step {s : List UInt8} {f i : Nat} (hf : f ≤ i) (hi : i < s.length) (hc : s[i] = c) (hn : c ∉ (s.drop f).take (i - f)) : splitOn c (s.drop f) = (s.take i).drop f :: splitOn c (s.drop (i + 1)) := by
  have e : s.drop f = (s.drop f).take (i - f) ++ c :: s.drop (i + 1) := by
    have h1 : (s.drop f).drop (i - f) = s.drop i := by rw [List.drop_drop]; congr 1; omega
    have h2 : s.drop i = c :: s.drop (i + 1) := by rw [List.drop_eq_getElem_cons hi, hc]
    rw [← h2, ← h1, List.take_append_drop]
  have h3 := spl_app ((s.drop f).take (i - f)) (s.drop (i + 1)) hn
  rw [← e] at h3
  rw [h3, List.drop_take]
theorem spl_last {s : List UInt8} {f : Nat} (hn : c ∉ s.drop f) : splitOn c (s.drop f) = [(s.take s.length).drop f] := by
  rw [spl_none _ hn, List.take_length]

end Go.AM.Spec

namespace Go.AM.Spec
set_option linter.unusedVariables false
set_option linter.unusedSimpArgs false
set_option maxHeartbeats 1000000
set_option maxRecDepth 10000

/-- The last kind below j with that word; none: 0. -/
def kindTo (w : List UInt8) : Nat → Int
  | 0 => 0
  | j + 1 => if siteWords[j]? = some w then (j : Int) else kindTo w j

def Si.putN (s : Si) (i : Nat) (n : Int) : Si := if i = 0 then { s with part := n } else { s with way := s.way.set (i - 1) n }

def numOK (w : List UInt8) : Bool := (readR w).2 && decide ((readR w).1 ≤ 511)

def readNums (s : Si) : Nat → List (List UInt8) → Option Si
  | _, [] => some s
  | i, w :: ws => if numOK w = true then readNums (s.putN i (readR w).1) (i + 1) ws else none

def zeroSi : Si := ⟨0, 0, List.replicate 8 0, 0⟩

def startSi (k d : Int) : Si := ⟨k, 0, List.replicate 8 0, d⟩

def afterNums : Option Si → Si × Bool
  | none => (zeroSi, false)
  | some s => if s.name.2 = true then (s, true) else (zeroSi, false)

/-- What is read of a text. -/
def readSi (t : List UInt8) : Si × Bool :=
  let l := splitOn 32 t
  if l.length < 3 ∨ 10 < l.length then (zeroSi, false) else afterNums (readNums (startSi (kindTo ((l[0]?).getD []) 9) ((l.length : Int) - 2)) 0 (l.drop 1))

theorem Si.ok_putN {s : Si} (ok : s.ok) (i : Nat) (n : Int) : (s.putN i n).ok := by
  unfold Si.putN
  split
  · exact ok
  · show (s.way.set (i - 1) n).length = 8
    rw [List.length_set]; exact ok
theorem Si.put0 (s : Si) (k : Int) : s.cells.set 0 (iv k) = ({ s with kind := k } : Si).cells := rfl
theorem Si.put1 (s : Si) (n : Int) : s.cells.set 1 (iv n) = (s.putN 0 n).cells := rfl
theorem Si.put2 {s : Si} (ok : s.ok) {i : Nat} (hi : i < 8) (n : Int) : s.cells.set (2 + i) (iv n) = (s.putN (i + 1) n).cells := by
  have h8 : s.way.length = 8 := ok
  have e : s.putN (i + 1) n = { s with way := s.way.set i n } := by unfold Si.putN; rw [if_neg (by omega)]; rfl
  rw [e, Nat.add_comm]
  simp only [Si.cells, List.set_cons_succ]
  rw [List.set_append_left _ _ (by simpa [h8] using hi), List.map_set]

theorem tx_get (l : List (List UInt8)) (i : Nat) : (l.map tx)[i]? = (l[i]?).map tx := List.getElem?_map ..

theorem rkind_loop (n : Nat) (A B : Heap) (hA : A.length = n) (L : List (List UInt8)) (w : List UInt8) (hw : L[0]? = some w) (v2 : V) (call : CallF) (Q : Option (V × Heap) → Prop) (k : List Item) (s : Si) (ok : s.ok)
    (hexit : ∀ φ', Fr.get φ' 2 = v2 → Fr.get φ' 4 = .sl 1 (L.map tx) → Fr.get φ' 5 = .ptr n 0 → Q (M call k φ' (A ++ some ({ s with kind := kindTo w 9 } : Si).cells :: B))) :
    ∀ (j i : Nat) (φ : Fr), i + j = 9 → Fr.get φ 2 = v2 → Fr.get φ 4 = .sl 1 (L.map tx) → Fr.get φ 5 = .ptr n 0 → Fr.get φ 29 = .sl 1 (siteWords.map tx) → Fr.get φ 30 = iv 9 → Fr.get φ 31 = iv i →
      Q (M call (.code l_site_Read_0 :: .blk 0 :: k) φ (A ++ some ({ s with kind := kindTo w i } : Si).cells :: B)) := by
  have e9 : siteWords.length = 9 := rfl
  have h0 : (L.map tx)[0]? = some (tx w) := by rw [tx_get, hw]; rfl
  have htw : tx w = [V.str w] := rfl
  have hlen0 : 0 < L.length := by
    cases L with
    | nil => cases hw
    | cons a b => simp
  have hg0 : ∀ h : 0 < L.length, L[0] = w := fun h => by
    rw [List.getElem?_eq_getElem h] at hw
    exact Option.some.inj hw
  intro j
  induction j with
  | zero =>
    intro i φ hi h2 h4 h5 h29 h30 h31
    obtain rfl : i = 9 := by omega
    rw [l_site_Read_0, M_loop]
    simp [b_site_Read_0, h2, h4, h5, h29, h30, h31]
    exact hexit _ (by simp [h2]) (by simp [h4]) (by simp [h5])
  | succ j ih =>
    intro i φ hi h2 h4 h5 h29 h30 h31
    have hlt : i < siteWords.length := by omega
    obtain ⟨u, hu⟩ : ∃ u, u = siteWords[i] := ⟨_, rfl⟩
    have hu' : siteWords[i]? = some u := by rw [hu]; exact List.getElem?_eq_getElem hlt
    have hr : (siteWords.map tx)[i]? = some (tx u) := by rw [tx_get, hu']; rfl
    have e1 : (i : Int) < 9 := by omega
    have e2 : IntKind.i64.wrap ((i : Int) + 1) = ((i + 1 : Nat) : Int) := by rw [w64] <;> omega
    have hc := Si.len (s := { s with kind := kindTo w i }) ok
    have hs0 := Si.put0 ({ s with kind := kindTo w i } : Si) i
    obtain ⟨K, hK⟩ : ∃ K, K = ({ s with kind := kindTo w i } : Si).cells := ⟨_, rfl⟩
    rw [← hK] at hc hs0 ⊢
    have hset : (A ++ some K :: B).set n (some (({ s with kind := (i : Int) } : Si).cells)) = A ++ some (({ s with kind := (i : Int) } : Si).cells) :: B := by rw [← hA]; exact set0 ..
    have hgn : (A ++ some K :: B)[n]? = some (some K) := by rw [← hA]; exact get0 ..
    rw [l_site_Read_0, M_loop, ← l_site_Read_0]
    by_cases a1 : u = w
    · have hk : ({ s with kind := kindTo w (i + 1) } : Si) = { s with kind := (i : Int) } := by
        rw [kindTo, if_pos (by rw [hu', a1])]
      have := ih (i + 1)
      rw [hk] at this
      simp only [tx] at h0 hr
      simp [b_site_Read_0, h2, h4, h5, h29, h30, h31, h0, hr, e1, e2, a1, hgn, hc, hs0, hset, e9, hlt, hlen0, hg0, htw]
      refine this _ (by omega) ?_ ?_ ?_ ?_ ?_ ?_ <;> simp [h2, h4, h5, h29, h30]
    · have hk : ({ s with kind := kindTo w (i + 1) } : Si).cells = K := by
        rw [hK, kindTo, if_neg (by rw [hu']; intro h; exact a1 (Option.some.inj h))]
      have := ih (i + 1)
      rw [hk] at this
      simp only [tx] at h0 hr
      simp [b_site_Read_0, h2, h4, h5, h29, h30, h31, h0, hr, e1, e2, a1, e9, hlt, hlen0, hg0, htw]
      refine this _ (by omega) ?_ ?_ ?_ ?_ ?_ ?_ <;> simp [h2, h4, h5, h29, h30]

end Go.AM.Spec

namespace Go.AM.Spec
set_option linter.unusedVariables false
set_option linter.unusedSimpArgs false
set_option maxHeartbeats 1000000
set_option maxRecDepth 10000

theorem zero_cells_eq : [V.int .i64 0, V.int .i64 0, V.int .i64 0, V.int .i64 0, V.int .i64 0, V.int .i64 0, V.int .i64 0, V.int .i64 0, V.int .i64 0, V.int .i64 0, V.int .i64 0] = zeroSi.cells := rfl
theorem zeroSi_ok : zeroSi.ok := rfl

theorem rnums_loop (H : Heap) (L : List (List UInt8)) (hL : L.length ≤ 9) (Q : Option (V × Heap) → Prop) (k : List Item) (X : Option Si)
    (hyes : ∀ φ' s', X = some s' → s'.ok → Fr.get φ' 2 = .ptr H.length 0 → Fr.get φ' 5 = .ptr (H.length + 1) 0 → Q (M (eval tbl noExt) k φ' (H ++ [some zeroSi.cells, some s'.cells])))
    (hno : ∀ φ' s', X = none → Fr.get φ' 2 = .ptr H.length 0 → Fr.get φ' 3 = .bool false → Q (retK k φ' (H ++ [some zeroSi.cells, some s']))) :
    ∀ (j i : Nat) (φ : Fr) (s : Si), i + j = L.length → s.ok → readNums s i (L.drop i) = X → Fr.get φ 2 = .ptr H.length 0 → Fr.get φ 5 = .ptr (H.length + 1) 0 → Fr.get φ 45 = .sl 1 (L.map tx) → Fr.get φ 46 = iv L.length → Fr.get φ 47 = iv i →
      Q (M (eval tbl noExt) (.code l_site_Read_1 :: .blk 2 :: k) φ (H ++ [some zeroSi.cells, some s.cells])) := by
  intro j
  induction j with
  | zero =>
    intro i φ s hi ok hX h2 h5 h45 h46 h47
    have hlt : ¬ (i : Int) < L.length := by omega
    rw [List.drop_eq_nil_of_le (by omega)] at hX
    rw [l_site_Read_1, M_loop]
    simp [b_site_Read_1, h2, h5, h45, h46, h47, hlt]
    exact hyes _ s hX.symm ok (by simp [h2]) (by simp [h5])
  | succ j ih =>
    intro i φ s hi ok hX h2 h5 h45 h46 h47
    have hlt : i < L.length := by omega
    obtain ⟨u, hu⟩ : ∃ u, u = L[i] := ⟨_, rfl⟩
    have hu' : L[i]? = some u := by rw [hu]; exact List.getElem?_eq_getElem hlt
    rw [List.drop_eq_getElem_cons hlt, ← hu, readNums] at hX
    have htw : tx u = [V.str u] := rfl
    have hr : (L.map tx)[i]? = some (tx u) := by rw [tx_get, hu']; rfl
    have hg : ∀ h : i < L.length, L[i] = u := fun h => hu.symm
    have e1 : (i : Int) < L.length := by omega
    have e2 : IntKind.i64.wrap ((i : Int) + 1) = ((i + 1 : Nat) : Int) := by rw [w64] <;> omega
    have hrd := fun K => read_eq K u
    have hsm := read_small u
    have hc := Si.len ok
    rw [l_site_Read_1, M_loop, ← l_site_Read_1]
    by_cases hok : numOK u = true
    · rw [if_pos hok] at hX
      unfold numOK at hok
      simp only [Bool.and_eq_true, decide_eq_true_eq] at hok
      obtain ⟨b1, b2⟩ := hok
      have b3 : ¬ 511 < (readR u).1 := by omega
      cases i with
      | zero =>
        have hs1 := Si.put1 s (readR u).1
        simp [b_site_Read_1, h2, h5, h45, h46, h47, hr, e1, e2, htw, hg, hlt, hrd, b1, b3, hc, hs1]
        refine ih 1 _ (s.putN 0 (readR u).1) (by omega) (Si.ok_putN ok _ _) hX ?_ ?_ ?_ ?_ ?_ <;> simp [h2, h5, h45, h46, w64]
      | succ m =>
        have hs2 := Si.put2 ok (i := m) (by omega) (readR u).1
        have e3 : IntKind.i64.wrap (((m + 1 : Nat) : Int) - 1) = (m : Int) := by rw [w64] <;> omega
        have e3' : IntKind.i64.wrap ((m : Int) + 1 - 1) = (m : Int) := by rw [w64] <;> omega
        have e4 : (m : Int) < 8 := by omega
        have e5 : ¬ ((m : Int) + 1 = 0) := by omega
        have e6 : (m : Int) + 1 < L.length := by omega
        have e7 : (0 : Int) ≤ (m : Int) + 1 := by omega
        have e8 : IntKind.i64.wrap ((m : Int) + 1 + 1) = (m : Int) + 1 + 1 := by rw [w64] <;> omega
        have e9 : 2 + m + 1 ≤ 11 := by omega
        have e10 : 2 + m < 11 := by omega
        have e12 : IntKind.i64.wrap (m : Int) = (m : Int) := by rw [w64] <;> omega
        have e11 : ((m : Int) + 1).toNat = m + 1 := by omega
        simp [b_site_Read_1, h2, h5, h45, h46, h47, hr, e1, e2, e3, e3', e4, e5, e6, e7, e8, e9, e10, e11, e12, htw, hg, hlt, hrd, b1, b3, hc, hs2]
        refine ih (m + 1 + 1) _ (s.putN (m + 1) (readR u).1) (by omega) (Si.ok_putN ok _ _) hX ?_ ?_ ?_ ?_ ?_ <;> simp [h2, h5, h45, h46]
    · rw [if_neg hok] at hX
      have hz := h11 zeroSi zeroSi_ok
      have hz2 : zeroSi.cells.length = 11 := rfl
      have hz3 : setMany zeroSi.cells 0 zeroSi.cells = zeroSi.cells := rfl
      have hz4 : V.underAll (H.length + 1) zeroSi.cells = true := rfl
      have hz5 : zeroSi.cells.all V.one = true := rfl
      have hzc := zero_cells_eq
      cases b1 : (readR u).2 with
      | false =>
        simp [b_site_Read_1, h2, h5, h45, h46, h47, hr, e1, e2, htw, hg, hlt, hrd, b1, hzc, hz2, hz3, hz4, hz5]
        exact hno _ s.cells hX.symm (by simp [h2]) (by simp)
      | true =>
        have b3 : 511 < (readR u).1 := by
          unfold numOK at hok
          simp only [b1, Bool.true_and, decide_eq_true_eq] at hok
          omega
        simp [b_site_Read_1, h2, h5, h45, h46, h47, hr, e1, e2, htw, hg, hlt, hrd, b1, b3, hzc, hz2, hz3, hz4, hz5]
        exact hno _ s.cells hX.symm (by simp [h2]) (by simp)

theorem ssplit_eq (t : List UInt8) (hl : t.length ≤ 1000000) (H : Heap) : eval tbl noExt n_strings_Split [.str t, .str [32]] H = some (.sl 1 ((splitOn 32 t).map tx), H) := by
  rw [eval_X rfl (show noExt n_strings_Split = some xSplit from rfl)]
  simp only [xSplit]
  rw [if_pos (by omega)]

theorem Read_eq (t : List UInt8) (hl : t.length ≤ 1000) (H : Heap) : eval tbl noExt n_site_Read [.str t] H = some (.tup [.agg (readSi t).1.cells, .bool (readSi t).2], H) := by
  have hs := fun K => ssplit_eq t (by omega) K
  have hlen := spl_len (c := 32) t
  have hne := spl_ne 32 t
  have hw := fun K => words_eq K
  have e9 : siteWords.length = 9 := rfl
  obtain ⟨L, hL⟩ : ∃ L, L = splitOn 32 t := ⟨_, rfl⟩
  have hR : readSi t = if L.length < 3 ∨ 10 < L.length then (zeroSi, false) else afterNums (readNums (startSi (kindTo ((L[0]?).getD []) 9) ((L.length : Int) - 2)) 0 (L.drop 1)) := by rw [hL]; rfl
  rw [← hL] at hs hlen hne
  rw [hR]
  have e1 : IntKind.i64.wrap ((L.length : Int) - 2) = (L.length : Int) - 2 := by rw [w64] <;> omega
  have hzc := zero_cells_eq
  have hz2 : zeroSi.cells.length = 11 := rfl
  have hz3 : setMany zeroSi.cells 0 zeroSi.cells = zeroSi.cells := rfl
  have hz4 : ∀ n, V.underAll n zeroSi.cells = true := fun _ => rfl
  have hz5 : zeroSi.cells.all V.one = true := rfl
  have hz6 : zeroSi.cells.map V.strip = zeroSi.cells := rfl
  have hz7 : zeroSi.cells.take 11 = zeroSi.cells := rfl
  obtain ⟨s1, hs1⟩ : ∃ s1 : Si, s1 = startSi 0 ((L.length : Int) - 2) := ⟨_, rfl⟩
  have ok1 : s1.ok := by rw [hs1]; rfl
  have hd : zeroSi.cells.set 10 (V.int .i64 ((L.length : Int) - 2)) = s1.cells := by rw [hs1]; rfl
  have hd1 : s1.cells.length = 11 := Si.len ok1
  have hd2 : ∀ n, V.underAll n s1.cells = true := fun n => Si.under n
  have hd3 : s1.cells.all V.one = true := Si.one
  have hd4 : setMany zeroSi.cells 0 s1.cells = s1.cells := setMany_self _ _ (by rw [hd1]; rfl)
  have hd5 : ∀ h : 10 < s1.cells.length, s1.cells[10] = iv ((L.length : Int) - 2) := fun h => by
    have := Si.c10 ok1
    rw [List.getElem?_eq_getElem h] at this
    rw [Option.some.inj this, hs1]; rfl
  rw [eval_M rfl rfl t_site_Read rfl]
  by_cases c1 : L.length < 3 ∨ 10 < L.length
  · rw [if_pos c1]
    by_cases c2 : L.length < 3
    · have c2' : (L.length : Int) - 2 < 1 := by omega
      simp [c_site_Read, hs, e1, c2', hzc, hz2, hz3, hz4, hz5, hz6, hz7, hd, hd1, hd2, hd3, hd4, hd5]
    · have c2' : ¬ (L.length : Int) - 2 < 1 := by omega
      have c3' : 8 < (L.length : Int) - 2 := by omega
      simp [c_site_Read, hs, e1, c2', c3', hzc, hz2, hz3, hz4, hz5, hz6, hz7, hd, hd1, hd2, hd3, hd4, hd5]
  · rw [if_neg c1]
    have c2' : ¬ (L.length : Int) - 2 < 1 := by omega
    have c3' : ¬ 8 < (L.length : Int) - 2 := by omega
    obtain ⟨w0, hw0⟩ : ∃ w, L[0]? = some w := by
      cases L with
      | nil => exact absurd rfl hne
      | cons a b => exact ⟨a, rfl⟩
    rw [hw0, Option.getD_some]
    have hc1 : s1.cells = ({ s1 with kind := kindTo w0 0 } : Si).cells := by rw [hs1]; rfl
    have hk1 : startSi (kindTo w0 9) ((L.length : Int) - 2) = { s1 with kind := kindTo w0 9 } := by rw [hs1]; rfl
    rw [hk1]
    obtain ⟨X, hX⟩ : ∃ X, X = readNums { s1 with kind := kindTo w0 9 } 0 (L.drop 1) := ⟨_, rfl⟩
    rw [← hX]
    obtain ⟨Rv, hRv⟩ : ∃ Rv, Rv = afterNums X := ⟨_, rfl⟩
    rw [← hRv]
    simp [c_site_Read, hs, e1, c2', c3', hzc, hz2, hz3, hz4, hz5, hz6, hz7, hd, hd1, hd2, hd3, hd4, hd5, hw, e9]
    rw [hc1]
    have hcut : (List.map tx L).drop 1 = (L.drop 1).map tx := by rw [List.map_drop]
    have hdl : (L.drop 1).length = L.length - 1 := by simp
    rw [show ∀ x, H ++ [some zeroSi.cells, x] = (H ++ [some zeroSi.cells]) ++ x :: [] from fun x => by simp]
    refine rkind_loop (H.length + 1) (H ++ [some zeroSi.cells]) [] (by simp) L w0 hw0 (.ptr H.length 0) _ (fun r => r = some (V.tup [.agg Rv.1.cells, .bool Rv.2], H)) _ s1 ok1 ?_ 9 0 _ (by omega) ?_ ?_ ?_ ?_ ?_ ?_
    · intro φ' q2 q4 q5
      have hone : (1 : Int) ≤ L.length := by omega
      have hnn : L.length ≠ 0 := by omega
      simp [r_site_Read_1, q2, q4, q5, hone]
      refine rnums_loop H (L.drop 1) (by omega) (fun r => r = some (V.tup [.agg Rv.1.cells, .bool Rv.2], H)) _ X ?_ ?_ (L.length - 1) 0 _ _ (by omega) ok1 (by rw [List.drop_zero, ← hX]) ?_ ?_ ?_ ?_ ?_
      · intro φ' s' hs' ok' p2 p5
        have hN := fun K => Name_eq s' ok' K
        have hst := Si.strip (s := s')
        have htk := Si.take ok'
        have hun := fun n => Si.under (s := s') n
        have hlen' := Si.len ok'
        have hone' := Si.one (s := s')
        have hsm' : setMany zeroSi.cells 0 s'.cells = s'.cells := setMany_self _ _ (by rw [hlen']; rfl)
        cases hnm : s'.name.2 with
        | true =>
          have hv : Rv = (s', true) := by rw [hRv, hs']; simp only [afterNums, if_pos hnm]
          rw [hv]
          simp [r_site_Read_0, p2, p5, hN, hst, htk, hun, hlen', hone', hsm', hnm, hz2]
        | false =>
          have hv : Rv = (zeroSi, false) := by rw [hRv, hs']; simp [afterNums, hnm]
          rw [hv]
          simp [r_site_Read_0, p2, p5, hN, hst, htk, hun, hlen', hnm, hzc, hz2, hz3, hz4, hz5, hz6, hz7]
      · intro φ' s' hx p2 p3
        have hv : Rv = (zeroSi, false) := by rw [hRv, hx]; rfl
        rw [hv]
        simp [p2, p3, hz2, hz6, hz7, hz4]
      · simp [q2]
      · simp [q5]
      · simp [List.take_of_length_le]
      · simp
      · simp
    all_goals simp

end Go.AM.Spec

namespace Go.AM.Spec
set_option linter.unusedVariables false
set_option linter.unusedSimpArgs false
set_option maxHeartbeats 1000000
set_option maxRecDepth 10000

theorem readNums_deep (d : Int) : ∀ (ws : List (List UInt8)) (s : Si) (i : Nat), readNums { s with deep := d } i ws = (readNums s i ws).map fun s => { s with deep := d }
  | [], s, i => rfl
  | w :: ws, s, i => by
    rw [readNums, readNums]
    split
    · have e : ({ s with deep := d } : Si).putN i (readR w).1 = { s.putN i (readR w).1 with deep := d } := by unfold Si.putN; split <;> rfl
      rw [e, readNums_deep d ws]
    · rfl

theorem readNums_ok : ∀ (ws : List (List UInt8)) (s : Si) (i : Nat) (s' : Si), s.ok → readNums s i ws = some s' → s'.ok ∧ s'.kind = s.kind
  | [], s, i, s', ok, h => by cases h; exact ⟨ok, rfl⟩
  | w :: ws, s, i, s', ok, h => by
    rw [readNums] at h
    split at h
    · have := readNums_ok ws _ _ s' (Si.ok_putN ok _ _) h
      refine ⟨this.1, this.2.trans ?_⟩
      unfold Si.putN; split <;> rfl
    · cases h

theorem nums_full (k p d : Int) : ∀ (ws : List (List UInt8)) (done : List Int) (s' : Si), done.length + ws.length ≤ 8 → readNums ⟨k, p, done ++ List.replicate (8 - done.length) 0, d⟩ (done.length + 1) ws = some s' →
    (∀ w ∈ ws, numOK w = true) ∧ s' = ⟨k, p, done ++ (ws.map (fun w => (readR w).1) ++ List.replicate (8 - done.length - ws.length) 0), d⟩
  | [], done, s', _, h => by
    cases h
    exact ⟨by simp, by simp⟩
  | w :: ws, done, s', hl, h => by
    simp only [List.length_cons] at hl
    rw [readNums] at h
    split at h
    · rename_i hw
      have e : (⟨k, p, done ++ List.replicate (8 - done.length) 0, d⟩ : Si).putN (done.length + 1) (readR w).1 = ⟨k, p, (done ++ [(readR w).1]) ++ List.replicate (8 - (done ++ [(readR w).1]).length) 0, d⟩ := by
        unfold Si.putN
        rw [if_neg (by omega)]
        have h1 : (done ++ List.replicate (8 - done.length) 0).set done.length (readR w).1 = (done ++ [(readR w).1]) ++ List.replicate (8 - (done.length + 1)) (0 : Int) := by
          obtain ⟨m, hm⟩ : ∃ m, 8 - done.length = m + 1 := ⟨7 - done.length, by omega⟩
          rw [hm, List.set_append_right _ _ (Nat.le_refl _), show 8 - (done.length + 1) = m by omega]
          simp [List.replicate_succ]
        simp only [Nat.add_sub_cancel, h1, List.length_append, List.length_singleton]
      rw [e] at h
      have := nums_full k p d ws (done ++ [(readR w).1]) s' (by simp; omega) (by simpa using h)
      refine ⟨fun x hx => ?_, ?_⟩
      · rcases List.mem_cons.1 hx with rfl | hx
        · exact hw
        · exact this.1 x hx
      · rw [this.2]
        simp only [List.length_append, List.length_singleton, List.map_cons, List.append_assoc, List.cons_append, List.nil_append, List.length_cons, List.length_nil, Nat.zero_add]
        rw [show 8 - (done.length + 1) - ws.length = 8 - done.length - (ws.length + 1) by omega]
    · cases h

theorem kindTo_word (w : List UInt8) : ∀ j, j ≤ 9 → kindTo w j < 9 ∧ (1 ≤ kindTo w j → wordOf (kindTo w j) = w)
  | 0, _ => ⟨by show (0 : Int) < 9; decide, fun h => by simp [kindTo] at h⟩
  | j + 1, hj => by
    rw [kindTo]
    split
    · rename_i h
      refine ⟨by omega, fun h1 => ?_⟩
      unfold wordOf
      rw [if_neg (by omega), show ((j : Int)).toNat = j by omega, h]; rfl
    · exact kindTo_word w j (by omega)

/-- What is read has the text as its name. -/
theorem name_read {t w0 : List UInt8} {L : List (List UInt8)} (hL : L = splitOn 32 t) (h3 : 3 ≤ L.length) (h10 : L.length ≤ 10) (hw : L[0]? = some w0) {s : Si} (h : readNums (startSi (kindTo w0 9) ((L.length : Int) - 2)) 0 (L.drop 1) = some s) (hn : s.name.2 = true) : s.name.1 = t := by
  have hj : Go.Lib.join L [32] = t := by rw [hL]; exact join_spl t
  match L, hw, h3 with
  | a :: b :: ws, hw, h3 =>
    simp at hw
    subst hw
    simp only [List.drop_succ_cons, List.drop_zero, readNums] at h
    split at h
    · rename_i hb
      have e : (startSi (kindTo a 9) (((a :: b :: ws).length : Int) - 2)).putN 0 (readR b).1 = ⟨kindTo a 9, (readR b).1, [] ++ List.replicate (8 - ([] : List Int).length) 0, (ws.length : Int)⟩ := by
        unfold Si.putN startSi
        rw [if_pos rfl]
        simp only [List.length_cons]
        congr 1
        omega
      rw [e] at h
      simp only [List.length_cons] at h10
      obtain ⟨h1, h2⟩ := nums_full _ _ _ ws [] s (by simp; omega) h
      simp only [List.nil_append, List.length_nil, Nat.sub_zero] at h2
      have hk := kindTo_word a 9 (Nat.le_refl _)
      unfold Si.name at hn ⊢
      split at hn
      · cases hn
      · rename_i hc
        split at hn
        · cases hn
        · rename_i hc2
          rw [if_neg hc, if_neg hc2]
          have hc3 : ¬ s.kind < 1 := fun h => hc (.inl h)
          have hkk : s.kind = kindTo a 9 := by rw [h2]
          rw [hkk] at hc3
          have p1 : wordOf s.kind = a := by rw [hkk]; exact hk.2 (by omega)
          have tr : ∀ w, numOK w = true → text (readR w).1 = w := fun w hw => text_read w (by unfold numOK at hw; simp only [Bool.and_eq_true] at hw; exact hw.1)
          have p2 : text s.part = b := by rw [h2]; exact tr b hb
          have p3 : (s.way.take s.deep.toNat).map text = ws := by
            rw [h2]
            simp only [Int.toNat_natCast]
            rw [List.take_append_of_le_length (by simp), List.take_of_length_le (by simp), List.map_map]
            have : ∀ l : List (List UInt8), (∀ w ∈ l, numOK w = true) → l.map (text ∘ fun w => (readR w).1) = l := by
              intro l
              induction l with
              | nil => intro _; rfl
              | cons x l ih => intro hl; rw [List.map_cons, ih (fun w hw => hl w (by simp [hw]))]; simp only [Function.comp, tr x (hl x (by simp))]
            exact this ws h1
          have : s.parts = a :: b :: ws := by unfold Si.parts; rw [p1, p2, p3]
          rw [this, hj]
    · cases h

end Go.AM.Spec

namespace Go.AM.Spec
set_option linter.unusedVariables false
set_option linter.unusedSimpArgs false
set_option maxHeartbeats 1000000
set_option maxRecDepth 10000

def Sm.body : Sm → List Sm
  | .mk _ _ _ _ b _ _ => b
def Sm.els : Sm → List Sm
  | .mk _ _ _ _ _ c _ => c
def Sm.commit : Sm → Bool
  | .mk _ _ _ _ _ _ k => k
def Sm.exprs : Sm → List Ex
  | .mk _ _ _ e _ _ _ => e
def Ex.op : Ex → Int
  | .mk op _ _ _ => op
def Ex.text : Ex → List UInt8
  | .mk _ _ s _ => s

/-- The blocks of a program that may be changed. -/
def Pg.blocks (p : Pg) : List (List Sm) := p.main :: p.procs.map (·.2)

/-- The block to which a number of a way leads. -/
def Sm.sub (x : Sm) (n : Int) : List Sm := if n % 2 = 1 then x.els else x.body

/-- The statements from that on to which a way leads. -/
def leadTo : List Sm → Nat → List Int → List Sm
  | b, k, [] => b.drop k
  | b, k, n :: ws => match b[k]? with
    | none => []
    | some x => leadTo (x.sub n) (n / 2).toNat ws

def leadOf (p : Pg) (s : Si) : List Sm :=
  if 0 ≤ s.part ∧ s.part < p.blocks.length ∧ s.may = true then leadTo (p.blocks.getD s.part.toNat []) (s.way.getD 0 0).toNat ((s.way.take s.deep.toNat).drop 1) else []

theorem sparts_loop (call : CallF) (R : Option (V × Heap)) (n : Nat) (H : Heap) (p : Pg) (hl : p.procs.length ≤ 1000) (k : List Item)
    (hexit : ∀ φ' K, K.take n = H → n ≤ K.length → Fr.get φ' 3 = .own 1 (p.blocks.map brow) → M call k φ' K = R) :
    ∀ (j i : Nat) (φ : Fr) (K : Heap), i + j = p.procs.length → K.take n = H → n ≤ K.length → Fr.get φ 3 = .own 1 ((p.blocks.take (i + 1)).map brow) → Fr.get φ 10 = .sl 2 p.pcells → Fr.get φ 11 = .int .i64 p.procs.length → Fr.get φ 12 = .int .i64 i →
      M call (.code l_site_parts_0 :: .blk 0 :: k) φ K = R := by
  intro j
  induction j with
  | zero =>
    intro i φ K hi hK hn h3 h10 h11 h12
    have hlt : ¬ (i : Int) < p.procs.length := by omega
    have e : p.blocks.take (i + 1) = p.blocks := List.take_of_length_le (by simp [Pg.blocks]; omega)
    rw [e] at h3
    rw [l_site_parts_0, M_loop]
    simp [b_site_parts_0, h3, h10, h11, h12, hlt]
    exact hexit _ _ hK hn (by simp [h3])
  | succ j ih =>
    intro i φ K hi hK hn h3 h10 h11 h12
    have hlt : (i : Int) < p.procs.length := by omega
    have hltn : i < p.procs.length := by omega
    obtain ⟨e, he⟩ : ∃ e, p.procs[i]? = some e := ⟨_, List.getElem?_eq_getElem hltn⟩
    have hrow := Pg.prow he
    have hpl := p.pcells_len
    have e2 : IntKind.i64.wrap ((i : Int) + 1) = ((i + 1 : Nat) : Int) := by rw [w64] <;> omega
    have hb : p.blocks[i + 1]? = some e.2 := by simp [Pg.blocks, he]
    have hnext : (p.blocks.take (i + 1)).map brow ++ [[V.sl 7 (Sm.rows e.2)]] = (p.blocks.take (i + 1 + 1)).map brow := by
      rw [List.take_add_one (i := i + 1), hb]; simp [brow]
    obtain ⟨rows, hrows⟩ : ∃ rows, rows = (p.blocks.take (i + 1)).map brow := ⟨_, rfl⟩
    have hrl : rows.length = i + 1 := by rw [hrows]; simp [Pg.blocks]; omega
    rw [← hrows] at h3 hnext
    have hcap : 2 * (i + 1 + 1) * 24 ≤ 281474976710656 := by omega
    rw [l_site_parts_0, M_loop, ← l_site_parts_0]
    simp [b_site_parts_0, h3, h10, h11, h12, hlt, hrow, hpl, hrl, hcap, e2, get0, get1, set0, set1]
    refine ih (i + 1) _ _ (by omega) (take_more hK hn _) (by simp; omega) ?_ ?_ ?_ ?_ <;> simp [h10, h11, hnext]

theorem sparts_eq (p : Pg) (hl : p.procs.length ≤ 1000) (H : Heap) : eval tbl noExt n_site_parts [.agg p.cells] H = some (.own 1 (p.blocks.map brow), H) := by
  have hpl := p.pcells_len
  have hc : p.cells = [.sl 2 p.pcells, .sl 7 (Sm.rows p.main), .sl 7 (Sm.rows p.recover), .sl 5 p.ocells] := rfl
  rw [eval_M rfl rfl t_site_parts rfl]
  simp [c_site_parts, hc, hpl]
  refine sparts_loop _ _ H.length H p hl _ (fun φ' K hK hn h3 => by simp [r_site_parts_0, h3, hK]) p.procs.length 0 _ _ (by omega) (by simp) (by simp) ?_ ?_ ?_ ?_ <;> simp [Pg.blocks, brow]

theorem bit_and {n : Int} (h0 : 0 ≤ n) (hn : n < 9223372036854775808) : IntKind.i64.wrap ↑((n % 2 ^ IntKind.i64.bits).toNat &&& 1 % 2 ^ IntKind.i64.bits) = n % 2 := by
  have e : (2 : Int) ^ IntKind.i64.bits = 18446744073709551616 := by decide
  have e' : (1 : Nat) % 2 ^ IntKind.i64.bits = 1 := by decide
  rw [e, e', Nat.and_one_is_mod, w64] <;> omega

theorem snext_eq (x : Sm) (n : Int) (h0 : 0 ≤ n) (hn : n < 9223372036854775808) (H : Heap) : eval tbl noExt n_site_next [.agg x.cells, iv n] H = some (.tup [.sl 7 (Sm.rows (x.sub n)), iv (n / 2)], H) := by
  obtain ⟨op, s, w, e, b, c, g⟩ := x
  have ha := bit_and h0 hn
  have hm : min 1 IntKind.i64.bits = 1 := by decide
  have hf : n.fdiv 2 = n / 2 := Int.fdiv_eq_ediv_of_nonneg _ (by omega)
  rw [eval_M rfl rfl t_site_next rfl]
  unfold Sm.sub
  by_cases h : n % 2 = 1
  · simp [c_site_next, Sm.cells, h, Sm.els, Sm.body, ha, hm, hf]
  · simp [c_site_next, Sm.cells, h, Sm.els, Sm.body, ha, hm, hf]

end Go.AM.Spec

namespace Go.AM.Spec
set_option linter.unusedVariables false
set_option linter.unusedSimpArgs false
set_option maxHeartbeats 1000000
set_option maxRecDepth 10000

theorem fit_range {n : Int} (h : Fit n) : -9223372036854775808 ≤ n ∧ n < 9223372036854775808 := by
  have h' : (Lit.int .i64 n).wf = true := h
  simp [Lit.wf] at h'
  have hm : IntKind.i64.min = -9223372036854775808 := by decide
  rw [hm] at h'
  omega

theorem leadTo_none {b : List Sm} {k : Nat} (h : b.length ≤ k) (ws : List Int) : leadTo b k ws = [] := by
  cases ws with
  | nil => rw [leadTo, List.drop_eq_nil_of_le h]
  | cons n ws => rw [leadTo, List.getElem?_eq_none h]
theorem leadTo_some {b : List Sm} {k : Nat} {x : Sm} (h : b[k]? = some x) (n : Int) (ws : List Int) : leadTo b k (n :: ws) = leadTo (x.sub n) (n / 2).toNat ws := by
  rw [leadTo, h]

theorem Sm.rows_drop (b : List Sm) (k : Nat) : (Sm.rows b).drop k = Sm.rows (b.drop k) := by simp [Sm.rows_eq, List.map_drop]

theorem slead_loop (s : Si) (ok : s.ok) (K : Heap) (q : Nat) (hq : K[q]? = some (some s.cells)) (d : Nat) (h1d : 1 ≤ d) (hd8 : d ≤ 8) (hpos : ∀ w ∈ s.way, 0 ≤ w) (hfit : ∀ w ∈ s.way, Fit w) (Q : Option (V × Heap) → Prop) (k : List Item) (X : List Sm)
    (hexit : ∀ φ' (b : List Sm) (u : Int), 0 ≤ u → b.drop u.toNat = X → Fr.get φ' 6 = .sl 7 (Sm.rows b) → Fr.get φ' 7 = iv u → Q (M (eval tbl noExt) k φ' K)) (hno : ∀ φ', X = [] → Fr.get φ' 4 = .own 7 [] → Q (retK k φ' K)) :
    ∀ (j i : Nat) (φ : Fr) (b : List Sm) (u : Int), i + j = d - 1 → 0 ≤ u → leadTo b u.toNat (((s.way.take d).drop 1).drop i) = X → Fr.get φ 6 = .sl 7 (Sm.rows b) → Fr.get φ 7 = iv u → Fr.get φ 38 = .ms q 3 (d - 1) 7 → Fr.get φ 39 = iv ((d - 1 : Nat) : Int) → Fr.get φ 40 = iv i →
      Q (M (eval tbl noExt) (.code l_site_lead_0 :: .blk 0 :: k) φ K) := by
  have h8 : s.way.length = 8 := ok
  have hln : ((s.way.take d).drop 1).length = d - 1 := by simp [h8]; omega
  intro j
  induction j with
  | zero =>
    intro i φ b u hi hu hX h6 h7 h38 h39 h40
    have hlt : ¬ (i : Int) < ((d - 1 : Nat) : Int) := by omega
    rw [List.drop_eq_nil_of_le (by omega), leadTo] at hX
    rw [l_site_lead_0, M_loop]
    simp [b_site_lead_0, h6, h7, h38, h39, h40, hlt]
    exact hexit _ b u hu hX (by simp [h6]) (by simp [h7])
  | succ j ih =>
    intro i φ b u hi hu hX h6 h7 h38 h39 h40
    have hlt : i < ((s.way.take d).drop 1).length := by omega
    obtain ⟨n, hn⟩ : ∃ n, n = ((s.way.take d).drop 1)[i] := ⟨_, rfl⟩
    have hn' : s.way[1 + i]? = some n := by
      rw [hn, List.getElem_drop, List.getElem_take]
      exact List.getElem?_eq_getElem (by omega)
    have hmem : n ∈ s.way := List.mem_of_getElem? hn'
    have hn0 := hpos n hmem
    have hnf := fit_range (hfit n hmem)
    rw [List.drop_eq_getElem_cons hlt, ← hn] at hX
    have hw := Si.cw (s := s) (i := 1 + i) (w := n) hn'
    rw [show 2 + (1 + i) = 3 + i by omega] at hw
    have e1 : (i : Int) < ((d - 1 : Nat) : Int) := by omega
    have e2 : IntKind.i64.wrap ((i : Int) + 1) = ((i + 1 : Nat) : Int) := by rw [w64] <;> omega
    have hrl := Sm.rows_len b
    rw [l_site_lead_0, M_loop, ← l_site_lead_0]
    by_cases a1 : (b.length : Int) ≤ u
    · rw [leadTo_none (by omega)] at hX
      simp [b_site_lead_0, h6, h7, h38, h39, h40, hq, hw, e1, e2, a1, hrl]
      exact hno _ hX.symm (by simp)
    · have hul : u.toNat < b.length := by omega
      obtain ⟨x, hx⟩ : ∃ x, b[u.toNat]? = some x := ⟨_, List.getElem?_eq_getElem hul⟩
      have hrow := Sm.rows_at hx
      rw [leadTo_some hx] at hX
      have hnx := snext_eq x n hn0 hnf.2 []
      have hu' : u < b.length := by omega
      have hul2 : u.toNat < (Sm.rows b).length := by omega
      have hrow2 : ∀ h : u.toNat < (Sm.rows b).length, (Sm.rows b)[u.toNat] = x.cells := fun h => by
        rw [List.getElem?_eq_getElem h] at hrow; exact Option.some.inj hrow
      obtain ⟨a0, a1', a2, a3, a4, a5, a6, hcs⟩ := Sm.cells_shape x
      rw [hcs] at hnx hrow hrow2
      simp [b_site_lead_0, h6, h7, h38, h39, h40, hq, hw, e1, e2, a1, hrl, hrow, hrow2, hul, hul2, hu, hu', hnx]
      refine ih (i + 1) _ (x.sub n) (n / 2) (by omega) (by omega) hX ?_ ?_ ?_ ?_ ?_ <;> simp [h38, h39]

theorem Pg.blocks_len (p : Pg) : p.blocks.length = p.procs.length + 1 := by simp [Pg.blocks]

theorem Si.c2 (s : Si) (ok : s.ok) : s.cells[2]? = some (iv (s.way.getD 0 0)) := by
  have h8 : s.way.length = 8 := ok
  have : s.way[0]? = some (s.way.getD 0 0) := by
    rw [List.getD_eq_getElem?_getD, List.getElem?_eq_getElem (by omega)]; rfl
  exact Si.cw this

theorem may_all {s : Si} (h : s.may = true) : 1 ≤ s.deep ∧ s.deep ≤ 8 ∧ ∀ w ∈ s.way, 0 ≤ w := by
  unfold Si.may at h
  simp only [Bool.and_eq_true, decide_eq_true_eq, List.all_eq_true] at h
  exact ⟨h.1, h.2.1, h.2.2.1⟩

theorem getD_mem {l : List Int} (h : 0 < l.length) : l.getD 0 0 ∈ l := by
  match l, h with
  | a :: _, _ => simp

def Led (r : V) (X : List Sm) : Prop := r = .sl 7 (Sm.rows X) ∨ r = .own 7 [] ∧ X = []

theorem slead_eq (p : Pg) (hp : p.procs.length ≤ 1000) (s : Si) (hf : s.fit) : ∃ r, Led r (leadOf p s) ∧ eval tbl noExt n_site_lead [.agg p.cells, .agg s.cells] [] = some (r, []) := by
  have ok := hf.1
  have h8 : s.way.length = 8 := ok
  have hcp : p.cells.length = 4 := rfl
  have hcpt : p.cells.take 4 = p.cells := rfl
  have hcps : p.cells.map V.strip = p.cells := rfl
  have hcpu : ∀ n, V.underAll n p.cells = true := fun n => rfl
  have hcpo : p.cells.all V.one = true := rfl
  have hparts := sparts_eq p hp []
  have hbl := p.blocks_len
  have c1 := Si.c1 (s := s)
  have c2 := Si.c2 s ok
  have c10 := Si.c10 ok
  have q1 := Si.len ok
  have q3 := Si.strip (s := s)
  have q5 := Si.take ok
  have qu := fun n => Si.under (s := s) n
  have g1 : ∀ h : 1 < s.cells.length, s.cells[1] = iv s.part := fun h => rfl
  have g2 : ∀ h : 2 < s.cells.length, s.cells[2] = iv (s.way.getD 0 0) := fun h => by
    rw [List.getElem?_eq_getElem h] at c2; exact Option.some.inj c2
  have g10 : ∀ h : 10 < s.cells.length, s.cells[10] = iv s.deep := fun h => by
    rw [List.getElem?_eq_getElem h] at c10; exact Option.some.inj c10
  have hmay := may_eq s ok []
  rw [eval_M rfl rfl t_site_lead rfl]
  unfold leadOf
  by_cases a1 : s.part < 0
  · rw [if_neg (fun h => by omega)]
    refine ⟨.own 7 [], .inr ⟨rfl, rfl⟩, ?_⟩
    simp [c_site_lead, hcp, hcpt, hcps, hcpu, hcpo, hparts, c1, g1, q1, a1]
  · by_cases a2 : (p.blocks.length : Int) ≤ s.part
    · rw [if_neg (fun h => by omega)]
      refine ⟨.own 7 [], .inr ⟨rfl, rfl⟩, ?_⟩
      simp [c_site_lead, hcp, hcpt, hcps, hcpu, hcpo, hparts, c1, g1, q1, a1, a2]
    · cases a3 : s.may with
      | false =>
        rw [if_neg (fun h => by simp at h)]
        rw [a3] at hmay
        refine ⟨.own 7 [], .inr ⟨rfl, rfl⟩, ?_⟩
        simp [c_site_lead, hcp, hcpt, hcps, hcpu, hcpo, hparts, c1, g1, q1, q3, q5, qu, a1, a2, hmay]
      | true =>
        rw [if_pos ⟨by omega, by omega, rfl⟩]
        rw [a3] at hmay
        obtain ⟨d1, d8, hpos⟩ := may_all a3
        obtain ⟨d, hd⟩ : ∃ d : Nat, s.deep = d := ⟨s.deep.toNat, by omega⟩
        have hdt : s.deep.toNat = d := by omega
        rw [hdt]
        obtain ⟨pn, hpn⟩ : ∃ pn : Nat, s.part = pn := ⟨s.part.toNat, by omega⟩
        have hpt : s.part.toNat = pn := by omega
        rw [hpt]
        have hlt : pn < p.blocks.length := by omega
        obtain ⟨b, hb⟩ : ∃ b, b = p.blocks.getD pn [] := ⟨_, rfl⟩
        have hgb : ∀ h : pn < p.blocks.length, p.blocks[pn] = b := fun h => by rw [hb, List.getD_eq_getElem?_getD, List.getElem?_eq_getElem h]; rfl
        rw [← hb]
        obtain ⟨u, hu⟩ : ∃ u, u = s.way.getD 0 0 := ⟨_, rfl⟩
        have hw0 : 0 ≤ u := by rw [hu]; exact hpos _ (getD_mem (by omega))
        rw [← hu] at c2 g2 ⊢
        obtain ⟨X, hX⟩ : ∃ X, X = leadTo b u.toNat ((s.way.take d).drop 1) := ⟨_, rfl⟩
        rw [← hX]
        rw [hpn] at c1 g1 a1 a2
        rw [hd] at c10 g10
        have e1 : (1 : Int) ≤ d := by omega
        have e8 : (d : Int) ≤ 8 := by omega
        have e9 : d ≤ 8 := by omega
        have e10 : 1 ≤ d := by omega
        simp [c_site_lead, hcp, hcpt, hcps, hcpu, hcpo, hparts, c1, g1, c2, g2, c10, g10, q1, q3, q5, qu, a1, a2, hmay, hgb, hlt, brow, e1, e8, e9, e10]
        refine slead_loop s ok _ 1 rfl d e10 e9 hpos hf.2.2.2.1 (fun out => ∃ r, Led r X ∧ out = some (r, [])) _ X ?_ ?_ (d - 1) 0 _ b u (by omega) hw0 (by rw [hX]; rfl) ?_ ?_ ?_ ?_ ?_
        · intro φ' b' v hv hb' h6 h7
          have hrl := Sm.rows_len b'
          have m1 : 0 ≤ min v (b'.length : Int) ∧ min v (b'.length : Int) ≤ b'.length := by omega
          have m2 : (Sm.rows b').take b'.length = Sm.rows b' := List.take_of_length_le (by omega)
          have m3 : (Sm.rows b').drop (min v (b'.length : Int)).toNat = Sm.rows X := by
            rw [Sm.rows_drop, ← hb']
            by_cases h : v ≤ b'.length
            · rw [Int.min_eq_left h]
            · rw [Int.min_eq_right (by omega), List.drop_eq_nil_of_le (by omega), List.drop_eq_nil_of_le (by omega)]
          simp [r_site_lead_0, h6, h7, hrl, m1, m2, m3]
          exact .inl rfl
        · intro φ' hX' h4
          simp [h4]
          exact .inr ⟨rfl, hX'⟩
        all_goals simp

end Go.AM.Spec

namespace Go.AM.Spec
set_option linter.unusedVariables false
set_option linter.unusedSimpArgs false
set_option maxHeartbeats 2000000
set_option maxRecDepth 10000

def Sm.writes (x : Sm) : Bool := decide (x.op = 3) || decide (x.op = 4)
/-- Is the last expression a text that can be torn? -/
def lastText (l : List Ex) : Bool := match l.getLast? with
  | some e => decide (e.op = 2) && decide ((1 : Int) < e.text.length)
  | none => false
def Sm.torn (x : Sm) : Bool := x.writes && lastText x.exprs
def nextWrites : List Sm → Bool
  | y :: _ => y.writes
  | [] => false

/-- Does a kind fit the first one of some statements? -/
def fitsOf (kind : Int) : List Sm → Bool
  | [] => false
  | x :: r =>
    if kind = 1 then decide (x.op = 8) || decide (x.op = 9) else if kind = 2 then decide (x.op = 8) else if kind = 3 then decide (x.op = 10) else if kind = 4 then decide (x.op = 11)
    else if kind = 5 then x.writes && nextWrites r else if kind = 6 then decide (x.op = 16) && x.commit else if kind = 7 then x.torn else if kind = 8 then x.writes else false

theorem fitsOf_cons (kind : Int) (x : Sm) (r : List Sm) : fitsOf kind (x :: r) = if kind = 1 then decide (x.op = 8) || decide (x.op = 9) else if kind = 2 then decide (x.op = 8) else if kind = 3 then decide (x.op = 10) else if kind = 4 then decide (x.op = 11)
    else if kind = 5 then x.writes && nextWrites r else if kind = 6 then decide (x.op = 16) && x.commit else if kind = 7 then x.torn else if kind = 8 then x.writes else false := rfl

theorem swrites_eq (x : Sm) (H : Heap) : eval tbl noExt n_site_writes [.agg x.cells] H = some (.bool x.writes, H) := by
  obtain ⟨op, s, w, e, b, c, g⟩ := x
  rw [eval_M rfl rfl t_site_writes rfl]
  unfold Sm.writes Sm.op
  by_cases a1 : op = 3
  · simp [c_site_writes, Sm.cells, a1]
  · simp [c_site_writes, Sm.cells, a1]

theorem last_cases (l : List Ex) : l = [] ∨ ∃ (m : Nat) (e : Ex), l.length = m + 1 ∧ l[m]? = some e ∧ l.getLast? = some e := by
  rcases List.eq_nil_or_concat l with h | ⟨i, e, h⟩
  · exact .inl h
  · subst h
    refine .inr ⟨i.length, e, by simp, by simp, by simp⟩

theorem torn_eq (x : Sm) (hx : x.exprs.length ≤ 1000) (H : Heap) : eval tbl noExt n_site_torn [.agg x.cells] H = some (.bool x.torn, H) := by
  have hw := swrites_eq x []
  obtain ⟨op, s, w, l, b, c, g⟩ := x
  simp only [Sm.exprs] at hx
  rw [eval_M rfl rfl t_site_torn rfl]
  have hcl := Ex.rows_len l
  unfold Sm.torn
  cases hb : Sm.writes (.mk op s w l b c g) with
  | false =>
    rw [hb] at hw
    simp only [Sm.cells] at hw
    simp [c_site_torn, Sm.cells, hw]
  | true =>
    rw [hb] at hw
    simp only [Sm.cells] at hw
    rcases last_cases l with h | ⟨m, e, h1, h2, h3⟩
    · subst h
      simp only [Ex.rows] at hw
      simp [c_site_torn, Sm.cells, hw, Ex.rows, lastText, Sm.exprs]
    · have hrow := Ex.rows_at h2
      have hm : m < (Ex.rows l).length := by omega
      have hrow2 : ∀ h : m < (Ex.rows l).length, (Ex.rows l)[m] = e.cells := fun h => by
        rw [List.getElem?_eq_getElem h] at hrow; exact Option.some.inj hrow
      have e0 : ¬ (l.length : Int) = 0 := by omega
      have e0' : l ≠ [] := by intro h; subst h; simp at h1
      have e1 : IntKind.i64.wrap ((l.length : Int) - 1) = (m : Int) := by rw [w64] <;> omega
      have e2 : (m : Int) < l.length := by omega
      have e3 : m < l.length := by omega
      have hlt : lastText l = (decide (e.op = 2) && decide ((1 : Int) < e.text.length)) := by unfold lastText; rw [h3]
      simp only [Sm.exprs, Bool.true_and, hlt]
      obtain ⟨eo, en, es, ex⟩ := e
      simp only [Ex.cells] at hrow hrow2
      simp only [Ex.op, Ex.text]
      by_cases a1 : eo = 2
      · simp [c_site_torn, Sm.cells, hw, hcl, hrow, hrow2, hm, e0, e0', e1, e2, e3, a1]
        rfl
      · simp [c_site_torn, Sm.cells, hw, hcl, hrow, hrow2, hm, e0, e0', e1, e2, e3, a1]

theorem fits_eq (kind : Int) (l : List Sm) (hl : ∀ x ∈ l, x.exprs.length ≤ 1000) (H : Heap) : eval tbl noExt n_site_fits [iv kind, .sl 7 (Sm.rows l)] H = some (.bool (fitsOf kind l), H) := by
  rw [eval_M rfl rfl t_site_fits rfl]
  have hrl := Sm.rows_len l
  match l, hl, hrl with
  | [], _, _ => simp [c_site_fits, Sm.rows, fitsOf] <;> rfl
  | x :: r, hl, hrl =>
    have hw := swrites_eq x []
    have ht := torn_eq x (hl x (by simp)) []
    obtain ⟨op, s, w, e, b, c, g⟩ := x
    simp only [Sm.rows, Sm.cells] at hw ht hrl ⊢
    simp only [List.length_cons] at hrl
    have hrl' : (Sm.rows r).length = r.length := Sm.rows_len r
    have z : ¬ ((Sm.rows r).length : Int) + 1 = 0 := by omega
    have z0 : (0 : Int) < ((Sm.rows r).length : Int) + 1 := by omega
    rw [fitsOf_cons]
    by_cases k1 : kind = 1
    · rw [if_pos k1]
      by_cases a1 : op = 8
      · simp [c_site_fits, z, z0, k1, a1, Sm.op] <;> rfl
      · simp [c_site_fits, z, z0, k1, a1, Sm.op] <;> rfl
    rw [if_neg k1]
    by_cases k2 : kind = 2
    · rw [if_pos k2]; simp [c_site_fits, z, z0, k2, Sm.op] <;> rfl
    rw [if_neg k2]
    by_cases k3 : kind = 3
    · rw [if_pos k3]; simp [c_site_fits, z, z0, k3, Sm.op] <;> rfl
    rw [if_neg k3]
    by_cases k4 : kind = 4
    · rw [if_pos k4]; simp [c_site_fits, z, z0, k4, Sm.op] <;> rfl
    rw [if_neg k4]
    by_cases k5 : kind = 5
    · rw [if_pos k5]
      cases hb : Sm.writes (.mk op s w e b c g) with
      | false =>
        rw [hb] at hw
        simp [c_site_fits, z, z0, k5, hw] <;> rfl
      | true =>
        rw [hb] at hw
        match r, hl, hrl, hrl' with
        | [], _, _, _ => simp [c_site_fits, k5, hw, Sm.rows, nextWrites] <;> rfl
        | y :: r2, hl, hrl, hrl' =>
          have hw2 := swrites_eq y []
          have z2 : ¬ (r2.length : Int) + 1 + 1 = 0 := by omega
          have z3 : (0 : Int) < (r2.length : Int) + 1 + 1 := by omega
          have d1 : (0 : Int) < (r2.length : Int) + 1 := by omega
          have d2 : (1 : Int) < (r2.length : Int) + 1 + 1 := by omega
          have hrl2 := Sm.rows_len r2
          obtain ⟨a0, a1', a2, a3, a4, a5, a6, hcs⟩ := Sm.cells_shape y
          rw [hcs] at hw2
          simp [c_site_fits, k5, hw, hw2, Sm.rows, nextWrites, z2, z3, d1, d2, hcs, hrl2] <;> rfl
    rw [if_neg k5]
    by_cases k6 : kind = 6
    · rw [if_pos k6]
      by_cases a1 : op = 16
      · simp [c_site_fits, z, z0, k6, a1, Sm.op, Sm.commit] <;> rfl
      · simp [c_site_fits, z, z0, k6, a1, Sm.op, Sm.commit] <;> rfl
    rw [if_neg k6]
    by_cases k7 : kind = 7
    · rw [if_pos k7]; simp [c_site_fits, z, z0, k7, ht] <;> rfl
    rw [if_neg k7]
    by_cases k8 : kind = 8
    · rw [if_pos k8]; simp [c_site_fits, z, z0, k8, hw] <;> rfl
    rw [if_neg k8]
    simp [c_site_fits, z, z0, k1, k2, k3, k4, k5, k6, k7, k8] <;> rfl

/-! Sizes. -/
theorem sub_sizes (x : Sm) (n : Int) : Sm.sizes (x.sub n) ≤ x.size := by
  obtain ⟨op, s, w, e, b, c, g⟩ := x
  unfold Sm.sub Sm.els Sm.body
  simp only [Sm.size]
  split <;> omega
theorem drop_sizes (b : List Sm) (k : Nat) : Sm.sizes (b.drop k) ≤ Sm.sizes b := by
  have h := sizes_append (b.take k) (b.drop k)
  rw [List.take_append_drop] at h
  omega
theorem leadTo_sizes : ∀ (ws : List Int) (b : List Sm) (k : Nat), Sm.sizes (leadTo b k ws) ≤ Sm.sizes b
  | [], b, k => by rw [leadTo]; exact drop_sizes b k
  | n :: ws, b, k => by
    rw [leadTo]
    split
    · simp [Sm.sizes]
    · rename_i x hx
      have h1 := leadTo_sizes ws (x.sub n) (n / 2).toNat
      have h2 := sub_sizes x n
      have h3 := Sm.sizes_mem (List.mem_of_getElem? hx)
      omega
theorem block_sizes {p : Pg} (hp : p.size ≤ 1000) {b : List Sm} (h : b ∈ p.blocks) : Sm.sizes b ≤ 1000 := by
  have h1 := p.parts_size
  have h2 : b ∈ p.parts := by
    unfold Pg.blocks at h
    unfold Pg.parts
    rcases List.mem_cons.1 h with rfl | h
    · simp
    · exact List.mem_append_left _ h
  have := sizes_flatten h2
  omega
theorem procs_len {p : Pg} (hp : p.size ≤ 1000) : p.procs.length ≤ 1000 := by
  have h1 := p.parts_size
  omega
theorem leadOf_sizes {p : Pg} (hp : p.size ≤ 1000) (s : Si) : Sm.sizes (leadOf p s) ≤ 1000 := by
  unfold leadOf
  split
  · rename_i h
    refine Nat.le_trans (leadTo_sizes _ _ _) (block_sizes hp ?_)
    have hlt : s.part.toNat < p.blocks.length := by omega
    rw [List.getD_eq_getElem?_getD, List.getElem?_eq_getElem hlt]
    exact List.getElem_mem _
  · simp [Sm.sizes]
theorem exprs_len {l : List Sm} (h : Sm.sizes l ≤ 1000) : ∀ x ∈ l, x.exprs.length ≤ 1000 := by
  intro x hx
  have h1 := Sm.sizes_mem hx
  obtain ⟨op, s, w, e, b, c, g⟩ := x
  have h2 := Ex.sizes_ge e
  simp only [Sm.size] at h1
  simp only [Sm.exprs]
  omega

theorem Fits_eq (p : Pg) (hp : p.size ≤ 1000) (s : Si) (hf : s.fit) : eval tbl noExt n_site_Fits [.agg p.cells, .agg s.cells] [] = some (.bool (fitsOf s.kind (leadOf p s)), []) := by
  obtain ⟨r, hr, hl⟩ := slead_eq p (procs_len hp) s hf
  have hF := fits_eq s.kind (leadOf p s) (exprs_len (leadOf_sizes hp s)) []
  have ok := hf.1
  have hcp : p.cells.length = 4 := rfl
  have hcpt : p.cells.take 4 = p.cells := rfl
  have hcps : p.cells.map V.strip = p.cells := rfl
  have hcpu : ∀ n, V.underAll n p.cells = true := fun n => rfl
  have c0 := Si.c0 (s := s)
  have q1 := Si.len ok
  have q3 := Si.strip (s := s)
  have q5 := Si.take ok
  have qu := fun n => Si.under (s := s) n
  have g0 : ∀ h : 0 < s.cells.length, s.cells[0] = iv s.kind := fun h => rfl
  rw [eval_M rfl rfl t_site_Fits rfl]
  rcases hr with rfl | ⟨rfl, hX⟩
  · simp [c_site_Fits, hcp, hcpt, hcps, hcpu, hl, hF, c0, g0, q1, q3, q5, qu]
  · rw [hX] at hF ⊢
    simp only [Sm.rows] at hF
    simp [c_site_Fits, hcp, hcpt, hcps, hcpu, hl, hF, c0, g0, q1, q3, q5, qu]

end Go.AM.Spec

namespace Go.AM.Spec
set_option linter.unusedVariables false
set_option linter.unusedSimpArgs false
set_option maxHeartbeats 1000000

def Si.step (s : Si) (a : Nat) (v : Int) : Si := { s with way := s.way.set a v, deep := ((a + 1 : Nat) : Int) }
def evn (k : Nat) : Int := 2 * k
def odk (k : Nat) : Int := 2 * k + 1

/-- The ways into the rest of a block, from its place k on. -/
def loopE (rec : (Nat → Int) → Si → List Sm → List (Si × List Sm)) (t : Nat → Int) (s : Si) (a : Nat) : Nat → List Sm → List (Si × List Sm)
  | _, [] => []
  | k, x :: r => (s.step a (t k), x :: r) :: (rec evn (s.step a (t k)) x.body ++ (rec odk (s.step a (t k)) x.els ++ loopE rec t s a (k + 1) r))

/-- All ways into a block; so many steps are left. -/
def eachL : Nat → (Nat → Int) → Si → List Sm → List (Si × List Sm)
  | 0 => fun _ _ _ => []
  | d + 1 => fun t s l => loopE (eachL d) t s (8 - (d + 1)) 0 l

structure Inv (s : Si) (d : Nat) : Prop where
  ok : s.way.length = 8
  hd : d ≤ 8
  deep : s.deep = ((8 - d : Nat) : Int)
  kind : s.kind = 0
  way : ∀ w ∈ s.way, 0 ≤ w ∧ w ≤ 10000
  zero : ∀ w ∈ s.way.drop (8 - d), w = 0

theorem step_inv {s : Si} {d : Nat} (h : Inv s (d + 1)) {v : Int} (h0 : 0 ≤ v) (h1 : v ≤ 10000) : Inv (s.step (8 - (d + 1)) v) d := by
  have hd := h.hd
  refine ⟨by simp [Si.step, h.ok], by omega, by simp only [Si.step]; congr 1; omega, h.kind, fun w hw => ?_, fun w hw => ?_⟩
  · rcases List.mem_or_eq_of_mem_set hw with h2 | rfl
    · exact h.way w h2
    · exact ⟨h0, h1⟩
  · refine h.zero w ?_
    have e : 8 - d = (8 - (d + 1)) + 1 := by omega
    simp only [Si.step] at hw
    rw [e, List.drop_set_of_lt (by omega)] at hw
    exact List.mem_of_mem_drop (i := 1) (by rw [List.drop_drop]; exact hw)

theorem step_take {s : Si} {a : Nat} (h : a < s.way.length) (v : Int) : (s.step a v).way.take (a + 1) = s.way.take a ++ [v] := by
  simp only [Si.step]
  rw [List.take_add_one, List.take_set_of_le (Nat.le_refl a), List.getElem?_set_self h]
  rfl

theorem inv_may {s : Si} {d : Nat} (h : Inv s d) (h7 : d ≤ 7) : s.may = true := by
  unfold Si.may
  have hd := h.deep
  have e : s.deep.toNat = 8 - d := by omega
  simp only [Bool.and_eq_true, decide_eq_true_eq, List.all_eq_true]
  refine ⟨by omega, by omega, fun w hw => (h.way w hw).1, fun w hw => h.zero w (by rw [← e]; exact hw)⟩

def LeadW (b : List Sm) : List Int → List Sm
  | [] => []
  | u :: ws => leadTo b u.toNat ws

/-- What is known of a way that is told. -/
structure Out (b0 : List Sm) (part : Int) (e : Si × List Sm) : Prop where
  ok : e.1.way.length = 8
  may : e.1.may = true
  kind : e.1.kind = 0
  part : e.1.part = part
  way : ∀ w ∈ e.1.way, 0 ≤ w ∧ w ≤ 10000
  lead : LeadW b0 (e.1.way.take e.1.deep.toNat) = e.2
  size : Sm.sizes e.2 ≤ 1000

theorem leadTo_even (l : List Sm) (k : Nat) (x : Sm) (hx : l[k]? = some x) (j : Nat) (ws : List Int) : leadTo l k (evn j :: ws) = leadTo x.body j ws := by
  rw [leadTo_some hx]
  have h1 : ¬ evn j % 2 = 1 := by unfold evn; omega
  have h2 : (evn j / 2).toNat = j := by unfold evn; omega
  rw [h2, Sm.sub, if_neg h1]
theorem leadTo_odd (l : List Sm) (k : Nat) (x : Sm) (hx : l[k]? = some x) (j : Nat) (ws : List Int) : leadTo l k (odk j :: ws) = leadTo x.els j ws := by
  rw [leadTo_some hx]
  have h1 : odk j % 2 = 1 := by unfold odk; omega
  have h2 : (odk j / 2).toNat = j := by unfold odk; omega
  rw [h2, Sm.sub, if_pos h1]

theorem body_sizes (x : Sm) : Sm.sizes x.body + Sm.sizes x.els + 1 ≤ x.size := by
  obtain ⟨op, s, w, e, b, c, g⟩ := x
  simp only [Sm.body, Sm.els, Sm.size]
  omega

theorem eachL_out (b0 : List Sm) (part : Int) : ∀ (d : Nat) (t : Nat → Int) (s : Si) (l : List Sm), Inv s d → s.part = part → Sm.sizes l ≤ 1000 → (∀ k, k < l.length → 0 ≤ t k ∧ t k ≤ 10000) →
    (∀ k ws, LeadW b0 (s.way.take (8 - d) ++ t k :: ws) = leadTo l k ws) → ∀ e ∈ eachL d t s l, Out b0 part e := by
  intro d
  induction d with
  | zero => intro t s l _ _ _ _ _ e he; simp [eachL] at he
  | succ d ih =>
    intro t s l hI hp hs ht hL
    have hd := hI.hd
    have hlen : 8 - (d + 1) < s.way.length := by rw [hI.ok]; omega
    have hl := Sm.sizes_ge l
    have key : ∀ (r : List Sm) (k : Nat), r = l.drop k → ∀ e ∈ loopE (eachL d) t s (8 - (d + 1)) k r, Out b0 part e := by
      intro r
      induction r with
      | nil => intro k _ e he; simp [loopE] at he
      | cons x r ihr =>
        intro k hr e he
        have hk : k < l.length := by
          rcases Nat.lt_or_ge k l.length with h | h
          · exact h
          · rw [List.drop_eq_nil_of_le h] at hr; cases hr
        have hx : l[k]? = some x := by
          rw [List.drop_eq_getElem_cons hk] at hr
          rw [List.getElem?_eq_getElem hk, (List.cons.inj hr).1]
        have hrest : r = l.drop (k + 1) := by
          rw [List.drop_eq_getElem_cons hk] at hr
          exact (List.cons.inj hr).2
        have hv := ht k hk
        have hI' := step_inv hI hv.1 hv.2
        have htake := step_take hlen (t k)
        have e8 : 8 - d = (8 - (d + 1)) + 1 := by omega
        have hsx := Sm.sizes_mem (List.mem_of_getElem? hx)
        have hbs := body_sizes x
        have hgb := Sm.sizes_ge x.body
        have hge := Sm.sizes_ge x.els
        rw [loopE] at he
        rcases List.mem_cons.1 he with rfl | he
        · refine ⟨hI'.ok, inv_may hI' (by omega), hI'.kind, hp, hI'.way, ?_, ?_⟩
          · have hdp : ((s.step (8 - (d + 1)) (t k)).deep).toNat = (8 - (d + 1)) + 1 := by simp [Si.step]
            rw [hdp, htake, hL k [], leadTo, ← hr]
          · rw [hr]
            exact Nat.le_trans (drop_sizes l k) hs
        · rcases List.mem_append.1 he with he | he
          · refine ih evn _ _ hI' hp (by omega) (fun j hj => by unfold evn; omega) (fun j ws => ?_) e he
            rw [e8, htake, List.append_assoc, List.singleton_append, hL k (evn j :: ws), leadTo_even l k x hx]
          · rcases List.mem_append.1 he with he | he
            · refine ih odk _ _ hI' hp (by omega) (fun j hj => by unfold odk; omega) (fun j ws => ?_) e he
              rw [e8, htake, List.append_assoc, List.singleton_append, hL k (odk j :: ws), leadTo_odd l k x hx]
            · exact ihr (k + 1) hrest e he
    exact key l 0 (by simp)

theorem eachL_len : ∀ (d : Nat) (t : Nat → Int) (s : Si) (l : List Sm), (eachL d t s l).length ≤ Sm.sizes l := by
  intro d
  induction d with
  | zero => intro t s l; simp [eachL]
  | succ d ih =>
    intro t s l
    have key : ∀ (r : List Sm) (k : Nat), (loopE (eachL d) t s (8 - (d + 1)) k r).length ≤ Sm.sizes r := by
      intro r
      induction r with
      | nil => intro k; simp [loopE]
      | cons x r ihr =>
        intro k
        have h1 := ih evn (s.step (8 - (d + 1)) (t k)) x.body
        have h2 := ih odk (s.step (8 - (d + 1)) (t k)) x.els
        have h3 := ihr (k + 1)
        have h4 := body_sizes x
        simp only [loopE, List.length_cons, List.length_append, Sm.sizes]
        omega
    exact key l 0

/-- What a way that is told leads to. -/
theorem out_lead {p : Pg} {n : Nat} (hn : n < p.blocks.length) {e : Si × List Sm} (h : Out (p.blocks.getD n []) n e) : leadOf p e.1 = e.2 := by
  have hp := h.part
  have hm := may_all h.may
  have hlen := h.ok
  unfold leadOf
  rw [if_pos ⟨by omega, by omega, h.may⟩, ← h.lead, hp]
  obtain ⟨d, hd⟩ : ∃ d, e.1.deep.toNat = d + 1 := ⟨e.1.deep.toNat - 1, by omega⟩
  rw [hd]
  match hw : e.1.way, hlen with
  | w :: ws, _ =>
    simp [LeadW]

/-! Kinds that are picked. -/
def pk (X : List Sm) : Nat → Nat → Nat → List Nat
  | 0, _, _ => []
  | n + 1, bits, k => (if bits % 2 = 1 ∧ fitsOf ((k + 1 : Nat) : Int) X = true then [k + 1] else []) ++ pk X n (bits / 2) (k + 1)

theorem pk_zero (X : List Sm) : ∀ (n k : Nat), pk X n 0 k = []
  | 0, k => rfl
  | n + 1, k => by rw [pk, if_neg (by simp), pk_zero X n]; rfl
theorem fits_big (X : List Sm) (k : Int) (h : 8 < k) : fitsOf k X = false := by
  cases X with
  | nil => rfl
  | cons x r => rw [fitsOf_cons, if_neg (by omega), if_neg (by omega), if_neg (by omega), if_neg (by omega), if_neg (by omega), if_neg (by omega), if_neg (by omega), if_neg (by omega)]
theorem pk_big (X : List Sm) : ∀ (n bits k : Nat), 8 ≤ k → pk X n bits k = []
  | 0, _, _, _ => rfl
  | n + 1, bits, k, h => by rw [pk, if_neg (fun hh => by rw [fits_big X _ (by omega)] at hh; cases hh.2), pk_big X n _ _ (by omega)]; rfl
theorem pk_more (X : List Sm) : ∀ (n m bits k : Nat), k + n = 8 → pk X (n + m) bits k = pk X n bits k
  | 0, m, bits, k, h => by rw [pk_big X _ _ _ (by omega), pk_big X _ _ _ (by omega)]
  | n + 1, m, bits, k, h => by
    rw [show n + 1 + m = (n + m) + 1 by omega, pk, pk, pk_more X n m _ _ (by omega)]
theorem pk_len (X : List Sm) : ∀ (n bits k : Nat), (pk X n bits k).length ≤ n
  | 0, _, _ => Nat.le_refl _
  | n + 1, bits, k => by
    have := pk_len X n (bits / 2) (k + 1)
    rw [pk, List.length_append]
    split
    · simp; omega
    · simp; omega

def Si.withKind (s : Si) (k : Int) : Si := { s with kind := k }
/-- The sites that a way comes to. -/
def picks (kinds : Nat) (e : Si × List Sm) : List Si := (pk e.2 8 kinds 0).map fun k : Nat => e.1.withKind (k : Int)
def outs (kinds : Nat) (L : List (Si × List Sm)) : List Si := (L.map (picks kinds)).flatten
theorem outs_append (kinds : Nat) (a b : List (Si × List Sm)) : outs kinds (a ++ b) = outs kinds a ++ outs kinds b := by simp [outs]
theorem picks_len (kinds : Nat) (e : Si × List Sm) : (picks kinds e).length ≤ 8 := by
  unfold picks; rw [List.length_map]; exact pk_len _ _ _ _
theorem outs_len (kinds : Nat) : ∀ L : List (Si × List Sm), (outs kinds L).length ≤ 8 * L.length
  | [] => by simp [outs]
  | e :: L => by
    have h1 := outs_len kinds L
    have h2 := picks_len kinds e
    have h3 : outs kinds (e :: L) = picks kinds e ++ outs kinds L := by simp [outs]
    rw [h3, List.length_append, List.length_cons]
    omega

/-- All sites of a program. -/
def site0 (i : Nat) : Si := ⟨0, i, List.replicate 8 0, 0⟩
def idk (k : Nat) : Int := k
def waysOf (p : Pg) (i : Nat) : List (Si × List Sm) := eachL 8 idk (site0 i) (p.blocks.getD i [])
def allWays (p : Pg) : List (Si × List Sm) := ((List.range p.blocks.length).map (waysOf p)).flatten

theorem site0_inv (i : Nat) : Inv (site0 i) 8 := ⟨rfl, Nat.le_refl _, rfl, rfl, fun w hw => by simp [site0] at hw; omega, fun w hw => by simp [site0] at hw; exact hw⟩

theorem ways_out {p : Pg} (hp : p.size ≤ 1000) {i : Nat} (hi : i < p.blocks.length) : ∀ e ∈ waysOf p i, Out (p.blocks.getD i []) i e := by
  have hb : Sm.sizes (p.blocks.getD i []) ≤ 1000 := block_sizes hp (by
    rw [List.getD_eq_getElem?_getD, List.getElem?_eq_getElem hi]
    exact List.getElem_mem _)
  have hl := Sm.sizes_ge (p.blocks.getD i [])
  exact eachL_out _ _ 8 idk (site0 i) _ (site0_inv i) rfl hb (fun k hk => by unfold idk; omega) (fun k ws => by simp [LeadW, idk])

theorem fit_of {n : Int} (h0 : -10000 ≤ n) (h1 : n ≤ 10000) : Fit n := by
  have hm : IntKind.i64.min = -9223372036854775808 := by decide
  show (Lit.int .i64 n).wf = true
  simp [Lit.wf]
  rw [hm]
  omega

theorem out_fit {b0 : List Sm} {i : Nat} (hi : i ≤ 1000) {e : Si × List Sm} (h : Out b0 i e) (k : Int) (h0 : 0 ≤ k) (h1 : k ≤ 100) : (e.1.withKind k).fit := by
  have hm := may_all h.may
  refine ⟨h.ok, fit_of (show -10000 ≤ k by omega) (by show k ≤ 10000; omega), ?_, fun w hw => fit_of (by have := (h.way w hw).1; omega) (h.way w hw).2, fit_of (by show -10000 ≤ e.1.deep; omega) (by show e.1.deep ≤ 10000; omega)⟩
  show Fit e.1.part
  rw [h.part]
  exact fit_of (by omega) (by omega)

end Go.AM.Spec

namespace Go.AM.Spec
set_option linter.unusedVariables false
set_option linter.unusedSimpArgs false
set_option maxHeartbeats 2000000
set_option maxRecDepth 10000

theorem bit16_and {n : Nat} (hn : n < 65536) : IntKind.u16.wrap ↑(((n : Int) % 2 ^ IntKind.u16.bits).toNat &&& 1 % 2 ^ IntKind.u16.bits) = ((n % 2 : Nat) : Int) := by
  have e : (2 : Int) ^ IntKind.u16.bits = 65536 := by decide
  have e' : (1 : Nat) % 2 ^ IntKind.u16.bits = 1 := by decide
  have e2 : ((n : Int) % 65536).toNat = n := by omega
  rw [e, e', Nat.and_one_is_mod, e2]
  have : n % 2 = 0 ∨ n % 2 = 1 := by omega
  rcases this with h | h <;> rw [h] <;> decide

theorem withKind_ok {s : Si} (h : s.ok) (k : Int) : (s.withKind k).ok := h
theorem withKind_set (s : Si) (k j : Int) : (s.withKind k).cells.set 0 (iv j) = (s.withKind j).cells := rfl
theorem Si.plain (s : Si) : s.cells.all V.plain = true := by simp [Si.cells, V.plain]

theorem pick_loop (A : Heap) (n q : Nat) (hA : A.length = n) (hq : q < n) (s : Si) (ok : s.ok) (X : List Sm) (hX : ∀ x ∈ X, x.exprs.length ≤ 1000) (kinds : Nat) (Q : Option (V × Heap) → Prop) (k : List Item) (all : List Si)
    (hexit : ∀ φ' (j : Int), Q (M (eval tbl noExt) k φ' (A.set q (some [.own 11 (all.map Si.cells)]) ++ [some (s.withKind j).cells]))) :
    ∀ (m bits i : Nat) (B I : Int) (φ : Fr) (acc : List Si), B = bits → I = i → bits < 2 ^ m → bits < 65536 → i ≤ 100 - m → m ≤ 100 → acc ++ (pk X m bits i).map (fun k : Nat => s.withKind (k : Int)) = all → acc.length + m ≤ 20000 → Fr.get φ 1 = .sl 7 (Sm.rows X) → Fr.get φ 3 = .ptr q 0 → Fr.get φ 4 = .ptr n 0 → Fr.get φ 6 = .int .u16 B →
      Q (M (eval tbl noExt) (.code l_site_Sites_2_0 :: .blk 0 :: k) φ (A.set q (some [.own 11 (acc.map Si.cells)]) ++ [some (s.withKind I).cells])) := by
  have gq : ∀ (x : Option (List V)) (R : Heap), (A.set q x ++ R)[q]? = some x := fun x R => by
    rw [List.getElem?_append_left (by simp; omega)]
    exact List.getElem?_set_self (by omega)
  have sq : ∀ (x y : Option (List V)) (R : Heap), (A.set q x ++ R).set q y = A.set q y ++ R := fun x y R => by
    rw [List.set_append_left _ _ (by simp; omega), List.set_set]
  have gn : ∀ (x y : Option (List V)), (A.set q x ++ [y])[n]? = some y := fun x y => by
    rw [List.getElem?_append_right (by simp; omega)]
    simp [hA]
  have sn : ∀ (x y z : Option (List V)), (A.set q x ++ [y]).set n z = A.set q x ++ [z] := fun x y z => by
    rw [List.set_append_right _ _ (by simp; omega)]
    simp [hA]
  have t1 := fun k => Si.len (withKind_ok ok k)
  have t2 := fun k => Si.strip (s := s.withKind k)
  have t3 := fun k n => Si.under (s := s.withKind k) n
  have t4 := fun k => Si.one (s := s.withKind k)
  have t5 := fun k => h11 (s.withKind k) (withKind_ok ok k)
  have t6 := fun k => Si.take (withKind_ok ok k)
  have t7 := fun k => Si.c0 (s := s.withKind k)
  have t8 : ∀ (k : Int) (h : 0 < (s.withKind k).cells.length), (s.withKind k).cells[0] = iv k := fun k h => rfl
  have t9 := withKind_set s
  have t10 := fun k => Si.plain (s.withKind k)
  have t11 : ∀ k, (s.withKind k).kind = k := fun k => rfl
  intro m
  induction m with
  | zero =>
    intro bits i B I φ acc hB hI hb hb2 hi hm hacc hal h1 h3 h4 h6
    obtain rfl : bits = 0 := by simpa using hb
    rw [pk, List.map_nil, List.append_nil] at hacc
    subst hacc hB
    rw [l_site_Sites_2_0, M_loop]
    simp [b_site_Sites_2_0, h1, h3, h4, h6]
    exact hexit _ _
  | succ m ih =>
    intro bits i B I φ acc hB hI hb hb2 hi hm hacc hal h1 h3 h4 h6
    by_cases b0 : bits = 0
    · subst b0
      rw [pk_zero, List.map_nil, List.append_nil] at hacc
      subst hacc hB
      rw [l_site_Sites_2_0, M_loop]
      simp [b_site_Sites_2_0, h1, h3, h4, h6]
      exact hexit _ _
    · have hF := fits_eq (I + 1) X hX []
      have e1 : IntKind.i64.wrap (I + 1) = I + 1 := by rw [w64] <;> omega
      have e2 := bit16_and hb2
      rw [← hB] at e2
      have e3 : ¬ B = 0 := by omega
      have e4 : B.fdiv 2 = B / 2 := Int.fdiv_eq_ediv_of_nonneg _ (by omega)
      have e5 : min 1 IntKind.u16.bits = 1 := by decide
      have hb' : bits / 2 < 2 ^ m := by
        rw [Nat.pow_succ] at hb
        omega
      have hcap : 2 * (acc.length + 1) * 88 ≤ 281474976710656 := by omega
      have hfit : fitsOf ((i + 1 : Nat) : Int) X = fitsOf (I + 1) X := by rw [hI]; rfl
      have hB' : B / 2 = ((bits / 2 : Nat) : Int) := by omega
      have hI' : I + 1 = ((i + 1 : Nat) : Int) := by omega
      rw [pk, hfit] at hacc
      rw [l_site_Sites_2_0, M_loop, ← l_site_Sites_2_0]
      by_cases a1 : bits % 2 = 1
      · have a1' : ((bits % 2 : Nat) : Int) = 1 := by omega
        rw [a1'] at e2
        cases a2 : fitsOf (I + 1) X with
        | true =>
          rw [a2] at hF
          rw [if_pos ⟨a1, a2⟩] at hacc
          simp [b_site_Sites_2_0, h1, h3, h4, h6, gq, sq, gn, sn, t1, t2, t3, t4, t5, t6, t7, t8, t9, t10, t11, hF, e1, e2, e3, e4, e5, hcap]
          rw [show List.map Si.cells acc ++ [(s.withKind (I + 1)).cells] = List.map Si.cells (acc ++ [s.withKind (I + 1)]) by simp]
          refine ih (bits / 2) (i + 1) (B / 2) (I + 1) _ (acc ++ [s.withKind (I + 1)]) hB' hI' hb' (by omega) (by omega) (by omega) (by rw [← hacc, hI']; simp) (by simp; omega) ?_ ?_ ?_ ?_ <;> simp [h1, h3, h4]
        | false =>
          rw [a2] at hF
          rw [if_neg (fun h => by rw [a2] at h; simp at h), List.nil_append] at hacc
          simp [b_site_Sites_2_0, h1, h3, h4, h6, gq, sq, gn, sn, t1, t2, t3, t4, t5, t6, t7, t8, t9, t10, t11, hF, e1, e2, e3, e4, e5, hcap]
          refine ih (bits / 2) (i + 1) (B / 2) (I + 1) _ acc hB' hI' hb' (by omega) (by omega) (by omega) hacc (by omega) ?_ ?_ ?_ ?_ <;> simp [h1, h3, h4]
      · have a1' : ((bits % 2 : Nat) : Int) = 0 := by omega
        rw [a1'] at e2
        rw [if_neg (fun h => a1 h.1), List.nil_append] at hacc
        simp [b_site_Sites_2_0, h1, h3, h4, h6, gq, sq, gn, sn, t1, t2, t3, t4, t5, t6, t7, t8, t9, t10, t11, hF, e1, e2, e3, e4, e5, hcap]
        refine ih (bits / 2) (i + 1) (B / 2) (I + 1) _ acc hB' hI' hb' (by omega) (by omega) (by omega) hacc (by omega) ?_ ?_ ?_ ?_ <;> simp [h1, h3, h4]

/-- The closure: what it adds to the list. -/
theorem pick_eq (e : Si × List Sm) (ok : e.1.ok) (hk : e.1.kind = 0) (hX : ∀ x ∈ e.2, x.exprs.length ≤ 1000) (kinds : Nat) (hkd : kinds < 65536) (K : Heap) (kb q : Nat) (acc : List Si) (hal : acc.length ≤ 19000)
    (hkb : K[kb]? = some (some [.int .u16 kinds])) (hq : K[q]? = some (some [.own 11 (acc.map Si.cells)])) :
    eval tbl noExt n_site_Sites_2 [.agg e.1.cells, .sl 7 (Sm.rows e.2), .ptr kb 0, .ptr q 0] K = some (.tup [], K.set q (some [.own 11 ((acc ++ picks kinds e).map Si.cells)])) := by
  have hkb1 : kb < K.length := by
    rcases Nat.lt_or_ge kb K.length with h | h
    · exact h
    · rw [List.getElem?_eq_none h] at hkb; cases hkb
  have hq1 : q < K.length := by
    rcases Nat.lt_or_ge q K.length with h | h
    · exact h
    · rw [List.getElem?_eq_none h] at hq; cases hq
  have gk : ∀ R : Heap, (K ++ R)[kb]? = some (some [.int .u16 kinds]) := fun R => by rw [List.getElem?_append_left hkb1]; exact hkb
  have hw : e.1.withKind 0 = e.1 := by
    obtain ⟨⟨kd, pt, wy, dp⟩, X⟩ := e
    simp only at hk
    subst hk; rfl
  have hself : K.set q (some [.own 11 (acc.map Si.cells)]) = K := by
    rw [List.getElem?_eq_getElem hq1] at hq
    rw [← Option.some.inj hq]
    exact List.set_getElem_self hq1
  rw [eval_M rfl rfl t_site_Sites_2 rfl]
  simp [c_site_Sites_2, gk]
  have h := pick_loop K K.length q rfl hq1 e.1 ok e.2 hX kinds (fun r => r = some (.tup [], K.set q (some [.own 11 ((acc ++ picks kinds e).map Si.cells)]))) [.fin [] K.length] (acc ++ picks kinds e) ?_ 16 kinds 0 kinds 0 [(6, V.int .u16 kinds), (7, V.int .u16 kinds), (4, V.ptr K.length 0), (0, .agg e.1.cells), (1, .sl 7 (Sm.rows e.2)), (2, .ptr kb 0), (3, .ptr q 0)] acc rfl rfl (by omega) hkd (by omega) (by omega) (by unfold picks; rw [show 16 = 8 + 8 by rfl, pk_more _ _ _ _ _ (by rfl)]) (by omega) (by simp) (by simp) (by simp) (by simp)
  · rw [hw, hself] at h
    simpa using h
  · intro φ' j
    have ht : ∀ x y : Option (List V), (K.set q x ++ [y]).take K.length = K.set q x := fun x y => List.take_left' (by simp)
    simp [ht]

end Go.AM.Spec

namespace Go.AM.Spec
set_option linter.unusedVariables false
set_option linter.unusedSimpArgs false
set_option maxHeartbeats 2000000
set_option maxRecDepth 10000

theorem get_lt {K : Heap} {i : Nat} {x : Option (List V)} (h : K[i]? = some x) : i < K.length := by
  rcases Nat.lt_or_ge i K.length with h1 | h1
  · exact h1
  · rw [List.getElem?_eq_none h1] at h; cases h

theorem step_set {s : Si} (ok : s.ok) {a : Nat} (ha : a < 8) (v u : Int) : (s.step a v).cells.set (2 + a) (iv u) = (s.step a u).cells := by
  have h8 : s.way.length = 8 := ok
  have h1 : ∀ v, (s.step a v).cells = iv s.kind :: iv s.part :: ((s.way.set a v).map iv ++ [iv ((a + 1 : Nat) : Int)]) := fun v => rfl
  rw [h1, h1, show 2 + a = a + 1 + 1 by omega, List.set_cons_succ, List.set_cons_succ, List.set_append_left _ _ (by simp; omega), ← List.map_set, List.set_set]

def Turn (tf : Nat) (t : Nat → Int) : Prop := tf < yBase ∧ ∀ (k : Nat) (H : Heap), k ≤ 1000 → eval tbl noExt tf [iv k] H = some (iv (t k), H)

theorem turn_id : Turn n_site_Sites_1 idk := by
  refine ⟨lt_site_Sites_1, fun k H hk => ?_⟩
  rw [eval_M rfl rfl t_site_Sites_1 rfl]
  simp [c_site_Sites_1, idk]
theorem turn_even : Turn n_site_each_1 evn := by
  refine ⟨lt_site_each_1, fun k H hk => ?_⟩
  have e5 : min 1 IntKind.i64.bits = 1 := by decide
  have e : IntKind.i64.wrap ((k : Int) * 2) = 2 * (k : Int) := by rw [w64] <;> omega
  rw [eval_M rfl rfl t_site_each_1 rfl]
  simp [c_site_each_1, evn, e5, e]
theorem bit_or (k : Nat) (hk : k ≤ 1000) : IntKind.i64.wrap ↑((2 * (k : Int) % 2 ^ IntKind.i64.bits).toNat ||| 1 % 2 ^ IntKind.i64.bits) = 2 * (k : Int) + 1 := by
  have e : (2 : Int) ^ IntKind.i64.bits = 18446744073709551616 := by decide
  have e' : (1 : Nat) % 2 ^ IntKind.i64.bits = 1 := by decide
  have e2 : (2 * (k : Int) % 18446744073709551616).toNat = 2 * k := by omega
  have e3 : 2 * k ||| 1 = 2 * k + 1 := by
    have := Nat.two_pow_add_eq_or_of_lt (i := 1) (b := 1) (by omega) k
    simpa using this.symm
  rw [e, e', e2, e3, w64] <;> omega
theorem turn_odd : Turn n_site_each_2 odk := by
  refine ⟨lt_site_each_2, fun k H hk => ?_⟩
  have e5 : min 1 IntKind.i64.bits = 1 := by decide
  have e : IntKind.i64.wrap ((k : Int) * 2) = 2 * (k : Int) := by rw [w64] <;> omega
  have e2 := bit_or k hk
  rw [eval_M rfl rfl t_site_each_2 rfl]
  simp [c_site_each_2, odk, e5, e, e2]

def fnS (kb q : Nat) : V := .fn (.func n_site_Sites_2) [] [.ptr kb 0, .ptr q 0]

def EachOK (d : Nat) : Prop := ∀ (tf : Nat) (t : Nat → Int) (s : Si) (l : List Sm) (kinds : Nat) (K : Heap) (kb q : Nat) (acc : List Si), Turn tf t → Inv s d → (∀ k, k < l.length → 0 ≤ t k ∧ t k ≤ 10000) → Sm.sizes l ≤ 1000 → kinds < 65536 → acc.length + 8 * Sm.sizes l ≤ 18000 → kb ≠ q →
  K[kb]? = some (some [.int .u16 kinds]) → K[q]? = some (some [.own 11 (acc.map Si.cells)]) →
  eval tbl noExt n_site_each [.sl 7 (Sm.rows l), .agg s.cells, .fn (.func tf) [] [], fnS kb q] K = some (.tup [], K.set q (some [.own 11 ((acc ++ outs kinds (eachL d t s l)).map Si.cells)]))

theorem each_zero : EachOK 0 := by
  intro tf t s l kinds K kb q acc hT hI _ hs hkd hal hne hkb hq
  have ok : s.ok := hI.ok
  have c10 := Si.c10 ok
  have hd : s.deep = 8 := hI.deep
  rw [hd] at c10
  have hself : K.set q (some [.own 11 (acc.map Si.cells)]) = K := by
    have hq1 := get_lt hq
    rw [List.getElem?_eq_getElem hq1] at hq
    rw [← Option.some.inj hq]
    exact List.set_getElem_self hq1
  have e : acc ++ outs kinds (eachL 0 t s l) = acc := by simp [eachL, outs]
  rw [e, hself, eval_M rfl rfl t_site_each rfl]
  simp [c_site_each, c10]

theorem each_loop (d : Nat) (hEach : EachOK d) (tf : Nat) (t : Nat → Int) (hT : Turn tf t) (s : Si) (hI : Inv s (d + 1)) (l : List Sm) (ht : ∀ k, k < l.length → 0 ≤ t k ∧ t k ≤ 10000) (hs : Sm.sizes l ≤ 1000) (kinds : Nat) (hkd : kinds < 65536) (n kb q : Nat) (hkbn : kb < n) (hqn : q < n) (hne : kb ≠ q) (A : Heap) (hA : A.length = n)
    (hkb : A[kb]? = some (some [.int .u16 kinds])) (Q : Option (V × Heap) → Prop) (k : List Item) (all : List Si)
    (hexit : ∀ φ' x G, Q (M (eval tbl noExt) k φ' (A.set q (some [.own 11 (all.map Si.cells)]) ++ x :: G))) :
    ∀ (j i : Nat) (φ : Fr) (acc : List Si) (v : Int) (G : Heap), i + j = l.length → acc.length + 8 * Sm.sizes (l.drop i) ≤ 18000 → acc ++ outs kinds (loopE (eachL d) t s (8 - (d + 1)) i (l.drop i)) = all → Fr.get φ 0 = .sl 7 (Sm.rows l) → Fr.get φ 2 = .fn (.func tf) [] [] → Fr.get φ 3 = fnS kb q → Fr.get φ 5 = .ptr n 0 → Fr.get φ 8 = iv ((8 - (d + 1) : Nat) : Int) → Fr.get φ 20 = .sl 7 (Sm.rows l) → Fr.get φ 21 = iv l.length → Fr.get φ 22 = iv i →
      Q (M (eval tbl noExt) (.code l_site_each_0 :: .blk 0 :: k) φ (A.set q (some [.own 11 (acc.map Si.cells)]) ++ some (s.step (8 - (d + 1)) v).cells :: G)) := by
  have hd8 := hI.hd
  obtain ⟨a, ha⟩ : ∃ a, a = 8 - (d + 1) := ⟨_, rfl⟩
  rw [← ha]
  have ha8 : a < 8 := by omega
  have ok : s.ok := hI.ok
  have okv : ∀ v, (s.step a v).ok := fun v => by show (s.way.set a v).length = 8; rw [List.length_set]; exact hI.ok
  have hl := Sm.sizes_ge l
  have hrl := Sm.rows_len l
  have gn : ∀ (x y : Option (List V)) (R : Heap), (A.set q x ++ y :: R)[n]? = some y := fun x y R => by
    rw [List.getElem?_append_right (by simp; omega)]; simp [hA]
  have sn : ∀ (x y z : Option (List V)) (R : Heap), (A.set q x ++ y :: R).set n z = A.set q x ++ z :: R := fun x y z R => by
    rw [List.set_append_right _ _ (by simp; omega)]; simp [hA]
  have sq : ∀ (x y : Option (List V)) (R : Heap), (A.set q x ++ R).set q y = A.set q y ++ R := fun x y R => by
    rw [List.set_append_left _ _ (by simp; omega), List.set_set]
  have gq : ∀ (x : Option (List V)) (R : Heap), (A.set q x ++ R)[q]? = some x := fun x R => by
    rw [List.getElem?_append_left (by simp; omega)]; exact List.getElem?_set_self (by omega)
  have gkb : ∀ (x : Option (List V)) (R : Heap), (A.set q x ++ R)[kb]? = some (some [.int .u16 kinds]) := fun x R => by
    rw [List.getElem?_append_left (by simp; omega), List.getElem?_set_ne (by omega)]; exact hkb
  have ge : ∀ (x y z : Option (List V)) (R : Heap), (A.set q x ++ y :: (R ++ [z]))[n + (R.length + 1)]? = some z := fun x y z R => by
    rw [List.getElem?_append_right (by simp; omega)]; simp [hA]
  have se : ∀ (x y z u : Option (List V)) (R : Heap), (A.set q x ++ y :: (R ++ [z])).set (n + (R.length + 1)) u = A.set q x ++ y :: (R ++ [u]) := fun x y z u R => by
    rw [List.set_append_right _ _ (by simp; omega)]; simp [hA]
  intro j
  induction j with
  | zero =>
    intro i φ acc v G hi hac hacc h0 h2 h3 h5 h8 h20 h21 h22
    have hlt : ¬ (i : Int) < l.length := by omega
    rw [List.drop_eq_nil_of_le (by omega)] at hacc
    have hacc' : acc = all := by rw [← hacc]; simp [loopE, outs]
    subst hacc'
    rw [l_site_each_0, M_loop]
    simp [b_site_each_0, h0, h2, h3, h5, h8, h20, h21, h22, hlt]
    exact hexit _ _ _
  | succ j ih =>
    intro i φ acc v G hi hac hacc h0 h2 h3 h5 h8 h20 h21 h22
    have hlt : i < l.length := by omega
    obtain ⟨x, hx⟩ : ∃ x, l[i]? = some x := ⟨_, List.getElem?_eq_getElem hlt⟩
    have hdrop : l.drop i = x :: l.drop (i + 1) := by
      rw [List.drop_eq_getElem_cons hlt]
      rw [List.getElem?_eq_getElem hlt] at hx
      rw [Option.some.inj hx]
    have hrow := Sm.rows_at hx
    have e1 : (i : Int) < l.length := by omega
    have e1' : (i : Int) ≤ l.length := by omega
    have e2 : IntKind.i64.wrap ((i : Int) + 1) = ((i + 1 : Nat) : Int) := by rw [w64] <;> omega
    have hv := ht i hlt
    have hI' := step_inv hI hv.1 hv.2
    rw [← ha] at hI'
    have hturn := fun H => hT.2 i H (by omega)
    have hlen := okv v
    have q1 := fun v => Si.len (okv v)
    have q3 := fun v => Si.strip (s := s.step a v)
    have q5 := fun v => Si.take (okv v)
    have qu := fun v m => Si.under (s := s.step a v) m
    have qset := step_set ok ha8 v (t i)
    have hal8 : (a : Int) < 8 := by omega
    have hrd := Sm.rows_drop l i
    have hr2 : i < (Sm.rows l).length := by omega
    have htk : (Sm.rows l).take l.length = Sm.rows l := List.take_of_length_le (by omega)
    rw [hdrop, loopE] at hacc
    rw [l_site_each_0, M_loop, ← l_site_each_0]
    have hlt1 := hT.1
    have hlt2 := lt_site_Sites_2
    have hsz := drop_sizes l i
    obtain ⟨s', hs'⟩ : ∃ s', s' = s.step a (t i) := ⟨_, rfl⟩
    rw [← hs'] at hI' qset hacc
    have ok' : s'.ok := hI'.ok
    rw [hdrop, Sm.sizes] at hac hsz
    obtain ⟨X, hX⟩ : ∃ X, X = l.drop i := ⟨_, rfl⟩
    have hXe : X = x :: l.drop (i + 1) := by rw [hX, hdrop]
    have hXs : ∀ y ∈ X, y.exprs.length ≤ 1000 := exprs_len (by rw [hX]; exact Nat.le_trans (drop_sizes l i) hs)
    rw [← hXe] at hacc
    rw [← hX] at hrd
    have hbs := body_sizes x
    have m1 := picks_len kinds (s', X)
    obtain ⟨acc1, hacc1⟩ : ∃ acc1, acc1 = acc ++ picks kinds (s', X) := ⟨_, rfl⟩
    have n1 : acc1.length ≤ acc.length + 8 := by rw [hacc1, List.length_append]; omega
    obtain ⟨acc2, hacc2⟩ : ∃ acc2, acc2 = acc1 ++ outs kinds (eachL d evn s' x.body) := ⟨_, rfl⟩
    have m2 := outs_len kinds (eachL d evn s' x.body)
    have m2' := eachL_len d evn s' x.body
    have n2 : acc2.length ≤ acc1.length + 8 * Sm.sizes x.body := by rw [hacc2, List.length_append]; omega
    obtain ⟨acc3, hacc3⟩ : ∃ acc3, acc3 = acc2 ++ outs kinds (eachL d odk s' x.els) := ⟨_, rfl⟩
    have m3 := outs_len kinds (eachL d odk s' x.els)
    have m3' := eachL_len d odk s' x.els
    have n3 : acc3.length ≤ acc2.length + 8 * Sm.sizes x.els := by rw [hacc3, List.length_append]; omega
    have hgb := Sm.sizes_ge x.body
    have hge := Sm.sizes_ge x.els
    have hfin : acc3 ++ outs kinds (loopE (eachL d) t s a (i + 1) (l.drop (i + 1))) = all := by
      rw [← hacc, hacc3, hacc2, hacc1]
      have : ∀ (e : Si × List Sm) (L : List (Si × List Sm)), outs kinds (e :: L) = picks kinds e ++ outs kinds L := fun e L => by simp [outs]
      rw [this, outs_append, outs_append]
      simp only [List.append_assoc]
    have c1 := fun (R : Heap) => pick_eq (s', X) ok' hI'.kind hXs kinds hkd (A.set q (some [.own 11 (acc.map Si.cells)]) ++ R) kb q acc (by omega) (gkb _ _) (gq _ _)
    have c2 := fun (R : Heap) => hEach n_site_each_1 evn s' x.body kinds (A.set q (some [.own 11 (acc1.map Si.cells)]) ++ R) kb q acc1 turn_even hI' (fun k hk => by unfold evn; omega) (by omega) hkd (by omega) hne (gkb _ _) (gq _ _)
    have c3 := fun (R : Heap) => hEach n_site_each_2 odk s' x.els kinds (A.set q (some [.own 11 (acc2.map Si.cells)]) ++ R) kb q acc2 turn_odd hI' (fun k hk => by unfold odk; omega) (by omega) hkd (by omega) hne (gkb _ _) (gq _ _)
    simp only [sq, ← hacc1, ← hacc2, ← hacc3, fnS] at c1 c2 c3
    have p1 := Si.len ok'
    have p3 := Si.strip (s := s')
    have p5 := Si.take ok'
    have pu := fun m => Si.under (s := s') m
    have ha10 : 2 + a ≤ 10 := by omega
    obtain ⟨op, ss, w, e, b, c, g⟩ := x
    simp only [Sm.cells] at hrow
    simp only [Sm.body, Sm.els] at c2 c3
    have hrow2 : ∀ h : i < (Sm.rows l).length, (Sm.rows l)[i] = [.int .i64 op, .str ss, .int .i64 w, .sl 4 (Ex.rows e), .sl 7 (Sm.rows b), .sl 7 (Sm.rows c), .bool g] := fun h => by
      rw [List.getElem?_eq_getElem h] at hrow; exact Option.some.inj hrow
    simp [b_site_each_0, h0, h2, h3, h5, h8, h20, h21, h22, e1, e1', e2, hrl, hrow, hrow2, hr2, hlt, gn, sn, gq, sq, ge, se, hA, hturn, hlt1, hlt2, q1, q3, q5, qu, qset, ha8, hal8, ha10, htk, hrd, fnS, p1, p3, p5, pu, c1, c2, c3]
    rw [hs']
    refine ih (i + 1) _ acc3 (t i) _ (by omega) (by simp only [Sm.body, Sm.els, Sm.size] at *; omega) hfin ?_ ?_ ?_ ?_ ?_ ?_ ?_ ?_ <;> simp [fnS]

theorem each_step (d : Nat) (h : EachOK d) (hd : d + 1 ≤ 8) : EachOK (d + 1) := by
  intro tf t s l kinds K kb q acc hT hI ht hs hkd hal hne hkb hq
  have ok : s.ok := hI.ok
  have c10 := Si.c10 ok
  obtain ⟨a, ha⟩ : ∃ a, a = 8 - (d + 1) := ⟨_, rfl⟩
  have hdp : s.deep = (a : Int) := by rw [ha]; exact hI.deep
  rw [hdp] at c10
  have ha8 : a < 8 := by omega
  have e1 : ¬ (a : Int) = 8 := by omega
  have e1' : ¬ a = 8 := by omega
  have e2 : IntKind.i64.wrap ((a : Int) + 1) = (a : Int) + 1 := by rw [w64] <;> omega
  have hkb1 := get_lt hkb
  have hq1 := get_lt hq
  have hself : K.set q (some [.own 11 (acc.map Si.cells)]) = K := by
    rw [List.getElem?_eq_getElem hq1] at hq
    rw [← Option.some.inj hq]
    exact List.set_getElem_self hq1
  have g10 : ∀ h : 10 < s.cells.length, s.cells[10] = iv a := fun h => by
    rw [List.getElem?_eq_getElem h] at c10; exact Option.some.inj c10
  have q1 := Si.len ok
  obtain ⟨v, hv⟩ : ∃ v, v = s.way.getD a 0 := ⟨_, rfl⟩
  have hst : s.cells.set 10 (iv ((a : Int) + 1)) = (s.step a v).cells := by
    rw [hv]
    have h8 : s.way.length = 8 := ok
    have hw : s.way.set a (s.way.getD a 0) = s.way := by
      rw [List.getD_eq_getElem?_getD, List.getElem?_eq_getElem (by omega)]
      exact List.set_getElem_self (by omega)
    unfold Si.step
    rw [hw]
    simp only [Si.cells, List.set_cons_succ]
    rw [List.set_append_right _ _ (by simp; omega)]
    simp [h8]
  have hrl := Sm.rows_len l
  have hl := Sm.sizes_ge l
  rw [eval_M rfl rfl t_site_each rfl]
  simp [c_site_each, c10, g10, e1, e1', e2, q1, hst, hrl]
  have key := each_loop d h tf t hT s hI l ht hs kinds hkd K.length kb q hkb1 hq1 hne K rfl hkb (fun r => r = some (.tup [], K.set q (some [.own 11 ((acc ++ outs kinds (eachL (d + 1) t s l)).map Si.cells)]))) [.fin [] K.length] (acc ++ outs kinds (eachL (d + 1) t s l)) (fun φ' x G => by
    have htk : ∀ (x y : Option (List V)) (G : Heap), (K.set q x ++ y :: G).take K.length = K.set q x := fun x y G => List.take_left' (by simp)
    simp [htk]) l.length 0
  rw [← ha] at key
  rw [show K ++ [some (s.step a v).cells] = K.set q (some [.own 11 (acc.map Si.cells)]) ++ some (s.step a v).cells :: [] by rw [hself], ← List.map_append]
  refine key _ acc _ [] (by omega) (by simp only [List.drop_zero]; omega) (by rw [ha]; rfl) ?_ ?_ ?_ ?_ ?_ ?_ ?_ ?_ <;> simp

theorem each_ok : ∀ d, d ≤ 8 → EachOK d
  | 0, _ => each_zero
  | d + 1, h => each_step d (each_ok d (by omega)) h

end Go.AM.Spec

namespace Go.AM.Spec
set_option linter.unusedVariables false
set_option linter.unusedSimpArgs false
set_option maxHeartbeats 2000000
set_option maxRecDepth 10000

def wl (p : Pg) (i : Nat) : List (Si × List Sm) := ((List.range i).map (waysOf p)).flatten
theorem wl_succ (p : Pg) (i : Nat) : wl p (i + 1) = wl p i ++ waysOf p i := by simp [wl, List.range_succ]

theorem blocks_size {p : Pg} (hp : p.size ≤ 1000) : Sm.sizes p.blocks.flatten ≤ 1000 := by
  have h1 := p.parts_size
  simp only [Pg.parts, Pg.blocks, List.flatten_append, List.flatten_cons, List.flatten_nil, sizes_append, Sm.sizes] at h1 ⊢
  omega

theorem take_block {p : Pg} {i : Nat} (hi : i < p.blocks.length) : (p.blocks.take (i + 1)).flatten = (p.blocks.take i).flatten ++ p.blocks.getD i [] := by
  rw [List.take_add_one, List.getD_eq_getElem?_getD, List.getElem?_eq_getElem hi, List.flatten_append]
  simp only [Option.toList_some, Option.getD_some, List.flatten_cons, List.flatten_nil, List.append_nil]

theorem take_size (p : Pg) (i : Nat) : Sm.sizes (p.blocks.take i).flatten ≤ Sm.sizes p.blocks.flatten := by
  have h := sizes_append (p.blocks.take i).flatten (p.blocks.drop i).flatten
  rw [← List.flatten_append, List.take_append_drop] at h
  omega

theorem wl_len (p : Pg) : ∀ i, i ≤ p.blocks.length → (wl p i).length ≤ Sm.sizes (p.blocks.take i).flatten
  | 0, _ => by simp [wl]
  | i + 1, h => by
    have h1 := wl_len p i (by omega)
    have h2 : (waysOf p i).length ≤ Sm.sizes (p.blocks.getD i []) := eachL_len 8 idk (site0 i) _
    rw [wl_succ, take_block (by omega), List.length_append, sizes_append]
    omega

def allSites (p : Pg) (kinds : Nat) : List Si := outs kinds (wl p p.blocks.length)

theorem sites_loop (p : Pg) (hp : p.size ≤ 1000) (kinds : Nat) (hkd : kinds < 65536) (R : Option (V × Heap)) (k : List Item) (x0 : Option (List V))
    (hexit : ∀ φ', Fr.get φ' 5 = .ptr 2 0 → M (eval tbl noExt) k φ' [x0, some [.int .u16 kinds], some [.own 11 ((allSites p kinds).map Si.cells)]] = R) :
    ∀ (j i : Nat) (φ : Fr), i + j = p.blocks.length → Fr.get φ 3 = .ptr 1 0 → Fr.get φ 5 = .ptr 2 0 → Fr.get φ 9 = .own 1 (p.blocks.map brow) → Fr.get φ 10 = iv p.blocks.length → Fr.get φ 11 = iv i →
      M (eval tbl noExt) (.code l_site_Sites_0 :: .blk 0 :: k) φ [x0, some [.int .u16 kinds], some [.own 11 ((outs kinds (wl p i)).map Si.cells)]] = R := by
  intro j
  induction j with
  | zero =>
    intro i φ hi h3 h5 h9 h10 h11
    obtain rfl : i = p.blocks.length := by omega
    rw [l_site_Sites_0, M_loop]
    simp [b_site_Sites_0, h3, h5, h9, h10, h11]
    exact hexit _ (by simp [h5])
  | succ j ih =>
    intro i φ hi h3 h5 h9 h10 h11
    have hlt : i < p.blocks.length := by omega
    have e1 : (i : Int) < p.blocks.length := by omega
    have hbl := p.blocks_len
    have hpl := procs_len hp
    have e2 : IntKind.i64.wrap ((i : Int) + 1) = ((i + 1 : Nat) : Int) := by rw [w64] <;> omega
    obtain ⟨b, hb⟩ : ∃ b, b = p.blocks.getD i [] := ⟨_, rfl⟩
    have hgb : ∀ h : i < p.blocks.length, p.blocks[i] = b := fun h => by rw [hb, List.getD_eq_getElem?_getD, List.getElem?_eq_getElem h]; rfl
    have hbs : Sm.sizes b ≤ 1000 := block_sizes hp (by rw [← hgb hlt]; exact List.getElem_mem _)
    have hbl2 := Sm.sizes_ge b
    have hw1 := wl_len p i (by omega)
    have ho := outs_len kinds (wl p i)
    have hs1 := take_size p (i + 1)
    have hs2 := blocks_size hp
    rw [take_block hlt, sizes_append, ← hb] at hs1
    have hE := each_ok 8 (Nat.le_refl _) n_site_Sites_1 idk (site0 i) b kinds [x0, some [.int .u16 kinds], some [.own 11 ((outs kinds (wl p i)).map Si.cells)]] 1 2 (outs kinds (wl p i)) turn_id (site0_inv i) (fun k hk => by unfold idk; omega) hbs hkd (by omega) (by omega) rfl rfl
    have hnext : outs kinds (wl p i) ++ outs kinds (eachL 8 idk (site0 i) b) = outs kinds (wl p (i + 1)) := by
      rw [wl_succ, outs_append, hb]; rfl
    have hc : (site0 i).cells = [iv 0, iv i, iv 0, iv 0, iv 0, iv 0, iv 0, iv 0, iv 0, iv 0, iv 0] := rfl
    rw [hnext, hc] at hE
    simp only [fnS, List.set_cons_succ, List.set_cons_zero] at hE
    rw [l_site_Sites_0, M_loop, ← l_site_Sites_0]
    simp [b_site_Sites_0, h3, h5, h9, h10, h11, e1, e2, hlt, hgb, brow, hE]
    refine ih (i + 1) _ (by omega) ?_ ?_ ?_ ?_ ?_ <;> simp [h3, h5, h9, h10]

theorem Sites_eq (p : Pg) (hp : p.size ≤ 1000) (kinds : Nat) (hkd : kinds < 65536) : eval tbl noExt n_site_Sites [.agg p.cells, .int .u16 kinds] [] = some (.sl 11 ((allSites p kinds).map Si.cells), []) := by
  have hparts := sparts_eq p (procs_len hp) []
  have hcp : p.cells.length = 4 := rfl
  have hcpt : p.cells.take 4 = p.cells := rfl
  have hcps : p.cells.map V.strip = p.cells := rfl
  have hcpu : ∀ n, V.underAll n p.cells = true := fun n => rfl
  rw [eval_M rfl rfl t_site_Sites rfl]
  simp [c_site_Sites, hcp, hcpt, hcps, hcpu, hparts]
  refine sites_loop p hp kinds hkd _ _ _ ?_ p.blocks.length 0 _ (by omega) ?_ ?_ ?_ ?_ ?_
  · intro φ' h5
    simp [r_site_Sites_0, h5]
  all_goals simp

end Go.AM.Spec

namespace Go.AM.Spec
set_option linter.unusedVariables false
set_option linter.unusedSimpArgs false
set_option maxHeartbeats 1000000

/-! Names. -/
theorem spl_join : ∀ (l : List (List UInt8)), l ≠ [] → (∀ w ∈ l, (32 : UInt8) ∉ w) → splitOn 32 (Go.Lib.join l [32]) = l
  | [], h, _ => absurd rfl h
  | [w], _, hw => by rw [Go.Lib.join_one]; exact spl_none w (hw w (by simp))
  | x :: y :: r, _, hw => by
    rw [spl_jn2, List.singleton_append, spl_app x _ (hw x (by simp)), spl_join (y :: r) (by simp) (fun w h => hw w (List.mem_cons_of_mem _ h))]

theorem num_text {n : Int} (h0 : 0 ≤ n) (h1 : n ≤ 511) : readR (text n) = (n, true) := by
  rw [read_text n (by omega) (by omega), if_pos ⟨h0, by omega⟩]

theorem text_blank {n : Int} (h0 : 0 ≤ n) (h1 : n ≤ 511) : (32 : UInt8) ∉ text n := by
  have h := num_text h0 h1
  unfold readR at h
  split at h
  · simp at h
  · split at h
    · simp at h
    · rename_i v hv
      intro hm
      have hd := val_digits 0 _ hv 32 hm
      unfold isDigit at hd
      have : (32 : UInt8).toNat = 32 := rfl
      omega

theorem word_blank {k : Int} (h0 : 1 ≤ k) (h1 : k ≤ 8) : (32 : UInt8) ∉ wordOf k := by
  have : k = 1 ∨ k = 2 ∨ k = 3 ∨ k = 4 ∨ k = 5 ∨ k = 6 ∨ k = 7 ∨ k = 8 := by omega
  rcases this with rfl | rfl | rfl | rfl | rfl | rfl | rfl | rfl <;> decide

theorem kind_word {k : Int} (h0 : 1 ≤ k) (h1 : k ≤ 8) : kindTo (wordOf k) 9 = k := by
  have : k = 1 ∨ k = 2 ∨ k = 3 ∨ k = 4 ∨ k = 5 ∨ k = 6 ∨ k = 7 ∨ k = 8 := by omega
  rcases this with rfl | rfl | rfl | rfl | rfl | rfl | rfl | rfl <;> decide

theorem readNums_texts (k p d : Int) : ∀ (ws done : List Int), (∀ w ∈ ws, 0 ≤ w ∧ w ≤ 511) → done.length + ws.length ≤ 8 →
    readNums ⟨k, p, done ++ List.replicate (8 - done.length) 0, d⟩ (done.length + 1) (ws.map text) = some ⟨k, p, (done ++ ws) ++ List.replicate (8 - (done ++ ws).length) 0, d⟩
  | [], done, _, _ => by simp [readNums]
  | w :: ws, done, hw, hl => by
    have h1 := hw w (by simp)
    have hr := num_text h1.1 h1.2
    have hn : numOK (text w) = true := by unfold numOK; rw [hr]; simp [h1.2]
    simp only [List.length_cons] at hl
    rw [List.map_cons, readNums, if_pos hn, hr]
    have e : (⟨k, p, done ++ List.replicate (8 - done.length) 0, d⟩ : Si).putN (done.length + 1) w = ⟨k, p, (done ++ [w]) ++ List.replicate (8 - (done ++ [w]).length) 0, d⟩ := by
      unfold Si.putN
      rw [if_neg (by omega)]
      congr 1
      obtain ⟨m, hm⟩ : ∃ m, 8 - done.length = m + 1 := ⟨8 - done.length - 1, by omega⟩
      have hm2 : 8 - (done ++ [w]).length = m := by simp; omega
      rw [hm, hm2, List.replicate_succ, Nat.add_sub_cancel, List.set_append_right _ _ (Nat.le_refl _)]
      simp
    have ih := readNums_texts k p d ws (done ++ [w]) (fun x hx => hw x (by simp [hx])) (by simp; omega)
    rw [show (done ++ [w]).length + 1 = done.length + 1 + 1 by simp] at ih
    show readNums ((⟨k, p, done ++ List.replicate (8 - done.length) 0, d⟩ : Si).putN (done.length + 1) w) (done.length + 1 + 1) (ws.map text) = _
    rw [e, ih]
    simp

theorem read_name {s : Si} (ok : s.ok) (hn : s.name.2 = true) : readSi s.name.1 = (s, true) := by
  have h8 : s.way.length = 8 := ok
  have hn0 := hn
  unfold Si.name at hn
  split at hn
  · cases hn
  · rename_i hc
    split at hn
    · cases hn
    · rename_i hc2
      have hname : s.name = (Go.Lib.join s.parts [32], true) := by unfold Si.name; rw [if_neg hc, if_neg hc2]
      have hmay : s.may = true := by
        cases h : s.may with
        | true => rfl
        | false => exact absurd (.inr (.inr (.inr (.inr h)))) hc
      have hk0 : 1 ≤ s.kind := by
        rcases Int.lt_or_le s.kind 1 with h | h
        · exact absurd (.inl h) hc
        · exact h
      have hk1 : s.kind ≤ 8 := by
        rcases Int.lt_or_le 8 s.kind with h | h
        · exact absurd (.inr (.inl h)) hc
        · exact h
      have hp0 : 0 ≤ s.part := by
        rcases Int.lt_or_le s.part 0 with h | h
        · exact absurd (.inr (.inr (.inl h))) hc
        · exact h
      have hp1 : s.part ≤ 16 := by
        rcases Int.lt_or_le 16 s.part with h | h
        · exact absurd (.inr (.inr (.inr (.inl h)))) hc
        · exact h
      obtain ⟨d1, d8, hpos⟩ := Si.range hmay
      obtain ⟨d, hd⟩ : ∃ d : Nat, s.deep = d := ⟨s.deep.toNat, by omega⟩
      have hdt : s.deep.toNat = d := by omega
      rw [hdt] at hpos hc2
      have hle : ∀ w ∈ s.way.take d, 0 ≤ w ∧ w ≤ 511 := by
        intro w hw
        refine ⟨hpos w hw, ?_⟩
        rcases Int.lt_or_le 511 w with h | h
        · exact absurd (List.any_eq_true.2 ⟨w, hw, by simpa using h⟩) hc2
        · exact h
      have hlen : (s.way.take d).length = d := by simp [h8]; omega
      have hparts : s.parts = wordOf s.kind :: text s.part :: (s.way.take d).map text := by unfold Si.parts; rw [hdt]
      have hspl : splitOn 32 s.name.1 = s.parts := by
        rw [hname]
        refine spl_join s.parts (by rw [hparts]; simp) (fun w hw => ?_)
        rw [hparts] at hw
        simp only [List.mem_cons, List.mem_map] at hw
        rcases hw with rfl | rfl | ⟨x, hx, rfl⟩
        · exact word_blank hk0 hk1
        · exact text_blank hp0 (by omega)
        · exact text_blank (hle x hx).1 (hle x hx).2
      have hzero : (s.way.drop d) = List.replicate (8 - d) 0 := by
        unfold Si.may at hmay
        simp only [Bool.and_eq_true, decide_eq_true_eq, List.all_eq_true, hdt] at hmay
        rw [List.eq_replicate_iff]
        exact ⟨by simp [h8], hmay.2.2.2⟩
      have hl : s.parts.length = d + 2 := by rw [hparts]; simp [h8]; omega
      unfold readSi
      dsimp only
      rw [hspl, if_neg (by rw [hl]; omega), hparts]
      have hnp : numOK (text s.part) = true := by unfold numOK; rw [num_text hp0 (by omega)]; simp; omega
      simp only [List.drop_succ_cons, List.drop_zero, List.getElem?_cons_zero, Option.getD_some]
      rw [kind_word hk0 hk1, readNums, if_pos hnp, num_text hp0 (by omega)]
      have hll : ((wordOf s.kind :: text s.part :: (s.way.take d).map text).length : Int) - 2 = d := by simp [h8]; omega
      rw [hll]
      have e : (startSi s.kind (d : Int)).putN 0 s.part = ⟨s.kind, s.part, ([] : List Int) ++ List.replicate (8 - ([] : List Int).length) 0, (d : Int)⟩ := by
        unfold Si.putN startSi
        rw [if_pos rfl]; rfl
      have h := readNums_texts s.kind s.part d (s.way.take d) [] hle (by simp [h8]; omega)
      rw [← e] at h
      simp only [List.length_nil] at h
      show afterNums (readNums ((startSi s.kind (d : Int)).putN 0 s.part) (0 + 1) _) = _
      rw [h]
      have hs : (⟨s.kind, s.part, ([] ++ s.way.take d) ++ List.replicate (8 - ([] ++ s.way.take d).length) 0, (d : Int)⟩ : Si) = s := by
        rw [List.nil_append, hlen, ← hzero, List.take_append_drop, ← hd]
      rw [hs]
      show (if s.name.2 = true then (s, true) else (zeroSi, false)) = (s, true)
      rw [if_pos hn0]

theorem name_len {s : Si} (hn : s.name.2 = true) : s.name.1.length ≤ 1000 := by
  unfold Si.name at hn ⊢
  split at hn
  · cases hn
  · rename_i hc
    split at hn
    · cases hn
    · rename_i hc2
      rw [if_neg hc, if_neg hc2]
      have hmay : s.may = true := by
        cases h : s.may with
        | true => rfl
        | false => exact absurd (.inr (.inr (.inr (.inr h)))) hc
      have h1 := (parts_len hmay).1
      have h2 : ∀ w ∈ s.parts, w.length ≤ 60 := by
        intro w hw
        unfold Si.parts at hw
        simp only [List.mem_cons, List.mem_map] at hw
        rcases hw with rfl | rfl | ⟨n, _, rfl⟩
        · have := wordOf_len s.kind; omega
        · have := text_length s.part; omega
        · have := text_length n; omega
      have h3 := jn_len [32] 60 s.parts h2
      simp only [List.length_singleton] at h3
      show (Go.Lib.join s.parts [32]).length ≤ 1000
      have : (60 + 1) * s.parts.length ≤ (60 + 1) * 10 := Nat.mul_le_mul_left _ h1
      omega

/-! No site is told twice. -/
theorem step_get {s : Si} {a : Nat} (h : a < s.way.length) (v : Int) : (s.step a v).way[a]? = some v := by
  simp only [Si.step]
  exact List.getElem?_set_self h

/-- How what is told begins. -/
def Pre (s : Si) (a : Nat) (v : Int) (z : Si) : Prop := z.way.take a = s.way.take a ∧ z.way[a]? = some v ∧ ((a + 1 : Nat) : Int) ≤ z.deep

theorem loopE_pre {rec : (Nat → Int) → Si → List Sm → List (Si × List Sm)} (t : Nat → Int) (s : Si) (a : Nat) (ha : a < s.way.length)
    (hrec : ∀ (u : Nat → Int) (v : Int) (l : List Sm), ∀ e ∈ rec u (s.step a v) l, ∃ w, Pre (s.step a v) (a + 1) w e.1) :
    ∀ (r : List Sm) (k : Nat), ∀ e ∈ loopE rec t s a k r, ∃ j, k ≤ j ∧ Pre s a (t j) e.1 := by
  have up : ∀ (v : Int) (z : Si) (w : Int), Pre (s.step a v) (a + 1) w z → Pre s a v z := by
    intro v z w ⟨h1, h2, h3⟩
    have ht := step_take ha v
    rw [ht] at h1
    have hl : (s.way.take a).length = a := by simp; omega
    refine ⟨?_, ?_, by omega⟩
    · have := congrArg (List.take a) h1
      rw [List.take_take, Nat.min_eq_left (by omega), List.take_left' hl] at this
      exact this
    · have := congrArg (fun l => l[a]?) h1
      simp only [List.getElem?_take_of_lt (show a < a + 1 by omega)] at this
      rw [this, List.getElem?_append_right (by omega), hl]
      simp
  intro r
  induction r with
  | nil => intro k e he; simp [loopE] at he
  | cons x r ih =>
    intro k e he
    rw [loopE] at he
    rcases List.mem_cons.1 he with rfl | he
    · refine ⟨k, Nat.le_refl _, ?_, step_get ha _, by simp [Si.step]⟩
      have := step_take ha (t k)
      have hl : (s.way.take a).length = a := by simp; omega
      have h2 := congrArg (List.take a) this
      rw [List.take_take, Nat.min_eq_left (by omega), List.take_left' hl] at h2
      exact h2
    · rcases List.mem_append.1 he with he | he
      · obtain ⟨w, hw⟩ := hrec _ _ _ e he
        exact ⟨k, Nat.le_refl _, up _ _ _ hw⟩
      · rcases List.mem_append.1 he with he | he
        · obtain ⟨w, hw⟩ := hrec _ _ _ e he
          exact ⟨k, Nat.le_refl _, up _ _ _ hw⟩
        · obtain ⟨j, hj, hp⟩ := ih (k + 1) e he
          exact ⟨j, by omega, hp⟩

theorem eachL_pre : ∀ (d : Nat) (t : Nat → Int) (s : Si) (l : List Sm), s.way.length = 8 → d ≤ 8 → ∀ e ∈ eachL d t s l, ∃ j, Pre s (8 - d) (t j) e.1 := by
  intro d
  induction d with
  | zero => intro t s l _ _ e he; simp [eachL] at he
  | succ d ih =>
    intro t s l h8 hd e he
    rw [eachL] at he
    obtain ⟨j, _, hp⟩ := loopE_pre t s (8 - (d + 1)) (by omega) (fun u v l e he => by
      have := ih u (s.step (8 - (d + 1)) v) l (by simp [Si.step, h8]) (by omega) e he
      rw [show 8 - d = 8 - (d + 1) + 1 by omega] at this
      obtain ⟨j, hj⟩ := this
      exact ⟨_, hj⟩) l 0 e he
    exact ⟨j, hp⟩

theorem eachL_nodup : ∀ (d : Nat) (t : Nat → Int) (s : Si) (l : List Sm), (∀ i j, t i = t j → i = j) → s.way.length = 8 → d ≤ 8 → ((eachL d t s l).map (·.1)).Nodup := by
  intro d
  induction d with
  | zero => intro t s l _ _ _; simp [eachL]
  | succ d ih =>
    intro t s l ht h8 hd
    have h8' : ∀ v, (s.step (8 - (d + 1)) v).way.length = 8 := fun v => by simp [Si.step, h8]
    have e8 : 8 - d = 8 - (d + 1) + 1 := by omega
    have hpre := fun u v (l : List Sm) e (he : e ∈ eachL d u (s.step (8 - (d + 1)) v) l) => eachL_pre d u (s.step (8 - (d + 1)) v) l (h8' v) (by omega) e he
    have hev : ∀ i j, evn i = evn j → i = j := fun i j h => by unfold evn at h; omega
    have hod : ∀ i j, odk i = odk j → i = j := fun i j h => by unfold odk at h; omega
    have key : ∀ (r : List Sm) (k : Nat), ((loopE (eachL d) t s (8 - (d + 1)) k r).map (·.1)).Nodup := by
      intro r
      induction r with
      | nil => intro k; simp [loopE]
      | cons x r ihr =>
        intro k
        have hrest : ∀ e ∈ loopE (eachL d) t s (8 - (d + 1)) (k + 1) r, ∃ j, k + 1 ≤ j ∧ Pre s (8 - (d + 1)) (t j) e.1 := loopE_pre t s (8 - (d + 1)) (by omega) (fun u v l e he => by
          obtain ⟨j, hj⟩ := hpre u v l e he
          rw [e8] at hj
          exact ⟨_, hj⟩) r (k + 1)
        have hin : ∀ u (l : List Sm), ∀ e ∈ eachL d u (s.step (8 - (d + 1)) (t k)) l, e.1.way[8 - (d + 1)]? = some (t k) ∧ ((8 - d + 1 : Nat) : Int) ≤ e.1.deep ∧ ∃ j, e.1.way[8 - d]? = some (u j) := by
          intro u l e he
          obtain ⟨j, h1, h2, h3⟩ := hpre u (t k) l e he
          refine ⟨?_, h3, j, h2⟩
          have h4 := congrArg (fun l => l[8 - (d + 1)]?) h1
          simp only [List.getElem?_take_of_lt (show 8 - (d + 1) < 8 - d by omega)] at h4
          rw [h4]
          exact step_get (by omega) _
        have hdiff : ∀ e ∈ loopE (eachL d) t s (8 - (d + 1)) (k + 1) r, e.1.way[8 - (d + 1)]? ≠ some (t k) := by
          intro e he hh
          obtain ⟨j, hj, _, h2, _⟩ := hrest e he
          rw [h2] at hh
          have := ht _ _ (Option.some.inj hh)
          omega
        rw [loopE, List.map_cons, List.map_append, List.map_append, List.nodup_cons, List.nodup_append]
        refine ⟨?_, ih evn _ _ hev (h8' _) (by omega), ?_, ?_⟩
        · intro hm
          simp only [List.mem_append, List.mem_map] at hm
          have hdp : (s.step (8 - (d + 1)) (t k)).deep = ((8 - (d + 1) + 1 : Nat) : Int) := rfl
          rcases hm with ⟨e, he, hq⟩ | ⟨e, he, hq⟩ | ⟨e, he, hq⟩
          · have := (hin _ _ e he).2.1
            rw [hq, hdp] at this
            omega
          · have := (hin _ _ e he).2.1
            rw [hq, hdp] at this
            omega
          · refine hdiff e he ?_
            rw [hq]
            exact step_get (by omega) _
        · rw [List.nodup_append]
          refine ⟨ih odk _ _ hod (h8' _) (by omega), ihr (k + 1), ?_⟩
          intro a ha b hb hab
          simp only [List.mem_map] at ha hb
          obtain ⟨e, he, rfl⟩ := ha
          obtain ⟨e', he', rfl⟩ := hb
          refine hdiff e' he' ?_
          rw [← hab]
          exact (hin _ _ e he).1
        · intro a ha b hb hab
          simp only [List.mem_append, List.mem_map] at ha hb
          obtain ⟨e, he, rfl⟩ := ha
          obtain ⟨h1, _, j, h2⟩ := hin _ _ e he
          rcases hb with ⟨e', he', rfl⟩ | ⟨e', he', rfl⟩
          · obtain ⟨_, _, j', h2'⟩ := hin _ _ e' he'
            rw [hab, h2'] at h2
            have := Option.some.inj h2
            unfold evn odk at this
            omega
          · refine hdiff e' he' ?_
            rw [← hab]; exact h1
    exact key l 0

end Go.AM.Spec

namespace Go.AM.Spec
set_option linter.unusedVariables false
set_option linter.unusedSimpArgs false
set_option maxHeartbeats 1000000

theorem pk_mem (X : List Sm) : ∀ (n bits k x : Nat), x ∈ pk X n bits k ↔ k < x ∧ x ≤ k + n ∧ fitsOf (x : Int) X = true ∧ bits / 2 ^ (x - k - 1) % 2 = 1
  | 0, bits, k, x => by
    simp only [pk, List.not_mem_nil, false_iff]
    omega
  | n + 1, bits, k, x => by
    rw [pk, List.mem_append, pk_mem X n (bits / 2) (k + 1) x]
    by_cases h : x = k + 1
    · subst h
      have e : k + 1 - k - 1 = 0 := by omega
      rw [e, Nat.pow_zero, Nat.div_one]
      constructor
      · rintro (h | h)
        · split at h
          · rename_i hc; exact ⟨by omega, by omega, hc.2, hc.1⟩
          · cases h
        · omega
      · rintro ⟨_, _, h1, h2⟩
        refine .inl ?_
        rw [if_pos ⟨h2, h1⟩]
        simp
    · have hno : x ∉ (if bits % 2 = 1 ∧ fitsOf ((k + 1 : Nat) : Int) X = true then [k + 1] else []) := by
        split
        · simpa using h
        · simp
      constructor
      · rintro (hh | ⟨h1, h2, h3, h4⟩)
        · exact absurd hh hno
        · refine ⟨by omega, by omega, h3, ?_⟩
          rw [Nat.div_div_eq_div_mul, Nat.mul_comm, ← Nat.pow_succ] at h4
          rw [show x - k - 1 = x - (k + 1) - 1 + 1 by omega]
          exact h4
      · rintro ⟨h1, h2, h3, h4⟩
        refine .inr ⟨by omega, by omega, h3, ?_⟩
        rw [Nat.div_div_eq_div_mul, Nat.mul_comm, ← Nat.pow_succ]
        rw [show x - k - 1 = x - (k + 1) - 1 + 1 by omega] at h4
        exact h4

theorem pk_nodup (X : List Sm) : ∀ (n bits k : Nat), (pk X n bits k).Nodup
  | 0, _, _ => by simp [pk]
  | n + 1, bits, k => by
    rw [pk, List.nodup_append]
    refine ⟨?_, pk_nodup X n _ _, ?_⟩
    · split <;> simp
    · intro a ha b hb hab
      have hb' := (pk_mem X n _ _ b).1 hb
      split at ha
      · simp at ha; omega
      · cases ha

theorem withKind_inj {s t : Si} {j k : Int} (hs : s.kind = 0) (ht : t.kind = 0) (h : s.withKind j = t.withKind k) : s = t ∧ j = k := by
  obtain ⟨a, b, c, d⟩ := s
  obtain ⟨a', b', c', d'⟩ := t
  simp only at hs ht
  subst hs ht
  unfold Si.withKind at h
  simp only [Si.mk.injEq] at h
  obtain ⟨h1, h2, h3, h4⟩ := h
  subst h1 h2 h3 h4
  exact ⟨rfl, rfl⟩

theorem nodup_map {α β : Type} (f : α → β) : ∀ (l : List α), (∀ a ∈ l, ∀ b ∈ l, f a = f b → a = b) → l.Nodup → (l.map f).Nodup
  | [], _, _ => by simp
  | a :: l, hf, h => by
    rw [List.nodup_cons] at h
    rw [List.map_cons, List.nodup_cons]
    refine ⟨fun hm => ?_, nodup_map f l (fun x hx y hy => hf x (by simp [hx]) y (by simp [hy])) h.2⟩
    obtain ⟨b, hb, he⟩ := List.mem_map.1 hm
    have := hf b (by simp [hb]) a (by simp) he
    subst this
    exact h.1 hb

theorem outs_nodup (kinds : Nat) : ∀ (L : List (Si × List Sm)), (∀ e ∈ L, e.1.kind = 0) → (L.map (·.1)).Nodup → (outs kinds L).Nodup
  | [], _, _ => by simp [outs]
  | e :: L, hk, h => by
    rw [List.map_cons, List.nodup_cons] at h
    have he : outs kinds (e :: L) = picks kinds e ++ outs kinds L := by simp [outs]
    rw [he, List.nodup_append]
    refine ⟨nodup_map _ _ (fun a _ b _ hab => ?_) (pk_nodup _ _ _ _), outs_nodup kinds L (fun e he => hk e (by simp [he])) h.2, ?_⟩
    · have := (withKind_inj (hk e (by simp)) (hk e (by simp)) hab).2
      omega
    · intro a ha b hb hab
      subst hab
      simp only [picks, List.mem_map] at ha
      obtain ⟨x, _, hx⟩ := ha
      simp only [outs, List.mem_flatten, List.mem_map] at hb
      obtain ⟨l, ⟨e', he', rfl⟩, hb⟩ := hb
      simp only [picks, List.mem_map] at hb
      obtain ⟨y, _, hy⟩ := hb
      have := (withKind_inj (hk e (by simp)) (hk e' (by simp [he'])) (hx.trans hy.symm)).1
      exact h.1 (List.mem_map.2 ⟨e', he', this.symm⟩)

theorem wl_out {p : Pg} (hp : p.size ≤ 1000) : ∀ (n : Nat), n ≤ p.blocks.length → ∀ e ∈ wl p n, ∃ i, i < n ∧ Out (p.blocks.getD i []) i e := by
  intro n hn e he
  simp only [wl, List.mem_flatten, List.mem_map, List.mem_range] at he
  obtain ⟨l, ⟨i, hi, rfl⟩, he⟩ := he
  exact ⟨i, hi, ways_out hp (by omega) e he⟩

theorem wl_nodup {p : Pg} (hp : p.size ≤ 1000) : ∀ n, n ≤ p.blocks.length → ((wl p n).map (·.1)).Nodup
  | 0, _ => by simp [wl]
  | n + 1, h => by
    rw [wl_succ, List.map_append, List.nodup_append]
    refine ⟨wl_nodup hp n (by omega), eachL_nodup 8 idk (site0 n) _ (fun i j h => by unfold idk at h; omega) rfl (Nat.le_refl _), ?_⟩
    intro a ha b hb hab
    simp only [List.mem_map] at ha hb
    obtain ⟨e, he, rfl⟩ := ha
    obtain ⟨e', he', rfl⟩ := hb
    obtain ⟨i, hi, ho⟩ := wl_out hp n (by omega) e he
    have ho' := ways_out hp (by omega) e' he'
    have h1 := ho.part
    have h2 := ho'.part
    rw [hab] at h1
    omega

theorem allSites_nodup {p : Pg} (hp : p.size ≤ 1000) (kinds : Nat) : (allSites p kinds).Nodup :=
  outs_nodup kinds _ (fun e he => by obtain ⟨i, _, ho⟩ := wl_out hp _ (Nat.le_refl _) e he; exact ho.kind) (wl_nodup hp _ (Nat.le_refl _))

theorem allSites_len' {p : Pg} (hp : p.size ≤ 1000) (kinds : Nat) : (allSites p kinds).length ≤ 8000 := by
  have h1 := wl_len p p.blocks.length (Nat.le_refl _)
  have h2 := blocks_size hp
  have h3 := take_size p p.blocks.length
  have h4 := outs_len kinds (wl p p.blocks.length)
  unfold allSites
  omega

/-- What is told fits, and its kind is wanted. -/
theorem told_fits {p : Pg} (hp : p.size ≤ 1000) {kinds : Nat} {s : Si} (h : s ∈ allSites p kinds) : s.ok ∧ s.fit ∧ 1 ≤ s.kind ∧ s.kind ≤ 8 ∧ fitsOf s.kind (leadOf p s) = true ∧ kinds / 2 ^ (s.kind.toNat - 1) % 2 = 1 := by
  simp only [allSites, outs, List.mem_flatten, List.mem_map] at h
  obtain ⟨l, ⟨e, he, rfl⟩, hs⟩ := h
  obtain ⟨i, hi, ho⟩ := wl_out hp _ (Nat.le_refl _) e he
  simp only [picks, List.mem_map] at hs
  obtain ⟨k, hk, rfl⟩ := hs
  obtain ⟨k0, k1, k2, k3⟩ := (pk_mem _ _ _ _ k).1 hk
  have hb := p.blocks_len
  have hpl := procs_len hp
  have hl : leadOf p (e.1.withKind (k : Int)) = e.2 := out_lead hi ho
  have hkk : (e.1.withKind (k : Int)).kind = (k : Int) := rfl
  refine ⟨ho.ok, out_fit (by omega) ho k (by omega) (by omega), by rw [hkk]; omega, by rw [hkk]; omega, by rw [hkk, hl]; exact k2, ?_⟩
  rw [hkk, Int.toNat_natCast]
  rw [Nat.sub_zero] at k3
  exact k3

theorem loopE_at {rec : (Nat → Int) → Si → List Sm → List (Si × List Sm)} (t : Nat → Int) (s : Si) (a : Nat) : ∀ (r : List Sm) (k j : Nat) (x : Sm), r[j]? = some x →
    (s.step a (t (k + j)), r.drop j) ∈ loopE rec t s a k r ∧ (∀ e ∈ rec evn (s.step a (t (k + j))) x.body, e ∈ loopE rec t s a k r) ∧ (∀ e ∈ rec odk (s.step a (t (k + j))) x.els, e ∈ loopE rec t s a k r)
  | [], k, j, x, h => by simp at h
  | y :: r, k, 0, x, h => by
    simp only [List.getElem?_cons_zero, Option.some.injEq] at h
    subst h
    rw [loopE]
    refine ⟨by simp, fun e he => ?_, fun e he => ?_⟩
    · exact List.mem_cons_of_mem _ (List.mem_append_left _ he)
    · exact List.mem_cons_of_mem _ (List.mem_append_right _ (List.mem_append_left _ he))
  | y :: r, k, j + 1, x, h => by
    rw [List.getElem?_cons_succ] at h
    obtain ⟨h1, h2, h3⟩ := loopE_at (rec := rec) t s a r (k + 1) j x h
    rw [show k + 1 + j = k + (j + 1) by omega] at h1 h2 h3
    rw [loopE]
    refine ⟨?_, fun e he => ?_, fun e he => ?_⟩
    · rw [List.drop_succ_cons]
      exact List.mem_cons_of_mem _ (List.mem_append_right _ (List.mem_append_right _ h1))
    · exact List.mem_cons_of_mem _ (List.mem_append_right _ (List.mem_append_right _ (h2 e he)))
    · exact List.mem_cons_of_mem _ (List.mem_append_right _ (List.mem_append_right _ (h3 e he)))

theorem zeros_of {l : List Int} (h : ∀ w ∈ l, w = 0) : l = List.replicate l.length 0 := List.eq_replicate_iff.2 ⟨rfl, h⟩

theorem eachL_all : ∀ (d : Nat) (t : Nat → Int) (s : Si) (l : List Sm) (z : Si) (X : List Sm) (m : Nat), Inv s d → Sm.sizes l ≤ 1000 → (∀ k, k < l.length → 0 ≤ t k ∧ t k ≤ 10000) → z.way.length = 8 → z.kind = 0 → z.part = s.part → (∀ w ∈ z.way, 0 ≤ w) → z.deep = (m : Int) → 8 - d < m → m ≤ 8 → (∀ w ∈ z.way.drop m, w = 0) →
    z.way.take (8 - d) = s.way.take (8 - d) → ∀ k : Nat, z.way[8 - d]? = some (t k) → leadTo l k ((z.way.take m).drop (8 - d + 1)) = X → X ≠ [] → (z, X) ∈ eachL d t s l := by
  intro d
  induction d with
  | zero => intro t s l z X m _ _ _ _ _ _ _ _ h1 h2; omega
  | succ d ih =>
    intro t s l z X m hI hs ht h8 hk hp hpos hm h1 h2 hz htake k hw hX hne
    have hd := hI.hd
    obtain ⟨a, ha⟩ : ∃ a, a = 8 - (d + 1) := ⟨_, rfl⟩
    have e8 : 8 - d = a + 1 := by omega
    have hkl : k < l.length := by
      rcases Nat.lt_or_ge k l.length with h | h
      · exact h
      · rw [leadTo_none h] at hX; exact absurd hX.symm hne
    obtain ⟨x, hx⟩ : ∃ x, l[k]? = some x := ⟨_, List.getElem?_eq_getElem hkl⟩
    have hv := ht k hkl
    have hI' := step_inv hI hv.1 hv.2
    have hsx := Sm.sizes_mem (List.mem_of_getElem? hx)
    have hbs := body_sizes x
    have hgb := Sm.sizes_ge x.body
    have hge := Sm.sizes_ge x.els
    obtain ⟨g1, g2, g3⟩ := loopE_at (rec := eachL d) t s a l 0 k x hx
    rw [Nat.zero_add] at g1 g2 g3
    rw [← ha] at hI' htake hw hX h1
    have h8s : s.way.length = 8 := hI.ok
    have htk := step_take (s := s) (a := a) (by omega) (t k)
    have hzt : z.way.take (a + 1) = (s.step a (t k)).way.take (a + 1) := by
      rw [htk, List.take_add_one, htake, hw]; rfl
    rw [eachL, ← ha]
    by_cases hma : m = a + 1
    · subst hma
      have hnil : (z.way.take (a + 1)).drop (a + 1) = [] := List.drop_eq_nil_of_le (by simp; omega)
      rw [hnil, leadTo] at hX
      have hze : z = s.step a (t k) := by
        have hway : z.way = (s.step a (t k)).way := by
          have q1 : z.way.drop (a + 1) = List.replicate (8 - (a + 1)) 0 := by
            have := zeros_of hz
            rwa [List.length_drop, h8] at this
          have q2 : (s.step a (t k)).way.drop (a + 1) = List.replicate (8 - (a + 1)) 0 := by
            have h := hI'.zero
            rw [e8] at h
            have := zeros_of h
            rwa [List.length_drop, hI'.ok] at this
          rw [← List.take_append_drop (a + 1) z.way, ← List.take_append_drop (a + 1) (s.step a (t k)).way, hzt, q1, q2]
        have hkd : z.kind = (s.step a (t k)).kind := by rw [hk]; exact hI.kind.symm
        have hpt : z.part = (s.step a (t k)).part := hp
        have hdp : z.deep = (s.step a (t k)).deep := by rw [hm]; rfl
        revert hway hkd hpt hdp
        generalize s.step a (t k) = y
        intro hway hkd hpt hdp
        obtain ⟨a1, a2, a3, a4⟩ := z
        obtain ⟨b1, b2, b3, b4⟩ := y
        simp only at hway hkd hpt hdp
        subst hway hkd hpt hdp
        rfl
      rw [hze, ← hX]
      exact g1
    · have hlt : a + 1 < (z.way.take m).length := by simp; omega
      obtain ⟨u, hu⟩ : ∃ u, u = (z.way.take m)[a + 1] := ⟨_, rfl⟩
      have huw : z.way[a + 1]? = some u := by
        rw [hu, List.getElem_take]
        exact List.getElem?_eq_getElem (by omega)
      have hu0 := hpos u (List.mem_of_getElem? huw)
      rw [List.drop_eq_getElem_cons hlt, ← hu, leadTo_some hx] at hX
      unfold Sm.sub at hX
      have hr := fun (t' : Nat → Int) (l' : List Sm) (hl' : Sm.sizes l' ≤ 1000) (ht' : ∀ k, k < l'.length → 0 ≤ t' k ∧ t' k ≤ 10000) (hu' : t' (u / 2).toNat = u) (hX' : leadTo l' (u / 2).toNat ((z.way.take m).drop (a + 1 + 1)) = X) =>
        ih t' (s.step a (t k)) l' z X m hI' hl' ht' h8 hk hp hpos hm (by omega) h2 hz (by rw [e8]; exact hzt) (u / 2).toNat (by rw [e8, huw, hu']) (by rw [e8]; exact hX') hne
      by_cases hodd : u % 2 = 1
      · rw [if_pos hodd] at hX
        exact g3 _ (hr odk x.els (by omega) (fun k hk => by unfold odk; omega) (by unfold odk; omega) hX)
      · rw [if_neg hodd] at hX
        exact g2 _ (hr evn x.body (by omega) (fun k hk => by unfold evn; omega) (by unfold evn; omega) hX)

/-- Each site that fits is told, if its kind is wanted. -/
theorem fits_told {p : Pg} (hp : p.size ≤ 1000) {kinds : Nat} {s : Si} (ok : s.ok) (h0 : 1 ≤ s.kind) (h1 : s.kind ≤ 8) (hf : fitsOf s.kind (leadOf p s) = true) (hb : kinds / 2 ^ (s.kind.toNat - 1) % 2 = 1) : s ∈ allSites p kinds := by
  have h8 : s.way.length = 8 := ok
  obtain ⟨X, hX⟩ : ∃ X, X = leadOf p s := ⟨_, rfl⟩
  rw [← hX] at hf
  have hne : X ≠ [] := by
    intro h
    rw [h] at hf
    simp [fitsOf] at hf
  unfold leadOf at hX
  split at hX
  · rename_i hc
    obtain ⟨c1, c2, c3⟩ := hc
    obtain ⟨d1, d8, hpos⟩ := may_all c3
    obtain ⟨m, hm⟩ : ∃ m : Nat, s.deep = m := ⟨s.deep.toNat, by omega⟩
    have hmt : s.deep.toNat = m := by omega
    obtain ⟨i, hi⟩ : ∃ i : Nat, s.part = i := ⟨s.part.toNat, by omega⟩
    have hit : s.part.toNat = i := by omega
    have hil : i < p.blocks.length := by omega
    have hzero : ∀ w ∈ s.way.drop m, w = 0 := by
      unfold Si.may at c3
      simp only [Bool.and_eq_true, decide_eq_true_eq, List.all_eq_true, hmt] at c3
      exact c3.2.2.2
    rw [hit, hmt] at hX
    obtain ⟨b, hbk⟩ : ∃ b, b = p.blocks.getD i [] := ⟨_, rfl⟩
    have hbs : Sm.sizes b ≤ 1000 := block_sizes hp (by
      rw [hbk, List.getD_eq_getElem?_getD, List.getElem?_eq_getElem hil]
      exact List.getElem_mem _)
    have hbl := Sm.sizes_ge b
    rw [← hbk] at hX
    have hu0 : 0 ≤ s.way.getD 0 0 := hpos _ (getD_mem (by omega))
    have hw0 : s.way[0]? = some (s.way.getD 0 0) := by
      rw [List.getD_eq_getElem?_getD, List.getElem?_eq_getElem (by omega)]; rfl
    have hmem : (s.withKind 0, X) ∈ waysOf p i := by
      unfold waysOf
      rw [← hbk]
      exact eachL_all 8 idk (site0 i) b (s.withKind 0) X m (site0_inv i) hbs (fun k hk => by unfold idk; omega) h8 rfl hi hpos hm (by omega) (by omega) hzero rfl (s.way.getD 0 0).toNat
        (by show s.way[0]? = _; rw [hw0]; congr 1; unfold idk; omega) hX.symm hne
    have hall : (s.withKind 0, X) ∈ wl p p.blocks.length := by
      simp only [wl, List.mem_flatten, List.mem_map, List.mem_range]
      exact ⟨_, ⟨i, hil, rfl⟩, hmem⟩
    simp only [allSites, outs, List.mem_flatten, List.mem_map]
    refine ⟨_, ⟨_, hall, rfl⟩, ?_⟩
    simp only [picks, List.mem_map]
    refine ⟨s.kind.toNat, (pk_mem _ _ _ _ _).2 ⟨by omega, by omega, ?_, by rw [Nat.sub_zero]; exact hb⟩, ?_⟩
    · rw [show ((s.kind.toNat : Nat) : Int) = s.kind by omega]; exact hf
    · show ({ s.withKind 0 with kind := ((s.kind.toNat : Nat) : Int) } : Si) = s
      rw [show ((s.kind.toNat : Nat) : Int) = s.kind by omega]
      rfl
  · exact absurd hX hne

end Go.AM.Spec

namespace Go.AM.Spec
set_option linter.unusedVariables false
set_option linter.unusedSimpArgs false
set_option maxHeartbeats 2000000
set_option maxRecDepth 10000

theorem fdup_loop (l : List Si) (hl : l.length ≤ 10000) (hok : ∀ s ∈ l, s.ok) (hnd : l.Nodup) (K : Heap) (n i : Nat) (x : Si) (hx : l[i]? = some x) (hK : K[n]? = some (some x.cells)) (v1 v3 v5 v8 : V) (h5 : v5.strip = v5) (call : CallF) (Q : Option (V × Heap) → Prop) (k : List Item)
    (hexit : ∀ φ', Fr.get φ' 1 = v1 → Fr.get φ' 3 = v3 → Fr.get φ' 5 = v5 → Fr.get φ' 7 = .sl 11 (l.map Si.cells) → Fr.get φ' 8 = v8 → Fr.get φ' 9 = iv i → Fr.get φ' 10 = .ptr n 0 → Q (M call k φ' K)) :
    ∀ (j m : Nat) (φ : Fr), m + j = i → Fr.get φ 1 = v1 → Fr.get φ 3 = v3 → Fr.get φ 5 = v5 → Fr.get φ 7 = .sl 11 (l.map Si.cells) → Fr.get φ 8 = v8 → Fr.get φ 9 = iv i → Fr.get φ 10 = .ptr n 0 → Fr.get φ 11 = iv m → Q (M call (.code l_flotsamlaw25_SiteFits_0 :: .blk 2 :: k) φ K) := by
  have hil : i < l.length := by
    rcases Nat.lt_or_ge i l.length with h | h
    · exact h
    · rw [List.getElem?_eq_none h] at hx; cases hx
  have hxe : l[i] = x := by rw [List.getElem?_eq_getElem hil] at hx; exact Option.some.inj hx
  have okx : x.ok := hok x (List.mem_of_getElem? hx)
  intro j
  induction j with
  | zero =>
    intro m φ hm p1 p3 p5 p7 p8 p9 p10 p11
    have hlt : ¬ (m : Int) < i := by omega
    have hlt' : ¬ m < i := by omega
    rw [l_flotsamlaw25_SiteFits_0, M_loop]
    simp [b_flotsamlaw25_SiteFits_0, p7, p9, p10, p11, hlt, hlt']
    exact hexit _ (by simp [p1]) (by simp [p3]) (by simp [p5]) (by simp [p7]) (by simp [p8]) (by simp [p9]) (by simp [p10])
  | succ j ih =>
    intro m φ hm p1 p3 p5 p7 p8 p9 p10 p11
    have hlt : m < l.length := by omega
    obtain ⟨y, hy⟩ : ∃ y, y = l[m] := ⟨_, rfl⟩
    have oky : y.ok := hok y (by rw [hy]; exact List.getElem_mem _)
    have hg : ∀ h : m < l.length, l[m] = y := fun h => hy.symm
    have hne : y ≠ x := by
      rw [hy, ← hxe]
      exact List.pairwise_iff_getElem.1 hnd m i hlt hil (by omega)
    have e1 : (m : Int) < i := by omega
    have e1' : m < i := by omega
    have e2 : IntKind.i64.wrap ((m : Int) + 1) = ((m + 1 : Nat) : Int) := by rw [w64] <;> omega
    have heq := Si.eqc oky okx
    rw [decide_eq_false hne] at heq
    have q1 := Si.len oky
    have q2 := Si.len okx
    have q3 := Si.strip (s := y)
    have q4 := Si.strip (s := x)
    have q5 := Si.take oky
    have q6 := Si.take okx
    rw [l_flotsamlaw25_SiteFits_0, M_loop, ← l_flotsamlaw25_SiteFits_0]
    simp [b_flotsamlaw25_SiteFits_0, p7, p9, p10, p11, hK, hlt, hg, e1, e1', e2, heq, q1, q2, q3, q4, q5, q6]
    refine ih (m + 1) _ (by omega) ?_ ?_ ?_ ?_ ?_ ?_ ?_ ?_ <;> simp [p1, p3, p5, p7, p8, p9, p10]

theorem ffit_loop (p : Pg) (hp : p.size ≤ 1000) (kinds : Nat) (hkd : kinds < 65536) (s : Si) (oks : s.ok) (l : List Si) (hle : l = allSites p kinds) (Q : Option (V × Heap) → Prop) (k : List Item)
    (hexit : ∀ φ' G, Fr.get φ' 1 = .int .u16 kinds → Fr.get φ' 3 = .ptr 0 0 → Fr.get φ' 5 = .ptr 1 0 → Fr.get φ' 8 = .bool (decide (s ∈ l)) → Q (M (eval tbl noExt) k φ' (some p.cells :: some s.cells :: G))) :
    ∀ (j i : Nat) (φ : Fr) (G : Heap), i + j = l.length → Fr.get φ 1 = .int .u16 kinds → Fr.get φ 3 = .ptr 0 0 → Fr.get φ 5 = .ptr 1 0 → Fr.get φ 7 = .sl 11 (l.map Si.cells) → Fr.get φ 8 = .bool (decide (s ∈ l.take i)) → Fr.get φ 9 = iv i →
      Q (M (eval tbl noExt) (.code l_flotsamlaw25_SiteFits_1 :: .blk 0 :: k) φ (some p.cells :: some s.cells :: G)) := by
  have hlen : l.length ≤ 8000 := by rw [hle]; exact allSites_len' hp kinds
  have hnd : l.Nodup := by rw [hle]; exact allSites_nodup hp kinds
  have hall : ∀ x ∈ l, x.ok ∧ x.fit ∧ 1 ≤ x.kind ∧ x.kind ≤ 8 ∧ fitsOf x.kind (leadOf p x) = true ∧ kinds / 2 ^ (x.kind.toNat - 1) % 2 = 1 := fun x hx => told_fits hp (by rw [← hle]; exact hx)
  have hcp : p.cells.length = 4 := rfl
  have hcpt : p.cells.take 4 = p.cells := rfl
  have hcps : p.cells.map V.strip = p.cells := rfl
  have hcpu : ∀ n, V.underAll n p.cells = true := fun n => rfl
  have s1 := Si.len oks
  have s2 := Si.strip (s := s)
  have s3 := Si.take oks
  intro j
  induction j with
  | zero =>
    intro i φ G hi p1 p3 p5 p7 p8 p9
    have hlt : ¬ (i : Int) < l.length := by omega
    have hlt' : ¬ i < l.length := by omega
    rw [List.take_of_length_le (by omega)] at p8
    rw [l_flotsamlaw25_SiteFits_1, M_loop]
    simp [b_flotsamlaw25_SiteFits_1, p1, p3, p5, p7, p8, p9, hlt, hlt']
    exact hexit _ _ (by simp [p1]) (by simp [p3]) (by simp [p5]) (by simp [p8])
  | succ j ih =>
    intro i φ G hi p1 p3 p5 p7 p8 p9
    have hlt : i < l.length := by omega
    obtain ⟨x, hx⟩ : ∃ x, x = l[i] := ⟨_, rfl⟩
    have hx' : l[i]? = some x := by rw [hx]; exact List.getElem?_eq_getElem hlt
    obtain ⟨okx, fitx, k0, k1, hfx, hbit⟩ := hall x (List.mem_of_getElem? hx')
    have hg : ∀ h : i < l.length, l[i] = x := fun h => hx.symm
    have e1 : (i : Int) < l.length := by omega
    have e2 : IntKind.i64.wrap ((i : Int) + 1) = ((i + 1 : Nat) : Int) := by rw [w64] <;> omega
    have hF := Fits_eq p hp x fitx
    rw [hfx] at hF
    obtain ⟨I, hI⟩ : ∃ I, I = x.kind := ⟨_, rfl⟩
    rw [← hI] at k0 k1 hbit
    obtain ⟨m, hm⟩ : ∃ m, m = I.toNat - 1 := ⟨_, rfl⟩
    rw [← hm] at hbit
    have t7 : x.cells[0]? = some (iv I) := by rw [hI]; exact Si.c0
    have t8 : ∀ h : 0 < x.cells.length, x.cells[0] = iv I := fun h => by rw [hI]; rfl
    have f0 : ¬ I < 1 := by omega
    have f1 : ¬ 8 < I := by omega
    have f2 : IntKind.i64.wrap (I - 1) = (m : Int) := by rw [w64] <;> omega
    have h16 : IntKind.u16.bits = 16 := by decide
    have f3 : min m IntKind.u16.bits = m := Nat.min_eq_left (by omega)
    have f4 : ¬ (m : Int) < 0 := by omega
    obtain ⟨B, hB⟩ : ∃ B, B = kinds / 2 ^ m := ⟨_, rfl⟩
    have f5 : ((kinds : Int)).fdiv (2 ^ m) = (B : Int) := by
      rw [Int.fdiv_eq_ediv_of_nonneg _ (Int.pow_nonneg (by omega)), hB]
      simp
    have hB1 : B < 65536 := by rw [hB]; exact Nat.lt_of_le_of_lt (Nat.div_le_self _ _) hkd
    have f6 := bit16_and hB1
    rw [← hB] at hbit
    rw [hbit] at f6
    obtain ⟨BI, hBI⟩ : ∃ BI : Int, BI = (B : Int) := ⟨_, rfl⟩
    rw [← hBI] at f5 f6
    have t1 := Si.len okx
    have t2 := Si.strip (s := x)
    have t3 := fun n => Si.under (s := x) n
    have t4 := Si.one (s := x)
    have t5 := h11 x okx
    have t6 := Si.take okx
    have gn : ∀ (a b y : Option (List V)) (R : Heap), (a :: b :: (G ++ y :: R))[G.length + 1 + 1]? = some y := fun a b y R => by
      rw [List.getElem?_cons_succ, List.getElem?_cons_succ, List.getElem?_append_right (Nat.le_refl _)]; simp
    have gn' : ∀ (y : Option (List V)) (R : Heap), (G ++ y :: R)[G.length]? = some y := fun y R => by
      rw [List.getElem?_append_right (Nat.le_refl _)]; simp
    have gm' : ∀ (y z : Option (List V)), (G ++ [y, z])[G.length + 1]? = some z := fun y z => by
      rw [List.getElem?_append_right (by omega)]; simp
    have sn' : ∀ (y z : Option (List V)), (G ++ [y]).set G.length z = G ++ [z] := fun y z => by
      rw [List.set_append_right _ _ (Nat.le_refl _)]; simp
    have sm' : ∀ (y z u : Option (List V)), (G ++ [y, z]).set (G.length + 1) u = G ++ [y, u] := fun y z u => by
      rw [List.set_append_right _ _ (by omega)]; simp
    have hN := fun K => Name_eq x okx K
    have heqs := Si.eqc okx oks
    have heqx := Si.eqc okx okx
    rw [decide_eq_true rfl] at heqx
    have hnext : decide (s ∈ l.take (i + 1)) = (decide (s ∈ l.take i) || decide (x = s)) := by
      rw [List.take_add_one, hx']
      have : (x = s) = (s = x) := propext ⟨Eq.symm, Eq.symm⟩
      simp [this]
    rw [l_flotsamlaw25_SiteFits_1, M_loop, ← l_flotsamlaw25_SiteFits_1]
    simp [b_flotsamlaw25_SiteFits_1, p1, p3, p5, p7, p8, p9, hcp, hcpt, hcps, hcpu, hlt, hg, e1, gn, gn', sn', t1, t2, t3, t4, t5, t6, t7, t8, f0, f1, f2, f3, f4, f5, f6, hF]
    refine fdup_loop l (by omega) (fun x hx => (hall x hx).1) hnd (some p.cells :: some s.cells :: (G ++ [some x.cells])) (G.length + 1 + 1) i x hx' (gn _ _ _ _) (.int .u16 kinds) (.ptr 0 0) (.ptr 1 0) (.bool (decide (s ∈ l.take i))) rfl _ Q _ ?_ i 0 _ (by omega) ?_ ?_ ?_ ?_ ?_ ?_ ?_ ?_
    · intro φ' r1 r3 r5 r7 r8 r9 r10
      cases hnm : x.name.2 with
      | false =>
        rw [hnm] at hN
        cases hb : decide (s ∈ l.take i) with
        | true =>
          rw [hb] at r8 hnext
          simp [r_flotsamlaw25_SiteFits_0, r_flotsamlaw25_SiteFits_1, r1, r3, r5, r7, r8, r9, r10, gn, gn', t1, t2, t3, t4, t5, t6, s1, s2, s3, hN, heqs, e2]
          refine ih (i + 1) _ _ (by omega) ?_ ?_ ?_ ?_ ?_ ?_ <;> simp [r1, r3, r5, r7, hnext]
        | false =>
          rw [hb] at r8 hnext
          simp [r_flotsamlaw25_SiteFits_0, r_flotsamlaw25_SiteFits_1, r1, r3, r5, r7, r8, r9, r10, gn, gn', t1, t2, t3, t4, t5, t6, s1, s2, s3, hN, heqs, e2]
          refine ih (i + 1) _ _ (by omega) ?_ ?_ ?_ ?_ ?_ ?_ <;> simp [r1, r3, r5, r7, hnext]
      | true =>
        have hR := fun K => Read_eq x.name.1 (name_len hnm) K
        rw [read_name okx hnm] at hR
        rw [hnm] at hN
        cases hb : decide (s ∈ l.take i) with
        | true =>
          rw [hb] at r8 hnext
          simp [r_flotsamlaw25_SiteFits_0, r_flotsamlaw25_SiteFits_1, r1, r3, r5, r7, r8, r9, r10, gn, gn', gm', sn', sm', t1, t2, t3, t4, t5, t6, s1, s2, s3, hN, hR, heqs, heqx, e2]
          refine ih (i + 1) _ _ (by omega) ?_ ?_ ?_ ?_ ?_ ?_ <;> simp [r1, r3, r5, r7, hnext]
        | false =>
          rw [hb] at r8 hnext
          simp [r_flotsamlaw25_SiteFits_0, r_flotsamlaw25_SiteFits_1, r1, r3, r5, r7, r8, r9, r10, gn, gn', gm', sn', sm', t1, t2, t3, t4, t5, t6, s1, s2, s3, hN, hR, heqs, heqx, e2]
          refine ih (i + 1) _ _ (by omega) ?_ ?_ ?_ ?_ ?_ ?_ <;> simp [r1, r3, r5, r7, hnext]
    all_goals simp [p1, p3, p5, p7, p8, p9]

end Go.AM.Spec

namespace Go.AM.Spec
set_option linter.unusedVariables false
set_option linter.unusedSimpArgs false
set_option maxHeartbeats 2000000
set_option maxRecDepth 10000

theorem knowsF : eval tbl noExt n_flotsamlaw25_knows [] [] = some (.bool true, []) := (eval_iff _ _ _ _ _ _).2 ⟨400, by kernel_rfl⟩

theorem fits_low (X : List Sm) (k : Int) (h : k < 1) : fitsOf k X = false := by
  cases X with
  | nil => rfl
  | cons x r => rw [fitsOf_cons, if_neg (by omega), if_neg (by omega), if_neg (by omega), if_neg (by omega), if_neg (by omega), if_neg (by omega), if_neg (by omega), if_neg (by omega)]

theorem SiteFits_eq (p : Pg) (kinds : Nat) (hkd : kinds < 65536) (s : Si) (hf : s.fit) : ∃ H', eval tbl noExt n_flotsamlaw25_SiteFits [.agg p.cells, .int .u16 kinds, .agg s.cells] [] = some (.bool true, H') := by
  refine ⟨[], ?_⟩
  have hk := knowsF
  obtain ⟨b, hb, hsm⟩ := Small_eq p
  have hcp : p.cells.length = 4 := rfl
  have hcpt : p.cells.take 4 = p.cells := rfl
  have hcps : p.cells.map V.strip = p.cells := rfl
  have hcpu : ∀ n, V.underAll n p.cells = true := fun n => rfl
  have ok := hf.1
  have q1 := Si.len ok
  have q3 := Si.strip (s := s)
  have q5 := Si.take ok
  have qu := fun n => Si.under (s := s) n
  rw [eval_M rfl rfl t_flotsamlaw25_SiteFits rfl]
  cases b with
  | false =>
    simp [c_flotsamlaw25_SiteFits, hcp, hcpt, hcps, hcpu, hb, hk]
  | true =>
    have hp : p.size ≤ 1000 := by have := (hsm rfl).1; omega
    have hfine : p.Fine := ⟨by have := (hsm rfl).1; omega, (hsm rfl).2⟩
    have hR := Right_eq p hfine []
    have hS := Sites_eq p hp kinds hkd
    have hF := Fits_eq p hp s hf
    obtain ⟨I, hI⟩ : ∃ I, I = s.kind := ⟨_, rfl⟩
    have t7 : s.cells[0]? = some (iv I) := by rw [hI]; exact Si.c0
    have t8 : ∀ h : 0 < s.cells.length, s.cells[0] = iv I := fun h => by rw [hI]; rfl
    rw [← hI] at hF
    simp [c_flotsamlaw25_SiteFits, hcp, hcpt, hcps, hcpu, hb, hk, hS]
    refine ffit_loop p hp kinds hkd s ok (allSites p kinds) rfl (fun r => r = some (.bool true, [])) _ ?_ (allSites p kinds).length 0 _ [] (by omega) ?_ ?_ ?_ ?_ ?_ ?_
    · intro φ' G p1 p3 p5 p8
      cases hd : decide (s ∈ allSites p kinds) with
      | true =>
        rw [hd] at p8
        simp [r_flotsamlaw25_SiteFits_2, p8]
      | false =>
        rw [hd] at p8
        have hno : s ∉ allSites p kinds := by simpa using hd
        by_cases k0 : I < 1
        · rw [fits_low _ _ k0] at hF
          simp [r_flotsamlaw25_SiteFits_2, p1, p3, p5, p8, t7, t8, k0, q1, q3, q5, qu, hcp, hcpt, hcps, hcpu, hF]
        · by_cases k1 : 8 < I
          · rw [fits_big _ _ k1] at hF
            simp [r_flotsamlaw25_SiteFits_2, p1, p3, p5, p8, t7, t8, k0, k1, q1, q3, q5, qu, hcp, hcpt, hcps, hcpu, hF]
          · cases hok : p.ok with
            | false =>
              rw [hok] at hR
              simp [r_flotsamlaw25_SiteFits_2, p1, p3, p5, p8, t7, t8, k0, k1, q1, q3, q5, qu, hcp, hcpt, hcps, hcpu, hF, hR]
            | true =>
              rw [hok] at hR
              cases hfx : fitsOf I (leadOf p s) with
              | false =>
                rw [hfx] at hF
                simp [r_flotsamlaw25_SiteFits_2, p1, p3, p5, p8, t7, t8, k0, k1, q1, q3, q5, qu, hcp, hcpt, hcps, hcpu, hF, hR]
              | true =>
                rw [hfx] at hF
                obtain ⟨m, hm⟩ : ∃ m, m = I.toNat - 1 := ⟨_, rfl⟩
                have f2 : IntKind.i64.wrap (I - 1) = (m : Int) := by rw [w64] <;> omega
                have h16 : IntKind.u16.bits = 16 := by decide
                have f3 : min m IntKind.u16.bits = m := Nat.min_eq_left (by omega)
                have f4 : ¬ (m : Int) < 0 := by omega
                obtain ⟨B, hB⟩ : ∃ B, B = kinds / 2 ^ m := ⟨_, rfl⟩
                have f5 : ((kinds : Int)).fdiv (2 ^ m) = (B : Int) := by
                  rw [Int.fdiv_eq_ediv_of_nonneg _ (Int.pow_nonneg (by omega)), hB]
                  simp
                have hB1 : B < 65536 := by rw [hB]; exact Nat.lt_of_le_of_lt (Nat.div_le_self _ _) hkd
                have hbit : B % 2 = 0 := by
                  rcases Nat.mod_two_eq_zero_or_one B with h | h
                  · exact h
                  · refine absurd (fits_told hp ok (by omega) (by omega) (by rw [← hI]; exact hfx) ?_) hno
                    rw [← hI, ← hm, ← hB]; exact h
                have f6 := bit16_and hB1
                rw [hbit] at f6
                obtain ⟨BI, hBI⟩ : ∃ BI : Int, BI = (B : Int) := ⟨_, rfl⟩
                rw [← hBI] at f5 f6
                simp [r_flotsamlaw25_SiteFits_2, p1, p3, p5, p8, t7, t8, k0, k1, q1, q3, q5, qu, hcp, hcpt, hcps, hcpu, hF, hR, f2, f3, f4, f5, f6]
    all_goals simp

theorem SiteFits_all (p : Pg) (_ : p.fit) (a : Int) (w : (Lit.int .u16 a).wf = true) (s : Si) (hf : s.fit) : ∃ H', eval tbl noExt n_flotsamlaw25_SiteFits [.agg p.cells, .int .u16 a, .agg s.cells] [] = some (.bool true, H') := by
  simp [Lit.wf] at w
  have hm : IntKind.u16.min = 0 := by decide
  have hx : IntKind.u16.max = 65535 := by decide
  rw [hm, hx] at w
  have e : a = ((a.toNat : Nat) : Int) := by omega
  rw [e]
  exact SiteFits_eq p a.toNat (by omega) s hf

end Go.AM.Spec
