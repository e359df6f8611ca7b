/-
  The parts of this proof that speak of the functions one by one.
-/
import Derived.Test.YtjikegkjngamgaaDoorSpc
namespace Go.AM.Spec
set_option linter.unusedVariables false
set_option linter.unusedSimpArgs false

/-- The value of a text behind n, as the code counts it. -/
def val (n : Int) : List UInt8 → Option Int
  | [] => some n
  | c :: cs => if c.toNat < 48 ∨ 57 < c.toNat then none else val (IntKind.i64.wrap (IntKind.i64.wrap (n * 10) + (c.toNat - 48))) cs

@[simp] theorem bytesRows_length (s : List UInt8) : (bytesRows s).length = s.length := by simp [bytesRows]
@[simp] theorem bytesRows_get (s : List UInt8) (i : Nat) : (bytesRows s)[i]? = (s[i]?).map fun b => [V.int .u8 b.toNat] := by simp [bytesRows]

@[simp] theorem bytesRows_getElem (s : List UInt8) (i : Nat) (h : i < (bytesRows s).length) : (bytesRows s)[i] = [V.int .u8 (s[i]'(by simpa using h)).toNat] := by simp [bytesRows]

theorem byte_lt (c : UInt8) : c.toNat < 256 := UInt8.toNat_lt c

/-- What Read answers. -/
def readR (s : List UInt8) : Int × Bool :=
  if s = [] ∨ 13 < s.length ∨ s[0]? = some 48 ∧ s ≠ [48] then (0, false)
  else match val 0 s with
    | none => (0, false)
    | some v => if 1000000000000 < v then (0, false) else (v, true)

end Go.AM.Spec

namespace Go.AM.Spec
set_option linter.unusedVariables false
set_option linter.unusedSimpArgs false

set_option maxHeartbeats 400000
variable (H : Heap) (call : CallF) (R : Option (V × Heap))

theorem read_loop (s : List UInt8) (hs : s.length < 100000) (k : List Item)
    (X : Option Int) (hsome : ∀ v φ', X = some v → Fr.get φ' 4 = .int .i64 v → M call k φ' H = R) (hnone : ∀ φ', X = none → Fr.get φ' 2 = .int .i64 0 → Fr.get φ' 3 = .bool false → retK k φ' H = R) :
    ∀ (j i : Nat) (n : Int) (φ : Fr), i + j = s.length → val n (s.drop i) = X → Fr.get φ 4 = .int .i64 n → Fr.get φ 25 = .own 1 (bytesRows s) → Fr.get φ 26 = .int .i64 s.length → Fr.get φ 27 = .int .i64 i →
    M call (.code l_num_Read_0 :: .blk 0 :: k) φ H = R := by
  intro j
  induction j with
  | zero =>
    intro i n φ hj hv h4 h25 h26 h27
    have hi : ¬ ((i : Int) < s.length) := by omega
    rw [List.drop_eq_nil_of_le (by omega)] at hv
    rw [l_num_Read_0, M_loop]
    simp [b_num_Read_0, h4, h25, h26, h27, hi]
    exact hsome n _ hv.symm (by simp)
  | succ j ih =>
    intro i n φ hj hv h4 h25 h26 h27
    have hi : (i : Int) < s.length := by omega
    have hi' : i < s.length := by omega
    rw [List.drop_eq_getElem_cons hi'] at hv
    have hb := byte_lt s[i]
    have h1 : IntKind.i64.wrap (s[i].toNat : Int) = s[i].toNat := w64 (by omega) (by omega)
    have h2 : IntKind.i64.wrap ((s[i].toNat : Int) - 48) = s[i].toNat - 48 := w64 (by omega) (by omega)
    have h3 : IntKind.i64.wrap ((i : Int) + 1) = (i + 1 : Nat) := by rw [w64] <;> omega
    rw [l_num_Read_0, M_loop, ← l_num_Read_0]
    unfold val at hv
    by_cases hc : s[i].toNat < 48
    · have hc' : (s[i].toNat : Int) - 48 < 0 := by omega
      rw [if_pos (by omega)] at hv
      simp [b_num_Read_0, h4, h25, h26, h27, hi, hi', h1, h2, h3, hc']
      refine hnone _ hv.symm ?_ ?_ <;> simp
    · have hc1' : ¬ (s[i].toNat : Int) - 48 < 0 := by omega
      by_cases hc2 : 57 < s[i].toNat
      · have hc2' : 9 < (s[i].toNat : Int) - 48 := by omega
        rw [if_pos (by omega)] at hv
        simp [b_num_Read_0, h4, h25, h26, h27, hi, hi', h1, h2, h3, hc1', hc2']
        refine hnone _ hv.symm ?_ ?_ <;> simp
      · have hc2' : ¬ 9 < (s[i].toNat : Int) - 48 := by omega
        rw [if_neg (by omega)] at hv
        simp [b_num_Read_0, h4, h25, h26, h27, hi, hi', h1, h2, h3, hc1', hc2']
        refine ih (i + 1) _ _ (by omega) hv ?_ ?_ ?_ ?_ <;> simp

theorem read_eq (s : List UInt8) : eval tbl noExt n_num_Read [.str s] H = some (.tup [.int .i64 (readR s).1, .bool (readR s).2], H) := by
  rw [eval_M rfl rfl t_num_Read rfl]
  unfold readR
  by_cases h0 : s = []
  · simp [c_num_Read, h0]
  · by_cases h1 : 13 < s.length
    · have h1' : (13 : Int) < s.length := by omega
      simp [c_num_Read, h0, h1, h1']
    · have h1' : ¬ (13 : Int) < s.length := by omega
      have hp : 0 < s.length := by
        cases s with
        | nil => exact (h0 rfl).elim
        | cons c cs => simp
      have hg : s[0]? = some s[0] := List.getElem?_eq_getElem hp
      have hl : ((s[0].toNat : Int) = 48) ↔ s[0] = 48 := by
        constructor
        · intro h
          apply UInt8.toNat_inj.1
          have : s[0].toNat = 48 := by omega
          rw [this]; rfl
        · intro h; rw [h]; rfl
      have last : ∀ φ k, k = [Item.code r_num_Read_0, Item.fin [ARes.t 2, ARes.t 3] (List.length H)] → Fr.get φ 4 = .int .i64 0 → Fr.get φ 25 = .own 1 (bytesRows s) → Fr.get φ 26 = .int .i64 s.length → Fr.get φ 27 = .int .i64 0 → 
        M (eval tbl noExt) (.code l_num_Read_0 :: .blk 0 :: k) φ H = some (.tup [.int .i64 (match val 0 s with
          | none => (0, false)
          | some v => if 1000000000000 < v then (0, false) else (v, true)).1, .bool (match val 0 s with
          | none => (0, false)
          | some v => if 1000000000000 < v then (0, false) else (v, true)).2], H) := by
        intro φ k hk h4 h25 h26 h27
        refine read_loop H _ _ s (by omega) _ (val 0 s) ?_ ?_ s.length 0 0 _ (by omega) rfl h4 h25 h26 h27
        · intro v φ' hv h4
          rw [hk, hv]
          by_cases hm : 1000000000000 < v <;> simp [r_num_Read_0, h4, hm]
        · intro φ' hv h2 h3
          rw [hk, hv]
          simp [h2, h3]
      by_cases h2 : s[0] = 48
      · by_cases h3 : s = [48]
        · subst h3
          simp [c_num_Read]
          refine last _ _ rfl ?_ ?_ ?_ ?_ <;> simp
        · simp [c_num_Read, h0, h1, h1', h2, h3, hp, hg, hl]
      · simp [c_num_Read, h0, h1, h1', h2, hp, hg, hl]
        refine last _ _ rfl ?_ ?_ ?_ ?_ <;> simp

end Go.AM.Spec

namespace Go.AM.Spec
set_option linter.unusedVariables false
set_option linter.unusedSimpArgs false

def dig (u : Nat) : UInt8 := UInt8.ofNat (48 + u % 10)

def digs : Nat → Nat → List UInt8 → List UInt8
  | 0, _, acc => acc
  | k + 1, u, acc => if u / 10 = 0 then dig u :: acc else digs k (u / 10) (dig u :: acc)

def byteVs (txt : List UInt8) : List V := txt.map fun c => .int .u8 c.toNat

def cells20 (txt : List UInt8) : List V := List.replicate (20 - txt.length) (.int .u8 0) ++ byteVs txt

theorem cells20_length {txt : List UInt8} (h : txt.length ≤ 20) : (cells20 txt).length = 20 := by simp [cells20, byteVs]; omega

theorem cells20_set {txt : List UInt8} (h : txt.length < 20) (c : UInt8) : (cells20 txt).set (19 - txt.length) (.int .u8 c.toNat) = cells20 (c :: txt) := by
  unfold cells20
  obtain ⟨m, hm⟩ : ∃ m, 20 - txt.length = m + 1 := ⟨19 - txt.length, by omega⟩
  have h1 : 19 - txt.length = m := by omega
  have h2 : 20 - (c :: txt).length = m := by simp; omega
  rw [hm, h1, h2, List.replicate_succ', List.append_assoc, List.set_append_right _ _ (by simp)]
  simp [byteVs]

theorem digs_length (k u : Nat) (acc : List UInt8) : (digs k u acc).length ≤ k + acc.length := by
  induction k generalizing u acc with
  | zero => simp [digs]
  | succ k ih =>
    unfold digs
    split
    · simp; omega
    · have := ih (u / 10) (dig u :: acc)
      simp at this; omega

theorem digit_u8 (u : Nat) : IntKind.u8.wrap (IntKind.u64.wrap (48 + (u : Int) % 10)) = (dig u).toNat := by
  unfold dig
  rw [IntKind.wrap_u64, IntKind.wrap_u8]
  have : (UInt8.ofNat (48 + u % 10)).toNat = 48 + u % 10 := by
    rw [UInt8.toNat_ofNat']; omega
  rw [this]; omega

set_option maxHeartbeats 400000
variable (H : Heap) (call : CallF) (R : Option (V × Heap))

theorem digits_loop (n : Int) (k : List Item) (X : List UInt8) (hk : ∀ φ', Fr.get φ' 0 = .int .i64 n → Fr.get φ' 3 = .ptr H.length 0 → Fr.get φ' 4 = .int .i64 (20 - X.length : Nat) → M call k φ' (H ++ [some (cells20 X)]) = R) :
    ∀ (j u : Nat) (txt : List UInt8) (φ : Fr), u < 10 ^ (j + 1) → u < 18446744073709551616 → txt.length + j + 1 ≤ 20 → digs (j + 1) u txt = X → Fr.get φ 0 = .int .i64 n → Fr.get φ 3 = .ptr H.length 0 → Fr.get φ 4 = .int .i64 (20 - txt.length : Nat) → Fr.get φ 5 = .int .u64 u →
    M call (.code l_num_Digits_0 :: .blk 0 :: k) φ (H ++ [some (cells20 txt)]) = R := by
  intro j
  induction j with
  | zero =>
    intro u txt φ hu hu2 ht hX h0 h3 h4 h5
    have e1 : (u : Int).tmod 10 = (u : Int) % 10 := by rw [Int.tmod_eq_emod_of_nonneg (by omega)]
    have e0 : IntKind.u64.wrap 0 = 0 := by rw [IntKind.wrap_u64]; rfl
    have e2 : IntKind.u64.wrap ((u : Int) / 10) = (u : Int) / 10 := by rw [IntKind.wrap_u64]; omega
    have e3 : IntKind.i64.wrap (((20 - txt.length : Nat) : Int) - 1) = (19 - txt.length : Nat) := by rw [w64] <;> omega
    have e4 : ((19 - txt.length : Nat) : Int) < 20 := by omega
    have e5 : (u : Int) / 10 = 0 := by omega
    have hl := cells20_length (txt := txt) (by omega)
    have e6 : 19 - txt.length + 1 ≤ 20 := by omega
    have e7 := cells20_set (txt := txt) (by omega)
    unfold digs at hX
    rw [if_pos (by omega)] at hX
    rw [l_num_Digits_0, M_loop, ← l_num_Digits_0]
    simp [b_num_Digits_0, h0, h3, h4, h5, e0, e1, e2, e3, e4, e5, e6, e7, hl, digit_u8, V.cells, V.one, setMany, hX]
    refine hk _ ?_ ?_ ?_ <;> simp [← hX] <;> omega
  | succ j ih =>
    intro u txt φ hu hu2 ht hX h0 h3 h4 h5
    have e1 : (u : Int).tmod 10 = (u : Int) % 10 := by rw [Int.tmod_eq_emod_of_nonneg (by omega)]
    have e0 : IntKind.u64.wrap 0 = 0 := by rw [IntKind.wrap_u64]; rfl
    have e2 : IntKind.u64.wrap ((u : Int) / 10) = (u : Int) / 10 := by rw [IntKind.wrap_u64]; omega
    have e3 : IntKind.i64.wrap (((20 - txt.length : Nat) : Int) - 1) = (19 - txt.length : Nat) := by rw [w64] <;> omega
    have e4 : ((19 - txt.length : Nat) : Int) < 20 := by omega
    have hl := cells20_length (txt := txt) (by omega)
    have e6 : 19 - txt.length + 1 ≤ 20 := by omega
    have e7 := cells20_set (txt := txt) (by omega)
    unfold digs at hX
    rw [l_num_Digits_0, M_loop, ← l_num_Digits_0]
    by_cases hq : u / 10 = 0
    · have e5 : (u : Int) / 10 = 0 := by omega
      rw [if_pos hq] at hX
      simp [b_num_Digits_0, h0, h3, h4, h5, e0, e1, e2, e3, e4, e5, e6, e7, hl, digit_u8, V.cells, V.one, setMany, hX]
      refine hk _ ?_ ?_ ?_ <;> simp [← hX] <;> omega
    · have e5 : ¬ (u : Int) / 10 = 0 := by omega
      rw [if_neg hq] at hX
      simp [b_num_Digits_0, h0, h3, h4, h5, e0, e1, e2, e3, e4, e5, e6, e7, hl, digit_u8, V.cells, V.one, setMany]
      refine ih (u / 10) (dig u :: txt) _ ?_ ?_ ?_ hX ?_ ?_ ?_ ?_ <;> first | omega | (simp; done) | (simp; omega)

theorem chunk_bytes (pre : List V) (X : List UInt8) : rowsBytes (chunk 1 (pre ++ byteVs X) pre.length X.length) = some X := by
  induction X generalizing pre with
  | nil => rfl
  | cons c X ih =>
    have h1 := ih (pre ++ [.int .u8 c.toNat])
    have h2 : pre ++ byteVs (c :: X) = (pre ++ [V.int .u8 c.toNat]) ++ byteVs X := by simp [byteVs]
    have hc := byte_lt c
    rw [List.length_cons, chunk, h2]
    have h3 : (((pre ++ [V.int .u8 c.toNat]) ++ byteVs X).drop pre.length).take 1 = [V.int .u8 c.toNat] := by simp
    rw [h3]
    simp only [List.length_append, List.length_singleton] at h1
    unfold rowsBytes
    rw [if_pos (by omega), h1]
    simp

theorem cells20_bytes (X : List UInt8) : rowsBytes (chunk 1 ((cells20 X).map V.strip) (20 - X.length) X.length) = some X := by
  have h : (cells20 X).map V.strip = List.replicate (20 - X.length) (V.int .u8 0) ++ byteVs X := by
    simp [cells20, byteVs, V.strip, Function.comp_def]
  have := chunk_bytes (List.replicate (20 - X.length) (V.int .u8 0)) X
  rw [List.length_replicate] at this
  rw [h, this]

theorem digs_pos (k u : Nat) (acc : List UInt8) : acc.length < (digs (k + 1) u acc).length := by
  induction k generalizing u acc with
  | zero => unfold digs; split <;> simp [digs]
  | succ k ih =>
    unfold digs
    split
    · simp
    · have := ih (u / 10) (dig u :: acc)
      simp at this; omega

/-- A number as a text. -/
def text (n : Int) : List UInt8 := if n < 0 then 45 :: digs 19 (-n).toNat [] else digs 19 n.toNat []

theorem digits_eq (n : Int) (h1 : -9223372036854775808 ≤ n) (h2 : n ≤ 9223372036854775807) : eval tbl noExt n_num_Digits [.int .i64 n] H = some (.str (text n), H) := by
  rw [eval_M rfl rfl t_num_Digits rfl]
  unfold text
  by_cases hn : n < 0
  · obtain ⟨X, hX⟩ : ∃ X, X = digs 19 (-n).toNat [] := ⟨_, rfl⟩
    have hl := digs_length 19 (-n).toNat []
    have hp := digs_pos 18 (-n).toNat []
    rw [← hX] at hl hp ⊢
    have e1 : IntKind.u64.wrap (-IntKind.u64.wrap n) = ((-n).toNat : Int) := by rw [IntKind.wrap_u64, IntKind.wrap_u64]; omega
    simp at hl hp
    simp [c_num_Digits, hn, e1]
    refine digits_loop H _ _ n _ X ?_ 18 (-n).toNat [] _ (by omega) (by omega) (by simp) hX.symm ?_ ?_ ?_ ?_
    · intro φ' h0 h3 h4
      have e3 : IntKind.i64.wrap (((20 - X.length : Nat) : Int) - 1) = (19 - X.length : Nat) := by rw [w64] <;> omega
      have e4 : ((19 - X.length : Nat) : Int) < 20 := by omega
      have e5 : ((19 - X.length : Nat) : Int) ≤ 20 := by omega
      have e6 : 19 - X.length + 1 ≤ 20 := by omega
      have e7 := cells20_set (txt := X) (by omega) 45
      have e8 : ¬ 20 = 19 - X.length := by omega
      have e9 := cells20_length (txt := 45 :: X) (by simp; omega)
      have e10 : 19 - X.length + (20 - (19 - X.length)) ≤ 20 := by omega
      have e11 := cells20_bytes (45 :: X)
      have e12 : 20 - (45 :: X).length = 19 - X.length := by rw [List.length_cons]; omega
      have e13 : (45 :: X).length = 20 - (19 - X.length) := by rw [List.length_cons]; omega
      rw [e12, e13] at e11
      have hl' := cells20_length (txt := X) (by omega)
      have e7' : (cells20 X).set (19 - X.length) (V.int IntKind.u8 45) = cells20 (45 :: X) := e7
      simp [r_num_Digits_0, h0, h3, h4, hn, e3, e4, e5, e6, e7', e8, e9, e10, hl', V.cells, V.one, setMany, rowsOf, e11]
    · simp
    · simp
    · simp
    · simp
  · obtain ⟨X, hX⟩ : ∃ X, X = digs 19 n.toNat [] := ⟨_, rfl⟩
    have hl := digs_length 19 n.toNat []
    have hp := digs_pos 18 n.toNat []
    rw [← hX] at hl hp ⊢
    have e1 : IntKind.u64.wrap n = (n.toNat : Int) := by rw [IntKind.wrap_u64]; omega
    simp at hl hp
    simp [c_num_Digits, hn, e1]
    refine digits_loop H _ _ n _ X ?_ 18 n.toNat [] _ (by omega) (by omega) (by simp) hX.symm ?_ ?_ ?_ ?_
    · intro φ' h0 h3 h4
      have e5 : ((20 - X.length : Nat) : Int) ≤ 20 := by omega
      have e8 : ¬ 20 = 20 - X.length := by omega
      have e9 := cells20_length (txt := X) (by omega)
      have e10 : 20 - X.length + X.length ≤ 20 := by omega
      have e11 := cells20_bytes X
      have e13 : X.length = 20 - (20 - X.length) := by omega
      have e14 : 20 - (20 - X.length) = X.length := by omega
      simp [r_num_Digits_0, h0, h3, h4, hn, e5, e8, e9, e10, rowsOf, e14, e11]
    · simp
    · simp
    · simp
    · simp

end Go.AM.Spec

namespace Go.AM.Spec
set_option linter.unusedVariables false
set_option linter.unusedSimpArgs false

def stepN (n : Nat) (c : UInt8) : Nat := n * 10 + (c.toNat - 48)

def valN (n : Nat) (s : List UInt8) : Nat := s.foldl stepN n

theorem valN_nil (n : Nat) : valN n [] = n := rfl

theorem valN_cons (n : Nat) (c : UInt8) (cs : List UInt8) : valN n (c :: cs) = valN (n * 10 + (c.toNat - 48)) cs := by
  have : n * 10 + (c.toNat - 48) = stepN n c := by rw [stepN]
  rw [this]; rfl

def isDigP (c : UInt8) : Prop := 48 ≤ c.toNat ∧ c.toNat ≤ 57

/-- Digits without a zero in front. -/
def Good (s : List UInt8) : Prop := s ≠ [] ∧ (∀ c ∈ s, isDigP c) ∧ (s.head? = some 48 → s = [48])

theorem valN_append (s : List UInt8) (c : UInt8) (n : Nat) : valN n (s ++ [c]) = valN n s * 10 + (c.toNat - 48) := by
  have : ∀ m, m * 10 + (c.toNat - 48) = stepN m c := fun m => by rw [stepN]
  rw [this]
  simp [valN]

theorem valN_ge (n : Nat) (s : List UInt8) : n * 10 ^ s.length ≤ valN n s := by
  induction s generalizing n with
  | nil => simp [valN_cons, valN_nil]
  | cons x s ih =>
    have := ih (n * 10 + (x.toNat - 48))
    rw [valN_cons]
    refine Nat.le_trans ?_ this
    rw [List.length_cons, Nat.pow_succ, Nat.mul_comm (10 ^ s.length) 10, ← Nat.mul_assoc]
    exact Nat.mul_le_mul_right _ (Nat.le_add_right _ _)

theorem valN_lt (n : Nat) (s : List UInt8) (h : ∀ c ∈ s, isDigP c) : valN n s < (n + 1) * 10 ^ s.length := by
  induction s generalizing n with
  | nil => simp [valN_cons, valN_nil]
  | cons x s ih =>
    have h1 := ih (n * 10 + (x.toNat - 48)) (fun c hc => h c (by simp [hc]))
    have h2 := h x (by simp)
    rw [valN_cons]
    refine Nat.lt_of_lt_of_le h1 ?_
    rw [List.length_cons, Nat.pow_succ, Nat.mul_comm (10 ^ s.length) 10, ← Nat.mul_assoc]
    refine Nat.mul_le_mul_right _ ?_
    unfold isDigP at h2
    omega

theorem val_some (n : Nat) (s : List UInt8) (h : ∀ c ∈ s, isDigP c) (a : Nat) (hn : n < 10 ^ a) (ha : a + s.length ≤ 18) : val n s = some (valN n s : Int) := by
  induction s generalizing n a with
  | nil => rfl
  | cons c s ih =>
    have hc := h c (by simp)
    unfold isDigP at hc
    rw [valN_cons]
    unfold val
    rw [if_neg (by omega)]
    simp only [List.length_cons] at ha
    have h18 : 10 ^ (a + 1) ≤ 10 ^ 18 := Nat.pow_le_pow_right (by omega) (by omega)
    have hp : 10 ^ (a + 1) = 10 * 10 ^ a := by rw [Nat.pow_succ, Nat.mul_comm]
    have e : (10 : Nat) ^ 18 = 1000000000000000000 := by decide
    rw [w64 (n := (n : Int) * 10) (by omega) (by omega), w64 (n := (n : Int) * 10 + ((c.toNat : Int) - 48)) (by omega) (by omega)]
    have e2 : (n : Int) * 10 + ((c.toNat : Int) - 48) = ((n * 10 + (c.toNat - 48) : Nat) : Int) := by omega
    rw [e2]
    exact ih (n * 10 + (c.toNat - 48)) (fun c hc => h c (by simp [hc])) (a + 1) (by omega) (by omega)

theorem val_digits (n : Int) (s : List UInt8) {v : Int} (h : val n s = some v) : ∀ c ∈ s, isDigP c := by
  induction s generalizing n with
  | nil => intro c hc; cases hc
  | cons x s ih =>
    unfold val at h
    split at h
    · cases h
    · intro c hc
      rcases List.mem_cons.1 hc with rfl | hc
      · unfold isDigP; omega
      · exact ih _ h c hc

theorem dig_toNat (u : Nat) : (dig u).toNat = 48 + u % 10 := by unfold dig; rw [UInt8.toNat_ofNat']; omega

theorem dig_of (v : Nat) (c : UInt8) (hc : isDigP c) : dig (v * 10 + (c.toNat - 48)) = c := by
  unfold isDigP at hc
  apply UInt8.toNat_inj.1
  rw [dig_toNat]; omega

theorem good_pos {s : List UInt8} (h : Good s) (hl : 1 < s.length) : 0 < valN 0 s := by
  obtain ⟨h1, h2, h3⟩ := h
  cases s with
  | nil => exact (h1 rfl).elim
  | cons c s =>
    have hc := h2 c (by simp)
    unfold isDigP at hc
    have hne : c.toNat ≠ 48 := by
      intro he
      have : c = 48 := UInt8.toNat_inj.1 he
      have := h3 (by simp [this])
      simp at this
      simp [this.2] at hl
    rw [valN_cons]
    have := valN_ge (0 * 10 + (c.toNat - 48)) s
    have hp : 0 < 10 ^ s.length := Nat.pow_pos (by omega)
    have : 1 * 10 ^ s.length ≤ (0 * 10 + (c.toNat - 48)) * 10 ^ s.length := Nat.mul_le_mul_right _ (by omega)
    omega

theorem good_ge {s : List UInt8} (h : Good s) (hl : 1 < s.length) : 10 ^ (s.length - 1) ≤ valN 0 s := by
  obtain ⟨h1, h2, h3⟩ := h
  cases s with
  | nil => exact (h1 rfl).elim
  | cons c s =>
    have hc := h2 c (by simp)
    unfold isDigP at hc
    have hne : c.toNat ≠ 48 := by
      intro he
      have : c = 48 := UInt8.toNat_inj.1 he
      have := h3 (by simp [this])
      simp at this
      simp [this.2] at hl
    rw [valN_cons]
    have := valN_ge (0 * 10 + (c.toNat - 48)) s
    have : 1 * 10 ^ s.length ≤ (0 * 10 + (c.toNat - 48)) * 10 ^ s.length := Nat.mul_le_mul_right _ (by omega)
    simp only [List.length_cons, Nat.add_sub_cancel]
    omega

theorem good_init {s : List UInt8} {c : UInt8} (h : Good (s ++ [c])) (hs : s ≠ []) : Good s := by
  obtain ⟨h1, h2, h3⟩ := h
  refine ⟨hs, fun x hx => h2 x (by simp [hx]), fun he => ?_⟩
  cases s with
  | nil => exact (hs rfl).elim
  | cons x s =>
    have := h3 (by simpa using he)
    simp at this

theorem digs_good (k : Nat) : ∀ (s acc : List UInt8), Good s → s.length ≤ k → digs k (valN 0 s) acc = s ++ acc := by
  induction k with
  | zero =>
    intro s acc h hl
    have : s = [] := List.eq_nil_of_length_eq_zero (by omega)
    exact (h.1 this).elim
  | succ k ih =>
    intro s acc h hl
    obtain ⟨t, c, rfl⟩ : ∃ t c, s = t ++ [c] := ⟨s.dropLast, s.getLast h.1, (List.dropLast_concat_getLast h.1).symm⟩
    have hc := h.2.1 c (by simp)
    rw [valN_append t c 0]
    unfold digs
    rw [dig_of _ _ hc]
    unfold isDigP at hc
    by_cases ht : t = []
    · subst ht
      rw [if_pos (by simp [valN_cons, valN_nil]; omega)]
      simp
    · have hg := good_init h ht
      have hq : (valN 0 t * 10 + (c.toNat - 48)) / 10 = valN 0 t := by omega
      have hp : 0 < valN 0 t := by
        by_cases h1 : 1 < t.length
        · exact good_pos hg h1
        · cases t with
          | nil => exact (ht rfl).elim
          | cons x t =>
            have : t = [] := by
              apply List.eq_nil_of_length_eq_zero
              simp only [List.length_cons] at h1; omega
            subst this
            have hx := h.2.1 x (by simp)
            unfold isDigP at hx
            have hne : x.toNat ≠ 48 := by
              intro he
              have hx' : x = 48 := UInt8.toNat_inj.1 he
              have := h.2.2 (by simp [hx'])
              simp at this
            simp [valN_cons, valN_nil]; omega
      rw [hq, if_neg (by omega), ih t (c :: acc) hg (by simp at hl; omega)]
      simp

theorem good_of (k : Nat) : ∀ u, u < 10 ^ (k + 1) → ∃ s, Good s ∧ s.length ≤ k + 1 ∧ valN 0 s = u ∧ (0 < u → s.head? ≠ some 48) := by
  induction k with
  | zero =>
    intro u hu
    have hd := dig_toNat u
    refine ⟨[dig u], ⟨by simp, fun c hc => ?_, fun h => by simpa using h⟩, by simp, by simp [valN_cons, valN_nil]; omega, fun hp he => ?_⟩
    · simp at hc; subst hc; unfold isDigP; omega
    · simp at he
      rw [he] at hd
      have : (48 : UInt8).toNat = 48 := rfl
      omega
  | succ k ih =>
    intro u hu
    by_cases h10 : u < 10
    · obtain ⟨s, h1, h2, h3⟩ := ih u (Nat.lt_of_lt_of_le h10 (by
        have : 10 ^ 1 ≤ 10 ^ (k + 1) := Nat.pow_le_pow_right (by omega) (by omega)
        simpa using this))
      exact ⟨s, h1, by omega, h3⟩
    · have hp : 10 ^ (k + 1 + 1) = 10 * 10 ^ (k + 1) := by rw [Nat.pow_succ, Nat.mul_comm]
      obtain ⟨s, h1, h2, h3, h4⟩ := ih (u / 10) (by omega)
      have hd := dig_toNat u
      have hh := h4 (by omega)
      have hhd : (s ++ [dig u]).head? = s.head? := by
        cases s with
        | nil => exact (h1.1 rfl).elim
        | cons x s => rfl
      refine ⟨s ++ [dig u], ⟨by simp, fun c hc => ?_, fun h => ?_⟩, by simp; omega, by rw [valN_append s (dig u) 0, h3]; omega, fun _ => by rw [hhd]; exact hh⟩
      · rcases List.mem_append.1 hc with hc | hc
        · exact h1.2.1 c hc
        · simp at hc; subst hc; unfold isDigP; omega
      · rw [hhd] at h; exact (hh h).elim

theorem read_good {s : List UInt8} (h : Good s) : readR s = if 1000000000000 < valN 0 s then (0, false) else ((valN 0 s : Int), true) := by
  unfold readR
  by_cases hl : 13 < s.length
  · have := good_ge h (by omega)
    have h2 : 10 ^ 13 ≤ 10 ^ (s.length - 1) := Nat.pow_le_pow_right (by omega) (by omega)
    have e : (10 : Nat) ^ 13 = 10000000000000 := by decide
    rw [if_pos (Or.inr (Or.inl hl)), if_pos (by omega)]
  · rw [if_neg]
    · have hv := val_some 0 s h.2.1 0 (by simp) (by omega)
      have hv' : val 0 s = some (valN 0 s : Int) := hv
      rw [hv']
      dsimp only
      by_cases hb : 1000000000000 < valN 0 s
      · rw [if_pos hb, if_pos (by omega)]
      · rw [if_neg hb, if_neg (by omega)]
    · rintro (h1 | h1 | ⟨h1, h2⟩)
      · exact h.1 h1
      · exact hl h1
      · exact h2 (h.2.2 (by rw [List.head?_eq_getElem?]; exact h1))

theorem read_text (n : Int) (h1 : -9223372036854775808 ≤ n) (h2 : n ≤ 9223372036854775807) : readR (text n) = if 0 ≤ n ∧ n ≤ 1000000000000 then (n, true) else (0, false) := by
  unfold text
  have e : (10 : Nat) ^ 19 = 10000000000000000000 := by decide
  by_cases hn : n < 0
  · rw [if_pos hn, if_neg (by omega)]
    unfold readR
    split
    · rfl
    · unfold val
      rw [if_pos (by decide)]
  · rw [if_neg hn]
    obtain ⟨s, hg, hl, hv, _⟩ := good_of 18 n.toNat (by omega)
    rw [← hv, digs_good 19 s [] hg (by omega), List.append_nil, read_good hg]
    by_cases hb : 1000000000000 < valN 0 s
    · rw [if_pos hb, if_neg (by omega)]
    · rw [if_neg hb, if_pos (by omega)]
      have : (valN 0 s : Int) = n := by omega
      rw [this]

theorem text_read (s : List UInt8) (h : (readR s).2 = true) : text (readR s).1 = s := by
  have hg : Good s := by
    unfold readR at h
    split at h
    · cases h
    · rename_i hc
      split at h
      · cases h
      · rename_i v hv
        refine ⟨fun he => hc (Or.inl he), val_digits 0 s hv, fun hh => ?_⟩
        apply Classical.byContradiction
        intro hne
        exact hc (Or.inr (Or.inr ⟨by rw [← List.head?_eq_getElem?]; exact hh, hne⟩))
  rw [read_good hg] at h ⊢
  split at h
  · cases h
  · rename_i hb
    rw [if_neg hb]
    have hlen : s.length ≤ 19 := by
      apply Classical.byContradiction
      intro hl
      have := good_ge hg (by omega)
      have h2 : 10 ^ 13 ≤ 10 ^ (s.length - 1) := Nat.pow_le_pow_right (by omega) (by omega)
      have e : (10 : Nat) ^ 13 = 10000000000000 := by decide
      omega
    unfold text
    rw [if_neg (by omega)]
    simp only [Int.toNat_natCast]
    rw [digs_good 19 s [] hg hlen, List.append_nil]

theorem read_small (s : List UInt8) : 0 ≤ (readR s).1 ∧ (readR s).1 ≤ 1000000000000 := by
  unfold readR
  split
  · simp
  · split
    · simp
    · rename_i v hv
      split
      · simp
      · rename_i hc hb
        have hd := val_digits 0 s hv
        have := val_some 0 s hd 0 (by simp) (by omega)
        have hv' : val 0 s = some (valN 0 s : Int) := this
        rw [hv'] at hv
        cases hv
        constructor <;> simp <;> omega

theorem text_length (n : Int) : (text n).length ≤ 20 := by
  unfold text
  split
  · have := digs_length 19 (-n).toNat []
    simp at this ⊢; omega
  · have := digs_length 19 n.toNat []
    simp at this ⊢; omega

end Go.AM.Spec

namespace Go.AM.Spec
set_option linter.unusedVariables false
set_option linter.unusedSimpArgs false
set_option maxHeartbeats 400000
variable (H : Heap)


theorem digs_one {u : Nat} (h : u < 10) : digs 19 u [] = [dig u] := by
  unfold digs
  rw [if_pos (by omega)]

theorem digs_snoc {u : Nat} (h : 10 ≤ u) (h2 : u < 10 ^ 19) : digs 19 u [] = digs 19 (u / 10) [] ++ [dig u] := by
  have e : (10 : Nat) ^ 19 = 10 * 10 ^ 18 := by decide
  obtain ⟨s, hg, hl, hv, hh⟩ := good_of 17 (u / 10) (by omega)
  have hd := dig_toNat u
  have hhd : (s ++ [dig u]).head? = s.head? := by
    cases s with
    | nil => exact (hg.1 rfl).elim
    | cons x s => rfl
  have hg2 : Good (s ++ [dig u]) := by
    refine ⟨by simp, fun c hc => ?_, fun h' => ?_⟩
    · rcases List.mem_append.1 hc with hc | hc
      · exact hg.2.1 c hc
      · simp at hc; subst hc; unfold isDigP; omega
    · rw [hhd] at h'; exact (hh (by omega) h').elim
  have hv2 : valN 0 (s ++ [dig u]) = u := by rw [valN_append s (dig u) 0, hv]; omega
  have h3 := digs_good 19 (s ++ [dig u]) [] hg2 (by simp; omega)
  have h4 := digs_good 19 s [] hg (by omega)
  rw [hv2, List.append_nil] at h3
  rw [hv, List.append_nil] at h4
  rw [h3, h4]

theorem rowsBytes_one (c : UInt8) : rowsBytes [[.int .u8 (c.toNat : Int)]] = some [c] := by
  have := byte_lt c
  unfold rowsBytes
  rw [if_pos (by omega)]
  simp [rowsBytes]

theorem w8 (u : Nat) {x : Int} (h : x = 48 + ((u % 10 : Nat) : Int)) : IntKind.u8.wrap (IntKind.i64.wrap x) = ((dig u).toNat : Int) := by
  have := dig_toNat u
  rw [w64 (by omega) (by omega), IntKind.wrap_u8]; omega

theorem refDigits_eq : ∀ (k : Nat) (n : Int) (H : Heap), n.natAbs ≤ k → -9223372036854775808 ≤ n → n ≤ 9223372036854775807 → eval tbl noExt n_flotsamref01_Digits [.int .i64 n] H = some (.str (text n), H) := by
  intro k
  induction k using Nat.strongRecOn with
  | _ k ih =>
    intro n H hk h1 h2
    have e19 : (10 : Nat) ^ 19 = 10000000000000000000 := by decide
    have hlen := text_length (n.tdiv 10)
    rw [eval_M rfl rfl t_flotsamref01_Digits rfl]
    by_cases ha : n < 0
    · have hx : n.tdiv 10 = -(((-n).toNat / 10 : Nat) : Int) := by
        obtain ⟨m, rfl⟩ : ∃ m : Nat, n = -(m : Int) := ⟨n.natAbs, by omega⟩
        rw [Int.neg_tdiv, Int.tdiv_eq_ediv_of_nonneg (by omega)]; simp
      have hm : n.tmod 10 = -(((-n).toNat % 10 : Nat) : Int) := by
        obtain ⟨m, rfl⟩ : ∃ m : Nat, n = -(m : Int) := ⟨n.natAbs, by omega⟩
        rw [Int.neg_tmod, Int.tmod_eq_emod_of_nonneg (by omega)]; simp
      by_cases hb : -10 < n
      · have hw := w8 (-n).toNat (x := 48 - n) (by omega)
        have ht : text n = 45 :: [dig (-n).toNat] := by
          unfold text; rw [if_pos ha, digs_one (by omega)]
        simp [c_flotsamref01_Digits, ha, hb, hw, rowsBytes_one, ht, chunk, List.replicate]
      · have hw := w8 (-n).toNat (x := 48 - n.tmod 10) (by omega)
        have ht : text n = text (n.tdiv 10) ++ [dig (-n).toNat] := by
          unfold text
          rw [if_pos ha, if_pos (by rw [hx]; omega), digs_snoc (by omega) (by omega)]
          have : (-n.tdiv 10).toNat = (-n).toNat / 10 := by rw [hx]; omega
          rw [this]; rfl
        have hr := ih (n.tdiv 10).natAbs (by rw [hx]; omega) (n.tdiv 10) [] (Nat.le_refl _) (by rw [hx]; omega) (by rw [hx]; omega)
        have hq : IntKind.i64.wrap (n.tdiv 10) = n.tdiv 10 := w64 (by rw [hx]; omega) (by rw [hx]; omega)
        have hl : (text (n.tdiv 10)).length + 1 < 4611686018427387904 := by omega
        simp [c_flotsamref01_Digits, ha, hb, hw, rowsBytes_one, ht, chunk, List.replicate, hr, hq, hl]
    · have hc : -10 < n := by omega
      have hx : n.tdiv 10 = ((n.toNat / 10 : Nat) : Int) := by rw [Int.tdiv_eq_ediv_of_nonneg (by omega)]; omega
      have hm : n.tmod 10 = ((n.toNat % 10 : Nat) : Int) := by rw [Int.tmod_eq_emod_of_nonneg (by omega)]; omega
      by_cases hb : 9 < n
      · have hw := w8 n.toNat (x := 48 + n.tmod 10) (by omega)
        have ht : text n = text (n.tdiv 10) ++ [dig n.toNat] := by
          unfold text
          rw [if_neg ha, if_neg (by rw [hx]; omega), digs_snoc (by omega) (by omega)]
          have : (n.tdiv 10).toNat = n.toNat / 10 := by rw [hx]; omega
          rw [this]
        have hr := ih (n.tdiv 10).natAbs (by rw [hx]; omega) (n.tdiv 10) [] (Nat.le_refl _) (by rw [hx]; omega) (by rw [hx]; omega)
        have hq : IntKind.i64.wrap (n.tdiv 10) = n.tdiv 10 := w64 (by rw [hx]; omega) (by rw [hx]; omega)
        have hl : (text (n.tdiv 10)).length + 1 < 4611686018427387904 := by omega
        simp [c_flotsamref01_Digits, ha, hb, hc, hw, rowsBytes_one, ht, chunk, List.replicate, hr, hq, hl]
      · have hw := w8 n.toNat (x := 48 + n) (by omega)
        have ht : text n = [dig n.toNat] := by
          unfold text; rw [if_neg ha, digs_one (by omega)]
        simp [c_flotsamref01_Digits, ha, hb, hc, hw, rowsBytes_one, ht, chunk, List.replicate]

end Go.AM.Spec

namespace Go.AM.Spec
set_option linter.unusedVariables false
set_option linter.unusedSimpArgs false
set_option maxHeartbeats 400000
variable (H : Heap)

theorem refRead_loop (call : CallF) (R : Option (V × Heap)) (s : List UInt8) (hs : s.length < 100000) (k : List Item) (X : Option Int)
    (hsome : ∀ v φ', X = some v → Fr.get φ' 4 = .int .i64 v → M call k φ' H = R) (hnone : ∀ φ', X = none → Fr.get φ' 2 = .int .i64 0 → Fr.get φ' 3 = .bool false → retK k φ' H = R) :
    ∀ (j i : Nat) (n : Int) (φ : Fr), i + j = s.length → val n (s.drop i) = X → Fr.get φ 0 = .str s → Fr.get φ 4 = .int .i64 n → Fr.get φ 5 = .int .i64 i →
    M call (.code l_flotsamref01_Read_0 :: .blk 0 :: k) φ H = R := by
  intro j
  induction j with
  | zero =>
    intro i n φ hj hv h0 h4 h5
    have hi : ¬ ((i : Int) < s.length) := by omega
    rw [List.drop_eq_nil_of_le (by omega)] at hv
    rw [l_flotsamref01_Read_0, M_loop]
    simp [b_flotsamref01_Read_0, h0, h4, h5, hi]
    exact hsome n _ hv.symm (by simp)
  | succ j ih =>
    intro i n φ hj hv h0 h4 h5
    have hi : (i : Int) < s.length := by omega
    have hi' : i < s.length := by omega
    rw [List.drop_eq_getElem_cons hi'] at hv
    have hb := byte_lt s[i]
    have hg : s[i]? = some s[i] := List.getElem?_eq_getElem hi'
    have h3 : IntKind.i64.wrap ((i : Int) + 1) = (i + 1 : Nat) := by rw [w64] <;> omega
    rw [l_flotsamref01_Read_0, M_loop, ← l_flotsamref01_Read_0]
    unfold val at hv
    by_cases hc : s[i].toNat < 48
    · have hc' : (s[i].toNat : Int) < 48 := by omega
      rw [if_pos (by omega)] at hv
      simp [b_flotsamref01_Read_0, h0, h4, h5, hi, hi', hg, h3, hc']
      refine hnone _ hv.symm ?_ ?_ <;> simp
    · have hc1' : ¬ (s[i].toNat : Int) < 48 := by omega
      by_cases hc2 : 57 < s[i].toNat
      · have hc2' : 57 < (s[i].toNat : Int) := by omega
        rw [if_pos (by omega)] at hv
        simp [b_flotsamref01_Read_0, h0, h4, h5, hi, hi', hg, h3, hc1', hc2']
        refine hnone _ hv.symm ?_ ?_ <;> simp
      · have hc2' : ¬ 57 < (s[i].toNat : Int) := by omega
        rw [if_neg (by omega)] at hv
        have h1 : IntKind.i64.wrap (IntKind.u8.wrap ((s[i].toNat : Int) - 48)) = s[i].toNat - 48 := by
          have : IntKind.u8.wrap ((s[i].toNat : Int) - 48) = s[i].toNat - 48 := by rw [IntKind.wrap_u8]; omega
          rw [this, w64] <;> omega
        simp [b_flotsamref01_Read_0, h0, h4, h5, hi, hi', hg, h1, h3, hc1', hc2']
        refine ih (i + 1) _ _ (by omega) hv ?_ ?_ ?_ <;> simp [Int.mul_comm]

theorem refRead_eq (s : List UInt8) : eval tbl noExt n_flotsamref01_Read [.str s] H = some (.tup [.int .i64 (readR s).1, .bool (readR s).2], H) := by
  rw [eval_M rfl rfl t_flotsamref01_Read rfl]
  unfold readR
  by_cases h0 : s = []
  · simp [c_flotsamref01_Read, h0]
  · have hp : 0 < s.length := by
      cases s with
      | nil => exact (h0 rfl).elim
      | cons c cs => simp
    have hp' : ¬ (s.length : Int) < 1 := by omega
    by_cases h1 : 13 < s.length
    · have h1' : (13 : Int) < s.length := by omega
      simp [c_flotsamref01_Read, h0, h1, h1', hp']
    · have h1' : ¬ (13 : Int) < s.length := by omega
      have hg : s[0]? = some s[0] := List.getElem?_eq_getElem hp
      have hl : ((s[0].toNat : Int) = 48) ↔ s[0] = 48 := by
        constructor
        · intro h
          apply UInt8.toNat_inj.1
          have : s[0].toNat = 48 := by omega
          rw [this]; rfl
        · intro h; rw [h]; rfl
      have last : ∀ φ k, k = [Item.code r_flotsamref01_Read_0, Item.fin [ARes.t 2, ARes.t 3] (List.length H)] → Fr.get φ 0 = .str s → Fr.get φ 4 = .int .i64 0 → Fr.get φ 5 = .int .i64 0 →
        M (eval tbl noExt) (.code l_flotsamref01_Read_0 :: .blk 0 :: k) φ H = some (.tup [.int .i64 (match val 0 s with
          | none => (0, false)
          | some v => if 1000000000000 < v then (0, false) else (v, true)).1, .bool (match val 0 s with
          | none => (0, false)
          | some v => if 1000000000000 < v then (0, false) else (v, true)).2], H) := by
        intro φ k hk h0 h4 h5
        refine refRead_loop H _ _ s (by omega) _ (val 0 s) ?_ ?_ s.length 0 0 _ (by omega) rfl h0 h4 h5
        · intro v φ' hv h4
          rw [hk, hv]
          by_cases hm : 1000000000000 < v <;> simp [r_flotsamref01_Read_0, h4, hm]
        · intro φ' hv h2 h3
          rw [hk, hv]
          simp [h2, h3]
      by_cases h4 : 1 < s.length
      · have h4' : (1 : Int) < s.length := by omega
        have h5 : ¬ s = [48] := by rintro rfl; simp at h4
        by_cases h2 : s[0] = 48
        · simp [c_flotsamref01_Read, h0, h1, h1', hp', h2, h4', h5, hp, hg, hl]
        · simp [c_flotsamref01_Read, h0, h1, h1', hp', h2, h4', h5, hp, hg, hl]
          refine last _ _ rfl ?_ ?_ ?_ <;> simp
      · have h4' : ¬ (1 : Int) < s.length := by omega
        have h5 : s[0] = 48 → s = [48] := by
          intro h
          cases s with
          | nil => simp at hp
          | cons c cs =>
            have : cs = [] := List.eq_nil_of_length_eq_zero (by simp only [List.length_cons] at h4; omega)
            subst this
            simp at h; rw [h]
        by_cases h2 : s[0] = 48
        · have h6 := h5 h2
          simp [c_flotsamref01_Read, h0, h1, h1', hp', h4', hg, hl, h6] at last ⊢
          refine last _ ?_ ?_ ?_ <;> simp
        · simp [c_flotsamref01_Read, h0, h1, h1', hp', h2, h4', hg, hl]
          refine last _ _ rfl ?_ ?_ ?_ <;> simp

end Go.AM.Spec
