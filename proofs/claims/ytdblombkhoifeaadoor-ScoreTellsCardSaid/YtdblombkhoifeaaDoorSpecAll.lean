/-
  The parts of this proof that speak of the functions one by one.
-/
import Derived.Test.YtdblombkhoifeaaDoorSpc
import Derived.Test.YtdblombkhoifeaaDoorTyl
namespace Go.AM.Spec
set_option linter.unusedVariables false
set_option linter.unusedSimpArgs false

/-- The value of a text behind n, as the code counts it. -/
def val (n : Int) : List UInt8 → Option Int
  | [] => some n
  | c :: cs => if c.toNat < 48 ∨ 57 < c.toNat then none else val (IntKind.i64.wrap (IntKind.i64.wrap (n * 10) + (c.toNat - 48))) cs

@[simp] theorem bytesRows_length (s : List UInt8) : (bytesRows s).length = s.length := by simp [bytesRows]
@[simp] theorem bytesRows_get (s : List UInt8) (i : Nat) : (bytesRows s)[i]? = (s[i]?).map fun b => [V.int .u8 b.toNat] := by simp [bytesRows]

@[simp] theorem bytesRows_getElem (s : List UInt8) (i : Nat) (h : i < (bytesRows s).length) : (bytesRows s)[i] = [V.int .u8 (s[i]'(by simpa using h)).toNat] := by simp [bytesRows]

theorem byte_lt (c : UInt8) : c.toNat < 256 := UInt8.toNat_lt c

/-- What Read answers. -/
def readR (s : List UInt8) : Int × Bool :=
  if s = [] ∨ 13 < s.length ∨ s[0]? = some 48 ∧ s ≠ [48] then (0, false)
  else match val 0 s with
    | none => (0, false)
    | some v => if 1000000000000 < v then (0, false) else (v, true)

end Go.AM.Spec

namespace Go.AM.Spec
set_option linter.unusedVariables false
set_option linter.unusedSimpArgs false

def dig (u : Nat) : UInt8 := UInt8.ofNat (48 + u % 10)

def digs : Nat → Nat → List UInt8 → List UInt8
  | 0, _, acc => acc
  | k + 1, u, acc => if u / 10 = 0 then dig u :: acc else digs k (u / 10) (dig u :: acc)

def byteVs (txt : List UInt8) : List V := txt.map fun c => .int .u8 c.toNat

def cells20 (txt : List UInt8) : List V := List.replicate (20 - txt.length) (.int .u8 0) ++ byteVs txt

theorem cells20_length {txt : List UInt8} (h : txt.length ≤ 20) : (cells20 txt).length = 20 := by simp [cells20, byteVs]; omega

theorem cells20_set {txt : List UInt8} (h : txt.length < 20) (c : UInt8) : (cells20 txt).set (19 - txt.length) (.int .u8 c.toNat) = cells20 (c :: txt) := by
  unfold cells20
  obtain ⟨m, hm⟩ : ∃ m, 20 - txt.length = m + 1 := ⟨19 - txt.length, by omega⟩
  have h1 : 19 - txt.length = m := by omega
  have h2 : 20 - (c :: txt).length = m := by simp; omega
  rw [hm, h1, h2, List.replicate_succ', List.append_assoc, List.set_append_right _ _ (by simp)]
  simp [byteVs]

theorem digs_length (k u : Nat) (acc : List UInt8) : (digs k u acc).length ≤ k + acc.length := by
  induction k generalizing u acc with
  | zero => simp [digs]
  | succ k ih =>
    unfold digs
    split
    · simp; omega
    · have := ih (u / 10) (dig u :: acc)
      simp at this; omega

theorem digit_u8 (u : Nat) : IntKind.u8.wrap (IntKind.u64.wrap (48 + (u : Int) % 10)) = (dig u).toNat := by
  unfold dig
  rw [IntKind.wrap_u64, IntKind.wrap_u8]
  have : (UInt8.ofNat (48 + u % 10)).toNat = 48 + u % 10 := by
    rw [UInt8.toNat_ofNat']; omega
  rw [this]; omega

set_option maxHeartbeats 400000
variable (H : Heap) (call : CallF) (R : Option (V × Heap))

theorem digits_loop (n : Int) (k : List Item) (X : List UInt8) (hk : ∀ φ', Fr.get φ' 0 = .int .i64 n → Fr.get φ' 3 = .ptr H.length 0 → Fr.get φ' 4 = .int .i64 (20 - X.length : Nat) → M call k φ' (H ++ [some (cells20 X)]) = R) :
    ∀ (j u : Nat) (txt : List UInt8) (φ : Fr), u < 10 ^ (j + 1) → u < 18446744073709551616 → txt.length + j + 1 ≤ 20 → digs (j + 1) u txt = X → Fr.get φ 0 = .int .i64 n → Fr.get φ 3 = .ptr H.length 0 → Fr.get φ 4 = .int .i64 (20 - txt.length : Nat) → Fr.get φ 5 = .int .u64 u →
    M call (.code l_num_Digits_0 :: .blk 0 :: k) φ (H ++ [some (cells20 txt)]) = R := by
  intro j
  induction j with
  | zero =>
    intro u txt φ hu hu2 ht hX h0 h3 h4 h5
    have e1 : (u : Int).tmod 10 = (u : Int) % 10 := by rw [Int.tmod_eq_emod_of_nonneg (by omega)]
    have e0 : IntKind.u64.wrap 0 = 0 := by rw [IntKind.wrap_u64]; rfl
    have e2 : IntKind.u64.wrap ((u : Int) / 10) = (u : Int) / 10 := by rw [IntKind.wrap_u64]; omega
    have e3 : IntKind.i64.wrap (((20 - txt.length : Nat) : Int) - 1) = (19 - txt.length : Nat) := by rw [w64] <;> omega
    have e4 : ((19 - txt.length : Nat) : Int) < 20 := by omega
    have e5 : (u : Int) / 10 = 0 := by omega
    have hl := cells20_length (txt := txt) (by omega)
    have e6 : 19 - txt.length + 1 ≤ 20 := by omega
    have e7 := cells20_set (txt := txt) (by omega)
    unfold digs at hX
    rw [if_pos (by omega)] at hX
    rw [l_num_Digits_0, M_loop, ← l_num_Digits_0]
    simp [b_num_Digits_0, h0, h3, h4, h5, e0, e1, e2, e3, e4, e5, e6, e7, hl, digit_u8, V.cells, V.one, setMany, hX]
    refine hk _ ?_ ?_ ?_ <;> simp [← hX] <;> omega
  | succ j ih =>
    intro u txt φ hu hu2 ht hX h0 h3 h4 h5
    have e1 : (u : Int).tmod 10 = (u : Int) % 10 := by rw [Int.tmod_eq_emod_of_nonneg (by omega)]
    have e0 : IntKind.u64.wrap 0 = 0 := by rw [IntKind.wrap_u64]; rfl
    have e2 : IntKind.u64.wrap ((u : Int) / 10) = (u : Int) / 10 := by rw [IntKind.wrap_u64]; omega
    have e3 : IntKind.i64.wrap (((20 - txt.length : Nat) : Int) - 1) = (19 - txt.length : Nat) := by rw [w64] <;> omega
    have e4 : ((19 - txt.length : Nat) : Int) < 20 := by omega
    have hl := cells20_length (txt := txt) (by omega)
    have e6 : 19 - txt.length + 1 ≤ 20 := by omega
    have e7 := cells20_set (txt := txt) (by omega)
    unfold digs at hX
    rw [l_num_Digits_0, M_loop, ← l_num_Digits_0]
    by_cases hq : u / 10 = 0
    · have e5 : (u : Int) / 10 = 0 := by omega
      rw [if_pos hq] at hX
      simp [b_num_Digits_0, h0, h3, h4, h5, e0, e1, e2, e3, e4, e5, e6, e7, hl, digit_u8, V.cells, V.one, setMany, hX]
      refine hk _ ?_ ?_ ?_ <;> simp [← hX] <;> omega
    · have e5 : ¬ (u : Int) / 10 = 0 := by omega
      rw [if_neg hq] at hX
      simp [b_num_Digits_0, h0, h3, h4, h5, e0, e1, e2, e3, e4, e5, e6, e7, hl, digit_u8, V.cells, V.one, setMany]
      refine ih (u / 10) (dig u :: txt) _ ?_ ?_ ?_ hX ?_ ?_ ?_ ?_ <;> first | omega | (simp; done) | (simp; omega)

theorem chunk_bytes (pre : List V) (X : List UInt8) : rowsBytes (chunk 1 (pre ++ byteVs X) pre.length X.length) = some X := by
  induction X generalizing pre with
  | nil => rfl
  | cons c X ih =>
    have h1 := ih (pre ++ [.int .u8 c.toNat])
    have h2 : pre ++ byteVs (c :: X) = (pre ++ [V.int .u8 c.toNat]) ++ byteVs X := by simp [byteVs]
    have hc := byte_lt c
    rw [List.length_cons, chunk, h2]
    have h3 : (((pre ++ [V.int .u8 c.toNat]) ++ byteVs X).drop pre.length).take 1 = [V.int .u8 c.toNat] := by simp
    rw [h3]
    simp only [List.length_append, List.length_singleton] at h1
    unfold rowsBytes
    rw [if_pos (by omega), h1]
    simp

theorem cells20_bytes (X : List UInt8) : rowsBytes (chunk 1 ((cells20 X).map V.strip) (20 - X.length) X.length) = some X := by
  have h : (cells20 X).map V.strip = List.replicate (20 - X.length) (V.int .u8 0) ++ byteVs X := by
    simp [cells20, byteVs, V.strip, Function.comp_def]
  have := chunk_bytes (List.replicate (20 - X.length) (V.int .u8 0)) X
  rw [List.length_replicate] at this
  rw [h, this]

theorem digs_pos (k u : Nat) (acc : List UInt8) : acc.length < (digs (k + 1) u acc).length := by
  induction k generalizing u acc with
  | zero => unfold digs; split <;> simp [digs]
  | succ k ih =>
    unfold digs
    split
    · simp
    · have := ih (u / 10) (dig u :: acc)
      simp at this; omega

/-- A number as a text. -/
def text (n : Int) : List UInt8 := if n < 0 then 45 :: digs 19 (-n).toNat [] else digs 19 n.toNat []

theorem digits_eq (n : Int) (h1 : -9223372036854775808 ≤ n) (h2 : n ≤ 9223372036854775807) : eval tbl noExt n_num_Digits [.int .i64 n] H = some (.str (text n), H) := by
  rw [eval_M rfl rfl t_num_Digits rfl]
  unfold text
  by_cases hn : n < 0
  · obtain ⟨X, hX⟩ : ∃ X, X = digs 19 (-n).toNat [] := ⟨_, rfl⟩
    have hl := digs_length 19 (-n).toNat []
    have hp := digs_pos 18 (-n).toNat []
    rw [← hX] at hl hp ⊢
    have e1 : IntKind.u64.wrap (-IntKind.u64.wrap n) = ((-n).toNat : Int) := by rw [IntKind.wrap_u64, IntKind.wrap_u64]; omega
    simp at hl hp
    simp [c_num_Digits, hn, e1]
    refine digits_loop H _ _ n _ X ?_ 18 (-n).toNat [] _ (by omega) (by omega) (by simp) hX.symm ?_ ?_ ?_ ?_
    · intro φ' h0 h3 h4
      have e3 : IntKind.i64.wrap (((20 - X.length : Nat) : Int) - 1) = (19 - X.length : Nat) := by rw [w64] <;> omega
      have e4 : ((19 - X.length : Nat) : Int) < 20 := by omega
      have e5 : ((19 - X.length : Nat) : Int) ≤ 20 := by omega
      have e6 : 19 - X.length + 1 ≤ 20 := by omega
      have e7 := cells20_set (txt := X) (by omega) 45
      have e8 : ¬ 20 = 19 - X.length := by omega
      have e9 := cells20_length (txt := 45 :: X) (by simp; omega)
      have e10 : 19 - X.length + (20 - (19 - X.length)) ≤ 20 := by omega
      have e11 := cells20_bytes (45 :: X)
      have e12 : 20 - (45 :: X).length = 19 - X.length := by rw [List.length_cons]; omega
      have e13 : (45 :: X).length = 20 - (19 - X.length) := by rw [List.length_cons]; omega
      rw [e12, e13] at e11
      have hl' := cells20_length (txt := X) (by omega)
      have e7' : (cells20 X).set (19 - X.length) (V.int IntKind.u8 45) = cells20 (45 :: X) := e7
      simp [r_num_Digits_0, h0, h3, h4, hn, e3, e4, e5, e6, e7', e8, e9, e10, hl', V.cells, V.one, setMany, rowsOf, e11]
    · simp
    · simp
    · simp
    · simp
  · obtain ⟨X, hX⟩ : ∃ X, X = digs 19 n.toNat [] := ⟨_, rfl⟩
    have hl := digs_length 19 n.toNat []
    have hp := digs_pos 18 n.toNat []
    rw [← hX] at hl hp ⊢
    have e1 : IntKind.u64.wrap n = (n.toNat : Int) := by rw [IntKind.wrap_u64]; omega
    simp at hl hp
    simp [c_num_Digits, hn, e1]
    refine digits_loop H _ _ n _ X ?_ 18 n.toNat [] _ (by omega) (by omega) (by simp) hX.symm ?_ ?_ ?_ ?_
    · intro φ' h0 h3 h4
      have e5 : ((20 - X.length : Nat) : Int) ≤ 20 := by omega
      have e8 : ¬ 20 = 20 - X.length := by omega
      have e9 := cells20_length (txt := X) (by omega)
      have e10 : 20 - X.length + X.length ≤ 20 := by omega
      have e11 := cells20_bytes X
      have e13 : X.length = 20 - (20 - X.length) := by omega
      have e14 : 20 - (20 - X.length) = X.length := by omega
      simp [r_num_Digits_0, h0, h3, h4, hn, e5, e8, e9, e10, rowsOf, e14, e11]
    · simp
    · simp
    · simp
    · simp

end Go.AM.Spec

namespace Go.AM.Spec
set_option linter.unusedVariables false
set_option linter.unusedSimpArgs false

def stepN (n : Nat) (c : UInt8) : Nat := n * 10 + (c.toNat - 48)

def valN (n : Nat) (s : List UInt8) : Nat := s.foldl stepN n

theorem valN_nil (n : Nat) : valN n [] = n := rfl

theorem valN_cons (n : Nat) (c : UInt8) (cs : List UInt8) : valN n (c :: cs) = valN (n * 10 + (c.toNat - 48)) cs := by
  have : n * 10 + (c.toNat - 48) = stepN n c := by rw [stepN]
  rw [this]; rfl

def isDigit (c : UInt8) : Prop := 48 ≤ c.toNat ∧ c.toNat ≤ 57

/-- Digits without a zero in front. -/
def Good (s : List UInt8) : Prop := s ≠ [] ∧ (∀ c ∈ s, isDigit c) ∧ (s.head? = some 48 → s = [48])

theorem valN_append (s : List UInt8) (c : UInt8) (n : Nat) : valN n (s ++ [c]) = valN n s * 10 + (c.toNat - 48) := by
  have : ∀ m, m * 10 + (c.toNat - 48) = stepN m c := fun m => by rw [stepN]
  rw [this]
  simp [valN]

theorem valN_ge (n : Nat) (s : List UInt8) : n * 10 ^ s.length ≤ valN n s := by
  induction s generalizing n with
  | nil => simp [valN_cons, valN_nil]
  | cons x s ih =>
    have := ih (n * 10 + (x.toNat - 48))
    rw [valN_cons]
    refine Nat.le_trans ?_ this
    rw [List.length_cons, Nat.pow_succ, Nat.mul_comm (10 ^ s.length) 10, ← Nat.mul_assoc]
    exact Nat.mul_le_mul_right _ (Nat.le_add_right _ _)

theorem valN_lt (n : Nat) (s : List UInt8) (h : ∀ c ∈ s, isDigit c) : valN n s < (n + 1) * 10 ^ s.length := by
  induction s generalizing n with
  | nil => simp [valN_cons, valN_nil]
  | cons x s ih =>
    have h1 := ih (n * 10 + (x.toNat - 48)) (fun c hc => h c (by simp [hc]))
    have h2 := h x (by simp)
    rw [valN_cons]
    refine Nat.lt_of_lt_of_le h1 ?_
    rw [List.length_cons, Nat.pow_succ, Nat.mul_comm (10 ^ s.length) 10, ← Nat.mul_assoc]
    refine Nat.mul_le_mul_right _ ?_
    unfold isDigit at h2
    omega

theorem val_some (n : Nat) (s : List UInt8) (h : ∀ c ∈ s, isDigit c) (a : Nat) (hn : n < 10 ^ a) (ha : a + s.length ≤ 18) : val n s = some (valN n s : Int) := by
  induction s generalizing n a with
  | nil => rfl
  | cons c s ih =>
    have hc := h c (by simp)
    unfold isDigit at hc
    rw [valN_cons]
    unfold val
    rw [if_neg (by omega)]
    simp only [List.length_cons] at ha
    have h18 : 10 ^ (a + 1) ≤ 10 ^ 18 := Nat.pow_le_pow_right (by omega) (by omega)
    have hp : 10 ^ (a + 1) = 10 * 10 ^ a := by rw [Nat.pow_succ, Nat.mul_comm]
    have e : (10 : Nat) ^ 18 = 1000000000000000000 := by decide
    rw [w64 (n := (n : Int) * 10) (by omega) (by omega), w64 (n := (n : Int) * 10 + ((c.toNat : Int) - 48)) (by omega) (by omega)]
    have e2 : (n : Int) * 10 + ((c.toNat : Int) - 48) = ((n * 10 + (c.toNat - 48) : Nat) : Int) := by omega
    rw [e2]
    exact ih (n * 10 + (c.toNat - 48)) (fun c hc => h c (by simp [hc])) (a + 1) (by omega) (by omega)

theorem val_digits (n : Int) (s : List UInt8) {v : Int} (h : val n s = some v) : ∀ c ∈ s, isDigit c := by
  induction s generalizing n with
  | nil => intro c hc; cases hc
  | cons x s ih =>
    unfold val at h
    split at h
    · cases h
    · intro c hc
      rcases List.mem_cons.1 hc with rfl | hc
      · unfold isDigit; omega
      · exact ih _ h c hc

theorem dig_toNat (u : Nat) : (dig u).toNat = 48 + u % 10 := by unfold dig; rw [UInt8.toNat_ofNat']; omega

theorem dig_of (v : Nat) (c : UInt8) (hc : isDigit c) : dig (v * 10 + (c.toNat - 48)) = c := by
  unfold isDigit at hc
  apply UInt8.toNat_inj.1
  rw [dig_toNat]; omega

theorem good_pos {s : List UInt8} (h : Good s) (hl : 1 < s.length) : 0 < valN 0 s := by
  obtain ⟨h1, h2, h3⟩ := h
  cases s with
  | nil => exact (h1 rfl).elim
  | cons c s =>
    have hc := h2 c (by simp)
    unfold isDigit at hc
    have hne : c.toNat ≠ 48 := by
      intro he
      have : c = 48 := UInt8.toNat_inj.1 he
      have := h3 (by simp [this])
      simp at this
      simp [this.2] at hl
    rw [valN_cons]
    have := valN_ge (0 * 10 + (c.toNat - 48)) s
    have hp : 0 < 10 ^ s.length := Nat.pow_pos (by omega)
    have : 1 * 10 ^ s.length ≤ (0 * 10 + (c.toNat - 48)) * 10 ^ s.length := Nat.mul_le_mul_right _ (by omega)
    omega

theorem good_ge {s : List UInt8} (h : Good s) (hl : 1 < s.length) : 10 ^ (s.length - 1) ≤ valN 0 s := by
  obtain ⟨h1, h2, h3⟩ := h
  cases s with
  | nil => exact (h1 rfl).elim
  | cons c s =>
    have hc := h2 c (by simp)
    unfold isDigit at hc
    have hne : c.toNat ≠ 48 := by
      intro he
      have : c = 48 := UInt8.toNat_inj.1 he
      have := h3 (by simp [this])
      simp at this
      simp [this.2] at hl
    rw [valN_cons]
    have := valN_ge (0 * 10 + (c.toNat - 48)) s
    have : 1 * 10 ^ s.length ≤ (0 * 10 + (c.toNat - 48)) * 10 ^ s.length := Nat.mul_le_mul_right _ (by omega)
    simp only [List.length_cons, Nat.add_sub_cancel]
    omega

theorem good_init {s : List UInt8} {c : UInt8} (h : Good (s ++ [c])) (hs : s ≠ []) : Good s := by
  obtain ⟨h1, h2, h3⟩ := h
  refine ⟨hs, fun x hx => h2 x (by simp [hx]), fun he => ?_⟩
  cases s with
  | nil => exact (hs rfl).elim
  | cons x s =>
    have := h3 (by simpa using he)
    simp at this

theorem digs_good (k : Nat) : ∀ (s acc : List UInt8), Good s → s.length ≤ k → digs k (valN 0 s) acc = s ++ acc := by
  induction k with
  | zero =>
    intro s acc h hl
    have : s = [] := List.eq_nil_of_length_eq_zero (by omega)
    exact (h.1 this).elim
  | succ k ih =>
    intro s acc h hl
    obtain ⟨t, c, rfl⟩ : ∃ t c, s = t ++ [c] := ⟨s.dropLast, s.getLast h.1, (List.dropLast_concat_getLast h.1).symm⟩
    have hc := h.2.1 c (by simp)
    rw [valN_append t c 0]
    unfold digs
    rw [dig_of _ _ hc]
    unfold isDigit at hc
    by_cases ht : t = []
    · subst ht
      rw [if_pos (by simp [valN_cons, valN_nil]; omega)]
      simp
    · have hg := good_init h ht
      have hq : (valN 0 t * 10 + (c.toNat - 48)) / 10 = valN 0 t := by omega
      have hp : 0 < valN 0 t := by
        by_cases h1 : 1 < t.length
        · exact good_pos hg h1
        · cases t with
          | nil => exact (ht rfl).elim
          | cons x t =>
            have : t = [] := by
              apply List.eq_nil_of_length_eq_zero
              simp only [List.length_cons] at h1; omega
            subst this
            have hx := h.2.1 x (by simp)
            unfold isDigit at hx
            have hne : x.toNat ≠ 48 := by
              intro he
              have hx' : x = 48 := UInt8.toNat_inj.1 he
              have := h.2.2 (by simp [hx'])
              simp at this
            simp [valN_cons, valN_nil]; omega
      rw [hq, if_neg (by omega), ih t (c :: acc) hg (by simp at hl; omega)]
      simp

theorem good_of (k : Nat) : ∀ u, u < 10 ^ (k + 1) → ∃ s, Good s ∧ s.length ≤ k + 1 ∧ valN 0 s = u ∧ (0 < u → s.head? ≠ some 48) := by
  induction k with
  | zero =>
    intro u hu
    have hd := dig_toNat u
    refine ⟨[dig u], ⟨by simp, fun c hc => ?_, fun h => by simpa using h⟩, by simp, by simp [valN_cons, valN_nil]; omega, fun hp he => ?_⟩
    · simp at hc; subst hc; unfold isDigit; omega
    · simp at he
      rw [he] at hd
      have : (48 : UInt8).toNat = 48 := rfl
      omega
  | succ k ih =>
    intro u hu
    by_cases h10 : u < 10
    · obtain ⟨s, h1, h2, h3⟩ := ih u (Nat.lt_of_lt_of_le h10 (by
        have : 10 ^ 1 ≤ 10 ^ (k + 1) := Nat.pow_le_pow_right (by omega) (by omega)
        simpa using this))
      exact ⟨s, h1, by omega, h3⟩
    · have hp : 10 ^ (k + 1 + 1) = 10 * 10 ^ (k + 1) := by rw [Nat.pow_succ, Nat.mul_comm]
      obtain ⟨s, h1, h2, h3, h4⟩ := ih (u / 10) (by omega)
      have hd := dig_toNat u
      have hh := h4 (by omega)
      have hhd : (s ++ [dig u]).head? = s.head? := by
        cases s with
        | nil => exact (h1.1 rfl).elim
        | cons x s => rfl
      refine ⟨s ++ [dig u], ⟨by simp, fun c hc => ?_, fun h => ?_⟩, by simp; omega, by rw [valN_append s (dig u) 0, h3]; omega, fun _ => by rw [hhd]; exact hh⟩
      · rcases List.mem_append.1 hc with hc | hc
        · exact h1.2.1 c hc
        · simp at hc; subst hc; unfold isDigit; omega
      · rw [hhd] at h; exact (hh h).elim

theorem read_good {s : List UInt8} (h : Good s) : readR s = if 1000000000000 < valN 0 s then (0, false) else ((valN 0 s : Int), true) := by
  unfold readR
  by_cases hl : 13 < s.length
  · have := good_ge h (by omega)
    have h2 : 10 ^ 13 ≤ 10 ^ (s.length - 1) := Nat.pow_le_pow_right (by omega) (by omega)
    have e : (10 : Nat) ^ 13 = 10000000000000 := by decide
    rw [if_pos (Or.inr (Or.inl hl)), if_pos (by omega)]
  · rw [if_neg]
    · have hv := val_some 0 s h.2.1 0 (by simp) (by omega)
      have hv' : val 0 s = some (valN 0 s : Int) := hv
      rw [hv']
      dsimp only
      by_cases hb : 1000000000000 < valN 0 s
      · rw [if_pos hb, if_pos (by omega)]
      · rw [if_neg hb, if_neg (by omega)]
    · rintro (h1 | h1 | ⟨h1, h2⟩)
      · exact h.1 h1
      · exact hl h1
      · exact h2 (h.2.2 (by rw [List.head?_eq_getElem?]; exact h1))

theorem read_text (n : Int) (h1 : -9223372036854775808 ≤ n) (h2 : n ≤ 9223372036854775807) : readR (text n) = if 0 ≤ n ∧ n ≤ 1000000000000 then (n, true) else (0, false) := by
  unfold text
  have e : (10 : Nat) ^ 19 = 10000000000000000000 := by decide
  by_cases hn : n < 0
  · rw [if_pos hn, if_neg (by omega)]
    unfold readR
    split
    · rfl
    · unfold val
      rw [if_pos (by decide)]
  · rw [if_neg hn]
    obtain ⟨s, hg, hl, hv, _⟩ := good_of 18 n.toNat (by omega)
    rw [← hv, digs_good 19 s [] hg (by omega), List.append_nil, read_good hg]
    by_cases hb : 1000000000000 < valN 0 s
    · rw [if_pos hb, if_neg (by omega)]
    · rw [if_neg hb, if_pos (by omega)]
      have : (valN 0 s : Int) = n := by omega
      rw [this]

theorem text_read (s : List UInt8) (h : (readR s).2 = true) : text (readR s).1 = s := by
  have hg : Good s := by
    unfold readR at h
    split at h
    · cases h
    · rename_i hc
      split at h
      · cases h
      · rename_i v hv
        refine ⟨fun he => hc (Or.inl he), val_digits 0 s hv, fun hh => ?_⟩
        apply Classical.byContradiction
        intro hne
        exact hc (Or.inr (Or.inr ⟨by rw [← List.head?_eq_getElem?]; exact hh, hne⟩))
  rw [read_good hg] at h ⊢
  split at h
  · cases h
  · rename_i hb
    rw [if_neg hb]
    have hlen : s.length ≤ 19 := by
      apply Classical.byContradiction
      intro hl
      have := good_ge hg (by omega)
      have h2 : 10 ^ 13 ≤ 10 ^ (s.length - 1) := Nat.pow_le_pow_right (by omega) (by omega)
      have e : (10 : Nat) ^ 13 = 10000000000000 := by decide
      omega
    unfold text
    rw [if_neg (by omega)]
    simp only [Int.toNat_natCast]
    rw [digs_good 19 s [] hg hlen, List.append_nil]

theorem read_small (s : List UInt8) : 0 ≤ (readR s).1 ∧ (readR s).1 ≤ 1000000000000 := by
  unfold readR
  split
  · simp
  · split
    · simp
    · rename_i v hv
      split
      · simp
      · rename_i hc hb
        have hd := val_digits 0 s hv
        have := val_some 0 s hd 0 (by simp) (by omega)
        have hv' : val 0 s = some (valN 0 s : Int) := this
        rw [hv'] at hv
        cases hv
        constructor <;> simp <;> omega

end Go.AM.Spec

namespace Go.AM.Spec
set_option linter.unusedVariables false
set_option linter.unusedSimpArgs false
set_option maxHeartbeats 400000
variable (H : Heap)


theorem digs_one {u : Nat} (h : u < 10) : digs 19 u [] = [dig u] := by
  unfold digs
  rw [if_pos (by omega)]

theorem digs_snoc {u : Nat} (h : 10 ≤ u) (h2 : u < 10 ^ 19) : digs 19 u [] = digs 19 (u / 10) [] ++ [dig u] := by
  have e : (10 : Nat) ^ 19 = 10 * 10 ^ 18 := by decide
  obtain ⟨s, hg, hl, hv, hh⟩ := good_of 17 (u / 10) (by omega)
  have hd := dig_toNat u
  have hhd : (s ++ [dig u]).head? = s.head? := by
    cases s with
    | nil => exact (hg.1 rfl).elim
    | cons x s => rfl
  have hg2 : Good (s ++ [dig u]) := by
    refine ⟨by simp, fun c hc => ?_, fun h' => ?_⟩
    · rcases List.mem_append.1 hc with hc | hc
      · exact hg.2.1 c hc
      · simp at hc; subst hc; unfold isDigit; omega
    · rw [hhd] at h'; exact (hh (by omega) h').elim
  have hv2 : valN 0 (s ++ [dig u]) = u := by rw [valN_append s (dig u) 0, hv]; omega
  have h3 := digs_good 19 (s ++ [dig u]) [] hg2 (by simp; omega)
  have h4 := digs_good 19 s [] hg (by omega)
  rw [hv2, List.append_nil] at h3
  rw [hv, List.append_nil] at h4
  rw [h3, h4]

theorem rowsBytes_one (c : UInt8) : rowsBytes [[.int .u8 (c.toNat : Int)]] = some [c] := by
  have := byte_lt c
  unfold rowsBytes
  rw [if_pos (by omega)]
  simp [rowsBytes]

theorem text_length (n : Int) : (text n).length ≤ 20 := by
  unfold text
  split
  · have := digs_length 19 (-n).toNat []
    simp at this ⊢; omega
  · have := digs_length 19 n.toNat []
    simp at this ⊢; omega

theorem w8 (u : Nat) {x : Int} (h : x = 48 + ((u % 10 : Nat) : Int)) : IntKind.u8.wrap (IntKind.i64.wrap x) = ((dig u).toNat : Int) := by
  have := dig_toNat u
  rw [w64 (by omega) (by omega), IntKind.wrap_u8]; omega

theorem refDigits_eq : ∀ (k : Nat) (n : Int) (H : Heap), n.natAbs ≤ k → -9223372036854775808 ≤ n → n ≤ 9223372036854775807 → eval tbl noExt n_flotsamref01_Digits [.int .i64 n] H = some (.str (text n), H) := by
  intro k
  induction k using Nat.strongRecOn with
  | _ k ih =>
    intro n H hk h1 h2
    have e19 : (10 : Nat) ^ 19 = 10000000000000000000 := by decide
    have hlen := text_length (n.tdiv 10)
    rw [eval_M rfl rfl t_flotsamref01_Digits rfl]
    by_cases ha : n < 0
    · have hx : n.tdiv 10 = -(((-n).toNat / 10 : Nat) : Int) := by
        obtain ⟨m, rfl⟩ : ∃ m : Nat, n = -(m : Int) := ⟨n.natAbs, by omega⟩
        rw [Int.neg_tdiv, Int.tdiv_eq_ediv_of_nonneg (by omega)]; simp
      have hm : n.tmod 10 = -(((-n).toNat % 10 : Nat) : Int) := by
        obtain ⟨m, rfl⟩ : ∃ m : Nat, n = -(m : Int) := ⟨n.natAbs, by omega⟩
        rw [Int.neg_tmod, Int.tmod_eq_emod_of_nonneg (by omega)]; simp
      by_cases hb : -10 < n
      · have hw := w8 (-n).toNat (x := 48 - n) (by omega)
        have ht : text n = 45 :: [dig (-n).toNat] := by
          unfold text; rw [if_pos ha, digs_one (by omega)]
        simp [c_flotsamref01_Digits, ha, hb, hw, rowsBytes_one, ht, chunk, List.replicate]
      · have hw := w8 (-n).toNat (x := 48 - n.tmod 10) (by omega)
        have ht : text n = text (n.tdiv 10) ++ [dig (-n).toNat] := by
          unfold text
          rw [if_pos ha, if_pos (by rw [hx]; omega), digs_snoc (by omega) (by omega)]
          have : (-n.tdiv 10).toNat = (-n).toNat / 10 := by rw [hx]; omega
          rw [this]; rfl
        have hr := ih (n.tdiv 10).natAbs (by rw [hx]; omega) (n.tdiv 10) [] (Nat.le_refl _) (by rw [hx]; omega) (by rw [hx]; omega)
        have hq : IntKind.i64.wrap (n.tdiv 10) = n.tdiv 10 := w64 (by rw [hx]; omega) (by rw [hx]; omega)
        have hl : (text (n.tdiv 10)).length + 1 < 4611686018427387904 := by omega
        simp [c_flotsamref01_Digits, ha, hb, hw, rowsBytes_one, ht, chunk, List.replicate, hr, hq, hl]
    · have hc : -10 < n := by omega
      have hx : n.tdiv 10 = ((n.toNat / 10 : Nat) : Int) := by rw [Int.tdiv_eq_ediv_of_nonneg (by omega)]; omega
      have hm : n.tmod 10 = ((n.toNat % 10 : Nat) : Int) := by rw [Int.tmod_eq_emod_of_nonneg (by omega)]; omega
      by_cases hb : 9 < n
      · have hw := w8 n.toNat (x := 48 + n.tmod 10) (by omega)
        have ht : text n = text (n.tdiv 10) ++ [dig n.toNat] := by
          unfold text
          rw [if_neg ha, if_neg (by rw [hx]; omega), digs_snoc (by omega) (by omega)]
          have : (n.tdiv 10).toNat = n.toNat / 10 := by rw [hx]; omega
          rw [this]
        have hr := ih (n.tdiv 10).natAbs (by rw [hx]; omega) (n.tdiv 10) [] (Nat.le_refl _) (by rw [hx]; omega) (by rw [hx]; omega)
        have hq : IntKind.i64.wrap (n.tdiv 10) = n.tdiv 10 := w64 (by rw [hx]; omega) (by rw [hx]; omega)
        have hl : (text (n.tdiv 10)).length + 1 < 4611686018427387904 := by omega
        simp [c_flotsamref01_Digits, ha, hb, hc, hw, rowsBytes_one, ht, chunk, List.replicate, hr, hq, hl]
      · have hw := w8 n.toNat (x := 48 + n) (by omega)
        have ht : text n = [dig n.toNat] := by
          unfold text; rw [if_neg ha, digs_one (by omega)]
        simp [c_flotsamref01_Digits, ha, hb, hc, hw, rowsBytes_one, ht, chunk, List.replicate]

end Go.AM.Spec

namespace Go.AM.Spec
set_option linter.unusedVariables false
set_option linter.unusedSimpArgs false
set_option maxHeartbeats 1000000
set_option maxRecDepth 10000

abbrev iv (n : Int) : V := .int .i64 n

/-- A site. -/
structure Si where
  kind : Int
  part : Int
  way : List Int
  deep : Int
  deriving DecidableEq

def Si.cells (s : Si) : List V := iv s.kind :: iv s.part :: (s.way.map iv ++ [iv s.deep])
def Si.ok (s : Si) : Prop := s.way.length = 8

theorem map_iv_strip (l : List Int) : (l.map iv).map V.strip = l.map iv := by
  rw [List.map_map]; rfl

theorem eqCells_ints : ∀ (n : Nat) (k : IntKind) (xs ys : List Int), xs.length = n → ys.length = n → eqCells (List.replicate n (.int k)) (xs.map (V.int k)) (ys.map (V.int k)) = some (decide (xs = ys))
  | 0, _, [], [], _, _ => rfl
  | n + 1, k, x :: xs, y :: ys, hx, hy => by
    simp only [List.length_cons, Nat.add_right_cancel_iff] at hx hy
    simp [List.replicate, eqCells, eqCells_ints n k xs ys hx hy]
  | 0, _, _ :: _, _, h, _ => by simp at h
  | 0, _, [], _ :: _, _, h => by simp at h
  | n + 1, _, [], _, h, _ => by simp at h
  | n + 1, _, _ :: _, [], _, h => by simp at h

variable {s : Si}

theorem Si.len (h : s.ok) : s.cells.length = 11 := by simp [Si.cells, show s.way.length = 8 from h]
theorem Si.c0 : s.cells[0]? = some (iv s.kind) := rfl
theorem Si.c1 : s.cells[1]? = some (iv s.part) := rfl
theorem Si.c10 (h : s.ok) : s.cells[10]? = some (iv s.deep) := by
  have h8 : s.way.length = 8 := h
  simp only [Si.cells, List.getElem?_cons_succ]
  rw [List.getElem?_append_right (by simp [h8])]
  simp [h8]
theorem Si.cw {i : Nat} {w : Int} (h : s.way[i]? = some w) : s.cells[2 + i]? = some (iv w) := by
  have hi : i < s.way.length := by
    rcases Nat.lt_or_ge i s.way.length with h1 | h1
    · exact h1
    · rw [List.getElem?_eq_none h1] at h; cases h
  rw [Nat.add_comm]
  simp only [Si.cells, List.getElem?_cons_succ]
  rw [List.getElem?_append_left (by simpa using hi), List.getElem?_map, h]; rfl
theorem Si.strip : s.cells.map V.strip = s.cells := by simp [Si.cells, Function.comp_def, V.strip]
theorem Si.one : s.cells.all V.one = true := by simp [Si.cells, V.one]
theorem Si.under (n : Nat) : V.underAll n s.cells = true := by
  have : ∀ l : List Int, V.underAll n (l.map iv ++ [iv s.deep]) = true := by
    intro l
    induction l with
    | nil => simp [V.underAll, V.under]
    | cons x l ih => simp only [List.map_cons, List.cons_append, V.underAll, V.under, ih, Bool.and_self]
  simp only [Si.cells, V.underAll, V.under, this, Bool.and_self]
theorem Si.take (h : s.ok) : s.cells.take 11 = s.cells := List.take_of_length_le (by rw [Si.len h]; omega)
theorem Si.ways (h : s.ok) : (s.cells.drop 2).take 8 = s.way.map iv := by
  have h8 : s.way.length = 8 := h
  simp only [Si.cells, List.drop_succ_cons, List.drop_zero]
  rw [List.take_append_of_le_length (by simp [h8]), List.take_of_length_le (by simp [h8])]

/-- May a site's way be? -/
def Si.may (s : Si) : Bool := decide (1 ≤ s.deep) && (decide (s.deep ≤ 8) && (s.way.all (fun w => decide (0 ≤ w)) && (s.way.drop s.deep.toNat).all (fun w => decide (w = 0))))

/-- The rest of the document's look. -/
def mayFrom (deep : Int) : Nat → List Int → Bool
  | _, [] => true
  | i, w :: ws => decide (0 ≤ w) && ((!decide (deep ≤ i) || decide (w = 0)) && mayFrom deep (i + 1) ws)

theorem mayFrom_eq (deep : Int) (h1 : 1 ≤ deep) : ∀ (i : Nat) (l : List Int), mayFrom deep i l = (l.all (fun w => decide (0 ≤ w)) && (l.drop (deep.toNat - i)).all (fun w => decide (w = 0)))
  | i, [] => by simp [mayFrom]
  | i, w :: ws => by
    rw [mayFrom, mayFrom_eq deep h1 (i + 1) ws]
    by_cases h : deep ≤ i
    · have e1 : deep.toNat - i = 0 := by omega
      have e2 : deep.toNat - (i + 1) = 0 := by omega
      rw [e1, e2]
      simp only [h, decide_true, Bool.not_true, Bool.false_or, List.all_cons, List.drop_zero]
      cases decide (0 ≤ w) <;> cases decide (w = 0) <;> simp
    · obtain ⟨m, hm⟩ : ∃ m, deep.toNat - i = m + 1 := ⟨deep.toNat - i - 1, by omega⟩
      have e2 : deep.toNat - (i + 1) = m := by omega
      rw [hm, e2]
      simp only [h, decide_false, Bool.not_false, Bool.true_or, List.all_cons, List.drop_succ_cons, Bool.true_and, Bool.and_assoc]

theorem refMay_loop (K : Heap) (n : Nat) (hK : K[n]? = some (some s.cells)) (ok : s.ok) (call : CallF) (Q : Option (V × Heap) → Prop) (k : List Item) (X : Bool)
    (hyes : ∀ φ', X = true → Q (M call k φ' K)) (hno : ∀ φ', X = false → Fr.get φ' 2 = .bool false → Q (retK k φ' K)) :
    ∀ (j i : Nat) (φ : Fr), i + j = 8 → mayFrom s.deep i (s.way.drop i) = X → Fr.get φ 1 = .ptr n 0 → Fr.get φ 3 = iv i → Q (M call (.code l_flotsamref25_may_0 :: .blk 0 :: k) φ K) := by
  have h8 : s.way.length = 8 := ok
  have hc := Si.c10 ok
  intro j
  induction j with
  | zero =>
    intro i φ hi hX h1 h3
    obtain rfl : i = 8 := by omega
    rw [List.drop_eq_nil_of_le (by omega)] at hX
    rw [l_flotsamref25_may_0, M_loop]
    simp [b_flotsamref25_may_0, h1, h3]
    exact hyes _ (by rw [← hX]; rfl)
  | succ j ih =>
    intro i φ hi hX h1 h3
    have hlt : i < s.way.length := by omega
    rw [List.drop_eq_getElem_cons hlt, mayFrom] at hX
    have hw := Si.cw (s := s) (i := i) (w := s.way[i]) (List.getElem?_eq_getElem hlt)
    have e1 : (i : Int) < 8 := by omega
    have e2 : IntKind.i64.wrap ((i : Int) + 1) = ((i + 1 : Nat) : Int) := by rw [w64] <;> omega
    rw [l_flotsamref25_may_0, M_loop, ← l_flotsamref25_may_0]
    by_cases a1 : s.way[i] < 0
    · have a1' : ¬ 0 ≤ s.way[i] := by omega
      simp [b_flotsamref25_may_0, h1, h3, hK, hw, hc, e1, e2, a1]
      exact hno _ (by rw [← hX]; simp [a1']) (by simp)
    · have a1' : 0 ≤ s.way[i] := by omega
      by_cases a2 : s.deep ≤ i
      · by_cases a3 : s.way[i] = 0
        · simp [b_flotsamref25_may_0, h1, h3, hK, hw, hc, e1, e2, a1, a2, a3]
          exact ih (i + 1) _ (by omega) (by rw [← hX]; simp [a1', a2, a3]) (by simp [h1]) (by simp)
        · simp [b_flotsamref25_may_0, h1, h3, hK, hw, hc, e1, e2, a1, a2, a3]
          exact hno _ (by rw [← hX]; simp [a1', a2, a3]) (by simp)
      · simp [b_flotsamref25_may_0, h1, h3, hK, hw, hc, e1, e2, a1, a2]
        exact ih (i + 1) _ (by omega) (by rw [← hX]; simp [a1', a2]) (by simp [h1]) (by simp)

theorem refMay_eq (s : Si) (ok : s.ok) (H : Heap) : eval tbl noExt n_flotsamref25_may [.agg s.cells] H = some (.bool s.may, H) := by
  have hc := Si.c10 ok
  rw [eval_M rfl rfl t_flotsamref25_may rfl]
  unfold Si.may
  by_cases a1 : s.deep < 1
  · have a1' : ¬ 1 ≤ s.deep := by omega
    simp [c_flotsamref25_may, hc, a1, a1']
  · have a1' : 1 ≤ s.deep := by omega
    by_cases a2 : 8 < s.deep
    · have a2' : ¬ s.deep ≤ 8 := by omega
      simp [c_flotsamref25_may, hc, a1, a2, a2']
    · have a2' : s.deep ≤ 8 := by omega
      have hm := mayFrom_eq s.deep a1' 0 s.way
      simp only [a1', a2', decide_true, Bool.true_and]
      rw [Nat.sub_zero] at hm
      rw [← hm]
      simp [c_flotsamref25_may, hc, a1, a2]
      refine refMay_loop (s := s) _ H.length (by simp) ok _ (fun r => r = some (V.bool (mayFrom s.deep 0 s.way), H)) _ (mayFrom s.deep 0 s.way) ?_ ?_ 8 0 _ (by omega) rfl (by simp) (by simp)
      · intro φ' hX
        simp [r_flotsamref25_may_0, hX]
      · intro φ' hX h2
        simp [hX, h2]

end Go.AM.Spec

namespace Go.AM.Spec
set_option linter.unusedVariables false
set_option linter.unusedSimpArgs false
set_option maxHeartbeats 1000000
set_option maxRecDepth 10000

variable {s : Si}

def zeroS (k : Nat) : List V := List.replicate k (V.int .i64 0)
theorem zeroS_eq (k : Nat) : zeroS k = (List.replicate k (0 : Int)).map iv := by simp [zeroS]

theorem setMany_mid (a b vs cs : List V) (h : vs.length = b.length) : setMany (a ++ (b ++ cs)) a.length vs = a ++ (vs ++ cs) := by
  induction vs generalizing a b with
  | nil =>
    have : b = [] := List.eq_nil_of_length_eq_zero (by simpa using h.symm)
    subst this; rfl
  | cons v vs ih =>
    match b, h with
    | x :: b, h =>
      simp only [List.length_cons, Nat.add_right_cancel_iff] at h
      simp only [setMany]
      have e1 : (a ++ (x :: b ++ cs)).set a.length v = (a ++ [v]) ++ (b ++ cs) := by
        rw [List.set_append_right _ _ (Nat.le_refl _)]
        simp
      have := ih (a ++ [v]) b h
      rw [e1]
      simp only [List.length_append, List.length_singleton] at this
      rw [this]; simp

/-- The way, its end cleared. -/
theorem Si.cut (ok : s.ok) (d : Nat) (hd : d ≤ 8) : (((setMany s.cells (2 + d) (zeroS (8 - d))).drop 2).take 8) = (s.way.take d ++ List.replicate (8 - d) 0).map iv := by
  have h8 : s.way.length = 8 := ok
  have e : s.cells = (iv s.kind :: iv s.part :: (s.way.take d).map iv) ++ ((s.way.drop d).map iv ++ [iv s.deep]) := by
    simp only [Si.cells, List.cons_append, ← List.append_assoc, ← List.map_append, List.take_append_drop]
  have hl : (iv s.kind :: iv s.part :: (s.way.take d).map iv).length = 2 + d := by simp; omega
  have h1 := setMany_mid (iv s.kind :: iv s.part :: (s.way.take d).map iv) ((s.way.drop d).map iv) (zeroS (8 - d)) [iv s.deep] (by rw [zeroS_eq]; simp [h8])
  rw [hl, ← e] at h1
  rw [h1]
  simp only [List.cons_append, List.drop_succ_cons, List.drop_zero, ← List.append_assoc]
  rw [List.take_append_of_le_length (by rw [zeroS_eq]; simp; omega), zeroS_eq, ← List.map_append, List.take_of_length_le (by simp; omega)]

theorem replicate_iff (l : List Int) : l = List.replicate l.length 0 ↔ (l.all fun w => decide (w = 0)) = true := by
  rw [List.eq_replicate_iff]
  simp

theorem cut_iff (ok : s.ok) (d : Nat) (hd : d ≤ 8) : decide (s.way.take d ++ List.replicate (8 - d) 0 = s.way) = (s.way.drop d).all (fun w => decide (w = 0)) := by
  have h8 : s.way.length = 8 := ok
  rw [Bool.eq_iff_iff, decide_eq_true_eq, ← replicate_iff]
  have hl : (s.way.drop d).length = 8 - d := by simp [h8]
  rw [hl]
  constructor
  · intro h
    have h1 : s.way.take d ++ List.replicate (8 - d) 0 = s.way.take d ++ s.way.drop d := by rw [h, List.take_append_drop]
    exact (List.append_cancel_left h1).symm
  · intro h
    rw [← h, List.take_append_drop]

theorem may_loop (K : Heap) (call : CallF) (Q : Option (V × Heap) → Prop) (k : List Item) (way : List Int) (h8 : way.length = 8) (v1 : V)
    (hyes : ∀ φ', Fr.get φ' 1 = v1.strip → (way.all fun w => decide (0 ≤ w)) = true → Q (M call k φ' K)) (hno : ∀ φ', (way.all fun w => decide (0 ≤ w)) = false → Fr.get φ' 2 = .bool false → Q (retK k φ' K)) :
    ∀ (j i : Nat) (φ : Fr), i + j = 8 → (way.all fun w => decide (0 ≤ w)) = ((way.drop i).all fun w => decide (0 ≤ w)) → Fr.get φ 1 = v1.strip → Fr.get φ 15 = .agg (way.map iv) → Fr.get φ 16 = iv i → Q (M call (.code l_site_may_0 :: .blk 0 :: k) φ K) := by
  intro j
  induction j with
  | zero =>
    intro i φ hi hX h1 h15 h16
    obtain rfl : i = 8 := by omega
    rw [List.drop_eq_nil_of_le (by omega)] at hX
    rw [l_site_may_0, M_loop]
    simp [b_site_may_0, h1, h15, h16]
    exact hyes _ (by simp [h1]) (by rw [hX]; rfl)
  | succ j ih =>
    intro i φ hi hX h1 h15 h16
    have hlt : i < way.length := by omega
    rw [List.drop_eq_getElem_cons hlt] at hX
    have e1 : (i : Int) < 8 := by omega
    have e2 : IntKind.i64.wrap ((i : Int) + 1) = ((i + 1 : Nat) : Int) := by rw [w64] <;> omega
    have e3 : way[i]? = some way[i] := List.getElem?_eq_getElem hlt
    rw [l_site_may_0, M_loop, ← l_site_may_0]
    by_cases a1 : way[i] < 0
    · have a1' : ¬ 0 ≤ way[i] := by omega
      simp [b_site_may_0, h1, h15, h16, e1, e2, e3, a1]
      exact hno _ (by rw [hX, List.all_cons, decide_eq_false a1', Bool.false_and]) (by simp)
    · have a1' : 0 ≤ way[i] := by omega
      simp [b_site_may_0, h1, h15, h16, e1, e2, e3, a1]
      exact ih (i + 1) _ (by omega) (by rw [hX, List.all_cons, decide_eq_true a1', Bool.true_and]) (by simp [h1]) (by simp [h15]) (by simp)

theorem eq8 (xs ys : List Int) (hx : xs.length = 8) (hy : ys.length = 8) : eqCells [.int .i64, .int .i64, .int .i64, .int .i64, .int .i64, .int .i64, .int .i64, .int .i64] (xs.map iv) (ys.map iv) = some (decide (xs = ys)) := eqCells_ints 8 .i64 xs ys hx hy

theorem setMany_len : ∀ (vs cs : List V) (off : Nat), (setMany cs off vs).length = cs.length
  | [], cs, off => rfl
  | v :: vs, cs, off => by simp [setMany, setMany_len vs]
theorem setMany_over (a cs : List V) : ∀ (vs : List V) , vs.length = cs.length → setMany (a ++ cs) a.length vs = a ++ vs := by
  intro vs h
  have := setMany_mid a cs vs [] h
  simpa using this
theorem setMany_self (cs vs : List V) (h : vs.length = cs.length) : setMany cs 0 vs = vs := by
  have := setMany_over [] cs vs h
  simpa using this
theorem h11 (s : Si) (ok : s.ok) : ∀ a b c d e f g h i j k : V, setMany [a, b, c, d, e, f, g, h, i, j, k] 0 s.cells = s.cells := fun a b c d e f g h i j k => setMany_self _ _ (by rw [Si.len ok]; rfl)

theorem Si.ways_strip (ok : s.ok) : List.map V.strip ((s.cells.drop 2).take 8) = s.way.map iv := by rw [Si.ways ok, map_iv_strip]
theorem Si.cut_strip (ok : s.ok) (d : Nat) (hd : d ≤ 8) : List.take 8 (List.drop 2 (List.map V.strip (setMany s.cells (2 + d) (zeroS (8 - d))))) = (s.way.take d ++ List.replicate (8 - d) 0).map iv := by
  rw [← List.map_drop, ← List.map_take, Si.cut ok d hd, map_iv_strip]

theorem may_eq (s : Si) (ok : s.ok) (H : Heap) : eval tbl noExt n_site_may [.agg s.cells] H = some (.bool s.may, H) := by
  have h8 : s.way.length = 8 := ok
  have hc := Si.c10 ok
  have hl := Si.len ok
  have hst := Si.strip (s := s)
  have hone := Si.one (s := s)
  have htk := Si.take ok
  have hw := Si.ways_strip ok
  have hself := h11 s ok
  have hcg : ∀ h : 10 < s.cells.length, s.cells[10] = iv s.deep := fun h => by
    have := hc
    rw [List.getElem?_eq_getElem h] at this
    exact Option.some.inj this
  rw [eval_M rfl rfl t_site_may rfl]
  unfold Si.may
  by_cases a1 : s.deep < 1
  · have a1' : ¬ 1 ≤ s.deep := by omega
    simp [c_site_may, hc, a1, a1']
  · have a1' : 1 ≤ s.deep := by omega
    by_cases a2 : 8 < s.deep
    · have a2' : ¬ s.deep ≤ 8 := by omega
      simp [c_site_may, hc, a1, a2, a2']
    · have a2' : s.deep ≤ 8 := by omega
      simp only [a1', a2', decide_true, Bool.true_and]
      obtain ⟨A, hA⟩ : ∃ A, A = ((s.way.all fun w => decide (0 ≤ w)) && ((s.way.drop s.deep.toNat).all fun w => decide (w = 0))) := ⟨_, rfl⟩
      rw [← hA]
      simp [c_site_may, hc, a1, a2, hw, hl, hcg]
      refine may_loop _ _ (fun r => r = some (V.bool A, H)) _ s.way h8 (.ptr H.length 0) ?_ ?_ 8 0 _ (by omega) rfl ?_ ?_ ?_
      · intro φ' h1 hX
        rw [hA]
        obtain ⟨d, hd⟩ : ∃ d : Nat, s.deep = d := ⟨s.deep.toNat, by omega⟩
        have hd8 : d ≤ 8 := by omega
        have hdi : (d : Int) ≤ 8 := by omega
        have hdt : s.deep.toNat = d := by omega
        rw [hX, hdt, Bool.true_and]
        have hci := cut_iff (s := s) ok d hd8
        rw [← hci]
        have he := eq8 (s.way.take d ++ List.replicate (8 - d) 0) s.way (by simp [h8]; omega) h8
        have hun := fun n => Si.under (s := s) n
        by_cases a3 : d = 8
        · subst a3
          have ht : s.way.take 8 = s.way := List.take_of_length_le (by omega)
          have he2 := eq8 s.way s.way h8 h8
          simp [r_site_may_0, h1, hc, hcg, hd, hl, hst, hone, htk, hw, hun, hself, ht, he2]
        · have a3' : ¬ (8 = d) := by omega
          have e1 : 2 + d + (8 - d) ≤ 11 := by omega
          have hcs := Si.cut_strip (s := s) ok d hd8
          unfold zeroS at hcs
          obtain ⟨cw, hcw⟩ : ∃ cw, cw = s.way.take d ++ List.replicate (8 - d) 0 := ⟨_, rfl⟩
          rw [← hcw] at he hcs ⊢
          have hlen : (setMany s.cells (2 + d) (List.replicate (8 - d) (V.int .i64 0))).length = 11 := by rw [setMany_len, hl]
          simp [r_site_may_0, h1, hc, hcg, hd, hdi, hl, hst, hone, htk, hw, hun, hself, a3', e1, hcs, he, hlen]
      · intro φ' hX h2
        rw [hA, hX, Bool.false_and]
        simp [h2]
      · simp
      · simp
      · simp

end Go.AM.Spec

namespace Go.AM.Spec
set_option linter.unusedVariables false
set_option linter.unusedSimpArgs false
set_option maxHeartbeats 1000000
set_option maxRecDepth 10000

variable {s : Si}

/-- The words of kinds. -/
def siteWords : List (List UInt8) := [[63], [100, 114, 111, 112, 45, 115, 121, 110, 99], [119, 101, 97, 107, 45, 115, 121, 110, 99], [100, 114, 111, 112, 45, 100, 105, 114], [100, 114, 111, 112, 45, 98, 97, 114, 114, 105, 101, 114], [115, 119, 97, 112], [110, 111, 45, 99, 111, 109, 109, 105, 116], [116, 101, 97, 114], [100, 114, 111, 112, 45, 119, 114, 105, 116, 101]]
def kindsText : List UInt8 := [63, 32, 100, 114, 111, 112, 45, 115, 121, 110, 99, 32, 119, 101, 97, 107, 45, 115, 121, 110, 99, 32, 100, 114, 111, 112, 45, 100, 105, 114, 32, 100, 114, 111, 112, 45, 98, 97, 114, 114, 105, 101, 114, 32, 115, 119, 97, 112, 32, 110, 111, 45, 99, 111, 109, 109, 105, 116, 32, 116, 101, 97, 114, 32, 100, 114, 111, 112, 45, 119, 114, 105, 116, 101]

theorem fields_kinds : Go.Lib.fields kindsText = siteWords := by decide +kernel
theorem ascii_kinds : (kindsText.all fun b => decide (b.toNat < 128)) = true := by decide +kernel
theorem fields_eq : eval tbl noExt n_strings_Fields [.str kindsText] [] = some (.sl 1 (siteWords.map tx), []) := by
  rw [eval_X rfl (show noExt n_strings_Fields = some xFields from rfl)]
  simp only [xFields]
  rw [if_pos ⟨by decide +kernel, ascii_kinds⟩, fields_kinds]

theorem words_eq (H : Heap) : eval tbl noExt n_site_words [] H = some (.sl 1 (siteWords.map tx), H) := by
  have hF := fields_eq
  unfold kindsText at hF
  rw [eval_M rfl rfl t_site_words rfl]
  simp [c_site_words, hF]

/-- A kind's word. -/
def wordOf (k : Int) : List UInt8 := if k < 1 ∨ 8 < k then [63] else (siteWords[k.toNat]?).getD [63]

theorem nine {k : Int} (h0 : 0 ≤ k) (h1 : k < 9) : k = 0 ∨ k = 1 ∨ k = 2 ∨ k = 3 ∨ k = 4 ∨ k = 5 ∨ k = 6 ∨ k = 7 ∨ k = 8 := by omega

theorem Word_eq (k : Int) (H : Heap) : eval tbl noExt n_site_Word [iv k] H = some (.str (wordOf k), H) := by
  have hw := words_eq []
  rw [eval_M rfl rfl t_site_Word rfl]
  by_cases h0 : k < 0
  · have e : wordOf k = [63] := if_pos (.inl (by omega))
    simp [c_site_Word, hw, h0, e]
    simp [siteWords, tx]
  · by_cases h1 : 9 ≤ k
    · have e : wordOf k = [63] := if_pos (.inr (by omega))
      have h2 : ¬ k < 9 := by omega
      simp [c_site_Word, hw, h0, e]
      simp [siteWords, tx, h1]
    · have h2 : ¬ 9 ≤ k := h1
      rcases nine (k := k) (by omega) (by omega) with rfl | rfl | rfl | rfl | rfl | rfl | rfl | rfl | rfl <;> (simp [c_site_Word, hw]; simp [siteWords, tx, wordOf])

theorem refWord_eq (k : Int) (H : Heap) : eval tbl noExt n_flotsamref25_Word [iv k] H = some (.str (wordOf k), H) := by
  rw [eval_M rfl rfl t_flotsamref25_Word rfl]
  by_cases h0 : k < 1
  · have e : wordOf k = [63] := if_pos (.inl (by omega))
    simp [c_flotsamref25_Word, h0, e]
  · by_cases h1 : 8 < k
    · have e : wordOf k = [63] := if_pos (.inr (by omega))
      simp [c_flotsamref25_Word, h0, h1, e]
    · rcases nine (k := k) (by omega) (by omega) with rfl | rfl | rfl | rfl | rfl | rfl | rfl | rfl | rfl
      · omega
      all_goals (simp [c_flotsamref25_Word, wordOf, siteWords, w64])

/-! Names. -/
theorem jn_cons2 (x y : List UInt8) (r : List (List UInt8)) (p : List UInt8) : Go.Lib.join (x :: y :: r) p = x ++ (p ++ Go.Lib.join (y :: r) p) := by
  rw [Go.Lib.join_cons, Go.Lib.join_cons]
  simp [Go.Lib.joinTail]
theorem jn_snoc (l : List (List UInt8)) (x p : List UInt8) (h : l ≠ []) : Go.Lib.join (l ++ [x]) p = Go.Lib.join l p ++ (p ++ x) := by
  cases l with
  | nil => exact absurd rfl h
  | cons y r =>
    rw [List.cons_append, Go.Lib.join_cons, Go.Lib.join_cons]
    simp [Go.Lib.joinTail]
theorem jn_len (p : List UInt8) (n : Nat) : ∀ l : List (List UInt8), (∀ w ∈ l, w.length ≤ n) → (Go.Lib.join l p).length ≤ (n + p.length) * l.length
  | [], _ => by simp [Go.Lib.join_nil]
  | [x], h => by rw [Go.Lib.join_one]; have := h x (by simp); simp; omega
  | x :: y :: r, h => by
    have ih := jn_len p n (y :: r) (fun w hw => h w (by simp at hw ⊢; right; exact hw))
    have hx := h x (by simp)
    rw [jn_cons2]
    have e : (n + p.length) * (x :: y :: r).length = (n + p.length) + (n + p.length) * (y :: r).length := by rw [List.length_cons, Nat.mul_add]; omega
    rw [e]
    simp only [List.length_append]
    omega

/-- The parts of a site's name. -/
def Si.parts (s : Si) : List (List UInt8) := wordOf s.kind :: text s.part :: (s.way.take s.deep.toNat).map text

/-- A site's name. -/
def Si.name (s : Si) : List UInt8 × Bool :=
  if s.kind < 1 ∨ 8 < s.kind ∨ s.part < 0 ∨ 16 < s.part ∨ s.may = false then ([], false)
  else if ((s.way.take s.deep.toNat).any fun w => decide (511 < w)) = true then ([], false)
  else (Go.Lib.join s.parts [32], true)

theorem wordOf_len (k : Int) : (wordOf k).length ≤ 20 := by
  unfold wordOf
  split
  · simp
  · rcases nine (k := k) (by omega) (by omega) with rfl | rfl | rfl | rfl | rfl | rfl | rfl | rfl | rfl <;> decide

theorem name_loop (K : Heap) (n : Nat) (hK : K[n]? = some (some s.cells)) (ok : s.ok) (d : Nat) (hd : d ≤ 8) (hpos : ∀ w ∈ s.way.take d, 0 ≤ w) (Q : Option (V × Heap) → Prop) (k : List Item)
    (X : Bool) (L : List (List UInt8)) (hL : L.length ≤ 2)
    (hyes : ∀ φ', X = false → Fr.get φ' 4 = .own 1 ((L ++ (s.way.take d).map text).map tx) → Q (M (eval tbl noExt) k φ' K)) (hno : ∀ φ', X = true → Fr.get φ' 2 = .str [] → Fr.get φ' 3 = .bool false → Q (retK k φ' K)) :
    ∀ (j i : Nat) (φ : Fr), i + j = d → (((s.way.take d).drop i).any fun w => decide (511 < w)) = X → Fr.get φ 4 = .own 1 ((L ++ ((s.way.take d).take i).map text).map tx) → Fr.get φ 42 = .ms n 2 d 8 → Fr.get φ 43 = iv d → Fr.get φ 44 = iv i →
      Q (M (eval tbl noExt) (.code l_site_Name_0 :: .blk 0 :: k) φ K) := by
  have h8 : s.way.length = 8 := ok
  have hln : (s.way.take d).length = d := by simp [h8]; omega
  intro j
  induction j with
  | zero =>
    intro i φ hi hX h4 h42 h43 h44
    have hlt : ¬ (i : Int) < d := by omega
    rw [List.drop_eq_nil_of_le (by omega)] at hX
    rw [List.take_of_length_le (by omega)] at h4
    rw [l_site_Name_0, M_loop]
    simp [b_site_Name_0, h4, h42, h43, h44, hlt]
    exact hyes _ (by rw [← hX]; rfl) (by simp [h4])
  | succ j ih =>
    intro i φ hi hX h4 h42 h43 h44
    have hlt : i < (s.way.take d).length := by omega
    have hlt' : i < s.way.length := by omega
    rw [List.drop_eq_getElem_cons hlt, List.any_cons] at hX
    obtain ⟨u, hu⟩ : ∃ u, u = (s.way.take d)[i] := ⟨_, rfl⟩
    have hu' : s.way[i]? = some u := by
      rw [hu]
      simp [hlt']
    have hp := hpos u (by rw [hu]; exact List.getElem_mem _)
    rw [← hu] at hX
    have hw := Si.cw (s := s) (i := i) (w := u) hu'
    have e1 : (i : Int) < d := by omega
    have e2 : IntKind.i64.wrap ((i : Int) + 1) = ((i + 1 : Nat) : Int) := by rw [w64] <;> omega
    rw [l_site_Name_0, M_loop, ← l_site_Name_0]
    by_cases a1 : 511 < u
    · simp [b_site_Name_0, h4, h42, h43, h44, hK, hw, e1, e2, a1]
      exact hno _ (by rw [← hX]; simp [a1]) (by simp) (by simp)
    · have hdg := digits_eq [] u (by omega) (by omega)
      obtain ⟨rows, hrows⟩ : ∃ rows, rows = (L ++ ((s.way.take d).take i).map text).map tx := ⟨_, rfl⟩
      have hlen : rows.length ≤ 20 := by
        rw [hrows]
        simp only [List.length_map, List.length_append, List.length_take]; omega
      rw [← hrows] at h4
      have hc : 2 * (rows.length + 1) * 16 ≤ 281474976710656 := by omega
      have hnext : rows ++ [[V.str (text u)]] = (L ++ ((s.way.take d).take (i + 1)).map text).map tx := by
        rw [List.take_add_one, List.getElem?_eq_getElem hlt, ← hu, hrows]
        simp only [Option.toList_some, List.map_append, List.map_cons, List.map_nil, List.append_assoc, tx]
      clear hrows
      simp [b_site_Name_0, h4, h42, h43, h44, hK, hw, e1, e2, a1, hdg, hc]
      exact ih (i + 1) _ (by omega) (by rw [← hX]; simp [a1]) (by rw [← hnext]; simp) (by simp [h42]) (by simp [h43]) (by simp)

theorem Si.range (h : s.may = true) : 1 ≤ s.deep ∧ s.deep ≤ 8 ∧ ∀ w ∈ s.way.take s.deep.toNat, 0 ≤ w := by
  unfold Si.may at h
  simp only [Bool.and_eq_true, decide_eq_true_eq, List.all_eq_true] at h
  exact ⟨h.1, h.2.1, fun w hw => h.2.2.1 w (List.mem_of_mem_take hw)⟩

theorem sjoin_eq (l : List (List UInt8)) (hl : l.length ≤ 10) (hw : ∀ w ∈ l, w.length ≤ 100) (H : Heap) : eval tbl noExt n_strings_Join [.sl 1 (l.map tx), .str [32]] H = some (.str (Go.Lib.join l [32]), H) := by
  have hlen := jn_len [32] 100 l hw
  rw [eval_X rfl (show noExt n_strings_Join = some xJoin from rfl)]
  simp only [xJoin, textsOf_map]
  rw [if_pos ⟨by simp only [List.length_singleton] at hlen; have : (100 + 1) * l.length ≤ 101 * 10 := Nat.mul_le_mul_left _ hl; omega, by omega⟩]

theorem parts_len (h : s.may = true) : s.parts.length ≤ 10 ∧ ∀ w ∈ s.parts, w.length ≤ 100 := by
  obtain ⟨h1, h2, _⟩ := Si.range h
  refine ⟨by simp [Si.parts]; omega, fun w hw => ?_⟩
  simp only [Si.parts, List.mem_cons, List.mem_map] at hw
  rcases hw with rfl | rfl | ⟨n, _, rfl⟩
  · have := wordOf_len s.kind; omega
  · have := text_length s.part; omega
  · have := text_length n; omega

theorem Name_eq (s : Si) (ok : s.ok) (H : Heap) : eval tbl noExt n_site_Name [.agg s.cells] H = some (.tup [.str s.name.1, .bool s.name.2], H) := by
  have hc0 := Si.c0 (s := s)
  have hc1 := Si.c1 (s := s)
  have hc := Si.c10 ok
  have hl := Si.len ok
  have hst := Si.strip (s := s)
  have htk := Si.take ok
  have hun := fun n => Si.under (s := s) n
  have hm := fun K => may_eq s ok K
  have hw := fun K => words_eq K
  have hW := fun K => Word_eq s.kind K
  have e9 : siteWords.length = 9 := rfl
  have g0 : ∀ h : 0 < s.cells.length, s.cells[0] = iv s.kind := fun h => rfl
  have g1 : ∀ h : 1 < s.cells.length, s.cells[1] = iv s.part := fun h => rfl
  have g10 : ∀ h : 10 < s.cells.length, s.cells[10] = iv s.deep := fun h => by
    have := hc
    rw [List.getElem?_eq_getElem h] at this
    exact Option.some.inj this
  rw [eval_M rfl rfl t_site_Name rfl]
  by_cases a1 : s.kind < 1
  · have e : s.name = ([], false) := if_pos (.inl a1)
    simp [c_site_Name, hc0, hl, g0, a1, e]
  · by_cases a2 : 9 ≤ s.kind
    · have e : s.name = ([], false) := if_pos (.inr (.inl (by omega)))
      simp [c_site_Name, hc0, hl, g0, hw, e9, a1, a2, e]
    · by_cases a3 : s.part < 0
      · have e : s.name = ([], false) := if_pos (.inr (.inr (.inl (by omega))))
        simp [c_site_Name, hc0, hc1, hl, g0, g1, hw, e9, a1, a2, a3, e]
      · by_cases a4 : 16 < s.part
        · have e : s.name = ([], false) := if_pos (.inr (.inr (.inr (.inl (by omega)))))
          simp [c_site_Name, hc0, hc1, hl, g0, g1, hw, e9, a1, a2, a3, a4, e]
        · cases hmay : s.may with
          | false =>
            have e : s.name = ([], false) := if_pos (.inr (.inr (.inr (.inr hmay))))
            simp [c_site_Name, hc0, hc1, hl, g0, g1, hw, e9, a1, a2, a3, a4, e, hm, hmay, htk, hst, hun]
          | true =>
            obtain ⟨h1, h2, h3⟩ := Si.range hmay
            obtain ⟨d, hd⟩ : ∃ d : Nat, s.deep = d := ⟨s.deep.toNat, by omega⟩
            have hdt : s.deep.toNat = d := by omega
            rw [hdt] at h3
            have hd8 : (d : Int) ≤ 8 := by omega
            have hdg := digits_eq [] s.part (by omega) (by omega)
            obtain ⟨hp1, hp2⟩ := parts_len hmay
            have hj := fun K => sjoin_eq s.parts hp1 hp2 K
            have hparts : s.parts = [wordOf s.kind, text s.part] ++ (s.way.take d).map text := by unfold Si.parts; rw [hdt]; rfl
            obtain ⟨X, hX⟩ : ∃ X, X = ((s.way.take d).any fun w => decide (511 < w)) := ⟨_, rfl⟩
            have e : s.name = if X = true then ([], false) else (Go.Lib.join s.parts [32], true) := by
              unfold Si.name
              rw [if_neg (by rintro (h | h | h | h | h) <;> first | omega | (rw [hmay] at h; cases h)), hdt, hX]
            rw [e]
            have hd0 : ¬ ((d : Int) < 0) := by omega
            have d8' : d ≤ 8 := by omega
            simp [c_site_Name, hc0, hc1, hc, hl, g0, g1, g10, hw, hW, e9, a1, a2, a3, a4, hm, hmay, htk, hst, hun, hdg, hd, hd8, d8']
            refine name_loop (s := s) _ H.length (by simp) ok d d8' h3 (fun r => r = some (V.tup [.str (if X = true then (([] : List UInt8), false) else (Go.Lib.join s.parts [32], true)).1, .bool (if X = true then (([] : List UInt8), false) else (Go.Lib.join s.parts [32], true)).2], H)) _ X [wordOf s.kind, text s.part] (by simp) ?_ ?_ d 0 _ (by omega) ?_ ?_ ?_ ?_ ?_
            · intro φ' hx h4
              rw [← hparts] at h4
              simp [r_site_Name_0, h4, hj, hx]
            · intro φ' hx q2 q3
              simp [q2, q3, hx]
            · rw [List.drop_zero, hX]
            · simp [tx]
            · simp
            · simp
            · simp

end Go.AM.Spec

namespace Go.AM.Spec
set_option linter.unusedVariables false
set_option linter.unusedSimpArgs false
set_option maxHeartbeats 1000000
set_option maxRecDepth 10000

variable {s : Si}

theorem refName_loop (K : Heap) (n : Nat) (hK : K[n]? = some (some s.cells)) (ok : s.ok) (d : Nat) (hd : s.deep = d) (hd8 : d ≤ 8) (hpos : ∀ w ∈ s.way.take d, 0 ≤ w) (Q : Option (V × Heap) → Prop) (k : List Item)
    (X : Bool) (a b : List UInt8) (ha : a.length ≤ 100) (hb : b.length ≤ 100)
    (hyes : ∀ φ', X = false → Fr.get φ' 4 = .str (Go.Lib.join (a :: b :: (s.way.take d).map text) [32]) → Q (M (eval tbl noExt) k φ' K)) (hno : ∀ φ', X = true → Fr.get φ' 2 = .str [] → Fr.get φ' 3 = .bool false → Q (retK k φ' K)) :
    ∀ (j i : Nat) (φ : Fr), i + j = d → (((s.way.take d).drop i).any fun w => decide (511 < w)) = X → Fr.get φ 4 = .str (Go.Lib.join (a :: b :: ((s.way.take d).take i).map text) [32]) → Fr.get φ 1 = .ptr n 0 → Fr.get φ 5 = iv i →
      Q (M (eval tbl noExt) (.code l_flotsamref25_Name_0 :: .blk 0 :: k) φ K) := by
  have h8 : s.way.length = 8 := ok
  have hln : (s.way.take d).length = d := by simp [h8]; omega
  have hc := Si.c10 ok
  rw [hd] at hc
  intro j
  induction j with
  | zero =>
    intro i φ hi hX h4 h1 h5
    have hlt : ¬ (i : Int) < d := by omega
    rw [List.drop_eq_nil_of_le (by omega)] at hX
    rw [List.take_of_length_le (by omega)] at h4
    rw [l_flotsamref25_Name_0, M_loop]
    simp [b_flotsamref25_Name_0, h4, h1, h5, hK, hc, hlt]
    exact hyes _ (by rw [← hX]; rfl) (by simp [h4])
  | succ j ih =>
    intro i φ hi hX h4 h1 h5
    have hlt : i < (s.way.take d).length := by omega
    have hlt' : i < s.way.length := by omega
    rw [List.drop_eq_getElem_cons hlt, List.any_cons] at hX
    obtain ⟨u, hu⟩ : ∃ u, u = (s.way.take d)[i] := ⟨_, rfl⟩
    have hu' : s.way[i]? = some u := by
      rw [hu]
      simp [hlt']
    have hp := hpos u (by rw [hu]; exact List.getElem_mem _)
    rw [← hu] at hX
    have hw := Si.cw (s := s) (i := i) (w := u) hu'
    have e1 : (i : Int) < d := by omega
    have e2 : IntKind.i64.wrap ((i : Int) + 1) = ((i + 1 : Nat) : Int) := by rw [w64] <;> omega
    have e3 : (i : Int) < 8 := by omega
    rw [l_flotsamref25_Name_0, M_loop, ← l_flotsamref25_Name_0]
    by_cases a1 : 511 < u
    · simp [b_flotsamref25_Name_0, h4, h1, h5, hK, hc, hw, e1, e2, e3, a1]
      exact hno _ (by rw [← hX]; simp [a1]) (by simp) (by simp)
    · have hdg := refDigits_eq u.natAbs u [] (Nat.le_refl _) (by omega) (by omega)
      have htl := text_length u
      have hnext : Go.Lib.join (a :: b :: ((s.way.take d).take (i + 1)).map text) [32] = Go.Lib.join (a :: b :: ((s.way.take d).take i).map text) [32] ++ (32 :: text u) := by
        rw [List.take_add_one, List.getElem?_eq_getElem hlt, ← hu]
        simp only [Option.toList_some, List.map_append, List.map_cons, List.map_nil]
        have := jn_snoc (a :: b :: ((s.way.take d).take i).map text) (text u) [32] (by simp)
        simpa using this
      obtain ⟨T, hT⟩ : ∃ T, T = Go.Lib.join (a :: b :: ((s.way.take d).take i).map text) [32] := ⟨_, rfl⟩
      have hTl : T.length ≤ 2000 := by
        have := jn_len [32] 100 (a :: b :: ((s.way.take d).take i).map text) (fun w hw => by
          simp only [List.mem_cons, List.mem_map] at hw
          rcases hw with rfl | rfl | ⟨m, _, rfl⟩
          · exact ha
          · exact hb
          · have := text_length m; omega)
        rw [← hT] at this
        simp only [List.length_cons, List.length_map, List.length_take, List.length_nil] at this
        have h2 : (100 + (0 + 1)) * (min i (min d s.way.length) + 1 + 1) ≤ 101 * 10 := Nat.mul_le_mul (by omega) (by omega)
        omega
      rw [← hT] at h4 hnext
      clear hT
      have l1 : T.length + 1 < 4611686018427387904 := by omega
      have l2 : T.length + 1 + (text u).length < 4611686018427387904 := by omega
      have l3 : T.length + ((text u).length + 1) < 4611686018427387904 := by omega
      simp [b_flotsamref25_Name_0, h4, h1, h5, hK, hc, hw, e1, e2, e3, a1, hdg, l1, l2, l3]
      exact ih (i + 1) _ (by omega) (by rw [← hX]; simp [a1]) (by rw [hnext]; simp) (by simp [h1]) (by simp)

theorem refNameS_eq (s : Si) (ok : s.ok) (H : Heap) : eval tbl noExt n_flotsamref25_Name [.agg s.cells] H = some (.tup [.str s.name.1, .bool s.name.2], H) := by
  have hc0 := Si.c0 (s := s)
  have hc1 := Si.c1 (s := s)
  have hc := Si.c10 ok
  have hl := Si.len ok
  have hst := Si.strip (s := s)
  have htk := Si.take ok
  have hun := fun n => Si.under (s := s) n
  have hm := fun K => refMay_eq s ok K
  have hW := fun K => refWord_eq s.kind K
  have g0 : ∀ h : 0 < s.cells.length, s.cells[0] = iv s.kind := fun h => rfl
  have g1 : ∀ h : 1 < s.cells.length, s.cells[1] = iv s.part := fun h => rfl
  rw [eval_M rfl rfl t_flotsamref25_Name rfl]
  by_cases a1 : s.kind < 1
  · have e : s.name = ([], false) := if_pos (.inl a1)
    simp [c_flotsamref25_Name, hc0, hl, g0, a1, e]
  · by_cases a2 : 8 < s.kind
    · have e : s.name = ([], false) := if_pos (.inr (.inl (by omega)))
      simp [c_flotsamref25_Name, hc0, hl, g0, a1, a2, e]
    · by_cases a3 : s.part < 0
      · have e : s.name = ([], false) := if_pos (.inr (.inr (.inl (by omega))))
        simp [c_flotsamref25_Name, hc0, hc1, hl, g0, g1, a1, a2, a3, e]
      · by_cases a4 : 16 < s.part
        · have e : s.name = ([], false) := if_pos (.inr (.inr (.inr (.inl (by omega)))))
          simp [c_flotsamref25_Name, hc0, hc1, hl, g0, g1, a1, a2, a3, a4, e]
        · cases hmay : s.may with
          | false =>
            have e : s.name = ([], false) := if_pos (.inr (.inr (.inr (.inr hmay))))
            simp [c_flotsamref25_Name, hc0, hc1, hl, g0, g1, a1, a2, a3, a4, e, hm, hmay, htk, hst, hun]
          | true =>
            obtain ⟨h1, h2, h3⟩ := Si.range hmay
            obtain ⟨d, hd⟩ : ∃ d : Nat, s.deep = d := ⟨s.deep.toNat, by omega⟩
            have hdt : s.deep.toNat = d := by omega
            rw [hdt] at h3
            have hdg := refDigits_eq s.part.natAbs s.part [] (Nat.le_refl _) (by omega) (by omega)
            have hparts : s.parts = wordOf s.kind :: text s.part :: (s.way.take d).map text := by unfold Si.parts; rw [hdt]
            obtain ⟨X, hX⟩ : ∃ X, X = ((s.way.take d).any fun w => decide (511 < w)) := ⟨_, rfl⟩
            have e : s.name = if X = true then ([], false) else (Go.Lib.join s.parts [32], true) := by
              unfold Si.name
              rw [if_neg (by rintro (h | h | h | h | h) <;> first | omega | (rw [hmay] at h; cases h)), hdt, hX]
            rw [e]
            have hwl := wordOf_len s.kind
            have htl := text_length s.part
            have l1 : (wordOf s.kind).length + 1 < 4611686018427387904 := by omega
            have l2 : (wordOf s.kind).length + 1 + (text s.part).length < 4611686018427387904 := by omega
            have l3 : (wordOf s.kind).length + ((text s.part).length + 1) < 4611686018427387904 := by omega
            simp [c_flotsamref25_Name, hc0, hc1, hl, g0, g1, hW, a1, a2, a3, a4, hm, hmay, htk, hst, hun, hdg, l1, l2, l3]
            refine refName_loop (s := s) _ H.length (by simp) ok d hd (by omega) h3 (fun r => r = some (V.tup [.str (if X = true then (([] : List UInt8), false) else (Go.Lib.join s.parts [32], true)).1, .bool (if X = true then (([] : List UInt8), false) else (Go.Lib.join s.parts [32], true)).2], H)) _ X (wordOf s.kind) (text s.part) (by omega) (by omega) ?_ ?_ d 0 _ (by omega) ?_ ?_ ?_ ?_
            · intro φ' hx h4
              rw [← hparts] at h4
              simp [r_flotsamref25_Name_0, h4, hx]
            · intro φ' hx q2 q3
              simp [q2, q3, hx]
            · rw [List.drop_zero, hX]
            · rw [List.take_zero, List.map_nil, jn_cons2, Go.Lib.join_one]; simp
            · simp
            · simp

end Go.AM.Spec

namespace Go.AM.Spec
set_option linter.unusedVariables false
set_option linter.unusedSimpArgs false

theorem site_of {P : Program} {t tI tA : TypeId} {fs : Array Field} {vs : List V} (h : Ty P t vs) (hu : P.underlying t = some (.struct fs)) (hf : fs.toList.map (·.type) = [tI, tI, tA, tI]) (hI : P.underlying tI = some (.int .i64)) (hA : P.underlying tA = some (.array 8 tI)) :
    ∃ s : Si, vs = s.cells ∧ s.ok ∧ Fit s.kind ∧ Fit s.part ∧ (∀ w ∈ s.way, Fit w) ∧ Fit s.deep := by
  obtain ⟨parts, rfl, hL⟩ := Ty_struct_of h hu
  rw [hf] at hL
  obtain ⟨p, q, r, u, rfl, h0, h1, h2, h3⟩ := TyL_4 hL
  obtain ⟨a, rfl, w0⟩ := Ty_int_of h0 hI
  obtain ⟨b, rfl, w1⟩ := Ty_int_of h1 hI
  obtain ⟨d, rfl, w3⟩ := Ty_int_of h3 hI
  obtain ⟨ps, rfl, hl, hp⟩ := Ty_arr_of h2 hA
  obtain ⟨l, e1, e2, e3⟩ := ints_of hI hp
  refine ⟨⟨a, b, l, d⟩, ?_, by show l.length = 8; omega, w0, w1, e3, w3⟩
  simp only [List.flatten_cons, List.flatten_nil, e1, Si.cells]
  rfl

end Go.AM.Spec

namespace Go.AM.Spec
set_option linter.unusedVariables false
set_option linter.unusedSimpArgs false
set_option maxHeartbeats 1000000
set_option maxRecDepth 10000

abbrev uv (n : Int) : V := .int .u64 n

/-- A cell. -/
structure Ce where
  says : Int
  point : Int
  kept : Int
  verdict : Int
  err : Int
  limit : Int
  deriving DecidableEq

def Ce.cells (c : Ce) : List V := [iv c.says, iv c.point, uv c.kept, iv c.verdict, iv c.err, iv c.limit]
theorem Ce.strip (c : Ce) : c.cells.map V.strip = c.cells := rfl
theorem Ce.under (c : Ce) (n : Nat) : V.underAll n c.cells = true := rfl
theorem Ce.len (c : Ce) : c.cells.length = 6 := rfl

def Ce.witOK (c : Ce) : Bool := decide (0 ≤ c.point) && (decide (c.point ≤ 1000000) && (decide (c.kept < 65536) &&
  (if c.verdict = 1 then decide (c.err = 0) else if c.verdict = 2 then decide (0 < c.err) && (decide (c.err ≤ 15) && decide (c.err ≠ 10)) else false)))

/-- May a cell be? -/
def Ce.right (c : Ce) : Bool :=
  if c.says = 1 then decide (c.limit = 0) && c.witOK
  else if c.says = 2 then (decide (c.point = 0) && (decide (c.kept = 0) && (decide (c.verdict = 0) && decide (c.err = 0)))) && (decide (c.limit = 10) || (decide (c.limit = 13) || decide (c.limit = 14)))
  else decide (c.says = 0) && (decide (c.point = 0) && (decide (c.kept = 0) && (decide (c.verdict = 0) && (decide (c.err = 0) && decide (c.limit = 0)))))

theorem limit_eq (n : Int) (H : Heap) : eval tbl noExt n_cell_limit [iv n] H = some (.bool (decide (n = 10) || (decide (n = 13) || decide (n = 14))), H) := by
  rw [eval_M rfl rfl t_cell_limit rfl]
  by_cases a1 : n = 10
  · simp [c_cell_limit, a1]
  · by_cases a2 : n = 13
    · simp [c_cell_limit, a2]
    · simp [c_cell_limit, a1, a2]

theorem witness_eq (c : Ce) (H : Heap) : eval tbl noExt n_cell_witness [.agg [iv c.point, uv c.kept, iv c.verdict, iv c.err]] H = some (.bool c.witOK, H) := by
  rw [eval_M rfl rfl t_cell_witness rfl]
  unfold Ce.witOK
  by_cases a1 : c.point < 0
  · have a1' : ¬ 0 ≤ c.point := by omega
    simp [c_cell_witness, a1, a1']
  · have a1' : 0 ≤ c.point := by omega
    by_cases a2 : 1000000 < c.point
    · have a2' : ¬ c.point ≤ 1000000 := by omega
      simp [c_cell_witness, a1, a1', a2, a2']
    · have a2' : c.point ≤ 1000000 := by omega
      by_cases a3 : 65536 ≤ c.kept
      · have a3' : ¬ c.kept < 65536 := by omega
        simp [c_cell_witness, a1, a1', a2, a2', a3, a3']
      · have a3' : c.kept < 65536 := by omega
        by_cases a4 : c.verdict = 1
        · simp [c_cell_witness, a1, a1', a2, a2', a3, a3', a4]
        · by_cases a5 : c.verdict = 2
          · by_cases a6 : 0 < c.err
            · by_cases a7 : c.err ≤ 15
              · simp [c_cell_witness, a1, a1', a2, a2', a3, a3', a4, a5, a6, a7]
              · simp [c_cell_witness, a1, a1', a2, a2', a3, a3', a4, a5, a6, a7]
            · simp [c_cell_witness, a1, a1', a2, a2', a3, a3', a4, a5, a6]
          · simp [c_cell_witness, a1, a1', a2, a2', a3, a3', a4, a5]

theorem CRight_eq (c : Ce) (H : Heap) : eval tbl noExt n_cell_Right [.agg c.cells] H = some (.bool c.right, H) := by
  have hw := fun K => witness_eq c K
  have hl := fun K => limit_eq c.limit K
  rw [eval_M rfl rfl t_cell_Right rfl]
  unfold Ce.right Ce.cells
  by_cases a1 : c.says = 1
  · by_cases a2 : c.limit = 0
    · simp [c_cell_Right, a1, a2, hw]
    · simp [c_cell_Right, a1, a2]
  · by_cases a2 : c.says = 2
    · by_cases a3 : c.point = 0 ∧ c.kept = 0 ∧ c.verdict = 0 ∧ c.err = 0
      · obtain ⟨b1, b2, b3, b4⟩ := a3
        simp [c_cell_Right, a2, hl, b1, b2, b3, b4, eqCells]
      · have e : (decide (c.point = 0) && (decide (c.kept = 0) && (decide (c.verdict = 0) && decide (c.err = 0)))) = false := by
          simp only [Bool.and_eq_false_iff, decide_eq_false_iff_not]
          omega
        simp [c_cell_Right, a2, hl, eqCells, e]
    · simp [c_cell_Right, a1, a2, eqCells]

theorem refCRight_eq (c : Ce) (H : Heap) : eval tbl noExt n_flotsamref30_Right [.agg c.cells] H = some (.bool c.right, H) := by
  rw [eval_M rfl rfl t_flotsamref30_Right rfl]
  unfold Ce.right Ce.cells Ce.witOK
  by_cases a0 : c.says = 0
  · simp [c_flotsamref30_Right, a0, eqCells]
  · by_cases a1 : c.says = 1
    · by_cases a2 : c.limit = 0
      · by_cases b1 : c.point < 0
        · have b1' : ¬ 0 ≤ c.point := by omega
          simp [c_flotsamref30_Right, a1, a2, b1, b1']
        · have b1' : 0 ≤ c.point := by omega
          by_cases b2 : 1000000 < c.point
          · have b2' : ¬ c.point ≤ 1000000 := by omega
            simp [c_flotsamref30_Right, a1, a2, b1, b1', b2, b2']
          · have b2' : c.point ≤ 1000000 := by omega
            by_cases b3 : 65536 ≤ c.kept
            · have b3' : ¬ c.kept < 65536 := by omega
              simp [c_flotsamref30_Right, a1, a2, b1, b1', b2, b2', b3, b3']
            · have b3' : c.kept < 65536 := by omega
              by_cases b4 : c.verdict = 1
              · by_cases b5 : c.err = 0
                · simp [c_flotsamref30_Right, a1, a2, b1, b1', b2, b2', b3, b3', b4, b5]
                · simp [c_flotsamref30_Right, a1, a2, b1, b1', b2, b2', b3, b3', b4, b5]
              · by_cases b5 : c.verdict = 2
                · by_cases b6 : 1 ≤ c.err
                  · have b6' : 0 < c.err := by omega
                    by_cases b7 : c.err ≤ 15
                    · simp [c_flotsamref30_Right, a1, a2, b1, b1', b2, b2', b3, b3', b4, b5, b6, b6', b7]
                    · simp [c_flotsamref30_Right, a1, a2, b1, b1', b2, b2', b3, b3', b4, b5, b6, b6', b7]
                  · have b6' : ¬ 0 < c.err := by omega
                    simp [c_flotsamref30_Right, a1, a2, b1, b1', b2, b2', b3, b3', b4, b5, b6, b6']
                · simp [c_flotsamref30_Right, a1, a2, b1, b1', b2, b2', b3, b3', b4, b5]
      · simp [c_flotsamref30_Right, a1, a2]
    · by_cases a2 : c.says = 2
      · by_cases a3 : c.point = 0 ∧ c.kept = 0 ∧ c.verdict = 0 ∧ c.err = 0
        · obtain ⟨b1, b2, b3, b4⟩ := a3
          by_cases d1 : c.limit = 10
          · simp [c_flotsamref30_Right, a2, b1, b2, b3, b4, d1, eqCells]
          · by_cases d2 : c.limit = 13
            · simp [c_flotsamref30_Right, a2, b1, b2, b3, b4, d1, d2, eqCells]
            · simp [c_flotsamref30_Right, a2, b1, b2, b3, b4, d1, d2, eqCells]
        · have e : (decide (c.point = 0) && (decide (c.kept = 0) && (decide (c.verdict = 0) && decide (c.err = 0)))) = false := by
            simp only [Bool.and_eq_false_iff, decide_eq_false_iff_not]
            omega
          simp [c_flotsamref30_Right, a2, eqCells, e]
      · simp [c_flotsamref30_Right, a0, a1, a2]

/-! What cells come to. -/
def sumStep (s : Int) (c : Ce) : Int := if c.says = 1 ∨ c.says = 2 ∧ s = 0 then c.says else s
def sumC (l : List Ce) : Int := l.foldl sumStep 0

theorem sumStep_range {s : Int} (c : Ce) (h : s = 0 ∨ s = 1 ∨ s = 2) : sumStep s c = 0 ∨ sumStep s c = 1 ∨ sumStep s c = 2 := by
  unfold sumStep
  split
  · omega
  · exact h
theorem sumC_range (l : List Ce) : sumC l = 0 ∨ sumC l = 1 ∨ sumC l = 2 := by
  unfold sumC
  have : ∀ (l : List Ce) (s : Int), (s = 0 ∨ s = 1 ∨ s = 2) → (l.foldl sumStep s = 0 ∨ l.foldl sumStep s = 1 ∨ l.foldl sumStep s = 2) := by
    intro l
    induction l with
    | nil => intro s h; exact h
    | cons c l ih => intro s h; exact ih _ (sumStep_range c h)
  exact this l 0 (.inl rfl)

theorem row_get (l : List Ce) (i : Nat) (c : Ce) (h : l[i]? = some c) : (l.map Ce.cells)[i]? = some c.cells := by rw [List.getElem?_map, h]; rfl

end Go.AM.Spec

namespace Go.AM.Spec
set_option linter.unusedVariables false
set_option linter.unusedSimpArgs false
set_option maxHeartbeats 1000000

theorem IndexFunc_api_Cell_api_Cell_loop {α : Type} {f : Nat} {first cap : List V} (hp : f < yBase) (e : α → List (List V)) (l : List α) (hl : l.length ≤ 1000000) (p : α → Bool) (H : Heap) (call : CallF)
    (hf : ∀ a ∈ l, call f (first ++ [V.sl 6 (e a)] ++ cap) H = some (.bool (p a), H)) (Q : Option (V × Heap) → Prop) (k : List Item)
    (hret : ∀ φ' (i : Nat), l.any p = true → Fr.get φ' 4 = .int .i64 i → Q (retK k φ' H)) (hexit : ∀ φ', l.any p = false → Q (M call k φ' H)) :
    ∀ (j i : Nat) (φ : Fr), i + j = l.length → l.any p = (l.drop i).any p → Fr.get φ 0 = .sl 1 (l.map fun a => [V.sl 6 (e a)]) → Fr.get φ 1 = .fn (.func f) first cap → Fr.get φ 7 = .int .i64 l.length → Fr.get φ 8 = .int .i64 i →
      Q (M call (.code l_slices_IndexFunc_api_Cell_api_Cell_0 :: .blk 0 :: k) φ H) := by
  intro j
  induction j with
  | zero =>
    intro i φ hj hs h0 h1 h7 h8
    have hi : ¬ ((i : Int) < l.length) := by omega
    rw [List.drop_of_length_le (by omega)] at hs
    rw [l_slices_IndexFunc_api_Cell_api_Cell_0, M_loop, ← l_slices_IndexFunc_api_Cell_api_Cell_0]
    simp [b_slices_IndexFunc_api_Cell_api_Cell_0, h0, h1, h7, h8, hi]
    exact hexit _ (by rw [hs]; rfl)
  | succ j ih =>
    intro i φ hj hs h0 h1 h7 h8
    have hi : (i : Int) < l.length := by omega
    have hil : i < l.length := by omega
    obtain ⟨a, ha, hmem, hd⟩ : ∃ a, l[i]? = some a ∧ a ∈ l ∧ l.drop i = a :: l.drop (i + 1) := ⟨l[i], List.getElem?_eq_getElem hil, List.getElem_mem hil, List.drop_eq_getElem_cons hil⟩
    have hr : (l.map fun a => [V.sl 6 (e a)])[i]? = some [V.sl 6 (e a)] := by rw [List.getElem?_map, ha]; rfl
    have hgl : (l.map fun a => [V.sl 6 (e a)]).length = l.length := List.length_map ..
    have hw1 : IntKind.i64.wrap ((i : Int) + 1) = ((i + 1 : Nat) : Int) := by rw [w64 (by omega) (by omega)]; rfl
    have hcall := hf a hmem
    rw [hd, List.any_cons] at hs
    rw [l_slices_IndexFunc_api_Cell_api_Cell_0, M_loop, ← l_slices_IndexFunc_api_Cell_api_Cell_0]
    cases hb : p a with
    | true =>
      rw [hb, Bool.true_or] at hs
      rw [hb] at hcall
      simp at hcall
      simp [b_slices_IndexFunc_api_Cell_api_Cell_0, h0, h1, h7, h8, hi, hgl, hr, hp, hcall]
      exact hret _ i hs (by simp)
    | false =>
      rw [hb, Bool.false_or] at hs
      rw [hb] at hcall
      simp at hcall
      simp [b_slices_IndexFunc_api_Cell_api_Cell_0, h0, h1, h7, h8, hi, hgl, hr, hp, hcall, hw1]
      exact ih (i + 1) _ (by omega) hs (by simp [h0]) (by simp [h1]) (by simp [h7]) (by simp)

theorem ContainsFunc_api_Cell_api_Cell {α : Type} {f : Nat} {first cap : List V} (hp : f < yBase) (e : α → List (List V)) (l : List α) (hl : l.length ≤ 1000000) (p : α → Bool) (H : Heap)
    (hf : ∀ a ∈ l, eval tbl noExt f (first ++ [V.sl 6 (e a)] ++ cap) H = some (.bool (p a), H)) :
    eval tbl noExt n_slices_ContainsFunc_api_Cell_api_Cell [.sl 1 (l.map fun a => [V.sl 6 (e a)]), .fn (.func f) first cap] H = some (.bool (l.any p), H) := by
  obtain ⟨n, hn, hn2⟩ : ∃ n : Int, eval tbl noExt n_slices_IndexFunc_api_Cell_api_Cell [.sl 1 (l.map fun a => [V.sl 6 (e a)]), .fn (.func f) first cap] H = some (.int .i64 n, H) ∧ decide (0 ≤ n) = l.any p := by
    rw [eval_M rfl rfl t_slices_IndexFunc_api_Cell_api_Cell rfl]
    simp [c_slices_IndexFunc_api_Cell_api_Cell]
    refine IndexFunc_api_Cell_api_Cell_loop hp e l hl p H _ hf (fun o => ∃ n : Int, o = some (.int .i64 n, H) ∧ decide (0 ≤ n) = l.any p) _ (fun φ' i h g => ?_) (fun φ' h => ?_) l.length 0 _ (by omega) (by simp) (by simp) (by simp) (by simp) (by simp)
    · exact ⟨i, by simp [g], by rw [h]; simp⟩
    · exact ⟨-1, by simp [r_slices_IndexFunc_api_Cell_api_Cell_0], by rw [h]; simp⟩
  rw [eval_M rfl rfl t_slices_ContainsFunc_api_Cell_api_Cell rfl]
  simp [c_slices_ContainsFunc_api_Cell_api_Cell, hn, hn2, lt_slices_IndexFunc_api_Cell_api_Cell]

theorem ContainsFunc_api_Cell_api_Cell_own {α : Type} {f : Nat} {first cap : List V} (hp : f < yBase) (e : α → List (List V)) (l : List α) (hl : l.length ≤ 1000000) (p : α → Bool) (H : Heap)
    (hf : ∀ a ∈ l, eval tbl noExt f (first ++ [V.sl 6 (e a)] ++ cap) H = some (.bool (p a), H)) :
    eval tbl noExt n_slices_ContainsFunc_api_Cell_api_Cell [.own 1 (l.map fun a => [V.sl 6 (e a)]), .fn (.func f) first cap] H = some (.bool (l.any p), H) := by
  obtain ⟨n, hn, hn2⟩ : ∃ n : Int, eval tbl noExt n_slices_IndexFunc_api_Cell_api_Cell [.sl 1 (l.map fun a => [V.sl 6 (e a)]), .fn (.func f) first cap] H = some (.int .i64 n, H) ∧ decide (0 ≤ n) = l.any p := by
    rw [eval_M rfl rfl t_slices_IndexFunc_api_Cell_api_Cell rfl]
    simp [c_slices_IndexFunc_api_Cell_api_Cell]
    refine IndexFunc_api_Cell_api_Cell_loop hp e l hl p H _ hf (fun o => ∃ n : Int, o = some (.int .i64 n, H) ∧ decide (0 ≤ n) = l.any p) _ (fun φ' i h g => ?_) (fun φ' h => ?_) l.length 0 _ (by omega) (by simp) (by simp) (by simp) (by simp) (by simp)
    · exact ⟨i, by simp [g], by rw [h]; simp⟩
    · exact ⟨-1, by simp [r_slices_IndexFunc_api_Cell_api_Cell_0], by rw [h]; simp⟩
  rw [eval_M rfl rfl t_slices_ContainsFunc_api_Cell_api_Cell rfl]
  simp [c_slices_ContainsFunc_api_Cell_api_Cell, hn, hn2, lt_slices_IndexFunc_api_Cell_api_Cell]

end Go.AM.Spec

namespace Go.AM.Spec
set_option linter.unusedVariables false
set_option linter.unusedSimpArgs false
set_option maxHeartbeats 1000000
set_option maxRecDepth 10000

theorem sum_loop (n : Nat) (H : Heap) (call : CallF) (Q : Option (V × Heap) → Prop) (k : List Item) (l : List Ce) (hl : l.length ≤ 100000) (X : Int)
    (hexit : ∀ φ' K', K'.take n = H → n ≤ K'.length → Fr.get φ' 3 = iv X → Q (M call k φ' K')) :
    ∀ (j i : Nat) (φ : Fr) (K : Heap) (s : Int), i + j = l.length → (l.drop i).foldl sumStep s = X → K.take n = H → n ≤ K.length → (s = 0 ∨ s = 1 ∨ s = 2) → Fr.get φ 3 = iv s → Fr.get φ 6 = .sl 6 (l.map Ce.cells) → Fr.get φ 7 = iv l.length → Fr.get φ 8 = iv i →
      Q (M call (.code l_cell_Sum_0 :: .blk 0 :: k) φ K) := by
  intro j
  induction j with
  | zero =>
    intro i φ K s hi hX hK hn hs h3 h6 h7 h8
    have hlt : ¬ (i : Int) < l.length := by omega
    rw [List.drop_eq_nil_of_le (by omega)] at hX
    rw [l_cell_Sum_0, M_loop]
    simp [b_cell_Sum_0, h3, h6, h7, h8, hlt]
    exact hexit _ _ hK hn (by rw [← hX]; simp [h3])
  | succ j ih =>
    intro i φ K s hi hX hK hn hs h3 h6 h7 h8
    have hlt : i < l.length := by omega
    obtain ⟨c, hc⟩ : ∃ c, c = l[i] := ⟨_, rfl⟩
    have hc' : l[i]? = some c := by rw [hc]; exact List.getElem?_eq_getElem hlt
    have hg : ∀ h : i < l.length, l[i] = c := fun h => hc.symm
    rw [List.drop_eq_getElem_cons hlt, ← hc, List.foldl_cons] at hX
    have hr := row_get l i c hc'
    have e1 : (i : Int) < l.length := by omega
    have e2 : IntKind.i64.wrap ((i : Int) + 1) = ((i + 1 : Nat) : Int) := by rw [w64] <;> omega
    have hcell : c.cells = [iv c.says, iv c.point, uv c.kept, iv c.verdict, iv c.err, iv c.limit] := rfl
    have hK2 : ∀ r, (K ++ r).take n = H := fun r => take_more hK hn r
    have hn2 : ∀ r : Heap, n ≤ (K ++ r).length := fun r => by simp; omega
    have hrange := sumStep_range c hs
    rw [l_cell_Sum_0, M_loop, ← l_cell_Sum_0]
    by_cases a2 : c.says = 2
    · by_cases a3 : s = 1
      · have hst : sumStep s c = s := by unfold sumStep; rw [if_neg (by omega)]
        rw [hst] at hX hrange
        simp [b_cell_Sum_0, h3, h6, h7, h8, hr, e1, e2, hg, hlt, hcell, a2, a3]
        refine ih (i + 1) _ _ s (by omega) hX (hK2 _) (hn2 _) hrange ?_ ?_ ?_ ?_ <;> simp [h3, h6, h7, a3]
      · have hst : sumStep s c = 2 := by
          unfold sumStep
          by_cases h0 : s = 0
          · rw [if_pos (by omega), a2]
          · rw [if_neg (by omega)]; omega
        rw [hst] at hX
        simp [b_cell_Sum_0, h3, h6, h7, h8, hr, e1, e2, hg, hlt, hcell, a2, a3]
        refine ih (i + 1) _ _ 2 (by omega) hX (hK2 _) (hn2 _) (.inr (.inr rfl)) ?_ ?_ ?_ ?_ <;> simp [h6, h7]
    · by_cases a1 : c.says = 1
      · have hst : sumStep s c = 1 := by unfold sumStep; rw [if_pos (by omega), a1]
        rw [hst] at hX
        simp [b_cell_Sum_0, h3, h6, h7, h8, hr, e1, e2, hg, hlt, hcell, a1]
        refine ih (i + 1) _ _ 1 (by omega) hX (hK2 _) (hn2 _) (.inr (.inl rfl)) ?_ ?_ ?_ ?_ <;> simp [h6, h7]
      · have hst : sumStep s c = s := by unfold sumStep; rw [if_neg (by omega)]
        rw [hst] at hX hrange
        simp [b_cell_Sum_0, h3, h6, h7, h8, hr, e1, e2, hg, hlt, hcell, a1, a2]
        refine ih (i + 1) _ _ s (by omega) hX (hK2 _) (hn2 _) hrange ?_ ?_ ?_ ?_ <;> simp [h3, h6, h7]

theorem Sum_eq (l : List Ce) (hl : l.length ≤ 100000) (H : Heap) : eval tbl noExt n_cell_Sum [.sl 6 (l.map Ce.cells)] H = some (iv (sumC l), H) := by
  rw [eval_M rfl rfl t_cell_Sum rfl]
  simp [c_cell_Sum]
  refine sum_loop H.length H _ (fun r => r = some (iv (sumC l), H)) _ l hl (sumC l) ?_ l.length 0 _ _ 0 (by omega) rfl (by simp) (Nat.le_refl _) (.inl rfl) ?_ ?_ ?_ ?_
  · intro φ' K' hK hn h3
    simp [r_cell_Sum_0, h3, hK]
  all_goals simp

theorem refSum_loop (call : CallF) (K : Heap) (Q : Option (V × Heap) → Prop) (k : List Item) (l : List Ce) (hl : l.length ≤ 100000) (X : Int)
    (hexit : ∀ φ', Fr.get φ' 3 = iv X → Q (M call k φ' K)) :
    ∀ (j i : Nat) (φ : Fr) (s : Int), i + j = l.length → (l.drop i).foldl sumStep s = X → Fr.get φ 3 = iv s → Fr.get φ 0 = .sl 6 (l.map Ce.cells) → Fr.get φ 4 = iv i →
      Q (M call (.code l_flotsamref30_Sum_0 :: .blk 0 :: k) φ K) := by
  intro j
  induction j with
  | zero =>
    intro i φ s hi hX h3 h0 h4
    have hlt : ¬ (i : Int) < l.length := by omega
    rw [List.drop_eq_nil_of_le (by omega)] at hX
    rw [l_flotsamref30_Sum_0, M_loop]
    simp [b_flotsamref30_Sum_0, h3, h0, h4, hlt]
    exact hexit _ (by rw [← hX]; simp [h3])
  | succ j ih =>
    intro i φ s hi hX h3 h0 h4
    have hlt : i < l.length := by omega
    obtain ⟨c, hc⟩ : ∃ c, c = l[i] := ⟨_, rfl⟩
    have hc' : l[i]? = some c := by rw [hc]; exact List.getElem?_eq_getElem hlt
    have hg : ∀ h : i < l.length, l[i] = c := fun h => hc.symm
    rw [List.drop_eq_getElem_cons hlt, ← hc, List.foldl_cons] at hX
    have hr := row_get l i c hc'
    have e1 : (i : Int) < l.length := by omega
    have e2 : IntKind.i64.wrap ((i : Int) + 1) = ((i + 1 : Nat) : Int) := by rw [w64] <;> omega
    have hcell : c.cells = [iv c.says, iv c.point, uv c.kept, iv c.verdict, iv c.err, iv c.limit] := rfl
    rw [l_flotsamref30_Sum_0, M_loop, ← l_flotsamref30_Sum_0]
    by_cases a1 : c.says = 1
    · have hst : sumStep s c = c.says := by unfold sumStep; rw [if_pos (by omega)]
      rw [hst] at hX
      simp [b_flotsamref30_Sum_0, h3, h0, h4, hr, e1, e2, hg, hlt, hcell, a1]
      refine ih (i + 1) _ c.says (by omega) hX ?_ ?_ ?_ <;> simp [h0, a1]
    · by_cases a2 : c.says = 2
      · by_cases a3 : s = 0
        · have hst : sumStep s c = c.says := by unfold sumStep; rw [if_pos (by omega)]
          rw [hst] at hX
          simp [b_flotsamref30_Sum_0, h3, h0, h4, hr, e1, e2, hg, hlt, hcell, a2, a3]
          refine ih (i + 1) _ c.says (by omega) hX ?_ ?_ ?_ <;> simp [h0, a2]
        · have hst : sumStep s c = s := by unfold sumStep; rw [if_neg (by omega)]
          rw [hst] at hX
          simp [b_flotsamref30_Sum_0, h3, h0, h4, hr, e1, e2, hg, hlt, hcell, a2, a3]
          refine ih (i + 1) _ s (by omega) hX ?_ ?_ ?_ <;> simp [h0, h3]
      · have hst : sumStep s c = s := by unfold sumStep; rw [if_neg (by omega)]
        rw [hst] at hX
        simp [b_flotsamref30_Sum_0, h3, h0, h4, hr, e1, e2, hg, hlt, hcell, a1, a2]
        refine ih (i + 1) _ s (by omega) hX ?_ ?_ ?_ <;> simp [h0, h3]

theorem refSum_eq (l : List Ce) (hl : l.length ≤ 100000) (H : Heap) : eval tbl noExt n_flotsamref30_Sum [.sl 6 (l.map Ce.cells)] H = some (iv (sumC l), H) := by
  rw [eval_M rfl rfl t_flotsamref30_Sum rfl]
  simp [c_flotsamref30_Sum]
  refine refSum_loop _ H (fun r => r = some (iv (sumC l), H)) _ l hl (sumC l) ?_ l.length 0 _ 0 (by omega) rfl ?_ ?_ ?_
  · intro φ' h3
    simp [r_flotsamref30_Sum_0, h3]
  all_goals simp

end Go.AM.Spec

namespace Go.AM.Spec
set_option linter.unusedVariables false
set_option linter.unusedSimpArgs false
set_option maxHeartbeats 1000000
set_option maxRecDepth 10000

def rowV (l : List Ce) : List V := [.sl 6 (l.map Ce.cells)]

/-- A matrix. -/
structure Mx where
  bad : Bool
  base : List Ce
  sites : List Si
  rows : List (List Ce)

def Mx.cells (m : Mx) : List V := [.bool m.bad, .sl 6 (m.base.map Ce.cells), .sl 11 (m.sites.map Si.cells), .sl 1 (m.rows.map rowV)]
structure Mx.few (m : Mx) : Prop where
  base : m.base.length ≤ 30
  sites : m.sites.length ≤ 50
  rows : m.rows.length ≤ 50
  row : ∀ l ∈ m.rows, l.length ≤ 30

theorem get_take {H K : Heap} {n i : Nat} {x : Option (List V)} (hK : K.take n = H) (hi : H[i]? = some x) : K[i]? = some x := by
  rw [← hK, List.getElem?_take] at hi
  split at hi
  · exact hi
  · cases hi

/-- How many of a list of cells are such: a closure asked. -/
theorem count6_loop (n : Nat) (H : Heap) (call : CallF) (Q : Option (V × Heap) → Prop) (k : List Item) (l : List Ce) (hl : l.length ≤ 100000) {f : Nat} {first cap : List V} (hp : f < yBase) (p : Ce → Bool)
    (hf : ∀ c ∈ l, ∀ K : Heap, K.take n = H → n ≤ K.length → call f (first ++ [.agg c.cells] ++ cap) K = some (.bool (p c), K)) (X : Nat)
    (hexit : ∀ φ' K', K'.take n = H → n ≤ K'.length → Fr.get φ' 5 = iv X → Q (M call k φ' K')) :
    ∀ (j i : Nat) (φ : Fr) (K : Heap) (s : Nat), i + j = l.length → s ≤ i → s + (l.drop i).countP p = X → K.take n = H → n ≤ K.length → Fr.get φ 1 = .fn (.func f) first cap → Fr.get φ 5 = iv s → Fr.get φ 8 = .sl 6 (l.map Ce.cells) → Fr.get φ 9 = iv l.length → Fr.get φ 10 = iv i →
      Q (M call (.code l_score_count_api_Cell_0 :: .blk 0 :: k) φ K) := by
  intro j
  induction j with
  | zero =>
    intro i φ K s hi hs hX hK hn h1 h5 h8 h9 h10
    have hlt : ¬ (i : Int) < l.length := by omega
    rw [List.drop_eq_nil_of_le (by omega)] at hX
    rw [l_score_count_api_Cell_0, M_loop]
    simp [b_score_count_api_Cell_0, h1, h5, h8, h9, h10, hlt]
    exact hexit _ _ hK hn (by rw [← hX]; simp [h5])
  | succ j ih =>
    intro i φ K s hi hs hX hK hn h1 h5 h8 h9 h10
    have hlt : i < l.length := by omega
    obtain ⟨c, hc⟩ : ∃ c, c = l[i] := ⟨_, rfl⟩
    have hc' : l[i]? = some c := by rw [hc]; exact List.getElem?_eq_getElem hlt
    have hmem : c ∈ l := by rw [hc]; exact List.getElem_mem _
    have hg : ∀ h : i < l.length, l[i] = c := fun h => hc.symm
    rw [List.drop_eq_getElem_cons hlt, ← hc, List.countP_cons] at hX
    have hr := row_get l i c hc'
    have e1 : (i : Int) < l.length := by omega
    have e2 : IntKind.i64.wrap ((i : Int) + 1) = ((i + 1 : Nat) : Int) := by rw [w64] <;> omega
    have e3 : IntKind.i64.wrap ((s : Int) + 1) = ((s + 1 : Nat) : Int) := by rw [w64] <;> omega
    have hK2 : ∀ r, (K ++ r).take n = H := fun r => take_more hK hn r
    have hn2 : ∀ r : Heap, n ≤ (K ++ r).length := fun r => by simp; omega
    have hcl := Ce.len c
    have hcs := Ce.strip c
    have hct : c.cells.take 6 = c.cells := rfl
    have hcu := Ce.under c
    have hco : c.cells.all V.one = true := rfl
    have hset : ∀ a b d e f g : V, setMany [a, b, d, e, f, g] 0 c.cells = c.cells := fun _ _ _ _ _ _ => rfl
    have hcall := hf c hmem (K ++ [some c.cells]) (hK2 _) (hn2 _)
    simp at hcall
    rw [l_score_count_api_Cell_0, M_loop, ← l_score_count_api_Cell_0]
    cases hb : p c with
    | true =>
      rw [hb] at hcall
      simp only [hb, if_true] at hX
      simp [b_score_count_api_Cell_0, h1, h5, h8, h9, h10, hr, e1, e2, e3, hg, hlt, hcl, hcs, hct, hcu, hco, hset, hp, hcall]
      refine ih (i + 1) _ _ (s + 1) (by omega) (by omega) (by omega) (hK2 _) (hn2 _) ?_ ?_ ?_ ?_ ?_ <;> simp [h1, h8, h9]
    | false =>
      rw [hb] at hcall
      simp only [hb, Bool.false_eq_true, if_false] at hX
      simp [b_score_count_api_Cell_0, h1, h5, h8, h9, h10, hr, e1, e2, e3, hg, hlt, hcl, hcs, hct, hcu, hco, hset, hp, hcall]
      refine ih (i + 1) _ _ s (by omega) (by omega) (by omega) (hK2 _) (hn2 _) ?_ ?_ ?_ ?_ ?_ <;> simp [h1, h5, h8, h9]

theorem count6_eq (l : List Ce) (hl : l.length ≤ 100000) {f : Nat} {first cap : List V} (hp : f < yBase) (p : Ce → Bool) (H : Heap) (hf : ∀ c ∈ l, ∀ K : Heap, K.take H.length = H → H.length ≤ K.length → eval tbl noExt f (first ++ [.agg c.cells] ++ cap) K = some (.bool (p c), K)) :
    eval tbl noExt n_score_count_api_Cell [.sl 6 (l.map Ce.cells), .fn (.func f) first cap] H = some (iv (l.countP p), H) := by
  rw [eval_M rfl rfl t_score_count_api_Cell rfl]
  simp [c_score_count_api_Cell]
  refine count6_loop H.length H _ (fun r => r = some (iv (l.countP p), H)) _ l hl hp p hf (l.countP p) ?_ l.length 0 _ _ 0 (by omega) (Nat.le_refl _) (by simp) (by simp) (Nat.le_refl _) ?_ ?_ ?_ ?_ ?_
  · intro φ' K' hK hn h5
    simp [r_score_count_api_Cell_0, h5, hK]
  all_goals simp

/-- How many of a list of rows are such. -/
theorem countR_loop (H : Heap) (call : CallF) (Q : Option (V × Heap) → Prop) (k : List Item) (l : List (List Ce)) (hl : l.length ≤ 100000) {f : Nat} {first cap : List V} (hp : f < yBase) (p : List Ce → Bool)
    (hf : ∀ c ∈ l, call f (first ++ [.sl 6 (c.map Ce.cells)] ++ cap) H = some (.bool (p c), H)) (X : Nat)
    (hexit : ∀ φ', Fr.get φ' 5 = iv X → Q (M call k φ' H)) :
    ∀ (j i : Nat) (φ : Fr) (s : Nat), i + j = l.length → s ≤ i → s + (l.drop i).countP p = X → Fr.get φ 1 = .fn (.func f) first cap → Fr.get φ 5 = iv s → Fr.get φ 8 = .sl 1 (l.map rowV) → Fr.get φ 9 = iv l.length → Fr.get φ 10 = iv i →
      Q (M call (.code l_score_count_api_Cell_x_0 :: .blk 0 :: k) φ H) := by
  intro j
  induction j with
  | zero =>
    intro i φ s hi hs hX h1 h5 h8 h9 h10
    have hlt : ¬ (i : Int) < l.length := by omega
    rw [List.drop_eq_nil_of_le (by omega)] at hX
    rw [l_score_count_api_Cell_x_0, M_loop]
    simp [b_score_count_api_Cell_x_0, h1, h5, h8, h9, h10, hlt]
    exact hexit _ (by rw [← hX]; simp [h5])
  | succ j ih =>
    intro i φ s hi hs hX h1 h5 h8 h9 h10
    have hlt : i < l.length := by omega
    obtain ⟨c, hc⟩ : ∃ c, c = l[i] := ⟨_, rfl⟩
    have hc' : l[i]? = some c := by rw [hc]; exact List.getElem?_eq_getElem hlt
    have hmem : c ∈ l := by rw [hc]; exact List.getElem_mem _
    have hg : ∀ h : i < l.length, l[i] = c := fun h => hc.symm
    rw [List.drop_eq_getElem_cons hlt, ← hc, List.countP_cons] at hX
    have hr : (l.map rowV)[i]? = some [.sl 6 (c.map Ce.cells)] := by rw [List.getElem?_map, hc']; rfl
    have hrv : rowV c = [.sl 6 (c.map Ce.cells)] := rfl
    have e1 : (i : Int) < l.length := by omega
    have e2 : IntKind.i64.wrap ((i : Int) + 1) = ((i + 1 : Nat) : Int) := by rw [w64] <;> omega
    have e3 : IntKind.i64.wrap ((s : Int) + 1) = ((s + 1 : Nat) : Int) := by rw [w64] <;> omega
    have hcall := hf c hmem
    simp at hcall
    rw [l_score_count_api_Cell_x_0, M_loop, ← l_score_count_api_Cell_x_0]
    cases hb : p c with
    | true =>
      rw [hb] at hcall
      simp only [hb, if_true] at hX
      simp [b_score_count_api_Cell_x_0, h1, h5, h8, h9, h10, hr, hrv, e1, e2, e3, hg, hlt, hp, hcall]
      refine ih (i + 1) _ (s + 1) (by omega) (by omega) (by omega) ?_ ?_ ?_ ?_ ?_ <;> simp [h1, h8, h9]
    | false =>
      rw [hb] at hcall
      simp only [hb, Bool.false_eq_true, if_false] at hX
      simp [b_score_count_api_Cell_x_0, h1, h5, h8, h9, h10, hr, hrv, e1, e2, e3, hg, hlt, hp, hcall]
      refine ih (i + 1) _ s (by omega) (by omega) (by omega) ?_ ?_ ?_ ?_ ?_ <;> simp [h1, h5, h8, h9]

theorem countR_eq (l : List (List Ce)) (hl : l.length ≤ 100000) {f : Nat} {first cap : List V} (hp : f < yBase) (p : List Ce → Bool) (H : Heap) (hf : ∀ c ∈ l, eval tbl noExt f (first ++ [.sl 6 (c.map Ce.cells)] ++ cap) H = some (.bool (p c), H)) :
    eval tbl noExt n_score_count_api_Cell_x [.sl 1 (l.map rowV), .fn (.func f) first cap] H = some (iv (l.countP p), H) := by
  rw [eval_M rfl rfl t_score_count_api_Cell_x rfl]
  simp [c_score_count_api_Cell_x]
  refine countR_loop H _ (fun r => r = some (iv (l.countP p), H)) _ l hl hp p hf (l.countP p) ?_ l.length 0 _ 0 (by omega) (Nat.le_refl _) (by simp) ?_ ?_ ?_ ?_ ?_
  · intro φ' h5
    simp [r_score_count_api_Cell_x_0, h5]
  all_goals simp

/-! The closures. -/
def isSays (w : Int) (c : Ce) : Bool := decide (c.says = w)

theorem says_eq (w : Int) (H : Heap) : eval tbl noExt n_score_says [iv w] H = some (.fn (.func n_score_says_1) [] [.ptr H.length 0], H ++ [some [iv w]]) := by
  rw [eval_M rfl rfl t_score_says rfl]
  simp [c_score_says]

theorem says1_eq (w : Int) (c : Ce) (i : Nat) (K : Heap) (hi : K[i]? = some (some [iv w])) : eval tbl noExt n_score_says_1 [.agg c.cells, .ptr i 0] K = some (.bool (isSays w c), K) := by
  have hlt := get_lt hi
  have hi2 : ∀ r : Heap, (K ++ r)[i]? = some (some [iv w]) := fun r => by rw [List.getElem?_append_left hlt]; exact hi
  have hcell : c.cells = [iv c.says, iv c.point, uv c.kept, iv c.verdict, iv c.err, iv c.limit] := rfl
  rw [eval_M rfl rfl t_score_says_1 rfl]
  simp [c_score_says_1, hcell, hi2, isSays]
  where
  get_lt {K : Heap} {i : Nat} {x : Option (List V)} (h : K[i]? = some x) : i < K.length := by
    rcases Nat.lt_or_ge i K.length with h1 | h1
    · exact h1
    · rw [List.getElem?_eq_none h1] at h; cases h

theorem countSays_eq (l : List Ce) (hl : l.length ≤ 100000) (w : Int) (i : Nat) (H : Heap) (hi : H[i]? = some (some [iv w])) :
    eval tbl noExt n_score_count_api_Cell [.sl 6 (l.map Ce.cells), .fn (.func n_score_says_1) [] [.ptr i 0]] H = some (iv (l.countP (isSays w)), H) :=
  count6_eq l hl lt_score_says_1 (isSays w) H (fun c _ K hK _ => says1_eq w c i K (get_take hK hi))

/-! Score. -/
def killN (l : List Ce) : Nat := l.countP (isSays 1)
def bothN (l : List Ce) : Nat := l.countP (isSays 1) + l.countP (isSays 0)
def sumN (f : List Ce → Nat) (rows : List (List Ce)) : Nat := (rows.map f).sum

theorem score_loop (n : Nat) (H : Heap) (Q : Option (V × Heap) → Prop) (k : List Item) (l : List (List Ce)) (hl : l.length ≤ 50) (hrow : ∀ r ∈ l, r.length ≤ 30) (A B : Nat)
    (hexit : ∀ φ' K', K'.take n = H → n ≤ K'.length → Fr.get φ' 4 = iv A → Fr.get φ' 5 = iv B → Q (M (eval tbl noExt) k φ' K')) :
    ∀ (j i : Nat) (φ : Fr) (K : Heap) (a b : Nat), i + j = l.length → a ≤ 100 * i → b ≤ 100 * i → a + sumN killN (l.drop i) = A → b + sumN bothN (l.drop i) = B → K.take n = H → n ≤ K.length → Fr.get φ 4 = iv a → Fr.get φ 5 = iv b → Fr.get φ 10 = .sl 1 (l.map rowV) → Fr.get φ 11 = iv l.length → Fr.get φ 12 = iv i →
      Q (M (eval tbl noExt) (.code l_score_Score_0 :: .blk 0 :: k) φ K) := by
  intro j
  induction j with
  | zero =>
    intro i φ K a b hi ha hb hA hB hK hn h4 h5 h10 h11 h12
    have hlt : ¬ (i : Int) < l.length := by omega
    rw [List.drop_eq_nil_of_le (by omega)] at hA hB
    rw [l_score_Score_0, M_loop]
    simp [b_score_Score_0, h4, h5, h10, h11, h12, hlt]
    exact hexit _ _ hK hn (by rw [← hA]; simp [h4, sumN]) (by rw [← hB]; simp [h5, sumN])
  | succ j ih =>
    intro i φ K a b hi ha hb hA hB hK hn h4 h5 h10 h11 h12
    have hlt : i < l.length := by omega
    obtain ⟨c, hc⟩ : ∃ c, c = l[i] := ⟨_, rfl⟩
    have hc' : l[i]? = some c := by rw [hc]; exact List.getElem?_eq_getElem hlt
    have hmem : c ∈ l := by rw [hc]; exact List.getElem_mem _
    have hcl := hrow c hmem
    have hg : ∀ h : i < l.length, l[i] = c := fun h => hc.symm
    rw [List.drop_eq_getElem_cons hlt, ← hc] at hA hB
    simp only [sumN, List.map_cons, List.sum_cons] at hA hB
    have hr : (l.map rowV)[i]? = some [.sl 6 (c.map Ce.cells)] := by rw [List.getElem?_map, hc']; rfl
    have hrv : rowV c = [.sl 6 (c.map Ce.cells)] := rfl
    have k1 : c.countP (isSays 1) ≤ c.length := List.countP_le_length
    have k2 : c.countP (isSays 0) ≤ c.length := List.countP_le_length
    have e1 : (i : Int) < l.length := by omega
    have e2 : IntKind.i64.wrap ((i : Int) + 1) = ((i + 1 : Nat) : Int) := by rw [w64] <;> omega
    have hs1 := says_eq 1 K
    have hs0 := says_eq 0 (K ++ [some [iv 1]])
    have hc1 := countSays_eq c (by omega) 1 K.length (K ++ [some [iv 1]]) (by simp)
    have hc0 := countSays_eq c (by omega) 0 (K.length + 1) (K ++ [some [iv 1], some [iv 0]]) (by simp)
    simp at hs0
    obtain ⟨x, hx⟩ : ∃ x, x = c.countP (isSays 1) := ⟨_, rfl⟩
    obtain ⟨y, hy⟩ : ∃ y, y = c.countP (isSays 0) := ⟨_, rfl⟩
    have hkill : killN c = x := hx.symm
    have hboth : bothN c = x + y := by rw [hx, hy]; rfl
    rw [← hx] at hc1 k1
    rw [← hy] at hc0 k2
    rw [hkill] at hA
    rw [hboth] at hB
    have e3 : IntKind.i64.wrap ((a : Int) + x) = ((a + x : Nat) : Int) := by rw [w64] <;> omega
    have e4 : IntKind.i64.wrap ((x : Int) + y) = ((x + y : Nat) : Int) := by rw [w64] <;> omega
    have e5 : IntKind.i64.wrap ((b : Int) + ((x : Int) + y)) = ((b + (x + y) : Nat) : Int) := by rw [w64] <;> omega
    have e4' : IntKind.i64.wrap ((x : Int) + y) = (x : Int) + y := by rw [w64] <;> omega
    have hK2 : ∀ r, (K ++ r).take n = H := fun r => take_more hK hn r
    have hn2 : ∀ r : Heap, n ≤ (K ++ r).length := fun r => by simp; omega
    rw [l_score_Score_0, M_loop, ← l_score_Score_0]
    simp [b_score_Score_0, h4, h5, h10, h11, h12, hr, hrv, e1, e2, e3, e4', e5, hg, hlt, hs1, hs0, hc1, hc0]
    refine ih (i + 1) _ _ (a + x) (b + (x + y)) (by omega) (by omega) (by omega) (by simp only [sumN]; omega) (by simp only [sumN]; omega) (hK2 _) (hn2 _) ?_ ?_ ?_ ?_ ?_ <;> simp [h10, h11]

theorem Score_eq (m : Mx) (hm : m.few) (H : Heap) : eval tbl noExt n_score_Score [.agg m.cells] H = some (.tup [iv (sumN killN m.rows), iv (sumN bothN m.rows)], H) := by
  have hcell : m.cells = [.bool m.bad, .sl 6 (m.base.map Ce.cells), .sl 11 (m.sites.map Si.cells), .sl 1 (m.rows.map rowV)] := rfl
  rw [eval_M rfl rfl t_score_Score rfl]
  simp [c_score_Score, hcell]
  refine score_loop H.length H (fun r => r = some (.tup [iv (sumN killN m.rows), iv (sumN bothN m.rows)], H)) _ m.rows hm.rows hm.row (sumN killN m.rows) (sumN bothN m.rows) ?_ m.rows.length 0 _ _ 0 0 (by omega) (by omega) (by omega) (by simp) (by simp) (by simp) (by simp) ?_ ?_ ?_ ?_ ?_
  · intro φ' K' hK hn h4 h5
    simp [r_score_Score_0, h4, h5, hK]
  all_goals simp

end Go.AM.Spec

namespace Go.AM.Spec
set_option linter.unusedVariables false
set_option linter.unusedSimpArgs false
set_option maxHeartbeats 1000000
set_option maxRecDepth 10000

def comesTo (w : Int) (l : List Ce) : Bool := decide (sumC l = w)
def muts (m : Mx) (w : Int) : Nat := m.rows.countP (comesTo w)

theorem Mut11_eq (l : List Ce) (hl : l.length ≤ 30) (w : Int) (i : Nat) (K : Heap) (hi : K[i]? = some (some [iv w])) : eval tbl noExt n_score_Mutants_1_1 [.sl 6 (l.map Ce.cells), .ptr i 0] K = some (.bool (comesTo w l), K) := by
  have hS := Sum_eq l (by omega) []
  rw [eval_M rfl rfl t_score_Mutants_1_1 rfl]
  simp [c_score_Mutants_1_1, hS, hi, comesTo]

theorem Mut1_eq (m : Mx) (hm : m.few) (w : Int) (i : Nat) (K : Heap) (hi : K[i]? = some (some m.cells)) : eval tbl noExt n_score_Mutants_1 [iv w, .ptr i 0] K = some (iv (muts m w), K) := by
  have hcell : m.cells = [.bool m.bad, .sl 6 (m.base.map Ce.cells), .sl 11 (m.sites.map Si.cells), .sl 1 (m.rows.map rowV)] := rfl
  have hlt : i < K.length := by
    rcases Nat.lt_or_ge i K.length with h1 | h1
    · exact h1
    · rw [List.getElem?_eq_none h1] at hi; cases hi
  have hi2 : (K ++ [some [iv w]])[i]? = some (some m.cells) := by rw [List.getElem?_append_left hlt]; exact hi
  rw [hcell] at hi2
  have hc := countR_eq m.rows (by have := hm.rows; omega) (f := n_score_Mutants_1_1) (first := []) (cap := [.ptr K.length 0]) lt_score_Mutants_1_1 (comesTo w) (K ++ [some [iv w]]) (fun c hc => Mut11_eq c (hm.row c hc) w K.length _ (by simp))
  rw [eval_M rfl rfl t_score_Mutants_1 rfl]
  simp [c_score_Mutants_1, hi2, hc, muts]

theorem Mutants_eq (m : Mx) (hm : m.few) (H : Heap) : eval tbl noExt n_score_Mutants [.agg m.cells] H = some (.tup [iv (muts m 1), iv (muts m 0), iv (muts m 2)], H) := by
  have h1 := fun w => Mut1_eq m hm w H.length (H ++ [some m.cells]) (by simp)
  rw [eval_M rfl rfl t_score_Mutants rfl]
  have hp := lt_score_Mutants_1
  simp [c_score_Mutants, h1, hp]

/-! The document's. -/
theorem refMut_loop (m : Mx) (hm : m.few) (A : Heap) (n : Nat) (hA : A.length = n) (hn : A[n - 1]? = some (some m.cells)) (h0 : 0 < n) (Q : Option (V × Heap) → Prop) (k : List Item) (X0 X1 X2 : Nat)
    (hexit : ∀ φ', Fr.get φ' 5 = .ptr n 0 → Q (M (eval tbl noExt) k φ' (A ++ [some [iv X0, iv X1, iv X2]]))) :
    ∀ (j i : Nat) (φ : Fr) (x0 x1 x2 : Nat), i + j = m.rows.length → x0 ≤ i → x1 ≤ i → x2 ≤ i → x0 + (m.rows.drop i).countP (comesTo 0) = X0 → x1 + (m.rows.drop i).countP (comesTo 1) = X1 → x2 + (m.rows.drop i).countP (comesTo 2) = X2 →
      Fr.get φ 1 = .ptr (n - 1) 0 → Fr.get φ 5 = .ptr n 0 → Fr.get φ 6 = iv i → Q (M (eval tbl noExt) (.code l_flotsamref32_Mutants_0 :: .blk 0 :: k) φ (A ++ [some [iv x0, iv x1, iv x2]])) := by
  have hcell : m.cells = [.bool m.bad, .sl 6 (m.base.map Ce.cells), .sl 11 (m.sites.map Si.cells), .sl 1 (m.rows.map rowV)] := rfl
  have hrl := hm.rows
  have hget : ∀ r : Heap, (A ++ r)[n - 1]? = some (some m.cells) := fun r => by rw [List.getElem?_append_left (by omega)]; exact hn
  rw [hcell] at hget
  have hgn : ∀ x : Option (List V), (A ++ [x])[n]? = some x := fun x => by rw [← hA]; exact get0 ..
  have hset : ∀ x y : Option (List V), (A ++ [x]).set n y = A ++ [y] := fun x y => by rw [← hA]; exact set0 ..
  intro j
  induction j with
  | zero =>
    intro i φ x0 x1 x2 hi b0 b1 b2 hX0 hX1 hX2 h1 h5 h6
    have hlt : ¬ (i : Int) < m.rows.length := by omega
    rw [List.drop_eq_nil_of_le (by omega)] at hX0 hX1 hX2
    rw [l_flotsamref32_Mutants_0, M_loop]
    simp [b_flotsamref32_Mutants_0, h1, h5, h6, hlt, hget]
    have e0 : x0 = X0 := by simpa using hX0
    have e1 : x1 = X1 := by simpa using hX1
    have e2 : x2 = X2 := by simpa using hX2
    rw [e0, e1, e2]
    exact hexit _ (by simp [h5])
  | succ j ih =>
    intro i φ x0 x1 x2 hi b0 b1 b2 hX0 hX1 hX2 h1 h5 h6
    have hlt : i < m.rows.length := by omega
    obtain ⟨c, hc⟩ : ∃ c, c = m.rows[i] := ⟨_, rfl⟩
    have hc' : m.rows[i]? = some c := by rw [hc]; exact List.getElem?_eq_getElem hlt
    have hmem : c ∈ m.rows := by rw [hc]; exact List.getElem_mem _
    have hg : ∀ h : i < m.rows.length, m.rows[i] = c := fun h => hc.symm
    rw [List.drop_eq_getElem_cons hlt, ← hc, List.countP_cons] at hX0 hX1 hX2
    have hrv : rowV c = [.sl 6 (c.map Ce.cells)] := rfl
    have e1 : (i : Int) < m.rows.length := by omega
    have e2 : IntKind.i64.wrap ((i : Int) + 1) = ((i + 1 : Nat) : Int) := by rw [w64] <;> omega
    have f0 : IntKind.i64.wrap ((x0 : Int) + 1) = ((x0 + 1 : Nat) : Int) := by rw [w64] <;> omega
    have f1 : IntKind.i64.wrap ((x1 : Int) + 1) = ((x1 + 1 : Nat) : Int) := by rw [w64] <;> omega
    have f2 : IntKind.i64.wrap ((x2 : Int) + 1) = ((x2 + 1 : Nat) : Int) := by rw [w64] <;> omega
    have hS := refSum_eq c (by have := hm.row c hmem; omega) []
    rw [l_flotsamref32_Mutants_0, M_loop, ← l_flotsamref32_Mutants_0]
    rcases sumC_range c with hs | hs | hs
    · rw [hs] at hS
      have q0 : comesTo 0 c = true := by simp [comesTo, hs]
      have q1 : comesTo 1 c = false := by simp [comesTo, hs]
      have q2 : comesTo 2 c = false := by simp [comesTo, hs]
      simp only [q0, q1, q2, if_true, Bool.false_eq_true, if_false] at hX0 hX1 hX2
      simp [b_flotsamref32_Mutants_0, h1, h5, h6, hget, hgn, hset, hg, hlt, hrv, e1, e2, f0, hS]
      refine ih (i + 1) _ (x0 + 1) x1 x2 (by omega) (by omega) (by omega) (by omega) (by omega) (by omega) (by omega) ?_ ?_ ?_ <;> simp [h1, h5]
    · rw [hs] at hS
      have q0 : comesTo 0 c = false := by simp [comesTo, hs]
      have q1 : comesTo 1 c = true := by simp [comesTo, hs]
      have q2 : comesTo 2 c = false := by simp [comesTo, hs]
      simp only [q0, q1, q2, if_true, Bool.false_eq_true, if_false] at hX0 hX1 hX2
      simp [b_flotsamref32_Mutants_0, h1, h5, h6, hget, hgn, hset, hg, hlt, hrv, e1, e2, f1, hS]
      refine ih (i + 1) _ x0 (x1 + 1) x2 (by omega) (by omega) (by omega) (by omega) (by omega) (by omega) (by omega) ?_ ?_ ?_ <;> simp [h1, h5]
    · rw [hs] at hS
      have q0 : comesTo 0 c = false := by simp [comesTo, hs]
      have q1 : comesTo 1 c = false := by simp [comesTo, hs]
      have q2 : comesTo 2 c = true := by simp [comesTo, hs]
      simp only [q0, q1, q2, if_true, Bool.false_eq_true, if_false] at hX0 hX1 hX2
      simp [b_flotsamref32_Mutants_0, h1, h5, h6, hget, hgn, hset, hg, hlt, hrv, e1, e2, f2, hS]
      refine ih (i + 1) _ x0 x1 (x2 + 1) (by omega) (by omega) (by omega) (by omega) (by omega) (by omega) (by omega) ?_ ?_ ?_ <;> simp [h1, h5]

theorem refMutants_eq (m : Mx) (hm : m.few) (H : Heap) : eval tbl noExt n_flotsamref32_Mutants [.agg m.cells] H = some (.tup [iv (muts m 1), iv (muts m 0), iv (muts m 2)], H) := by
  rw [eval_M rfl rfl t_flotsamref32_Mutants rfl]
  simp [c_flotsamref32_Mutants]
  rw [show ∀ x : Option (List V), H ++ [some m.cells, x] = (H ++ [some m.cells]) ++ [x] from fun x => by simp]
  refine refMut_loop m hm (H ++ [some m.cells]) (H.length + 1) (by simp) (by simp) (by omega) (fun r => r = some (.tup [iv (muts m 1), iv (muts m 0), iv (muts m 2)], H)) _ (muts m 0) (muts m 1) (muts m 2) ?_ m.rows.length 0 _ 0 0 0 (by omega) (by omega) (by omega) (by omega) (by simp [muts]) (by simp [muts]) (by simp [muts]) ?_ ?_ ?_
  · intro φ' h5
    simp [r_flotsamref32_Mutants_0, h5]
  all_goals simp

theorem refScoreIn_loop (m : Mx) (hm : m.few) (K : Heap) (n : Nat) (hn : K[n]? = some (some m.cells)) (i : Nat) (c : List Ce) (hc : m.rows[i]? = some c) (Q : Option (V × Heap) → Prop) (call : CallF) (k : List Item) (X Y : Nat)
    (hexit : ∀ φ', Fr.get φ' 1 = .ptr n 0 → Fr.get φ' 4 = iv X → Fr.get φ' 5 = iv Y → Fr.get φ' 6 = iv i → Q (M call k φ' K)) :
    ∀ (j q : Nat) (φ : Fr) (a b : Nat), q + j = c.length → a ≤ 10000 + q → b ≤ 10000 + q → a + (c.drop q).countP (isSays 1) = X → b + ((c.drop q).countP (isSays 1) + (c.drop q).countP (isSays 0)) = Y →
      Fr.get φ 1 = .ptr n 0 → Fr.get φ 4 = iv a → Fr.get φ 5 = iv b → Fr.get φ 6 = iv i → Fr.get φ 7 = iv q → Q (M call (.code l_flotsamref32_Score_0 :: .blk 2 :: k) φ K) := by
  have hcell : m.cells = [.bool m.bad, .sl 6 (m.base.map Ce.cells), .sl 11 (m.sites.map Si.cells), .sl 1 (m.rows.map rowV)] := rfl
  rw [hcell] at hn
  have hlti : i < m.rows.length := by
    rcases Nat.lt_or_ge i m.rows.length with h1 | h1
    · exact h1
    · rw [List.getElem?_eq_none h1] at hc; cases hc
  have hmem : c ∈ m.rows := List.mem_of_getElem? hc
  have hcl := hm.row c hmem
  have hgi : ∀ h : i < m.rows.length, m.rows[i] = c := fun h => by
    rw [List.getElem?_eq_getElem h] at hc
    exact Option.some.inj hc
  have hrv : rowV c = [.sl 6 (c.map Ce.cells)] := rfl
  intro j
  induction j with
  | zero =>
    intro q φ a b hq ha hb hX hY h1 h4 h5 h6 h7
    have hlt : ¬ (q : Int) < c.length := by omega
    rw [List.drop_eq_nil_of_le (by omega)] at hX hY
    rw [l_flotsamref32_Score_0, M_loop]
    simp [b_flotsamref32_Score_0, h1, h4, h5, h6, h7, hn, hlti, hgi, hrv, hlt]
    exact hexit _ (by simp [h1]) (by rw [← hX]; simp [h4]) (by rw [← hY]; simp [h5]) (by simp [h6])
  | succ j ih =>
    intro q φ a b hq ha hb hX hY h1 h4 h5 h6 h7
    have hlt : q < c.length := by omega
    obtain ⟨e, he⟩ : ∃ e, e = c[q] := ⟨_, rfl⟩
    have he' : c[q]? = some e := by rw [he]; exact List.getElem?_eq_getElem hlt
    have hg : ∀ h : q < c.length, c[q] = e := fun h => he.symm
    rw [List.drop_eq_getElem_cons hlt, ← he, List.countP_cons] at hX
    rw [List.drop_eq_getElem_cons hlt, ← he, List.countP_cons, List.countP_cons] at hY
    have hecell : e.cells = [iv e.says, iv e.point, uv e.kept, iv e.verdict, iv e.err, iv e.limit] := rfl
    have e1 : (q : Int) < c.length := by omega
    have e2 : IntKind.i64.wrap ((q : Int) + 1) = ((q + 1 : Nat) : Int) := by rw [w64] <;> omega
    have f0 : IntKind.i64.wrap ((a : Int) + 1) = ((a + 1 : Nat) : Int) := by rw [w64] <;> omega
    have f1 : IntKind.i64.wrap ((b : Int) + 1) = ((b + 1 : Nat) : Int) := by rw [w64] <;> omega
    rw [l_flotsamref32_Score_0, M_loop, ← l_flotsamref32_Score_0]
    by_cases a1 : e.says = 1
    · have q1 : isSays 1 e = true := by simp [isSays, a1]
      have q0 : isSays 0 e = false := by simp [isSays, a1]
      simp only [q1, q0, if_true, Bool.false_eq_true, if_false] at hX hY
      simp [b_flotsamref32_Score_0, h1, h4, h5, h6, h7, hn, hlti, hgi, hrv, hlt, hg, hecell, e1, e2, f0, f1, a1]
      refine ih (q + 1) _ (a + 1) (b + 1) (by omega) (by omega) (by omega) (by omega) (by omega) ?_ ?_ ?_ ?_ ?_ <;> simp [h1, h6]
    · by_cases a0 : e.says = 0
      · have q1 : isSays 1 e = false := by simp [isSays, a0]
        have q0 : isSays 0 e = true := by simp [isSays, a0]
        simp only [q1, q0, if_true, Bool.false_eq_true, if_false] at hX hY
        simp [b_flotsamref32_Score_0, h1, h4, h5, h6, h7, hn, hlti, hgi, hrv, hlt, hg, hecell, e1, e2, f0, f1, a0]
        refine ih (q + 1) _ a (b + 1) (by omega) (by omega) (by omega) (by omega) (by omega) ?_ ?_ ?_ ?_ ?_ <;> simp [h1, h4, h6]
      · have q1 : isSays 1 e = false := by simp [isSays, a1]
        have q0 : isSays 0 e = false := by simp [isSays, a0]
        simp only [q1, q0, if_true, Bool.false_eq_true, if_false] at hX hY
        simp [b_flotsamref32_Score_0, h1, h4, h5, h6, h7, hn, hlti, hgi, hrv, hlt, hg, hecell, e1, e2, f0, f1, a0, a1]
        refine ih (q + 1) _ a b (by omega) (by omega) (by omega) (by omega) (by omega) ?_ ?_ ?_ ?_ ?_ <;> simp [h1, h4, h5, h6]

theorem refScore_loop (m : Mx) (hm : m.few) (K : Heap) (n : Nat) (hn : K[n]? = some (some m.cells)) (Q : Option (V × Heap) → Prop) (call : CallF) (k : List Item) (A B : Nat)
    (hexit : ∀ φ', Fr.get φ' 4 = iv A → Fr.get φ' 5 = iv B → Q (M call k φ' K)) :
    ∀ (j i : Nat) (φ : Fr) (a b : Nat), i + j = m.rows.length → a ≤ 100 * i → b ≤ 100 * i → a + sumN killN (m.rows.drop i) = A → b + sumN bothN (m.rows.drop i) = B →
      Fr.get φ 1 = .ptr n 0 → Fr.get φ 4 = iv a → Fr.get φ 5 = iv b → Fr.get φ 6 = iv i → Q (M call (.code l_flotsamref32_Score_1 :: .blk 0 :: k) φ K) := by
  have hcell : m.cells = [.bool m.bad, .sl 6 (m.base.map Ce.cells), .sl 11 (m.sites.map Si.cells), .sl 1 (m.rows.map rowV)] := rfl
  have hn2 := hn
  rw [hcell] at hn2
  have hrl := hm.rows
  intro j
  induction j with
  | zero =>
    intro i φ a b hi ha hb hA hB h1 h4 h5 h6
    have hlt : ¬ (i : Int) < m.rows.length := by omega
    rw [List.drop_eq_nil_of_le (by omega)] at hA hB
    rw [l_flotsamref32_Score_1, M_loop]
    simp [b_flotsamref32_Score_1, h1, h4, h5, h6, hn2, hlt]
    exact hexit _ (by rw [← hA]; simp [h4, sumN]) (by rw [← hB]; simp [h5, sumN])
  | succ j ih =>
    intro i φ a b hi ha hb hA hB h1 h4 h5 h6
    have hlt : i < m.rows.length := by omega
    obtain ⟨c, hc⟩ : ∃ c, c = m.rows[i] := ⟨_, rfl⟩
    have hc' : m.rows[i]? = some c := by rw [hc]; exact List.getElem?_eq_getElem hlt
    have hmem : c ∈ m.rows := by rw [hc]; exact List.getElem_mem _
    have hcl := hm.row c hmem
    rw [List.drop_eq_getElem_cons hlt, ← hc] at hA hB
    simp only [sumN, List.map_cons, List.sum_cons] at hA hB
    have e1 : (i : Int) < m.rows.length := by omega
    have e2 : IntKind.i64.wrap ((i : Int) + 1) = ((i + 1 : Nat) : Int) := by rw [w64] <;> omega
    have k1 : c.countP (isSays 1) ≤ c.length := List.countP_le_length
    have k2 : c.countP (isSays 0) ≤ c.length := List.countP_le_length
    have d1 : killN c = c.countP (isSays 1) := rfl
    have d2 : bothN c = c.countP (isSays 1) + c.countP (isSays 0) := rfl
    rw [l_flotsamref32_Score_1, M_loop, ← l_flotsamref32_Score_1]
    simp [b_flotsamref32_Score_1, h1, h4, h5, h6, hn2, e1]
    refine refScoreIn_loop m hm K n hn i c hc' Q call _ (a + killN c) (b + bothN c) ?_ c.length 0 _ a b (by omega) (by omega) (by omega) (by simp [d1]) (by simp [d2]) ?_ ?_ ?_ ?_ ?_
    · intro φ' p1 p4 p5 p6
      simp [r_flotsamref32_Score_0, p1, p4, p5, p6, e2]
      refine ih (i + 1) _ (a + killN c) (b + bothN c) (by omega) (by omega) (by omega) (by simp only [sumN]; omega) (by simp only [sumN]; omega) ?_ ?_ ?_ ?_ <;> simp [p1, p4, p5]
    all_goals simp [h1, h4, h5, h6]

theorem refScore_eq (m : Mx) (hm : m.few) (H : Heap) : eval tbl noExt n_flotsamref32_Score [.agg m.cells] H = some (.tup [iv (sumN killN m.rows), iv (sumN bothN m.rows)], H) := by
  rw [eval_M rfl rfl t_flotsamref32_Score rfl]
  simp [c_flotsamref32_Score]
  refine refScore_loop m hm _ H.length (by simp) (fun r => r = some (.tup [iv (sumN killN m.rows), iv (sumN bothN m.rows)], H)) _ _ (sumN killN m.rows) (sumN bothN m.rows) ?_ m.rows.length 0 _ 0 0 (by omega) (by omega) (by omega) (by simp) (by simp) ?_ ?_ ?_ ?_
  · intro φ' h4 h5
    simp [r_flotsamref32_Score_1, h4, h5]
  all_goals simp

end Go.AM.Spec

namespace Go.AM.Spec
set_option linter.unusedVariables false
set_option linter.unusedSimpArgs false
set_option maxHeartbeats 1000000
set_option maxRecDepth 10000

/-- Does a row's cell k say so? -/
def killsAt (k : Nat) (l : List Ce) : Bool := match l[k]? with
  | some c => decide (c.says = 1)
  | none => false
def ir (n : Nat) : List V := [iv n]
def oracles (m : Mx) : List Nat := (List.range m.base.length).map fun k => m.rows.countP (killsAt k)
def aloneAt (k : Nat) (l : List Ce) : Bool := killsAt k l && decide (l.countP (isSays 1) = 1)
def needed (m : Mx) : List Nat := (List.range m.base.length).filter fun k => m.rows.any (aloneAt k)

theorem kills_eq (k : Nat) (H : Heap) : eval tbl noExt n_score_kills [iv k] H = some (.fn (.func n_score_kills_1) [] [.ptr H.length 0], H ++ [some [iv k]]) := by
  rw [eval_M rfl rfl t_score_kills rfl]
  simp [c_score_kills]

theorem kills_own (k n : Nat) : callOwn (eval tbl noExt) n_score_kills [iv k] n = some (.fn (.func n_score_kills_1) [] [.ptr n 0], [some [iv k]]) := by
  unfold callOwn
  rw [kills_eq]
  simp

theorem kills1_eq (k : Nat) (l : List Ce) (i : Nat) (K : Heap) (hi : K[i]? = some (some [iv k])) : eval tbl noExt n_score_kills_1 [.sl 6 (l.map Ce.cells), .ptr i 0] K = some (.bool (killsAt k l), K) := by
  rw [eval_M rfl rfl t_score_kills_1 rfl]
  unfold killsAt
  by_cases hk : k < l.length
  · obtain ⟨e, he⟩ : ∃ e, e = l[k] := ⟨_, rfl⟩
    have hg : ∀ h : k < l.length, l[k] = e := fun h => he.symm
    have hk' : (k : Int) < l.length := by omega
    have hecell : e.cells = [iv e.says, iv e.point, uv e.kept, iv e.verdict, iv e.err, iv e.limit] := rfl
    simp [c_score_kills_1, hi, hk, hk', hg, hecell]
  · have hk' : ¬ (k : Int) < l.length := by omega
    have hno : l[k]? = none := List.getElem?_eq_none (by omega)
    simp [c_score_kills_1, hi, hk', hno]

theorem refKills_eq (k : Nat) (l : List Ce) (K : Heap) : eval tbl noExt n_flotsamref32_kills [.sl 6 (l.map Ce.cells), iv k] K = some (.bool (killsAt k l), K) := by
  rw [eval_M rfl rfl t_flotsamref32_kills rfl]
  unfold killsAt
  by_cases hk : k < l.length
  · obtain ⟨e, he⟩ : ∃ e, e = l[k] := ⟨_, rfl⟩
    have hg : ∀ h : k < l.length, l[k] = e := fun h => he.symm
    have hk' : (k : Int) < l.length := by omega
    have hecell : e.cells = [iv e.says, iv e.point, uv e.kept, iv e.verdict, iv e.err, iv e.limit] := rfl
    simp [c_flotsamref32_kills, hk, hk', hg, hecell]
  · have hk' : ¬ (k : Int) < l.length := by omega
    have hno : l[k]? = none := List.getElem?_eq_none (by omega)
    simp [c_flotsamref32_kills, hk', hno]

theorem oracles_loop (m : Mx) (hm : m.few) (n : Nat) (H : Heap) (q : Nat) (hq : H[q]? = some (some m.cells)) (Q : Option (V × Heap) → Prop) (k : List Item)
    (hexit : ∀ φ' K', K'.take n = H → n ≤ K'.length → Fr.get φ' 3 = .own 1 ((oracles m).map ir) → Q (M (eval tbl noExt) k φ' K')) :
    ∀ (j i : Nat) (φ : Fr) (K : Heap), i + j = m.base.length → K.take n = H → n ≤ K.length → Fr.get φ 1 = .ptr q 0 → Fr.get φ 3 = .own 1 (((List.range i).map fun k => m.rows.countP (killsAt k)).map ir) → Fr.get φ 7 = iv m.base.length → Fr.get φ 8 = iv i →
      Q (M (eval tbl noExt) (.code l_score_Oracles_0 :: .blk 0 :: k) φ K) := by
  have hcell : m.cells = [.bool m.bad, .sl 6 (m.base.map Ce.cells), .sl 11 (m.sites.map Si.cells), .sl 1 (m.rows.map rowV)] := rfl
  have hbl := hm.base
  have hrl := hm.rows
  intro j
  induction j with
  | zero =>
    intro i φ K hi hK hn h1 h3 h7 h8
    obtain rfl : i = m.base.length := by omega
    rw [l_score_Oracles_0, M_loop]
    simp [b_score_Oracles_0, h1, h3, h7, h8]
    exact hexit _ _ hK hn (by simp [h3, oracles])
  | succ j ih =>
    intro i φ K hi hK hn h1 h3 h7 h8
    have e1 : (i : Int) < m.base.length := by omega
    have e2 : IntKind.i64.wrap ((i : Int) + 1) = ((i + 1 : Nat) : Int) := by rw [w64] <;> omega
    have hKq := get_take hK hq
    rw [hcell] at hKq
    have hK2 : ∀ r, (K ++ r).take n = H := fun r => take_more hK hn r
    have hn2 : ∀ r : Heap, n ≤ (K ++ r).length := fun r => by simp; omega
    have hx := kills_own i K.length
    have hc := countR_eq m.rows (by omega) (f := n_score_kills_1) (first := []) (cap := [.ptr K.length 0]) lt_score_kills_1 (killsAt i) (K ++ [some [iv i]]) (fun c _ => kills1_eq i c K.length _ (by simp))
    obtain ⟨rows, hrows⟩ : ∃ rows, rows = ((List.range i).map fun k => m.rows.countP (killsAt k)).map ir := ⟨_, rfl⟩
    have hlen : rows.length = i := by rw [hrows]; simp
    rw [← hrows] at h3
    have hcap : 2 * (rows.length + 1) * 8 ≤ 281474976710656 := by omega
    have hnext : rows ++ [[iv (m.rows.countP (killsAt i) : Nat)]] = ((List.range (i + 1)).map fun k => m.rows.countP (killsAt k)).map ir := by
      rw [hrows, List.range_succ, List.map_append, List.map_append]; rfl
    clear hrows
    rw [l_score_Oracles_0, M_loop, ← l_score_Oracles_0]
    simp [b_score_Oracles_0, h1, h3, h7, h8, hKq, e1, e2, hx, hc, hcap]
    refine ih (i + 1) _ _ (by omega) (hK2 _) (hn2 _) ?_ (by rw [← hnext]; simp) ?_ ?_ <;> simp [h1, h7]

theorem Oracles_eq (m : Mx) (hm : m.few) (H : Heap) : eval tbl noExt n_score_Oracles [.agg m.cells] H = some (.own 1 ((oracles m).map ir), H) := by
  have hcell : m.cells = [.bool m.bad, .sl 6 (m.base.map Ce.cells), .sl 11 (m.sites.map Si.cells), .sl 1 (m.rows.map rowV)] := rfl
  rw [eval_M rfl rfl t_score_Oracles rfl]
  simp [c_score_Oracles]
  have h1 : m.cells[1]? = some (.sl 6 (m.base.map Ce.cells)) := rfl
  simp [h1]
  refine oracles_loop m hm (H.length + 1) (H ++ [some m.cells]) H.length (by simp) (fun r => r = some (.own 1 ((oracles m).map ir), H)) _ ?_ m.base.length 0 _ _ (by omega) ?_ ?_ ?_ ?_ ?_ ?_
  · intro φ' K' hK hn h3
    have hK1 : K'.take H.length = H := by
      have : (K'.take (H.length + 1)).take H.length = H := by rw [hK]; simp
      rwa [List.take_take, show min H.length (H.length + 1) = H.length by omega] at this
    simp [r_score_Oracles_0, h3, hK1]
  all_goals (first | (simp; done) | exact List.take_of_length_le (by simp))

/-! Needed. -/
theorem Needed1_eq (k : Nat) (l : List Ce) (hl : l.length ≤ 30) (i : Nat) (K : Heap) (hi : K[i]? = some (some [iv k])) : eval tbl noExt n_score_Needed_1 [.sl 6 (l.map Ce.cells), .ptr i 0] K = some (.bool (aloneAt k l), K) := by
  have hk := kills_eq k K
  have hk1 := kills1_eq k l K.length (K ++ [some [iv k]]) (by simp)
  have hs := says_eq 1 (K ++ [some [iv k]])
  have hc := countSays_eq l (by omega) 1 (K.length + 1) (K ++ [some [iv k], some [iv 1]]) (by simp)
  have hp := lt_score_kills_1
  simp at hs
  rw [eval_M rfl rfl t_score_Needed_1 rfl]
  unfold aloneAt
  cases hb : killsAt k l with
  | false =>
    rw [hb] at hk1
    simp [c_score_Needed_1, hi, hk, hk1, hp]
  | true =>
    rw [hb] at hk1
    by_cases h1 : l.countP (isSays 1) = 1
    · rw [h1] at hc
      simp [c_score_Needed_1, hi, hk, hk1, hs, hc, hp, h1]
    · have h1' : ¬ ((l.countP (isSays 1) : Nat) : Int) = 1 := by omega
      simp [c_score_Needed_1, hi, hk, hk1, hs, hc, hp, h1, h1']

theorem needed_loop (m : Mx) (hm : m.few) (n : Nat) (H : Heap) (q : Nat) (hq : H[q]? = some (some m.cells)) (Q : Option (V × Heap) → Prop) (k : List Item)
    (hexit : ∀ φ' K', K'.take n = H → n ≤ K'.length → Fr.get φ' 3 = .own 1 ((needed m).map ir) → Q (M (eval tbl noExt) k φ' K')) :
    ∀ (j i : Nat) (φ : Fr) (K : Heap), i + j = m.base.length → K.take n = H → n ≤ K.length → Fr.get φ 1 = .ptr q 0 → Fr.get φ 3 = .own 1 (((List.range i).filter fun k => m.rows.any (aloneAt k)).map ir) → Fr.get φ 8 = iv m.base.length → Fr.get φ 9 = iv i →
      Q (M (eval tbl noExt) (.code l_score_Needed_0 :: .blk 0 :: k) φ K) := by
  have hcell : m.cells = [.bool m.bad, .sl 6 (m.base.map Ce.cells), .sl 11 (m.sites.map Si.cells), .sl 1 (m.rows.map rowV)] := rfl
  have hbl := hm.base
  have hrl := hm.rows
  intro j
  induction j with
  | zero =>
    intro i φ K hi hK hn h1 h3 h8 h9
    obtain rfl : i = m.base.length := by omega
    rw [l_score_Needed_0, M_loop]
    simp [b_score_Needed_0, h1, h3, h8, h9]
    exact hexit _ _ hK hn (by simp [h3, needed])
  | succ j ih =>
    intro i φ K hi hK hn h1 h3 h8 h9
    have e1 : (i : Int) < m.base.length := by omega
    have e2 : IntKind.i64.wrap ((i : Int) + 1) = ((i + 1 : Nat) : Int) := by rw [w64] <;> omega
    have hKq : ∀ r : Heap, (K ++ r)[q]? = some (some m.cells) := fun r => get_take (take_more hK hn r) hq
    rw [hcell] at hKq
    have hK2 : ∀ r, (K ++ r).take n = H := fun r => take_more hK hn r
    have hn2 : ∀ r : Heap, n ≤ (K ++ r).length := fun r => by simp; omega
    have hc := ContainsFunc_api_Cell_api_Cell (f := n_score_Needed_1) (first := []) (cap := [.ptr K.length 0]) lt_score_Needed_1 (fun c : List Ce => c.map Ce.cells) m.rows (by omega) (aloneAt i) (K ++ [some [iv i]]) (fun c hc => Needed1_eq i c (hm.row c hc) K.length _ (by simp))
    have hrv : (m.rows.map fun a => [V.sl 6 (a.map Ce.cells)]) = m.rows.map rowV := rfl
    rw [hrv] at hc
    obtain ⟨rows, hrows⟩ : ∃ rows, rows = ((List.range i).filter fun k => m.rows.any (aloneAt k)).map ir := ⟨_, rfl⟩
    have hlen : rows.length ≤ 30 := by
      rw [hrows, List.length_map]
      have := List.length_filter_le (fun k => m.rows.any (aloneAt k)) (List.range i)
      simp at this ⊢
      omega
    rw [← hrows] at h3
    have hcap : 2 * (rows.length + 1) * 8 ≤ 281474976710656 := by omega
    rw [l_score_Needed_0, M_loop, ← l_score_Needed_0]
    cases hb : m.rows.any (aloneAt i) with
    | true =>
      have hnext : rows ++ [[iv i]] = ((List.range (i + 1)).filter fun k => m.rows.any (aloneAt k)).map ir := by
        rw [hrows, List.range_succ, List.filter_append, List.map_append]
        simp [hb, ir]
      rw [hb] at hc
      clear hrows
      simp [b_score_Needed_0, h1, h3, h8, h9, hKq, e1, e2, hc, hcap]
      refine ih (i + 1) _ _ (by omega) (hK2 _) (hn2 _) ?_ (by rw [← hnext]; simp) ?_ ?_ <;> simp [h1, h8]
    | false =>
      have hnext : rows = ((List.range (i + 1)).filter fun k => m.rows.any (aloneAt k)).map ir := by
        rw [hrows, List.range_succ, List.filter_append, List.map_append]
        simp [hb]
      rw [hb] at hc
      clear hrows
      simp [b_score_Needed_0, h1, h3, h8, h9, hKq, e1, e2, hc, hcap]
      refine ih (i + 1) _ _ (by omega) (hK2 _) (hn2 _) ?_ (by rw [← hnext]; simp [h3]) ?_ ?_ <;> simp [h1, h8]

theorem Needed_eq (m : Mx) (hm : m.few) (H : Heap) : eval tbl noExt n_score_Needed [.agg m.cells] H = some (.own 1 ((needed m).map ir), H) := by
  rw [eval_M rfl rfl t_score_Needed rfl]
  simp [c_score_Needed]
  have h1 : m.cells[1]? = some (.sl 6 (m.base.map Ce.cells)) := rfl
  simp [h1]
  refine needed_loop m hm (H.length + 1) (H ++ [some m.cells]) H.length (by simp) (fun r => r = some (.own 1 ((needed m).map ir), H)) _ ?_ m.base.length 0 _ _ (by omega) ?_ ?_ ?_ ?_ ?_ ?_
  · intro φ' K' hK hn h3
    have hK1 : K'.take H.length = H := by
      have : (K'.take (H.length + 1)).take H.length = H := by rw [hK]; simp
      rwa [List.take_take, show min H.length (H.length + 1) = H.length by omega] at this
    simp [r_score_Needed_0, h3, hK1]
  all_goals (first | (simp; done) | exact List.take_of_length_le (by simp))

end Go.AM.Spec

namespace Go.AM.Spec
set_option linter.unusedVariables false
set_option linter.unusedSimpArgs false
set_option maxHeartbeats 1000000
set_option maxRecDepth 10000

theorem refOrIn_loop (m : Mx) (hm : m.few) (K : Heap) (n : Nat) (hn : K[n]? = some (some m.cells)) (q : Nat) (v3 : V) (Q : Option (V × Heap) → Prop) (k : List Item) (X : Nat)
    (hexit : ∀ φ', Fr.get φ' 1 = .ptr n 0 → Fr.get φ' 3 = v3 → Fr.get φ' 4 = iv q → Fr.get φ' 5 = iv X → Q (M (eval tbl noExt) k φ' K)) :
    ∀ (j i : Nat) (φ : Fr) (a : Nat), i + j = m.rows.length → a ≤ i → a + (m.rows.drop i).countP (killsAt q) = X →
      Fr.get φ 1 = .ptr n 0 → Fr.get φ 3 = v3 → Fr.get φ 4 = iv q → Fr.get φ 5 = iv a → Fr.get φ 6 = iv i → Q (M (eval tbl noExt) (.code l_flotsamref32_Oracles_0 :: .blk 2 :: k) φ K) := by
  have hcell : m.cells = [.bool m.bad, .sl 6 (m.base.map Ce.cells), .sl 11 (m.sites.map Si.cells), .sl 1 (m.rows.map rowV)] := rfl
  rw [hcell] at hn
  have hrl := hm.rows
  intro j
  induction j with
  | zero =>
    intro i φ a hi ha hX h1 h3 h4 h5 h6
    have hlt : ¬ (i : Int) < m.rows.length := by omega
    rw [List.drop_eq_nil_of_le (by omega)] at hX
    rw [l_flotsamref32_Oracles_0, M_loop]
    simp [b_flotsamref32_Oracles_0, h1, h3, h4, h5, h6, hn, hlt]
    exact hexit _ (by simp [h1]) (by simp [h3]) (by simp [h4]) (by rw [← hX]; simp [h5])
  | succ j ih =>
    intro i φ a hi ha hX h1 h3 h4 h5 h6
    have hlt : i < m.rows.length := by omega
    obtain ⟨c, hc⟩ : ∃ c, c = m.rows[i] := ⟨_, rfl⟩
    have hg : ∀ h : i < m.rows.length, m.rows[i] = c := fun h => hc.symm
    rw [List.drop_eq_getElem_cons hlt, ← hc, List.countP_cons] at hX
    have hrv : rowV c = [.sl 6 (c.map Ce.cells)] := rfl
    have e1 : (i : Int) < m.rows.length := by omega
    have e2 : IntKind.i64.wrap ((i : Int) + 1) = ((i + 1 : Nat) : Int) := by rw [w64] <;> omega
    have e3 : IntKind.i64.wrap ((a : Int) + 1) = ((a + 1 : Nat) : Int) := by rw [w64] <;> omega
    have hk := refKills_eq q c []
    rw [l_flotsamref32_Oracles_0, M_loop, ← l_flotsamref32_Oracles_0]
    cases hb : killsAt q c with
    | true =>
      rw [hb] at hk
      simp only [hb, if_true] at hX
      simp [b_flotsamref32_Oracles_0, h1, h3, h4, h5, h6, hn, hlt, hg, hrv, e1, e2, e3, hk]
      refine ih (i + 1) _ (a + 1) (by omega) (by omega) (by omega) ?_ ?_ ?_ ?_ ?_ <;> simp [h1, h3, h4]
    | false =>
      rw [hb] at hk
      simp only [hb, Bool.false_eq_true, if_false] at hX
      simp [b_flotsamref32_Oracles_0, h1, h3, h4, h5, h6, hn, hlt, hg, hrv, e1, e2, e3, hk]
      refine ih (i + 1) _ a (by omega) (by omega) (by omega) ?_ ?_ ?_ ?_ ?_ <;> simp [h1, h3, h4, h5]

theorem refOr_loop (m : Mx) (hm : m.few) (K : Heap) (n : Nat) (hn : K[n]? = some (some m.cells)) (Q : Option (V × Heap) → Prop) (k : List Item)
    (hexit : ∀ φ', Fr.get φ' 3 = .own 1 ((oracles m).map ir) → Q (M (eval tbl noExt) k φ' K)) :
    ∀ (j i : Nat) (φ : Fr), i + j = m.base.length → Fr.get φ 1 = .ptr n 0 → Fr.get φ 3 = .own 1 (((List.range i).map fun k => m.rows.countP (killsAt k)).map ir) → Fr.get φ 4 = iv i →
      Q (M (eval tbl noExt) (.code l_flotsamref32_Oracles_1 :: .blk 0 :: k) φ K) := by
  have hcell : m.cells = [.bool m.bad, .sl 6 (m.base.map Ce.cells), .sl 11 (m.sites.map Si.cells), .sl 1 (m.rows.map rowV)] := rfl
  have hn2 := hn
  rw [hcell] at hn2
  have hbl := hm.base
  intro j
  induction j with
  | zero =>
    intro i φ hi h1 h3 h4
    obtain rfl : i = m.base.length := by omega
    rw [l_flotsamref32_Oracles_1, M_loop]
    simp [b_flotsamref32_Oracles_1, h1, h3, h4, hn2]
    exact hexit _ (by simp [h3, oracles])
  | succ j ih =>
    intro i φ hi h1 h3 h4
    have e1 : (i : Int) < m.base.length := by omega
    have e2 : IntKind.i64.wrap ((i : Int) + 1) = ((i + 1 : Nat) : Int) := by rw [w64] <;> omega
    obtain ⟨rows, hrows⟩ : ∃ rows, rows = ((List.range i).map fun k => m.rows.countP (killsAt k)).map ir := ⟨_, rfl⟩
    have hlen : rows.length = i := by rw [hrows]; simp
    rw [← hrows] at h3
    have hcap : 2 * (rows.length + 1) * 8 ≤ 281474976710656 := by omega
    have hnext : rows ++ [[iv (m.rows.countP (killsAt i) : Nat)]] = ((List.range (i + 1)).map fun k => m.rows.countP (killsAt k)).map ir := by
      rw [hrows, List.range_succ, List.map_append, List.map_append]; rfl
    clear hrows
    rw [l_flotsamref32_Oracles_1, M_loop, ← l_flotsamref32_Oracles_1]
    simp [b_flotsamref32_Oracles_1, h1, h3, h4, hn2, e1]
    refine refOrIn_loop m hm K n hn i (.own 1 rows) Q _ (m.rows.countP (killsAt i)) ?_ m.rows.length 0 _ 0 (by omega) (Nat.le_refl _) (by simp) ?_ ?_ ?_ ?_ ?_
    · intro φ' p1 p3 p4 p5
      simp [r_flotsamref32_Oracles_0, r_flotsamref32_Oracles_1, p1, p3, p4, p5, e2, hcap]
      refine ih (i + 1) _ (by omega) ?_ (by rw [← hnext]; simp) ?_ <;> simp [p1]
    all_goals simp [h1, h3, h4]

theorem refOracles_eq (m : Mx) (hm : m.few) (H : Heap) : eval tbl noExt n_flotsamref32_Oracles [.agg m.cells] H = some (.own 1 ((oracles m).map ir), H) := by
  rw [eval_M rfl rfl t_flotsamref32_Oracles rfl]
  simp [c_flotsamref32_Oracles]
  refine refOr_loop m hm _ H.length (by simp) (fun r => r = some (.own 1 ((oracles m).map ir), H)) _ ?_ m.base.length 0 _ (by omega) ?_ ?_ ?_
  · intro φ' h3
    simp [r_flotsamref32_Oracles_2, h3]
  all_goals simp

/-! Needed. -/
theorem refNeIn_loop (m : Mx) (hm : m.few) (K : Heap) (n : Nat) (hn : K[n]? = some (some m.cells)) (i : Nat) (c : List Ce) (hc : m.rows[i]? = some c) (v3 v4 v5 : V) (Q : Option (V × Heap) → Prop) (k : List Item) (X : Nat)
    (hexit : ∀ φ', Fr.get φ' 1 = .ptr n 0 → Fr.get φ' 3 = v3 → Fr.get φ' 4 = v4 → Fr.get φ' 5 = v5 → Fr.get φ' 6 = iv i → Fr.get φ' 7 = iv X → Q (M (eval tbl noExt) k φ' K)) :
    ∀ (j q : Nat) (φ : Fr) (a : Nat), q + j = c.length → a ≤ q → a + (c.drop q).countP (isSays 1) = X →
      Fr.get φ 1 = .ptr n 0 → Fr.get φ 3 = v3 → Fr.get φ 4 = v4 → Fr.get φ 5 = v5 → Fr.get φ 6 = iv i → Fr.get φ 7 = iv a → Fr.get φ 8 = iv q → Q (M (eval tbl noExt) (.code l_flotsamref32_Needed_0 :: .blk 4 :: k) φ K) := by
  have hcell : m.cells = [.bool m.bad, .sl 6 (m.base.map Ce.cells), .sl 11 (m.sites.map Si.cells), .sl 1 (m.rows.map rowV)] := rfl
  rw [hcell] at hn
  have hlti : i < m.rows.length := by
    rcases Nat.lt_or_ge i m.rows.length with h1 | h1
    · exact h1
    · rw [List.getElem?_eq_none h1] at hc; cases hc
  have hmem : c ∈ m.rows := List.mem_of_getElem? hc
  have hcl := hm.row c hmem
  have hgi : ∀ h : i < m.rows.length, m.rows[i] = c := fun h => by
    rw [List.getElem?_eq_getElem h] at hc
    exact Option.some.inj hc
  have hrv : rowV c = [.sl 6 (c.map Ce.cells)] := rfl
  intro j
  induction j with
  | zero =>
    intro q φ a hq ha hX h1 h3 h4 h5 h6 h7 h8
    have hlt : ¬ (q : Int) < c.length := by omega
    rw [List.drop_eq_nil_of_le (by omega)] at hX
    rw [l_flotsamref32_Needed_0, M_loop]
    simp [b_flotsamref32_Needed_0, h1, h3, h4, h5, h6, h7, h8, hn, hlti, hgi, hrv, hlt]
    exact hexit _ (by simp [h1]) (by simp [h3]) (by simp [h4]) (by simp [h5]) (by simp [h6]) (by rw [← hX]; simp [h7])
  | succ j ih =>
    intro q φ a hq ha hX h1 h3 h4 h5 h6 h7 h8
    have hlt : q < c.length := by omega
    obtain ⟨e, he⟩ : ∃ e, e = c[q] := ⟨_, rfl⟩
    have he' : c[q]? = some e := by rw [he]; exact List.getElem?_eq_getElem hlt
    rw [List.drop_eq_getElem_cons hlt, ← he, List.countP_cons] at hX
    have e1 : (q : Int) < c.length := by omega
    have e2 : IntKind.i64.wrap ((q : Int) + 1) = ((q + 1 : Nat) : Int) := by rw [w64] <;> omega
    have e3 : IntKind.i64.wrap ((a : Int) + 1) = ((a + 1 : Nat) : Int) := by rw [w64] <;> omega
    have hk := refKills_eq q c []
    have hka : killsAt q c = isSays 1 e := by unfold killsAt; rw [he']; rfl
    rw [hka] at hk
    rw [l_flotsamref32_Needed_0, M_loop, ← l_flotsamref32_Needed_0]
    cases hb : isSays 1 e with
    | true =>
      rw [hb] at hk
      simp only [hb, if_true] at hX
      simp [b_flotsamref32_Needed_0, h1, h3, h4, h5, h6, h7, h8, hn, hlti, hgi, hrv, hlt, e1, e2, e3, hk]
      refine ih (q + 1) _ (a + 1) (by omega) (by omega) (by omega) ?_ ?_ ?_ ?_ ?_ ?_ ?_ <;> simp [h1, h3, h4, h5, h6]
    | false =>
      rw [hb] at hk
      simp only [hb, Bool.false_eq_true, if_false] at hX
      simp [b_flotsamref32_Needed_0, h1, h3, h4, h5, h6, h7, h8, hn, hlti, hgi, hrv, hlt, e1, e2, e3, hk]
      refine ih (q + 1) _ a (by omega) (by omega) (by omega) ?_ ?_ ?_ ?_ ?_ ?_ ?_ <;> simp [h1, h3, h4, h5, h6, h7]

theorem refNeMid_loop (m : Mx) (hm : m.few) (K : Heap) (n : Nat) (hn : K[n]? = some (some m.cells)) (q : Nat) (v3 : V) (Q : Option (V × Heap) → Prop) (k : List Item) (X : Bool)
    (hexit : ∀ φ', Fr.get φ' 1 = .ptr n 0 → Fr.get φ' 3 = v3 → Fr.get φ' 4 = iv q → Fr.get φ' 5 = .bool X → Q (M (eval tbl noExt) k φ' K)) :
    ∀ (j i : Nat) (φ : Fr) (b : Bool), i + j = m.rows.length → (b || (m.rows.drop i).any (aloneAt q)) = X →
      Fr.get φ 1 = .ptr n 0 → Fr.get φ 3 = v3 → Fr.get φ 4 = iv q → Fr.get φ 5 = .bool b → Fr.get φ 6 = iv i → Q (M (eval tbl noExt) (.code l_flotsamref32_Needed_1 :: .blk 2 :: k) φ K) := by
  have hcell : m.cells = [.bool m.bad, .sl 6 (m.base.map Ce.cells), .sl 11 (m.sites.map Si.cells), .sl 1 (m.rows.map rowV)] := rfl
  have hn2 := hn
  rw [hcell] at hn2
  have hrl := hm.rows
  intro j
  induction j with
  | zero =>
    intro i φ b hi hX h1 h3 h4 h5 h6
    have hlt : ¬ (i : Int) < m.rows.length := by omega
    rw [List.drop_eq_nil_of_le (by omega)] at hX
    rw [l_flotsamref32_Needed_1, M_loop]
    simp [b_flotsamref32_Needed_1, h1, h3, h4, h5, h6, hn2, hlt]
    exact hexit _ (by simp [h1]) (by simp [h3]) (by simp [h4]) (by rw [← hX]; simp [h5])
  | succ j ih =>
    intro i φ b hi hX h1 h3 h4 h5 h6
    have hlt : i < m.rows.length := by omega
    obtain ⟨c, hc⟩ : ∃ c, c = m.rows[i] := ⟨_, rfl⟩
    have hc' : m.rows[i]? = some c := by rw [hc]; exact List.getElem?_eq_getElem hlt
    have hg : ∀ h : i < m.rows.length, m.rows[i] = c := fun h => hc.symm
    rw [List.drop_eq_getElem_cons hlt, ← hc, List.any_cons] at hX
    have hrv : rowV c = [.sl 6 (c.map Ce.cells)] := rfl
    have e1 : (i : Int) < m.rows.length := by omega
    have e2 : IntKind.i64.wrap ((i : Int) + 1) = ((i + 1 : Nat) : Int) := by rw [w64] <;> omega
    have hk := refKills_eq q c []
    rw [l_flotsamref32_Needed_1, M_loop, ← l_flotsamref32_Needed_1]
    simp [b_flotsamref32_Needed_1, h1, h3, h4, h5, h6, hn2, e1]
    refine refNeIn_loop m hm K n hn i c hc' v3 (iv q) (.bool b) Q _ (c.countP (isSays 1)) ?_ c.length 0 _ 0 (by omega) (Nat.le_refl _) (by simp) ?_ ?_ ?_ ?_ ?_ ?_ ?_
    · intro φ' p1 p3 p4 p5 p6 p7
      cases b with
      | true =>
        simp [r_flotsamref32_Needed_0, r_flotsamref32_Needed_1, p1, p3, p4, p5, p6, p7, e2]
        refine ih (i + 1) _ true (by omega) (by rw [← hX]; simp) ?_ ?_ ?_ ?_ ?_ <;> simp [p1, p3, p4]
      | false =>
        by_cases a1 : c.countP (isSays 1) = 1
        · have hal : aloneAt q c = killsAt q c := by unfold aloneAt; rw [a1]; simp
          rw [a1] at p7
          simp [r_flotsamref32_Needed_0, r_flotsamref32_Needed_1, p1, p3, p4, p5, p6, p7, e2, hn2, hlt, hg, hrv, hk]
          refine ih (i + 1) _ (killsAt q c) (by omega) (by rw [← hX, hal]; simp) ?_ ?_ ?_ ?_ ?_ <;> simp [p1, p3, p4]
        · have hal : aloneAt q c = false := by unfold aloneAt; simp [a1]
          have a1' : ¬ ((c.countP (isSays 1) : Nat) : Int) = 1 := by omega
          simp [r_flotsamref32_Needed_0, r_flotsamref32_Needed_1, p1, p3, p4, p5, p6, p7, e2, a1']
          refine ih (i + 1) _ false (by omega) (by rw [← hX, hal]; simp) ?_ ?_ ?_ ?_ ?_ <;> simp [p1, p3, p4]
    all_goals simp [h1, h3, h4, h5, h6]

theorem refNe_loop (m : Mx) (hm : m.few) (K : Heap) (n : Nat) (hn : K[n]? = some (some m.cells)) (Q : Option (V × Heap) → Prop) (k : List Item)
    (hexit : ∀ φ', Fr.get φ' 3 = .own 1 ((needed m).map ir) → Q (M (eval tbl noExt) k φ' K)) :
    ∀ (j i : Nat) (φ : Fr), i + j = m.base.length → Fr.get φ 1 = .ptr n 0 → Fr.get φ 3 = .own 1 (((List.range i).filter fun k => m.rows.any (aloneAt k)).map ir) → Fr.get φ 4 = iv i →
      Q (M (eval tbl noExt) (.code l_flotsamref32_Needed_2 :: .blk 0 :: k) φ K) := by
  have hcell : m.cells = [.bool m.bad, .sl 6 (m.base.map Ce.cells), .sl 11 (m.sites.map Si.cells), .sl 1 (m.rows.map rowV)] := rfl
  have hn2 := hn
  rw [hcell] at hn2
  have hbl := hm.base
  intro j
  induction j with
  | zero =>
    intro i φ hi h1 h3 h4
    obtain rfl : i = m.base.length := by omega
    rw [l_flotsamref32_Needed_2, M_loop]
    simp [b_flotsamref32_Needed_2, h1, h3, h4, hn2]
    exact hexit _ (by simp [h3, needed])
  | succ j ih =>
    intro i φ hi h1 h3 h4
    have e1 : (i : Int) < m.base.length := by omega
    have e2 : IntKind.i64.wrap ((i : Int) + 1) = ((i + 1 : Nat) : Int) := by rw [w64] <;> omega
    obtain ⟨rows, hrows⟩ : ∃ rows, rows = ((List.range i).filter fun k => m.rows.any (aloneAt k)).map ir := ⟨_, rfl⟩
    have hlen : rows.length ≤ 30 := by
      rw [hrows, List.length_map]
      have := List.length_filter_le (fun k => m.rows.any (aloneAt k)) (List.range i)
      simp at this ⊢
      omega
    rw [← hrows] at h3
    have hcap : 2 * (rows.length + 1) * 8 ≤ 281474976710656 := by omega
    rw [l_flotsamref32_Needed_2, M_loop, ← l_flotsamref32_Needed_2]
    simp [b_flotsamref32_Needed_2, h1, h3, h4, hn2, e1]
    refine refNeMid_loop m hm K n hn i (.own 1 rows) Q _ (m.rows.any (aloneAt i)) ?_ m.rows.length 0 _ false (by omega) (by simp) ?_ ?_ ?_ ?_ ?_
    · intro φ' p1 p3 p4 p5
      cases hb : m.rows.any (aloneAt i) with
      | true =>
        have hnext : rows ++ [[iv i]] = ((List.range (i + 1)).filter fun k => m.rows.any (aloneAt k)).map ir := by
          rw [hrows, List.range_succ, List.filter_append, List.map_append]
          simp [hb, ir]
        rw [hb] at p5
        clear hrows
        simp [r_flotsamref32_Needed_2, r_flotsamref32_Needed_3, p1, p3, p4, p5, e2, hcap]
        refine ih (i + 1) _ (by omega) ?_ (by rw [← hnext]; simp) ?_ <;> simp [p1]
      | false =>
        have hnext : rows = ((List.range (i + 1)).filter fun k => m.rows.any (aloneAt k)).map ir := by
          rw [hrows, List.range_succ, List.filter_append, List.map_append]
          simp [hb]
        rw [hb] at p5
        clear hrows
        simp [r_flotsamref32_Needed_2, r_flotsamref32_Needed_3, p1, p3, p4, p5, e2, hcap]
        refine ih (i + 1) _ (by omega) ?_ (by rw [← hnext]; simp [p3]) ?_ <;> simp [p1]
    all_goals simp [h1, h3, h4]

theorem refNeeded_eq (m : Mx) (hm : m.few) (H : Heap) : eval tbl noExt n_flotsamref32_Needed [.agg m.cells] H = some (.own 1 ((needed m).map ir), H) := by
  rw [eval_M rfl rfl t_flotsamref32_Needed rfl]
  simp [c_flotsamref32_Needed]
  refine refNe_loop m hm _ H.length (by simp) (fun r => r = some (.own 1 ((needed m).map ir), H)) _ ?_ m.base.length 0 _ (by omega) ?_ ?_ ?_
  · intro φ' h3
    simp [r_flotsamref32_Needed_4, h3]
  all_goals simp

/-! Lists of ints that are the same. -/
theorem ints_loop (call : CallF) (K : Heap) (Q : Option (V × Heap) → Prop) (k : List Item) (l : List Nat) (hl : l.length ≤ 1000)
    (hexit : ∀ φ', Q (M call k φ' K)) :
    ∀ (j i : Nat) (φ : Fr), i + j = l.length → Fr.get φ 0 = .sl 1 (l.map ir) → Fr.get φ 1 = .sl 1 (l.map ir) → Fr.get φ 5 = iv i → Q (M call (.code l_flotsamlaw04_Ints_0 :: .blk 0 :: k) φ K) := by
  intro j
  induction j with
  | zero =>
    intro i φ hi h0 h1 h5
    have hlt : ¬ (i : Int) < l.length := by omega
    rw [l_flotsamlaw04_Ints_0, M_loop]
    simp [b_flotsamlaw04_Ints_0, h0, h1, h5, hlt]
    exact hexit _
  | succ j ih =>
    intro i φ hi h0 h1 h5
    have hlt : i < l.length := by omega
    have e1 : (i : Int) < l.length := by omega
    have e2 : IntKind.i64.wrap ((i : Int) + 1) = ((i + 1 : Nat) : Int) := by rw [w64] <;> omega
    obtain ⟨e, he⟩ : ∃ e, e = l[i] := ⟨_, rfl⟩
    have hg : ∀ h : i < l.length, l[i] = e := fun h => he.symm
    have hir : ir e = [iv e] := rfl
    rw [l_flotsamlaw04_Ints_0, M_loop, ← l_flotsamlaw04_Ints_0]
    simp [b_flotsamlaw04_Ints_0, h0, h1, h5, hlt, hg, hir, e1, e2]
    refine ih (i + 1) _ (by omega) ?_ ?_ ?_ <;> simp [h0, h1]

theorem Ints_eq (l : List Nat) (hl : l.length ≤ 1000) (H : Heap) : eval tbl noExt n_flotsamlaw04_Ints [.sl 1 (l.map ir), .sl 1 (l.map ir)] H = some (.bool true, H) := by
  rw [eval_M rfl rfl t_flotsamlaw04_Ints rfl]
  simp [c_flotsamlaw04_Ints]
  refine ints_loop _ H (fun r => r = some (.bool true, H)) _ l hl ?_ l.length 0 _ (by omega) ?_ ?_ ?_
  · intro φ'
    simp [r_flotsamlaw04_Ints_0]
  all_goals simp

end Go.AM.Spec

namespace Go.AM.Spec
set_option linter.unusedVariables false
set_option linter.unusedSimpArgs false
set_option maxHeartbeats 1000000
set_option maxRecDepth 10000

def rowOK (n : Nat) (l : List Ce) : Bool := decide (l.length = n) && l.all Ce.right
def sitesOK : List Si → List Si → Bool
  | _, [] => true
  | done, s :: rest => s.name.2 && (!decide (s ∈ done) && sitesOK (done ++ [s]) rest)
/-- May a matrix be? -/
def Mx.right (m : Mx) : Bool := decide (m.base.length ≤ 16) && (m.base.all Ce.right && (decide (m.bad = decide (sumC m.base = 1)) &&
  (if m.bad = true then decide (m.sites.length = 0) && decide (m.rows.length = 0) else decide (m.sites.length = m.rows.length) && (m.rows.all (rowOK m.base.length) && sitesOK [] m.sites))))

theorem countP_all (l : List Ce) : decide (l.countP Ce.right = l.length) = l.all Ce.right := by
  rw [Bool.eq_iff_iff, decide_eq_true_eq, List.all_eq_true]
  exact List.countP_eq_length

theorem odd1_eq (n : Nat) (l : List Ce) (hl : l.length ≤ 30) (i : Nat) (K : Heap) (hi : K[i]? = some (some [iv n])) : eval tbl noExt n_score_odd_1 [.sl 6 (l.map Ce.cells), .ptr i 0] K = some (.bool (!rowOK n l), K) := by
  have hc := count6_eq l (by omega) (first := []) (cap := []) lt_cell_Right Ce.right [] (fun c _ K _ _ => CRight_eq c K)
  rw [eval_M rfl rfl t_score_odd_1 rfl]
  unfold rowOK
  by_cases h1 : l.length = n
  · have h1' : (l.length : Int) = n := by omega
    have ha := countP_all l
    by_cases h2 : l.countP Ce.right = l.length
    · rw [← ha]
      rw [h2, h1] at hc
      simp [c_score_odd_1, hi, h1, hc, h2]
    · rw [← ha]
      have h2' : ¬ ((l.countP Ce.right : Nat) : Int) = n := by omega
      have h2'' : ¬ l.countP Ce.right = n := by omega
      simp [c_score_odd_1, hi, h1, hc, h2', h2'']
  · have h1' : ¬ (l.length : Int) = n := by omega
    simp [c_score_odd_1, hi, h1, h1']

theorem odd_eq (n : Nat) (H : Heap) : eval tbl noExt n_score_odd [iv n] H = some (.fn (.func n_score_odd_1) [] [.ptr H.length 0], H ++ [some [iv n]]) := by
  rw [eval_M rfl rfl t_score_odd rfl]
  simp [c_score_odd]
theorem odd_own (k n : Nat) : callOwn (eval tbl noExt) n_score_odd [iv k] n = some (.fn (.func n_score_odd_1) [] [.ptr n 0], [some [iv k]]) := by
  unfold callOwn
  rw [odd_eq]
  simp

/-! Sites that are the same. -/
theorem eq11' (xs ys : List Int) (hx : xs.length = 11) (hy : ys.length = 11) : eqCells [.int .i64, .int .i64, .int .i64, .int .i64, .int .i64, .int .i64, .int .i64, .int .i64, .int .i64, .int .i64, .int .i64] (xs.map iv) (ys.map iv) = some (decide (xs = ys)) := eqCells_ints 11 .i64 xs ys hx hy
def Si.ints (s : Si) : List Int := s.kind :: s.part :: (s.way ++ [s.deep])
theorem Si.cells_ints (s : Si) : s.cells = s.ints.map iv := by simp [Si.cells, Si.ints]
theorem Si.ints_inj {s t : Si} (hs : s.ok) (ht : t.ok) (h : s.ints = t.ints) : s = t := by
  unfold Si.ints at h
  simp only [List.cons.injEq] at h
  obtain ⟨h1, h2, h3⟩ := h
  have hl : s.way.length = t.way.length := by rw [show s.way.length = 8 from hs, show t.way.length = 8 from ht]
  have := List.append_inj h3 hl
  cases s; cases t
  simp at this h1 h2
  simp [h1, h2, this]
theorem Si.eqc {s t : Si} (hs : s.ok) (ht : t.ok) : eqCells [.int .i64, .int .i64, .int .i64, .int .i64, .int .i64, .int .i64, .int .i64, .int .i64, .int .i64, .int .i64, .int .i64] s.cells t.cells = some (decide (s = t)) := by
  rw [Si.cells_ints, Si.cells_ints, eq11' _ _ (by simp [Si.ints, show s.way.length = 8 from hs]) (by simp [Si.ints, show t.way.length = 8 from ht])]
  congr 1
  rw [Bool.eq_iff_iff, decide_eq_true_eq, decide_eq_true_eq]
  exact ⟨Si.ints_inj hs ht, fun h => by rw [h]⟩

theorem siteIx_loop (K : Heap) (n : Nat) (s : Si) (hs : s.ok) (hn : K[n]? = some (some s.cells)) (l : List Si) (hl : l.length ≤ 1000) (hok : ∀ t ∈ l, t.ok) (call : CallF) (Q : Option (V × Heap) → Prop) (k : List Item)
    (hret : ∀ φ' (i : Nat), s ∈ l → Fr.get φ' 4 = iv i → Q (retK k φ' K)) (hexit : ∀ φ', s ∉ l → Q (M call k φ' K)) :
    ∀ (j i : Nat) (φ : Fr), i + j = l.length → (s ∈ l ↔ s ∈ l.drop i) → Fr.get φ 0 = .sl 11 (l.map Si.cells) → Fr.get φ 3 = .ptr n 0 → Fr.get φ 7 = iv l.length → Fr.get φ 8 = iv i → Q (M call (.code l_slices_Index_api_Site_api_Site_0 :: .blk 0 :: k) φ K) := by
  intro j
  induction j with
  | zero =>
    intro i φ hi hX h0 h3 h7 h8
    have hlt : ¬ (i : Int) < l.length := by omega
    rw [List.drop_eq_nil_of_le (by omega)] at hX
    rw [l_slices_Index_api_Site_api_Site_0, M_loop]
    simp [b_slices_Index_api_Site_api_Site_0, h0, h3, h7, h8, hlt]
    exact hexit _ (by rw [hX]; simp)
  | succ j ih =>
    intro i φ hi hX h0 h3 h7 h8
    have hlt : i < l.length := by omega
    obtain ⟨t, ht⟩ : ∃ t, t = l[i] := ⟨_, rfl⟩
    have hmem : t ∈ l := by rw [ht]; exact List.getElem_mem _
    have hg : ∀ h : i < l.length, l[i] = t := fun h => ht.symm
    rw [List.drop_eq_getElem_cons hlt, ← ht, List.mem_cons] at hX
    have e1 : (i : Int) < l.length := by omega
    have e2 : IntKind.i64.wrap ((i : Int) + 1) = ((i + 1 : Nat) : Int) := by rw [w64] <;> omega
    have okt := hok t hmem
    have heq := Si.eqc hs okt
    have q1 := Si.len hs
    have q2 := Si.len okt
    have q3 := Si.strip (s := s)
    have q4 := Si.strip (s := t)
    have q5 := Si.take hs
    have q6 := Si.take okt
    rw [l_slices_Index_api_Site_api_Site_0, M_loop, ← l_slices_Index_api_Site_api_Site_0]
    by_cases a1 : s = t
    · have heq' : eqCells [.int .i64, .int .i64, .int .i64, .int .i64, .int .i64, .int .i64, .int .i64, .int .i64, .int .i64, .int .i64, .int .i64] s.cells t.cells = some true := by rw [heq]; simp [a1]
      simp [b_slices_Index_api_Site_api_Site_0, h0, h3, h7, h8, hn, hlt, hg, e1, e2, q1, q2, q3, q4, q5, q6, heq']
      exact hret _ i (by rw [a1]; exact hmem) (by simp)
    · have heq' : eqCells [.int .i64, .int .i64, .int .i64, .int .i64, .int .i64, .int .i64, .int .i64, .int .i64, .int .i64, .int .i64, .int .i64] s.cells t.cells = some false := by rw [heq]; simp [a1]
      simp [b_slices_Index_api_Site_api_Site_0, h0, h3, h7, h8, hn, hlt, hg, e1, e2, q1, q2, q3, q4, q5, q6, heq']
      refine ih (i + 1) _ (by omega) (by rw [hX]; simp [a1]) ?_ ?_ ?_ ?_ <;> simp [h0, h3, h7]

theorem siteContains_eq (s : Si) (hs : s.ok) (l : List Si) (hl : l.length ≤ 1000) (hok : ∀ t ∈ l, t.ok) (H : Heap) : eval tbl noExt n_slices_Contains_api_Site_api_Site [.sl 11 (l.map Si.cells), .agg s.cells] H = some (.bool (decide (s ∈ l)), H) := by
  have q1 := Si.len hs
  have q3 := Si.strip (s := s)
  have q5 := Si.take hs
  have qu := fun n => Si.under (s := s) n
  obtain ⟨n, hn, hn2⟩ : ∃ n : Int, eval tbl noExt n_slices_Index_api_Site_api_Site [.sl 11 (l.map Si.cells), .agg s.cells] [] = some (iv n, []) ∧ decide (0 ≤ n) = decide (s ∈ l) := by
    rw [eval_M rfl rfl t_slices_Index_api_Site_api_Site rfl]
    simp [c_slices_Index_api_Site_api_Site]
    refine siteIx_loop _ 0 s hs (by rfl) l hl hok _ (fun r => ∃ n : Int, r = some (iv n, []) ∧ (0 ≤ n ↔ s ∈ l)) _ ?_ ?_ l.length 0 _ (by omega) (by simp) ?_ ?_ ?_ ?_
    · intro φ' i hm h4
      exact ⟨i, by simp [h4], by simp [hm]⟩
    · intro φ' hm
      exact ⟨-1, by simp [r_slices_Index_api_Site_api_Site_0], by simp [hm]⟩
    all_goals simp
  have hulist : V.underAll 0 [V.sl 11 (l.map Si.cells), .agg s.cells] = true := by simp [V.underAll, V.under, qu]
  have hni : (if 0 ≤ n then true else false) = decide (s ∈ l) := by rw [← hn2]; split <;> simp_all
  rw [eval_M rfl rfl t_slices_Contains_api_Site_api_Site rfl]
  simp [c_slices_Contains_api_Site_api_Site, hn, hn2, q1, q3, q5, qu]

end Go.AM.Spec

namespace Go.AM.Spec
set_option linter.unusedVariables false
set_option linter.unusedSimpArgs false

theorem list_of {α : Type} (f : α → List V) (p : α → Prop) : ∀ {rows : List (List V)}, (∀ r ∈ rows, ∃ a, r = f a ∧ p a) → ∃ l : List α, rows = l.map f ∧ ∀ a ∈ l, p a
  | [], _ => ⟨[], rfl, by simp⟩
  | r :: rows, h => by
    obtain ⟨l, rfl, h2⟩ := list_of f p (rows := rows) (fun q hq => h q (by simp [hq]))
    obtain ⟨a, rfl, ha⟩ := h r (by simp)
    refine ⟨a :: l, rfl, fun b hb => ?_⟩
    rcases List.mem_cons.1 hb with rfl | hb
    · exact ha
    · exact h2 b hb

section
variable {P : Program}

theorem TyL_3 {a b c : TypeId} {parts : List (List V)} (h : TyL P [a, b, c] parts) : ∃ p q r, parts = [p, q, r] ∧ Ty P a p ∧ Ty P b q ∧ Ty P c r := by
  match parts, h with
  | [p, q, r], ⟨h1, h2, h3, _⟩ => exact ⟨p, q, r, rfl, h1, h2, h3⟩

def Ce.fit (c : Ce) : Prop := Fit c.says ∧ Fit c.point ∧ (Lit.int .u64 c.kept).wf = true ∧ Fit c.verdict ∧ Fit c.err ∧ Fit c.limit
def Si.fit (s : Si) : Prop := s.ok ∧ Fit s.kind ∧ Fit s.part ∧ (∀ w ∈ s.way, Fit w) ∧ Fit s.deep

theorem cell_of {t tS tW tL tP tU tV tE : TypeId} {fs gs : Array Field} {vs : List V} (h : Ty P t vs) (hu : P.underlying t = some (.struct fs)) (hf : fs.toList.map (·.type) = [tS, tW, tL]) (hw : P.underlying tW = some (.struct gs)) (hg : gs.toList.map (·.type) = [tP, tU, tV, tE])
    (hS : P.underlying tS = some (.int .i64)) (hL : P.underlying tL = some (.int .i64)) (hP : P.underlying tP = some (.int .i64)) (hU : P.underlying tU = some (.int .u64)) (hV : P.underlying tV = some (.int .i64)) (hE : P.underlying tE = some (.int .i64)) :
    ∃ c : Ce, vs = c.cells ∧ c.fit := by
  obtain ⟨parts, rfl, hl⟩ := Ty_struct_of h hu
  rw [hf] at hl
  obtain ⟨p, q, r, rfl, h0, h1, h2⟩ := TyL_3 hl
  obtain ⟨a, rfl, w0⟩ := Ty_int_of h0 hS
  obtain ⟨b, rfl, w2⟩ := Ty_int_of h2 hL
  obtain ⟨ps, rfl, hm⟩ := Ty_struct_of h1 hw
  rw [hg] at hm
  obtain ⟨x, y, z, u, rfl, k0, k1, k2, k3⟩ := TyL_4 hm
  obtain ⟨x0, rfl, wx⟩ := Ty_int_of k0 hP
  obtain ⟨y0, rfl, wy⟩ := Ty_int_of k1 hU
  obtain ⟨z0, rfl, wz⟩ := Ty_int_of k2 hV
  obtain ⟨u0, rfl, wu⟩ := Ty_int_of k3 hE
  exact ⟨⟨a, x0, y0, z0, u0, b⟩, rfl, w0, wx, wy, wz, wu, w2⟩

def Mx.fit (m : Mx) : Prop := (∀ c ∈ m.base, c.fit) ∧ (∀ s ∈ m.sites, s.fit) ∧ (∀ l ∈ m.rows, ∀ c ∈ l, c.fit) ∧ Len m.base.length ∧ Len m.sites.length ∧ Len m.rows.length ∧ ∀ l ∈ m.rows, Len l.length

theorem mx_of {t tB tC tLC tT tLT tR : TypeId} {fs : Array Field} {vs : List V} (h : Ty P t vs) (hu : P.underlying t = some (.struct fs)) (hf : fs.toList.map (·.type) = [tB, tLC, tLT, tR])
    (hB : P.underlying tB = some .bool) (hLC : P.underlying tLC = some (.slice tC)) (hLT : P.underlying tLT = some (.slice tT)) (hR : P.underlying tR = some (.slice tLC)) (cC : P.cellsOf tC = 6) (cT : P.cellsOf tT = 11) (cL : P.cellsOf tLC = 1)
    (hC : ∀ vs, Ty P tC vs → ∃ c : Ce, vs = c.cells ∧ c.fit) (hT : ∀ vs, Ty P tT vs → ∃ s : Si, vs = s.cells ∧ s.fit) :
    ∃ m : Mx, vs = m.cells ∧ m.fit := by
  obtain ⟨parts, rfl, hl⟩ := Ty_struct_of h hu
  rw [hf] at hl
  obtain ⟨p, q, r, u, rfl, h0, h1, h2, h3⟩ := TyL_4 hl
  obtain ⟨bad, rfl⟩ := Ty_bool_of h0 hB
  obtain ⟨rows1, rfl, n1, m1⟩ := Ty_sl_of h1 hLC
  obtain ⟨rows2, rfl, n2, m2⟩ := Ty_sl_of h2 hLT
  obtain ⟨rows3, rfl, n3, m3⟩ := Ty_sl_of h3 hR
  obtain ⟨base, rfl, f1⟩ := list_of Ce.cells Ce.fit (fun r hr => hC r (m1 r hr))
  obtain ⟨sites, rfl, f2⟩ := list_of Si.cells Si.fit (fun r hr => hT r (m2 r hr))
  obtain ⟨rows, rfl, f3⟩ := list_of rowV (fun l => (∀ c ∈ l, c.fit) ∧ Len l.length) (rows := rows3) (fun r hr => by
    obtain ⟨rs, rfl, n4, m4⟩ := Ty_sl_of (m3 r hr) hLC
    obtain ⟨l, rfl, f4⟩ := list_of Ce.cells Ce.fit (fun r hr => hC r (m4 r hr))
    exact ⟨l, by rw [cC]; rfl, f4, by simpa using n4⟩)
  refine ⟨⟨bad, base, sites, rows⟩, by rw [cC, cT, cL]; rfl, f1, f2, fun l hl => (f3 l hl).1, by simpa using n1, by simpa using n2, by simpa using n3, fun l hl => (f3 l hl).2⟩

end
end Go.AM.Spec

namespace Go.AM.Spec
set_option linter.unusedVariables false
set_option linter.unusedSimpArgs false
set_option maxHeartbeats 2000000
set_option maxRecDepth 10000

theorem right_loop (n : Nat) (H : Heap) (q : Nat) (m : Mx) (hs : m.sites.length ≤ 50) (hok : ∀ s ∈ m.sites, s.ok) (hq : H[q]? = some (some m.cells)) (Q : Option (V × Heap) → Prop) (k : List Item) (X : Bool)
    (hyes : ∀ φ' K', K'.take n = H → n ≤ K'.length → X = true → Q (M (eval tbl noExt) k φ' K')) (hno : ∀ φ' K', K'.take n = H → n ≤ K'.length → X = false → Fr.get φ' 2 = .bool false → Q (retK k φ' K')) :
    ∀ (j i : Nat) (φ : Fr) (K : Heap), i + j = m.sites.length → sitesOK (m.sites.take i) (m.sites.drop i) = X → K.take n = H → n ≤ K.length → Fr.get φ 1 = .ptr q 0 → Fr.get φ 65 = .sl 11 (m.sites.map Si.cells) → Fr.get φ 66 = iv m.sites.length → Fr.get φ 67 = iv i →
      Q (M (eval tbl noExt) (.code l_score_Right_0 :: .blk 1 :: k) φ K) := by
  have hcell : m.cells = [.bool m.bad, .sl 6 (m.base.map Ce.cells), .sl 11 (m.sites.map Si.cells), .sl 1 (m.rows.map rowV)] := rfl
  intro j
  induction j with
  | zero =>
    intro i φ K hi hX hK hn h1 h65 h66 h67
    have hlt : ¬ (i : Int) < m.sites.length := by omega
    rw [List.drop_eq_nil_of_le (by omega)] at hX
    rw [l_score_Right_0, M_loop]
    simp [b_score_Right_0, h1, h65, h66, h67, hlt]
    exact hyes _ _ hK hn (by rw [← hX]; rfl)
  | succ j ih =>
    intro i φ K hi hX hK hn h1 h65 h66 h67
    have hlt : i < m.sites.length := by omega
    obtain ⟨t, ht⟩ : ∃ t, t = m.sites[i] := ⟨_, rfl⟩
    have hmem : t ∈ m.sites := by rw [ht]; exact List.getElem_mem _
    have okt := hok t hmem
    have hg : ∀ h : i < m.sites.length, m.sites[i] = t := fun h => ht.symm
    have hnext : m.sites.take i ++ [t] = m.sites.take (i + 1) := by rw [List.take_add_one, List.getElem?_eq_getElem hlt, ← ht]; rfl
    rw [List.drop_eq_getElem_cons hlt, ← ht, sitesOK, hnext] at hX
    have e1 : (i : Int) < m.sites.length := by omega
    have e1' : (i : Int) ≤ m.sites.length := by omega
    have e2 : IntKind.i64.wrap ((i : Int) + 1) = ((i + 1 : Nat) : Int) := by rw [w64] <;> omega
    have hKq : ∀ r : Heap, (K ++ r)[q]? = some (some m.cells) := fun r => get_take (take_more hK hn r) hq
    rw [hcell] at hKq
    have hK2 : ∀ r, (K ++ r).take n = H := fun r => take_more hK hn r
    have hn2 : ∀ r : Heap, n ≤ (K ++ r).length := fun r => by simp; omega
    have hN := Name_eq t okt []
    have hC := siteContains_eq t okt (m.sites.take i) (by simp; omega) (fun s hs => hok s (List.mem_of_mem_take hs)) []
    rw [List.map_take] at hC
    have q1 := Si.len okt
    have q3 := Si.strip (s := t)
    have q5 := Si.take okt
    have qu := fun n => Si.under (s := t) n
    have qo := Si.one (s := t)
    have qs := h11 t okt
    rw [l_score_Right_0, M_loop, ← l_score_Right_0]
    cases hnm : t.name.2 with
    | false =>
      rw [hnm, Bool.false_and] at hX
      rw [hnm] at hN
      simp [b_score_Right_0, h1, h65, h66, h67, hlt, hg, e1, e2, hN, q1, q3, q5, qu, qo, qs]
      exact hno _ _ (hK2 _) (hn2 _) hX.symm (by simp)
    | true =>
      rw [hnm, Bool.true_and] at hX
      rw [hnm] at hN
      by_cases hd : t ∈ m.sites.take i
      · have hd' : decide (t ∈ m.sites.take i) = true := by simp [hd]
        rw [hd'] at hC hX
        simp [b_score_Right_0, h1, h65, h66, h67, hlt, hg, e1, e1', e2, hN, q1, q3, q5, qu, qo, qs, hKq, hC]
        exact hno _ _ (hK2 _) (hn2 _) (by rw [← hX]; simp) (by simp)
      · have hd' : decide (t ∈ m.sites.take i) = false := by simp [hd]
        rw [hd'] at hC hX
        simp [b_score_Right_0, h1, h65, h66, h67, hlt, hg, e1, e1', e2, hN, q1, q3, q5, qu, qo, qs, hKq, hC]
        refine ih (i + 1) _ _ (by omega) (by rw [← hX]; simp) (hK2 _) (hn2 _) ?_ ?_ ?_ ?_ <;> simp [h1, h65, h66]

theorem get2 (l : Heap) (a b x : Option (List V)) (r : Heap) : (l ++ a :: b :: x :: r)[l.length + 1 + 1]? = some x := by
  rw [List.getElem?_append_right (by omega), show l.length + 1 + 1 - l.length = 2 by omega]; rfl

theorem any_notOK (n : Nat) (rows : List (List Ce)) : (rows.any fun l => !rowOK n l) = !(rows.all (rowOK n)) := by
  induction rows with
  | nil => rfl
  | cons a l ih => simp only [List.any_cons, List.all_cons, ih, Bool.not_and]

theorem take_one (H : Heap) (x : Option (List V)) (r : Heap) : (H ++ x :: r).take (H.length + 1) = H ++ [x] := by
  rw [show H ++ x :: r = (H ++ [x]) ++ r by simp, List.take_left' (by simp)]

theorem SRight_eq (m : Mx) (hm : m.few) (hok : ∀ s ∈ m.sites, s.ok) (H : Heap) : eval tbl noExt n_score_Right [.agg m.cells] H = some (.bool m.right, H) := by
  have hcell : m.cells = [.bool m.bad, .sl 6 (m.base.map Ce.cells), .sl 11 (m.sites.map Si.cells), .sl 1 (m.rows.map rowV)] := rfl
  have hbl := hm.base
  have hsl := hm.sites
  have hrl := hm.rows
  obtain ⟨R, hR⟩ : ∃ R, R = m.right := ⟨_, rfl⟩
  rw [← hR]
  unfold Mx.right at hR
  rw [eval_M rfl rfl t_score_Right rfl]
  by_cases a1 : 16 < m.base.length
  · have a1' : (16 : Int) < m.base.length := by omega
    have a1'' : ¬ m.base.length ≤ 16 := by omega
    simp only [a1'', decide_false, Bool.false_and] at hR
    simp [c_score_Right, hcell, a1', hR]
  · have a1' : ¬ (16 : Int) < m.base.length := by omega
    have a1'' : m.base.length ≤ 16 := by omega
    simp only [a1'', decide_true, Bool.true_and] at hR
    have hx := odd_own m.base.length (H.length + 1)
    have ho := odd1_eq m.base.length m.base (by omega) (H.length + 1) (H ++ [some m.cells, some [iv m.base.length]]) (by simp)
    have hp := lt_score_odd_1
    have hrow : rowOK m.base.length m.base = m.base.all Ce.right := by unfold rowOK; simp
    rw [hrow] at ho
    have hS := Sum_eq m.base (by omega) []
    rw [hcell] at ho
    cases hA : m.base.all Ce.right with
    | false =>
      rw [hA] at ho
      simp only [hA, Bool.false_and] at hR
      simp [c_score_Right, hcell, a1', hx, ho, hp, hR]
    | true =>
      rw [hA] at ho
      simp only [hA, Bool.true_and] at hR
      by_cases a2 : m.bad = decide (sumC m.base = 1)
      · have a2' : decide (m.bad = decide (sumC m.base = 1)) = true := by simp [← a2]
        rw [a2', Bool.true_and] at hR
        cases hB : m.bad with
        | true =>
          rw [hB] at a2
          have a3 : sumC m.base = 1 := by simpa using a2.symm
          rw [hB, if_pos rfl] at hR
          rw [hB] at ho
          by_cases b1 : m.sites.length = 0
          · have b1' : ((m.sites.length : Nat) : Int) = 0 := by omega
            simp [c_score_Right, hcell, hB, a1', hx, ho, hp, hS, a3, b1', b1, hR]
          · have b1' : ¬ ((m.sites.length : Nat) : Int) = 0 := by omega
            simp [c_score_Right, hcell, hB, a1', hx, ho, hp, hS, a3, b1', b1, hR]
        | false =>
          rw [hB] at a2
          have a3 : ¬ sumC m.base = 1 := by simpa using a2.symm
          rw [hB, if_neg (by simp)] at hR
          rw [hB] at ho
          have b2 : ¬ (512 : Int) < m.sites.length := by omega
          have b2r : ¬ (512 : Int) < m.rows.length := by omega
          by_cases b1 : m.sites.length = m.rows.length
          · have b1' : ((m.sites.length : Nat) : Int) = m.rows.length := by omega
            rw [decide_eq_true b1, Bool.true_and] at hR
            have hx2 := odd_own m.base.length (H.length + 1 + 1)
            have hC := ContainsFunc_api_Cell_api_Cell (f := n_score_odd_1) (first := []) (cap := [.ptr (H.length + 1 + 1) 0]) lt_score_odd_1 (fun c : List Ce => c.map Ce.cells) m.rows (by omega) (fun l => !rowOK m.base.length l) (H ++ [some m.cells, some [iv m.base.length], some [iv m.base.length]]) (fun c hc => odd1_eq m.base.length c (hm.row c hc) (H.length + 1 + 1) _ (get2 ..))
            have hrv : (m.rows.map fun a => [V.sl 6 (a.map Ce.cells)]) = m.rows.map rowV := rfl
            rw [hrv, any_notOK, hcell, hB] at hC
            cases hall : m.rows.all (rowOK m.base.length) with
            | false =>
              rw [hall] at hC
              rw [hall, Bool.false_and] at hR
              simp [c_score_Right, hcell, hB, a1', hx, ho, hp, hS, a3, b1', b2, b2r, hR, hx2, hC]
            | true =>
              rw [hall] at hC
              rw [hall, Bool.true_and] at hR
              simp [c_score_Right, hcell, hB, a1', hx, ho, hp, hS, a3, b1', b2, b2r, hx2, hC]
              rw [← b1']
              refine right_loop (H.length + 1) (H ++ [some m.cells]) H.length m hsl hok (by simp) (fun r => r = some (.bool R, H)) _ R ?_ ?_ m.sites.length 0 _ _ (by omega) (by rw [hR]; rfl) ?_ ?_ ?_ ?_ ?_ ?_
              · intro φ' K' hK hn hX
                have hK1 : K'.take H.length = H := by
                  have : (K'.take (H.length + 1)).take H.length = H := by rw [hK]; simp
                  rwa [List.take_take, show min H.length (H.length + 1) = H.length by omega] at this
                simp [r_score_Right_0, hK1, hX]
              · intro φ' K' hK hn hX h2
                have hK1 : K'.take H.length = H := by
                  have : (K'.take (H.length + 1)).take H.length = H := by rw [hK]; simp
                  rwa [List.take_take, show min H.length (H.length + 1) = H.length by omega] at this
                simp [h2, hK1, hX]
              · rw [hcell, hB]; exact take_one H _ _
              all_goals simp
          · have b1' : ¬ ((m.sites.length : Nat) : Int) = m.rows.length := by omega
            rw [decide_eq_false b1, Bool.false_and] at hR
            simp [c_score_Right, hcell, hB, a1', hx, ho, hp, hS, a3, b1', b2, b2r, hR]
      · have a2' : decide (m.bad = decide (sumC m.base = 1)) = false := by simp [a2]
        rw [a2', Bool.false_and] at hR
        have a4 : (if m.bad = decide (sumC m.base = 1) then false else true) = true := by simp [a2]
        simp [c_score_Right, hcell, a1', hx, ho, hp, hS, a2, hR]

end Go.AM.Spec

namespace Go.AM.Spec
set_option linter.unusedVariables false
set_option linter.unusedSimpArgs false
set_option maxHeartbeats 2000000
set_option maxRecDepth 10000

theorem cellsR_loop (call : CallF) (K : Heap) (Q : Option (V × Heap) → Prop) (k : List Item) (l : List Ce) (hl : l.length ≤ 1000)
    (hcall : ∀ c H, call n_flotsamref30_Right [.agg c.cells] H = some (.bool (Ce.right c), H)) (hown : ∀ c n, callOwn call n_flotsamref30_Right [.agg (Ce.cells c)] n = some (.bool (Ce.right c), []))
    (hyes : ∀ φ', l.all Ce.right = true → Q (M call k φ' K)) (hno : ∀ φ', l.all Ce.right = false → Fr.get φ' 2 = .bool false → Q (retK k φ' K)) :
    ∀ (j i : Nat) (φ : Fr), i + j = l.length → (l.drop i).all Ce.right = l.all Ce.right → Fr.get φ 0 = .sl 6 (l.map Ce.cells) → Fr.get φ 3 = iv i → Q (M call (.code l_flotsamref32_cells_0 :: .blk 0 :: k) φ K) := by
  intro j
  induction j with
  | zero =>
    intro i φ hi hX h0 h3
    have hlt : ¬ (i : Int) < l.length := by omega
    rw [List.drop_eq_nil_of_le (by omega)] at hX
    rw [l_flotsamref32_cells_0, M_loop]
    simp [b_flotsamref32_cells_0, h0, h3, hlt]
    exact hyes _ hX.symm
  | succ j ih =>
    intro i φ hi hX h0 h3
    have hlt : i < l.length := by omega
    obtain ⟨c, hc⟩ : ∃ c, c = l[i] := ⟨_, rfl⟩
    have hc' : l[i]? = some c := by rw [hc]; exact List.getElem?_eq_getElem hlt
    have hg : ∀ h : i < l.length, l[i] = c := fun h => hc.symm
    rw [List.drop_eq_getElem_cons hlt, ← hc, List.all_cons] at hX
    have hr := row_get l i c hc'
    have e1 : (i : Int) < l.length := by omega
    have e2 : IntKind.i64.wrap ((i : Int) + 1) = ((i + 1 : Nat) : Int) := by rw [w64] <;> omega
    have hcl := Ce.len c
    have hcs := Ce.strip c
    have hct : c.cells.take 6 = c.cells := rfl
    have hcu := Ce.under c
    have hco : c.cells.all V.one = true := rfl
    have hcc := hcall c []
    have hcw := hown c
    rw [l_flotsamref32_cells_0, M_loop, ← l_flotsamref32_cells_0]
    cases hb : c.right with
    | true =>
      rw [hb] at hcc hcw hX
      simp [b_flotsamref32_cells_0, h0, h3, hr, e1, e2, hg, hlt, hcl, hcs, hct, hcu, hco, hcc, hcw]
      refine ih (i + 1) _ (by omega) (by simpa using hX) ?_ ?_ <;> simp [h0]
    | false =>
      rw [hb] at hcc hcw hX
      simp [b_flotsamref32_cells_0, h0, h3, hr, e1, e2, hg, hlt, hcl, hcs, hct, hcu, hco, hcc, hcw]
      exact hno _ (by rw [← hX]; simp) (by simp)

theorem cellsR_eq (l : List Ce) (hl : l.length ≤ 1000) (H : Heap) : eval tbl noExt n_flotsamref32_cells [.sl 6 (l.map Ce.cells)] H = some (.bool (l.all Ce.right), H) := by
  rw [eval_M rfl rfl t_flotsamref32_cells rfl]
  simp [c_flotsamref32_cells]
  refine cellsR_loop _ H (fun r => r = some (.bool (l.all Ce.right), H)) _ l hl (fun c H => refCRight_eq c H) (fun c n => by unfold callOwn; rw [refCRight_eq]; simp) ?_ ?_ l.length 0 _ (by omega) (by simp) ?_ ?_
  · intro φ' h
    simp [r_flotsamref32_cells_0, h]
  · intro φ' h h2
    simp [h2, h]
  all_goals simp

end Go.AM.Spec

namespace Go.AM.Spec
set_option linter.unusedVariables false
set_option linter.unusedSimpArgs false
set_option maxHeartbeats 2000000
set_option maxRecDepth 10000

theorem refDup_loop (m : Mx) (hs : m.sites.length ≤ 50) (hok : ∀ s ∈ m.sites, s.ok) (K : Heap) (q : Nat) (hq : K[q]? = some (some m.cells)) (i : Nat) (t : Si) (ht : m.sites[i]? = some t) (call : CallF) (Q : Option (V × Heap) → Prop) (k : List Item)
    (hdup : ∀ φ', t ∈ m.sites.take i → Fr.get φ' 2 = .bool false → Q (retK k φ' K)) (hexit : ∀ φ', t ∉ m.sites.take i → Fr.get φ' 1 = .ptr q 0 → Fr.get φ' 3 = iv i → Q (M call k φ' K)) :
    ∀ (j p : Nat) (φ : Fr), p + j = i → (t ∈ m.sites.take i ↔ t ∈ (m.sites.take i).drop p) → Fr.get φ 1 = .ptr q 0 → Fr.get φ 3 = iv i → Fr.get φ 6 = iv p → Q (M call (.code l_flotsamref32_Right_0 :: .blk 2 :: k) φ K) := by
  have hcell : m.cells = [.bool m.bad, .sl 6 (m.base.map Ce.cells), .sl 11 (m.sites.map Si.cells), .sl 1 (m.rows.map rowV)] := rfl
  have hq2 := hq
  rw [hcell] at hq2
  have hlti : i < m.sites.length := by
    rcases Nat.lt_or_ge i m.sites.length with h1 | h1
    · exact h1
    · rw [List.getElem?_eq_none h1] at ht; cases ht
  have okt := hok t (List.mem_of_getElem? ht)
  have hgi : ∀ h : i < m.sites.length, m.sites[i] = t := fun h => by
    rw [List.getElem?_eq_getElem h] at ht
    exact Option.some.inj ht
  intro j
  induction j with
  | zero =>
    intro p φ hp hX h1 h3 h6
    have hlt : ¬ (p : Int) < i := by omega
    rw [List.drop_eq_nil_of_le (by simp; omega)] at hX
    rw [l_flotsamref32_Right_0, M_loop]
    simp [b_flotsamref32_Right_0, h1, h3, h6, hlt]
    exact hexit _ (by rw [hX]; simp) (by simp [h1]) (by simp [h3])
  | succ j ih =>
    intro p φ hp hX h1 h3 h6
    have hlt : p < m.sites.length := by omega
    have hlt2 : p < (m.sites.take i).length := by simp; omega
    obtain ⟨s, hse⟩ : ∃ s, s = m.sites[p] := ⟨_, rfl⟩
    have oks := hok s (by rw [hse]; exact List.getElem_mem _)
    have hg : ∀ h : p < m.sites.length, m.sites[p] = s := fun h => hse.symm
    have hget : (m.sites.take i)[p] = s := by rw [List.getElem_take, hse]
    rw [List.drop_eq_getElem_cons hlt2, hget, List.mem_cons] at hX
    have e1 : (p : Int) < i := by omega
    have e2 : IntKind.i64.wrap ((p : Int) + 1) = ((p + 1 : Nat) : Int) := by rw [w64] <;> omega
    have heq := Si.eqc oks okt
    have q1 := Si.len oks
    have q2 := Si.len okt
    have q3 := Si.strip (s := s)
    have q4 := Si.strip (s := t)
    have q5 := Si.take oks
    have q6 := Si.take okt
    rw [l_flotsamref32_Right_0, M_loop, ← l_flotsamref32_Right_0]
    by_cases a1 : t = s
    · have heq' : eqCells [.int .i64, .int .i64, .int .i64, .int .i64, .int .i64, .int .i64, .int .i64, .int .i64, .int .i64, .int .i64, .int .i64] s.cells t.cells = some true := by rw [heq]; simp [a1]
      simp [b_flotsamref32_Right_0, h1, h3, h6, hq2, hlt, hlti, hg, hgi, e1, e2, q1, q2, q3, q4, q5, q6, heq']
      exact hdup _ (by rw [hX]; exact .inl a1) (by simp)
    · have a1' : ¬ s = t := fun h => a1 h.symm
      have heq' : eqCells [.int .i64, .int .i64, .int .i64, .int .i64, .int .i64, .int .i64, .int .i64, .int .i64, .int .i64, .int .i64, .int .i64] s.cells t.cells = some false := by rw [heq]; simp [a1']
      simp [b_flotsamref32_Right_0, h1, h3, h6, hq2, hlt, hlti, hg, hgi, e1, e2, q1, q2, q3, q4, q5, q6, heq']
      refine ih (p + 1) _ (by omega) (by rw [hX]; simp [a1]) ?_ ?_ ?_ <;> simp [h1, h3]

/-- What the document's loop over the rows asks. -/
def restOK (n : Nat) : List Si → List (List Ce) → List Si → Bool
  | done, r :: rs, s :: ss => rowOK n r && (s.name.2 && (!decide (s ∈ done) && restOK n (done ++ [s]) rs ss))
  | _, _, _ => true

theorem restOK_eq (n : Nat) : ∀ (rs : List (List Ce)) (ss done : List Si), rs.length = ss.length → restOK n done rs ss = (rs.all (rowOK n) && sitesOK done ss)
  | [], [], done, _ => rfl
  | r :: rs, s :: ss, done, h => by
    rw [restOK, restOK_eq n rs ss _ (by simpa using h), List.all_cons, sitesOK]
    cases rowOK n r <;> cases s.name.2 <;> cases decide (s ∈ done) <;> cases rs.all (rowOK n) <;> rfl
  | [], _ :: _, _, h => by simp at h
  | _ :: _, [], _, h => by simp at h

theorem refRight_loop (m : Mx) (hm : m.few) (hok : ∀ s ∈ m.sites, s.ok) (hlen : m.sites.length = m.rows.length) (K : Heap) (q : Nat) (hq : K[q]? = some (some m.cells)) (Q : Option (V × Heap) → Prop) (k : List Item) (X : Bool)
    (hyes : ∀ φ', X = true → Q (M (eval tbl noExt) k φ' K)) (hno : ∀ φ', X = false → Fr.get φ' 2 = .bool false → Q (retK k φ' K)) :
    ∀ (j i : Nat) (φ : Fr), i + j = m.sites.length → restOK m.base.length (m.sites.take i) (m.rows.drop i) (m.sites.drop i) = X → Fr.get φ 1 = .ptr q 0 → Fr.get φ 3 = iv i → Q (M (eval tbl noExt) (.code l_flotsamref32_Right_1 :: .blk 0 :: k) φ K) := by
  have hcell : m.cells = [.bool m.bad, .sl 6 (m.base.map Ce.cells), .sl 11 (m.sites.map Si.cells), .sl 1 (m.rows.map rowV)] := rfl
  have hq2 := hq
  rw [hcell] at hq2
  have hsl := hm.sites
  have hrl := hm.rows
  intro j
  induction j with
  | zero =>
    intro i φ hi hX h1 h3
    have hlt : ¬ (i : Int) < m.sites.length := by omega
    have d1 : m.sites.drop i = [] := List.drop_eq_nil_of_le (by omega)
    have d2 : m.rows.drop i = [] := List.drop_eq_nil_of_le (by omega)
    rw [d1, d2] at hX
    rw [l_flotsamref32_Right_1, M_loop]
    simp [b_flotsamref32_Right_1, h1, h3, hq2, hlt]
    exact hyes _ (by rw [← hX]; rfl)
  | succ j ih =>
    intro i φ hi hX h1 h3
    have hlt : i < m.sites.length := by omega
    have hltr : i < m.rows.length := by omega
    obtain ⟨t, ht⟩ : ∃ t, t = m.sites[i] := ⟨_, rfl⟩
    obtain ⟨c, hc⟩ : ∃ c, c = m.rows[i] := ⟨_, rfl⟩
    have ht' : m.sites[i]? = some t := by rw [ht]; exact List.getElem?_eq_getElem hlt
    have okt := hok t (List.mem_of_getElem? ht')
    have hcl := hm.row c (by rw [hc]; exact List.getElem_mem _)
    have hg : ∀ h : i < m.sites.length, m.sites[i] = t := fun h => ht.symm
    have hgr : ∀ h : i < m.rows.length, m.rows[i] = c := fun h => hc.symm
    have hrv : rowV c = [.sl 6 (c.map Ce.cells)] := rfl
    have hnext : m.sites.take i ++ [t] = m.sites.take (i + 1) := by rw [List.take_add_one, ht']; rfl
    rw [List.drop_eq_getElem_cons hlt, List.drop_eq_getElem_cons hltr, ← ht, ← hc, restOK, hnext] at hX
    have e1 : (i : Int) < m.sites.length := by omega
    have e1r : (i : Int) < m.rows.length := by omega
    have e2 : IntKind.i64.wrap ((i : Int) + 1) = ((i + 1 : Nat) : Int) := by rw [w64] <;> omega
    have hN := refNameS_eq t okt []
    have hC := cellsR_eq c (by omega) []
    have q1 := Si.len okt
    have q3 := Si.strip (s := t)
    have q5 := Si.take okt
    have qu := fun n => Si.under (s := t) n
    rw [l_flotsamref32_Right_1, M_loop, ← l_flotsamref32_Right_1]
    by_cases b1 : c.length = m.base.length
    · have b1' : (c.length : Int) = m.base.length := by omega
      cases b2 : c.all Ce.right with
      | false =>
        have hr : rowOK m.base.length c = false := by unfold rowOK; rw [b2, Bool.and_false]
        rw [hr, Bool.false_and] at hX
        rw [b2] at hC
        simp [b_flotsamref32_Right_1, h1, h3, hq2, hlt, hltr, hg, hgr, hrv, e1, e1r, b1', hC]
        exact hno _ hX.symm (by simp)
      | true =>
        have hr : rowOK m.base.length c = true := by unfold rowOK; rw [b2, b1]; simp
        rw [hr, Bool.true_and] at hX
        rw [b2] at hC
        cases hnm : t.name.2 with
        | false =>
          rw [hnm, Bool.false_and] at hX
          rw [hnm] at hN
          simp [b_flotsamref32_Right_1, h1, h3, hq2, hlt, hltr, hg, hgr, hrv, e1, e1r, b1', hC, hN, q1, q3, q5, qu]
          exact hno _ hX.symm (by simp)
        | true =>
          rw [hnm, Bool.true_and] at hX
          rw [hnm] at hN
          simp [b_flotsamref32_Right_1, h1, h3, hq2, hlt, hltr, hg, hgr, hrv, e1, e1r, b1', hC, hN, q1, q3, q5, qu]
          refine refDup_loop m hsl hok K q hq i t ht' _ Q _ ?_ ?_ i 0 _ (by omega) (by simp) ?_ ?_ ?_
          · intro φ' hd h2
            simp
            exact hno _ (by rw [← hX]; simp [hd]) (by simp [h2])
          · intro φ' hd p1 p3
            simp [r_flotsamref32_Right_0, p1, p3, e2]
            refine ih (i + 1) _ (by omega) (by rw [← hX]; simp [hd]) ?_ ?_ <;> simp [p1]
          all_goals simp [h1, h3]
    · have b1' : ¬ (c.length : Int) = m.base.length := by omega
      have hr : rowOK m.base.length c = false := by unfold rowOK; simp [b1]
      rw [hr, Bool.false_and] at hX
      simp [b_flotsamref32_Right_1, h1, h3, hq2, hlt, hltr, hg, hgr, hrv, e1, e1r, b1']
      exact hno _ hX.symm (by simp)

theorem refRight_eq (m : Mx) (hm : m.few) (hok : ∀ s ∈ m.sites, s.ok) (H : Heap) : eval tbl noExt n_flotsamref32_Right [.agg m.cells] H = some (.bool m.right, H) := by
  have hcell : m.cells = [.bool m.bad, .sl 6 (m.base.map Ce.cells), .sl 11 (m.sites.map Si.cells), .sl 1 (m.rows.map rowV)] := rfl
  have hbl := hm.base
  have hsl := hm.sites
  have hrl := hm.rows
  obtain ⟨R, hR⟩ : ∃ R, R = m.right := ⟨_, rfl⟩
  rw [← hR]
  unfold Mx.right at hR
  have hS := refSum_eq m.base (by omega) []
  have hC := cellsR_eq m.base (by omega) []
  rw [eval_M rfl rfl t_flotsamref32_Right rfl]
  by_cases a1 : 16 < m.base.length
  · have a1' : (16 : Int) < m.base.length := by omega
    have a1'' : ¬ m.base.length ≤ 16 := by omega
    simp only [a1'', decide_false, Bool.false_and] at hR
    simp [c_flotsamref32_Right, hcell, a1', hR]
  · have a1' : ¬ (16 : Int) < m.base.length := by omega
    have a1'' : m.base.length ≤ 16 := by omega
    simp only [a1'', decide_true, Bool.true_and] at hR
    cases hA : m.base.all Ce.right with
    | false =>
      rw [hA] at hC
      simp only [hA, Bool.false_and] at hR
      simp [c_flotsamref32_Right, hcell, a1', hC, hR]
    | true =>
      rw [hA] at hC
      simp only [hA, Bool.true_and] at hR
      by_cases a2 : m.bad = decide (sumC m.base = 1)
      · have a2' : decide (m.bad = decide (sumC m.base = 1)) = true := by simp [← a2]
        rw [a2', Bool.true_and] at hR
        cases hB : m.bad with
        | true =>
          rw [hB] at a2
          have a3 : sumC m.base = 1 := by simpa using a2.symm
          rw [hB, if_pos rfl] at hR
          have e3 : IntKind.i64.wrap ((m.sites.length : Int) + m.rows.length) = (m.sites.length : Int) + m.rows.length := by rw [w64] <;> omega
          by_cases b1 : m.sites.length = 0 ∧ m.rows.length = 0
          · obtain ⟨b1, b2⟩ := b1
            have b1' : ((m.sites.length : Nat) : Int) = 0 := by omega
            have b2' : ((m.rows.length : Nat) : Int) = 0 := by omega
            rw [b1, b2, decide_eq_true rfl, Bool.and_self] at hR
            have b1l : m.sites = [] := List.eq_nil_of_length_eq_zero b1
            have b2l : m.rows = [] := List.eq_nil_of_length_eq_zero b2
            have e0 : IntKind.i64.wrap 0 = 0 := by rw [w64] <;> omega
            simp [c_flotsamref32_Right, hcell, hB, a1', hC, hS, a3, b1l, b2l, e0]
            rw [l_flotsamref32_Right_1, M_loop]
            simp [b_flotsamref32_Right_1, r_flotsamref32_Right_1, hR]
          · have b3 : (0 : Int) < (m.sites.length : Int) + m.rows.length := by omega
            have hR' : R = false := by
              rw [hR]
              by_cases c1 : m.sites.length = 0
              · have c2 : ¬ m.rows.length = 0 := fun h => b1 ⟨c1, h⟩
                rw [decide_eq_false c2, Bool.and_false]
              · rw [decide_eq_false c1, Bool.false_and]
            simp [c_flotsamref32_Right, hcell, hB, a1', hC, hS, a3, e3, b3, hR']
        | false =>
          rw [hB] at a2
          have a3 : ¬ sumC m.base = 1 := by simpa using a2.symm
          rw [hB, if_neg (by simp)] at hR
          have b2 : ¬ (512 : Int) < m.sites.length := by omega
          by_cases b1 : m.sites.length = m.rows.length
          · have b1' : ((m.sites.length : Nat) : Int) = m.rows.length := by omega
            have b2r : ¬ (512 : Int) < m.rows.length := by omega
            rw [decide_eq_true b1, Bool.true_and, ← restOK_eq _ _ _ _ b1.symm] at hR
            simp [c_flotsamref32_Right, hcell, hB, a1', hC, hS, a3, b1', b2, b2r]
            refine refRight_loop m hm hok b1 _ H.length (by rw [hcell, hB]; simp) (fun r => r = some (.bool R, H)) _ R ?_ ?_ m.sites.length 0 _ (by omega) (by rw [hR]; rfl) ?_ ?_
            · intro φ' hX
              simp [r_flotsamref32_Right_1, hX]
            · intro φ' hX h2
              simp [h2, hX]
            all_goals simp
          · have b1' : ¬ ((m.sites.length : Nat) : Int) = m.rows.length := by omega
            rw [decide_eq_false b1, Bool.false_and] at hR
            simp [c_flotsamref32_Right, hcell, hB, a1', hC, hS, a3, b1', b2, hR]
      · have a2' : decide (m.bad = decide (sumC m.base = 1)) = false := by simp [a2]
        rw [a2', Bool.false_and] at hR
        simp [c_flotsamref32_Right, hcell, a1', hC, hS, a2, hR]

end Go.AM.Spec

namespace Go.AM.Spec
set_option linter.unusedVariables false
set_option linter.unusedSimpArgs false
set_option maxHeartbeats 2000000
set_option maxRecDepth 10000

def Mx.fewB (m : Mx) : Bool := (m.rows.take 50).all (fun l => decide (l.length ≤ 30)) && (decide (m.base.length ≤ 30) && (decide (m.sites.length ≤ 50) && decide (m.rows.length ≤ 50)))

theorem Mx.few_of {m : Mx} (h : m.fewB = true) : m.few := by
  simp only [Mx.fewB, Bool.and_eq_true, decide_eq_true_eq, List.all_eq_true] at h
  obtain ⟨h1, h2, h3, h4⟩ := h
  rw [List.take_of_length_le h4] at h1
  exact ⟨h2, h3, h4, h1⟩

theorem few_loop (m : Mx) (K : Heap) (q : Nat) (hq : K[q]? = some (some m.cells)) (call : CallF) (Q : Option (V × Heap) → Prop) (k : List Item) (X : Bool)
    (hyes : ∀ φ', X = true → Fr.get φ' 1 = .ptr q 0 → Q (M call k φ' K)) (hno : ∀ φ', X = false → Fr.get φ' 2 = .bool false → Q (retK k φ' K)) :
    ∀ (j i : Nat) (φ : Fr), i + j = (m.rows.take 50).length → ((m.rows.take 50).drop i).all (fun l => decide (l.length ≤ 30)) = X → Fr.get φ 1 = .ptr q 0 → Fr.get φ 3 = iv i → Q (M call (.code l_flotsamlaw32_Few_0 :: .blk 0 :: k) φ K) := by
  have hcell : m.cells = [.bool m.bad, .sl 6 (m.base.map Ce.cells), .sl 11 (m.sites.map Si.cells), .sl 1 (m.rows.map rowV)] := rfl
  have hq2 := hq
  rw [hcell] at hq2
  intro j
  induction j with
  | zero =>
    intro i φ hi hX h1 h3
    rw [List.drop_eq_nil_of_le (by omega)] at hX
    rw [l_flotsamlaw32_Few_0, M_loop]
    simp only [List.length_take] at hi
    by_cases a1 : (i : Int) < m.rows.length
    · have a2 : ¬ (i : Int) < 50 := by omega
      have a3 : i < m.rows.length := by omega
      have a4 : ¬ i < 50 := by omega
      simp [b_flotsamlaw32_Few_0, h1, h3, hq2, a1, a2, a3, a4]
      exact hyes _ (by rw [← hX]; rfl) (by simp [h1])
    · have a3 : ¬ i < m.rows.length := by omega
      simp [b_flotsamlaw32_Few_0, h1, h3, hq2, a1, a3]
      exact hyes _ (by rw [← hX]; rfl) (by simp [h1])
  | succ j ih =>
    intro i φ hi hX h1 h3
    have hlt : i < (m.rows.take 50).length := by omega
    have hi' := hi
    simp only [List.length_take] at hi'
    have hltr : i < m.rows.length := by omega
    obtain ⟨c, hc⟩ : ∃ c, c = m.rows[i] := ⟨_, rfl⟩
    have hgr : ∀ h : i < m.rows.length, m.rows[i] = c := fun h => hc.symm
    have hget : (m.rows.take 50)[i] = c := by rw [List.getElem_take, hc]
    have hrv : rowV c = [.sl 6 (c.map Ce.cells)] := rfl
    rw [List.drop_eq_getElem_cons hlt, hget, List.all_cons] at hX
    have e1 : (i : Int) < m.rows.length := by omega
    have e3 : (i : Int) < 50 := by omega
    have e4 : i < 50 := by omega
    have e2 : IntKind.i64.wrap ((i : Int) + 1) = ((i + 1 : Nat) : Int) := by rw [w64] <;> omega
    rw [l_flotsamlaw32_Few_0, M_loop, ← l_flotsamlaw32_Few_0]
    by_cases b1 : c.length ≤ 30
    · have b1' : ¬ (30 : Int) < c.length := by omega
      simp [b_flotsamlaw32_Few_0, h1, h3, hq2, hltr, hgr, hrv, e1, e2, e3, e4, b1']
      refine ih (i + 1) _ (by omega) (by rw [← hX]; simp [b1]) ?_ ?_ <;> simp [h1]
    · have b1' : (30 : Int) < c.length := by omega
      simp [b_flotsamlaw32_Few_0, h1, h3, hq2, hltr, hgr, hrv, e1, e2, e3, e4, b1']
      exact hno _ (by rw [← hX]; simp [b1]) (by simp)

theorem Few_eq (m : Mx) (H : Heap) : eval tbl noExt n_flotsamlaw32_Few [.agg m.cells] H = some (.bool m.fewB, H) := by
  have hcell : m.cells = [.bool m.bad, .sl 6 (m.base.map Ce.cells), .sl 11 (m.sites.map Si.cells), .sl 1 (m.rows.map rowV)] := rfl
  rw [eval_M rfl rfl t_flotsamlaw32_Few rfl]
  simp [c_flotsamlaw32_Few]
  refine few_loop m _ H.length (by simp) _ (fun r => r = some (.bool m.fewB, H)) _ ((m.rows.take 50).all fun l => decide (l.length ≤ 30)) ?_ ?_ (m.rows.take 50).length 0 _ (by omega) rfl ?_ ?_
  · intro φ' hX h1
    unfold Mx.fewB
    rw [hX, Bool.true_and]
    by_cases a1 : m.base.length ≤ 30
    · have a1' : (m.base.length : Int) ≤ 30 := by omega
      by_cases a2 : m.sites.length ≤ 50
      · have a2' : (m.sites.length : Int) ≤ 50 := by omega
        by_cases a3 : m.rows.length ≤ 50
        · have a3' : (m.rows.length : Int) ≤ 50 := by omega
          simp [r_flotsamlaw32_Few_0, h1, hcell, a1, a2, a3, a1', a2', a3']
        · have a3' : ¬ (m.rows.length : Int) ≤ 50 := by omega
          simp [r_flotsamlaw32_Few_0, h1, hcell, a1, a2, a3, a1', a2', a3']
      · have a2' : ¬ (m.sites.length : Int) ≤ 50 := by omega
        simp [r_flotsamlaw32_Few_0, h1, hcell, a1, a2, a1', a2']
    · have a1' : ¬ (m.base.length : Int) ≤ 30 := by omega
      simp [r_flotsamlaw32_Few_0, h1, hcell, a1, a1']
  · intro φ' hX h2
    unfold Mx.fewB
    simp [h2, hX]
  all_goals simp

theorem knows32 : eval tbl noExt n_flotsamlaw32_knows [] [] = some (.bool true, []) := (eval_iff ..).2 ⟨400, by kernel_rfl⟩

end Go.AM.Spec

namespace Go.AM.Spec
set_option linter.unusedVariables false
set_option linter.unusedSimpArgs false
set_option maxHeartbeats 2000000
set_option maxRecDepth 10000

theorem ScoreTells_eq (m : Mx) (hf : m.fit) : ∃ H', eval tbl noExt n_flotsamlaw32_ScoreTells [.agg m.cells] [] = some (.bool true, H') := by
  refine ⟨[], ?_⟩
  have hk := knows32
  have hF := Few_eq m []
  have hcl : m.cells.length = 4 := rfl
  have hct : m.cells.take 4 = m.cells := rfl
  have hcs : m.cells.map V.strip = m.cells := rfl
  have hcu : ∀ n, V.underAll n m.cells = true := fun n => rfl
  rw [eval_M rfl rfl t_flotsamlaw32_ScoreTells rfl]
  cases hb : m.fewB with
  | false =>
    rw [hb] at hF
    simp [c_flotsamlaw32_ScoreTells, hcl, hct, hcs, hcu, hF, hk]
  | true =>
    rw [hb] at hF
    have hm := Mx.few_of hb
    have hok : ∀ s ∈ m.sites, s.ok := fun s hs => (hf.2.1 s hs).1
    have h1 := Score_eq m hm []
    have h2 := refScore_eq m hm []
    have h3 := Mutants_eq m hm []
    have h4 := refMutants_eq m hm []
    have h5 := SRight_eq m hm hok []
    have h6 := refRight_eq m hm hok []
    have h7 := Oracles_eq m hm []
    have h8 := refOracles_eq m hm []
    have h9 := Needed_eq m hm []
    have h10 := refNeeded_eq m hm []
    have b := hm.base
    have l1 : (oracles m).length ≤ 1000 := by unfold oracles; simp; omega
    have l2 : (needed m).length ≤ 1000 := by
      unfold needed
      have := List.length_filter_le (fun k => m.rows.any (aloneAt k)) (List.range m.base.length)
      simp at this ⊢
      omega
    have h11 := Ints_eq (oracles m) l1 []
    have h12 := Ints_eq (needed m) l2 []
    simp [c_flotsamlaw32_ScoreTells, hcl, hct, hcs, hcu, hF, hk, h1, h2, h3, h4, h5, h6, h7, h8, h9, h10, h11, h12]

end Go.AM.Spec
