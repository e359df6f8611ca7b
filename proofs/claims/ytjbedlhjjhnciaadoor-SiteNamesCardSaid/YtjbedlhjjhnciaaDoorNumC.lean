/-
  What Digits of the package num answers: the digits of a number, with its sign.
-/
import Derived.Test.YtjbedlhjjhnciaaDoorNumB
namespace Go.AM.Spec
set_option linter.unusedVariables false
set_option linter.unusedSimpArgs false

def dig (u : Nat) : UInt8 := UInt8.ofNat (48 + u % 10)

def digs : Nat → Nat → List UInt8 → List UInt8
  | 0, _, acc => acc
  | k + 1, u, acc => if u / 10 = 0 then dig u :: acc else digs k (u / 10) (dig u :: acc)

def byteVs (txt : List UInt8) : List V := txt.map fun c => .int .u8 c.toNat

def cells20 (txt : List UInt8) : List V := List.replicate (20 - txt.length) (.int .u8 0) ++ byteVs txt

theorem cells20_length {txt : List UInt8} (h : txt.length ≤ 20) : (cells20 txt).length = 20 := by simp [cells20, byteVs]; omega

theorem cells20_set {txt : List UInt8} (h : txt.length < 20) (c : UInt8) : (cells20 txt).set (19 - txt.length) (.int .u8 c.toNat) = cells20 (c :: txt) := by
  unfold cells20
  obtain ⟨m, hm⟩ : ∃ m, 20 - txt.length = m + 1 := ⟨19 - txt.length, by omega⟩
  have h1 : 19 - txt.length = m := by omega
  have h2 : 20 - (c :: txt).length = m := by simp; omega
  rw [hm, h1, h2, List.replicate_succ', List.append_assoc, List.set_append_right _ _ (by simp)]
  simp [byteVs]

theorem digs_length (k u : Nat) (acc : List UInt8) : (digs k u acc).length ≤ k + acc.length := by
  induction k generalizing u acc with
  | zero => simp [digs]
  | succ k ih =>
    unfold digs
    split
    · simp; omega
    · have := ih (u / 10) (dig u :: acc)
      simp at this; omega

theorem digit_u8 (u : Nat) : IntKind.u8.wrap (IntKind.u64.wrap (48 + (u : Int) % 10)) = (dig u).toNat := by
  unfold dig
  rw [IntKind.wrap_u64, IntKind.wrap_u8]
  have : (UInt8.ofNat (48 + u % 10)).toNat = 48 + u % 10 := by
    rw [UInt8.toNat_ofNat']; omega
  rw [this]; omega

set_option maxHeartbeats 400000
variable (H : Heap) (call : CallF) (R : Option (V × Heap))

theorem digits_loop (n : Int) (k : List Item) (X : List UInt8) (hk : ∀ φ', Fr.get φ' 0 = .int .i64 n → Fr.get φ' 3 = .ptr H.length 0 → Fr.get φ' 4 = .int .i64 (20 - X.length : Nat) → M call k φ' (H ++ [some (cells20 X)]) = R) :
    ∀ (j u : Nat) (txt : List UInt8) (φ : Fr), u < 10 ^ (j + 1) → u < 18446744073709551616 → txt.length + j + 1 ≤ 20 → digs (j + 1) u txt = X → Fr.get φ 0 = .int .i64 n → Fr.get φ 3 = .ptr H.length 0 → Fr.get φ 4 = .int .i64 (20 - txt.length : Nat) → Fr.get φ 5 = .int .u64 u →
    M call (.code l_num_Digits_0 :: .blk 0 :: k) φ (H ++ [some (cells20 txt)]) = R := by
  intro j
  induction j with
  | zero =>
    intro u txt φ hu hu2 ht hX h0 h3 h4 h5
    have e1 : (u : Int).tmod 10 = (u : Int) % 10 := by rw [Int.tmod_eq_emod_of_nonneg (by omega)]
    have e0 : IntKind.u64.wrap 0 = 0 := by rw [IntKind.wrap_u64]; rfl
    have e2 : IntKind.u64.wrap ((u : Int) / 10) = (u : Int) / 10 := by rw [IntKind.wrap_u64]; omega
    have e3 : IntKind.i64.wrap (((20 - txt.length : Nat) : Int) - 1) = (19 - txt.length : Nat) := by rw [w64] <;> omega
    have e4 : ((19 - txt.length : Nat) : Int) < 20 := by omega
    have e5 : (u : Int) / 10 = 0 := by omega
    have hl := cells20_length (txt := txt) (by omega)
    have e6 : 19 - txt.length + 1 ≤ 20 := by omega
    have e7 := cells20_set (txt := txt) (by omega)
    unfold digs at hX
    rw [if_pos (by omega)] at hX
    rw [l_num_Digits_0, M_loop, ← l_num_Digits_0]
    simp [b_num_Digits_0, h0, h3, h4, h5, e0, e1, e2, e3, e4, e5, e6, e7, hl, digit_u8, V.cells, V.one, setMany, hX]
    refine hk _ ?_ ?_ ?_ <;> simp [← hX] <;> omega
  | succ j ih =>
    intro u txt φ hu hu2 ht hX h0 h3 h4 h5
    have e1 : (u : Int).tmod 10 = (u : Int) % 10 := by rw [Int.tmod_eq_emod_of_nonneg (by omega)]
    have e0 : IntKind.u64.wrap 0 = 0 := by rw [IntKind.wrap_u64]; rfl
    have e2 : IntKind.u64.wrap ((u : Int) / 10) = (u : Int) / 10 := by rw [IntKind.wrap_u64]; omega
    have e3 : IntKind.i64.wrap (((20 - txt.length : Nat) : Int) - 1) = (19 - txt.length : Nat) := by rw [w64] <;> omega
    have e4 : ((19 - txt.length : Nat) : Int) < 20 := by omega
    have hl := cells20_length (txt := txt) (by omega)
    have e6 : 19 - txt.length + 1 ≤ 20 := by omega
    have e7 := cells20_set (txt := txt) (by omega)
    unfold digs at hX
    rw [l_num_Digits_0, M_loop, ← l_num_Digits_0]
    by_cases hq : u / 10 = 0
    · have e5 : (u : Int) / 10 = 0 := by omega
      rw [if_pos hq] at hX
      simp [b_num_Digits_0, h0, h3, h4, h5, e0, e1, e2, e3, e4, e5, e6, e7, hl, digit_u8, V.cells, V.one, setMany, hX]
      refine hk _ ?_ ?_ ?_ <;> simp [← hX] <;> omega
    · have e5 : ¬ (u : Int) / 10 = 0 := by omega
      rw [if_neg hq] at hX
      simp [b_num_Digits_0, h0, h3, h4, h5, e0, e1, e2, e3, e4, e5, e6, e7, hl, digit_u8, V.cells, V.one, setMany]
      refine ih (u / 10) (dig u :: txt) _ ?_ ?_ ?_ hX ?_ ?_ ?_ ?_ <;> first | omega | (simp; done) | (simp; omega)

theorem chunk_bytes (pre : List V) (X : List UInt8) : rowsBytes (chunk 1 (pre ++ byteVs X) pre.length X.length) = some X := by
  induction X generalizing pre with
  | nil => rfl
  | cons c X ih =>
    have h1 := ih (pre ++ [.int .u8 c.toNat])
    have h2 : pre ++ byteVs (c :: X) = (pre ++ [V.int .u8 c.toNat]) ++ byteVs X := by simp [byteVs]
    have hc := byte_lt c
    rw [List.length_cons, chunk, h2]
    have h3 : (((pre ++ [V.int .u8 c.toNat]) ++ byteVs X).drop pre.length).take 1 = [V.int .u8 c.toNat] := by simp
    rw [h3]
    simp only [List.length_append, List.length_singleton] at h1
    unfold rowsBytes
    rw [if_pos (by omega), h1]
    simp

theorem cells20_bytes (X : List UInt8) : rowsBytes (chunk 1 ((cells20 X).map V.strip) (20 - X.length) X.length) = some X := by
  have h : (cells20 X).map V.strip = List.replicate (20 - X.length) (V.int .u8 0) ++ byteVs X := by
    simp [cells20, byteVs, V.strip, Function.comp_def]
  have := chunk_bytes (List.replicate (20 - X.length) (V.int .u8 0)) X
  rw [List.length_replicate] at this
  rw [h, this]

theorem digs_pos (k u : Nat) (acc : List UInt8) : acc.length < (digs (k + 1) u acc).length := by
  induction k generalizing u acc with
  | zero => unfold digs; split <;> simp [digs]
  | succ k ih =>
    unfold digs
    split
    · simp
    · have := ih (u / 10) (dig u :: acc)
      simp at this; omega

/-- A number as a text. -/
def text (n : Int) : List UInt8 := if n < 0 then 45 :: digs 19 (-n).toNat [] else digs 19 n.toNat []

theorem digits_eq (n : Int) (h1 : -9223372036854775808 ≤ n) (h2 : n ≤ 9223372036854775807) : eval tbl noExt n_num_Digits [.int .i64 n] H = some (.str (text n), H) := by
  rw [eval_M rfl rfl t_num_Digits rfl]
  unfold text
  by_cases hn : n < 0
  · obtain ⟨X, hX⟩ : ∃ X, X = digs 19 (-n).toNat [] := ⟨_, rfl⟩
    have hl := digs_length 19 (-n).toNat []
    have hp := digs_pos 18 (-n).toNat []
    rw [← hX] at hl hp ⊢
    have e1 : IntKind.u64.wrap (-IntKind.u64.wrap n) = ((-n).toNat : Int) := by rw [IntKind.wrap_u64, IntKind.wrap_u64]; omega
    simp at hl hp
    simp [c_num_Digits, hn, e1]
    refine digits_loop H _ _ n _ X ?_ 18 (-n).toNat [] _ (by omega) (by omega) (by simp) hX.symm ?_ ?_ ?_ ?_
    · intro φ' h0 h3 h4
      have e3 : IntKind.i64.wrap (((20 - X.length : Nat) : Int) - 1) = (19 - X.length : Nat) := by rw [w64] <;> omega
      have e4 : ((19 - X.length : Nat) : Int) < 20 := by omega
      have e5 : ((19 - X.length : Nat) : Int) ≤ 20 := by omega
      have e6 : 19 - X.length + 1 ≤ 20 := by omega
      have e7 := cells20_set (txt := X) (by omega) 45
      have e8 : ¬ 20 = 19 - X.length := by omega
      have e9 := cells20_length (txt := 45 :: X) (by simp; omega)
      have e10 : 19 - X.length + (20 - (19 - X.length)) ≤ 20 := by omega
      have e11 := cells20_bytes (45 :: X)
      have e12 : 20 - (45 :: X).length = 19 - X.length := by rw [List.length_cons]; omega
      have e13 : (45 :: X).length = 20 - (19 - X.length) := by rw [List.length_cons]; omega
      rw [e12, e13] at e11
      have hl' := cells20_length (txt := X) (by omega)
      have e7' : (cells20 X).set (19 - X.length) (V.int IntKind.u8 45) = cells20 (45 :: X) := e7
      simp [r_num_Digits_0, h0, h3, h4, hn, e3, e4, e5, e6, e7', e8, e9, e10, hl', V.cells, V.one, setMany, rowsOf, e11]
    · simp
    · simp
    · simp
    · simp
  · obtain ⟨X, hX⟩ : ∃ X, X = digs 19 n.toNat [] := ⟨_, rfl⟩
    have hl := digs_length 19 n.toNat []
    have hp := digs_pos 18 n.toNat []
    rw [← hX] at hl hp ⊢
    have e1 : IntKind.u64.wrap n = (n.toNat : Int) := by rw [IntKind.wrap_u64]; omega
    simp at hl hp
    simp [c_num_Digits, hn, e1]
    refine digits_loop H _ _ n _ X ?_ 18 n.toNat [] _ (by omega) (by omega) (by simp) hX.symm ?_ ?_ ?_ ?_
    · intro φ' h0 h3 h4
      have e5 : ((20 - X.length : Nat) : Int) ≤ 20 := by omega
      have e8 : ¬ 20 = 20 - X.length := by omega
      have e9 := cells20_length (txt := X) (by omega)
      have e10 : 20 - X.length + X.length ≤ 20 := by omega
      have e11 := cells20_bytes X
      have e13 : X.length = 20 - (20 - X.length) := by omega
      have e14 : 20 - (20 - X.length) = X.length := by omega
      simp [r_num_Digits_0, h0, h3, h4, hn, e5, e8, e9, e10, rowsOf, e14, e11]
    · simp
    · simp
    · simp
    · simp

end Go.AM.Spec
