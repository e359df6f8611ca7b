/-
  The parts of this proof that speak of the functions one by one.
-/
import Derived.Test.YteafmhnbeobboaaDoorSpecSi
import Derived.Laws.BitsLemmas
import Derived.Laws.Bits64
import Derived.Test.YteafmhnbeobboaaDoorSpecSc
namespace Go.AM.Spec
set_option linter.unusedVariables false
set_option linter.unusedSimpArgs false
set_option maxHeartbeats 1000000
set_option maxRecDepth 10000

/-- A number's bytes. -/
def uintB (n : Nat) : List UInt8 := if n < 128 then [UInt8.ofNat n] else UInt8.ofNat (n % 128 + 128) :: uintB (n / 128)
termination_by n
decreasing_by omega

theorem uintB_small {n : Nat} (h : n < 128) : uintB n = [UInt8.ofNat n] := by rw [uintB, if_pos h]
theorem uintB_big {n : Nat} (h : ¬ n < 128) : uintB n = UInt8.ofNat (n % 128 + 128) :: uintB (n / 128) := by rw [uintB, if_neg h]

theorem uintB_len : ∀ (k n : Nat), n < 128 ^ (k + 1) → (uintB n).length ≤ k + 1
  | 0, n, h => by rw [uintB_small (by simpa using h)]; simp
  | k + 1, n, h => by
    by_cases hn : n < 128
    · rw [uintB_small hn]; simp
    · rw [uintB_big hn, List.length_cons]
      have := uintB_len k (n / 128) (Nat.div_lt_of_lt_mul (by rw [Nat.pow_succ] at h; omega))
      omega

theorem uintB_ten {n : Nat} (h : n < 2 ^ 64) : (uintB n).length ≤ 10 := uintB_len 9 n (Nat.lt_trans h (by decide))

theorem rowsBytes_of : ∀ s : List UInt8, rowsBytes (bytesRows s) = some s
  | [] => rfl
  | c :: l => by
    have ih := rowsBytes_of l
    have : bytesRows (c :: l) = [.int .u8 c.toNat] :: bytesRows l := rfl
    rw [this]
    simp only [rowsBytes]
    have hc : c.toNat < 256 := c.toNat_lt
    rw [if_pos (by omega), ih]
    simp

theorem bytes_all (s : List UInt8) : ((bytesRows s).all fun r => r.all V.plain) = true := by
  rw [List.all_eq_true]
  intro r hr
  obtain ⟨c, _, rfl⟩ := List.mem_map.1 hr
  rfl

theorem bytesRows_append (a b : List UInt8) : bytesRows (a ++ b) = bytesRows a ++ bytesRows b := List.map_append
theorem bytesRows_len (s : List UInt8) : (bytesRows s).length = s.length := List.length_map _
theorem bytesRows_one (c : UInt8) : bytesRows [c] = [[.int .u8 c.toNat]] := rfl

theorem ofNat_toNat8 {n : Nat} (h : n < 256) : ((UInt8.ofNat n).toNat : Int) = n := by rw [UInt8.toNat_ofNat', Nat.mod_eq_of_lt h]

theorem or128 : ∀ c : Nat, c < 256 → (BitVec.ofInt 8 (c : Int) ||| BitVec.ofInt 8 128).toNat = c % 128 + 128 := by decide +kernel

theorem uint_loop (call : CallF) (H : Heap) (Q : Option (V × Heap) → Prop) (k : List Item) (X : List UInt8) (hX : X.length ≤ 1000000000)
    (hexit : ∀ φ' (n' : Nat) (acc' : List UInt8), n' < 128 → acc' ++ [UInt8.ofNat n'] = X → Fr.get φ' 1 = .int .u64 n' → Fr.get φ' 5 = .own 1 (bytesRows acc') → Q (M call k φ' H)) :
    ∀ (m n : Nat) (φ : Fr) (acc : List UInt8), n ≤ m → n < 2 ^ 64 → acc ++ uintB n = X → Fr.get φ 1 = .int .u64 n → Fr.get φ 5 = .own 1 (bytesRows acc) → Q (M call (.code l_codec_Uint_0 :: .blk 0 :: k) φ H) := by
  intro m
  induction m using Nat.strongRecOn with
  | _ m ih =>
    intro n φ acc hm hn hx h1 h5
    by_cases hs : n < 128
    · have e1 : ¬ (128 : Int) ≤ n := by omega
      rw [uintB_small hs] at hx
      rw [l_codec_Uint_0, M_loop]
      simp [b_codec_Uint_0, h1, h5, e1]
      exact hexit _ n acc hs hx (by simp [h1]) (by simp [h5])
    · have e1 : (128 : Int) ≤ n := by omega
      rw [uintB_big hs] at hx
      have hl : acc.length + 1 ≤ 1000000000 := by
        have := congrArg List.length hx
        simp at this; omega
      have e2 : IntKind.u8.wrap (n : Int) = ((n % 256 : Nat) : Int) := by rw [IntKind.wrap_u8]; omega
      have e4 : IntKind.u8.wrap ((BitVec.ofInt 8 ((n : Int) % 256) ||| 128#8).toNat : Int) = ((n : Int) % 128 + 128) % 256 := by
        have h := or128 (n % 256) (Nat.mod_lt _ (by decide))
        rw [show ((n : Int) % 256) = ((n % 256 : Nat) : Int) by omega]
        rw [show (128#8 : BitVec 8) = BitVec.ofInt 8 128 from rfl, h, IntKind.wrap_u8]; omega
      have e7 : 2 * (acc.length + 1) ≤ 281474976710656 := by omega
      have e5 : Int.fdiv (n : Int) 128 = ((n / 128 : Nat) : Int) := by
        rw [Int.fdiv_eq_ediv_of_nonneg _ (by decide)]; omega
      have e7 : 2 * (acc.length + 1) ≤ 281474976710656 := by omega
      have e5 : Int.fdiv (n : Int) (2 ^ 7) = ((n / 128 : Nat) : Int) := by
        rw [Int.fdiv_eq_ediv_of_nonneg _ (by decide)]; omega
      have e6 : IntKind.u64.wrap ((n / 128 : Nat) : Int) = ((n / 128 : Nat) : Int) := by rw [IntKind.wrap_u64]; omega
      have hnext : (acc ++ [UInt8.ofNat (n % 128 + 128)]) ++ uintB (n / 128) = X := by simpa using hx
      rw [l_codec_Uint_0, M_loop, ← l_codec_Uint_0]
      simp [b_codec_Uint_0, h1, h5, e1, e2, e7, bytesRows_len, IntKind.bits]
      refine ih (n / 128) (by omega) (n / 128) _ (acc ++ [UInt8.ofNat (n % 128 + 128)]) (Nat.le_refl _) (by omega) hnext ?_ ?_
      · simp
        exact Int.fdiv_eq_ediv_of_nonneg _ (by decide)
      · simp [bytesRows_append, bytesRows_one]
        exact e4

theorem xClone_of (b : List UInt8) (hb : b.length ≤ 1000000000) (H : Heap) : xClone [.sl 1 (bytesRows b)] H = some (.own 1 (bytesRows b), H) := by
  unfold xClone
  simp [rowsBytes_of, hb]
theorem sclone_eq (b : List UInt8) (hb : b.length ≤ 1000000000) (H : Heap) : eval tbl noExt n_slices_Clone_byte_byte [.sl 1 (bytesRows b)] H = some (.own 1 (bytesRows b), H) := by
  rw [eval_X rfl rfl]; exact xClone_of b hb H
theorem bclone_eq (b : List UInt8) (hb : b.length ≤ 1000000000) (H : Heap) : eval tbl noExt n_bytes_Clone [.sl 1 (bytesRows b)] H = some (.own 1 (bytesRows b), H) := by
  rw [eval_X rfl rfl]; exact xClone_of b hb H

theorem uint_eq (b : List UInt8) (hb : b.length ≤ 100000000) (n : Nat) (hn : n < 2 ^ 64) (H : Heap) : eval tbl noExt n_codec_Uint [.sl 1 (bytesRows b), .int .u64 n] H = some (.own 1 (bytesRows (b ++ uintB n)), H) := by
  have hlen := uintB_ten hn
  have hc2 := sclone_eq b (by omega) []
  rw [eval_M rfl rfl t_codec_Uint rfl]
  simp [c_codec_Uint, hc2, lt_slices_Clone_byte_byte]
  refine uint_loop _ H (fun r => r = some (.own 1 (bytesRows (b ++ uintB n)), H)) _ (b ++ uintB n) (by simp; omega) ?_ n n _ b (Nat.le_refl _) hn rfl ?_ ?_
  · intro φ' n' acc' h1 h2 h3 h4
    have e2 : IntKind.u8.wrap (n' : Int) = ((UInt8.ofNat n').toNat : Int) := by rw [IntKind.wrap_u8, ofNat_toNat8 (by omega)]; omega
    have hl : acc'.length + 1 ≤ 1000000000 := by
      have := congrArg List.length h2
      simp at this; omega
    have e7 : 2 * (acc'.length + 1) ≤ 281474976710656 := by omega
    simp [r_codec_Uint_0, h3, h4, e2, e7, bytesRows_len]
    rw [← h2, bytesRows_append, bytesRows_one]
    simp
  all_goals simp

theorem refUint_loop (call : CallF) (H : Heap) (Q : Option (V × Heap) → Prop) (k : List Item) (X : List UInt8) (hX : X.length ≤ 1000000000)
    (hexit : ∀ φ' (n' : Nat) (acc' : List UInt8), n' < 128 → acc' ++ [UInt8.ofNat n'] = X → Fr.get φ' 1 = .int .u64 n' → Fr.get φ' 5 = .own 1 (bytesRows acc') → Q (M call k φ' H)) :
    ∀ (m n : Nat) (φ : Fr) (acc : List UInt8), n ≤ m → n < 2 ^ 64 → acc ++ uintB n = X → Fr.get φ 1 = .int .u64 n → Fr.get φ 5 = .own 1 (bytesRows acc) → Q (M call (.code l_flotsamref03_Uint_0 :: .blk 0 :: k) φ H) := by
  intro m
  induction m using Nat.strongRecOn with
  | _ m ih =>
    intro n φ acc hm hn hx h1 h5
    by_cases hs : n < 128
    · have e1 : ¬ (127 : Int) < n := by omega
      rw [uintB_small hs] at hx
      rw [l_flotsamref03_Uint_0, M_loop]
      simp [b_flotsamref03_Uint_0, h1, h5, e1]
      exact hexit _ n acc hs hx (by simp [h1]) (by simp [h5])
    · have e1 : (127 : Int) < n := by omega
      rw [uintB_big hs] at hx
      have hl : acc.length + 1 ≤ 1000000000 := by
        have := congrArg List.length hx
        simp at this; omega
      have e5 : IntKind.u64.wrap ((n : Int) / 128) = (n : Int) / 128 := by rw [IntKind.wrap_u64]; omega
      have e6 : Int.tmod (n : Int) 128 = (n : Int) % 128 := Int.tmod_eq_emod_of_nonneg (by omega)
      have e2 : IntKind.u8.wrap ((n : Int) % 128) = (n : Int) % 128 := by rw [IntKind.wrap_u8]; omega
      have e3 : IntKind.u8.wrap ((n : Int) % 128 + 128) = ((n : Int) % 128 + 128) % 256 := by rw [IntKind.wrap_u8]
      have e7 : 2 * (acc.length + 1) ≤ 281474976710656 := by omega
      have hnext : (acc ++ [UInt8.ofNat (n % 128 + 128)]) ++ uintB (n / 128) = X := by simpa using hx
      rw [l_flotsamref03_Uint_0, M_loop, ← l_flotsamref03_Uint_0]
      simp [b_flotsamref03_Uint_0, h1, h5, e1, e2, e3, e5, e6, e7, bytesRows_len]
      refine ih (n / 128) (by omega) (n / 128) _ (acc ++ [UInt8.ofNat (n % 128 + 128)]) (Nat.le_refl _) (by omega) hnext ?_ ?_
      · simp
      · simp [bytesRows_append, bytesRows_one]

theorem refUint_eq (b : List UInt8) (hb : b.length ≤ 100000000) (n : Nat) (hn : n < 2 ^ 64) (H : Heap) : eval tbl noExt n_flotsamref03_Uint [.sl 1 (bytesRows b), .int .u64 n] H = some (.own 1 (bytesRows (b ++ uintB n)), H) := by
  have hlen := uintB_ten hn
  have e8 : 2 * b.length ≤ 281474976710656 := by omega
  rw [eval_M rfl rfl t_flotsamref03_Uint rfl]
  simp [c_flotsamref03_Uint, bytesRows_len, e8, bytes_all]
  refine refUint_loop _ H (fun r => r = some (.own 1 (bytesRows (b ++ uintB n)), H)) _ (b ++ uintB n) (by simp; omega) ?_ n n _ b (Nat.le_refl _) hn rfl ?_ ?_
  · intro φ' n' acc' h1 h2 h3 h4
    have e2 : IntKind.u8.wrap (n' : Int) = ((UInt8.ofNat n').toNat : Int) := by rw [IntKind.wrap_u8, ofNat_toNat8 (by omega)]; omega
    have hl : acc'.length + 1 ≤ 1000000000 := by
      have := congrArg List.length h2
      simp at this; omega
    have e7 : 2 * (acc'.length + 1) ≤ 281474976710656 := by omega
    simp [r_flotsamref03_Uint_0, h3, h4, e2, e7, bytesRows_len]
    rw [← h2, bytesRows_append, bytesRows_one]
    simp
  all_goals simp

end Go.AM.Spec

namespace Go.AM.Spec
set_option linter.unusedVariables false
set_option linter.unusedSimpArgs false
set_option maxHeartbeats 1000000
set_option maxRecDepth 10000

def takeP : Nat → Nat → List UInt8 → Option (Nat × List UInt8)
  | _, _, [] => none
  | i, n, c :: l => if 9 < i ∨ (i = 9 ∧ 1 < c.toNat % 128) then none else if c.toNat = 0 ∧ 0 < i then none
    else if c.toNat < 128 then some (n + c.toNat * 128 ^ i, l) else takeP (i + 1) (n + c.toNat % 128 * 128 ^ i) l

def takeV : Option (Nat × List UInt8) → V
  | none => .tup [.int .u64 0, .sl 1 [], .bool false]
  | some (n, r) => .tup [.int .u64 n, .sl 1 (bytesRows r), .bool true]

theorem not128 : ∀ c : Nat, c < 256 → (BitVec.ofInt 8 (c : Int) &&& ~~~ BitVec.ofInt 8 128).toNat = c % 128 := by decide +kernel
theorem and127 : ∀ c : Nat, c < 256 → (BitVec.ofInt 8 (c : Int) &&& BitVec.ofInt 8 127).toNat = c % 128 := by decide +kernel

theorem row_at {b : List UInt8} {i : Nat} {c : UInt8} {l : List UInt8} (h : b.drop i = c :: l) : i < b.length ∧ (bytesRows b)[i]? = some [.int .u8 c.toNat] ∧ b.drop (i + 1) = l := by
  have hi : i < b.length := by
    rcases Nat.lt_or_ge i b.length with h1 | h1
    · exact h1
    · rw [List.drop_eq_nil_of_le h1] at h; cases h
  rw [List.drop_eq_getElem_cons hi] at h
  simp only [List.cons.injEq] at h
  refine ⟨hi, ?_, h.2⟩
  unfold bytesRows
  rw [List.getElem?_map, List.getElem?_eq_getElem hi, h.1]
  rfl

theorem pow7 (i : Nat) : 128 ^ i = 2 ^ (7 * i) := by rw [Nat.pow_mul]

theorem or_shift {n m i : Nat} (h : n < 128 ^ i) : (n ||| m * 128 ^ i) = n + m * 128 ^ i := by
  have := Nat.two_pow_add_eq_or_of_lt (i := 7 * i) (b := n) (by rw [← pow7]; exact h) m
  rw [← pow7] at this
  rw [Nat.or_comm, Nat.mul_comm m, ← this, Nat.add_comm]

theorem fit9 {i m : Nat} (hi : i ≤ 9) (hm : m < 128) (h9 : ¬ (i = 9 ∧ 1 < m)) : m * 128 ^ i < 2 ^ 64 := by
  by_cases h : i = 9
  · subst h
    have : m ≤ 1 := by omega
    rcases (show m = 0 ∨ m = 1 by omega) with rfl | rfl <;> decide
  · have h1 : 128 ^ i ≤ 128 ^ 8 := Nat.pow_le_pow_right (by decide) (by omega)
    have h2 : m * 128 ^ i ≤ 127 * 128 ^ 8 := Nat.mul_le_mul (by omega) h1
    exact Nat.lt_of_le_of_lt h2 (by decide)

theorem ar_andNot (c : UInt8) : arith .andNot .u8 (c.toNat : Int) 128 = some (.int .u8 ((c.toNat : Int) % 128)) := by
  have h : (BitVec.ofInt IntKind.u8.bits (c.toNat : Int) &&& ~~~ BitVec.ofInt IntKind.u8.bits 128).toNat = c.toNat % 128 := not128 _ c.toNat_lt
  show some (V.int .u8 (IntKind.u8.wrap _)) = _
  rw [h, IntKind.wrap_u8]
  congr 2; omega

theorem ar_and (c : UInt8) : arith .and .u8 (c.toNat : Int) 127 = some (.int .u8 ((c.toNat : Int) % 128)) := by
  have h : (BitVec.ofInt IntKind.u8.bits (c.toNat : Int) &&& BitVec.ofInt IntKind.u8.bits 127).toNat = c.toNat % 128 := and127 _ c.toNat_lt
  show some (V.int .u8 (IntKind.u8.wrap _)) = _
  rw [h, IntKind.wrap_u8]
  congr 2; omega

theorem ar_shl (x : Int) (i : Nat) (hi : i ≤ 9) : arith .shl .u64 x (7 * (i : Int)) = some (.int .u64 (IntKind.u64.wrap (x * 2 ^ (7 * i)))) := by
  show (if (7 * (i : Int)) < 0 then none else some (V.int .u64 (IntKind.u64.wrap (x * 2 ^ (min (7 * (i : Int)).toNat IntKind.u64.bits))))) = _
  rw [if_neg (by omega), show (7 * (i : Int)).toNat = 7 * i by omega, show min (7 * i) IntKind.u64.bits = 7 * i by simp [IntKind.bits]; omega]
theorem ar_shr (x : Int) (i : Nat) (hi : i ≤ 9) : arith .shr .u64 x (7 * (i : Int)) = some (.int .u64 (x.fdiv (2 ^ (7 * i)))) := by
  show (if (7 * (i : Int)) < 0 then none else some (V.int .u64 (x.fdiv (2 ^ (min (7 * (i : Int)).toNat IntKind.u64.bits))))) = _
  rw [if_neg (by omega), show (7 * (i : Int)).toNat = 7 * i by omega, show min (7 * i) IntKind.u64.bits = 7 * i by simp [IntKind.bits]; omega]
theorem ar_or (n m : Nat) (h : (n ||| m) < 2 ^ 64) (hn : n < 2 ^ 64) (hm : m < 2 ^ 64) : arith .or .u64 (n : Int) (m : Int) = some (.int .u64 ((n ||| m : Nat) : Int)) := by
  have e : (BitVec.ofInt IntKind.u64.bits (n : Int) ||| BitVec.ofInt IntKind.u64.bits (m : Int)).toNat = (n ||| m) := by
    show (BitVec.ofInt 64 (n : Int) ||| BitVec.ofInt 64 (m : Int)).toNat = _
    rw [BitVec.toNat_or, BitVec.ofInt_natCast, BitVec.ofInt_natCast, BitVec.toNat_ofNat, BitVec.toNat_ofNat, Nat.mod_eq_of_lt hn, Nat.mod_eq_of_lt hm]
  show some (V.int .u64 (IntKind.u64.wrap _)) = _
  rw [e, IntKind.wrap_u64]
  congr 2; omega
theorem ar_zero : arith .andNot .u8 0 128 = some (.int .u8 0) := by have := ar_andNot 0; simpa using this
theorem wrap_zero : IntKind.u64.wrap 0 = 0 := by rw [IntKind.wrap_u64]; rfl
theorem ar_at (i : Nat) (hi : i ≤ 10) : arith .add .u64 (7 * (i : Int)) 7 = some (.int .u64 (7 * ((i : Int) + 1))) := by
  show some (V.int .u64 (IntKind.u64.wrap _)) = _
  rw [IntKind.wrap_u64]
  congr 2; omega
theorem ar_succ (i : Nat) (hi : i ≤ 1000000) : arith .add .i64 (i : Int) 1 = some (.int .i64 ((i : Int) + 1)) := by
  show some (V.int .i64 (IntKind.i64.wrap _)) = _
  rw [w64 (by omega) (by omega)]

theorem take_loop (b : List UInt8) (hb : b.length ≤ 100000) (H : Heap) (k : List Item) (R : Option (V × Heap))
    (hexit : ∀ φ', (∃ v, v = takeV none ∧ R = some (v, H)) → M (eval tbl noExt) (.code r_codec_TakeUint_0 :: k) φ' H = R) (hret : ∀ φ' (v1 : Int) v2, R = some (.tup [.int .u64 v1, .sl 1 v2, .bool true], H) → Fr.get φ' 2 = .int .u64 v1 → Fr.get φ' 3 = .own 1 v2 → Fr.get φ' 4 = .bool true → retK k φ' H = R) :
    ∀ (l : List UInt8) (i n : Nat) (φ : Fr), b.drop i = l → i ≤ 10 → n < 128 ^ i → R = some (takeV (takeP i n l), H) → Fr.get φ 0 = .sl 1 (bytesRows b) → Fr.get φ 5 = .int .u64 n → Fr.get φ 6 = .int .u64 (7 * (i : Int)) → Fr.get φ 10 = .sl 1 (bytesRows b) → Fr.get φ 11 = .int .i64 b.length → Fr.get φ 12 = .int .i64 i →
      M (eval tbl noExt) (.code l_codec_TakeUint_0 :: .blk 0 :: .code r_codec_TakeUint_0 :: k) φ H = R := by
  intro l
  induction l with
  | nil =>
    intro i n φ hd hi hn hR h0 h5 h6 h10 h11 h12
    have hlt : ¬ (i : Int) < b.length := by
      have := congrArg List.length hd
      simp at this; omega
    rw [l_codec_TakeUint_0, M_loop]
    simp [b_codec_TakeUint_0, h0, h5, h6, h10, h11, h12, hlt]
    exact hexit _ ⟨_, rfl, by simpa [takeP] using hR⟩
  | cons c l ih =>
    intro i n φ hd hi hn hR h0 h5 h6 h10 h11 h12
    obtain ⟨hil, hr, hd2⟩ := row_at hd
    have hg : ∀ h : i < (bytesRows b).length, (bytesRows b)[i] = [.int .u8 c.toNat] := fun h => by rw [List.getElem?_eq_getElem h] at hr; exact Option.some.inj hr
    have hc : c.toNat < 256 := c.toNat_lt
    have hlt : (i : Int) < b.length := by omega
    have A1 := ar_andNot c
    have e2 : IntKind.u64.wrap ((c.toNat : Int) % 128) = (c.toNat : Int) % 128 := by rw [IntKind.wrap_u64]; omega
    rw [l_codec_TakeUint_0, M_loop, ← l_codec_TakeUint_0]
    unfold takeP at hR
    by_cases a0 : 9 < i
    · have a0' : (64 : Int) ≤ 7 * i := by omega
      rw [if_pos (.inl a0)] at hR
      simp [-arith, b_codec_TakeUint_0, h0, h5, h6, h10, h11, h12, hlt, hr, hg, bytesRows_len, A1, e2, a0', hil]
      exact hexit _ ⟨_, rfl, hR⟩
    · have a0' : ¬ (64 : Int) ≤ 7 * i := by omega
      have A2 := fun x => ar_shl x i (by omega)
      have A3 := fun x => ar_shr x i (by omega)
      have A5 := ar_at i (by omega)
      have A6 := ar_succ i (by omega)
      by_cases a1 : i = 9 ∧ 1 < c.toNat % 128
      · rw [if_pos (.inr a1)] at hR
        have g1 : ¬ ((IntKind.u64.wrap ((c.toNat : Int) % 128 * 2 ^ (7 * i))).fdiv (2 ^ (7 * i)) = (c.toNat : Int) % 128) := by
          obtain ⟨rfl, a2⟩ := a1
          rw [IntKind.wrap_u64, Int.fdiv_eq_ediv_of_nonneg _ (by decide)]
          omega
        simp [-arith, b_codec_TakeUint_0, h0, h5, h6, h10, h11, h12, hlt, hr, hg, bytesRows_len, A1, A2, A3, e2, a0', hil, g1]
        exact hexit _ ⟨_, rfl, hR⟩
      · rw [if_neg (by omega)] at hR
        have hfit := fit9 (by omega) (Nat.mod_lt _ (by decide)) a1
        have hor := or_shift (m := c.toNat % 128) hn
        have hpow : ((128 ^ i : Nat) : Int) = 2 ^ (7 * i) := by rw [pow7]; simp
        have hS0 : ((c.toNat % 128 * 128 ^ i : Nat) : Int) = (c.toNat : Int) % 128 * 2 ^ (7 * i) := by rw [Int.natCast_mul, hpow]; rfl
        obtain ⟨S, hS⟩ : ∃ S : Nat, S = c.toNat % 128 * 128 ^ i := ⟨_, rfl⟩
        rw [← hS] at hfit hor hS0
        have s1 : IntKind.u64.wrap ((c.toNat : Int) % 128 * 2 ^ (7 * i)) = (S : Int) := by rw [← hS0, IntKind.wrap_u64]; omega
        have s2 : Int.fdiv (S : Int) (2 ^ (7 * i)) = (c.toNat : Int) % 128 := by
          rw [hS0, Int.mul_fdiv_cancel _ (by have := Int.pow_pos (n := 2) (m := 7 * i) (by decide); omega)]
        have hn64 : n < 2 ^ 64 := Nat.lt_of_lt_of_le hn (Nat.le_trans (Nat.pow_le_pow_right (by decide) (show i ≤ 9 by omega)) (by decide))
        have hnext : n + S < 128 ^ (i + 1) := by
          rw [Nat.pow_succ, hS]
          have : (c.toNat % 128) * 128 ^ i ≤ 127 * 128 ^ i := Nat.mul_le_mul_right _ (by omega)
          omega
        have hsum : n + S < 2 ^ 64 := by
          by_cases h9 : i = 9
          · subst h9
            have : S ≤ 1 * 128 ^ 9 := by rw [hS]; exact Nat.mul_le_mul_right _ (by omega)
            omega
          · exact Nat.lt_of_lt_of_le hnext (Nat.le_trans (Nat.pow_le_pow_right (by decide) (show i + 1 ≤ 9 by omega)) (by decide))
        have e9 : 0 ≤ (i : Int) + 1 := by omega
        have e10 : (i : Int) + 1 ≤ (b.length : Int) := by omega
        have hdrop : List.drop (i + 1) (List.take b.length (bytesRows b)) = bytesRows l := by
          rw [List.take_of_length_le (by rw [bytesRows_len]; exact Nat.le_refl _), ← hd2]
          unfold bytesRows
          rw [List.map_drop]
        have hcl := bclone_eq l (by rw [← hd2]; simp; omega) []
        have A4 := ar_or n S (by rw [hor]; exact hsum) hn64 hfit
        rw [hor, Int.natCast_add] at A4
        by_cases a3 : c.toNat = 0 ∧ 0 < i
        · rw [if_pos a3] at hR
          have a3' : (c.toNat : Int) = 0 := by omega
          have a4 : 0 < i := by omega
          simp only [a3'] at hg hr
          have z2 := ar_shl 0 i (by omega)
          have z3 := ar_shr 0 i (by omega)
          simp only [Int.zero_mul, wrap_zero, Int.zero_fdiv] at z2 z3
          simp [-arith, b_codec_TakeUint_0, h0, h5, h6, h10, h11, h12, hlt, hr, hg, bytesRows_len, ar_zero, wrap_zero, z2, z3, a0', hil, a4]
          exact hexit _ ⟨_, rfl, hR⟩
        · rw [if_neg a3] at hR
          have a3' : ¬ ((c.toNat : Int) = 0 ∧ (0 : Int) < i) := by omega
          have a3b : (c.toNat : Int) = 0 → ¬ (0 : Int) < i := by omega
          by_cases a5 : c.toNat < 128
          · rw [if_pos a5] at hR
            have a5' : (c.toNat : Int) < 128 := by omega
            by_cases a6n : c.toNat = 0
            · have a6 : (c.toNat : Int) = 0 := by omega
              have a7 : ¬ 0 < i := by omega
              have hi0 : i = 0 := by omega
              simp only [a6] at hg hr
              have z2 := ar_shl 0 i (by omega)
              have z3 := ar_shr 0 i (by omega)
              simp only [Int.zero_mul, wrap_zero, Int.zero_fdiv] at z2 z3
              have hS2 : S = 0 := by rw [hS, show c.toNat = 0 by omega]; simp
              rw [hS2] at A4
              have z4 : arith .or .u64 (n : Int) 0 = some (.int .u64 (n : Int)) := by simpa using A4
              have hR2 : R = some (.tup [.int .u64 (n : Int), .sl 1 (bytesRows l), .bool true], H) := by rw [hR, show c.toNat = 0 by omega]; simp [takeV]
              simp [-arith, b_codec_TakeUint_0, h0, h5, h6, h10, h11, h12, hlt, hr, hg, bytesRows_len, ar_zero, wrap_zero, z2, z3, z4, A6, a0', hil, a7, e9, e10, hdrop, hcl, lt_bytes_Clone]
              exact hret _ _ _ hR2 (by simp) (by simp) (by simp)
            · have hR2 : R = some (.tup [.int .u64 ((n : Int) + S), .sl 1 (bytesRows l), .bool true], H) := by rw [hR, hS, Nat.mod_eq_of_lt a5]; simp [takeV]
              simp [-arith, b_codec_TakeUint_0, h0, h5, h6, h10, h11, h12, hlt, hr, hg, bytesRows_len, A1, A2, A3, A4, A5, A6, e2, a0', hil, s1, s2, a6n, a5, a5', e9, e10, hdrop, hcl, lt_bytes_Clone]
              exact hret _ _ _ hR2 (by simp) (by simp) (by simp)
          · rw [if_neg a5] at hR
            have a5' : ¬ (c.toNat : Int) < 128 := by omega
            have a6n : ¬ c.toNat = 0 := by omega
            simp [-arith, b_codec_TakeUint_0, h0, h5, h6, h10, h11, h12, hlt, hr, hg, bytesRows_len, A1, A2, A3, A4, A5, A6, e2, a0', hil, s1, s2, a6n, a5, a5', e9, e10, hdrop, hcl, lt_bytes_Clone]
            refine ih (i + 1) (n + S) _ hd2 (by omega) hnext (by rw [hR, hS]) ?_ ?_ ?_ ?_ ?_ ?_ <;> simp [h0, h10, h11]

theorem take_eq (b : List UInt8) (hb : b.length ≤ 100000) (H : Heap) : eval tbl noExt n_codec_TakeUint [.sl 1 (bytesRows b)] H = some (takeV (takeP 0 0 b), H) := by
  rw [eval_M rfl rfl t_codec_TakeUint rfl]
  simp [c_codec_TakeUint, bytesRows_len]
  refine take_loop b hb H _ _ ?_ ?_ b 0 0 _ rfl (by omega) (by simp) rfl ?_ ?_ ?_ ?_ ?_ ?_
  · rintro φ' ⟨v, hv, hR⟩
    rw [hR, hv]
    simp [r_codec_TakeUint_0, takeV]
  · intro φ' v1 v2 hR h2 h3 h4
    rw [hR]
    simp [h2, h3, h4]
  all_goals simp

end Go.AM.Spec

namespace Go.AM.Spec
set_option linter.unusedVariables false
set_option linter.unusedSimpArgs false
set_option maxHeartbeats 1000000
set_option maxRecDepth 10000

theorem lt_nine {n : Nat} (h : n * 128 ^ 9 < 2 ^ 64) : n < 2 := by omega

/-- A number comes back from its bytes. -/
theorem take_uint : ∀ (m n i acc : Nat) (r : List UInt8), n ≤ m → i ≤ 9 → n * 128 ^ i < 2 ^ 64 → (0 < i → 0 < n) → takeP i acc (uintB n ++ r) = some (acc + n * 128 ^ i, r) := by
  intro m
  induction m using Nat.strongRecOn with
  | _ m ih =>
    intro n i acc r hm hi hn h0
    by_cases hs : n < 128
    · rw [uintB_small hs]
      have hc : (UInt8.ofNat n).toNat = n := by rw [UInt8.toNat_ofNat', Nat.mod_eq_of_lt (by omega)]
      simp only [List.cons_append, List.nil_append, takeP, hc]
      rw [if_neg ?_, if_neg ?_, if_pos hs]
      · rintro ⟨h1, h2⟩
        have := h0 h2; omega
      · rintro (h1 | ⟨rfl, h2⟩)
        · omega
        · have := lt_nine hn; omega
    · rw [uintB_big hs]
      have hc : (UInt8.ofNat (n % 128 + 128)).toNat = n % 128 + 128 := by rw [UInt8.toNat_ofNat', Nat.mod_eq_of_lt (by omega)]
      have hi8 : i ≤ 8 := by
        rcases Nat.lt_or_ge i 9 with h | h
        · omega
        · have : i = 9 := by omega
          subst this
          have := lt_nine hn; omega
      have hmul : n / 128 * 128 ^ (i + 1) ≤ n * 128 ^ i := by
        rw [Nat.pow_succ, Nat.mul_comm (128 ^ i), ← Nat.mul_assoc]
        exact Nat.mul_le_mul_right _ (Nat.div_mul_le_self n 128)
      have := ih (n / 128) (by omega) (n / 128) (i + 1) (acc + n % 128 * 128 ^ i) r (Nat.le_refl _) (by omega) (by omega) (by intro _; omega)
      simp only [List.cons_append, takeP, hc]
      rw [if_neg (by omega), if_neg (by omega), if_neg (by omega), show (n % 128 + 128) % 128 = n % 128 by omega, this]
      congr 2
      rw [Nat.pow_succ, Nat.mul_comm (128 ^ i), ← Nat.mul_assoc, Nat.add_assoc, ← Nat.add_mul]
      congr 2
      omega

theorem take_first (n : Nat) (r : List UInt8) (h : n < 2 ^ 64) : takeP 0 0 (uintB n ++ r) = some (n, r) := by
  have := take_uint n n 0 0 r (Nat.le_refl _) (by omega) (by simpa using h) (by omega)
  simpa using this

def valB : List UInt8 → Nat
  | [] => 0
  | c :: l => c.toNat % 128 + 128 * valB l

theorem valB_uintB : ∀ (m n : Nat), n ≤ m → valB (uintB n) = n := by
  intro m
  induction m using Nat.strongRecOn with
  | _ m ih =>
    intro n hm
    by_cases hs : n < 128
    · rw [uintB_small hs]
      simp only [valB, UInt8.toNat_ofNat']
      omega
    · rw [uintB_big hs]
      simp only [valB, UInt8.toNat_ofNat']
      rw [ih (n / 128) (by omega) (n / 128) (Nat.le_refl _)]
      omega

theorem valB_snoc (p : List UInt8) (c : UInt8) : valB (p ++ [c]) = valB p + c.toNat % 128 * 128 ^ p.length := by
  induction p with
  | nil => simp [valB]
  | cons a p ih =>
    simp only [List.cons_append, valB, ih, List.length_cons, Nat.pow_succ]
    rw [Nat.mul_add, Nat.mul_comm (128 ^ p.length) 128, ← Nat.mul_assoc, ← Nat.mul_assoc, Nat.mul_comm (c.toNat % 128) 128, Nat.add_assoc]

theorem valB_lt (p : List UInt8) : valB p < 128 ^ p.length := by
  induction p with
  | nil => simp [valB]
  | cons a p ih =>
    simp only [valB, List.length_cons, Nat.pow_succ]
    omega

theorem canon : ∀ (p : List UInt8) (c : UInt8), (∀ a ∈ p, 128 ≤ a.toNat) → c.toNat < 128 → (uintB (valB (p ++ [c])) = p ++ [c] ↔ (p = [] ∨ c.toNat ≠ 0))
  | [], c, _, hc => by
    simp only [List.nil_append, valB]
    rw [uintB_small (by omega)]
    simp
    apply UInt8.toNat_inj.1
    rw [UInt8.toNat_ofNat']
    omega
  | a :: p, c, ha, hc => by
    have ih := canon p c (fun x hx => ha x (by simp [hx])) hc
    have ha0 := ha a (by simp)
    have ha1 : a.toNat < 256 := a.toNat_lt
    simp only [List.cons_append, valB]
    obtain ⟨V, hV⟩ : ∃ V, V = valB (p ++ [c]) := ⟨_, rfl⟩
    rw [← hV] at ih ⊢
    by_cases h0 : V = 0
    · subst h0
      rw [uintB_small (by omega)]
      have hV2 := valB_snoc p c
      rw [← hV] at hV2
      have hpos : 0 < 128 ^ p.length := Nat.pow_pos (by decide)
      have hc0 : c.toNat = 0 := by
        rcases Nat.eq_zero_or_pos c.toNat with h | h
        · exact h
        · have : 0 < c.toNat % 128 * 128 ^ p.length := Nat.mul_pos (by omega) hpos
          omega
      simp [hc0]
    · rw [uintB_big (by omega), show (a.toNat % 128 + 128 * V) / 128 = V by omega]
      have e : UInt8.ofNat ((a.toNat % 128 + 128 * V) % 128 + 128) = a := by
        apply UInt8.toNat_inj.1
        rw [UInt8.toNat_ofNat']
        omega
      rw [e]
      simp only [List.cons.injEq, true_and]
      rw [ih]
      constructor
      · rintro (h | h)
        · subst h
          right
          intro hc0
          apply h0
          rw [hV]
          simp [valB, hc0]
        · exact .inr h
      · rintro (h | h)
        · cases h
        · exact .inr h

theorem ar_mul7 (i : Nat) (hi : i ≤ 1000) : arith .mul .i64 7 (i : Int) = some (.int .i64 (7 * (i : Int))) := by
  show some (V.int .i64 (IntKind.i64.wrap _)) = _
  rw [w64 (by omega) (by omega)]

theorem refTake_loop (b : List UInt8) (hb : b.length ≤ 100000) (H : Heap) (k : List Item) (R : Option (V × Heap))
    (hexit : ∀ φ', R = some (takeV none, H) → M (eval tbl noExt) (.code r_flotsamref03_TakeUint_0 :: k) φ' H = R)
    (hret0 : ∀ φ', R = some (takeV none, H) → Fr.get φ' 2 = .int .u64 0 → Fr.get φ' 3 = .own 1 [] → Fr.get φ' 4 = .bool false → retK k φ' H = R)
    (hret : ∀ φ' (v1 : Int) v2, R = some (.tup [.int .u64 v1, .sl 1 v2, .bool true], H) → Fr.get φ' 2 = .int .u64 v1 → Fr.get φ' 3 = .own 1 v2 → Fr.get φ' 4 = .bool true → retK k φ' H = R) :
    ∀ (l p : List UInt8) (φ : Fr), b = p ++ l → p.length ≤ 10 → (∀ a ∈ p, 128 ≤ a.toNat) → R = some (takeV (takeP p.length (valB p) l), H) → Fr.get φ 0 = .sl 1 (bytesRows b) → (p.length ≤ 9 → Fr.get φ 5 = .int .u64 (valB p)) → Fr.get φ 6 = .int .i64 p.length →
      M (eval tbl noExt) (.code l_flotsamref03_TakeUint_0 :: .blk 0 :: .code r_flotsamref03_TakeUint_0 :: k) φ H = R := by
  intro l
  induction l with
  | nil =>
    intro p φ hd hi hp hR h0 h5 h6
    have hlt : ¬ (p.length : Int) < b.length := by rw [hd]; simp
    have hlt' : ¬ p.length < b.length := by rw [hd]; simp
    rw [l_flotsamref03_TakeUint_0, M_loop]
    simp [b_flotsamref03_TakeUint_0, h0, h6, bytesRows_len, hlt, hlt']
    exact hexit _ (by simpa [takeP] using hR)
  | cons c l ih =>
    intro p φ hd hi hp hR h0 h5 h6
    obtain ⟨i, hI⟩ : ∃ i, i = p.length := ⟨_, rfl⟩
    obtain ⟨hil, hr, hd2⟩ := row_at (b := b) (i := i) (c := c) (l := l) (by rw [hd, hI]; simp)
    have hg : ∀ h : i < (bytesRows b).length, (bytesRows b)[i] = [.int .u8 c.toNat] := fun h => by rw [List.getElem?_eq_getElem h] at hr; exact Option.some.inj hr
    have hlt : (i : Int) < b.length := by omega
    have hc : c.toNat < 256 := c.toNat_lt
    rw [← hI] at hi hR h5 h6
    rw [l_flotsamref03_TakeUint_0, M_loop, ← l_flotsamref03_TakeUint_0]
    unfold takeP at hR
    by_cases a0 : 9 < i
    · have a0' : ¬ (i : Int) < 10 := by omega
      have a0'' : ¬ i < 10 := by omega
      rw [if_pos (.inl a0)] at hR
      simp [-arith, b_flotsamref03_TakeUint_0, h0, h6, hlt, hil, bytesRows_len, a0', a0'']
      exact hexit _ hR
    · have a0' : (i : Int) < 10 := by omega
      have a0'' : i < 10 := by omega
      have h5 := h5 (by omega)
      obtain ⟨n, hN⟩ : ∃ n, n = valB p := ⟨_, rfl⟩
      rw [← hN] at h5 hR
      have hn : n < 128 ^ i := by rw [hN, hI]; exact valB_lt p
      have hn64 : n < 2 ^ 64 := Nat.lt_of_lt_of_le hn (Nat.le_trans (Nat.pow_le_pow_right (by decide) (show i ≤ 9 by omega)) (by decide))
      have A1 := ar_and c
      have e2 : IntKind.u64.wrap ((c.toNat : Int) % 128) = (c.toNat : Int) % 128 := by rw [IntKind.wrap_u64]; omega
      have Am := ar_mul7 i (by omega)
      have A6 := ar_succ i (by omega)
      have A2 := ar_shl ((c.toNat : Int) % 128) i (by omega)
      have e9 : 0 ≤ (i : Int) + 1 := by omega
      have e10 : (i : Int) + 1 ≤ (b.length : Int) := by omega
      have htake : List.take (i + 1) (bytesRows b) = bytesRows (p ++ [c]) := by
        unfold bytesRows
        rw [← List.map_take, hd, hI, show p ++ c :: l = (p ++ [c]) ++ l by simp, List.take_left' (by simp)]
      have hdrop : List.drop (i + 1) (List.take b.length (bytesRows b)) = bytesRows l := by
        rw [List.take_of_length_le (by rw [bytesRows_len]; exact Nat.le_refl _), ← hd2]
        unfold bytesRows
        rw [List.map_drop]
      -- the number so far
      obtain ⟨m, hm⟩ : ∃ m, m = if i = 9 then c.toNat % 128 % 2 else c.toNat % 128 := ⟨_, rfl⟩
      have hm1 : m < 128 := by rw [hm]; split <;> omega
      have hm9 : ¬ (i = 9 ∧ 1 < m) := by rintro ⟨h, h2⟩; rw [hm, if_pos h] at h2; omega
      have hfit := fit9 (by omega) hm1 hm9
      have hor := or_shift (m := m) hn
      have hpow : ((128 ^ i : Nat) : Int) = 2 ^ (7 * i) := by rw [pow7]; simp
      obtain ⟨S, hS⟩ : ∃ S : Nat, S = m * 128 ^ i := ⟨_, rfl⟩
      rw [← hS] at hfit hor
      have s1 : IntKind.u64.wrap ((c.toNat : Int) % 128 * 2 ^ (7 * i)) = (S : Int) := by
        rw [IntKind.wrap_u64]
        by_cases h9 : i = 9
        · rw [hm, if_pos h9, h9] at hS
          rw [h9]
          rw [hS]
          have : (2 : Int) ^ (7 * 9) = 9223372036854775808 := by decide
          rw [this]
          omega
        · rw [hm, if_neg h9] at hS
          have : (S : Int) = (c.toNat : Int) % 128 * 2 ^ (7 * i) := by rw [hS, Int.natCast_mul, hpow]; rfl
          rw [← this]
          omega
      rw [s1] at A2
      have hsum : n + S < 2 ^ 64 := by
        by_cases h9 : i = 9
        · subst h9
          have : S ≤ 1 * 128 ^ 9 := by rw [hS]; exact Nat.mul_le_mul_right _ (by omega)
          omega
        · have h3 : S ≤ 127 * 128 ^ i := by rw [hS]; exact Nat.mul_le_mul_right _ (by omega)
          have h4 : 128 * 128 ^ i ≤ 128 * 128 ^ 8 := Nat.mul_le_mul_left _ (Nat.pow_le_pow_right (by decide) (by omega))
          have h5' : 128 * 128 ^ 8 ≤ 2 ^ 64 := by decide
          omega
      have A4 := ar_or n S (by rw [hor]; exact hsum) hn64 hfit
      rw [hor, Int.natCast_add] at A4
      have hval : ¬ (i = 9 ∧ 1 < c.toNat % 128) → n + S = valB (p ++ [c]) := by
        intro h
        rw [valB_snoc, ← hN, hS, ← hI, hm]
        split
        · rename_i h9
          congr 2
          omega
        · rfl
      by_cases a5 : 127 < c.toNat
      · have a5' : (127 : Int) < c.toNat := by omega
        simp [-arith, b_flotsamref03_TakeUint_0, h0, h5, h6, hlt, hil, hr, hg, bytesRows_len, a0', a0'', A1, A2, A4, A6, Am, e2, a5, a5']
        refine ih (p ++ [c]) _ (by rw [hd]; simp) (by simp; omega) ?_ ?_ ?_ ?_ ?_
        · intro a ha
          rcases List.mem_append.1 ha with h | h
          · exact hp a h
          · simp at h; subst h; omega
        · rw [hR]
          by_cases a1 : i = 9 ∧ 1 < c.toNat % 128
          · rw [if_pos (.inr a1)]
            have : (p ++ [c]).length = 10 := by simp; omega
            rw [this]
            cases l <;> simp [takeP]
          · rw [if_neg (by omega), if_neg (by omega), if_neg (by omega)]
            have := hval a1
            rw [← this, List.length_append, ← hI, hS, hm]
            split
            · rename_i h9
              rw [show c.toNat % 128 % 2 = c.toNat % 128 by omega]; rfl
            · rfl
        · simp [h0]
        · intro hl
          have h9 : ¬ (i = 9 ∧ 1 < c.toNat % 128) := by simp at hl; omega
          rw [← hval h9]
          simp
        · simp [hI]
      · have a5' : ¬ (127 : Int) < c.toNat := by omega
        have hU := refUint_eq [] (by simp) (n + S) hsum []
        have hU' : eval tbl noExt n_flotsamref03_Uint [.sl 1 [], .int .u64 ((n : Int) + S)] [] = some (.own 1 (bytesRows (uintB (n + S))), []) := by
          have h0 : bytesRows [] = [] := rfl
          rw [h0] at hU
          simpa using hU
        have hcan := canon p c hp (by omega)
        by_cases hok : uintB (n + S) = p ++ [c]
        · have e11 : 2 * l.length ≤ 281474976710656 := by
            have : l.length ≤ b.length := by rw [hd]; simp; omega
            omega
          have a1 : ¬ (i = 9 ∧ 1 < c.toNat % 128) := by
            rintro ⟨h9, h1⟩
            have h2 := congrArg valB hok
            rw [valB_uintB _ _ (Nat.le_refl _), valB_snoc, ← hN, hS, ← hI, hm, if_pos h9, h9] at h2
            omega
          rw [hval a1] at hok
          have hc0 := hcan.1 hok
          rw [if_neg (by omega), if_neg (by
            rintro ⟨h1, h2⟩
            rcases hc0 with h | h
            · subst h; simp at hI; omega
            · exact h h1), if_pos (by omega)] at hR
          have hR2 : R = some (.tup [.int .u64 ((n : Int) + S), .sl 1 (bytesRows l), .bool true], H) := by
            rw [hR]
            have := hval a1
            rw [valB_snoc, ← hN, ← hI, Nat.mod_eq_of_lt (by omega)] at this
            simp only [takeV]
            rw [← this, Int.natCast_add]
          rw [← hval a1] at hok
          simp [-arith, b_flotsamref03_TakeUint_0, h0, h5, h6, hlt, hil, hr, hg, bytesRows_len, a0', a0'', A1, A2, A4, A6, Am, e2, a5, a5', hU', lt_flotsamref03_Uint, e9, e10, htake, hdrop, rowsBytes_of, hok, e11, bytes_all]
          exact hret _ _ _ hR2 (by simp) (by simp) (by simp)
        · have hR2 : R = some (takeV none, H) := by
            rw [hR]
            by_cases a1 : i = 9 ∧ 1 < c.toNat % 128
            · rw [if_pos (.inr a1)]
            · rw [hval a1] at hok
              have : ¬ (p = [] ∨ c.toNat ≠ 0) := fun h => hok (hcan.2 h)
              rw [if_neg (by omega), if_pos (by
                constructor
                · rcases Nat.eq_zero_or_pos c.toNat with h | h
                  · exact h
                  · exact absurd (.inr (by omega)) this
                · rw [hI]
                  cases p with
                  | nil => exact absurd (.inl rfl) this
                  | cons => simp)]
          simp [-arith, b_flotsamref03_TakeUint_0, h0, h5, h6, hlt, hil, hr, hg, bytesRows_len, a0', a0'', A1, A2, A4, A6, Am, e2, a5, a5', hU', lt_flotsamref03_Uint, e9, e10, htake, hdrop, rowsBytes_of, hok]
          exact hret0 _ hR2 (by simp) (by simp) (by simp)

theorem refTake_eq (b : List UInt8) (hb : b.length ≤ 100000) (H : Heap) : eval tbl noExt n_flotsamref03_TakeUint [.sl 1 (bytesRows b)] H = some (takeV (takeP 0 0 b), H) := by
  rw [eval_M rfl rfl t_flotsamref03_TakeUint rfl]
  simp [c_flotsamref03_TakeUint]
  refine refTake_loop b hb H _ _ ?_ ?_ ?_ b [] _ rfl (by simp) (by simp) rfl ?_ ?_ ?_
  · intro φ' hR
    rw [hR]
    simp [r_flotsamref03_TakeUint_0, takeV]
  · intro φ' hR h2 h3 h4
    rw [hR]
    simp [h2, h3, h4, takeV]
  · intro φ' v1 v2 hR h2 h3 h4
    rw [hR]
    simp [h2, h3, h4]
  all_goals simp [valB]

end Go.AM.Spec

namespace Go.AM.Spec
set_option linter.unusedVariables false
set_option linter.unusedSimpArgs false
set_option maxHeartbeats 1000000
set_option maxRecDepth 10000

def xorU (h c : Int) : Int := IntKind.u64.wrap ((BitVec.ofInt IntKind.u64.bits h ^^^ BitVec.ofInt IntKind.u64.bits c).toNat : Int)
theorem ar_xor (h c : Int) : arith .xor .u64 h c = some (.int .u64 (xorU h c)) := rfl
theorem ar_mulK (x : Int) : arith .mul .u64 x 1099511628211 = some (.int .u64 (IntKind.u64.wrap (x * 1099511628211))) := rfl
def stepS (h : Int) (c : UInt8) : Int := IntKind.u64.wrap (xorU h c.toNat * 1099511628211)
def sumI (l : List UInt8) : Int := l.foldl stepS 14695981039346656037
def sumN (l : List UInt8) : Nat := (sumI l).toNat

theorem stepS_range (h : Int) (c : UInt8) : 0 ≤ stepS h c ∧ stepS h c < 18446744073709551616 := by
  unfold stepS
  rw [IntKind.wrap_u64]
  omega
theorem sumI_range (l : List UInt8) : 0 ≤ sumI l ∧ sumI l < 18446744073709551616 := by
  unfold sumI
  have : ∀ (l : List UInt8) (h : Int), 0 ≤ h ∧ h < 18446744073709551616 → 0 ≤ l.foldl stepS h ∧ l.foldl stepS h < 18446744073709551616 := by
    intro l
    induction l with
    | nil => intro h hh; exact hh
    | cons c l ih => intro h _; exact ih _ (stepS_range h c)
  exact this l _ (by omega)
theorem sumN_eq (l : List UInt8) : (sumN l : Int) = sumI l := by have := (sumI_range l).1; unfold sumN; omega
theorem sumN_lt (l : List UInt8) : sumN l < 2 ^ 64 := by have := sumI_range l; unfold sumN; omega

theorem sum34_loop (b : List UInt8) (hb : b.length ≤ 10000000) (call : CallF) (H : Heap) (Q : Option (V × Heap) → Prop) (k : List Item) (X : Int) (hexit : ∀ φ', Fr.get φ' 3 = .int .u64 X → Q (M call k φ' H)) :
    ∀ (l : List UInt8) (i : Nat) (h : Int) (φ : Fr), b.drop i = l → i ≤ b.length → l.foldl stepS h = X → Fr.get φ 3 = .int .u64 h → Fr.get φ 6 = .sl 1 (bytesRows b) → Fr.get φ 7 = .int .i64 b.length → Fr.get φ 8 = .int .i64 i →
      Q (M call (.code l_pack_Sum_0 :: .blk 0 :: k) φ H) := by
  intro l
  induction l with
  | nil =>
    intro i h φ hd hi hX h3 h6 h7 h8
    have hlt : ¬ (i : Int) < b.length := by
      have := congrArg List.length hd
      simp at this; omega
    have hlt' : ¬ i < b.length := by omega
    rw [l_pack_Sum_0, M_loop]
    simp [b_pack_Sum_0, h3, h6, h7, h8, hlt, hlt']
    exact hexit _ (by simp [h3]; exact hX)
  | cons c l ih =>
    intro i h φ hd hi hX h3 h6 h7 h8
    obtain ⟨hil, hr, hd2⟩ := row_at hd
    have hg : ∀ h : i < (bytesRows b).length, (bytesRows b)[i] = [.int .u8 c.toNat] := fun h => by rw [List.getElem?_eq_getElem h] at hr; exact Option.some.inj hr
    have hlt : (i : Int) < b.length := by omega
    have hc : c.toNat < 256 := c.toNat_lt
    have e2 : IntKind.u64.wrap (c.toNat : Int) = (c.toNat : Int) := by rw [IntKind.wrap_u64]; omega
    have A6 : arith .add .i64 (i : Int) 1 = some (.int .i64 ((i : Int) + 1)) := by
      show some (V.int .i64 (IntKind.i64.wrap _)) = _
      rw [w64 (by omega) (by omega)]
    rw [l_pack_Sum_0, M_loop, ← l_pack_Sum_0]
    simp [-arith, b_pack_Sum_0, h3, h6, h7, h8, hlt, hil, hr, hg, bytesRows_len, e2, A6, ar_xor, ar_mulK]
    refine ih (i + 1) (stepS h c) _ hd2 (by omega) (by simpa using hX) ?_ ?_ ?_ ?_ <;> simp [stepS, h6, h7]

theorem sum34_eq (b : List UInt8) (hb : b.length ≤ 10000000) (H : Heap) : eval tbl noExt n_pack_Sum [.sl 1 (bytesRows b)] H = some (.int .u64 (sumI b), H) := by
  rw [eval_M rfl rfl t_pack_Sum rfl]
  simp [c_pack_Sum, bytesRows_len]
  refine sum34_loop b hb _ H (fun r => r = some (.int .u64 (sumI b), H)) _ (sumI b) ?_ b 0 14695981039346656037 _ rfl (by omega) rfl ?_ ?_ ?_ ?_
  · intro φ' h3
    simp [r_pack_Sum_0, h3]
  all_goals simp

theorem refSum34_loop (b : List UInt8) (hb : b.length ≤ 10000000) (call : CallF) (H : Heap) (Q : Option (V × Heap) → Prop) (k : List Item) (X : Int) (hexit : ∀ φ', Fr.get φ' 3 = .int .u64 X → Q (M call k φ' H)) :
    ∀ (l : List UInt8) (i : Nat) (h : Int) (φ : Fr), b.drop i = l → i ≤ b.length → l.foldl stepS h = X → Fr.get φ 3 = .int .u64 h → Fr.get φ 0 = .sl 1 (bytesRows b) → Fr.get φ 4 = .int .i64 i →
      Q (M call (.code l_flotsamref34_Sum_0 :: .blk 0 :: k) φ H) := by
  intro l
  induction l with
  | nil =>
    intro i h φ hd hi hX h3 h0 h4
    have hlt : ¬ (i : Int) < b.length := by
      have := congrArg List.length hd
      simp at this; omega
    have hlt' : ¬ i < b.length := by omega
    rw [l_flotsamref34_Sum_0, M_loop]
    simp [b_flotsamref34_Sum_0, h3, h0, h4, hlt, hlt', bytesRows_len]
    exact hexit _ (by simp [h3]; exact hX)
  | cons c l ih =>
    intro i h φ hd hi hX h3 h0 h4
    obtain ⟨hil, hr, hd2⟩ := row_at hd
    have hg : ∀ h : i < (bytesRows b).length, (bytesRows b)[i] = [.int .u8 c.toNat] := fun h => by rw [List.getElem?_eq_getElem h] at hr; exact Option.some.inj hr
    have hlt : (i : Int) < b.length := by omega
    have hc : c.toNat < 256 := c.toNat_lt
    have e2 : IntKind.u64.wrap (c.toNat : Int) = (c.toNat : Int) := by rw [IntKind.wrap_u64]; omega
    have A6 : arith .add .i64 (i : Int) 1 = some (.int .i64 ((i : Int) + 1)) := by
      show some (V.int .i64 (IntKind.i64.wrap _)) = _
      rw [w64 (by omega) (by omega)]
    rw [l_flotsamref34_Sum_0, M_loop, ← l_flotsamref34_Sum_0]
    simp [-arith, b_flotsamref34_Sum_0, h3, h0, h4, hlt, hil, hr, hg, bytesRows_len, e2, A6, ar_xor, ar_mulK]
    refine ih (i + 1) (stepS h c) _ hd2 (by omega) (by simpa using hX) ?_ ?_ ?_ <;> simp [stepS, h0]

theorem refSum34_eq (b : List UInt8) (hb : b.length ≤ 10000000) (H : Heap) : eval tbl noExt n_flotsamref34_Sum [.sl 1 (bytesRows b)] H = some (.int .u64 (sumI b), H) := by
  rw [eval_M rfl rfl t_flotsamref34_Sum rfl]
  simp [c_flotsamref34_Sum, bytesRows_len]
  refine refSum34_loop b hb _ H (fun r => r = some (.int .u64 (sumI b), H)) _ (sumI b) ?_ b 0 14695981039346656037 _ rfl (by omega) rfl ?_ ?_ ?_
  · intro φ' h3
    simp [r_flotsamref34_Sum_0, h3]
  all_goals simp

/-- The eight bytes of a sum. -/
def sealS (n : Nat) : List UInt8 := [UInt8.ofNat (n / 72057594037927936), UInt8.ofNat (n / 281474976710656), UInt8.ofNat (n / 1099511627776), UInt8.ofNat (n / 4294967296), UInt8.ofNat (n / 16777216), UInt8.ofNat (n / 65536), UInt8.ofNat (n / 256), UInt8.ofNat n]
theorem sealS_len (n : Nat) : (sealS n).length = 8 := rfl

theorem ar_shr8 (n : Nat) : arith .shr .u64 (n : Int) 8 = some (.int .u64 ((n / 256 : Nat) : Int)) := by
  show (if (8 : Int) < 0 then none else some (V.int .u64 ((n : Int).fdiv (2 ^ (min (8 : Int).toNat IntKind.u64.bits))))) = _
  rw [if_neg (by decide), show (2 : Int) ^ (min (8 : Int).toNat IntKind.u64.bits) = 256 by decide, Int.fdiv_eq_ediv_of_nonneg _ (by decide)]
  congr 2

def fillS : Nat → Nat → Nat → List V → List V
  | 0, _, _, cs => cs
  | j + 1, i, m, cs => fillS j (i + 1) (m / 256) (cs.set (7 - i) (.int .u8 (UInt8.ofNat m).toNat))

theorem seal_loop (call : CallF) (k : List Item) (R : Option (V × Heap)) (X : List V) (hexit : ∀ φ', Fr.get φ' 3 = .ms 0 0 8 8 → M call k φ' [some X] = R) :
    ∀ (j i m : Nat) (cs : List V) (φ : Fr), i + j = 8 → cs.length = 8 → fillS j i m cs = X → Fr.get φ 0 = .int .u64 m → Fr.get φ 3 = .ms 0 0 8 8 → Fr.get φ 7 = .int .i64 8 → Fr.get φ 8 = .int .i64 i →
      M call (.code l_pack_seal_0 :: .blk 0 :: k) φ [some cs] = R := by
  intro j
  induction j with
  | zero =>
    intro i m cs φ hi hcs hX h0 h3 h7 h8
    have hlt : ¬ (i : Int) < 8 := by omega
    have hlt' : ¬ i < 8 := by omega
    rw [l_pack_seal_0, M_loop]
    simp [b_pack_seal_0, h0, h3, h7, h8, hlt, hlt']
    rw [show cs = X from hX]
    exact hexit _ (by simp [h3])
  | succ j ih =>
    intro i m cs φ hi hcs hX h0 h3 h7 h8
    have hlt : (i : Int) < 8 := by omega
    have hlt' : i < 8 := by omega
    have A1 : arith .sub .i64 7 (i : Int) = some (.int .i64 ((7 - i : Nat) : Int)) := by
      show some (V.int .i64 (IntKind.i64.wrap _)) = _
      rw [w64 (by omega) (by omega)]
      congr 2; omega
    have A2 := ar_shr8 m
    have A3 := ar_succ i (by omega)
    have e2 : IntKind.u8.wrap (m : Int) = ((UInt8.ofNat m).toNat : Int) := by rw [IntKind.wrap_u8, UInt8.toNat_ofNat']; omega
    obtain ⟨q, hq⟩ : ∃ q, q = 7 - i := ⟨_, rfl⟩
    obtain ⟨m', hm'⟩ : ∃ m', m' = m / 256 := ⟨_, rfl⟩
    obtain ⟨y, hy⟩ : ∃ y, y = (UInt8.ofNat m).toNat := ⟨_, rfl⟩
    rw [← hq] at A1
    rw [← hm'] at A2
    rw [← hy] at e2
    have hq8 : (q : Int) < 8 := by omega
    have hq8' : q < 8 := by omega
    have hq1 : q + 1 ≤ 8 := by omega
    rw [l_pack_seal_0, M_loop, ← l_pack_seal_0]
    simp [-arith, b_pack_seal_0, h0, h3, h7, h8, hlt, hlt', A1, A2, A3, e2, hq8, hq8', hq1, hcs]
    refine ih (i + 1) m' _ _ (by omega) (by simp [hcs]) (by rw [← hX]; simp only [fillS]; rw [hq, hm', hy]) ?_ ?_ ?_ ?_ <;> simp [h3, h7]

theorem seal_eq (n : Nat) : eval tbl noExt n_pack_seal [.int .u64 n] [] = some (.sl 1 (bytesRows (sealS n)), []) := by
  rw [eval_M rfl rfl t_pack_seal rfl]
  simp [c_pack_seal]
  refine seal_loop _ _ _ ((sealS n).map fun c => .int .u8 c.toNat) ?_ 8 0 n _ _ rfl rfl ?_ ?_ ?_ ?_ ?_
  · intro φ' h3
    simp [r_pack_seal_0, h3, sealS, bytesRows]
  · simp [fillS, sealS, Nat.div_div_eq_div_mul]
  all_goals simp

end Go.AM.Spec

namespace Go.AM.Spec
set_option linter.unusedVariables false
set_option linter.unusedSimpArgs false
set_option maxHeartbeats 1000000
set_option maxRecDepth 10000

def numsB (l : List Nat) : List UInt8 := l.flatMap uintB
def cellN (c : Ce) : List Nat := c.says.toNat :: (if c.says = 1 then [c.point.toNat, c.kept.toNat, c.verdict.toNat, c.err.toNat] else if c.says = 2 then [c.limit.toNat] else [])
def cellsN (l : List Ce) : List Nat := l.flatMap cellN
def siteNs (s : Si) : List Nat := s.kind.toNat :: s.part.toNat :: s.deep.toNat :: (s.way.take s.deep.toNat).map Int.toNat
def rowsN : List Si → List (List Ce) → List Nat
  | s :: ss, r :: rs => siteNs s ++ (cellsN r ++ rowsN ss rs)
  | _, _ => []
def matN (m : Mx) : List Nat := (if m.bad then 1 else 0) :: m.base.length :: (cellsN m.base ++ (m.sites.length :: rowsN m.sites m.rows))
def encB (m : Mx) : List UInt8 := numsB (matN m)
def encS (m : Mx) : List UInt8 := encB m ++ sealS (sumN (encB m))

/-- A cell whose numbers may be written. -/
def Ce.nat (c : Ce) : Prop := (0 ≤ c.says ∧ c.says ≤ 2) ∧ (0 ≤ c.point ∧ c.point ≤ 1048576) ∧ (0 ≤ c.kept ∧ c.kept ≤ 1048576) ∧ (0 ≤ c.verdict ∧ c.verdict ≤ 1048576) ∧ (0 ≤ c.err ∧ c.err ≤ 1048576) ∧ 0 ≤ c.limit ∧ c.limit ≤ 1048576

theorem Ce.right_nat {c : Ce} (h : c.right = true) (hk : 0 ≤ c.kept) : c.nat := by
  unfold Ce.right at h
  unfold Ce.nat
  split at h
  · simp only [Bool.and_eq_true, decide_eq_true_eq, Ce.witOK] at h
    obtain ⟨h1, h2, h3, h4, h5⟩ := h
    split at h5
    · simp only [decide_eq_true_eq] at h5; omega
    · split at h5
      · simp only [Bool.and_eq_true, decide_eq_true_eq] at h5; omega
      · cases h5
  · split at h
    · simp only [Bool.and_eq_true, Bool.or_eq_true, decide_eq_true_eq] at h; omega
    · simp only [Bool.and_eq_true, decide_eq_true_eq] at h; omega

theorem numsB_cons (n : Nat) (l : List Nat) : numsB (n :: l) = uintB n ++ numsB l := rfl
theorem numsB_append (a b : List Nat) : numsB (a ++ b) = numsB a ++ numsB b := List.flatMap_append
theorem numsB_len : ∀ (l : List Nat), (∀ n ∈ l, n < 2 ^ 64) → (numsB l).length ≤ 10 * l.length
  | [], _ => by simp [numsB]
  | n :: l, h => by
    have h1 := uintB_ten (h n (by simp))
    have h2 := numsB_len l (fun x hx => h x (by simp [hx]))
    rw [numsB_cons, List.length_append, List.length_cons]
    omega

/-- What the writer holds behind some numbers. -/
def wput (K : Heap) (i : Nat) (b : List UInt8) : List Nat → Heap
  | [] => K
  | n :: l => K.set i (some [.own 1 (bytesRows (b ++ numsB (n :: l)))])

theorem wput_cons (K : Heap) (i : Nat) (b : List UInt8) (n : Nat) (l : List Nat) : wput (K.set i (some [.own 1 (bytesRows (b ++ uintB n))])) i (b ++ uintB n) l = wput K i b (n :: l) := by
  cases l with
  | nil => simp [wput, numsB]
  | cons n' l => simp [wput, numsB_cons]

theorem wput_append (K : Heap) (i : Nat) (b : List UInt8) : ∀ (l l' : List Nat), wput (wput K i b l) i (b ++ numsB l) l' = wput K i b (l ++ l')
  | [], l' => by simp [wput, numsB]
  | n :: l, [] => by simp [wput]
  | n :: l, n' :: l' => by simp [wput, numsB_cons, numsB_append]

theorem wput_length (K : Heap) (i : Nat) (b : List UInt8) (l : List Nat) : (wput K i b l).length = K.length := by cases l <;> simp [wput]

/-- The writer's bytes. -/
def Holds (K : Heap) (i : Nat) (b : List UInt8) : Prop := ∃ x, K[i]? = some (some [x]) ∧ (x = .own 1 (bytesRows b) ∨ x = .sl 1 (bytesRows b) ∨ x = .nils 1 ∧ b = [])

theorem Holds.put {K : Heap} {i : Nat} {b : List UInt8} (h : Holds K i b) (l : List Nat) : Holds (wput K i b l) i (b ++ numsB l) := by
  cases l with
  | nil => simpa [wput, numsB] using h
  | cons n l =>
    obtain ⟨x, h1, h2⟩ := h
    have hlt : i < K.length := by
      rcases Nat.lt_or_ge i K.length with h | h
      · exact h
      · rw [List.getElem?_eq_none h] at h1; cases h1
    exact ⟨_, List.getElem?_set_self hlt, .inl rfl⟩

def nrow (n : Nat) : List V := [.int .i64 n]

theorem put_loop (i : Nat) (all : List Nat) (hall : all.length ≤ 1000) (hsm : ∀ n ∈ all, n < 2 ^ 63) (Q : Option (V × Heap) → Prop) (k : List Item) (X : Heap) (hexit : ∀ φ', Q (M (eval tbl noExt) k φ' X)) :
    ∀ (l : List Nat) (j : Nat) (φ : Fr) (K : Heap) (b : List UInt8), all.drop j = l → j ≤ all.length → b.length + 10 * l.length ≤ 10000000 → Holds K i b → wput K i b l = X → Fr.get φ 0 = .ptr i 0 → Fr.get φ 6 = .sl 1 (all.map nrow) → Fr.get φ 7 = .int .i64 all.length → Fr.get φ 8 = .int .i64 j →
      Q (M (eval tbl noExt) (.code l_ppack_writer_put_0 :: .blk 0 :: k) φ K) := by
  intro l
  induction l with
  | nil =>
    intro j φ K b hd hj hb hK hX h0 h6 h7 h8
    have hlt : ¬ (j : Int) < all.length := by
      have := congrArg List.length hd
      simp at this; omega
    have hlt' : ¬ j < all.length := by omega
    rw [l_ppack_writer_put_0, M_loop]
    simp [b_ppack_writer_put_0, h0, h6, h7, h8, hlt, hlt']
    rw [show K = X from hX]
    exact hexit _
  | cons n l ih =>
    intro j φ K b hd hj hb hK hX h0 h6 h7 h8
    have hjl : j < all.length := by
      rcases Nat.lt_or_ge j all.length with h1 | h1
      · exact h1
      · rw [List.drop_eq_nil_of_le h1] at hd; cases hd
    rw [List.drop_eq_getElem_cons hjl] at hd
    simp only [List.cons.injEq] at hd
    obtain ⟨hn, hd2⟩ := hd
    have hg : ∀ h : j < all.length, all[j] = n := fun h => hn
    have hr : (all.map nrow)[j]? = some [.int .i64 n] := by rw [List.getElem?_map, List.getElem?_eq_getElem hjl, hn]; rfl
    have hmem : n ∈ all := by rw [← hn]; exact List.getElem_mem _
    have hn63 := hsm n hmem
    have hlt : (j : Int) < all.length := by omega
    have e1 : IntKind.u64.wrap (n : Int) = (n : Int) := by rw [IntKind.wrap_u64]; omega
    have A6 := ar_succ j (by omega)
    obtain ⟨x, hx, hxs⟩ := hK
    have hU := uint_eq b (by omega) n (by omega) []
    have hst : i < K.length := by
      rcases Nat.lt_or_ge i K.length with h | h
      · exact h
      · rw [List.getElem?_eq_none h] at hx; cases hx
    have hgi : ∀ h : i < K.length, K[i] = some [x] := fun h => by rw [List.getElem?_eq_getElem h] at hx; exact Option.some.inj hx
    rw [l_ppack_writer_put_0, M_loop, ← l_ppack_writer_put_0]
    have hU0 : b = [] → eval tbl noExt n_codec_Uint [.sl 1 [], .int .u64 n] [] = some (.own 1 (bytesRows (uintB n)), []) := fun h => by subst h; exact hU
    rcases hxs with rfl | rfl | ⟨rfl, hb0⟩
    rotate_left 2
    · have hU1 := hU0 hb0
      simp [-arith, b_ppack_writer_put_0, h0, h6, h7, h8, hlt, hjl, hr, hg, nrow, e1, A6, hst, hgi, hU1, lt_codec_Uint]
      refine ih (j + 1) _ _ (b ++ uintB n) hd2 (by omega) (by have := uintB_ten (n := n) (by omega); simp at hb ⊢; omega) ⟨_, List.getElem?_set_self hst, .inl (by rw [hb0]; rfl)⟩ (by rw [← wput_cons] at hX; rw [hb0] at hX ⊢; exact hX) ?_ ?_ ?_ ?_ <;> simp [h0, h6, h7, nrow]
    all_goals
     simp [-arith, b_ppack_writer_put_0, h0, h6, h7, h8, hlt, hjl, hr, hg, nrow, e1, A6, hst, hgi, hU, lt_codec_Uint]
     refine ih (j + 1) _ _ (b ++ uintB n) hd2 (by omega) (by have := uintB_ten (n := n) (by omega); simp at hb ⊢; omega) ⟨_, List.getElem?_set_self hst, .inl rfl⟩ (by rw [wput_cons]; exact hX) ?_ ?_ ?_ ?_ <;> simp [h0, h6, h7, nrow]

theorem put_eq (i : Nat) (l : List Nat) (hl : l.length ≤ 1000) (hsm : ∀ n ∈ l, n < 2 ^ 63) (H : Heap) (b : List UInt8) (hb : b.length + 10 * l.length ≤ 10000000) (hH : Holds H i b) :
    eval tbl noExt n_ppack_writer_put [.ptr i 0, .own 1 (l.map nrow)] H = some (.tup [], wput H i b l) := by
  rw [eval_M rfl rfl t_ppack_writer_put rfl]
  simp [c_ppack_writer_put]
  refine put_loop i l hl hsm (fun r => r = some (.tup [], wput H i b l)) _ (wput H i b l) ?_ l 0 _ H b rfl (by omega) hb hH rfl ?_ ?_ ?_ ?_
  · intro φ'
    simp [List.take_of_length_le, wput_length]
  all_goals simp

end Go.AM.Spec

namespace Go.AM.Spec
set_option linter.unusedVariables false
set_option linter.unusedSimpArgs false
set_option maxHeartbeats 1000000
set_option maxRecDepth 10000

theorem lt_of_get {K : Heap} {i : Nat} {x : Option (List V)} (h : K[i]? = some x) : i < K.length := by
  rcases Nat.lt_or_ge i K.length with h1 | h1
  · exact h1
  · rw [List.getElem?_eq_none h1] at h; cases h

theorem put_ms_loop (i q : Nat) (hiq : q ≠ i) (cs : List V) (all : List Nat) (hall : all.length ≤ 8) (hsm : ∀ n ∈ all, n < 2 ^ 63) (hcs : ∀ (j n : Nat), all[j]? = some n → cs[2 + j]? = some (.int .i64 n)) (Q : Option (V × Heap) → Prop) (k : List Item) (X : Heap) (hexit : ∀ φ', Q (M (eval tbl noExt) k φ' X)) :
    ∀ (l : List Nat) (j : Nat) (φ : Fr) (K : Heap) (b : List UInt8), all.drop j = l → j ≤ all.length → b.length + 10 * l.length ≤ 10000000 → Holds K i b → K[q]? = some (some cs) → wput K i b l = X → Fr.get φ 0 = .ptr i 0 → Fr.get φ 6 = .ms q 2 all.length 8 → Fr.get φ 7 = .int .i64 all.length → Fr.get φ 8 = .int .i64 j →
      Q (M (eval tbl noExt) (.code l_ppack_writer_put_0 :: .blk 0 :: k) φ K) := by
  intro l
  induction l with
  | nil =>
    intro j φ K b hd hj hb hK hq hX h0 h6 h7 h8
    have hlt : ¬ (j : Int) < all.length := by
      have := congrArg List.length hd
      simp at this; omega
    have hlt' : ¬ j < all.length := by omega
    rw [l_ppack_writer_put_0, M_loop]
    simp [b_ppack_writer_put_0, h0, h6, h7, h8, hlt, hlt']
    rw [show K = X from hX]
    exact hexit _
  | cons n l ih =>
    intro j φ K b hd hj hb hK hq hX h0 h6 h7 h8
    have hjl : j < all.length := by
      rcases Nat.lt_or_ge j all.length with h1 | h1
      · exact h1
      · rw [List.drop_eq_nil_of_le h1] at hd; cases hd
    rw [List.drop_eq_getElem_cons hjl] at hd
    simp only [List.cons.injEq] at hd
    obtain ⟨hn, hd2⟩ := hd
    have hmem : n ∈ all := by rw [← hn]; exact List.getElem_mem _
    have hn63 := hsm n hmem
    have hlt : (j : Int) < all.length := by omega
    have e1 : IntKind.u64.wrap (n : Int) = (n : Int) := by rw [IntKind.wrap_u64]; omega
    have A6 := ar_succ j (by omega)
    obtain ⟨x, hx, hxs⟩ := hK
    have hU := uint_eq b (by omega) n (by omega) []
    have hst : i < K.length := lt_of_get hx
    have hsq : q < K.length := lt_of_get hq
    have hgi : ∀ h : i < K.length, K[i] = some [x] := fun h => by rw [List.getElem?_eq_getElem h] at hx; exact Option.some.inj hx
    have hgq : ∀ h : q < K.length, K[q] = some cs := fun h => by rw [List.getElem?_eq_getElem h] at hq; exact Option.some.inj hq
    have hc0 := hcs j n (by rw [List.getElem?_eq_getElem hjl, hn])
    have hcl : 2 + j < cs.length := by
      rcases Nat.lt_or_ge (2 + j) cs.length with h1 | h1
      · exact h1
      · rw [List.getElem?_eq_none h1] at hc0; cases hc0
    have hcg : ∀ h : 2 + j < cs.length, cs[2 + j] = .int .i64 n := fun h => by rw [List.getElem?_eq_getElem h] at hc0; exact Option.some.inj hc0
    rw [l_ppack_writer_put_0, M_loop, ← l_ppack_writer_put_0]
    have hU0 : b = [] → eval tbl noExt n_codec_Uint [.sl 1 [], .int .u64 n] [] = some (.own 1 (bytesRows (uintB n)), []) := fun h => by subst h; exact hU
    rcases hxs with rfl | rfl | ⟨rfl, hb0⟩
    rotate_left 2
    · have hU1 := hU0 hb0
      simp [-arith, b_ppack_writer_put_0, h0, h6, h7, h8, hlt, hjl, hsq, hgq, hcl, hcg, e1, A6, hst, hgi, hU1, lt_codec_Uint]
      refine ih (j + 1) _ _ (b ++ uintB n) hd2 (by omega) (by have := uintB_ten (n := n) (by omega); simp at hb ⊢; omega) ⟨_, List.getElem?_set_self hst, .inl (by rw [hb0]; rfl)⟩ (by rw [List.getElem?_set_ne (by omega)]; exact hq) (by rw [← wput_cons] at hX; rw [hb0] at hX ⊢; exact hX) ?_ ?_ ?_ ?_ <;> simp [h0, h6, h7]
    all_goals
     simp [-arith, b_ppack_writer_put_0, h0, h6, h7, h8, hlt, hjl, hsq, hgq, hcl, hcg, e1, A6, hst, hgi, hU, lt_codec_Uint]
     refine ih (j + 1) _ _ (b ++ uintB n) hd2 (by omega) (by have := uintB_ten (n := n) (by omega); simp at hb ⊢; omega) ⟨_, List.getElem?_set_self hst, .inl rfl⟩ (by rw [List.getElem?_set_ne (by omega)]; exact hq) (by rw [wput_cons]; exact hX) ?_ ?_ ?_ ?_ <;> simp [h0, h6, h7]

theorem put_ms_eq (i q : Nat) (hiq : q ≠ i) (cs : List V) (l : List Nat) (hl : l.length ≤ 8) (hsm : ∀ n ∈ l, n < 2 ^ 63) (hcs : ∀ (j n : Nat), l[j]? = some n → cs[2 + j]? = some (.int .i64 n)) (H : Heap) (b : List UInt8) (hb : b.length + 10 * l.length ≤ 10000000) (hH : Holds H i b) (hq : H[q]? = some (some cs)) :
    eval tbl noExt n_ppack_writer_put [.ptr i 0, .ms q 2 l.length 8] H = some (.tup [], wput H i b l) := by
  rw [eval_M rfl rfl t_ppack_writer_put rfl]
  simp [c_ppack_writer_put]
  refine put_ms_loop i q hiq cs l hl hsm hcs (fun r => r = some (.tup [], wput H i b l)) _ (wput H i b l) ?_ l 0 _ H b rfl (by omega) hb hH hq rfl ?_ ?_ ?_ ?_
  · intro φ'
    simp [List.take_of_length_le, wput_length]
  all_goals simp

theorem wput_push (K : Heap) (i : Nat) (b : List UInt8) (l : List Nat) (r : Heap) (h : i < K.length) : wput (K ++ r) i b l = wput K i b l ++ r := by
  cases l with
  | nil => rfl
  | cons n l => simp only [wput]; rw [List.set_append_left _ _ h]

theorem wput_take (K : Heap) (i N : Nat) (b : List UInt8) (l : List Nat) (h : i < N) : (wput K i b l).take N = wput (K.take N) i b l := by
  cases l with
  | nil => rfl
  | cons n l => simp only [wput]; rw [List.take_set]

theorem Holds.take {K : Heap} {i N : Nat} {b : List UInt8} (h : Holds (K.take N) i b) : Holds K i b := by
  obtain ⟨x, h1, h2⟩ := h
  refine ⟨x, ?_, h2⟩
  rw [List.getElem?_take] at h1
  split at h1
  · exact h1
  · cases h1
theorem Holds.push {K : Heap} {i : Nat} {b : List UInt8} (h : Holds K i b) (r : Heap) : Holds (K ++ r) i b := by
  obtain ⟨x, h1, h2⟩ := h
  exact ⟨x, by rw [List.getElem?_append_left (lt_of_get h1)]; exact h1, h2⟩

theorem cellN_len (c : Ce) : (cellN c).length ≤ 5 := by
  unfold cellN
  split
  · simp
  · split <;> simp
theorem cellN_lt {c : Ce} (h : c.nat) : ∀ n ∈ cellN c, n ≤ 1048576 := by
  obtain ⟨h1, h2, h3, h4, h5, h6⟩ := h
  intro n hn
  unfold cellN at hn
  rcases List.mem_cons.1 hn with rfl | hn
  · omega
  · split at hn
    · simp at hn; omega
    · split at hn
      · simp at hn; omega
      · simp at hn

theorem cells34_loop (i N : Nat) (hiN : i < N) (all : List Ce) (hall : all.length ≤ 1000) (hnat : ∀ c ∈ all, c.nat) (Q : Option (V × Heap) → Prop) (k : List Item) (X : Heap) (hexit : ∀ φ' K', K'.take N = X → N ≤ K'.length → Q (M (eval tbl noExt) k φ' K')) :
    ∀ (l : List Ce) (j : Nat) (φ : Fr) (K Hc : Heap) (b : List UInt8), all.drop j = l → j ≤ all.length → b.length + 50 * l.length ≤ 10000000 → K.take N = Hc → N ≤ K.length → Holds Hc i b → wput Hc i b (cellsN l) = X → Fr.get φ 0 = .ptr i 0 → Fr.get φ 6 = .sl 6 (all.map Ce.cells) → Fr.get φ 7 = .int .i64 all.length → Fr.get φ 8 = .int .i64 j →
      Q (M (eval tbl noExt) (.code l_ppack_writer_cells_0 :: .blk 0 :: k) φ K) := by
  intro l
  induction l with
  | nil =>
    intro j φ K Hc b hd hj hb hKt hKl hK hX h0 h6 h7 h8
    have hlt : ¬ (j : Int) < all.length := by
      have := congrArg List.length hd
      simp at this; omega
    have hlt' : ¬ j < all.length := by omega
    rw [l_ppack_writer_cells_0, M_loop]
    simp [b_ppack_writer_cells_0, h0, h6, h7, h8, hlt, hlt']
    exact hexit _ _ (by rw [hKt]; exact hX) hKl
  | cons c l ih =>
    intro j φ K Hc b hd hj hb hKt hKl hK hX h0 h6 h7 h8
    have hjl : j < all.length := by
      rcases Nat.lt_or_ge j all.length with h1 | h1
      · exact h1
      · rw [List.drop_eq_nil_of_le h1] at hd; cases hd
    rw [List.drop_eq_getElem_cons hjl] at hd
    simp only [List.cons.injEq] at hd
    obtain ⟨hn, hd2⟩ := hd
    have hg : ∀ h : j < all.length, all[j] = c := fun h => hn
    have hr : (all.map Ce.cells)[j]? = some c.cells := by rw [List.getElem?_map, List.getElem?_eq_getElem hjl, hn]; rfl
    have hmem : c ∈ all := by rw [← hn]; exact List.getElem_mem _
    have hc := hnat c hmem
    have hclt := cellN_lt hc
    have hlen5 := cellN_len c
    have hlt : (j : Int) < all.length := by omega
    have A6 := ar_succ j (by omega)
    have hKi : i < K.length := by omega
    have hHK : Holds K i b := by rw [← hKt] at hK; exact hK.take
    -- what follows
    have hnext : ∀ φ', Fr.get φ' 0 = .ptr i 0 → Fr.get φ' 6 = .sl 6 (all.map Ce.cells) → Fr.get φ' 7 = .int .i64 all.length → Fr.get φ' 8 = .int .i64 ((j + 1 : Nat) : Int) → Q (M (eval tbl noExt) (.code l_ppack_writer_cells_0 :: .blk 0 :: k) φ' (wput K i b (cellN c) ++ [some c.cells])) := by
      intro φ' g0 g6 g7 g8
      refine ih (j + 1) φ' _ (wput Hc i b (cellN c)) (b ++ numsB (cellN c)) hd2 (by omega) ?_ ?_ ?_ (hK.put _) ?_ g0 g6 g7 g8
      · have := numsB_len (cellN c) (fun n hn => by have := hclt n hn; omega)
        simp at hb ⊢; omega
      · rw [List.take_append_of_le_length (by rw [wput_length]; exact hKl), wput_take _ _ _ _ _ hiN, hKt]
      · simp [wput_length]; omega
      · rw [wput_append]; exact hX
    obtain ⟨sa, po, ke, ve, er, li⟩ := c
    obtain ⟨⟨c1, c1'⟩, ⟨c2, c2'⟩, ⟨c3, c3'⟩, ⟨c4, c4'⟩, ⟨c5, c5'⟩, c6, c6'⟩ := hc
    dsimp only at c1 c1' c2 c2' c3 c3' c4 c4' c5 c5' c6 c6'
    obtain ⟨sa, rfl⟩ := Int.eq_ofNat_of_zero_le c1
    obtain ⟨po, rfl⟩ := Int.eq_ofNat_of_zero_le c2
    obtain ⟨ke, rfl⟩ := Int.eq_ofNat_of_zero_le c3
    obtain ⟨ve, rfl⟩ := Int.eq_ofNat_of_zero_le c4
    obtain ⟨er, rfl⟩ := Int.eq_ofNat_of_zero_le c5
    obtain ⟨li, rfl⟩ := Int.eq_ofNat_of_zero_le c6
    obtain ⟨cs, hcs⟩ : ∃ cs, cs = (Ce.mk sa po ke ve er li).cells := ⟨_, rfl⟩
    have hcs' : cs = [.int .i64 sa, .int .i64 po, .int .u64 ke, .int .i64 ve, .int .i64 er, .int .i64 li] := hcs
    rw [← hcs] at hnext hr
    have ek : IntKind.i64.wrap (ke : Int) = (ke : Int) := by rw [w64 (by omega) (by omega)]
    have hput1 : eval tbl noExt n_ppack_writer_put [.ptr i 0, .own 1 [[.int .i64 (sa : Int)]]] (K ++ [some cs]) = some (.tup [], wput K i b [sa] ++ [some cs]) := by
      have := put_eq i [sa] (by simp) (by simp; omega) (K ++ [some cs]) b (by simp at hb ⊢; omega) (hHK.push _)
      rw [wput_push _ _ _ _ _ hKi] at this
      exact this
    have hl1 : (wput K i b [sa] ++ [some cs])[K.length]? = some (some cs) := by
      rw [List.getElem?_append_right (by rw [wput_length]; exact Nat.le_refl _), wput_length]; simp
    have hH1 : Holds (wput K i b [sa] ++ [some cs]) i (b ++ numsB [sa]) := (hHK.put _).push _
    have hb1 : (b ++ numsB [sa]).length + 40 ≤ 10000000 := by
      have := uintB_ten (n := sa) (by omega)
      simp [numsB] at hb ⊢; omega
    clear hcs
    rw [l_ppack_writer_cells_0, M_loop, ← l_ppack_writer_cells_0]
    rcases (show sa = 0 ∨ sa = 1 ∨ sa = 2 by omega) with rfl | rfl | rfl
    · have hcn : cellN ⟨((0 : Nat) : Int), po, ke, ve, er, li⟩ = [0] := by simp [cellN]
      rw [hcn] at hnext
      subst hcs'
      have hce : Ce.cells ⟨0, po, ke, ve, er, li⟩ = [.int .i64 0, .int .i64 po, .int .u64 ke, .int .i64 ve, .int .i64 er, .int .i64 li] := rfl
      simp only [show ((0 : Nat) : Int) = 0 from rfl] at hput1 hl1 hH1 hnext hr hg
      simp [-arith, b_ppack_writer_cells_0, h0, h6, h7, h8, hlt, hjl, hr, hg, hce, A6, get0, set0, hput1, hl1, ek, lt_ppack_writer_put]
      exact hnext _ (by simp [h0]) (by simp [h6]) (by simp [h7]) (by simp)
    · have hcn : cellN ⟨((1 : Nat) : Int), po, ke, ve, er, li⟩ = [1, po, ke, ve, er] := by simp [cellN]
      rw [hcn] at hnext
      have hput2 : eval tbl noExt n_ppack_writer_put [.ptr i 0, .own 1 [[.int .i64 (po : Int)], [.int .i64 (ke : Int)], [.int .i64 (ve : Int)], [.int .i64 (er : Int)]]] (wput K i b [1] ++ [some cs]) = some (.tup [], wput K i b [1, po, ke, ve, er] ++ [some cs]) := by
        have := put_eq i [po, ke, ve, er] (by simp) (by simp; omega) (wput K i b [1] ++ [some cs]) (b ++ numsB [1]) (by simpa using hb1) hH1
        rw [wput_push _ _ _ _ _ (by rw [wput_length]; exact hKi), wput_append] at this
        exact this
      subst hcs'
      have hce : Ce.cells ⟨1, po, ke, ve, er, li⟩ = [.int .i64 1, .int .i64 po, .int .u64 ke, .int .i64 ve, .int .i64 er, .int .i64 li] := rfl
      simp only [show ((1 : Nat) : Int) = 1 from rfl] at hput1 hl1 hH1 hnext hr hg hput2
      simp [-arith, b_ppack_writer_cells_0, h0, h6, h7, h8, hlt, hjl, hr, hg, hce, A6, get0, set0, hput1, hl1, ek, lt_ppack_writer_put, hput2]
      exact hnext _ (by simp [h0]) (by simp [h6]) (by simp [h7]) (by simp)
    · have hcn : cellN ⟨((2 : Nat) : Int), po, ke, ve, er, li⟩ = [2, li] := by simp [cellN]
      rw [hcn] at hnext
      have hput2 : eval tbl noExt n_ppack_writer_put [.ptr i 0, .own 1 [[.int .i64 (li : Int)]]] (wput K i b [2] ++ [some cs]) = some (.tup [], wput K i b [2, li] ++ [some cs]) := by
        have := put_eq i [li] (by simp) (by simp; omega) (wput K i b [2] ++ [some cs]) (b ++ numsB [2]) (by simp at hb1 ⊢; omega) hH1
        rw [wput_push _ _ _ _ _ (by rw [wput_length]; exact hKi), wput_append] at this
        exact this
      subst hcs'
      have hce : Ce.cells ⟨2, po, ke, ve, er, li⟩ = [.int .i64 2, .int .i64 po, .int .u64 ke, .int .i64 ve, .int .i64 er, .int .i64 li] := rfl
      simp only [show ((2 : Nat) : Int) = 2 from rfl] at hput1 hl1 hH1 hnext hr hg hput2
      simp [-arith, b_ppack_writer_cells_0, h0, h6, h7, h8, hlt, hjl, hr, hg, hce, A6, get0, set0, hput1, hl1, ek, lt_ppack_writer_put, hput2]
      exact hnext _ (by simp [h0]) (by simp [h6]) (by simp [h7]) (by simp)

theorem cells34_eq (i : Nat) (l : List Ce) (hl : l.length ≤ 1000) (hnat : ∀ c ∈ l, c.nat) (H : Heap) (b : List UInt8) (hb : b.length + 50 * l.length ≤ 10000000) (hH : Holds H i b) :
    eval tbl noExt n_ppack_writer_cells [.ptr i 0, .sl 6 (l.map Ce.cells)] H = some (.tup [], wput H i b (cellsN l)) := by
  have hi : i < H.length := by obtain ⟨x, h1, _⟩ := hH; exact lt_of_get h1
  rw [eval_M rfl rfl t_ppack_writer_cells rfl]
  simp [c_ppack_writer_cells]
  refine cells34_loop i H.length hi l hl hnat (fun r => r = some (.tup [], wput H i b (cellsN l))) _ (wput H i b (cellsN l)) ?_ l 0 _ H H b rfl (by omega) hb (by simp) (Nat.le_refl _) hH rfl ?_ ?_ ?_ ?_
  · intro φ' K' h1 h2
    simp [h1]
  all_goals simp

end Go.AM.Spec

namespace Go.AM.Spec
set_option linter.unusedVariables false
set_option linter.unusedSimpArgs false
set_option maxHeartbeats 1000000
set_option maxRecDepth 10000

/-- What Right says of any matrix whose rows are not long. -/
def Mx.rightA (m : Mx) : Bool := decide (m.sites.length ≤ 512) && m.right

theorem SRight_big (m : Mx) (hbl : m.base.length ≤ 30) (hsl : 512 < m.sites.length) (H : Heap) : eval tbl noExt n_score_Right [.agg m.cells] H = some (.bool false, H) := by
  have hcell : m.cells = [.bool m.bad, .sl 6 (m.base.map Ce.cells), .sl 11 (m.sites.map Si.cells), .sl 1 (m.rows.map rowV)] := rfl
  rw [eval_M rfl rfl t_score_Right rfl]
  by_cases a1 : 16 < m.base.length
  · have a1' : (16 : Int) < m.base.length := by omega
    simp [c_score_Right, hcell, a1']
  · have a1' : ¬ (16 : Int) < m.base.length := by omega
    have hx := odd_own m.base.length (H.length + 1)
    have ho := odd1_eq m.base.length m.base (by omega) (H.length + 1) (H ++ [some m.cells, some [iv m.base.length]]) (by simp)
    have hp := lt_score_odd_1
    have hrow : rowOK m.base.length m.base = m.base.all Ce.right := by unfold rowOK; simp
    rw [hrow] at ho
    have hS := Sum_eq m.base (by omega) []
    rw [hcell] at ho
    cases hA : m.base.all Ce.right with
    | false =>
      rw [hA] at ho
      simp [c_score_Right, hcell, a1', hx, ho, hp]
    | true =>
      rw [hA] at ho
      by_cases a2 : m.bad = decide (sumC m.base = 1)
      · cases hB : m.bad with
        | true =>
          rw [hB] at a2
          have a3 : sumC m.base = 1 := by simpa using a2.symm
          rw [hB] at ho
          have b1 : ¬ m.sites.length = 0 := by omega
          have b1' : ¬ ((m.sites.length : Nat) : Int) = 0 := by omega
          have b0 : ¬ m.sites = [] := by rintro h; rw [h] at hsl; simp at hsl
          simp [c_score_Right, hcell, hB, a1', hx, ho, hp, hS, a3, b1', b1, b0]
        | false =>
          rw [hB] at a2
          have a3 : ¬ sumC m.base = 1 := by simpa using a2.symm
          rw [hB] at ho
          have b2 : (512 : Int) < m.sites.length := by omega
          simp [c_score_Right, hcell, hB, a1', hx, ho, hp, hS, a3, b2]
      · simp [c_score_Right, hcell, a1', hx, ho, hp, hS, a2]

theorem refRight_big (m : Mx) (hbl : m.base.length ≤ 30) (hsl : 512 < m.sites.length) (hrl : m.rows.length ≤ 100000) (hsl2 : m.sites.length ≤ 100000) (H : Heap) : eval tbl noExt n_flotsamref32_Right [.agg m.cells] H = some (.bool false, H) := by
  have hcell : m.cells = [.bool m.bad, .sl 6 (m.base.map Ce.cells), .sl 11 (m.sites.map Si.cells), .sl 1 (m.rows.map rowV)] := rfl
  have hS := refSum_eq m.base (by omega) []
  have hC := cellsR_eq m.base (by omega) []
  rw [eval_M rfl rfl t_flotsamref32_Right rfl]
  by_cases a1 : 16 < m.base.length
  · have a1' : (16 : Int) < m.base.length := by omega
    simp [c_flotsamref32_Right, hcell, a1']
  · have a1' : ¬ (16 : Int) < m.base.length := by omega
    cases hA : m.base.all Ce.right with
    | false =>
      rw [hA] at hC
      simp [c_flotsamref32_Right, hcell, a1', hC]
    | true =>
      rw [hA] at hC
      by_cases a2 : m.bad = decide (sumC m.base = 1)
      · cases hB : m.bad with
        | true =>
          rw [hB] at a2
          have a3 : sumC m.base = 1 := by simpa using a2.symm
          have e3 : IntKind.i64.wrap ((m.sites.length : Int) + m.rows.length) = (m.sites.length : Int) + m.rows.length := by rw [w64] <;> omega
          have b3 : (0 : Int) < (m.sites.length : Int) + m.rows.length := by omega
          simp [c_flotsamref32_Right, hcell, hB, a1', hC, hS, a3, e3, b3]
        | false =>
          rw [hB] at a2
          have a3 : ¬ sumC m.base = 1 := by simpa using a2.symm
          have b2 : (512 : Int) < m.sites.length := by omega
          simp [c_flotsamref32_Right, hcell, hB, a1', hC, hS, a3, b2]
      · simp [c_flotsamref32_Right, hcell, a1', hC, hS, a2]

/-- A matrix whose rows are not long. -/
def Mx.mid (m : Mx) : Prop := m.few ∨ (512 < m.sites.length ∧ m.sites.length ≤ 100000 ∧ m.rows.length ≤ 100000 ∧ m.base.length ≤ 30)

theorem SRight_A (m : Mx) (hm : m.mid) (hok : ∀ s ∈ m.sites, s.ok) (H : Heap) : eval tbl noExt n_score_Right [.agg m.cells] H = some (.bool m.rightA, H) := by
  unfold Mx.rightA
  rcases hm with hm | ⟨h1, _, _, h2⟩
  · rw [SRight_eq m hm hok H, decide_eq_true hm.sites, Bool.true_and]
  · rw [SRight_big m h2 h1 H, decide_eq_false (by omega), Bool.false_and]
theorem refRight_A (m : Mx) (hm : m.mid) (hok : ∀ s ∈ m.sites, s.ok) (H : Heap) : eval tbl noExt n_flotsamref32_Right [.agg m.cells] H = some (.bool m.rightA, H) := by
  unfold Mx.rightA
  rcases hm with hm | ⟨h1, h3, h4, h2⟩
  · rw [refRight_eq m hm hok H, decide_eq_true hm.sites, Bool.true_and]
  · rw [refRight_big m h2 h1 h4 h3 H, decide_eq_false (by omega), Bool.false_and]

/-- What is right is small. -/
theorem sitesOK_names : ∀ (l done : List Si), sitesOK done l = true → ∀ s ∈ l, s.name.2 = true
  | [], _, _, s, hs => by simp at hs
  | t :: l, done, h, s, hs => by
    simp only [sitesOK, Bool.and_eq_true] at h
    rcases List.mem_cons.1 hs with rfl | hs
    · exact h.1
    · exact sitesOK_names l _ h.2.2 s hs

structure Si.nat (s : Si) : Prop where
  kind : 0 ≤ s.kind ∧ s.kind ≤ 8
  part : 0 ≤ s.part ∧ s.part ≤ 16
  deep : 1 ≤ s.deep ∧ s.deep ≤ 8
  way : ∀ w ∈ s.way, 0 ≤ w ∧ w ≤ 511
  rest : ∀ w ∈ s.way.drop s.deep.toNat, w = 0

theorem Si.nat_of {s : Si} (h : s.name.2 = true) : s.nat := by
  unfold Si.name at h
  split at h
  · cases h
  · rename_i h1
    split at h
    · cases h
    · rename_i h2
      have hmay : s.may = true := by
        cases hm : s.may with
        | true => rfl
        | false => exact absurd (.inr (.inr (.inr (.inr hm)))) h1
      simp only [Si.may, Bool.and_eq_true, decide_eq_true_eq, List.all_eq_true] at hmay
      obtain ⟨m1, m2, m3, m4⟩ := hmay
      refine ⟨by omega, by omega, ⟨m1, m2⟩, fun w hw => ⟨m3 w hw, ?_⟩, m4⟩
      rw [← List.take_append_drop s.deep.toNat s.way] at hw
      rcases List.mem_append.1 hw with hw | hw
      · rcases Int.lt_or_le 511 w with h5 | h5
        · exfalso
          apply h2
          rw [List.any_eq_true]
          exact ⟨w, hw, by simpa using h5⟩
        · exact h5
      · have := m4 w hw; omega

structure Mx.nat (m : Mx) : Prop where
  len : m.sites.length = m.rows.length
  sites : m.sites.length ≤ 512
  base16 : m.base.length ≤ 16
  base : ∀ c ∈ m.base, c.nat
  site : ∀ s ∈ m.sites, s.nat
  row : ∀ r ∈ m.rows, r.length = m.base.length ∧ ∀ c ∈ r, c.nat

theorem Mx.nat_of {m : Mx} (h : m.rightA = true) (hk : (∀ c ∈ m.base, 0 ≤ c.kept) ∧ ∀ r ∈ m.rows, ∀ c ∈ r, 0 ≤ c.kept) : m.nat := by
  unfold Mx.rightA Mx.right at h
  simp only [Bool.and_eq_true, decide_eq_true_eq, List.all_eq_true] at h
  obtain ⟨h0, h1, h2, h3, h4⟩ := h
  split at h4
  · simp only [Bool.and_eq_true, decide_eq_true_eq] at h4
    have hs : m.sites = [] := List.eq_nil_of_length_eq_zero h4.1
    have hr : m.rows = [] := List.eq_nil_of_length_eq_zero h4.2
    refine ⟨by rw [h4.1, h4.2], h0, h1, fun c hc => Ce.right_nat (h2 c hc) (hk.1 c hc), ?_, ?_⟩
    · rw [hs]; simp
    · rw [hr]; simp
  · simp only [Bool.and_eq_true, decide_eq_true_eq, List.all_eq_true] at h4
    obtain ⟨h5, h6, h7⟩ := h4
    refine ⟨h5, h0, h1, fun c hc => Ce.right_nat (h2 c hc) (hk.1 c hc), fun s hs => Si.nat_of (sitesOK_names _ _ h7 s hs), fun r hr => ?_⟩
    have := h6 r hr
    simp only [rowOK, Bool.and_eq_true, decide_eq_true_eq, List.all_eq_true] at this
    exact ⟨this.1, fun c hc => Ce.right_nat (this.2 c hc) (hk.2 r hr c hc)⟩

end Go.AM.Spec

namespace Go.AM.Spec
set_option linter.unusedVariables false
set_option linter.unusedSimpArgs false
set_option maxHeartbeats 1000000
set_option maxRecDepth 10000

theorem cellsN_len : ∀ l : List Ce, (cellsN l).length ≤ 5 * l.length
  | [] => by simp [cellsN]
  | c :: l => by
    have h1 := cellN_len c
    have h2 := cellsN_len l
    simp only [cellsN, List.flatMap_cons, List.length_append, List.length_cons] at h2 ⊢
    omega
theorem cellsN_lt {l : List Ce} (h : ∀ c ∈ l, c.nat) : ∀ n ∈ cellsN l, n ≤ 1048576 := by
  intro n hn
  obtain ⟨c, hc, hn⟩ := List.mem_flatMap.1 hn
  exact cellN_lt (h c hc) n hn
theorem siteNs_len (s : Si) (hs : s.way.length = 8) : (siteNs s).length ≤ 11 := by simp [siteNs, hs]; omega
theorem siteNs_lt {s : Si} (h : s.nat) : ∀ n ∈ siteNs s, n ≤ 1048576 := by
  intro n hn
  have h1 := h.kind; have h2 := h.part; have h3 := h.deep
  simp only [siteNs, List.mem_cons, List.mem_map] at hn
  rcases hn with rfl | rfl | rfl | ⟨w, hw, rfl⟩
  · omega
  · omega
  · omega
  · have := h.way w (List.mem_of_mem_take hw); omega

def encV (m : Mx) : V := if m.rightA = true then .tup [.sl 1 (bytesRows (encS m)), .bool true] else .tup [.sl 1 [], .bool false]

theorem enc_loop (m : Mx) (hm : m.nat) (hok : ∀ s ∈ m.sites, s.ok) (Q : Option (V × Heap) → Prop) (k : List Item) (B : List UInt8) (hexit : ∀ φ' K', K'.take 2 = [some m.cells, some [.own 1 (bytesRows B)]] → 2 ≤ K'.length → Fr.get φ' 4 = .ptr 1 0 → Q (M (eval tbl noExt) k φ' K')) :
    ∀ (ss : List Si) (rs : List (List Ce)) (i : Nat) (φ : Fr) (K : Heap) (b : List UInt8), m.sites.drop i = ss → m.rows.drop i = rs → i ≤ m.sites.length → b.length + 2000 * ss.length ≤ 5000000 → K.take 2 = [some m.cells, some [.own 1 (bytesRows b)]] → 2 ≤ K.length → b ++ numsB (rowsN ss rs) = B →
      Fr.get φ 1 = .ptr 0 0 → Fr.get φ 4 = .ptr 1 0 → Fr.get φ 37 = .sl 11 (m.sites.map Si.cells) → Fr.get φ 38 = iv m.sites.length → Fr.get φ 39 = iv i →
      Q (M (eval tbl noExt) (.code l_pack_Encode_0 :: .blk 0 :: k) φ K) := by
  have hcell : m.cells = [.bool m.bad, .sl 6 (m.base.map Ce.cells), .sl 11 (m.sites.map Si.cells), .sl 1 (m.rows.map rowV)] := rfl
  intro ss
  induction ss with
  | nil =>
    intro rs i φ K b hd hd' hi hb hK hn hB h1 h4 h37 h38 h39
    have hlt : ¬ (i : Int) < m.sites.length := by
      have := congrArg List.length hd
      simp at this; omega
    have hlt' : ¬ i < m.sites.length := by omega
    rw [l_pack_Encode_0, M_loop]
    simp [b_pack_Encode_0, h1, h4, h37, h38, h39, hlt, hlt']
    exact hexit _ _ (by rw [hK, ← hB]; simp [rowsN, numsB]) hn (by simp [h4])
  | cons t ss ih =>
    intro rs i φ K b hd hd' hi hb hK hn hB h1 h4 h37 h38 h39
    have hil : i < m.sites.length := by
      rcases Nat.lt_or_ge i m.sites.length with h1 | h1
      · exact h1
      · rw [List.drop_eq_nil_of_le h1] at hd; cases hd
    have hil2 : i < m.rows.length := by have := hm.len; omega
    rw [List.drop_eq_getElem_cons hil] at hd
    simp only [List.cons.injEq] at hd
    obtain ⟨ht, hd2⟩ := hd
    obtain ⟨r, hr⟩ : ∃ r, r = m.rows[i] := ⟨_, rfl⟩
    rw [List.drop_eq_getElem_cons hil2, ← hr] at hd'
    subst hd'
    have hmem : t ∈ m.sites := by rw [← ht]; exact List.getElem_mem _
    have hmemr : r ∈ m.rows := by rw [hr]; exact List.getElem_mem _
    have okt := hok t hmem
    have nt := hm.site t hmem
    obtain ⟨hrl, hrn⟩ := hm.row r hmemr
    have hb16 := hm.base16
    have hg : ∀ h : i < m.sites.length, m.sites[i] = t := fun h => ht
    have hg2 : ∀ h : i < m.rows.length, m.rows[i] = r := fun h => hr.symm
    have e1 : (i : Int) < m.sites.length := by omega
    have e1r : (i : Int) < m.rows.length := by omega
    have A6 := ar_succ i (by have := hm.sites; omega)
    have q1 := Si.len okt
    have q3 := Si.strip (s := t)
    have q5 := Si.take okt
    have qu := fun n => Si.under (s := t) n
    have qo := Si.one (s := t)
    have qs := h11 t okt
    have c0 := Si.c0 (s := t)
    have c1 := Si.c1 (s := t)
    have c10 := Si.c10 okt
    -- the numbers
    have k1 := nt.kind; have k2 := nt.part; have k3 := nt.deep
    obtain ⟨kd, hkd⟩ := Int.eq_ofNat_of_zero_le k1.1
    obtain ⟨pt, hpt⟩ := Int.eq_ofNat_of_zero_le k2.1
    obtain ⟨dp, hdp⟩ := Int.eq_ofNat_of_zero_le (show 0 ≤ t.deep by omega)
    rw [hkd] at c0
    rw [hpt] at c1
    rw [hdp] at c10
    have gx : ∀ {j : Nat} {v : V}, t.cells[j]? = some v → ∀ h : j < t.cells.length, t.cells[j] = v := fun hj h => by rw [List.getElem?_eq_getElem h] at hj; exact Option.some.inj hj
    have c0g := gx c0
    have c1g := gx c1
    have c10g := gx c10
    have hdp8 : dp ≤ 8 := by omega
    have hdp8' : (dp : Int) ≤ 8 := by omega
    obtain ⟨ws, hws⟩ : ∃ ws, ws = (t.way.take dp).map Int.toNat := ⟨_, rfl⟩
    have hwl : ws.length = dp := by have : t.way.length = 8 := okt; rw [hws]; simp; omega
    have hwa : ∀ (j n : Nat), ws[j]? = some n → t.cells[2 + j]? = some (.int .i64 n) := by
      intro j n hj
      rw [hws, List.getElem?_map, Option.map_eq_some_iff] at hj
      obtain ⟨w, hw, rfl⟩ := hj
      rw [List.getElem?_take] at hw
      split at hw
      · have := nt.way w (List.mem_of_getElem? hw)
        rw [Si.cw hw]
        congr 2; omega
      · cases hw
    have hwsm : ∀ n ∈ ws, n < 2 ^ 63 := by
      intro n hn
      rw [hws, List.mem_map] at hn
      obtain ⟨w, hw, rfl⟩ := hn
      have := nt.way w (List.mem_of_mem_take hw)
      omega
    have hsn : siteNs t = [kd, pt, dp] ++ ws := by rw [siteNs, hkd, hpt, hdp, hws]; rfl
    -- the memory
    have hK0 : K[0]? = some (some m.cells) := get_take hK rfl
    have hHK : Holds K 1 b := Holds.take (N := 2) (by rw [hK]; exact ⟨_, rfl, .inl rfl⟩)
    obtain ⟨K1, hK1⟩ : ∃ K1, K1 = wput K 1 b [kd, pt, dp] := ⟨_, rfl⟩
    obtain ⟨K2, hK2⟩ : ∃ K2, K2 = wput K 1 b (siteNs t) := ⟨_, rfl⟩
    obtain ⟨K3, hK3⟩ : ∃ K3, K3 = wput K 1 b (siteNs t ++ cellsN r) := ⟨_, rfl⟩
    have l1 : K1.length = K.length := by rw [hK1, wput_length]
    have l2 : K2.length = K.length := by rw [hK2, wput_length]
    have l3 : K3.length = K.length := by rw [hK3, wput_length]
    have nb1 : (b ++ numsB [kd, pt, dp]).length ≤ b.length + 30 := by
      have := numsB_len [kd, pt, dp] (by simp; omega)
      simp at this ⊢; omega
    have nb2 : (b ++ numsB (siteNs t)).length ≤ b.length + 110 := by
      have := numsB_len (siteNs t) (fun n hn => by have := siteNs_lt nt n hn; omega)
      have := siteNs_len t okt
      simp; omega
    have nb3 : (b ++ numsB (siteNs t ++ cellsN r)).length ≤ b.length + 2000 := by
      have h1 := numsB_len (siteNs t ++ cellsN r) (fun n hn => by
        rcases List.mem_append.1 hn with h | h
        · have := siteNs_lt nt n h; omega
        · have := cellsN_lt hrn n h; omega)
      have h2 := siteNs_len t okt
      have h3 := cellsN_len r
      simp at h1 ⊢; omega
    have p1 : eval tbl noExt n_ppack_writer_put [.ptr 1 0, .own 1 [[.int .i64 (kd : Int)], [.int .i64 (pt : Int)], [.int .i64 (dp : Int)]]] (K ++ [some t.cells]) = some (.tup [], K1 ++ [some t.cells]) := by
      have := put_eq 1 [kd, pt, dp] (by simp) (by simp; omega) (K ++ [some t.cells]) b (by simp at hb ⊢; omega) (hHK.push _)
      rw [wput_push _ _ _ _ _ (by omega), ← hK1] at this
      exact this
    have p2 : eval tbl noExt n_ppack_writer_put [.ptr 1 0, .ms K.length 2 dp 8] (K1 ++ [some t.cells]) = some (.tup [], K2 ++ [some t.cells]) := by
      have := put_ms_eq 1 K.length (by omega) t.cells ws (by omega) hwsm hwa (K1 ++ [some t.cells]) (b ++ numsB [kd, pt, dp]) (by simp at hb nb1 ⊢; omega) (by rw [hK1]; exact (hHK.put _).push _) (by rw [List.getElem?_append_right (by omega), l1]; simp)
      rw [wput_push _ _ _ _ _ (by omega), hK1, wput_append, ← hsn, ← hK2, hwl, ← hK1] at this
      exact this
    have p3 : eval tbl noExt n_ppack_writer_cells [.ptr 1 0, .sl 6 (r.map Ce.cells)] (K2 ++ [some t.cells]) = some (.tup [], K3 ++ [some t.cells]) := by
      have := cells34_eq 1 r (by omega) hrn (K2 ++ [some t.cells]) (b ++ numsB (siteNs t)) (by simp at hb nb2 ⊢; omega) (by rw [hK2]; exact (hHK.put _).push _)
      rw [wput_push _ _ _ _ _ (by omega), hK2, wput_append, ← hK3, ← hK2] at this
      exact this
    have g1 : (K1 ++ [some t.cells])[K.length]? = some (some t.cells) := by rw [List.getElem?_append_right (by omega), l1]; simp
    have g2 : (K2 ++ [some t.cells])[0]? = some (some m.cells) := by
      rw [List.getElem?_append_left (by omega), hK2]
      cases siteNs t with
      | nil => exact hK0
      | cons n l => simp only [wput]; rw [List.getElem?_set_ne (by omega)]; exact hK0
    rw [hcell] at g2
    have g2' : ∀ h : 0 < (K2 ++ [some t.cells]).length, (K2 ++ [some t.cells])[0] = some [.bool m.bad, .sl 6 (m.base.map Ce.cells), .sl 11 (m.sites.map Si.cells), .sl 1 (m.rows.map rowV)] := fun h => by rw [List.getElem?_eq_getElem h] at g2; exact Option.some.inj g2
    have hnext : ∀ φ', Fr.get φ' 1 = .ptr 0 0 → Fr.get φ' 4 = .ptr 1 0 → Fr.get φ' 37 = .sl 11 (m.sites.map Si.cells) → Fr.get φ' 38 = iv m.sites.length → Fr.get φ' 39 = iv ((i + 1 : Nat) : Int) → Q (M (eval tbl noExt) (.code l_pack_Encode_0 :: .blk 0 :: k) φ' (K3 ++ [some t.cells])) := by
      intro φ' g1 g4 g37 g38 g39
      refine ih _ (i + 1) φ' _ (b ++ numsB (siteNs t ++ cellsN r)) hd2 rfl (by omega) (by simp at hb nb3 ⊢; omega) ?_ (by simp; omega) ?_ g1 g4 g37 g38 g39
      · rw [List.take_append_of_le_length (by omega), hK3, wput_take _ _ _ _ _ (by omega), hK]
        rw [show siteNs t ++ cellsN r = t.kind.toNat :: (t.part.toNat :: t.deep.toNat :: (t.way.take t.deep.toNat).map Int.toNat ++ cellsN r) from rfl]
        rfl
      · rw [← hB]
        simp [rowsN, numsB_append]
    rw [l_pack_Encode_0, M_loop, ← l_pack_Encode_0]
    simp [-arith, b_pack_Encode_0, h1, h4, h37, h38, h39, e1, e1r, hil, hil2, hg, hg2, A6, q1, q3, q5, qu, qo, qs, c0g, c1g, c10g, get0, set0, p1, p2, p3, g1, g2, g2', hdp8, hdp8', rowV, lt_ppack_writer_put, lt_ppack_writer_cells]
    exact hnext _ (by simp) (by simp) (by simp) (by simp) (by simp)

theorem putC0 (C : List V) (n : Nat) (hn : n < 2 ^ 63) : eval tbl noExt n_ppack_writer_put [.ptr 1 0, .own 1 [[.int .i64 (n : Int)]]] [some C, some [.nils 1]] = some (.tup [], [some C, some [.own 1 (bytesRows (uintB n))]]) := by
  have := put_eq 1 [n] (by simp) (by simpa using hn) [some C, some [.nils 1]] [] (by simp) ⟨_, rfl, .inr (.inr ⟨rfl, rfl⟩)⟩
  simpa [wput, numsB, nrow] using this
theorem putC (C : List V) (b : List UInt8) (n : Nat) (hn : n < 2 ^ 63) (hb : b.length ≤ 5000000) : eval tbl noExt n_ppack_writer_put [.ptr 1 0, .own 1 [[.int .i64 (n : Int)]]] [some C, some [.own 1 (bytesRows b)]] = some (.tup [], [some C, some [.own 1 (bytesRows (b ++ uintB n))]]) := by
  have := put_eq 1 [n] (by simp) (by simpa using hn) [some C, some [.own 1 (bytesRows b)]] b (by simp; omega) ⟨_, rfl, .inl rfl⟩
  simpa [wput, numsB, nrow] using this
theorem cellsC (C : List V) (b : List UInt8) (l : List Ce) (hl : l.length ≤ 1000) (hnat : ∀ c ∈ l, c.nat) (hb : b.length ≤ 5000000) : eval tbl noExt n_ppack_writer_cells [.ptr 1 0, .sl 6 (l.map Ce.cells)] [some C, some [.own 1 (bytesRows b)]] = some (.tup [], [some C, some [.own 1 (bytesRows (b ++ numsB (cellsN l)))]]) := by
  have := cells34_eq 1 l hl hnat [some C, some [.own 1 (bytesRows b)]] b (by omega) ⟨_, rfl, .inl rfl⟩
  rw [this]
  cases h : cellsN l with
  | nil => simp [wput, numsB]
  | cons n l' => simp [wput]

theorem rowsN_lt {m : Mx} (hm : m.nat) : ∀ (ss : List Si) (rs : List (List Ce)), (∀ s ∈ ss, s ∈ m.sites) → (∀ r ∈ rs, r ∈ m.rows) → ∀ n ∈ rowsN ss rs, n ≤ 1048576
  | [], _, _, _, n, hn => by simp [rowsN] at hn
  | _ :: _, [], _, _, n, hn => by simp [rowsN] at hn
  | s :: ss, r :: rs, h1, h2, n, hn => by
    simp only [rowsN, List.mem_append] at hn
    rcases hn with hn | hn | hn
    · exact siteNs_lt (hm.site s (h1 s (by simp))) n hn
    · exact cellsN_lt (hm.row r (h2 r (by simp))).2 n hn
    · exact rowsN_lt hm ss rs (fun x hx => h1 x (by simp [hx])) (fun x hx => h2 x (by simp [hx])) n hn

theorem rowsN_len {m : Mx} (hm : m.nat) (hok : ∀ s ∈ m.sites, s.ok) : ∀ (ss : List Si) (rs : List (List Ce)), (∀ s ∈ ss, s ∈ m.sites) → (∀ r ∈ rs, r ∈ m.rows) → (rowsN ss rs).length ≤ 100 * ss.length
  | [], _, _, _ => by simp [rowsN]
  | _ :: _, [], _, _ => by simp [rowsN]
  | s :: ss, r :: rs, h1, h2 => by
    have e1 := siteNs_len s (hok s (h1 s (by simp)))
    have e2 := cellsN_len r
    have e3 := (hm.row r (h2 r (by simp))).1
    have e4 := hm.base16
    have e5 := rowsN_len hm hok ss rs (fun x hx => h1 x (by simp [hx])) (fun x hx => h2 x (by simp [hx]))
    simp only [rowsN, List.length_append, List.length_cons]
    omega

theorem encB_len {m : Mx} (hm : m.nat) (hok : ∀ s ∈ m.sites, s.ok) : (encB m).length ≤ 600000 := by
  have h1 := rowsN_len hm hok m.sites m.rows (fun _ h => h) (fun _ h => h)
  have h2 := rowsN_lt hm m.sites m.rows (fun _ h => h) (fun _ h => h)
  have h3 := cellsN_len m.base
  have h4 := cellsN_lt hm.base
  have h5 := hm.base16
  have h6 := hm.sites
  have := numsB_len (matN m) (fun n hn => by
    simp only [matN, List.mem_cons, List.mem_append] at hn
    rcases hn with rfl | rfl | hn | rfl | hn
    · split <;> omega
    · omega
    · have := h4 n hn; omega
    · omega
    · have := h2 n hn; omega)
  unfold encB
  have hl : (matN m).length ≤ 3 + (cellsN m.base).length + (rowsN m.sites m.rows).length := by simp [matN]; omega
  omega

theorem Encode_eq (m : Mx) (hm : m.mid) (hok : ∀ s ∈ m.sites, s.ok) (hk : (∀ c ∈ m.base, 0 ≤ c.kept) ∧ ∀ r ∈ m.rows, ∀ c ∈ r, 0 ≤ c.kept) : eval tbl noExt n_pack_Encode [.agg m.cells] [] = some (encV m, []) := by
  have hcell : m.cells = [.bool m.bad, .sl 6 (m.base.map Ce.cells), .sl 11 (m.sites.map Si.cells), .sl 1 (m.rows.map rowV)] := rfl
  have hR := SRight_A m hm hok []
  unfold encV
  rw [eval_M rfl rfl t_pack_Encode rfl]
  rw [hcell] at hR
  cases hA : m.rightA with
  | false =>
    rw [hA] at hR
    simp [c_pack_Encode, hcell, hR, lt_score_Right]
  | true =>
    rw [hA] at hR
    have nm := Mx.nat_of hA hk
    have h5 := nm.base16
    have h6 := nm.sites
    obtain ⟨bit, hbit⟩ : ∃ bit : Nat, bit = if m.bad then 1 else 0 := ⟨_, rfl⟩
    have hbit1 : bit ≤ 1 := by rw [hbit]; split <;> omega
    obtain ⟨C, hC⟩ : ∃ C, C = m.cells := ⟨_, rfl⟩
    obtain ⟨b1, hb1⟩ : ∃ b1, b1 = uintB bit := ⟨_, rfl⟩
    obtain ⟨b2, hb2⟩ : ∃ b2, b2 = b1 ++ uintB m.base.length := ⟨_, rfl⟩
    obtain ⟨b3, hb3⟩ : ∃ b3, b3 = b2 ++ numsB (cellsN m.base) := ⟨_, rfl⟩
    obtain ⟨b4, hb4⟩ : ∃ b4, b4 = b3 ++ uintB m.sites.length := ⟨_, rfl⟩
    have hall : b4 ++ numsB (rowsN m.sites m.rows) = encB m := by
      rw [hb4, hb3, hb2, hb1, hbit]
      simp [encB, matN, numsB_cons, numsB_append]
    have hlenE := encB_len nm hok
    have hlen4 : b4.length ≤ 600000 := by rw [← hall] at hlenE; simp at hlenE; omega
    have hlen3 : b3.length ≤ 600000 := by rw [hb4] at hlen4; simp at hlen4; omega
    have hlen2 : b2.length ≤ 600000 := by rw [hb3] at hlen3; simp at hlen3; omega
    have hlen1 : b1.length ≤ 600000 := by rw [hb2] at hlen2; simp at hlen2; omega
    have p1 := putC0 C bit (by omega)
    have p2 := putC C b1 m.base.length (by omega) (by omega)
    have p3 := cellsC C b2 m.base (by omega) nm.base (by omega)
    have p4 := putC C b3 m.sites.length (by omega) (by omega)
    rw [← hb1] at p1
    rw [← hb2] at p2
    rw [← hb3] at p3
    rw [← hb4] at p4
    have hfin : ∀ φ' K', K'.take 2 = [some C, some [.own 1 (bytesRows (encB m))]] → 2 ≤ K'.length → Fr.get φ' 4 = .ptr 1 0 → M (eval tbl noExt) [.code r_pack_Encode_0, .fin [.t 2, .t 3] 0] φ' K' = some (.tup [.sl 1 (bytesRows (encS m)), .bool true], []) := by
      intro φ' K' hK hn h4
      have hK1 : K'[1]? = some (some [.own 1 (bytesRows (encB m))]) := get_take hK rfl
      have hg1 : ∀ h : 1 < K'.length, K'[1] = some [.own 1 (bytesRows (encB m))] := fun h => by rw [List.getElem?_eq_getElem h] at hK1; exact Option.some.inj hK1
      have hlt : 1 < K'.length := by omega
      have hS := sum34_eq (encB m) (by omega) []
      have hE := seal_eq (sumN (encB m))
      rw [sumN_eq] at hE
      have e7 : 2 * ((encB m).length + 8) ≤ 281474976710656 := by omega
      simp [-arith, r_pack_Encode_0, h4, hK1, hg1, hlt, hS, hE, lt_pack_Sum, lt_pack_seal, bytesRows_len, sealS_len, e7, bytes_all]
      rw [encS, bytesRows_append]
    have hmax : m.sites.length ≤ 100000 := by omega
    have hC' : C = [.bool m.bad, .sl 6 (m.base.map Ce.cells), .sl 11 (m.sites.map Si.cells), .sl 1 (m.rows.map rowV)] := hC
    cases hB : m.bad with
    | true =>
      rw [hB] at hbit hR hC'
      rw [if_pos rfl] at hbit
      subst hbit
      rw [hC'] at p1 p2 p3 p4
      simp only [show ((1 : Nat) : Int) = 1 from rfl] at p1
      simp [c_pack_Encode, hcell, hB, hR, p1, p2, p3, p4, lt_score_Right, lt_ppack_writer_put, lt_ppack_writer_cells]
      refine enc_loop m nm hok (fun r => r = some (.tup [.sl 1 (bytesRows (encS m)), .bool true], [])) _ (encB m) (fun φ' K' g1 g2 g3 => hfin φ' K' (by rw [hC]; exact g1) g2 g3) m.sites m.rows 0 _ _ b4 rfl rfl (by omega) (by omega) (by rw [hcell, hB]; rfl) (by simp) hall ?_ ?_ ?_ ?_ ?_ <;> simp
    | false =>
      rw [hB] at hbit hR hC'
      rw [if_neg (by simp)] at hbit
      subst hbit
      rw [hC'] at p1 p2 p3 p4
      simp only [show ((0 : Nat) : Int) = 0 from rfl] at p1
      simp [c_pack_Encode, hcell, hB, hR, p1, p2, p3, p4, lt_score_Right, lt_ppack_writer_put, lt_ppack_writer_cells]
      refine enc_loop m nm hok (fun r => r = some (.tup [.sl 1 (bytesRows (encS m)), .bool true], [])) _ (encB m) (fun φ' K' g1 g2 g3 => hfin φ' K' (by rw [hC]; exact g1) g2 g3) m.sites m.rows 0 _ _ b4 rfl rfl (by omega) (by omega) (by rw [hcell, hB]; rfl) (by simp) hall ?_ ?_ ?_ ?_ ?_ <;> simp

end Go.AM.Spec

namespace Go.AM.Spec
set_option linter.unusedVariables false
set_option linter.unusedSimpArgs false
set_option maxHeartbeats 1000000
set_option maxRecDepth 10000

theorem refPut_eq (b : List UInt8) (hb : b.length ≤ 100000000) (n : Nat) (hn : n < 2 ^ 63) (H : Heap) : eval tbl noExt n_flotsamref34_put [.sl 1 (bytesRows b), .int .i64 n] H = some (.own 1 (bytesRows (b ++ uintB n)), H) := by
  have e1 : IntKind.u64.wrap (n : Int) = (n : Int) := by rw [IntKind.wrap_u64]; omega
  have hU := refUint_eq b hb n (by omega) []
  rw [eval_M rfl rfl t_flotsamref34_put rfl]
  simp [c_flotsamref34_put, e1, hU, lt_flotsamref03_Uint]

theorem refPut0_eq (n : Nat) (hn : n < 2 ^ 63) (H : Heap) : eval tbl noExt n_flotsamref34_put [.sl 1 [], .int .i64 n] H = some (.own 1 (bytesRows (uintB n)), H) := refPut_eq [] (by simp) n hn H

theorem refCells_loop (n : Nat) (H : Heap) (all : List Ce) (hall : all.length ≤ 1000) (hnat : ∀ c ∈ all, c.nat) (Q : Option (V × Heap) → Prop) (k : List Item) (B : List UInt8) (hexit : ∀ φ' K', K'.take n = H → n ≤ K'.length → Fr.get φ' 0 = .own 1 (bytesRows B) → Q (M (eval tbl noExt) k φ' K')) :
    ∀ (l : List Ce) (j : Nat) (φ : Fr) (K : Heap) (b : List UInt8), all.drop j = l → j ≤ all.length → b.length + 50 * l.length ≤ 10000000 → K.take n = H → n ≤ K.length → b ++ numsB (cellsN l) = B → Fr.get φ 0 = .own 1 (bytesRows b) → Fr.get φ 1 = .sl 6 (all.map Ce.cells) → Fr.get φ 5 = .int .i64 j →
      Q (M (eval tbl noExt) (.code l_flotsamref34_cells_0 :: .blk 0 :: k) φ K) := by
  intro l
  induction l with
  | nil =>
    intro j φ K b hd hj hb hK hn hB h0 h1 h5
    have hlt : ¬ (j : Int) < all.length := by
      have := congrArg List.length hd
      simp at this; omega
    have hlt' : ¬ j < all.length := by omega
    rw [l_flotsamref34_cells_0, M_loop]
    simp [b_flotsamref34_cells_0, h0, h1, h5, hlt, hlt']
    exact hexit _ _ hK hn (by rw [← hB]; simp [h0, cellsN, numsB])
  | cons c l ih =>
    intro j φ K b hd hj hb hK hn hB h0 h1 h5
    have hjl : j < all.length := by
      rcases Nat.lt_or_ge j all.length with h1 | h1
      · exact h1
      · rw [List.drop_eq_nil_of_le h1] at hd; cases hd
    rw [List.drop_eq_getElem_cons hjl] at hd
    simp only [List.cons.injEq] at hd
    obtain ⟨hc0, hd2⟩ := hd
    have hg : ∀ h : j < all.length, all[j] = c := fun h => hc0
    have hmem : c ∈ all := by rw [← hc0]; exact List.getElem_mem _
    have hc := hnat c hmem
    have hclt := cellN_lt hc
    have hlen5 := cellN_len c
    have hlt : (j : Int) < all.length := by omega
    have A6 := ar_succ j (by omega)
    have hnext : ∀ φ' r, Fr.get φ' 0 = .own 1 (bytesRows (b ++ numsB (cellN c))) → Fr.get φ' 1 = .sl 6 (all.map Ce.cells) → Fr.get φ' 5 = .int .i64 ((j + 1 : Nat) : Int) → Q (M (eval tbl noExt) (.code l_flotsamref34_cells_0 :: .blk 0 :: k) φ' (K ++ r)) := by
      intro φ' r g0 g1 g5
      refine ih (j + 1) φ' _ (b ++ numsB (cellN c)) hd2 (by omega) ?_ (take_more hK hn _) (by simp; omega) (by rw [← hB]; simp [cellsN, numsB_append]) g0 g1 g5
      have := numsB_len (cellN c) (fun n hn => by have := hclt n hn; omega)
      simp at hb ⊢; omega
    obtain ⟨sa, po, ke, ve, er, li⟩ := c
    obtain ⟨⟨c1, c1'⟩, ⟨c2, c2'⟩, ⟨c3, c3'⟩, ⟨c4, c4'⟩, ⟨c5, c5'⟩, c6, c6'⟩ := hc
    dsimp only at c1 c1' c2 c2' c3 c3' c4 c4' c5 c5' c6 c6'
    obtain ⟨sa, rfl⟩ := Int.eq_ofNat_of_zero_le c1
    obtain ⟨po, rfl⟩ := Int.eq_ofNat_of_zero_le c2
    obtain ⟨ke, rfl⟩ := Int.eq_ofNat_of_zero_le c3
    obtain ⟨ve, rfl⟩ := Int.eq_ofNat_of_zero_le c4
    obtain ⟨er, rfl⟩ := Int.eq_ofNat_of_zero_le c5
    obtain ⟨li, rfl⟩ := Int.eq_ofNat_of_zero_le c6
    have bl1 : (b ++ uintB sa).length ≤ b.length + 10 := by have := uintB_ten (n := sa) (by omega); simp; omega
    have p1 := refPut_eq b (by simp at hb; omega) sa (by omega) []
    rw [l_flotsamref34_cells_0, M_loop, ← l_flotsamref34_cells_0]
    rcases (show sa = 0 ∨ sa = 1 ∨ sa = 2 by omega) with rfl | rfl | rfl
    · have hcn : numsB (cellN ⟨((0 : Nat) : Int), po, ke, ve, er, li⟩) = uintB 0 := by simp [cellN, numsB]
      rw [hcn] at hnext
      have hce : Ce.cells ⟨0, po, ke, ve, er, li⟩ = [.int .i64 0, .int .i64 po, .int .u64 ke, .int .i64 ve, .int .i64 er, .int .i64 li] := rfl
      simp only [show ((0 : Nat) : Int) = 0 from rfl] at hg p1
      simp [-arith, b_flotsamref34_cells_0, h0, h1, h5, hlt, hjl, hg, hce, A6, get0, set0, p1, lt_flotsamref34_put]
      exact hnext _ _ (by simp) (by simp [h1]) (by simp)
    · have hcn : numsB (cellN ⟨((1 : Nat) : Int), po, ke, ve, er, li⟩) = uintB 1 ++ (uintB po ++ (uintB ke ++ (uintB ve ++ uintB er))) := by simp [cellN, numsB]
      rw [hcn] at hnext
      have l2 := uintB_ten (n := po) (by omega)
      have l3 := uintB_ten (n := ke) (by omega)
      have l4 := uintB_ten (n := ve) (by omega)
      have l5 := uintB_ten (n := er) (by omega)
      have p2 := refPut_eq (b ++ uintB 1) (by simp at hb bl1 ⊢; omega) po (by omega) []
      have p3 := refUint_eq (b ++ uintB 1 ++ uintB po) (by simp at hb bl1 ⊢; omega) ke (by omega) []
      have p4 := refPut_eq (b ++ uintB 1 ++ uintB po ++ uintB ke) (by simp at hb bl1 ⊢; omega) ve (by omega) []
      have p5 := refPut_eq (b ++ uintB 1 ++ uintB po ++ uintB ke ++ uintB ve) (by simp at hb bl1 ⊢; omega) er (by omega) []
      simp only [List.append_assoc] at p2 p3 p4 p5
      have hce : Ce.cells ⟨1, po, ke, ve, er, li⟩ = [.int .i64 1, .int .i64 po, .int .u64 ke, .int .i64 ve, .int .i64 er, .int .i64 li] := rfl
      simp only [show ((1 : Nat) : Int) = 1 from rfl] at hg p1
      simp [-arith, b_flotsamref34_cells_0, h0, h1, h5, hlt, hjl, hg, hce, A6, get0, set0, p1, p2, p3, p4, p5, lt_flotsamref34_put, lt_flotsamref03_Uint]
      exact hnext _ _ (by simp) (by simp [h1]) (by simp)
    · have hcn : numsB (cellN ⟨((2 : Nat) : Int), po, ke, ve, er, li⟩) = uintB 2 ++ uintB li := by simp [cellN, numsB]
      rw [hcn] at hnext
      have p2 := refPut_eq (b ++ uintB 2) (by simp at hb bl1 ⊢; omega) li (by omega) []
      simp only [List.append_assoc] at p2
      have hce : Ce.cells ⟨2, po, ke, ve, er, li⟩ = [.int .i64 2, .int .i64 po, .int .u64 ke, .int .i64 ve, .int .i64 er, .int .i64 li] := rfl
      simp only [show ((2 : Nat) : Int) = 2 from rfl] at hg p1
      simp [-arith, b_flotsamref34_cells_0, h0, h1, h5, hlt, hjl, hg, hce, A6, get0, set0, p1, p2, lt_flotsamref34_put]
      exact hnext _ _ (by simp) (by simp [h1]) (by simp)

theorem refCells_eq (l : List Ce) (hl : l.length ≤ 1000) (hnat : ∀ c ∈ l, c.nat) (H : Heap) (b : List UInt8) (hb : b.length + 50 * l.length ≤ 10000000) :
    eval tbl noExt n_flotsamref34_cells [.own 1 (bytesRows b), .sl 6 (l.map Ce.cells)] H = some (.own 1 (bytesRows (b ++ numsB (cellsN l))), H) := by
  rw [eval_M rfl rfl t_flotsamref34_cells rfl]
  simp [c_flotsamref34_cells]
  refine refCells_loop H.length H l hl hnat (fun r => r = some (.own 1 (bytesRows (b ++ numsB (cellsN l))), H)) _ (b ++ numsB (cellsN l)) ?_ l 0 _ H b rfl (by omega) hb (by simp) (Nat.le_refl _) rfl ?_ ?_ ?_
  · intro φ' K' h1 h2 h3
    simp [r_flotsamref34_cells_0, h1, h3]
  all_goals simp

end Go.AM.Spec

namespace Go.AM.Spec
set_option linter.unusedVariables false
set_option linter.unusedSimpArgs false
set_option maxHeartbeats 1000000
set_option maxRecDepth 10000

theorem refWay_loop (q : Nat) (cs : List V) (all : List Nat) (hall : all.length ≤ 8) (hsm : ∀ n ∈ all, n < 2 ^ 63) (hcs : ∀ (j n : Nat), all[j]? = some n → cs[2 + j]? = some (.int .i64 n)) (hd10 : cs[10]? = some (.int .i64 all.length)) (call : Unit) (K : Heap) (hq : K[q]? = some (some cs)) (v1 v5 : V)
    (Q : Option (V × Heap) → Prop) (k : List Item) (B : List UInt8) (hexit : ∀ φ', Fr.get φ' 4 = .own 1 (bytesRows B) → Fr.get φ' 1 = v1 → Fr.get φ' 5 = v5 → Q (M (eval tbl noExt) k φ' K)) :
    ∀ (l : List Nat) (j : Nat) (φ : Fr) (b : List UInt8), all.drop j = l → j ≤ all.length → b.length + 10 * l.length ≤ 10000000 → b ++ numsB l = B → Fr.get φ 1 = v1 → Fr.get φ 4 = .own 1 (bytesRows b) → Fr.get φ 5 = v5 → Fr.get φ 6 = .ptr q 0 → Fr.get φ 7 = .int .i64 j →
      Q (M (eval tbl noExt) (.code l_flotsamref34_Encode_0 :: .blk 2 :: k) φ K) := by
  have hsq : q < K.length := lt_of_get hq
  have hgq : ∀ h : q < K.length, K[q] = some cs := fun h => by rw [List.getElem?_eq_getElem h] at hq; exact Option.some.inj hq
  have h10 : 10 < cs.length := by
    rcases Nat.lt_or_ge 10 cs.length with h1 | h1
    · exact h1
    · rw [List.getElem?_eq_none h1] at hd10; cases hd10
  have hg10 : ∀ h : 10 < cs.length, cs[10] = .int .i64 all.length := fun h => by rw [List.getElem?_eq_getElem h] at hd10; exact Option.some.inj hd10
  intro l
  induction l with
  | nil =>
    intro j φ b hd hj hb hB h1 h4 h5 h6 h7
    have hlt : ¬ (j : Int) < all.length := by
      have := congrArg List.length hd
      simp at this; omega
    have hlt' : ¬ j < all.length := by omega
    rw [l_flotsamref34_Encode_0, M_loop]
    simp [b_flotsamref34_Encode_0, h1, h4, h5, h6, h7, hlt, hlt', hsq, hgq, h10, hg10]
    exact hexit _ (by rw [← hB]; simp [h4, numsB]) (by simp [h1]) (by simp [h5])
  | cons n l ih =>
    intro j φ b hd hj hb hB h1 h4 h5 h6 h7
    have hjl : j < all.length := by
      rcases Nat.lt_or_ge j all.length with h1 | h1
      · exact h1
      · rw [List.drop_eq_nil_of_le h1] at hd; cases hd
    rw [List.drop_eq_getElem_cons hjl] at hd
    simp only [List.cons.injEq] at hd
    obtain ⟨hn, hd2⟩ := hd
    have hmem : n ∈ all := by rw [← hn]; exact List.getElem_mem _
    have hn63 := hsm n hmem
    have hlt : (j : Int) < all.length := by omega
    have hj8 : (j : Int) < 8 := by omega
    have hj8' : j < 8 := by omega
    have A6 := ar_succ j (by omega)
    have hP := refPut_eq b (by omega) n hn63 []
    have hc0 := hcs j n (by rw [List.getElem?_eq_getElem hjl, hn])
    have hcl : 2 + j < cs.length := by
      rcases Nat.lt_or_ge (2 + j) cs.length with h1 | h1
      · exact h1
      · rw [List.getElem?_eq_none h1] at hc0; cases hc0
    have hcg : ∀ h : 2 + j < cs.length, cs[2 + j] = .int .i64 n := fun h => by rw [List.getElem?_eq_getElem h] at hc0; exact Option.some.inj hc0
    rw [l_flotsamref34_Encode_0, M_loop, ← l_flotsamref34_Encode_0]
    simp [-arith, b_flotsamref34_Encode_0, h1, h4, h5, h6, h7, hlt, hjl, hsq, hgq, h10, hg10, hcl, hcg, A6, hP, hj8, hj8', lt_flotsamref34_put]
    refine ih (j + 1) _ (b ++ uintB n) hd2 (by omega) (by have := uintB_ten (n := n) (by omega); simp at hb ⊢; omega) (by rw [← hB, numsB_cons]; simp) ?_ ?_ ?_ ?_ ?_ <;> simp [h1, h5, h6]

theorem sealS_at (n i : Nat) (hi : i < 8) : (sealS n)[i]? = some (UInt8.ofNat (n / 2 ^ (56 - 8 * i))) := by
  rcases (show i = 0 ∨ i = 1 ∨ i = 2 ∨ i = 3 ∨ i = 4 ∨ i = 5 ∨ i = 6 ∨ i = 7 by omega) with rfl | rfl | rfl | rfl | rfl | rfl | rfl | rfl <;> simp [sealS]

theorem ar_shrS (n e : Nat) (he : e ≤ 56) : arith .shr .u64 (n : Int) (e : Int) = some (.int .u64 ((n / 2 ^ e : Nat) : Int)) := by
  show (if (e : Int) < 0 then none else some (V.int .u64 ((n : Int).fdiv (2 ^ (min (e : Int).toNat IntKind.u64.bits))))) = _
  have h1 : min (e : Int).toNat IntKind.u64.bits = e := by simp [IntKind.bits]; omega
  rw [if_neg (by omega), h1, Int.fdiv_eq_ediv_of_nonneg _ (by have := Int.pow_pos (n := 2) (m := e) (by decide); omega)]
  congr 2

theorem refSeal_loop (n : Nat) (K : Heap) (R : Option (V × Heap)) (k : List Item) (B : List UInt8) (hB0 : B.length ≤ 10000000) (hexit : ∀ φ', Fr.get φ' 4 = .own 1 (bytesRows B) → M (eval tbl noExt) k φ' K = R) :
    ∀ (j i : Nat) (φ : Fr) (b : List UInt8), i + j = 8 → b ++ (sealS n).drop i = B → Fr.get φ 4 = .own 1 (bytesRows b) → Fr.get φ 8 = .int .u64 n → Fr.get φ 9 = .int .i64 i →
      M (eval tbl noExt) (.code l_flotsamref34_Encode_2 :: .blk 4 :: k) φ K = R := by
  intro j
  induction j with
  | zero =>
    intro i φ b hi hB h4 h8 h9
    have hlt : ¬ (i : Int) < 8 := by omega
    have hlt' : ¬ i < 8 := by omega
    rw [l_flotsamref34_Encode_2, M_loop]
    simp [b_flotsamref34_Encode_2, h4, h8, h9, hlt, hlt']
    exact hexit _ (by rw [← hB, List.drop_eq_nil_of_le (by rw [sealS_len]; omega)]; simp [h4])
  | succ j ih =>
    intro i φ b hi hB h4 h8 h9
    have hlt : (i : Int) < 8 := by omega
    have hlt' : i < 8 := by omega
    obtain ⟨e, he⟩ : ∃ e, e = 56 - 8 * i := ⟨_, rfl⟩
    have A1 : arith .mul .i64 8 (i : Int) = some (.int .i64 (8 * (i : Int))) := by
      show some (V.int .i64 (IntKind.i64.wrap _)) = _
      rw [w64 (by omega) (by omega)]
    have A2 : arith .sub .i64 56 (8 * (i : Int)) = some (.int .i64 (e : Int)) := by
      show some (V.int .i64 (IntKind.i64.wrap _)) = _
      rw [w64 (by omega) (by omega)]
      congr 2; omega
    have A3 := ar_shrS n e (by omega)
    have A6 := ar_succ i (by omega)
    obtain ⟨m, hm⟩ : ∃ m, m = n / 2 ^ e := ⟨_, rfl⟩
    rw [← hm] at A3
    have hat := sealS_at n i hlt'
    rw [← he, ← hm] at hat
    have e2 : IntKind.u8.wrap (m : Int) = (m : Int) % 256 := IntKind.wrap_u8 _
    have hlt3 : i < (sealS n).length := by rw [sealS_len]; omega
    have hdrop : (sealS n).drop i = UInt8.ofNat m :: (sealS n).drop (i + 1) := by
      rw [List.drop_eq_getElem_cons hlt3]
      rw [List.getElem?_eq_getElem hlt3] at hat
      rw [Option.some.inj hat]
    have hlen : b.length ≤ 10000000 := by rw [← hB] at hB0; simp at hB0; omega
    have e7 : 2 * (b.length + 1) ≤ 281474976710656 := by omega
    rw [l_flotsamref34_Encode_2, M_loop, ← l_flotsamref34_Encode_2]
    simp [-arith, b_flotsamref34_Encode_2, h4, h8, h9, hlt, hlt', A1, A2, A3, A6, e2, bytesRows_len, e7]
    refine ih (i + 1) _ (b ++ [UInt8.ofNat m]) (by omega) (by rw [← hB, hdrop]; simp) ?_ ?_ ?_
    · simp [bytesRows_append, bytesRows_one]
    · simp [h8]
    · simp

theorem refEnc_loop (m : Mx) (hm : m.nat) (hok : ∀ s ∈ m.sites, s.ok) (H : Heap) (q0 : Nat) (hq0 : H[q0]? = some (some m.cells)) (Q : Option (V × Heap) → Prop) (k : List Item) (B : List UInt8) (hexit : ∀ φ' K', K'.take (q0 + 1) = H → q0 + 1 ≤ K'.length → Fr.get φ' 4 = .own 1 (bytesRows B) → Q (M (eval tbl noExt) k φ' K')) :
    ∀ (ss : List Si) (rs : List (List Ce)) (i : Nat) (φ : Fr) (K : Heap) (b : List UInt8), m.sites.drop i = ss → m.rows.drop i = rs → i ≤ m.sites.length → b.length + 2000 * ss.length ≤ 5000000 → K.take (q0 + 1) = H → q0 + 1 ≤ K.length → b ++ numsB (rowsN ss rs) = B →
      Fr.get φ 1 = .ptr q0 0 → Fr.get φ 4 = .own 1 (bytesRows b) → Fr.get φ 5 = iv i →
      Q (M (eval tbl noExt) (.code l_flotsamref34_Encode_1 :: .blk 0 :: k) φ K) := by
  have hcell : m.cells = [.bool m.bad, .sl 6 (m.base.map Ce.cells), .sl 11 (m.sites.map Si.cells), .sl 1 (m.rows.map rowV)] := rfl
  intro ss
  induction ss with
  | nil =>
    intro rs i φ K b hd hd' hi hb hK hn hB h1 h4 h5
    have hlt : ¬ (i : Int) < m.sites.length := by
      have := congrArg List.length hd
      simp at this; omega
    have hlt' : ¬ i < m.sites.length := by omega
    have hKq := get_take hK hq0
    rw [hcell] at hKq
    have hql : q0 < K.length := by omega
    have hKg : ∀ h : q0 < K.length, K[q0] = some [.bool m.bad, .sl 6 (m.base.map Ce.cells), .sl 11 (m.sites.map Si.cells), .sl 1 (m.rows.map rowV)] := fun h => by rw [List.getElem?_eq_getElem h] at hKq; exact Option.some.inj hKq
    rw [l_flotsamref34_Encode_1, M_loop]
    simp [b_flotsamref34_Encode_1, h1, h4, h5, hlt, hlt', hql, hKg]
    exact hexit _ _ hK hn (by rw [← hB]; simp [h4, rowsN, numsB])
  | cons t ss ih =>
    intro rs i φ K b hd hd' hi hb hK hn hB h1 h4 h5
    have hil : i < m.sites.length := by
      rcases Nat.lt_or_ge i m.sites.length with h1 | h1
      · exact h1
      · rw [List.drop_eq_nil_of_le h1] at hd; cases hd
    have hil2 : i < m.rows.length := by have := hm.len; omega
    rw [List.drop_eq_getElem_cons hil] at hd
    simp only [List.cons.injEq] at hd
    obtain ⟨ht, hd2⟩ := hd
    obtain ⟨r, hr⟩ : ∃ r, r = m.rows[i] := ⟨_, rfl⟩
    rw [List.drop_eq_getElem_cons hil2, ← hr] at hd'
    subst hd'
    have hmem : t ∈ m.sites := by rw [← ht]; exact List.getElem_mem _
    have hmemr : r ∈ m.rows := by rw [hr]; exact List.getElem_mem _
    have okt := hok t hmem
    have nt := hm.site t hmem
    obtain ⟨hrl, hrn⟩ := hm.row r hmemr
    have hb16 := hm.base16
    have hg : ∀ h : i < m.sites.length, m.sites[i] = t := fun h => ht
    have hg2 : ∀ h : i < m.rows.length, m.rows[i] = r := fun h => hr.symm
    have e1 : (i : Int) < m.sites.length := by omega
    have e1r : (i : Int) < m.rows.length := by omega
    have A6 := ar_succ i (by have := hm.sites; omega)
    have q1 := Si.len okt
    have q3 := Si.strip (s := t)
    have q5 := Si.take okt
    have qu := fun n => Si.under (s := t) n
    have qo := Si.one (s := t)
    have qs := h11 t okt
    have c0 := Si.c0 (s := t)
    have c1 := Si.c1 (s := t)
    have c10 := Si.c10 okt
    have k1 := nt.kind; have k2 := nt.part; have k3 := nt.deep
    obtain ⟨kd, hkd⟩ := Int.eq_ofNat_of_zero_le k1.1
    obtain ⟨pt, hpt⟩ := Int.eq_ofNat_of_zero_le k2.1
    obtain ⟨dp, hdp⟩ := Int.eq_ofNat_of_zero_le (show 0 ≤ t.deep by omega)
    rw [hkd] at c0
    rw [hpt] at c1
    rw [hdp] at c10
    have gx : ∀ {j : Nat} {v : V}, t.cells[j]? = some v → ∀ h : j < t.cells.length, t.cells[j] = v := fun hj h => by rw [List.getElem?_eq_getElem h] at hj; exact Option.some.inj hj
    have c0g := gx c0
    have c1g := gx c1
    have c10g := gx c10
    obtain ⟨ws, hws⟩ : ∃ ws, ws = (t.way.take dp).map Int.toNat := ⟨_, rfl⟩
    have hwl : ws.length = dp := by have : t.way.length = 8 := okt; rw [hws]; simp; omega
    have hwa : ∀ (j n : Nat), ws[j]? = some n → t.cells[2 + j]? = some (.int .i64 n) := by
      intro j n hj
      rw [hws, List.getElem?_map, Option.map_eq_some_iff] at hj
      obtain ⟨w, hw, rfl⟩ := hj
      rw [List.getElem?_take] at hw
      split at hw
      · have := nt.way w (List.mem_of_getElem? hw)
        rw [Si.cw hw]
        congr 2; omega
      · cases hw
    have hwsm : ∀ n ∈ ws, n < 2 ^ 63 := by
      intro n hn
      rw [hws, List.mem_map] at hn
      obtain ⟨w, hw, rfl⟩ := hn
      have := nt.way w (List.mem_of_mem_take hw)
      omega
    have hsn : numsB (siteNs t) = uintB kd ++ (uintB pt ++ (uintB dp ++ numsB ws)) := by rw [siteNs, hkd, hpt, hdp, hws]; rfl
    have l1 := uintB_ten (n := kd) (by omega)
    have l2 := uintB_ten (n := pt) (by omega)
    have l3 := uintB_ten (n := dp) (by omega)
    have l4 := numsB_len ws (fun n hn => by have := hwsm n hn; omega)
    have l5 := numsB_len (cellsN r) (fun n hn => by have := cellsN_lt hrn n hn; omega)
    have l6 := cellsN_len r
    have p1 := refPut_eq b (by simp at hb; omega) kd (by omega) []
    have p2 := refPut_eq (b ++ uintB kd) (by simp at hb ⊢; omega) pt (by omega) []
    have p3 := refPut_eq (b ++ uintB kd ++ uintB pt) (by simp at hb ⊢; omega) dp (by omega) []
    simp only [List.append_assoc] at p2 p3
    have hKq := get_take hK hq0
    rw [hcell] at hKq
    have hql : q0 < K.length := by omega
    have hKg : ∀ h : q0 < K.length, K[q0] = some [.bool m.bad, .sl 6 (m.base.map Ce.cells), .sl 11 (m.sites.map Si.cells), .sl 1 (m.rows.map rowV)] := fun h => by rw [List.getElem?_eq_getElem h] at hKq; exact Option.some.inj hKq
    rw [l_flotsamref34_Encode_1, M_loop, ← l_flotsamref34_Encode_1]
    simp [-arith, b_flotsamref34_Encode_1, h1, h4, h5, e1, e1r, hil, hil2, hg, hg2, A6, q1, q3, q5, qu, qo, qs, c0g, c1g, c10g, get0, set0, p1, p2, p3, hql, hKg, lt_flotsamref34_put]
    obtain ⟨b3, hb3⟩ : ∃ b3, b3 = b ++ (uintB kd ++ (uintB pt ++ uintB dp)) := ⟨_, rfl⟩
    have hb3l : b3.length ≤ b.length + 30 := by rw [hb3]; simp; omega
    have hb4 : b3 ++ numsB ws = b ++ numsB (siteNs t) := by rw [hb3, hsn]; simp
    have pc := fun H => refCells_eq r (by omega) hrn H (b3 ++ numsB ws) (by simp at hb ⊢; omega)
    refine refWay_loop K.length t.cells ws (by omega) hwsm hwa (by rw [hwl]; exact c10) () (K ++ [some t.cells]) (get0 ..) (.ptr q0 0) (iv i) Q _ (b3 ++ numsB ws) (fun φ' g4 g1 g5 => ?_) ws 0 _ b3 rfl (by omega) (by simp at hb ⊢; omega) rfl ?_ ?_ ?_ ?_ ?_
    · have hKq2 : (K ++ [some t.cells])[q0]? = some (some [.bool m.bad, .sl 6 (m.base.map Ce.cells), .sl 11 (m.sites.map Si.cells), .sl 1 (m.rows.map rowV)]) := by rw [List.getElem?_append_left hql]; exact hKq
      simp [-arith, r_flotsamref34_Encode_0, r_flotsamref34_Encode_1, g4, g1, g5, hKq2, hql, hKg, e1r, hil2, hg2, rowV, pc, A6, lt_flotsamref34_cells]
      refine ih _ (i + 1) _ _ (b3 ++ (numsB ws ++ numsB (cellsN r))) hd2 rfl (by omega) (by simp at hb ⊢; omega) (take_more hK hn _) (by simp; omega) ?_ ?_ ?_ ?_
      · rw [← hB]
        have : b3 ++ (numsB ws ++ numsB (cellsN r)) = b ++ numsB (siteNs t) ++ numsB (cellsN r) := by rw [← List.append_assoc, hb4]
        rw [this]
        simp [rowsN, numsB_append]
      · simp [g1]
      · simp
      · simp
    all_goals simp [h1, h5, hb3]

theorem refEncode_eq (m : Mx) (hm : m.mid) (hok : ∀ s ∈ m.sites, s.ok) (hk : (∀ c ∈ m.base, 0 ≤ c.kept) ∧ ∀ r ∈ m.rows, ∀ c ∈ r, 0 ≤ c.kept) : eval tbl noExt n_flotsamref34_Encode [.agg m.cells] [] = some (encV m, []) := by
  have hcell : m.cells = [.bool m.bad, .sl 6 (m.base.map Ce.cells), .sl 11 (m.sites.map Si.cells), .sl 1 (m.rows.map rowV)] := rfl
  have hR := refRight_A m hm hok []
  unfold encV
  rw [eval_M rfl rfl t_flotsamref34_Encode rfl]
  rw [hcell] at hR
  cases hA : m.rightA with
  | false =>
    rw [hA] at hR
    simp [c_flotsamref34_Encode, hcell, hR, lt_flotsamref32_Right]
  | true =>
    rw [hA] at hR
    have nm := Mx.nat_of hA hk
    have h5 := nm.base16
    have h6 := nm.sites
    have p0 := refPut0_eq 0 (by omega) []
    have p1 := refPut0_eq 1 (by omega) []
    simp only [show ((1 : Nat) : Int) = 1 from rfl, show ((0 : Nat) : Int) = 0 from rfl] at p0 p1
    have hlenE := encB_len nm hok
    obtain ⟨b2, hb2⟩ : ∃ b2, b2 = uintB (if m.bad then 1 else 0) ++ uintB m.base.length := ⟨_, rfl⟩
    obtain ⟨b3, hb3⟩ : ∃ b3, b3 = b2 ++ numsB (cellsN m.base) := ⟨_, rfl⟩
    obtain ⟨b4, hb4⟩ : ∃ b4, b4 = b3 ++ uintB m.sites.length := ⟨_, rfl⟩
    have hall : b4 ++ numsB (rowsN m.sites m.rows) = encB m := by
      rw [hb4, hb3, hb2]
      simp [encB, matN, numsB_cons, numsB_append]
    have hlen4 : b4.length ≤ 600000 := by rw [← hall] at hlenE; simp at hlenE; omega
    have hlen3 : b3.length ≤ 600000 := by rw [hb4] at hlen4; simp at hlen4; omega
    have hlen2 : b2.length ≤ 600000 := by rw [hb3] at hlen3; simp at hlen3; omega
    have p2 := refPut_eq (uintB (if m.bad then 1 else 0)) (by rw [hb2] at hlen2; simp at hlen2; omega) m.base.length (by omega) []
    have p3 := refCells_eq m.base (by omega) nm.base [some m.cells] b2 (by omega)
    have p4 := refPut_eq b3 (by omega) m.sites.length (by omega) []
    rw [← hb2] at p2
    rw [← hb3] at p3
    rw [← hb4] at p4
    rw [hcell] at p3
    have hfin : ∀ φ' K', K'.take (0 + 1) = [some m.cells] → 0 + 1 ≤ K'.length → Fr.get φ' 4 = .own 1 (bytesRows (encB m)) → M (eval tbl noExt) [.code r_flotsamref34_Encode_3, .fin [.t 2, .t 3] 0] φ' K' = some (.tup [.sl 1 (bytesRows (encS m)), .bool true], []) := by
      intro φ' K' hK hn h4
      have hS := refSum34_eq (encB m) (by omega) []
      rw [← sumN_eq] at hS
      simp [r_flotsamref34_Encode_3, h4, hS, lt_flotsamref34_Sum]
      refine refSeal_loop (sumN (encB m)) K' _ _ (encS m) (by simp [encS, sealS_len]; omega) (fun φ' g4 => ?_) 8 0 _ (encB m) rfl rfl ?_ ?_ ?_
      · simp [r_flotsamref34_Encode_2, g4]
      all_goals simp [h4]
    cases hB : m.bad with
    | true =>
      rw [hB, if_pos rfl] at p2
      rw [hB] at hR p3
      simp [c_flotsamref34_Encode, hcell, hB, hR, p0, p1, p2, p3, p4, lt_flotsamref32_Right, lt_flotsamref34_put, lt_flotsamref34_cells]
      refine refEnc_loop m nm hok [some m.cells] 0 rfl (fun r => r = some (.tup [.sl 1 (bytesRows (encS m)), .bool true], [])) _ (encB m) (fun φ' K' g1 g2 g3 => hfin φ' K' g1 g2 g3) m.sites m.rows 0 _ _ b4 rfl rfl (by omega) (by omega) (by rw [hcell, hB]; rfl) (by simp) hall ?_ ?_ ?_ <;> simp
    | false =>
      rw [hB, if_neg (by simp)] at p2
      rw [hB] at hR p3
      simp [c_flotsamref34_Encode, hcell, hB, hR, p0, p1, p2, p3, p4, lt_flotsamref32_Right, lt_flotsamref34_put, lt_flotsamref34_cells]
      refine refEnc_loop m nm hok [some m.cells] 0 rfl (fun r => r = some (.tup [.sl 1 (bytesRows (encS m)), .bool true], [])) _ (encB m) (fun φ' K' g1 g2 g3 => hfin φ' K' g1 g2 g3) m.sites m.rows 0 _ _ b4 rfl rfl (by omega) (by omega) (by rw [hcell, hB]; rfl) (by simp) hall ?_ ?_ ?_ <;> simp

end Go.AM.Spec
