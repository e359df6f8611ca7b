/-
  What Read of both packages answers: the value of a text of digits.
-/
import Derived.Test.YtjbedlhjjhnciaaDoorSpc
namespace Go.AM.Spec
set_option linter.unusedVariables false
set_option linter.unusedSimpArgs false

/-- The value of a text behind n, as the code counts it. -/
def val (n : Int) : List UInt8 → Option Int
  | [] => some n
  | c :: cs => if c.toNat < 48 ∨ 57 < c.toNat then none else val (IntKind.i64.wrap (IntKind.i64.wrap (n * 10) + (c.toNat - 48))) cs

@[simp] theorem bytesRows_length (s : List UInt8) : (bytesRows s).length = s.length := by simp [bytesRows]
@[simp] theorem bytesRows_get (s : List UInt8) (i : Nat) : (bytesRows s)[i]? = (s[i]?).map fun b => [V.int .u8 b.toNat] := by simp [bytesRows]

@[simp] theorem bytesRows_getElem (s : List UInt8) (i : Nat) (h : i < (bytesRows s).length) : (bytesRows s)[i] = [V.int .u8 (s[i]'(by simpa using h)).toNat] := by simp [bytesRows]

set_option maxHeartbeats 400000
variable (H : Heap) (call : CallF) (R : Option (V × Heap))

theorem byte_lt (c : UInt8) : c.toNat < 256 := UInt8.toNat_lt c

theorem read_loop (s : List UInt8) (hs : s.length < 100000) (k : List Item)
    (X : Option Int) (hsome : ∀ v φ', X = some v → Fr.get φ' 4 = .int .i64 v → M call k φ' H = R) (hnone : ∀ φ', X = none → Fr.get φ' 2 = .int .i64 0 → Fr.get φ' 3 = .bool false → retK k φ' H = R) :
    ∀ (j i : Nat) (n : Int) (φ : Fr), i + j = s.length → val n (s.drop i) = X → Fr.get φ 4 = .int .i64 n → Fr.get φ 25 = .own 1 (bytesRows s) → Fr.get φ 26 = .int .i64 s.length → Fr.get φ 27 = .int .i64 i →
    M call (.code l_num_Read_0 :: .blk 0 :: k) φ H = R := by
  intro j
  induction j with
  | zero =>
    intro i n φ hj hv h4 h25 h26 h27
    have hi : ¬ ((i : Int) < s.length) := by omega
    rw [List.drop_eq_nil_of_le (by omega)] at hv
    rw [l_num_Read_0, M_loop]
    simp [b_num_Read_0, h4, h25, h26, h27, hi]
    exact hsome n _ hv.symm (by simp)
  | succ j ih =>
    intro i n φ hj hv h4 h25 h26 h27
    have hi : (i : Int) < s.length := by omega
    have hi' : i < s.length := by omega
    rw [List.drop_eq_getElem_cons hi'] at hv
    have hb := byte_lt s[i]
    have h1 : IntKind.i64.wrap (s[i].toNat : Int) = s[i].toNat := w64 (by omega) (by omega)
    have h2 : IntKind.i64.wrap ((s[i].toNat : Int) - 48) = s[i].toNat - 48 := w64 (by omega) (by omega)
    have h3 : IntKind.i64.wrap ((i : Int) + 1) = (i + 1 : Nat) := by rw [w64] <;> omega
    rw [l_num_Read_0, M_loop, ← l_num_Read_0]
    unfold val at hv
    by_cases hc : s[i].toNat < 48
    · have hc' : (s[i].toNat : Int) - 48 < 0 := by omega
      rw [if_pos (by omega)] at hv
      simp [b_num_Read_0, h4, h25, h26, h27, hi, hi', h1, h2, h3, hc']
      refine hnone _ hv.symm ?_ ?_ <;> simp
    · have hc1' : ¬ (s[i].toNat : Int) - 48 < 0 := by omega
      by_cases hc2 : 57 < s[i].toNat
      · have hc2' : 9 < (s[i].toNat : Int) - 48 := by omega
        rw [if_pos (by omega)] at hv
        simp [b_num_Read_0, h4, h25, h26, h27, hi, hi', h1, h2, h3, hc1', hc2']
        refine hnone _ hv.symm ?_ ?_ <;> simp
      · have hc2' : ¬ 9 < (s[i].toNat : Int) - 48 := by omega
        rw [if_neg (by omega)] at hv
        simp [b_num_Read_0, h4, h25, h26, h27, hi, hi', h1, h2, h3, hc1', hc2']
        refine ih (i + 1) _ _ (by omega) hv ?_ ?_ ?_ ?_ <;> simp

/-- What Read answers. -/
def readR (s : List UInt8) : Int × Bool :=
  if s = [] ∨ 13 < s.length ∨ s[0]? = some 48 ∧ s ≠ [48] then (0, false)
  else match val 0 s with
    | none => (0, false)
    | some v => if 1000000000000 < v then (0, false) else (v, true)

theorem read_eq (s : List UInt8) : eval tbl noExt n_num_Read [.str s] H = some (.tup [.int .i64 (readR s).1, .bool (readR s).2], H) := by
  rw [eval_M rfl rfl t_num_Read rfl]
  unfold readR
  by_cases h0 : s = []
  · simp [c_num_Read, h0]
  · by_cases h1 : 13 < s.length
    · have h1' : (13 : Int) < s.length := by omega
      simp [c_num_Read, h0, h1, h1']
    · have h1' : ¬ (13 : Int) < s.length := by omega
      have hp : 0 < s.length := by
        cases s with
        | nil => exact (h0 rfl).elim
        | cons c cs => simp
      have hg : s[0]? = some s[0] := List.getElem?_eq_getElem hp
      have hl : ((s[0].toNat : Int) = 48) ↔ s[0] = 48 := by
        constructor
        · intro h
          apply UInt8.toNat_inj.1
          have : s[0].toNat = 48 := by omega
          rw [this]; rfl
        · intro h; rw [h]; rfl
      have last : ∀ φ k, k = [Item.code r_num_Read_0, Item.fin [ARes.t 2, ARes.t 3] (List.length H)] → Fr.get φ 4 = .int .i64 0 → Fr.get φ 25 = .own 1 (bytesRows s) → Fr.get φ 26 = .int .i64 s.length → Fr.get φ 27 = .int .i64 0 → 
        M (eval tbl noExt) (.code l_num_Read_0 :: .blk 0 :: k) φ H = some (.tup [.int .i64 (match val 0 s with
          | none => (0, false)
          | some v => if 1000000000000 < v then (0, false) else (v, true)).1, .bool (match val 0 s with
          | none => (0, false)
          | some v => if 1000000000000 < v then (0, false) else (v, true)).2], H) := by
        intro φ k hk h4 h25 h26 h27
        refine read_loop H _ _ s (by omega) _ (val 0 s) ?_ ?_ s.length 0 0 _ (by omega) rfl h4 h25 h26 h27
        · intro v φ' hv h4
          rw [hk, hv]
          by_cases hm : 1000000000000 < v <;> simp [r_num_Read_0, h4, hm]
        · intro φ' hv h2 h3
          rw [hk, hv]
          simp [h2, h3]
      by_cases h2 : s[0] = 48
      · by_cases h3 : s = [48]
        · subst h3
          simp [c_num_Read]
          refine last _ _ rfl ?_ ?_ ?_ ?_ <;> simp
        · simp [c_num_Read, h0, h1, h1', h2, h3, hp, hg, hl]
      · simp [c_num_Read, h0, h1, h1', h2, hp, hg, hl]
        refine last _ _ rfl ?_ ?_ ?_ ?_ <;> simp

end Go.AM.Spec
