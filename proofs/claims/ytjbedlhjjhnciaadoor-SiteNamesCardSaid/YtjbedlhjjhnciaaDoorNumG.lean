/-
  What the document's Read and Digits answer, and the law NumTexts: true for all numbers and texts.
-/
import Derived.Test.YtjbedlhjjhnciaaDoorNumE
namespace Go.AM.Spec
set_option linter.unusedVariables false
set_option linter.unusedSimpArgs false
set_option maxHeartbeats 400000
variable (H : Heap)


theorem digs_one {u : Nat} (h : u < 10) : digs 19 u [] = [dig u] := by
  unfold digs
  rw [if_pos (by omega)]

theorem digs_snoc {u : Nat} (h : 10 ≤ u) (h2 : u < 10 ^ 19) : digs 19 u [] = digs 19 (u / 10) [] ++ [dig u] := by
  have e : (10 : Nat) ^ 19 = 10 * 10 ^ 18 := by decide
  obtain ⟨s, hg, hl, hv, hh⟩ := good_of 17 (u / 10) (by omega)
  have hd := dig_toNat u
  have hhd : (s ++ [dig u]).head? = s.head? := by
    cases s with
    | nil => exact (hg.1 rfl).elim
    | cons x s => rfl
  have hg2 : Good (s ++ [dig u]) := by
    refine ⟨by simp, fun c hc => ?_, fun h' => ?_⟩
    · rcases List.mem_append.1 hc with hc | hc
      · exact hg.2.1 c hc
      · simp at hc; subst hc; unfold isDigit; omega
    · rw [hhd] at h'; exact (hh (by omega) h').elim
  have hv2 : valN 0 (s ++ [dig u]) = u := by rw [valN_append s (dig u) 0, hv]; omega
  have h3 := digs_good 19 (s ++ [dig u]) [] hg2 (by simp; omega)
  have h4 := digs_good 19 s [] hg (by omega)
  rw [hv2, List.append_nil] at h3
  rw [hv, List.append_nil] at h4
  rw [h3, h4]

theorem rowsBytes_one (c : UInt8) : rowsBytes [[.int .u8 (c.toNat : Int)]] = some [c] := by
  have := byte_lt c
  unfold rowsBytes
  rw [if_pos (by omega)]
  simp [rowsBytes]

theorem text_length (n : Int) : (text n).length ≤ 20 := by
  unfold text
  split
  · have := digs_length 19 (-n).toNat []
    simp at this ⊢; omega
  · have := digs_length 19 n.toNat []
    simp at this ⊢; omega

theorem w8 (u : Nat) {x : Int} (h : x = 48 + ((u % 10 : Nat) : Int)) : IntKind.u8.wrap (IntKind.i64.wrap x) = ((dig u).toNat : Int) := by
  have := dig_toNat u
  rw [w64 (by omega) (by omega), IntKind.wrap_u8]; omega

theorem refDigits_eq : ∀ (k : Nat) (n : Int) (H : Heap), n.natAbs ≤ k → -9223372036854775808 ≤ n → n ≤ 9223372036854775807 → eval tbl noExt n_flotsamref01_Digits [.int .i64 n] H = some (.str (text n), H) := by
  intro k
  induction k using Nat.strongRecOn with
  | _ k ih =>
    intro n H hk h1 h2
    have e19 : (10 : Nat) ^ 19 = 10000000000000000000 := by decide
    have hlen := text_length (n.tdiv 10)
    rw [eval_M rfl rfl t_flotsamref01_Digits rfl]
    by_cases ha : n < 0
    · have hx : n.tdiv 10 = -(((-n).toNat / 10 : Nat) : Int) := by
        obtain ⟨m, rfl⟩ : ∃ m : Nat, n = -(m : Int) := ⟨n.natAbs, by omega⟩
        rw [Int.neg_tdiv, Int.tdiv_eq_ediv_of_nonneg (by omega)]; simp
      have hm : n.tmod 10 = -(((-n).toNat % 10 : Nat) : Int) := by
        obtain ⟨m, rfl⟩ : ∃ m : Nat, n = -(m : Int) := ⟨n.natAbs, by omega⟩
        rw [Int.neg_tmod, Int.tmod_eq_emod_of_nonneg (by omega)]; simp
      by_cases hb : -10 < n
      · have hw := w8 (-n).toNat (x := 48 - n) (by omega)
        have ht : text n = 45 :: [dig (-n).toNat] := by
          unfold text; rw [if_pos ha, digs_one (by omega)]
        simp [c_flotsamref01_Digits, ha, hb, hw, rowsBytes_one, ht, chunk, List.replicate]
      · have hw := w8 (-n).toNat (x := 48 - n.tmod 10) (by omega)
        have ht : text n = text (n.tdiv 10) ++ [dig (-n).toNat] := by
          unfold text
          rw [if_pos ha, if_pos (by rw [hx]; omega), digs_snoc (by omega) (by omega)]
          have : (-n.tdiv 10).toNat = (-n).toNat / 10 := by rw [hx]; omega
          rw [this]; rfl
        have hr := ih (n.tdiv 10).natAbs (by rw [hx]; omega) (n.tdiv 10) [] (Nat.le_refl _) (by rw [hx]; omega) (by rw [hx]; omega)
        have hq : IntKind.i64.wrap (n.tdiv 10) = n.tdiv 10 := w64 (by rw [hx]; omega) (by rw [hx]; omega)
        have hl : (text (n.tdiv 10)).length + 1 < 4611686018427387904 := by omega
        simp [c_flotsamref01_Digits, ha, hb, hw, rowsBytes_one, ht, chunk, List.replicate, hr, hq, hl]
    · have hc : -10 < n := by omega
      have hx : n.tdiv 10 = ((n.toNat / 10 : Nat) : Int) := by rw [Int.tdiv_eq_ediv_of_nonneg (by omega)]; omega
      have hm : n.tmod 10 = ((n.toNat % 10 : Nat) : Int) := by rw [Int.tmod_eq_emod_of_nonneg (by omega)]; omega
      by_cases hb : 9 < n
      · have hw := w8 n.toNat (x := 48 + n.tmod 10) (by omega)
        have ht : text n = text (n.tdiv 10) ++ [dig n.toNat] := by
          unfold text
          rw [if_neg ha, if_neg (by rw [hx]; omega), digs_snoc (by omega) (by omega)]
          have : (n.tdiv 10).toNat = n.toNat / 10 := by rw [hx]; omega
          rw [this]
        have hr := ih (n.tdiv 10).natAbs (by rw [hx]; omega) (n.tdiv 10) [] (Nat.le_refl _) (by rw [hx]; omega) (by rw [hx]; omega)
        have hq : IntKind.i64.wrap (n.tdiv 10) = n.tdiv 10 := w64 (by rw [hx]; omega) (by rw [hx]; omega)
        have hl : (text (n.tdiv 10)).length + 1 < 4611686018427387904 := by omega
        simp [c_flotsamref01_Digits, ha, hb, hc, hw, rowsBytes_one, ht, chunk, List.replicate, hr, hq, hl]
      · have hw := w8 n.toNat (x := 48 + n) (by omega)
        have ht : text n = [dig n.toNat] := by
          unfold text; rw [if_neg ha, digs_one (by omega)]
        simp [c_flotsamref01_Digits, ha, hb, hc, hw, rowsBytes_one, ht, chunk, List.replicate]

theorem refRead_loop (call : CallF) (R : Option (V × Heap)) (s : List UInt8) (hs : s.length < 100000) (k : List Item) (X : Option Int)
    (hsome : ∀ v φ', X = some v → Fr.get φ' 4 = .int .i64 v → M call k φ' H = R) (hnone : ∀ φ', X = none → Fr.get φ' 2 = .int .i64 0 → Fr.get φ' 3 = .bool false → retK k φ' H = R) :
    ∀ (j i : Nat) (n : Int) (φ : Fr), i + j = s.length → val n (s.drop i) = X → Fr.get φ 0 = .str s → Fr.get φ 4 = .int .i64 n → Fr.get φ 5 = .int .i64 i →
    M call (.code l_flotsamref01_Read_0 :: .blk 0 :: k) φ H = R := by
  intro j
  induction j with
  | zero =>
    intro i n φ hj hv h0 h4 h5
    have hi : ¬ ((i : Int) < s.length) := by omega
    rw [List.drop_eq_nil_of_le (by omega)] at hv
    rw [l_flotsamref01_Read_0, M_loop]
    simp [b_flotsamref01_Read_0, h0, h4, h5, hi]
    exact hsome n _ hv.symm (by simp)
  | succ j ih =>
    intro i n φ hj hv h0 h4 h5
    have hi : (i : Int) < s.length := by omega
    have hi' : i < s.length := by omega
    rw [List.drop_eq_getElem_cons hi'] at hv
    have hb := byte_lt s[i]
    have hg : s[i]? = some s[i] := List.getElem?_eq_getElem hi'
    have h3 : IntKind.i64.wrap ((i : Int) + 1) = (i + 1 : Nat) := by rw [w64] <;> omega
    rw [l_flotsamref01_Read_0, M_loop, ← l_flotsamref01_Read_0]
    unfold val at hv
    by_cases hc : s[i].toNat < 48
    · have hc' : (s[i].toNat : Int) < 48 := by omega
      rw [if_pos (by omega)] at hv
      simp [b_flotsamref01_Read_0, h0, h4, h5, hi, hi', hg, h3, hc']
      refine hnone _ hv.symm ?_ ?_ <;> simp
    · have hc1' : ¬ (s[i].toNat : Int) < 48 := by omega
      by_cases hc2 : 57 < s[i].toNat
      · have hc2' : 57 < (s[i].toNat : Int) := by omega
        rw [if_pos (by omega)] at hv
        simp [b_flotsamref01_Read_0, h0, h4, h5, hi, hi', hg, h3, hc1', hc2']
        refine hnone _ hv.symm ?_ ?_ <;> simp
      · have hc2' : ¬ 57 < (s[i].toNat : Int) := by omega
        rw [if_neg (by omega)] at hv
        have h1 : IntKind.i64.wrap (IntKind.u8.wrap ((s[i].toNat : Int) - 48)) = s[i].toNat - 48 := by
          have : IntKind.u8.wrap ((s[i].toNat : Int) - 48) = s[i].toNat - 48 := by rw [IntKind.wrap_u8]; omega
          rw [this, w64] <;> omega
        simp [b_flotsamref01_Read_0, h0, h4, h5, hi, hi', hg, h1, h3, hc1', hc2']
        refine ih (i + 1) _ _ (by omega) hv ?_ ?_ ?_ <;> simp [Int.mul_comm]

theorem refRead_eq (s : List UInt8) : eval tbl noExt n_flotsamref01_Read [.str s] H = some (.tup [.int .i64 (readR s).1, .bool (readR s).2], H) := by
  rw [eval_M rfl rfl t_flotsamref01_Read rfl]
  unfold readR
  by_cases h0 : s = []
  · simp [c_flotsamref01_Read, h0]
  · have hp : 0 < s.length := by
      cases s with
      | nil => exact (h0 rfl).elim
      | cons c cs => simp
    have hp' : ¬ (s.length : Int) < 1 := by omega
    by_cases h1 : 13 < s.length
    · have h1' : (13 : Int) < s.length := by omega
      simp [c_flotsamref01_Read, h0, h1, h1', hp']
    · have h1' : ¬ (13 : Int) < s.length := by omega
      have hg : s[0]? = some s[0] := List.getElem?_eq_getElem hp
      have hl : ((s[0].toNat : Int) = 48) ↔ s[0] = 48 := by
        constructor
        · intro h
          apply UInt8.toNat_inj.1
          have : s[0].toNat = 48 := by omega
          rw [this]; rfl
        · intro h; rw [h]; rfl
      have last : ∀ φ k, k = [Item.code r_flotsamref01_Read_0, Item.fin [ARes.t 2, ARes.t 3] (List.length H)] → Fr.get φ 0 = .str s → Fr.get φ 4 = .int .i64 0 → Fr.get φ 5 = .int .i64 0 →
        M (eval tbl noExt) (.code l_flotsamref01_Read_0 :: .blk 0 :: k) φ H = some (.tup [.int .i64 (match val 0 s with
          | none => (0, false)
          | some v => if 1000000000000 < v then (0, false) else (v, true)).1, .bool (match val 0 s with
          | none => (0, false)
          | some v => if 1000000000000 < v then (0, false) else (v, true)).2], H) := by
        intro φ k hk h0 h4 h5
        refine refRead_loop H _ _ s (by omega) _ (val 0 s) ?_ ?_ s.length 0 0 _ (by omega) rfl h0 h4 h5
        · intro v φ' hv h4
          rw [hk, hv]
          by_cases hm : 1000000000000 < v <;> simp [r_flotsamref01_Read_0, h4, hm]
        · intro φ' hv h2 h3
          rw [hk, hv]
          simp [h2, h3]
      by_cases h4 : 1 < s.length
      · have h4' : (1 : Int) < s.length := by omega
        have h5 : ¬ s = [48] := by rintro rfl; simp at h4
        by_cases h2 : s[0] = 48
        · simp [c_flotsamref01_Read, h0, h1, h1', hp', h2, h4', h5, hp, hg, hl]
        · simp [c_flotsamref01_Read, h0, h1, h1', hp', h2, h4', h5, hp, hg, hl]
          refine last _ _ rfl ?_ ?_ ?_ <;> simp
      · have h4' : ¬ (1 : Int) < s.length := by omega
        have h5 : s[0] = 48 → s = [48] := by
          intro h
          cases s with
          | nil => simp at hp
          | cons c cs =>
            have : cs = [] := List.eq_nil_of_length_eq_zero (by simp only [List.length_cons] at h4; omega)
            subst this
            simp at h; rw [h]
        by_cases h2 : s[0] = 48
        · have h6 := h5 h2
          simp [c_flotsamref01_Read, h0, h1, h1', hp', h4', hg, hl, h6] at last ⊢
          refine last _ ?_ ?_ ?_ <;> simp
        · simp [c_flotsamref01_Read, h0, h1, h1', hp', h2, h4', hg, hl]
          refine last _ _ rfl ?_ ?_ ?_ <;> simp

end Go.AM.Spec
