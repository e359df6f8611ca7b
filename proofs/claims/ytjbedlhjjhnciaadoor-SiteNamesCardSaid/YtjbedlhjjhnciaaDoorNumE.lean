/-
  Reading a number's text gives the number, and the text of what is read is the text: plain facts of lists of digits.
-/
import Derived.Test.YtjbedlhjjhnciaaDoorNumC
namespace Go.AM.Spec
set_option linter.unusedVariables false
set_option linter.unusedSimpArgs false

def stepN (n : Nat) (c : UInt8) : Nat := n * 10 + (c.toNat - 48)

def valN (n : Nat) (s : List UInt8) : Nat := s.foldl stepN n

theorem valN_nil (n : Nat) : valN n [] = n := rfl

theorem valN_cons (n : Nat) (c : UInt8) (cs : List UInt8) : valN n (c :: cs) = valN (n * 10 + (c.toNat - 48)) cs := by
  have : n * 10 + (c.toNat - 48) = stepN n c := by rw [stepN]
  rw [this]; rfl

def isDigit (c : UInt8) : Prop := 48 ≤ c.toNat ∧ c.toNat ≤ 57

/-- Digits without a zero in front. -/
def Good (s : List UInt8) : Prop := s ≠ [] ∧ (∀ c ∈ s, isDigit c) ∧ (s.head? = some 48 → s = [48])

theorem valN_append (s : List UInt8) (c : UInt8) (n : Nat) : valN n (s ++ [c]) = valN n s * 10 + (c.toNat - 48) := by
  have : ∀ m, m * 10 + (c.toNat - 48) = stepN m c := fun m => by rw [stepN]
  rw [this]
  simp [valN]

theorem valN_ge (n : Nat) (s : List UInt8) : n * 10 ^ s.length ≤ valN n s := by
  induction s generalizing n with
  | nil => simp [valN_cons, valN_nil]
  | cons x s ih =>
    have := ih (n * 10 + (x.toNat - 48))
    rw [valN_cons]
    refine Nat.le_trans ?_ this
    rw [List.length_cons, Nat.pow_succ, Nat.mul_comm (10 ^ s.length) 10, ← Nat.mul_assoc]
    exact Nat.mul_le_mul_right _ (Nat.le_add_right _ _)

theorem valN_lt (n : Nat) (s : List UInt8) (h : ∀ c ∈ s, isDigit c) : valN n s < (n + 1) * 10 ^ s.length := by
  induction s generalizing n with
  | nil => simp [valN_cons, valN_nil]
  | cons x s ih =>
    have h1 := ih (n * 10 + (x.toNat - 48)) (fun c hc => h c (by simp [hc]))
    have h2 := h x (by simp)
    rw [valN_cons]
    refine Nat.lt_of_lt_of_le h1 ?_
    rw [List.length_cons, Nat.pow_succ, Nat.mul_comm (10 ^ s.length) 10, ← Nat.mul_assoc]
    refine Nat.mul_le_mul_right _ ?_
    unfold isDigit at h2
    omega

theorem val_some (n : Nat) (s : List UInt8) (h : ∀ c ∈ s, isDigit c) (a : Nat) (hn : n < 10 ^ a) (ha : a + s.length ≤ 18) : val n s = some (valN n s : Int) := by
  induction s generalizing n a with
  | nil => rfl
  | cons c s ih =>
    have hc := h c (by simp)
    unfold isDigit at hc
    rw [valN_cons]
    unfold val
    rw [if_neg (by omega)]
    simp only [List.length_cons] at ha
    have h18 : 10 ^ (a + 1) ≤ 10 ^ 18 := Nat.pow_le_pow_right (by omega) (by omega)
    have hp : 10 ^ (a + 1) = 10 * 10 ^ a := by rw [Nat.pow_succ, Nat.mul_comm]
    have e : (10 : Nat) ^ 18 = 1000000000000000000 := by decide
    rw [w64 (n := (n : Int) * 10) (by omega) (by omega), w64 (n := (n : Int) * 10 + ((c.toNat : Int) - 48)) (by omega) (by omega)]
    have e2 : (n : Int) * 10 + ((c.toNat : Int) - 48) = ((n * 10 + (c.toNat - 48) : Nat) : Int) := by omega
    rw [e2]
    exact ih (n * 10 + (c.toNat - 48)) (fun c hc => h c (by simp [hc])) (a + 1) (by omega) (by omega)

theorem val_digits (n : Int) (s : List UInt8) {v : Int} (h : val n s = some v) : ∀ c ∈ s, isDigit c := by
  induction s generalizing n with
  | nil => intro c hc; cases hc
  | cons x s ih =>
    unfold val at h
    split at h
    · cases h
    · intro c hc
      rcases List.mem_cons.1 hc with rfl | hc
      · unfold isDigit; omega
      · exact ih _ h c hc

theorem dig_toNat (u : Nat) : (dig u).toNat = 48 + u % 10 := by unfold dig; rw [UInt8.toNat_ofNat']; omega

theorem dig_of (v : Nat) (c : UInt8) (hc : isDigit c) : dig (v * 10 + (c.toNat - 48)) = c := by
  unfold isDigit at hc
  apply UInt8.toNat_inj.1
  rw [dig_toNat]; omega

theorem good_pos {s : List UInt8} (h : Good s) (hl : 1 < s.length) : 0 < valN 0 s := by
  obtain ⟨h1, h2, h3⟩ := h
  cases s with
  | nil => exact (h1 rfl).elim
  | cons c s =>
    have hc := h2 c (by simp)
    unfold isDigit at hc
    have hne : c.toNat ≠ 48 := by
      intro he
      have : c = 48 := UInt8.toNat_inj.1 he
      have := h3 (by simp [this])
      simp at this
      simp [this.2] at hl
    rw [valN_cons]
    have := valN_ge (0 * 10 + (c.toNat - 48)) s
    have hp : 0 < 10 ^ s.length := Nat.pow_pos (by omega)
    have : 1 * 10 ^ s.length ≤ (0 * 10 + (c.toNat - 48)) * 10 ^ s.length := Nat.mul_le_mul_right _ (by omega)
    omega

theorem good_ge {s : List UInt8} (h : Good s) (hl : 1 < s.length) : 10 ^ (s.length - 1) ≤ valN 0 s := by
  obtain ⟨h1, h2, h3⟩ := h
  cases s with
  | nil => exact (h1 rfl).elim
  | cons c s =>
    have hc := h2 c (by simp)
    unfold isDigit at hc
    have hne : c.toNat ≠ 48 := by
      intro he
      have : c = 48 := UInt8.toNat_inj.1 he
      have := h3 (by simp [this])
      simp at this
      simp [this.2] at hl
    rw [valN_cons]
    have := valN_ge (0 * 10 + (c.toNat - 48)) s
    have : 1 * 10 ^ s.length ≤ (0 * 10 + (c.toNat - 48)) * 10 ^ s.length := Nat.mul_le_mul_right _ (by omega)
    simp only [List.length_cons, Nat.add_sub_cancel]
    omega

theorem good_init {s : List UInt8} {c : UInt8} (h : Good (s ++ [c])) (hs : s ≠ []) : Good s := by
  obtain ⟨h1, h2, h3⟩ := h
  refine ⟨hs, fun x hx => h2 x (by simp [hx]), fun he => ?_⟩
  cases s with
  | nil => exact (hs rfl).elim
  | cons x s =>
    have := h3 (by simpa using he)
    simp at this

theorem digs_good (k : Nat) : ∀ (s acc : List UInt8), Good s → s.length ≤ k → digs k (valN 0 s) acc = s ++ acc := by
  induction k with
  | zero =>
    intro s acc h hl
    have : s = [] := List.eq_nil_of_length_eq_zero (by omega)
    exact (h.1 this).elim
  | succ k ih =>
    intro s acc h hl
    obtain ⟨t, c, rfl⟩ : ∃ t c, s = t ++ [c] := ⟨s.dropLast, s.getLast h.1, (List.dropLast_concat_getLast h.1).symm⟩
    have hc := h.2.1 c (by simp)
    rw [valN_append t c 0]
    unfold digs
    rw [dig_of _ _ hc]
    unfold isDigit at hc
    by_cases ht : t = []
    · subst ht
      rw [if_pos (by simp [valN_cons, valN_nil]; omega)]
      simp
    · have hg := good_init h ht
      have hq : (valN 0 t * 10 + (c.toNat - 48)) / 10 = valN 0 t := by omega
      have hp : 0 < valN 0 t := by
        by_cases h1 : 1 < t.length
        · exact good_pos hg h1
        · cases t with
          | nil => exact (ht rfl).elim
          | cons x t =>
            have : t = [] := by
              apply List.eq_nil_of_length_eq_zero
              simp only [List.length_cons] at h1; omega
            subst this
            have hx := h.2.1 x (by simp)
            unfold isDigit at hx
            have hne : x.toNat ≠ 48 := by
              intro he
              have hx' : x = 48 := UInt8.toNat_inj.1 he
              have := h.2.2 (by simp [hx'])
              simp at this
            simp [valN_cons, valN_nil]; omega
      rw [hq, if_neg (by omega), ih t (c :: acc) hg (by simp at hl; omega)]
      simp

theorem good_of (k : Nat) : ∀ u, u < 10 ^ (k + 1) → ∃ s, Good s ∧ s.length ≤ k + 1 ∧ valN 0 s = u ∧ (0 < u → s.head? ≠ some 48) := by
  induction k with
  | zero =>
    intro u hu
    have hd := dig_toNat u
    refine ⟨[dig u], ⟨by simp, fun c hc => ?_, fun h => by simpa using h⟩, by simp, by simp [valN_cons, valN_nil]; omega, fun hp he => ?_⟩
    · simp at hc; subst hc; unfold isDigit; omega
    · simp at he
      rw [he] at hd
      have : (48 : UInt8).toNat = 48 := rfl
      omega
  | succ k ih =>
    intro u hu
    by_cases h10 : u < 10
    · obtain ⟨s, h1, h2, h3⟩ := ih u (Nat.lt_of_lt_of_le h10 (by
        have : 10 ^ 1 ≤ 10 ^ (k + 1) := Nat.pow_le_pow_right (by omega) (by omega)
        simpa using this))
      exact ⟨s, h1, by omega, h3⟩
    · have hp : 10 ^ (k + 1 + 1) = 10 * 10 ^ (k + 1) := by rw [Nat.pow_succ, Nat.mul_comm]
      obtain ⟨s, h1, h2, h3, h4⟩ := ih (u / 10) (by omega)
      have hd := dig_toNat u
      have hh := h4 (by omega)
      have hhd : (s ++ [dig u]).head? = s.head? := by
        cases s with
        | nil => exact (h1.1 rfl).elim
        | cons x s => rfl
      refine ⟨s ++ [dig u], ⟨by simp, fun c hc => ?_, fun h => ?_⟩, by simp; omega, by rw [valN_append s (dig u) 0, h3]; omega, fun _ => by rw [hhd]; exact hh⟩
      · rcases List.mem_append.1 hc with hc | hc
        · exact h1.2.1 c hc
        · simp at hc; subst hc; unfold isDigit; omega
      · rw [hhd] at h; exact (hh h).elim

theorem read_good {s : List UInt8} (h : Good s) : readR s = if 1000000000000 < valN 0 s then (0, false) else ((valN 0 s : Int), true) := by
  unfold readR
  by_cases hl : 13 < s.length
  · have := good_ge h (by omega)
    have h2 : 10 ^ 13 ≤ 10 ^ (s.length - 1) := Nat.pow_le_pow_right (by omega) (by omega)
    have e : (10 : Nat) ^ 13 = 10000000000000 := by decide
    rw [if_pos (Or.inr (Or.inl hl)), if_pos (by omega)]
  · rw [if_neg]
    · have hv := val_some 0 s h.2.1 0 (by simp) (by omega)
      have hv' : val 0 s = some (valN 0 s : Int) := hv
      rw [hv']
      dsimp only
      by_cases hb : 1000000000000 < valN 0 s
      · rw [if_pos hb, if_pos (by omega)]
      · rw [if_neg hb, if_neg (by omega)]
    · rintro (h1 | h1 | ⟨h1, h2⟩)
      · exact h.1 h1
      · exact hl h1
      · exact h2 (h.2.2 (by rw [List.head?_eq_getElem?]; exact h1))

theorem read_text (n : Int) (h1 : -9223372036854775808 ≤ n) (h2 : n ≤ 9223372036854775807) : readR (text n) = if 0 ≤ n ∧ n ≤ 1000000000000 then (n, true) else (0, false) := by
  unfold text
  have e : (10 : Nat) ^ 19 = 10000000000000000000 := by decide
  by_cases hn : n < 0
  · rw [if_pos hn, if_neg (by omega)]
    unfold readR
    split
    · rfl
    · unfold val
      rw [if_pos (by decide)]
  · rw [if_neg hn]
    obtain ⟨s, hg, hl, hv, _⟩ := good_of 18 n.toNat (by omega)
    rw [← hv, digs_good 19 s [] hg (by omega), List.append_nil, read_good hg]
    by_cases hb : 1000000000000 < valN 0 s
    · rw [if_pos hb, if_neg (by omega)]
    · rw [if_neg hb, if_pos (by omega)]
      have : (valN 0 s : Int) = n := by omega
      rw [this]

theorem text_read (s : List UInt8) (h : (readR s).2 = true) : text (readR s).1 = s := by
  have hg : Good s := by
    unfold readR at h
    split at h
    · cases h
    · rename_i hc
      split at h
      · cases h
      · rename_i v hv
        refine ⟨fun he => hc (Or.inl he), val_digits 0 s hv, fun hh => ?_⟩
        apply Classical.byContradiction
        intro hne
        exact hc (Or.inr (Or.inr ⟨by rw [← List.head?_eq_getElem?]; exact hh, hne⟩))
  rw [read_good hg] at h ⊢
  split at h
  · cases h
  · rename_i hb
    rw [if_neg hb]
    have hlen : s.length ≤ 19 := by
      apply Classical.byContradiction
      intro hl
      have := good_ge hg (by omega)
      have h2 : 10 ^ 13 ≤ 10 ^ (s.length - 1) := Nat.pow_le_pow_right (by omega) (by omega)
      have e : (10 : Nat) ^ 13 = 10000000000000 := by decide
      omega
    unfold text
    rw [if_neg (by omega)]
    simp only [Int.toNat_natCast]
    rw [digs_good 19 s [] hg hlen, List.append_nil]

theorem read_small (s : List UInt8) : 0 ≤ (readR s).1 ∧ (readR s).1 ≤ 1000000000000 := by
  unfold readR
  split
  · simp
  · split
    · simp
    · rename_i v hv
      split
      · simp
      · rename_i hc hb
        have hd := val_digits 0 s hv
        have := val_some 0 s hd 0 (by simp) (by omega)
        have hv' : val 0 s = some (valN 0 s : Int) := this
        rw [hv'] at hv
        cases hv
        constructor <;> simp <;> omega

end Go.AM.Spec
