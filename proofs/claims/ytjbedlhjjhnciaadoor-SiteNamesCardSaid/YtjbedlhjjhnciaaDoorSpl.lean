/-
  Texts cut at a byte, and joined again: plain facts.
-/
import Derived.Test.YtjbedlhjjhnciaaDoorSpc
namespace Go.AM.Spec
set_option linter.unusedVariables false
set_option linter.unusedSimpArgs false

variable {c : UInt8}

theorem spl_same (c : UInt8) (l : List UInt8) : splitOn c (c :: l) = [] :: splitOn c l := by rw [splitOn, if_pos rfl]
theorem spl_ne (c : UInt8) : ∀ s : List UInt8, splitOn c s ≠ []
  | [] => by simp [splitOn]
  | b :: l => by
    rw [splitOn]
    split
    · simp
    · split <;> simp
theorem spl_other {b : UInt8} (h : b ≠ c) (l : List UInt8) {w : List UInt8} {ws : List (List UInt8)} (hl : splitOn c l = w :: ws) : splitOn c (b :: l) = (b :: w) :: ws := by rw [splitOn, if_neg h, hl]
theorem spl_none : ∀ (w : List UInt8), c ∉ w → splitOn c w = [w]
  | [], _ => rfl
  | b :: l, h => by
    have hb : b ≠ c := fun e => h (by simp [e])
    exact spl_other hb l (spl_none l (fun e => h (by simp [e])))
theorem spl_app : ∀ (w r : List UInt8), c ∉ w → splitOn c (w ++ c :: r) = w :: splitOn c r
  | [], r, _ => spl_same c r
  | b :: l, r, h => by
    have hb : b ≠ c := fun e => h (by simp [e])
    exact spl_other hb _ (spl_app l r (fun e => h (by simp [e])))
theorem spl_len : ∀ s : List UInt8, (splitOn c s).length ≤ s.length + 1
  | [] => by simp [splitOn]
  | b :: l => by
    have ih := spl_len l
    by_cases h : b = c
    · subst h; rw [spl_same]; simp; omega
    · cases hl : splitOn c l with
      | nil => exact absurd hl (spl_ne c l)
      | cons w ws => rw [spl_other h l hl]; rw [hl] at ih; simp at ih ⊢; omega
theorem spl_jn2 (x y : List UInt8) (r : List (List UInt8)) (p : List UInt8) : Go.Lib.join (x :: y :: r) p = x ++ (p ++ Go.Lib.join (y :: r) p) := by
  rw [Go.Lib.join_cons, Go.Lib.join_cons]
  simp [Go.Lib.joinTail]
theorem join_spl : ∀ s : List UInt8, Go.Lib.join (splitOn c s) [c] = s
  | [] => by simp [splitOn, Go.Lib.join_one]
  | b :: l => by
    have ih := join_spl l
    by_cases h : b = c
    · subst h
      rw [spl_same]
      cases hs : splitOn b l with
      | nil => exact absurd hs (spl_ne b l)
      | cons w ws =>
        rw [hs] at ih
        rw [spl_jn2, ih]; rfl
    · cases hs : splitOn c l with
      | nil => exact absurd hs (spl_ne c l)
      | cons w ws =>
        rw [hs] at ih
        rw [spl_other h l hs]
        cases ws with
        | nil => rw [Go.Lib.join_one] at ih ⊢; rw [ih]
        | cons v vs => rw [spl_jn2] at ih ⊢; rw [List.cons_append, ih]

/-- Where a text is cut first, looked at from a place on. -/
theorem spl_step {s : List UInt8} {f i : Nat} (hf : f ≤ i) (hi : i < s.length) (hc : s[i] = c) (hn : c ∉ (s.drop f).take (i - f)) : splitOn c (s.drop f) = (s.take i).drop f :: splitOn c (s.drop (i + 1)) := by
  have e : s.drop f = (s.drop f).take (i - f) ++ c :: s.drop (i + 1) := by
    have h1 : (s.drop f).drop (i - f) = s.drop i := by rw [List.drop_drop]; congr 1; omega
    have h2 : s.drop i = c :: s.drop (i + 1) := by rw [List.drop_eq_getElem_cons hi, hc]
    rw [← h2, ← h1, List.take_append_drop]
  have h3 := spl_app ((s.drop f).take (i - f)) (s.drop (i + 1)) hn
  rw [← e] at h3
  rw [h3, List.drop_take]
theorem spl_last {s : List UInt8} {f : Nat} (hn : c ∉ s.drop f) : splitOn c (s.drop f) = [(s.take s.length).drop f] := by
  rw [spl_none _ hn, List.take_length]

end Go.AM.Spec
