/-
  What the law NumBack answers: true for all numbers and texts.
-/
import Derived.Test.YtddhdalacanngaaNumE
namespace Go.AM.Spec
set_option linter.unusedVariables false
set_option linter.unusedSimpArgs false
set_option maxHeartbeats 400000
variable (H : Heap)

theorem i64_wf {n : Int} (h : (Lit.int .i64 n).wf = true) : -9223372036854775808 ≤ n ∧ n ≤ 9223372036854775807 := by
  have := h
  simp [Lit.wf] at this
  have hm : IntKind.i64.min = -9223372036854775808 := by decide
  rw [hm] at this
  omega

theorem back_eq (n : Int) (a : ByteArray) (b : Int) (w0 : (Lit.int .i64 n).wf = true) (_ : a.size ≤ maxLen) (_ : (Lit.int .i64 b).wf = true) : eval tbl noExt n_flotsamlaw01_NumBack [.int .i64 n, .str a.data.toList, .int .i64 b] H = some (.bool true, H) := by
  rw [eval_M rfl t_flotsamlaw01_NumBack rfl]
  obtain ⟨s, hs⟩ : ∃ s, s = a.data.toList := ⟨_, rfl⟩
  rw [← hs]
  obtain ⟨n1, n2⟩ := i64_wf w0
  by_cases hl : 200 < s.length
  · have hl' : (200 : Int) < s.length := by omega
    simp [c_flotsamlaw01_NumBack, hl', knows_eq]
  · have hl' : ¬ (200 : Int) < s.length := by omega
    have c1 : clamp (clamp b + clamp n) = clamp (clamp n + clamp b) := by rw [Int.add_comm]
    have c2 : clamp 0 = 0 := by decide
    have hd := digits_eq H n n1 n2
    have hd2 := digits_eq H (readR s).1 (by have := read_small s; omega) (by have := read_small s; omega)
    have ht := read_text n n1 n2
    by_cases hr : (readR s).2 = true
    · have hx := text_read s hr
      by_cases h0 : 0 ≤ n
      · by_cases h1 : n ≤ 1000000000000
        · rw [if_pos ⟨h0, h1⟩] at ht
          simp [c_flotsamlaw01_NumBack, hl', knows_eq, hd, read_eq, ht, hr, hd2, hx, h0, h1, add_eq, sub_eq, c1, c2]
        · rw [if_neg (by omega)] at ht
          simp [c_flotsamlaw01_NumBack, hl', knows_eq, hd, read_eq, ht, hr, hd2, hx, h0, h1, add_eq, sub_eq, c1, c2]
      · rw [if_neg (by omega)] at ht
        simp [c_flotsamlaw01_NumBack, hl', knows_eq, hd, read_eq, ht, hr, hd2, hx, h0, add_eq, sub_eq, c1, c2]
    · have hr' : (readR s).2 = false := by simpa using hr
      by_cases h0 : 0 ≤ n
      · by_cases h1 : n ≤ 1000000000000
        · rw [if_pos ⟨h0, h1⟩] at ht
          simp [c_flotsamlaw01_NumBack, hl', knows_eq, hd, read_eq, ht, hr', hd2, h0, h1, add_eq, sub_eq, c1, c2]
        · rw [if_neg (by omega)] at ht
          simp [c_flotsamlaw01_NumBack, hl', knows_eq, hd, read_eq, ht, hr', hd2, h0, h1, add_eq, sub_eq, c1, c2]
      · rw [if_neg (by omega)] at ht
        simp [c_flotsamlaw01_NumBack, hl', knows_eq, hd, read_eq, ht, hr', hd2, h0, add_eq, sub_eq, c1, c2]

end Go.AM.Spec
