/-
  Names and key words: what the program's scanner and the document's answer.
-/
import Derived.Test.YtjikegkjngamgaaDoorSpc
import Derived.Lib.IndexLaws
namespace Go.AM.Spec
set_option linter.unusedVariables false
set_option linter.unusedSimpArgs false
set_option maxHeartbeats 1000000
set_option maxRecDepth 10000

def keyText : List UInt8 := [32, 112, 114, 111, 99, 32, 109, 97, 105, 110, 32, 114, 101, 99, 111, 118, 101, 114, 32, 111, 114, 97, 99, 108, 101, 32, 99, 114, 101, 97, 116, 101, 32, 109, 107, 100, 105, 114, 32, 119, 114, 105, 116, 101, 32, 97, 112, 112, 101, 110, 100, 32, 116, 114, 117, 110, 99, 97, 116, 101, 32, 114, 101, 110, 97, 109, 101, 32, 117, 110, 108, 105, 110, 107, 32, 102, 115, 121, 110, 99, 32, 102, 100, 97, 116, 97, 115, 121, 110, 99, 32, 115, 121, 110, 99, 100, 105, 114, 32, 98, 97, 114, 114, 105, 101, 114, 32, 108, 101, 116, 32, 105, 102, 32, 101, 108, 115, 101, 32, 114, 101, 112, 101, 97, 116, 32, 99, 97, 108, 108, 32, 116, 120, 110, 32, 99, 111, 109, 109, 105, 116, 32, 114, 101, 112, 108, 97, 121, 32, 97, 115, 115, 101, 114, 116, 32, 101, 120, 105, 115, 116, 115, 32, 115, 105, 122, 101, 32, 114, 101, 97, 100, 32, 110, 111, 116, 32, 97, 110, 100, 32, 111, 114, 32, 116, 114, 117, 101, 32, 102, 97, 108, 115, 101, 32]

/-- The words between the blanks. -/
def splitWords : List UInt8 → List UInt8 → List (List UInt8)
  | [], w => [w]
  | c :: l, w => if c = 32 then w :: splitWords l [] else splitWords l (w ++ [c])
def keyWords : List (List UInt8) := (splitWords keyText []).filter (· ≠ [])
def isKey (s : List UInt8) : Bool := keyWords.contains s
def isName (s : List UInt8) : Bool := (match s with | c :: _ => isLetter c | [] => false) && decide (s.length ≤ 8) && s.all isInner && !isKey s

theorem takeWhile_blank {s r : List UInt8} (h : 32 ∉ s) : (s ++ 32 :: r).takeWhile (· ≠ 32) = s := by
  induction s with
  | nil => simp
  | cons c l ih =>
    have hc : c ≠ 32 := fun e => h (by simp [e])
    have hl : 32 ∉ l := fun e => h (by simp [e])
    have := ih hl
    simp only [ne_eq, decide_not] at this
    simp [hc, this]

theorem key_words {s : List UInt8} (h0 : s ≠ []) (h : 32 ∉ s) : Go.Lib.contains keyText (32 :: (s ++ [32])) = isKey s := by
  have hmem : ∀ i : Nat, i < 200 → (keyText.drop i).head? = some 32 → (keyText.drop (i + 1)).takeWhile (· ≠ 32) = [] ∨ isKey ((keyText.drop (i + 1)).takeWhile (· ≠ 32)) = true := by decide +kernel
  have hall : ∀ w ∈ keyWords, Go.Lib.contains keyText (32 :: (w ++ [32])) = true := by decide +kernel
  cases hk : isKey s with
  | true => exact hall s (by simpa [isKey] using hk)
  | false =>
    rcases Go.Lib.index_spec keyText (32 :: (s ++ [32])) with ⟨h1, _⟩ | ⟨i, h1, h2, h3, _⟩
    · simp [Go.Lib.contains, h1]
    · exfalso
      have hlen : keyText.length < 200 := by decide +kernel
      unfold Go.Lib.occAt at h3
      rw [List.isPrefixOf_iff_prefix] at h3
      obtain ⟨r, hr⟩ := h3
      have e1 : keyText.drop (i + 1) = s ++ 32 :: r := by
        have : keyText.drop (i + 1) = (keyText.drop i).drop 1 := by rw [List.drop_drop]
        rw [this, ← hr]; simp
      have e2 : (keyText.drop i).head? = some 32 := by rw [← hr]; rfl
      have := hmem i (by omega) e2
      rw [e1, takeWhile_blank h, hk] at this
      rcases this with h | h
      · exact h0 h
      · cases h

theorem has_blank (s : List UInt8) : decide (0 ≤ Go.Lib.indexByte s 32) = s.contains 32 := by
  rw [← Go.Lib.index_one]
  rcases Go.Lib.index_spec s [32] with ⟨h1, h2⟩ | ⟨i, h1, h2, h3, _⟩
  · rw [h1]
    have : ¬ 32 ∈ s := by
      intro hm
      obtain ⟨i, hi⟩ := List.getElem?_of_mem hm
      have hlt := (List.getElem?_eq_some_iff.1 hi).1
      have := h2 i (by omega)
      unfold Go.Lib.occAt at this
      rw [List.drop_eq_getElem_cons hlt] at this
      rw [List.getElem?_eq_getElem hlt] at hi
      simp [List.isPrefixOf, Option.some.inj hi] at this
    simp [this]
  · rw [h1]
    have : 32 ∈ s := by
      unfold Go.Lib.occAt at h3
      rw [List.isPrefixOf_iff_prefix] at h3
      obtain ⟨r, hr⟩ := h3
      have : 32 ∈ s.drop i := by rw [← hr]; simp
      exact List.mem_of_mem_drop this
    simp [this]

theorem key_blank {s : List UInt8} (h : 32 ∈ s) : isKey s = false := by
  have hall : ∀ w ∈ keyWords, ¬ (32 : UInt8) ∈ w := by decide +kernel
  cases hk : isKey s with
  | false => rfl
  | true => exact absurd h (hall s (by simpa [isKey] using hk))

theorem xContains_more (s t : List UInt8) (hs : s.length < 4294967281) (ht : 2 ≤ t.length) (H : Heap) : xContains [.str s, .str t] H = some (.bool (Go.Lib.contains s t), H) := by
  match t, ht with
  | a :: b :: l, _ => simp [xContains, hs]

theorem Key_eq (s : List UInt8) (hs : s.length ≤ 1000000) (H : Heap) : eval tbl noExt n_lex_Key [.str s] H = some (.bool (isKey s), H) := by
  have hc1 : ∀ K, eval tbl noExt n_strings_Contains [.str s, .str [32]] K = some (.bool (s.contains 32), K) := by
    intro K
    rw [eval_X rfl rfl]
    simp only [xContains, has_blank]
  have hc2 : ∀ K, eval tbl noExt n_strings_Contains [.str keyText, .str (32 :: (s ++ [32]))] K = some (.bool (Go.Lib.contains keyText (32 :: (s ++ [32]))), K) := by
    intro K
    rw [eval_X rfl rfl]
    exact xContains_more _ _ (by decide +kernel) (by simp) _
  rw [eval_M rfl rfl t_lex_Key rfl]
  by_cases h0 : s = []
  · subst h0
    have : isKey [] = false := by decide +kernel
    simp [c_lex_Key, this]
  by_cases hb : 32 ∈ s
  · simp [c_lex_Key, h0, hc1, hb, lt_strings_Contains, key_blank hb]
  · rw [key_words h0 hb] at hc2
    simp only [keyText] at hc2
    have hl1 : 1 + s.length < 4611686018427387904 := by omega
    have hl2 : 1 + s.length + 1 < 4611686018427387904 := by omega
    have hl3 : s.length + 1 + 1 < 4611686018427387904 := by omega
    simp [hl1, hl2, hl3, c_lex_Key, h0, hc1, hc2, hb, lt_strings_Contains]

theorem le_u8 (a c : UInt8) : decide ((a.toNat : Int) ≤ (c.toNat : Int)) = decide (a ≤ c) := by
  simp [UInt8.le_iff_toNat_le]
theorem letter_eq (c : UInt8) (H : Heap) : eval tbl noExt n_lex_letter [.int .i32 c.toNat] H = some (.bool (isLetter c), H) := by
  have h1 := le_u8 97 c
  have h2 := le_u8 c 122
  simp only [UInt8.reduceToNat] at h1 h2
  rw [eval_M rfl rfl t_lex_letter rfl]
  unfold isLetter
  rw [← h1, ← h2]
  by_cases h : (97 : Int) ≤ c.toNat
  · simp [c_lex_letter, h]
  · simp [c_lex_letter, h]
theorem refLetter_eq (c : UInt8) (H : Heap) : eval tbl noExt n_flotsamref15_letter [.int .u8 c.toNat] H = some (.bool (isLetter c), H) := by
  have h1 := le_u8 97 c
  have h2 := le_u8 c 122
  simp only [UInt8.reduceToNat] at h1 h2
  rw [eval_M rfl rfl t_flotsamref15_letter rfl]
  unfold isLetter
  rw [← h1, ← h2]
  by_cases h : (97 : Int) ≤ c.toNat
  · simp [c_flotsamref15_letter, h]
  · simp [c_flotsamref15_letter, h]
theorem refDigit_eq (c : UInt8) (H : Heap) : eval tbl noExt n_flotsamref15_digit [.int .u8 c.toNat] H = some (.bool (isDigit c), H) := by
  have h1 := le_u8 48 c
  have h2 := le_u8 c 57
  simp only [UInt8.reduceToNat] at h1 h2
  rw [eval_M rfl rfl t_flotsamref15_digit rfl]
  unfold isDigit
  rw [← h1, ← h2]
  by_cases h : (48 : Int) ≤ c.toNat
  · simp [c_flotsamref15_digit, h]
  · simp [c_flotsamref15_digit, h]
theorem eq_u8 (c a : UInt8) : decide ((c.toNat : Int) = (a.toNat : Int)) = (c == a) := by
  rw [Bool.eq_iff_iff]
  simp only [decide_eq_true_eq, beq_iff_eq, ← UInt8.toNat_inj]
  omega
theorem refInner_eq (c : UInt8) (H : Heap) : eval tbl noExt n_flotsamref15_inner [.int .u8 c.toNat] H = some (.bool (isInner c), H) := by
  have h3 := eq_u8 c 95
  simp only [UInt8.reduceToNat] at h3
  rw [eval_M rfl rfl t_flotsamref15_inner rfl]
  unfold isInner
  rw [← h3]
  cases h1 : isLetter c with
  | true => simp [c_flotsamref15_inner, refLetter_eq, lt_flotsamref15_letter, h1]
  | false =>
    cases h2 : isDigit c with
    | true => simp [c_flotsamref15_inner, refLetter_eq, refDigit_eq, lt_flotsamref15_letter, lt_flotsamref15_digit, h1, h2]
    | false => simp [c_flotsamref15_inner, refLetter_eq, refDigit_eq, lt_flotsamref15_letter, lt_flotsamref15_digit, h1, h2]

theorem w32 (c : UInt8) : IntKind.i32.wrap (c.toNat : Int) = c.toNat := by
  have := c.toNat_lt
  rw [IntKind.wrap_i32]; omega

theorem begins_eq (s : List UInt8) (H : Heap) : eval tbl noExt n_lex_begins [.str s, .fn (.func n_lex_letter) [] []] H = some (.bool (match s with | c :: _ => isLetter c | [] => false), H) := by
  rw [eval_M rfl rfl t_lex_begins rfl]
  cases s with
  | nil => simp [c_lex_begins]
  | cons c l => simp [c_lex_begins, w32, letter_eq, lt_lex_letter]

theorem takeWhile_all (p : UInt8 → Bool) (s : List UInt8) : decide (s.takeWhile p = s) = s.all p := by
  induction s with
  | nil => rfl
  | cons c l ih =>
    cases hp : p c with
    | true => simp [hp, ← ih]
    | false => simp [hp]

theorem run_inner (s : List UInt8) (H : Heap) : eval tbl noExt n_lex_run [.str s, .fn (.func n_lex_inner) [] []] H = some (.str (s.takeWhile isInner), H) := by
  rw [eval_X rfl rfl]
  simp [xRun]

theorem Name_eq (s : List UInt8) (hs : s.length ≤ 1000000) (H : Heap) : eval tbl noExt n_lex_Name [.str s] H = some (.bool (isName s), H) := by
  have hb := begins_eq s
  have hr := run_inner s
  have ht := takeWhile_all isInner s
  rw [eval_M rfl rfl t_lex_Name rfl]
  unfold isName
  rw [← ht]
  generalize (match s with | c :: _ => isLetter c | [] => false) = b at hb ⊢
  cases b with
  | false => simp [c_lex_Name, hb, lt_lex_begins]
  | true =>
    by_cases h8 : s.length ≤ 8
    · have h8' : (s.length : Int) ≤ 8 := by omega
      by_cases hw : s.takeWhile isInner = s
      · simp only [hw] at hr
        simp [c_lex_Name, hb, lt_lex_begins, h8, h8', hr, lt_lex_run, hw, Key_eq s hs, lt_lex_Key]
      · simp [c_lex_Name, hb, lt_lex_begins, h8, h8', hr, lt_lex_run, hw]
    · have h8' : ¬ (s.length : Int) ≤ 8 := by omega
      simp [c_lex_Name, hb, lt_lex_begins, h8, h8']

theorem refKey_loop (s : List UInt8) (l : List (List UInt8)) (hl : l.length ≤ 1000) (H : Heap) (call : CallF) (Q : Option (V × Heap) → Prop) (k : List Item)
    (hret : ∀ φ', l.contains s = true → Fr.get φ' 2 = .bool true → Q (retK k φ' H)) (hexit : ∀ φ', l.contains s = false → Q (M call k φ' H)) :
    ∀ (j i : Nat) (φ : Fr), i + j = l.length → l.contains s = (l.drop i).contains s → Fr.get φ 0 = .str s → Fr.get φ 3 = .own 1 (l.map fun w => [.str w]) → Fr.get φ 4 = .int .i64 i →
      Q (M call (.code l_flotsamref15_Key_0 :: .blk 0 :: k) φ H) := by
  intro j
  induction j with
  | zero =>
    intro i φ hj hs h0 h3 h4
    have hi : ¬ ((i : Int) < l.length) := by omega
    rw [List.drop_of_length_le (by omega)] at hs
    rw [l_flotsamref15_Key_0, M_loop, ← l_flotsamref15_Key_0]
    simp [b_flotsamref15_Key_0, h0, h3, h4, hi]
    exact hexit _ (by rw [hs]; rfl)
  | succ j ih =>
    intro i φ hj hs h0 h3 h4
    have hi : (i : Int) < l.length := by omega
    have hil : i < l.length := by omega
    obtain ⟨a, ha, hd⟩ : ∃ a, l[i]? = some a ∧ l.drop i = a :: l.drop (i + 1) := ⟨l[i], List.getElem?_eq_getElem hil, List.drop_eq_getElem_cons hil⟩
    have hr : (l.map fun w => [V.str w])[i]? = some [.str a] := by rw [List.getElem?_map, ha]; rfl
    have hgl : (l.map fun w => [V.str w]).length = l.length := List.length_map ..
    have hw1 : IntKind.i64.wrap ((i : Int) + 1) = ((i + 1 : Nat) : Int) := by rw [w64 (by omega) (by omega)]; rfl
    rw [hd, List.contains_cons] at hs
    rw [l_flotsamref15_Key_0, M_loop, ← l_flotsamref15_Key_0]
    by_cases hb : a = s
    · have hb2 : (s == a) = true := by simp [hb]
      rw [hb2, Bool.true_or] at hs
      simp [b_flotsamref15_Key_0, h0, h3, h4, hi, hgl, hr, hb]
      exact hret _ hs (by simp)
    · have hb2 : (s == a) = false := by simp; exact fun h => hb h.symm
      rw [hb2, Bool.false_or] at hs
      simp [b_flotsamref15_Key_0, h0, h3, h4, hi, hgl, hr, hb, hw1]
      exact ih (i + 1) _ (by omega) hs (by simp [h0]) (by simp [h3]) (by simp)

def keyList : List (List UInt8) := [[112, 114, 111, 99], [109, 97, 105, 110], [114, 101, 99, 111, 118, 101, 114], [111, 114, 97, 99, 108, 101], [99, 114, 101, 97, 116, 101], [109, 107, 100, 105, 114], [119, 114, 105, 116, 101], [97, 112, 112, 101, 110, 100], [116, 114, 117, 110, 99, 97, 116, 101], [114, 101, 110, 97, 109, 101], [117, 110, 108, 105, 110, 107], [102, 115, 121, 110, 99], [102, 100, 97, 116, 97, 115, 121, 110, 99], [115, 121, 110, 99, 100, 105, 114], [98, 97, 114, 114, 105, 101, 114], [108, 101, 116], [105, 102], [101, 108, 115, 101], [114, 101, 112, 101, 97, 116], [99, 97, 108, 108], [116, 120, 110], [99, 111, 109, 109, 105, 116], [114, 101, 112, 108, 97, 121], [97, 115, 115, 101, 114, 116], [101, 120, 105, 115, 116, 115], [115, 105, 122, 101], [114, 101, 97, 100], [110, 111, 116], [97, 110, 100], [111, 114], [116, 114, 117, 101], [102, 97, 108, 115, 101]]

theorem keyList_eq : keyWords = keyList := by decide +kernel

theorem refKey_eq (s : List UInt8) (H : Heap) : eval tbl noExt n_flotsamref15_Key [.str s] H = some (.bool (isKey s), H) := by
  unfold isKey
  rw [keyList_eq]
  rw [eval_M rfl rfl t_flotsamref15_Key rfl]
  generalize hb : keyList.contains s = b
  simp [c_flotsamref15_Key]
  refine refKey_loop s keyList (by decide) H _ (fun o => o = some (.bool b, H)) _ (fun φ' h g => ?_) (fun φ' h => ?_) 32 0 _ (by rfl) rfl (by simp) (by simp [keyList]) (by simp)
  · rw [hb] at h; simp [g, h]
  · rw [hb] at h; simp [r_flotsamref15_Key_0, h]

theorem refName_loop (s : List UInt8) (hl : s.length ≤ 1000000) (H : Heap) (Q : Option (V × Heap) → Prop) (k : List Item)
    (hret : ∀ φ', s.all isInner = false → Fr.get φ' 2 = .bool false → Q (retK k φ' H)) (hexit : ∀ φ', s.all isInner = true → Q (M (eval tbl noExt) k φ' H)) :
    ∀ (j i : Nat) (φ : Fr), i + j = s.length → s.all isInner = (s.drop i).all isInner → Fr.get φ 0 = .str s → Fr.get φ 3 = .int .i64 i →
      Q (M (eval tbl noExt) (.code l_flotsamref15_Name_0 :: .blk 0 :: k) φ H) := by
  intro j
  induction j with
  | zero =>
    intro i φ hj hs h0 h3
    have hi : ¬ ((i : Int) < s.length) := by omega
    rw [List.drop_of_length_le (by omega)] at hs
    rw [l_flotsamref15_Name_0, M_loop, ← l_flotsamref15_Name_0]
    simp [b_flotsamref15_Name_0, h0, h3, hi]
    exact hexit _ (by rw [hs]; rfl)
  | succ j ih =>
    intro i φ hj hs h0 h3
    have hi : (i : Int) < s.length := by omega
    have hil : i < s.length := by omega
    obtain ⟨a, ha, hd⟩ : ∃ a, s[i]? = some a ∧ s.drop i = a :: s.drop (i + 1) := ⟨s[i], List.getElem?_eq_getElem hil, List.drop_eq_getElem_cons hil⟩
    have hw1 : IntKind.i64.wrap ((i : Int) + 1) = ((i + 1 : Nat) : Int) := by rw [w64 (by omega) (by omega)]; rfl
    rw [hd, List.all_cons] at hs
    have hc := refInner_eq a
    rw [l_flotsamref15_Name_0, M_loop, ← l_flotsamref15_Name_0]
    cases hb : isInner a with
    | false =>
      rw [hb, Bool.false_and] at hs
      rw [hb] at hc
      simp [b_flotsamref15_Name_0, h0, h3, hi, ha, hc, lt_flotsamref15_inner]
      exact hret _ hs (by simp)
    | true =>
      rw [hb, Bool.true_and] at hs
      rw [hb] at hc
      simp [b_flotsamref15_Name_0, h0, h3, hi, ha, hc, lt_flotsamref15_inner, hw1]
      exact ih (i + 1) _ (by omega) hs (by simp [h0]) (by simp)

theorem refName_eq (s : List UInt8) (hs : s.length ≤ 1000000) (H : Heap) : eval tbl noExt n_flotsamref15_Name [.str s] H = some (.bool (isName s), H) := by
  rw [eval_M rfl rfl t_flotsamref15_Name rfl]
  cases s with
  | nil => simp [c_flotsamref15_Name, isName]
  | cons c l =>
    have h1 : ¬ ((l.length : Int) + 1 < 1) := by omega
    by_cases h8 : (8 : Int) < (l.length : Int) + 1
    · have : ¬ (l.length + 1 ≤ 8) := by omega
      simp [c_flotsamref15_Name, h1, h8, isName, this]
    have h8' : l.length + 1 ≤ 8 := by omega
    have hc := refLetter_eq c
    cases hb : isLetter c with
    | false =>
      rw [hb] at hc
      simp [c_flotsamref15_Name, h1, h8, isName, hc, lt_flotsamref15_letter, hb]
    | true =>
    rw [hb] at hc
    have hk := refKey_eq (c :: l)
    cases hkb : isKey (c :: l) with
    | true =>
      rw [hkb] at hk
      simp [c_flotsamref15_Name, h1, h8, isName, hc, lt_flotsamref15_letter, hk, lt_flotsamref15_Key, hkb]
    | false =>
      rw [hkb] at hk
      simp [c_flotsamref15_Name, h1, h8, hc, lt_flotsamref15_letter, hk, lt_flotsamref15_Key]
      refine refName_loop (c :: l) hs H (fun o => o = some (.bool (isName (c :: l)), H)) _ (fun φ' h g => ?_) (fun φ' h => ?_) (c :: l).length 0 _ (by simp) rfl (by simp) (by simp)
      · simp [g, isName, h]
      · simp [r_flotsamref15_Name_0, isName, h, hb, h8', hkb]

end Go.AM.Spec
