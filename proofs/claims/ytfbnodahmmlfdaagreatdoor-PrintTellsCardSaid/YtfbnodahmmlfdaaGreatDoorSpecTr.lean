/-
 The parts of this proof that speak of the functions one by one.
-/
import Derived.Test.YtfbnodahmmlfdaaGreatDoorSpc
import Derived.Lib.IndexLaws
namespace Go.AM.Spec
set_option linter.unusedVariables false
set_option linter.unusedSimpArgs false
set_option maxHeartbeats 1000000
set_option maxRecDepth 10000
def keyText : List UInt8 := [32, 112, 114, 111, 99, 32, 109, 97, 105, 110, 32, 114, 101, 99, 111, 118, 101, 114, 32, 111, 114, 97, 99, 108, 101, 32, 99, 114, 101, 97, 116, 101, 32, 109, 107, 100, 105, 114, 32, 119, 114, 105, 116, 101, 32, 97, 112, 112, 101, 110, 100, 32, 116, 114, 117, 110, 99, 97, 116, 101, 32, 114, 101, 110, 97, 109, 101, 32, 117, 110, 108, 105, 110, 107, 32, 102, 115, 121, 110, 99, 32, 102, 100, 97, 116, 97, 115, 121, 110, 99, 32, 115, 121, 110, 99, 100, 105, 114, 32, 98, 97, 114, 114, 105, 101, 114, 32, 108, 101, 116, 32, 105, 102, 32, 101, 108, 115, 101, 32, 114, 101, 112, 101, 97, 116, 32, 99, 97, 108, 108, 32, 116, 120, 110, 32, 99, 111, 109, 109, 105, 116, 32, 114, 101, 112, 108, 97, 121, 32, 97, 115, 115, 101, 114, 116, 32, 101, 120, 105, 115, 116, 115, 32, 115, 105, 122, 101, 32, 114, 101, 97, 100, 32, 110, 111, 116, 32, 97, 110, 100, 32, 111, 114, 32, 116, 114, 117, 101, 32, 102, 97, 108, 115, 101, 32]
/-- The words between the blanks. -/
def splitWords : List UInt8 → List UInt8 → List (List UInt8)
 | [], w => [w]
 | c :: l, w => if c = 32 then w :: splitWords l [] else splitWords l (w ++ [c])
def keyWords : List (List UInt8) := (splitWords keyText []).filter (· ≠ [])
def isKey (s : List UInt8) : Bool := keyWords.contains s
def isName (s : List UInt8) : Bool := (match s with | c :: _ => isLetter c | [] => false) && decide (s.length ≤ 8) && s.all isInner && !isKey s
theorem takeWhile_blank {s r : List UInt8} (h : 32 ∉ s) : (s ++ 32 :: r).takeWhile (· ≠ 32) = s := by
 induction s with
 | nil => simp
 | cons c l ih =>
  have hc : c ≠ 32 := fun e => h (by simp [e])
  have hl : 32 ∉ l := fun e => h (by simp [e])
  have := ih hl
  simp only [ne_eq, decide_not] at this
  simp [hc, this]
theorem key_words {s : List UInt8} (h0 : s ≠ []) (h : 32 ∉ s) : Go.Lib.contains keyText (32 :: (s ++ [32])) = isKey s := by
 have hmem : ∀ i : Nat, i < 200 → (keyText.drop i).head? = some 32 → (keyText.drop (i + 1)).takeWhile (· ≠ 32) = [] ∨ isKey ((keyText.drop (i + 1)).takeWhile (· ≠ 32)) = true := by decide +kernel
 have hall : ∀ w ∈ keyWords, Go.Lib.contains keyText (32 :: (w ++ [32])) = true := by decide +kernel
 cases hk : isKey s with
 | true => exact hall s (by simpa [isKey] using hk)
 | false =>
  rcases Go.Lib.index_spec keyText (32 :: (s ++ [32])) with ⟨h1, _⟩ | ⟨i, h1, h2, h3, _⟩
  ·simp [Go.Lib.contains, h1]
  ·exfalso
   have hlen : keyText.length < 200 := by decide +kernel
   unfold Go.Lib.occAt at h3
   rw [List.isPrefixOf_iff_prefix] at h3
   obtain ⟨r, hr⟩ := h3
   have e1 : keyText.drop (i + 1) = s ++ 32 :: r := by
    have : keyText.drop (i + 1) = (keyText.drop i).drop 1 := by rw [List.drop_drop]
    rw [this, ← hr]; simp
   have e2 : (keyText.drop i).head? = some 32 := by rw [← hr]; rfl
   have := hmem i (by omega) e2
   rw [e1, takeWhile_blank h, hk] at this
   rcases this with h | h
   ·exact h0 h
   ·cases h
theorem has_blank (s : List UInt8) : decide (0 ≤ Go.Lib.indexByte s 32) = s.contains 32 := by
 rw [← Go.Lib.index_one]
 rcases Go.Lib.index_spec s [32] with ⟨h1, h2⟩ | ⟨i, h1, h2, h3, _⟩
 ·rw [h1]
  have : ¬ 32 ∈ s := by
   intro hm
   obtain ⟨i, hi⟩ := List.getElem?_of_mem hm
   have hlt := (List.getElem?_eq_some_iff.1 hi).1
   have := h2 i (by omega)
   unfold Go.Lib.occAt at this
   rw [List.drop_eq_getElem_cons hlt] at this
   rw [List.getElem?_eq_getElem hlt] at hi
   simp [List.isPrefixOf, Option.some.inj hi] at this
  simp [this]
 ·rw [h1]
  have : 32 ∈ s := by
   unfold Go.Lib.occAt at h3
   rw [List.isPrefixOf_iff_prefix] at h3
   obtain ⟨r, hr⟩ := h3
   have : 32 ∈ s.drop i := by rw [← hr]; simp
   exact List.mem_of_mem_drop this
  simp [this]
theorem key_blank {s : List UInt8} (h : 32 ∈ s) : isKey s = false := by
 have hall : ∀ w ∈ keyWords, ¬ (32 : UInt8) ∈ w := by decide +kernel
 cases hk : isKey s with
 | false => rfl
 | true => exact absurd h (hall s (by simpa [isKey] using hk))
theorem xContains_more (s t : List UInt8) (hs : s.length < 4294967281) (ht : 2 ≤ t.length) (H : Heap) : xContains [.str s, .str t] H = some (.bool (Go.Lib.contains s t), H) := by
 match t, ht with
 | a :: b :: l, _ => simp [xContains, hs]
theorem Key_eq (s : List UInt8) (hs : s.length ≤ 1000000) (H : Heap) : eval tbl noExt n_lex_Key [.str s] H = some (.bool (isKey s), H) := by
 have hc1 : ∀ K, eval tbl noExt n_strings_Contains [.str s, .str [32]] K = some (.bool (s.contains 32), K) := by
  intro K
  rw [eval_X rfl rfl]
  simp only [xContains, has_blank]
 have hc2 : ∀ K, eval tbl noExt n_strings_Contains [.str keyText, .str (32 :: (s ++ [32]))] K = some (.bool (Go.Lib.contains keyText (32 :: (s ++ [32]))), K) := by
  intro K
  rw [eval_X rfl rfl]
  exact xContains_more _ _ (by decide +kernel) (by simp) _
 rw [eval_M rfl rfl t_lex_Key rfl]
 by_cases h0 : s = []
 ·subst h0
  have : isKey [] = false := by decide +kernel
  simp [c_lex_Key, this]
 by_cases hb : 32 ∈ s
 ·simp [c_lex_Key, h0, hc1, hb, key_blank hb]
 ·rw [key_words h0 hb] at hc2
  simp only [keyText] at hc2
  have hl1 : 1 + s.length < 4611686018427387904 := by omega
  have hl2 : 1 + s.length + 1 < 4611686018427387904 := by omega
  have hl3 : s.length + 1 + 1 < 4611686018427387904 := by omega
  simp [hl1, hl2, hl3, c_lex_Key, h0, hc1, hc2, hb]
theorem le_u8 (a c : UInt8) : decide ((a.toNat : Int) ≤ (c.toNat : Int)) = decide (a ≤ c) := by
 simp [UInt8.le_iff_toNat_le]
theorem letter_eq (c : UInt8) (H : Heap) : eval tbl noExt n_lex_letter [.int .i32 c.toNat] H = some (.bool (isLetter c), H) := by
 have h1 := le_u8 97 c
 have h2 := le_u8 c 122
 simp only [UInt8.reduceToNat] at h1 h2
 rw [eval_M rfl rfl t_lex_letter rfl]
 unfold isLetter
 rw [← h1, ← h2]
 by_cases h : (97 : Int) ≤ c.toNat
 ·simp [c_lex_letter, h]
 ·simp [c_lex_letter, h]
theorem eq_u8 (c a : UInt8) : decide ((c.toNat : Int) = (a.toNat : Int)) = (c == a) := by
 rw [Bool.eq_iff_iff]
 simp only [decide_eq_true_eq, beq_iff_eq, ← UInt8.toNat_inj]
 omega
theorem w32 (c : UInt8) : IntKind.i32.wrap (c.toNat : Int) = c.toNat := by
 have := c.toNat_lt
 rw [IntKind.wrap_i32]; omega
theorem begins_eq (s : List UInt8) (H : Heap) : eval tbl noExt n_lex_begins [.str s, .fn (.func n_lex_letter) [] []] H = some (.bool (match s with | c :: _ => isLetter c | [] => false), H) := by
 rw [eval_M rfl rfl t_lex_begins rfl]
 cases s with
 | nil => simp [c_lex_begins]
 | cons c l => simp [c_lex_begins, w32, letter_eq]
theorem takeWhile_all (p : UInt8 → Bool) (s : List UInt8) : decide (s.takeWhile p = s) = s.all p := by
 induction s with
 | nil => rfl
 | cons c l ih =>
  cases hp : p c with
  | true => simp [hp, ← ih]
  | false => simp [hp]
theorem run_inner (s : List UInt8) (H : Heap) : eval tbl noExt n_lex_run [.str s, .fn (.func n_lex_inner) [] []] H = some (.str (s.takeWhile isInner), H) := by
 rw [eval_X rfl rfl]
 simp [xRun]
theorem Name_eq (s : List UInt8) (hs : s.length ≤ 1000000) (H : Heap) : eval tbl noExt n_lex_Name [.str s] H = some (.bool (isName s), H) := by
 have hb := begins_eq s
 have hr := run_inner s
 have ht := takeWhile_all isInner s
 rw [eval_M rfl rfl t_lex_Name rfl]
 unfold isName
 rw [← ht]
 generalize (match s with | c :: _ => isLetter c | [] => false) = b at hb ⊢
 cases b with
 | false => simp [c_lex_Name, hb]
 | true =>
  by_cases h8 : s.length ≤ 8
  ·have h8' : (s.length : Int) ≤ 8 := by omega
   by_cases hw : s.takeWhile isInner = s
   ·simp only [hw] at hr
    simp [c_lex_Name, hb, h8, h8', hr, hw, Key_eq s hs]
   ·simp [c_lex_Name, hb, h8, h8', hr, hw]
  ·have h8' : ¬ (s.length : Int) ≤ 8 := by omega
   simp [c_lex_Name, hb, h8, h8']
def keyList : List (List UInt8) := [[112, 114, 111, 99], [109, 97, 105, 110], [114, 101, 99, 111, 118, 101, 114], [111, 114, 97, 99, 108, 101], [99, 114, 101, 97, 116, 101], [109, 107, 100, 105, 114], [119, 114, 105, 116, 101], [97, 112, 112, 101, 110, 100], [116, 114, 117, 110, 99, 97, 116, 101], [114, 101, 110, 97, 109, 101], [117, 110, 108, 105, 110, 107], [102, 115, 121, 110, 99], [102, 100, 97, 116, 97, 115, 121, 110, 99], [115, 121, 110, 99, 100, 105, 114], [98, 97, 114, 114, 105, 101, 114], [108, 101, 116], [105, 102], [101, 108, 115, 101], [114, 101, 112, 101, 97, 116], [99, 97, 108, 108], [116, 120, 110], [99, 111, 109, 109, 105, 116], [114, 101, 112, 108, 97, 121], [97, 115, 115, 101, 114, 116], [101, 120, 105, 115, 116, 115], [115, 105, 122, 101], [114, 101, 97, 100], [110, 111, 116], [97, 110, 100], [111, 114], [116, 114, 117, 101], [102, 97, 108, 115, 101]]
theorem keyList_eq : keyWords = keyList := by decide +kernel
theorem refLetter_eq (c : UInt8) (H : Heap) : eval tbl noExt n_r15_letter [.int .u8 c.toNat] H = some (.bool (isLetter c), H) := by
 have h1 := le_u8 97 c
 have h2 := le_u8 c 122
 simp only [UInt8.reduceToNat] at h1 h2
 rw [eval_M rfl rfl t_r15_letter rfl]
 unfold isLetter
 rw [← h1, ← h2]
 by_cases h : (97 : Int) ≤ c.toNat
 ·simp [c_r15_letter, h]
 ·simp [c_r15_letter, h]
theorem refDigit_eq (c : UInt8) (H : Heap) : eval tbl noExt n_r15_digit [.int .u8 c.toNat] H = some (.bool (isDigit c), H) := by
 have h1 := le_u8 48 c
 have h2 := le_u8 c 57
 simp only [UInt8.reduceToNat] at h1 h2
 rw [eval_M rfl rfl t_r15_digit rfl]
 unfold isDigit
 rw [← h1, ← h2]
 by_cases h : (48 : Int) ≤ c.toNat
 ·simp [c_r15_digit, h]
 ·simp [c_r15_digit, h]
theorem refInner_eq (c : UInt8) (H : Heap) : eval tbl noExt n_r15_inner [.int .u8 c.toNat] H = some (.bool (isInner c), H) := by
 have h3 := eq_u8 c 95
 simp only [UInt8.reduceToNat] at h3
 rw [eval_M rfl rfl t_r15_inner rfl]
 unfold isInner
 rw [← h3]
 cases h1 : isLetter c with
 | true => simp [c_r15_inner, refLetter_eq, h1]
 | false =>
  cases h2 : isDigit c with
  | true => simp [c_r15_inner, refLetter_eq, refDigit_eq, h1, h2]
  | false => simp [c_r15_inner, refLetter_eq, refDigit_eq, h1, h2]
theorem refKey_loop (s : List UInt8) (l : List (List UInt8)) (hl : l.length ≤ 1000) (H : Heap) (call : CallF) (Q : Option (V × Heap) → Prop) (k : List Item)
  (hret : ∀ φ', l.contains s = true → Fr.get φ' 2 = .bool true → Q (retK k φ' H)) (hexit : ∀ φ', l.contains s = false → Q (M call k φ' H)) :
  ∀ (j i : Nat) (φ : Fr), i + j = l.length → l.contains s = (l.drop i).contains s → Fr.get φ 0 = .str s → Fr.get φ 3 = .own 1 (l.map fun w => [.str w]) → Fr.get φ 4 = .int .i64 i →
   Q (M call (.code l_r15_Key_0 :: .blk 0 :: k) φ H) := by
 intro j
 induction j with
 | zero =>
  intro i φ hj hs h0 h3 h4
  have hi : ¬ ((i : Int) < l.length) := by omega
  rw [List.drop_of_length_le (by omega)] at hs
  rw [l_r15_Key_0, M_loop, ← l_r15_Key_0]
  simp [b_r15_Key_0, h0, h3, h4, hi]
  exact hexit _ (by rw [hs]; rfl)
 | succ j ih =>
  intro i φ hj hs h0 h3 h4
  have hi : (i : Int) < l.length := by omega
  have hil : i < l.length := by omega
  obtain ⟨a, ha, hd⟩ : ∃ a, l[i]? = some a ∧ l.drop i = a :: l.drop (i + 1) := ⟨l[i], List.getElem?_eq_getElem hil, List.drop_eq_getElem_cons hil⟩
  have hr : (l.map fun w => [V.str w])[i]? = some [.str a] := by rw [List.getElem?_map, ha]; rfl
  have hgl : (l.map fun w => [V.str w]).length = l.length := List.length_map ..
  have hw1 : IntKind.i64.wrap ((i : Int) + 1) = ((i + 1 : Nat) : Int) := by rw [w64 (by omega) (by omega)]; rfl
  rw [hd, List.contains_cons] at hs
  rw [l_r15_Key_0, M_loop, ← l_r15_Key_0]
  by_cases hb : a = s
  ·have hb2 : (s == a) = true := by simp [hb]
   rw [hb2, Bool.true_or] at hs
   simp [b_r15_Key_0, h0, h3, h4, hi, hgl, hr, hb]
   exact hret _ hs (by simp)
  ·have hb2 : (s == a) = false := by simp; exact fun h => hb h.symm
   rw [hb2, Bool.false_or] at hs
   simp [b_r15_Key_0, h0, h3, h4, hi, hgl, hr, hb, hw1]
   exact ih (i + 1) _ (by omega) hs (by simp [h0]) (by simp [h3]) (by simp)
theorem refKey_eq (s : List UInt8) (H : Heap) : eval tbl noExt n_r15_Key [.str s] H = some (.bool (isKey s), H) := by
 unfold isKey
 rw [keyList_eq]
 rw [eval_M rfl rfl t_r15_Key rfl]
 generalize hb : keyList.contains s = b
 simp [c_r15_Key]
 refine refKey_loop s keyList (by decide) H _ (fun o => o = some (.bool b, H)) _ (fun φ' h g => ?_) (fun φ' h => ?_) 32 0 _ (by rfl) rfl (by simp) (by simp [keyList]) (by simp)
 ·rw [hb] at h; simp [g, h]
 ·rw [hb] at h; simp [r_r15_Key_0, h]
theorem refName_loop (s : List UInt8) (hl : s.length ≤ 1000000) (H : Heap) (Q : Option (V × Heap) → Prop) (k : List Item)
  (hret : ∀ φ', s.all isInner = false → Fr.get φ' 2 = .bool false → Q (retK k φ' H)) (hexit : ∀ φ', s.all isInner = true → Q (M (eval tbl noExt) k φ' H)) :
  ∀ (j i : Nat) (φ : Fr), i + j = s.length → s.all isInner = (s.drop i).all isInner → Fr.get φ 0 = .str s → Fr.get φ 3 = .int .i64 i →
   Q (M (eval tbl noExt) (.code l_r15_Name_0 :: .blk 0 :: k) φ H) := by
 intro j
 induction j with
 | zero =>
  intro i φ hj hs h0 h3
  have hi : ¬ ((i : Int) < s.length) := by omega
  rw [List.drop_of_length_le (by omega)] at hs
  rw [l_r15_Name_0, M_loop, ← l_r15_Name_0]
  simp [b_r15_Name_0, h0, h3, hi]
  exact hexit _ (by rw [hs]; rfl)
 | succ j ih =>
  intro i φ hj hs h0 h3
  have hi : (i : Int) < s.length := by omega
  have hil : i < s.length := by omega
  obtain ⟨a, ha, hd⟩ : ∃ a, s[i]? = some a ∧ s.drop i = a :: s.drop (i + 1) := ⟨s[i], List.getElem?_eq_getElem hil, List.drop_eq_getElem_cons hil⟩
  have hw1 : IntKind.i64.wrap ((i : Int) + 1) = ((i + 1 : Nat) : Int) := by rw [w64 (by omega) (by omega)]; rfl
  rw [hd, List.all_cons] at hs
  have hc := refInner_eq a
  rw [l_r15_Name_0, M_loop, ← l_r15_Name_0]
  cases hb : isInner a with
  | false =>
   rw [hb, Bool.false_and] at hs
   rw [hb] at hc
   simp [b_r15_Name_0, h0, h3, hi, ha, hc]
   exact hret _ hs (by simp)
  | true =>
   rw [hb, Bool.true_and] at hs
   rw [hb] at hc
   simp [b_r15_Name_0, h0, h3, hi, ha, hc, hw1]
   exact ih (i + 1) _ (by omega) hs (by simp [h0]) (by simp)
theorem refName_eq (s : List UInt8) (hs : s.length ≤ 1000000) (H : Heap) : eval tbl noExt n_r15_Name [.str s] H = some (.bool (isName s), H) := by
 rw [eval_M rfl rfl t_r15_Name rfl]
 cases s with
 | nil => simp [c_r15_Name, isName]
 | cons c l =>
  have h1 : ¬ ((l.length : Int) + 1 < 1) := by omega
  by_cases h8 : (8 : Int) < (l.length : Int) + 1
  ·have : ¬ (l.length + 1 ≤ 8) := by omega
   simp [c_r15_Name, h1, h8, isName, this]
  have h8' : l.length + 1 ≤ 8 := by omega
  have hc := refLetter_eq c
  cases hb : isLetter c with
  | false =>
   rw [hb] at hc
   simp [c_r15_Name, h1, h8, isName, hc, hb]
  | true =>
  rw [hb] at hc
  have hk := refKey_eq (c :: l)
  cases hkb : isKey (c :: l) with
  | true =>
   rw [hkb] at hk
   simp [c_r15_Name, h1, h8, isName, hc, hk, hkb]
  | false =>
   rw [hkb] at hk
   simp [c_r15_Name, h1, h8, hc, hk]
   refine refName_loop (c :: l) hs H (fun o => o = some (.bool (isName (c :: l)), H)) _ (fun φ' h g => ?_) (fun φ' h => ?_) (c :: l).length 0 _ (by simp) rfl (by simp) (by simp)
   ·simp [g, isName, h]
   ·simp [r_r15_Name_0, isName, h, hb, h8', hkb]
@[simp] theorem bytesRows_length (s : List UInt8) : (bytesRows s).length = s.length := by simp [bytesRows]
@[simp] theorem bytesRows_get (s : List UInt8) (i : Nat) : (bytesRows s)[i]? = (s[i]?).map fun b => [V.int .u8 b.toNat] := by simp [bytesRows]
@[simp] theorem bytesRows_getElem (s : List UInt8) (i : Nat) (h : i < (bytesRows s).length) : (bytesRows s)[i] = [V.int .u8 (s[i]'(by simpa using h)).toNat] := by simp [bytesRows]
theorem byte_lt (c : UInt8) : c.toNat < 256 := UInt8.toNat_lt c
def dig (u : Nat) : UInt8 := UInt8.ofNat (48 + u % 10)
def digs : Nat → Nat → List UInt8 → List UInt8
 | 0, _, acc => acc
 | k + 1, u, acc => if u / 10 = 0 then dig u :: acc else digs k (u / 10) (dig u :: acc)
def byteVs (txt : List UInt8) : List V := txt.map fun c => .int .u8 c.toNat
def cells20 (txt : List UInt8) : List V := List.replicate (20 - txt.length) (.int .u8 0) ++ byteVs txt
theorem cells20_length {txt : List UInt8} (h : txt.length ≤ 20) : (cells20 txt).length = 20 := by simp [cells20, byteVs]; omega
theorem cells20_set {txt : List UInt8} (h : txt.length < 20) (c : UInt8) : (cells20 txt).set (19 - txt.length) (.int .u8 c.toNat) = cells20 (c :: txt) := by
 unfold cells20
 obtain ⟨m, hm⟩ : ∃ m, 20 - txt.length = m + 1 := ⟨19 - txt.length, by omega⟩
 have h1 : 19 - txt.length = m := by omega
 have h2 : 20 - (c :: txt).length = m := by simp; omega
 rw [hm, h1, h2, List.replicate_succ', List.append_assoc, List.set_append_right _ _ (by simp)]
 simp [byteVs]
theorem digs_length (k u : Nat) (acc : List UInt8) : (digs k u acc).length ≤ k + acc.length := by
 induction k generalizing u acc with
 | zero => simp [digs]
 | succ k ih =>
  unfold digs
  split
  ·simp; omega
  ·have := ih (u / 10) (dig u :: acc)
   simp at this; omega
theorem digit_u8 (u : Nat) : IntKind.u8.wrap (IntKind.u64.wrap (48 + (u : Int) % 10)) = (dig u).toNat := by
 unfold dig
 rw [IntKind.wrap_u64, IntKind.wrap_u8]
 have : (UInt8.ofNat (48 + u % 10)).toNat = 48 + u % 10 := by
  rw [UInt8.toNat_ofNat']; omega
 rw [this]; omega
set_option maxHeartbeats 400000
variable (H : Heap) (call : CallF) (R : Option (V × Heap))
theorem digits_loop (n : Int) (k : List Item) (X : List UInt8) (hk : ∀ φ', Fr.get φ' 0 = .int .i64 n → Fr.get φ' 3 = .ptr H.length 0 → Fr.get φ' 4 = .int .i64 (20 - X.length : Nat) → M call k φ' (H ++ [some (cells20 X)]) = R) :
  ∀ (j u : Nat) (txt : List UInt8) (φ : Fr), u < 10 ^ (j + 1) → u < 18446744073709551616 → txt.length + j + 1 ≤ 20 → digs (j + 1) u txt = X → Fr.get φ 0 = .int .i64 n → Fr.get φ 3 = .ptr H.length 0 → Fr.get φ 4 = .int .i64 (20 - txt.length : Nat) → Fr.get φ 5 = .int .u64 u →
  M call (.code l_num_Digits_0 :: .blk 0 :: k) φ (H ++ [some (cells20 txt)]) = R := by
 intro j
 induction j with
 | zero =>
  intro u txt φ hu hu2 ht hX h0 h3 h4 h5
  have e1 : (u : Int).tmod 10 = (u : Int) % 10 := by rw [Int.tmod_eq_emod_of_nonneg (by omega)]
  have e0 : IntKind.u64.wrap 0 = 0 := by rw [IntKind.wrap_u64]; rfl
  have e2 : IntKind.u64.wrap ((u : Int) / 10) = (u : Int) / 10 := by rw [IntKind.wrap_u64]; omega
  have e3 : IntKind.i64.wrap (((20 - txt.length : Nat) : Int) - 1) = (19 - txt.length : Nat) := by rw [w64] <;> omega
  have e4 : ((19 - txt.length : Nat) : Int) < 20 := by omega
  have e5 : (u : Int) / 10 = 0 := by omega
  have hl := cells20_length (txt := txt) (by omega)
  have e6 : 19 - txt.length + 1 ≤ 20 := by omega
  have e7 := cells20_set (txt := txt) (by omega)
  unfold digs at hX
  rw [if_pos (by omega)] at hX
  rw [l_num_Digits_0, M_loop, ← l_num_Digits_0]
  simp [b_num_Digits_0, h0, h3, h4, h5, e0, e1, e2, e3, e4, e5, e6, e7, hl, digit_u8, V.cells, V.one, setMany, hX]
  refine hk _ ?_ ?_ ?_ <;> simp [← hX] <;> omega
 | succ j ih =>
  intro u txt φ hu hu2 ht hX h0 h3 h4 h5
  have e1 : (u : Int).tmod 10 = (u : Int) % 10 := by rw [Int.tmod_eq_emod_of_nonneg (by omega)]
  have e0 : IntKind.u64.wrap 0 = 0 := by rw [IntKind.wrap_u64]; rfl
  have e2 : IntKind.u64.wrap ((u : Int) / 10) = (u : Int) / 10 := by rw [IntKind.wrap_u64]; omega
  have e3 : IntKind.i64.wrap (((20 - txt.length : Nat) : Int) - 1) = (19 - txt.length : Nat) := by rw [w64] <;> omega
  have e4 : ((19 - txt.length : Nat) : Int) < 20 := by omega
  have hl := cells20_length (txt := txt) (by omega)
  have e6 : 19 - txt.length + 1 ≤ 20 := by omega
  have e7 := cells20_set (txt := txt) (by omega)
  unfold digs at hX
  rw [l_num_Digits_0, M_loop, ← l_num_Digits_0]
  by_cases hq : u / 10 = 0
  ·have e5 : (u : Int) / 10 = 0 := by omega
   rw [if_pos hq] at hX
   simp [b_num_Digits_0, h0, h3, h4, h5, e0, e1, e2, e3, e4, e5, e6, e7, hl, digit_u8, V.cells, V.one, setMany, hX]
   refine hk _ ?_ ?_ ?_ <;> simp [← hX] <;> omega
  ·have e5 : ¬ (u : Int) / 10 = 0 := by omega
   rw [if_neg hq] at hX
   simp [b_num_Digits_0, h0, h3, h4, h5, e0, e1, e2, e3, e4, e5, e6, e7, hl, digit_u8, V.cells, V.one, setMany]
   refine ih (u / 10) (dig u :: txt) _ ?_ ?_ ?_ hX ?_ ?_ ?_ ?_ <;> first | omega | (simp; done) | (simp; omega)
theorem chunk_bytes (pre : List V) (X : List UInt8) : rowsBytes (chunk 1 (pre ++ byteVs X) pre.length X.length) = some X := by
 induction X generalizing pre with
 | nil => rfl
 | cons c X ih =>
  have h1 := ih (pre ++ [.int .u8 c.toNat])
  have h2 : pre ++ byteVs (c :: X) = (pre ++ [V.int .u8 c.toNat]) ++ byteVs X := by simp [byteVs]
  have hc := byte_lt c
  rw [List.length_cons, chunk, h2]
  have h3 : (((pre ++ [V.int .u8 c.toNat]) ++ byteVs X).drop pre.length).take 1 = [V.int .u8 c.toNat] := by simp
  rw [h3]
  simp only [List.length_append, List.length_singleton] at h1
  unfold rowsBytes
  rw [if_pos (by omega), h1]
  simp
theorem cells20_bytes (X : List UInt8) : rowsBytes (chunk 1 ((cells20 X).map V.strip) (20 - X.length) X.length) = some X := by
 have h : (cells20 X).map V.strip = List.replicate (20 - X.length) (V.int .u8 0) ++ byteVs X := by
  simp [cells20, byteVs, V.strip, Function.comp_def]
 have := chunk_bytes (List.replicate (20 - X.length) (V.int .u8 0)) X
 rw [List.length_replicate] at this
 rw [h, this]
theorem digs_pos (k u : Nat) (acc : List UInt8) : acc.length < (digs (k + 1) u acc).length := by
 induction k generalizing u acc with
 | zero => unfold digs; split <;> simp [digs]
 | succ k ih =>
  unfold digs
  split
  ·simp
  ·have := ih (u / 10) (dig u :: acc)
   simp at this; omega
/-- A number as a text. -/
def text (n : Int) : List UInt8 := if n < 0 then 45 :: digs 19 (-n).toNat [] else digs 19 n.toNat []
theorem digits_eq (n : Int) (h1 : -9223372036854775808 ≤ n) (h2 : n ≤ 9223372036854775807) : eval tbl noExt n_num_Digits [.int .i64 n] H = some (.str (text n), H) := by
 rw [eval_M rfl rfl t_num_Digits rfl]
 unfold text
 by_cases hn : n < 0
 ·obtain ⟨X, hX⟩ : ∃ X, X = digs 19 (-n).toNat [] := ⟨_, rfl⟩
  have hl := digs_length 19 (-n).toNat []
  have hp := digs_pos 18 (-n).toNat []
  rw [← hX] at hl hp ⊢
  have e1 : IntKind.u64.wrap (-IntKind.u64.wrap n) = ((-n).toNat : Int) := by rw [IntKind.wrap_u64, IntKind.wrap_u64]; omega
  simp at hl hp
  simp [c_num_Digits, hn, e1]
  refine digits_loop H _ _ n _ X ?_ 18 (-n).toNat [] _ (by omega) (by omega) (by simp) hX.symm ?_ ?_ ?_ ?_
  ·intro φ' h0 h3 h4
   have e3 : IntKind.i64.wrap (((20 - X.length : Nat) : Int) - 1) = (19 - X.length : Nat) := by rw [w64] <;> omega
   have e4 : ((19 - X.length : Nat) : Int) < 20 := by omega
   have e5 : ((19 - X.length : Nat) : Int) ≤ 20 := by omega
   have e6 : 19 - X.length + 1 ≤ 20 := by omega
   have e7 := cells20_set (txt := X) (by omega) 45
   have e8 : ¬ 20 = 19 - X.length := by omega
   have e9 := cells20_length (txt := 45 :: X) (by simp; omega)
   have e10 : 19 - X.length + (20 - (19 - X.length)) ≤ 20 := by omega
   have e11 := cells20_bytes (45 :: X)
   have e12 : 20 - (45 :: X).length = 19 - X.length := by rw [List.length_cons]; omega
   have e13 : (45 :: X).length = 20 - (19 - X.length) := by rw [List.length_cons]; omega
   rw [e12, e13] at e11
   have hl' := cells20_length (txt := X) (by omega)
   have e7' : (cells20 X).set (19 - X.length) (V.int IntKind.u8 45) = cells20 (45 :: X) := e7
   simp [r_num_Digits_0, h0, h3, h4, hn, e3, e4, e5, e6, e7', e8, e9, e10, hl', V.cells, V.one, setMany, rowsOf, e11]
  ·simp
  ·simp
  ·simp
  ·simp
 ·obtain ⟨X, hX⟩ : ∃ X, X = digs 19 n.toNat [] := ⟨_, rfl⟩
  have hl := digs_length 19 n.toNat []
  have hp := digs_pos 18 n.toNat []
  rw [← hX] at hl hp ⊢
  have e1 : IntKind.u64.wrap n = (n.toNat : Int) := by rw [IntKind.wrap_u64]; omega
  simp at hl hp
  simp [c_num_Digits, hn, e1]
  refine digits_loop H _ _ n _ X ?_ 18 n.toNat [] _ (by omega) (by omega) (by simp) hX.symm ?_ ?_ ?_ ?_
  ·intro φ' h0 h3 h4
   have e5 : ((20 - X.length : Nat) : Int) ≤ 20 := by omega
   have e8 : ¬ 20 = 20 - X.length := by omega
   have e9 := cells20_length (txt := X) (by omega)
   have e10 : 20 - X.length + X.length ≤ 20 := by omega
   have e11 := cells20_bytes X
   have e13 : X.length = 20 - (20 - X.length) := by omega
   have e14 : 20 - (20 - X.length) = X.length := by omega
   simp [r_num_Digits_0, h0, h3, h4, hn, e5, e8, e9, e10, rowsOf, e14, e11]
  ·simp
  ·simp
  ·simp
  ·simp
def stepN (n : Nat) (c : UInt8) : Nat := n * 10 + (c.toNat - 48)
def valN (n : Nat) (s : List UInt8) : Nat := s.foldl stepN n
theorem valN_nil (n : Nat) : valN n [] = n := rfl
theorem valN_cons (n : Nat) (c : UInt8) (cs : List UInt8) : valN n (c :: cs) = valN (n * 10 + (c.toNat - 48)) cs := by
 have : n * 10 + (c.toNat - 48) = stepN n c := by rw [stepN]
 rw [this]; rfl
def isDigP (c : UInt8) : Prop := 48 ≤ c.toNat ∧ c.toNat ≤ 57
/-- Digits without a zero in front. -/
def Good (s : List UInt8) : Prop := s ≠ [] ∧ (∀ c ∈ s, isDigP c) ∧ (s.head? = some 48 → s = [48])
theorem valN_append (s : List UInt8) (c : UInt8) (n : Nat) : valN n (s ++ [c]) = valN n s * 10 + (c.toNat - 48) := by
 have : ∀ m, m * 10 + (c.toNat - 48) = stepN m c := fun m => by rw [stepN]
 rw [this]
 simp [valN]
theorem valN_ge (n : Nat) (s : List UInt8) : n * 10 ^ s.length ≤ valN n s := by
 induction s generalizing n with
 | nil => simp [valN_cons, valN_nil]
 | cons x s ih =>
  have := ih (n * 10 + (x.toNat - 48))
  rw [valN_cons]
  refine Nat.le_trans ?_ this
  rw [List.length_cons, Nat.pow_succ, Nat.mul_comm (10 ^ s.length) 10, ← Nat.mul_assoc]
  exact Nat.mul_le_mul_right _ (Nat.le_add_right _ _)
theorem dig_toNat (u : Nat) : (dig u).toNat = 48 + u % 10 := by unfold dig; rw [UInt8.toNat_ofNat']; omega
theorem dig_of (v : Nat) (c : UInt8) (hc : isDigP c) : dig (v * 10 + (c.toNat - 48)) = c := by
 unfold isDigP at hc
 apply UInt8.toNat_inj.1
 rw [dig_toNat]; omega
theorem good_pos {s : List UInt8} (h : Good s) (hl : 1 < s.length) : 0 < valN 0 s := by
 obtain ⟨h1, h2, h3⟩ := h
 cases s with
 | nil => exact (h1 rfl).elim
 | cons c s =>
  have hc := h2 c (by simp)
  unfold isDigP at hc
  have hne : c.toNat ≠ 48 := by
   intro he
   have : c = 48 := UInt8.toNat_inj.1 he
   have := h3 (by simp [this])
   simp at this
   simp [this.2] at hl
  rw [valN_cons]
  have := valN_ge (0 * 10 + (c.toNat - 48)) s
  have hp : 0 < 10 ^ s.length := Nat.pow_pos (by omega)
  have : 1 * 10 ^ s.length ≤ (0 * 10 + (c.toNat - 48)) * 10 ^ s.length := Nat.mul_le_mul_right _ (by omega)
  omega
theorem good_init {s : List UInt8} {c : UInt8} (h : Good (s ++ [c])) (hs : s ≠ []) : Good s := by
 obtain ⟨h1, h2, h3⟩ := h
 refine ⟨hs, fun x hx => h2 x (by simp [hx]), fun he => ?_⟩
 cases s with
 | nil => exact (hs rfl).elim
 | cons x s =>
  have := h3 (by simpa using he)
  simp at this
theorem digs_good (k : Nat) : ∀ (s acc : List UInt8), Good s → s.length ≤ k → digs k (valN 0 s) acc = s ++ acc := by
 induction k with
 | zero =>
  intro s acc h hl
  have : s = [] := List.eq_nil_of_length_eq_zero (by omega)
  exact (h.1 this).elim
 | succ k ih =>
  intro s acc h hl
  obtain ⟨t, c, rfl⟩ : ∃ t c, s = t ++ [c] := ⟨s.dropLast, s.getLast h.1, (List.dropLast_concat_getLast h.1).symm⟩
  have hc := h.2.1 c (by simp)
  rw [valN_append t c 0]
  unfold digs
  rw [dig_of _ _ hc]
  unfold isDigP at hc
  by_cases ht : t = []
  ·subst ht
   rw [if_pos (by simp [valN_cons, valN_nil]; omega)]
   simp
  ·have hg := good_init h ht
   have hq : (valN 0 t * 10 + (c.toNat - 48)) / 10 = valN 0 t := by omega
   have hp : 0 < valN 0 t := by
    by_cases h1 : 1 < t.length
    ·exact good_pos hg h1
    ·cases t with
     | nil => exact (ht rfl).elim
     | cons x t =>
      have : t = [] := by
       apply List.eq_nil_of_length_eq_zero
       simp only [List.length_cons] at h1; omega
      subst this
      have hx := h.2.1 x (by simp)
      unfold isDigP at hx
      have hne : x.toNat ≠ 48 := by
       intro he
       have hx' : x = 48 := UInt8.toNat_inj.1 he
       have := h.2.2 (by simp [hx'])
       simp at this
      simp [valN_cons, valN_nil]; omega
   rw [hq, if_neg (by omega), ih t (c :: acc) hg (by simp at hl; omega)]
   simp
theorem good_of (k : Nat) : ∀ u, u < 10 ^ (k + 1) → ∃ s, Good s ∧ s.length ≤ k + 1 ∧ valN 0 s = u ∧ (0 < u → s.head? ≠ some 48) := by
 induction k with
 | zero =>
  intro u hu
  have hd := dig_toNat u
  refine ⟨[dig u], ⟨by simp, fun c hc => ?_, fun h => by simpa using h⟩, by simp, by simp [valN_cons, valN_nil]; omega, fun hp he => ?_⟩
  ·simp at hc; subst hc; unfold isDigP; omega
  ·simp at he
   rw [he] at hd
   have : (48 : UInt8).toNat = 48 := rfl
   omega
 | succ k ih =>
  intro u hu
  by_cases h10 : u < 10
  ·obtain ⟨s, h1, h2, h3⟩ := ih u (Nat.lt_of_lt_of_le h10 (by
    have : 10 ^ 1 ≤ 10 ^ (k + 1) := Nat.pow_le_pow_right (by omega) (by omega)
    simpa using this))
   exact ⟨s, h1, by omega, h3⟩
  ·have hp : 10 ^ (k + 1 + 1) = 10 * 10 ^ (k + 1) := by rw [Nat.pow_succ, Nat.mul_comm]
   obtain ⟨s, h1, h2, h3, h4⟩ := ih (u / 10) (by omega)
   have hd := dig_toNat u
   have hh := h4 (by omega)
   have hhd : (s ++ [dig u]).head? = s.head? := by
    cases s with
    | nil => exact (h1.1 rfl).elim
    | cons x s => rfl
   refine ⟨s ++ [dig u], ⟨by simp, fun c hc => ?_, fun h => ?_⟩, by simp; omega, by rw [valN_append s (dig u) 0, h3]; omega, fun _ => by rw [hhd]; exact hh⟩
   ·rcases List.mem_append.1 hc with hc | hc
    ·exact h1.2.1 c hc
    ·simp at hc; subst hc; unfold isDigP; omega
   ·rw [hhd] at h; exact (hh h).elim
theorem text_length (n : Int) : (text n).length ≤ 20 := by
 unfold text
 split
 ·have := digs_length 19 (-n).toNat []
  simp at this ⊢; omega
 ·have := digs_length 19 n.toNat []
  simp at this ⊢; omega
variable (H : Heap)
theorem digs_one {u : Nat} (h : u < 10) : digs 19 u [] = [dig u] := by
 unfold digs
 rw [if_pos (by omega)]
theorem digs_snoc {u : Nat} (h : 10 ≤ u) (h2 : u < 10 ^ 19) : digs 19 u [] = digs 19 (u / 10) [] ++ [dig u] := by
 have e : (10 : Nat) ^ 19 = 10 * 10 ^ 18 := by decide
 obtain ⟨s, hg, hl, hv, hh⟩ := good_of 17 (u / 10) (by omega)
 have hd := dig_toNat u
 have hhd : (s ++ [dig u]).head? = s.head? := by
  cases s with
  | nil => exact (hg.1 rfl).elim
  | cons x s => rfl
 have hg2 : Good (s ++ [dig u]) := by
  refine ⟨by simp, fun c hc => ?_, fun h' => ?_⟩
  ·rcases List.mem_append.1 hc with hc | hc
   ·exact hg.2.1 c hc
   ·simp at hc; subst hc; unfold isDigP; omega
  ·rw [hhd] at h'; exact (hh (by omega) h').elim
 have hv2 : valN 0 (s ++ [dig u]) = u := by rw [valN_append s (dig u) 0, hv]; omega
 have h3 := digs_good 19 (s ++ [dig u]) [] hg2 (by simp; omega)
 have h4 := digs_good 19 s [] hg (by omega)
 rw [hv2, List.append_nil] at h3
 rw [hv, List.append_nil] at h4
 rw [h3, h4]
theorem rowsBytes_one (c : UInt8) : rowsBytes [[.int .u8 (c.toNat : Int)]] = some [c] := by
 have := byte_lt c
 unfold rowsBytes
 rw [if_pos (by omega)]
 simp [rowsBytes]
theorem w8 (u : Nat) {x : Int} (h : x = 48 + ((u % 10 : Nat) : Int)) : IntKind.u8.wrap (IntKind.i64.wrap x) = ((dig u).toNat : Int) := by
 have := dig_toNat u
 rw [w64 (by omega) (by omega), IntKind.wrap_u8]; omega
theorem refDigits_eq : ∀ (k : Nat) (n : Int) (H : Heap), n.natAbs ≤ k → -9223372036854775808 ≤ n → n ≤ 9223372036854775807 → eval tbl noExt n_r01_Digits [.int .i64 n] H = some (.str (text n), H) := by
 intro k
 induction k using Nat.strongRecOn with
 | _ k ih =>
  intro n H hk h1 h2
  have e19 : (10 : Nat) ^ 19 = 10000000000000000000 := by decide
  have hlen := text_length (n.tdiv 10)
  rw [eval_M rfl rfl t_r01_Digits rfl]
  by_cases ha : n < 0
  ·have hx : n.tdiv 10 = -(((-n).toNat / 10 : Nat) : Int) := by
    obtain ⟨m, rfl⟩ : ∃ m : Nat, n = -(m : Int) := ⟨n.natAbs, by omega⟩
    rw [Int.neg_tdiv, Int.tdiv_eq_ediv_of_nonneg (by omega)]; simp
   have hm : n.tmod 10 = -(((-n).toNat % 10 : Nat) : Int) := by
    obtain ⟨m, rfl⟩ : ∃ m : Nat, n = -(m : Int) := ⟨n.natAbs, by omega⟩
    rw [Int.neg_tmod, Int.tmod_eq_emod_of_nonneg (by omega)]; simp
   by_cases hb : -10 < n
   ·have hw := w8 (-n).toNat (x := 48 - n) (by omega)
    have ht : text n = 45 :: [dig (-n).toNat] := by
     unfold text; rw [if_pos ha, digs_one (by omega)]
    simp [c_r01_Digits, ha, hb, hw, rowsBytes_one, ht, chunk, List.replicate]
   ·have hw := w8 (-n).toNat (x := 48 - n.tmod 10) (by omega)
    have ht : text n = text (n.tdiv 10) ++ [dig (-n).toNat] := by
     unfold text
     rw [if_pos ha, if_pos (by rw [hx]; omega), digs_snoc (by omega) (by omega)]
     have : (-n.tdiv 10).toNat = (-n).toNat / 10 := by rw [hx]; omega
     rw [this]; rfl
    have hr := ih (n.tdiv 10).natAbs (by rw [hx]; omega) (n.tdiv 10) [] (Nat.le_refl _) (by rw [hx]; omega) (by rw [hx]; omega)
    have hq : IntKind.i64.wrap (n.tdiv 10) = n.tdiv 10 := w64 (by rw [hx]; omega) (by rw [hx]; omega)
    have hl : (text (n.tdiv 10)).length + 1 < 4611686018427387904 := by omega
    simp [c_r01_Digits, ha, hb, hw, rowsBytes_one, ht, chunk, List.replicate, hr, hq, hl]
  ·have hc : -10 < n := by omega
   have hx : n.tdiv 10 = ((n.toNat / 10 : Nat) : Int) := by rw [Int.tdiv_eq_ediv_of_nonneg (by omega)]; omega
   have hm : n.tmod 10 = ((n.toNat % 10 : Nat) : Int) := by rw [Int.tmod_eq_emod_of_nonneg (by omega)]; omega
   by_cases hb : 9 < n
   ·have hw := w8 n.toNat (x := 48 + n.tmod 10) (by omega)
    have ht : text n = text (n.tdiv 10) ++ [dig n.toNat] := by
     unfold text
     rw [if_neg ha, if_neg (by rw [hx]; omega), digs_snoc (by omega) (by omega)]
     have : (n.tdiv 10).toNat = n.toNat / 10 := by rw [hx]; omega
     rw [this]
    have hr := ih (n.tdiv 10).natAbs (by rw [hx]; omega) (n.tdiv 10) [] (Nat.le_refl _) (by rw [hx]; omega) (by rw [hx]; omega)
    have hq : IntKind.i64.wrap (n.tdiv 10) = n.tdiv 10 := w64 (by rw [hx]; omega) (by rw [hx]; omega)
    have hl : (text (n.tdiv 10)).length + 1 < 4611686018427387904 := by omega
    simp [c_r01_Digits, ha, hb, hc, hw, rowsBytes_one, ht, chunk, List.replicate, hr, hq, hl]
   ·have hw := w8 n.toNat (x := 48 + n) (by omega)
    have ht : text n = [dig n.toNat] := by
     unfold text; rw [if_neg ha, digs_one (by omega)]
    simp [c_r01_Digits, ha, hb, hc, hw, rowsBytes_one, ht, chunk, List.replicate]
set_option maxHeartbeats 1000000
inductive Ex where
 | mk (op n : Int) (s : List UInt8) (x : List Ex)
inductive Sm where
 | mk (op : Int) (s : List UInt8) (n : Int) (e : List Ex) (body els : List Sm) (commit : Bool)
mutual
def Ex.cells : Ex → List V
 | .mk op n s x => [.int .i64 op, .int .i64 n, .str s, .sl 4 (Ex.rows x)]
def Ex.rows : List Ex → List (List V)
 | [] => []
 | e :: l => e.cells :: Ex.rows l
end
mutual
def Sm.cells : Sm → List V
 | .mk op s n e b c k => [.int .i64 op, .str s, .int .i64 n, .sl 4 (Ex.rows e), .sl 7 (Sm.rows b), .sl 7 (Sm.rows c), .bool k]
def Sm.rows : List Sm → List (List V)
 | [] => []
 | e :: l => e.cells :: Sm.rows l
end
theorem Ex.rows_eq (l : List Ex) : Ex.rows l = l.map Ex.cells := by induction l with
 | nil => rfl
 | cons e l ih => simp [Ex.rows, ih]
theorem Sm.rows_eq (l : List Sm) : Sm.rows l = l.map Sm.cells := by induction l with
 | nil => rfl
 | cons e l ih => simp [Sm.rows, ih]
mutual
/-- How many expressions. -/
def Ex.size : Ex → Nat
 | .mk _ _ _ x => 1 + Ex.sizes x
def Ex.sizes : List Ex → Nat
 | [] => 0
 | e :: l => e.size + Ex.sizes l
end
mutual
def Sm.size : Sm → Nat
 | .mk _ _ _ e b c _ => 1 + Ex.sizes e + Sm.sizes b + Sm.sizes c
def Sm.sizes : List Sm → Nat
 | [] => 0
 | e :: l => e.size + Sm.sizes l
end
theorem Ex.sizes_ge : ∀ l : List Ex, l.length ≤ Ex.sizes l
 | [] => Nat.le_refl _
 | e :: l => by
  have := Ex.sizes_ge l
  cases e
  simp only [Ex.sizes, Ex.size, List.length_cons]; omega
theorem Sm.sizes_ge : ∀ l : List Sm, l.length ≤ Sm.sizes l
 | [] => Nat.le_refl _
 | e :: l => by
  have := Sm.sizes_ge l
  cases e
  simp only [Sm.sizes, Sm.size, List.length_cons]; omega
theorem Ex.sizes_mem : ∀ {l : List Ex} {e : Ex}, e ∈ l → e.size ≤ Ex.sizes l
 | [], _, h => by simp at h
 | x :: l, e, h => by
  simp only [Ex.sizes]
  rcases List.mem_cons.1 h with rfl | h
  ·omega
  ·have := Ex.sizes_mem h; omega
theorem Sm.sizes_mem : ∀ {l : List Sm} {e : Sm}, e ∈ l → e.size ≤ Sm.sizes l
 | [], _, h => by simp at h
 | x :: l, e, h => by
  simp only [Sm.sizes]
  rcases List.mem_cons.1 h with rfl | h
  ·omega
  ·have := Sm.sizes_mem h; omega
mutual
/-- A statement, and those in it. -/
def Sm.flat : Sm → List Sm
 | .mk op s n e b c k => .mk op s n e b c k :: (Sm.flats b ++ Sm.flats c)
def Sm.flats : List Sm → List Sm
 | [] => []
 | e :: l => e.flat ++ Sm.flats l
end
theorem Sm.flats_append (a b : List Sm) : Sm.flats (a ++ b) = Sm.flats a ++ Sm.flats b := by
 induction a with
 | nil => rfl
 | cons e l ih => simp [Sm.flats, ih]
mutual
theorem Sm.flat_size : ∀ e : Sm, e.flat.length ≤ e.size
 | .mk op s n e b c k => by
  have := Sm.flats_sizes b
  have := Sm.flats_sizes c
  simp only [Sm.flat, Sm.size, List.length_cons, List.length_append]; omega
theorem Sm.flats_sizes : ∀ l : List Sm, (Sm.flats l).length ≤ Sm.sizes l
 | [] => Nat.le_refl _
 | e :: l => by
  have := Sm.flat_size e
  have := Sm.flats_sizes l
  simp only [Sm.flats, Sm.sizes, List.length_append]; omega
end
theorem at_hp {hp : Heap} {m : Nat} (h : hp.length = m) (L : Heap) (k : Nat) : (hp ++ L)[m + k]? = L[k]? := by
 rw [List.getElem?_append_right (by omega)]; congr 1; omega
theorem set_hp {hp : Heap} {m : Nat} (h : hp.length = m) (L : Heap) (k : Nat) (v : Option (List V)) : (hp ++ L).set (m + k) v = hp ++ L.set k v := by
 rw [List.set_append_right _ _ (by omega)]; congr 2; omega
theorem take_hp {hp : Heap} {m : Nat} (h : hp.length = m) (L : Heap) (k : Nat) : (hp ++ L).take (m + k) = hp ++ L.take k := by
 rw [List.take_append, List.take_of_length_le (by omega)]; congr 2; omega
/-- The blocks in a statement. -/
def Sm.blocks : Sm → List (List Sm)
 | .mk _ _ _ _ b c _ => [b, c]
/-- A program. -/
structure Pg where
 procs : List (List UInt8 × List Sm)
 main : List Sm
 recover : List Sm
 oracles : List (List UInt8 × Ex)
def Pg.pcells (p : Pg) : List (List V) := p.procs.map fun x => [.str x.1, .sl 7 (Sm.rows x.2)]
def Pg.ocells (p : Pg) : List (List V) := p.oracles.map fun x => .str x.1 :: x.2.cells
def Pg.cells (p : Pg) : List V := [.sl 2 p.pcells, .sl 7 (Sm.rows p.main), .sl 7 (Sm.rows p.recover), .sl 5 p.ocells]
def Pg.psize (p : Pg) : Nat := (p.procs.map fun x => 1 + Sm.sizes x.2).sum
def Pg.osize (p : Pg) : Nat := (p.oracles.map fun x => 1 + x.2.size).sum
def Pg.size (p : Pg) : Nat := p.psize + Sm.sizes p.main + Sm.sizes p.recover + p.osize
def Pg.parts (p : Pg) : List (List Sm) := p.procs.map (·.2) ++ [p.main, p.recover]
def brow (b : List Sm) : List V := [.sl 7 (Sm.rows b)]
def Pg.flats (p : Pg) : List Sm := Sm.flats p.parts.flatten
theorem sizes_append (a b : List Sm) : Sm.sizes (a ++ b) = Sm.sizes a + Sm.sizes b := by
 induction a with
 | nil => simp [Sm.sizes]
 | cons e l ih => simp only [List.cons_append, Sm.sizes, ih]; omega
theorem Pg.parts_size (p : Pg) : Sm.sizes p.parts.flatten + p.procs.length ≤ p.size := by
 have h : ∀ l : List (List UInt8 × List Sm), Sm.sizes (l.map (·.2)).flatten + l.length = (l.map fun x => 1 + Sm.sizes x.2).sum := by
  intro l
  induction l with
  | nil => rfl
  | cons x l ih => simp only [List.map_cons, List.flatten_cons, sizes_append, List.length_cons, List.sum_cons]; omega
 have := h p.procs
 simp only [Pg.parts, List.flatten_append, sizes_append, Pg.size, Pg.psize, List.flatten_cons, List.flatten_nil, List.append_nil]
 omega
theorem sizes_flatten {bs : List (List Sm)} {b : List Sm} (h : b ∈ bs) : Sm.sizes b ≤ Sm.sizes bs.flatten := by
 induction bs with
 | nil => simp at h
 | cons x l ih =>
  simp only [List.flatten_cons, sizes_append]
  rcases List.mem_cons.1 h with rfl | h
  ·omega
  ·have := ih h; omega
theorem Pg.prow {p : Pg} {i : Nat} {e : List UInt8 × List Sm} (he : p.procs[i]? = some e) : p.pcells[i]? = some [.str e.1, .sl 7 (Sm.rows e.2)] := by rw [Pg.pcells, List.getElem?_map, he]; rfl
theorem Pg.pcells_len (p : Pg) : p.pcells.length = p.procs.length := by simp [Pg.pcells]
theorem Pg.ocells_len (p : Pg) : p.ocells.length = p.oracles.length := by simp [Pg.ocells]
def Sm.op : Sm → Int
 | .mk op _ _ _ _ _ _ => op
mutual
/-- Are two the same? -/
def Ex.same : Ex → Ex → Bool
 | .mk op n s x, .mk op' n' s' x' => op == op' && n == n' && s == s' && Ex.sames x x'
def Ex.sames : List Ex → List Ex → Bool
 | [], [] => true
 | a :: l, b :: m => a.same b && Ex.sames l m
 | _, _ => false
end
mutual
def Sm.same : Sm → Sm → Bool
 | .mk op s n e b c k, .mk op' s' n' e' b' c' k' => op == op' && s == s' && n == n' && k == k' && Ex.sames e e' && Sm.sames b b' && Sm.sames c c'
def Sm.sames : List Sm → List Sm → Bool
 | [], [] => true
 | a :: l, b :: m => a.same b && Sm.sames l m
 | _, _ => false
end
theorem Ex.rows_len (l : List Ex) : (Ex.rows l).length = l.length := by simp [Ex.rows_eq]
theorem Sm.rows_len (l : List Sm) : (Sm.rows l).length = l.length := by simp [Sm.rows_eq]
theorem Ex.rows_at {l : List Ex} {i : Nat} {e : Ex} (h : l[i]? = some e) : (Ex.rows l)[i]? = some e.cells := by rw [Ex.rows_eq, List.getElem?_map, h]; rfl
theorem Sm.rows_at {l : List Sm} {i : Nat} {e : Sm} (h : l[i]? = some e) : (Sm.rows l)[i]? = some e.cells := by rw [Sm.rows_eq, List.getElem?_map, h]; rfl
theorem Ex.cells_shape (e : Ex) : ∃ a b c d, e.cells = [.int .i64 a, .int .i64 b, .str c, .sl 4 d] := by cases e; exact ⟨_, _, _, _, rfl⟩
theorem Sm.cells_shape (e : Sm) : ∃ a b c d f g h, e.cells = [.int .i64 a, .str b, .int .i64 c, .sl 4 d, .sl 7 f, .sl 7 g, .bool h] := by cases e; exact ⟨_, _, _, _, _, _, _, rfl⟩
theorem at_some {α : Type} {l : List α} {i : Nat} (h : i < l.length) : ∃ e, l[i]? = some e ∧ e ∈ l ∧ l.drop i = e :: l.drop (i + 1) := by
 refine ⟨l[i], List.getElem?_eq_getElem h, List.getElem_mem h, ?_⟩
 rw [List.drop_eq_getElem_cons h]
theorem each_expr_loop (call : CallF) (R : Option (V × Heap)) (n : Nat) (H : Heap) (l : List Ex) (hl : l.length ≤ 20000) (hf : ∀ e ∈ l, ∀ K, call n_tree_clonedExpr [.agg e.cells] K = some (.agg e.cells, K)) (k : List Item)
  (hexit : ∀ φ' K, K.take n = H → n ≤ K.length → Fr.get φ' 5 = .own 4 (Ex.rows l) → M call k φ' K = R) :
  ∀ (j i : Nat) (φ : Fr) (K : Heap), i + j = l.length → K.take n = H → n ≤ K.length → Fr.get φ 1 = .fn (.func n_tree_clonedExpr) [] [] → Fr.get φ 5 = .own 4 (Ex.rows (l.take i)) → Fr.get φ 8 = .sl 4 (Ex.rows l) → Fr.get φ 9 = .int .i64 l.length → Fr.get φ 10 = .int .i64 i →
   M call (.code l_tree_each_api_Expr_0 :: .blk 0 :: k) φ K = R := by
 intro j
 induction j with
 | zero =>
  intro i φ K hj hK hn h1 h5 h8 h9 h10
  have hi : ¬ ((i : Int) < l.length) := by omega
  have h5' : Fr.get φ 5 = .own 4 (Ex.rows l) := by rw [h5, List.take_of_length_le (by omega)]
  rw [l_tree_each_api_Expr_0, M_loop, ← l_tree_each_api_Expr_0]
  simp [b_tree_each_api_Expr_0, h1, h5', h8, h9, h10, hi]
  exact hexit _ _ hK hn (by simp)
 | succ j ih =>
  intro i φ K hj hK hn h1 h5 h8 h9 h10
  have hi : (i : Int) < l.length := by omega
  have hil : i < l.length := by omega
  obtain ⟨e, he⟩ : ∃ e, l[i]? = some e := ⟨l[i], List.getElem?_eq_getElem hil⟩
  have hmem : e ∈ l := List.mem_of_getElem? he
  have hrow : (Ex.rows l)[i]? = some e.cells := by rw [Ex.rows_eq, List.getElem?_map, he]; rfl
  have hcl : (Ex.rows l).length = l.length := by rw [Ex.rows_eq]; simp
  have hck : (Ex.rows (l.take i)).length = i := by rw [Ex.rows_eq]; simp; omega
  have hnext : Ex.rows (l.take i) ++ [e.cells] = Ex.rows (l.take (i + 1)) := by
   rw [Ex.rows_eq, Ex.rows_eq, List.take_add_one, he]; simp
  have hw : IntKind.i64.wrap ((i : Int) + 1) = ((i + 1 : Nat) : Int) := by rw [w64 (by omega) (by omega)]; rfl
  have hb : 2 * (i + 1) * 56 ≤ 281474976710656 := by omega
  obtain ⟨op, m, s, x⟩ := e
  simp only [Ex.cells] at hrow hnext
  have hcall := hf _ hmem
  simp only [Ex.cells] at hcall
  rw [l_tree_each_api_Expr_0, M_loop, ← l_tree_each_api_Expr_0]
  simp [b_tree_each_api_Expr_0, h1, h5, h8, h9, h10, hi, hcl, hrow, hcall, hck, get0, set0, hnext, hw, hb]
  refine ih (i + 1) _ _ (by omega) (take_more hK hn _) (by simp; omega) ?_ ?_ ?_ ?_ ?_ <;> simp
/-- A list, every element cloned. -/
theorem each_expr_eq (l : List Ex) (hl : l.length ≤ 20000) (hf : ∀ e ∈ l, ∀ K, eval tbl noExt n_tree_clonedExpr [.agg e.cells] K = some (.agg e.cells, K)) (H : Heap) :
  eval tbl noExt n_tree_each_api_Expr [.sl 4 (Ex.rows l), .fn (.func n_tree_clonedExpr) [] []] H = some (.own 4 (Ex.rows l), H) := by
 have hcl : (Ex.rows l).length = l.length := by rw [Ex.rows_eq]; simp
 rw [eval_M rfl rfl t_tree_each_api_Expr rfl]
 simp [c_tree_each_api_Expr, hcl]
 refine each_expr_loop _ _ H.length H l hl hf _ (fun φ' K hK hn h5 => by simp [r_tree_each_api_Expr_0, h5, hK]) l.length 0 _ H (by omega) (by simp) (Nat.le_refl _) ?_ ?_ ?_ ?_ ?_ <;> simp [Ex.rows]
theorem clonedExpr_eq : ∀ (n : Nat) (e : Ex), e.size ≤ n → n ≤ 20000 → ∀ H, eval tbl noExt n_tree_clonedExpr [.agg e.cells] H = some (.agg e.cells, H) := by
 intro n
 induction n with
 | zero =>
  intro e h
  cases e
  simp only [Ex.size] at h; omega
 | succ n ih =>
  intro e h hn H
  obtain ⟨op, m, s, x⟩ := e
  simp only [Ex.size] at h
  have hx := Ex.sizes_ge x
  have he := each_expr_eq x (by omega) (fun e he K => ih e (by have := Ex.sizes_mem he; omega) (by omega) K) []
  rw [eval_M rfl rfl t_tree_clonedExpr rfl]
  simp [c_tree_clonedExpr, Ex.cells, he, get0, get1, set0, set1]
theorem each_stmt_loop (call : CallF) (R : Option (V × Heap)) (n : Nat) (H : Heap) (l : List Sm) (hl : l.length ≤ 20000) (hf : ∀ e ∈ l, ∀ K, call n_tree_cloned [.agg e.cells] K = some (.agg e.cells, K)) (k : List Item)
  (hexit : ∀ φ' K, K.take n = H → n ≤ K.length → Fr.get φ' 5 = .own 7 (Sm.rows l) → M call k φ' K = R) :
  ∀ (j i : Nat) (φ : Fr) (K : Heap), i + j = l.length → K.take n = H → n ≤ K.length → Fr.get φ 1 = .fn (.func n_tree_cloned) [] [] → Fr.get φ 5 = .own 7 (Sm.rows (l.take i)) → Fr.get φ 8 = .sl 7 (Sm.rows l) → Fr.get φ 9 = .int .i64 l.length → Fr.get φ 10 = .int .i64 i →
   M call (.code l_tree_each_api_Stmt_0 :: .blk 0 :: k) φ K = R := by
 intro j
 induction j with
 | zero =>
  intro i φ K hj hK hn h1 h5 h8 h9 h10
  have hi : ¬ ((i : Int) < l.length) := by omega
  have h5' : Fr.get φ 5 = .own 7 (Sm.rows l) := by rw [h5, List.take_of_length_le (by omega)]
  rw [l_tree_each_api_Stmt_0, M_loop, ← l_tree_each_api_Stmt_0]
  simp [b_tree_each_api_Stmt_0, h1, h5', h8, h9, h10, hi]
  exact hexit _ _ hK hn (by simp)
 | succ j ih =>
  intro i φ K hj hK hn h1 h5 h8 h9 h10
  have hi : (i : Int) < l.length := by omega
  have hil : i < l.length := by omega
  obtain ⟨e, he⟩ : ∃ e, l[i]? = some e := ⟨l[i], List.getElem?_eq_getElem hil⟩
  have hmem : e ∈ l := List.mem_of_getElem? he
  have hrow : (Sm.rows l)[i]? = some e.cells := by rw [Sm.rows_eq, List.getElem?_map, he]; rfl
  have hcl : (Sm.rows l).length = l.length := by rw [Sm.rows_eq]; simp
  have hck : (Sm.rows (l.take i)).length = i := by rw [Sm.rows_eq]; simp; omega
  have hnext : Sm.rows (l.take i) ++ [e.cells] = Sm.rows (l.take (i + 1)) := by
   rw [Sm.rows_eq, Sm.rows_eq, List.take_add_one, he]; simp
  have hw : IntKind.i64.wrap ((i : Int) + 1) = ((i + 1 : Nat) : Int) := by rw [w64 (by omega) (by omega)]; rfl
  have hb : 2 * (i + 1) * 112 ≤ 281474976710656 := by omega
  obtain ⟨op, s, m, x, b, c, g⟩ := e
  simp only [Sm.cells] at hrow hnext
  have hcall := hf _ hmem
  simp only [Sm.cells] at hcall
  rw [l_tree_each_api_Stmt_0, M_loop, ← l_tree_each_api_Stmt_0]
  simp [b_tree_each_api_Stmt_0, h1, h5, h8, h9, h10, hi, hcl, hrow, hcall, hck, get0, set0, hnext, hw, hb]
  refine ih (i + 1) _ _ (by omega) (take_more hK hn _) (by simp; omega) ?_ ?_ ?_ ?_ ?_ <;> simp
/-- A list, every element cloned. -/
theorem each_stmt_eq (l : List Sm) (hl : l.length ≤ 20000) (hf : ∀ e ∈ l, ∀ K, eval tbl noExt n_tree_cloned [.agg e.cells] K = some (.agg e.cells, K)) (H : Heap) :
  eval tbl noExt n_tree_each_api_Stmt [.sl 7 (Sm.rows l), .fn (.func n_tree_cloned) [] []] H = some (.own 7 (Sm.rows l), H) := by
 have hcl : (Sm.rows l).length = l.length := by rw [Sm.rows_eq]; simp
 rw [eval_M rfl rfl t_tree_each_api_Stmt rfl]
 simp [c_tree_each_api_Stmt, hcl]
 refine each_stmt_loop _ _ H.length H l hl hf _ (fun φ' K hK hn h5 => by simp [r_tree_each_api_Stmt_0, h5, hK]) l.length 0 _ H (by omega) (by simp) (Nat.le_refl _) ?_ ?_ ?_ ?_ ?_ <;> simp [Sm.rows]
theorem cloned_eq : ∀ (n : Nat) (e : Sm), e.size ≤ n → n ≤ 20000 → ∀ H, eval tbl noExt n_tree_cloned [.agg e.cells] H = some (.agg e.cells, H) := by
 intro n
 induction n with
 | zero =>
  intro e h
  cases e
  simp only [Sm.size] at h; omega
 | succ n ih =>
  intro e h hn H
  obtain ⟨op, s, m, x, b, c, g⟩ := e
  simp only [Sm.size] at h
  have hx := Ex.sizes_ge x
  have hb := Sm.sizes_ge b
  have hc := Sm.sizes_ge c
  have he := each_expr_eq x (by omega) (fun e he K => clonedExpr_eq 20000 e (by have := Ex.sizes_mem he; omega) (by omega) K) []
  have he2 := each_stmt_eq b (by omega) (fun e he K => ih e (by have := Sm.sizes_mem he; omega) (by omega) K) []
  have he3 := each_stmt_eq c (by omega) (fun e he K => ih e (by have := Sm.sizes_mem he; omega) (by omega) K) []
  rw [eval_M rfl rfl t_tree_cloned rfl]
  simp [c_tree_cloned, Sm.cells, he, he2, he3, get0, get1, set0, set1]
mutual
/-- Are all texts short? -/
def Ex.txt : Ex → Prop
 | .mk _ _ s x => s.length ≤ 300 ∧ Ex.txts x
def Ex.txts : List Ex → Prop
 | [] => True
 | e :: l => e.txt ∧ Ex.txts l
end
mutual
def Sm.txt : Sm → Prop
 | .mk _ s _ e b c _ => s.length ≤ 300 ∧ Ex.txts e ∧ Sm.txts b ∧ Sm.txts c
def Sm.txts : List Sm → Prop
 | [] => True
 | e :: l => e.txt ∧ Sm.txts l
end
theorem Ex.sizes_append (a b : List Ex) : Ex.sizes (a ++ b) = Ex.sizes a + Ex.sizes b := by
 induction a with
 | nil => simp [Ex.sizes]
 | cons e l ih => simp only [List.cons_append, Ex.sizes, ih]; omega
theorem Ex.txts_append {a b : List Ex} : Ex.txts (a ++ b) ↔ Ex.txts a ∧ Ex.txts b := by
 induction a with
 | nil => simp [Ex.txts]
 | cons e l ih => simp only [List.cons_append, Ex.txts, ih, and_assoc]
theorem Sm.txts_append {a b : List Sm} : Sm.txts (a ++ b) ↔ Sm.txts a ∧ Sm.txts b := by
 induction a with
 | nil => simp [Sm.txts]
 | cons e l ih => simp only [List.cons_append, Sm.txts, ih, and_assoc]
theorem take_next {α : Type} {l : List α} {i : Nat} {e : α} (h : l[i]? = some e) : l.take (i + 1) = l.take i ++ [e] := by
 rw [List.take_add_one, h]; rfl
def Pg.bodies (p : Pg) : List (List Sm) := p.procs.map (·.2)
def Pg.exprs (p : Pg) : List Ex := p.oracles.map (·.2)
theorem Pg.size_eq (p : Pg) : p.size = p.procs.length + p.oracles.length + Sm.sizes p.bodies.flatten + Sm.sizes p.main + Sm.sizes p.recover + Ex.sizes p.exprs := by
 have h : ∀ l : List (List UInt8 × List Sm), Sm.sizes (l.map (·.2)).flatten + l.length = (l.map fun x => 1 + Sm.sizes x.2).sum := by
  intro l
  induction l with
  | nil => rfl
  | cons x l ih => simp only [List.map_cons, List.flatten_cons, Go.AM.Spec.sizes_append, List.length_cons, List.sum_cons]; omega
 have h2 : ∀ l : List (List UInt8 × Ex), Ex.sizes (l.map (·.2)) + l.length = (l.map fun x => 1 + x.2.size).sum := by
  intro l
  induction l with
  | nil => rfl
  | cons x l ih => simp only [List.map_cons, Ex.sizes, List.length_cons, List.sum_cons]; omega
 have := h p.procs
 have := h2 p.oracles
 simp only [Pg.size, Pg.psize, Pg.osize, Pg.bodies, Pg.exprs]
 omega
/-- Are all its texts short? -/
def Pg.txt (p : Pg) : Prop := (∀ x ∈ p.procs, x.1.length ≤ 300 ∧ Sm.txts x.2) ∧ Sm.txts p.main ∧ Sm.txts p.recover ∧ (∀ x ∈ p.oracles, x.1.length ≤ 300 ∧ x.2.txt)
theorem Pg.orow {p : Pg} {i : Nat} {e : List UInt8 × Ex} (he : p.oracles[i]? = some e) : p.ocells[i]? = some (.str e.1 :: e.2.cells) := by rw [Pg.ocells, List.getElem?_map, he]; rfl
/-! The document's lists. -/
def SzE (e : Ex) : Prop := ∀ left : Int, -1000 ≤ left → left ≤ 1000 → ∃ r : Int, eval tbl noExt n_r16_expr [.agg e.cells, .int .i64 left] [] = some (.int .i64 r, []) ∧ -1000 ≤ r ∧ r ≤ 1001 ∧ (r ≤ left → r = e.size ∧ e.txt)
def SzB (l : List Sm) : Prop := ∀ left : Int, -1000 ≤ left → left ≤ 1000 → ∃ r : Int, eval tbl noExt n_r16_block [.sl 7 (Sm.rows l), .int .i64 left] [] = some (.int .i64 r, []) ∧ -1000 ≤ r ∧ r ≤ 1001 ∧ (r ≤ left → r = Sm.sizes l ∧ Sm.txts l)
theorem wi {n : Int} (h1 : -100000 ≤ n) (h2 : n ≤ 100000) : IntKind.i64.wrap n = n := w64 (by omega) (by omega)
theorem expr_loop (a0 a1 a2 : V) (l : List Ex) (left : Int) (h1l : left ≤ 1000) (hf : ∀ e ∈ l, SzE e) (Q : Option (V × Heap) → Prop) (k : List Item)
  (hret : ∀ φ', Fr.get φ' 4 = .int .i64 (left + 1) → Q (retK k φ' [some [a0, a1, a2, .sl 4 (Ex.rows l)]]))
  (hexit : ∀ φ', Fr.get φ' 5 = .int .i64 (1 + Ex.sizes l) → 1 + (Ex.sizes l : Int) ≤ left → Ex.txts l → Q (M (eval tbl noExt) k φ' [some [a0, a1, a2, .sl 4 (Ex.rows l)]])) :
  ∀ (j i : Nat) (φ : Fr), i + j = l.length → 1 + (Ex.sizes (l.take i) : Int) ≤ left → Ex.txts (l.take i) → Fr.get φ 1 = .int .i64 left → Fr.get φ 2 = .ptr 0 0 → Fr.get φ 5 = .int .i64 (1 + Ex.sizes (l.take i)) → Fr.get φ 6 = .int .i64 i →
   Q (M (eval tbl noExt) (.code l_r16_expr_0 :: .blk 0 :: k) φ [some [a0, a1, a2, .sl 4 (Ex.rows l)]]) := by
 intro j
 induction j with
 | zero =>
  intro i φ hj hle ht h1 h2 h5 h6
  have hi : ¬ ((i : Int) < l.length) := by omega
  rw [List.take_of_length_le (by omega)] at hle ht h5
  rw [l_r16_expr_0, M_loop, ← l_r16_expr_0]
  simp [b_r16_expr_0, h1, h2, h5, h6, hi, Ex.rows_len]
  exact hexit _ (by simp [h5]) hle ht
 | succ j ih =>
  intro i φ hj hle ht h1 h2 h5 h6
  have hi : (i : Int) < l.length := by omega
  obtain ⟨e, he, hmem, hd⟩ := at_some (l := l) (i := i) (by omega)
  have hre := Ex.rows_at he
  have hi2 := Ex.sizes_ge (l.take i)
  rw [List.length_take, Nat.min_eq_left (by omega)] at hi2
  have hw : IntKind.i64.wrap ((i : Int) + 1) = ((i + 1 : Nat) : Int) := by rw [wi (by omega) (by omega)]; rfl
  obtain ⟨r, hr, hr0, hr1, hr2⟩ := hf e hmem (left - (1 + Ex.sizes (l.take i))) (by omega) (by omega)
  obtain ⟨c0, c1, c2, c3, hc⟩ := e.cells_shape
  rw [hc] at hr hre
  have hw1 : IntKind.i64.wrap (left - (1 + (Ex.sizes (l.take i) : Int))) = left - (1 + (Ex.sizes (l.take i) : Int)) := wi (by omega) (by omega)
  have hw2 : IntKind.i64.wrap (1 + (Ex.sizes (l.take i) : Int) + r) = 1 + (Ex.sizes (l.take i) : Int) + r := wi (by omega) (by omega)
  have hw3 : IntKind.i64.wrap (left + 1) = left + 1 := wi (by omega) (by omega)
  have hnext := take_next he
  rw [l_r16_expr_0, M_loop, ← l_r16_expr_0]
  by_cases hgt : left < 1 + (Ex.sizes (l.take i) : Int) + r
  ·simp [b_r16_expr_0, h1, h2, h5, h6, hi, Ex.rows_len, hre, hw1, hr, hw2, hgt, hw3]
   exact hret _ (by simp)
  ·obtain ⟨hr3, hr4⟩ := hr2 (by omega)
   have hsz : 1 + (Ex.sizes (l.take i) : Int) + r = 1 + (Ex.sizes (l.take (i + 1)) : Int) := by
    rw [hnext, Ex.sizes_append]; simp only [Ex.sizes]; omega
   simp [b_r16_expr_0, h1, h2, h5, h6, hi, Ex.rows_len, hre, hw1, hr, hw2, hgt, hw]
   refine ih (i + 1) _ (by omega) (by omega) (by rw [hnext, Ex.txts_append]; exact ⟨ht, hr4, trivial⟩) (by simp [h1]) (by simp [h2]) (by simp [hsz]) (by simp)
theorem expr_ok : ∀ (n : Nat) (e : Ex), e.size ≤ n → SzE e := by
 intro n
 induction n with
 | zero => intro e h; cases e; simp only [Ex.size] at h; omega
 | succ n ih =>
  intro e h left hl0 hl1
  obtain ⟨op, w, s, x⟩ := e
  simp only [Ex.size] at h
  have hw3 : IntKind.i64.wrap (left + 1) = left + 1 := wi (by omega) (by omega)
  rw [eval_M rfl rfl t_r16_expr rfl]
  by_cases h1 : left < 1
  ·refine ⟨left + 1, ?_, by omega, by omega, fun h => by omega⟩
   simp [c_r16_expr, Ex.cells, h1, hw3]
  ·by_cases h2 : 300 < s.length
   ·have h2' : (300 : Int) < s.length := by omega
    refine ⟨left + 1, ?_, by omega, by omega, fun h => by omega⟩
    simp [c_r16_expr, Ex.cells, h1, h2', hw3]
   ·have h2' : ¬ (300 : Int) < s.length := by omega
    simp [c_r16_expr, Ex.cells, h1, h2']
    refine expr_loop _ _ _ x left hl1 (fun e he => ih e (by have := Ex.sizes_mem he; omega)) (fun o => ∃ r : Int, o = some (.int .i64 r, []) ∧ -1000 ≤ r ∧ r ≤ 1001 ∧ (r ≤ left → r = (Ex.mk op w s x).size ∧ (Ex.mk op w s x).txt)) _ (fun φ' g => ?_) (fun φ' g hle ht => ?_) x.length 0 _ (by omega) (by simp [Ex.sizes]; omega) (by simp [Ex.txts]) (by simp) (by simp) (by simp [Ex.sizes]) (by simp)
    ·exact ⟨left + 1, by simp [g], by omega, by omega, fun h => by omega⟩
    ·refine ⟨1 + Ex.sizes x, by simp [r_r16_expr_0, g], by omega, by omega, fun h => ⟨by simp [Ex.size], ?_⟩⟩
     simp only [Ex.txt]
     exact ⟨by omega, ht⟩
/-- The expressions of a statement. -/
theorem block_inner (l : List Sm) (i0 : Nat) (op : Int) (s : List UInt8) (w : Int) (x : List Ex) (b c : List Sm) (g : Bool) (hi0 : (i0 : Int) < l.length) (hrow : (Sm.rows l)[i0]? = some (Sm.cells (.mk op s w x b c g))) (left n0 : Int) (hl0 : -1000 ≤ left) (h1l : left ≤ 1000) (hn0 : 0 ≤ n0) (Q : Option (V × Heap) → Prop) (k : List Item)
  (hret : ∀ φ', Fr.get φ' 4 = .int .i64 (left + 1) → Q (retK k φ' []))
  (hexit : ∀ φ', Fr.get φ' 0 = .sl 7 (Sm.rows l) → Fr.get φ' 1 = .int .i64 left → Fr.get φ' 6 = .int .i64 i0 → Fr.get φ' 5 = .int .i64 (n0 + Ex.sizes x) → n0 + (Ex.sizes x : Int) ≤ left → Ex.txts x → Q (M (eval tbl noExt) k φ' [])) :
  ∀ (j i : Nat) (φ : Fr), i + j = x.length → n0 + (Ex.sizes (x.take i) : Int) ≤ left → Ex.txts (x.take i) → Fr.get φ 0 = .sl 7 (Sm.rows l) → Fr.get φ 1 = .int .i64 left → Fr.get φ 6 = .int .i64 i0 → Fr.get φ 5 = .int .i64 (n0 + Ex.sizes (x.take i)) → Fr.get φ 7 = .int .i64 i →
   Q (M (eval tbl noExt) (.code l_r16_block_0 :: .blk 2 :: k) φ []) := by
 simp only [Sm.cells] at hrow
 intro j
 induction j with
 | zero =>
  intro i φ hj hle ht h0 h1 h6 h5 h7
  have hi : ¬ ((i : Int) < x.length) := by omega
  rw [List.take_of_length_le (by omega)] at hle ht h5
  rw [l_r16_block_0, M_loop, ← l_r16_block_0]
  simp [b_r16_block_0, h0, h1, h5, h6, h7, hi, hi0, hrow, Ex.rows_len, Sm.rows_len]
  exact hexit _ (by simp [h0]) (by simp [h1]) (by simp [h6]) (by simp [h5]) hle ht
 | succ j ih =>
  intro i φ hj hle ht h0 h1 h6 h5 h7
  have hi : (i : Int) < x.length := by omega
  obtain ⟨e, he, hmem, hd⟩ := at_some (l := x) (i := i) (by omega)
  have hre := Ex.rows_at he
  have hi2 := Ex.sizes_ge (x.take i)
  rw [List.length_take, Nat.min_eq_left (by omega)] at hi2
  have hw : IntKind.i64.wrap ((i : Int) + 1) = ((i + 1 : Nat) : Int) := by rw [wi (by omega) (by omega)]; rfl
  obtain ⟨r, hr, hr0, hr1, hr2⟩ := expr_ok e.size e (Nat.le_refl _) (left - (n0 + Ex.sizes (x.take i))) (by omega) (by omega)
  obtain ⟨c0, c1, c2, c3, hc⟩ := e.cells_shape
  rw [hc] at hr hre
  have hw1 : IntKind.i64.wrap (left - (n0 + (Ex.sizes (x.take i) : Int))) = left - (n0 + (Ex.sizes (x.take i) : Int)) := wi (by omega) (by omega)
  have hw2 : IntKind.i64.wrap (n0 + (Ex.sizes (x.take i) : Int) + r) = n0 + (Ex.sizes (x.take i) : Int) + r := wi (by omega) (by omega)
  have hw3 : IntKind.i64.wrap (left + 1) = left + 1 := wi (by omega) (by omega)
  have hnext := take_next he
  rw [l_r16_block_0, M_loop, ← l_r16_block_0]
  by_cases hgt : left < n0 + (Ex.sizes (x.take i) : Int) + r
  ·simp [b_r16_block_0, h0, h1, h5, h6, h7, hi, hi0, hrow, Ex.rows_len, Sm.rows_len, hre, hw1, hr, hw2, hgt, hw3]
   exact hret _ (by simp)
  ·obtain ⟨hr3, hr4⟩ := hr2 (by omega)
   have hsz : n0 + (Ex.sizes (x.take i) : Int) + r = n0 + (Ex.sizes (x.take (i + 1)) : Int) := by
    rw [hnext, Ex.sizes_append]; simp only [Ex.sizes]; omega
   simp [b_r16_block_0, h0, h1, h5, h6, h7, hi, hi0, hrow, Ex.rows_len, Sm.rows_len, hre, hw1, hr, hw2, hgt, hw]
   refine ih (i + 1) _ (by omega) (by omega) (by rw [hnext, Ex.txts_append]; exact ⟨ht, hr4, trivial⟩) (by simp [h0]) (by simp [h1]) (by simp [h6]) (by simp [hsz]) (by simp)
theorem block_loop (l : List Sm) (left : Int) (hl0 : -1000 ≤ left) (h1l : left ≤ 1000) (hf : ∀ e ∈ l, ∀ b ∈ e.blocks, SzB b) (Q : Option (V × Heap) → Prop) (k : List Item)
  (hret : ∀ φ', Fr.get φ' 4 = .int .i64 (left + 1) → Q (retK k φ' []))
  (hexit : ∀ φ', Fr.get φ' 5 = .int .i64 (Sm.sizes l) → (Sm.sizes l : Int) ≤ 1000 → Sm.txts l → Q (M (eval tbl noExt) k φ' [])) :
  ∀ (j i : Nat) (φ : Fr), i + j = l.length → (Sm.sizes (l.take i) : Int) ≤ 1000 → Sm.txts (l.take i) → Fr.get φ 0 = .sl 7 (Sm.rows l) → Fr.get φ 1 = .int .i64 left → Fr.get φ 5 = .int .i64 (Sm.sizes (l.take i)) → Fr.get φ 6 = .int .i64 i →
   Q (M (eval tbl noExt) (.code l_r16_block_1 :: .blk 0 :: k) φ []) := by
 intro j
 induction j with
 | zero =>
  intro i φ hj hle ht h0 h1 h5 h6
  have hi : ¬ ((i : Int) < l.length) := by omega
  rw [List.take_of_length_le (by omega)] at hle ht h5
  rw [l_r16_block_1, M_loop, ← l_r16_block_1]
  simp [b_r16_block_1, h0, h1, h5, h6, hi, Sm.rows_len]
  exact hexit _ (by simp [h5]) hle ht
 | succ j ih =>
  intro i φ hj hle ht h0 h1 h5 h6
  have hi : (i : Int) < l.length := by omega
  obtain ⟨e, he, hmem, hd⟩ := at_some (l := l) (i := i) (by omega)
  have hre := Sm.rows_at he
  have hi2 := Sm.sizes_ge (l.take i)
  rw [List.length_take, Nat.min_eq_left (by omega)] at hi2
  have hw : IntKind.i64.wrap ((i : Int) + 1) = ((i + 1 : Nat) : Int) := by rw [wi (by omega) (by omega)]; rfl
  have hfe := hf e hmem
  have hnext := take_next he
  obtain ⟨op, s, w, x, b, c, g⟩ := e
  have hre' := hre
  simp only [Sm.cells] at hre
  have hw1 : IntKind.i64.wrap ((Sm.sizes (l.take i) : Int) + 1) = (Sm.sizes (l.take i) : Int) + 1 := wi (by omega) (by omega)
  have hw3 : IntKind.i64.wrap (left + 1) = left + 1 := wi (by omega) (by omega)
  rw [l_r16_block_1, M_loop, ← l_r16_block_1]
  by_cases hgt : left < (Sm.sizes (l.take i) : Int) + 1
  ·simp [b_r16_block_1, h0, h1, h5, h6, hi, Sm.rows_len, hre, hw1, hgt, hw3]
   exact hret _ (by simp)
  by_cases hs : 300 < s.length
  ·have hs' : (300 : Int) < s.length := by omega
   simp [b_r16_block_1, h0, h1, h5, h6, hi, Sm.rows_len, hre, hw1, hgt, hw3, hs']
   exact hret _ (by simp)
  have hs' : ¬ (300 : Int) < s.length := by omega
  simp [b_r16_block_1, h0, h1, h5, h6, hi, Sm.rows_len, hre, hw1, hgt, hw3, hs']
  refine block_inner l i op s w x b c g hi hre' left ((Sm.sizes (l.take i) : Int) + 1) hl0 h1l (by omega) Q _ (fun φ' q => ?_) (fun φ' q0 q1 q6 q5 qle qt => ?_) x.length 0 _ (by omega) (by simp [Ex.sizes]; omega) (by simp [Ex.txts]) (by simp [h0]) (by simp [h1]) (by simp [h6]) (by simp [Ex.sizes]) (by simp)
  ·simp
   exact hret _ q
  ·obtain ⟨r, hr, hr0, hr1, hr2⟩ := hfe b (by simp [Sm.blocks]) (left - ((Sm.sizes (l.take i) : Int) + 1 + Ex.sizes x)) (by omega) (by omega)
   have hw4 : IntKind.i64.wrap (left - ((Sm.sizes (l.take i) : Int) + 1 + Ex.sizes x)) = left - ((Sm.sizes (l.take i) : Int) + 1 + Ex.sizes x) := wi (by omega) (by omega)
   have hw5 : IntKind.i64.wrap ((Sm.sizes (l.take i) : Int) + 1 + Ex.sizes x + r) = (Sm.sizes (l.take i) : Int) + 1 + Ex.sizes x + r := wi (by omega) (by omega)
   by_cases hgt2 : left < (Sm.sizes (l.take i) : Int) + 1 + Ex.sizes x + r
   ·simp [r_r16_block_0, q0, q1, q5, q6, hi, Sm.rows_len, hre, hw4, hr, hw5, hgt2, hw3]
    exact hret _ (by simp)
   obtain ⟨hr3, hr4⟩ := hr2 (by omega)
   obtain ⟨t, ht1, ht0, ht2, ht3⟩ := hfe c (by simp [Sm.blocks]) (left - ((Sm.sizes (l.take i) : Int) + 1 + Ex.sizes x + r)) (by omega) (by omega)
   have hw6 : IntKind.i64.wrap (left - ((Sm.sizes (l.take i) : Int) + 1 + Ex.sizes x + r)) = left - ((Sm.sizes (l.take i) : Int) + 1 + Ex.sizes x + r) := wi (by omega) (by omega)
   have hw7 : IntKind.i64.wrap ((Sm.sizes (l.take i) : Int) + 1 + Ex.sizes x + r + t) = (Sm.sizes (l.take i) : Int) + 1 + Ex.sizes x + r + t := wi (by omega) (by omega)
   by_cases hgt3 : left < (Sm.sizes (l.take i) : Int) + 1 + Ex.sizes x + r + t
   ·simp [r_r16_block_0, q0, q1, q5, q6, hi, Sm.rows_len, hre, hw4, hr, hw5, hgt2, hw3, hw6, ht1, hw7, hgt3]
    exact hret _ (by simp)
   obtain ⟨ht4, ht5⟩ := ht3 (by omega)
   have hsz : (Sm.sizes (l.take i) : Int) + 1 + Ex.sizes x + r + t = (Sm.sizes (l.take (i + 1)) : Int) := by
    rw [hnext, _root_.Go.AM.Spec.sizes_append]; simp only [Sm.sizes, Sm.size]; omega
   simp [r_r16_block_0, q0, q1, q5, q6, hi, Sm.rows_len, hre, hw4, hr, hw5, hgt2, hw3, hw6, ht1, hw7, hgt3, r_r16_block_1, hw]
   refine ih (i + 1) _ (by omega) (by omega) (by rw [hnext, Sm.txts_append]; exact ⟨ht, ⟨by omega, qt, hr4, ht5⟩, trivial⟩) (by simp [q0]) (by simp [q1]) (by simp [hsz]) (by simp)
theorem block_step (l : List Sm) (hf : ∀ e ∈ l, ∀ b ∈ e.blocks, SzB b) : SzB l := by
 intro left hl0 hl1
 rw [eval_M rfl rfl t_r16_block rfl]
 simp [c_r16_block]
 refine block_loop l left hl0 hl1 hf (fun o => ∃ r : Int, o = some (.int .i64 r, []) ∧ -1000 ≤ r ∧ r ≤ 1001 ∧ (r ≤ left → r = Sm.sizes l ∧ Sm.txts l)) _ (fun φ' g => ?_) (fun φ' g hle ht => ?_) l.length 0 _ (by omega) (by simp [Sm.sizes]) (by simp [Sm.txts]) (by simp) (by simp) (by simp [Sm.sizes]) (by simp)
 ·exact ⟨left + 1, by simp [g], by omega, by omega, fun h => by omega⟩
 ·exact ⟨Sm.sizes l, by simp [r_r16_block_2, g], by omega, by omega, fun h => ⟨rfl, ht⟩⟩
theorem block_ok : ∀ (n : Nat) (l : List Sm), Sm.sizes l ≤ n → SzB l := by
 intro n
 induction n with
 | zero =>
  intro l hl
  have h0 : l = [] := by
   have := Sm.sizes_ge l
   exact List.length_eq_zero_iff.1 (by omega)
  subst h0
  exact block_step [] (by simp)
 | succ n ih =>
  intro l hl
  refine block_step l fun e he b hb => ih b ?_
  have h1 := Sm.sizes_mem he
  obtain ⟨op, w, m, ee, b1, b2, g⟩ := e
  simp only [Sm.size] at h1
  simp only [Sm.blocks, List.mem_cons, List.not_mem_nil, or_false] at hb
  rcases hb with rfl | rfl <;> omega
theorem Size_loop0 (p : Pg) (left : Int) (hl0 : 0 ≤ left) (h1l : left ≤ 1000) (hpl : (p.procs.length : Int) ≤ left) (hol : (p.oracles.length : Int) ≤ left) (Q : Option (V × Heap) → Prop) (k : List Item)
  (hret : ∀ φ', Fr.get φ' 4 = .int .i64 (left + 1) → Q (retK k φ' [some p.cells]))
  (hexit : ∀ φ' (n : Int), n = p.procs.length + p.oracles.length + Sm.sizes p.bodies.flatten → n ≤ left → (∀ x ∈ p.procs, x.1.length ≤ 300 ∧ Sm.txts x.2) → Fr.get φ' 1 = .int .i64 left → Fr.get φ' 2 = .ptr 0 0 → Fr.get φ' 5 = .int .i64 n → Q (M (eval tbl noExt) k φ' [some p.cells])) :
  ∀ (j i : Nat) (φ : Fr) (n : Int), i + j = p.procs.length → n = p.procs.length + p.oracles.length + Sm.sizes (p.bodies.take i).flatten → (n ≤ left ∨ i = 0) → (∀ x ∈ p.procs.take i, x.1.length ≤ 300 ∧ Sm.txts x.2) → Fr.get φ 1 = .int .i64 left → Fr.get φ 2 = .ptr 0 0 → Fr.get φ 5 = .int .i64 n → Fr.get φ 6 = .int .i64 i →
   Q (M (eval tbl noExt) (.code l_r16_Size_0 :: .blk 0 :: k) φ [some p.cells]) := by
 have hbl : p.bodies.length = p.procs.length := by simp [Pg.bodies]
 intro j
 induction j with
 | zero =>
  intro i φ n hj hn hle ht h1 h2 h5 h6
  have hi : ¬ ((i : Int) < p.procs.length) := by omega
  rw [List.take_of_length_le (by omega)] at hn
  rw [List.take_of_length_le (by omega)] at ht
  have hle' : n ≤ left := by
   rcases hle with h | h
   ·exact h
   ·have h0 : p.procs = [] := List.length_eq_zero_iff.1 (by omega)
    have h00 : p.bodies = [] := by rw [Pg.bodies, h0]; rfl
    rw [h0, h00] at hn
    simp only [List.length_nil, List.flatten_nil, Sm.sizes] at hn
    omega
  rw [l_r16_Size_0, M_loop, ← l_r16_Size_0]
  have hexit' := hexit
  simp only [Pg.cells] at hexit' ⊢
  simp [b_r16_Size_0, h1, h2, h5, h6, hi, Pg.pcells_len]
  exact hexit' _ n hn hle' ht (by simp [h1]) (by simp [h2]) (by simp [h5])
 | succ j ih =>
  intro i φ n hj hn hle ht h1 h2 h5 h6
  have hi : (i : Int) < p.procs.length := by omega
  obtain ⟨e, he, hmem, hd⟩ := at_some (l := p.procs) (i := i) (by omega)
  have hrow := p.prow he
  have hw : IntKind.i64.wrap ((i : Int) + 1) = ((i + 1 : Nat) : Int) := by rw [wi (by omega) (by omega)]; rfl
  have hb : p.bodies[i]? = some e.2 := by rw [Pg.bodies, List.getElem?_map, he]; rfl
  have hn0 : 0 ≤ n ∧ n ≤ 2000 := by
   rcases hle with h | h
   ·omega
   ·subst h
    simp only [List.take_zero, List.flatten_nil, Sm.sizes] at hn
    omega
  have hn1 : n - left ≤ 1000 := by
   rcases hle with h | h
   ·omega
   ·subst h
    simp only [List.take_zero, List.flatten_nil, Sm.sizes] at hn
    omega
  obtain ⟨r, hr, hr0, hr1, hr2⟩ := block_ok (Sm.sizes e.2) e.2 (Nat.le_refl _) (left - n) (by omega) (by omega)
  have hw1 : IntKind.i64.wrap (left - n) = left - n := wi (by omega) (by omega)
  have hw2 : IntKind.i64.wrap (n + r) = n + r := wi (by omega) (by omega)
  have hw3 : IntKind.i64.wrap (left + 1) = left + 1 := wi (by omega) (by omega)
  have hnext := take_next hb
  have hnext2 := take_next he
  rw [l_r16_Size_0, M_loop, ← l_r16_Size_0]
  have hret' := hret
  simp only [Pg.cells] at hret' ih ⊢
  by_cases hs : 300 < e.1.length
  ·have hs' : (300 : Int) < e.1.length := by omega
   simp [b_r16_Size_0, h1, h2, h5, h6, hi, Pg.pcells_len, hrow, hw1, hr, hw2, hs', hw3]
   exact hret' _ (by simp)
  have hs' : ¬ (300 : Int) < e.1.length := by omega
  by_cases hgt : left < n + r
  ·simp [b_r16_Size_0, h1, h2, h5, h6, hi, Pg.pcells_len, hrow, hw1, hr, hw2, hs', hw3, hgt]
   exact hret' _ (by simp)
  ·obtain ⟨hr3, hr4⟩ := hr2 (by omega)
   simp [b_r16_Size_0, h1, h2, h5, h6, hi, Pg.pcells_len, hrow, hw1, hr, hw2, hs', hw, hgt]
   refine ih (i + 1) _ (n + r) (by omega) ?_ (Or.inl (by omega)) ?_ (by simp [h1]) (by simp [h2]) (by simp) (by simp)
   ·rw [hnext, List.flatten_append, Go.AM.Spec.sizes_append]
    simp only [List.flatten_cons, List.flatten_nil, List.append_nil]
    omega
   ·rw [hnext2]
    intro x hx
    rcases List.mem_append.1 hx with h | h
    ·exact ht x h
    ·rw [List.mem_singleton.1 h]
     exact ⟨by omega, hr4⟩
theorem Size_loop1 (p : Pg) (left N : Int) (hl0 : 0 ≤ left) (h1l : left ≤ 1000) (hol : (p.oracles.length : Int) ≤ left) (hN : 0 ≤ N) (Q : Option (V × Heap) → Prop) (k : List Item)
  (hret : ∀ φ', Fr.get φ' 4 = .int .i64 (left + 1) → Q (retK k φ' [some p.cells]))
  (hexit : ∀ φ' (n : Int), n ≤ 10000 → (n ≤ left → n = N + Ex.sizes p.exprs ∧ ∀ x ∈ p.oracles, x.1.length ≤ 300 ∧ x.2.txt) → Fr.get φ' 5 = .int .i64 n → Q (M (eval tbl noExt) k φ' [some p.cells])) :
  ∀ (j i : Nat) (φ : Fr) (n : Int), i + j = p.oracles.length → 0 ≤ n → n ≤ 10000 → (n ≤ left → n = N + Ex.sizes (p.exprs.take i) ∧ ∀ x ∈ p.oracles.take i, x.1.length ≤ 300 ∧ x.2.txt) → Fr.get φ 1 = .int .i64 left → Fr.get φ 2 = .ptr 0 0 → Fr.get φ 5 = .int .i64 n → Fr.get φ 7 = .int .i64 i →
   Q (M (eval tbl noExt) (.code l_r16_Size_1 :: .blk 2 :: k) φ [some p.cells]) := by
 have hbl : p.exprs.length = p.oracles.length := by simp [Pg.exprs]
 intro j
 induction j with
 | zero =>
  intro i φ n hj hn0 hn hle h1 h2 h5 h7
  have hi : ¬ ((i : Int) < p.oracles.length) := by omega
  rw [List.take_of_length_le (by omega), List.take_of_length_le (by omega)] at hle
  rw [l_r16_Size_1, M_loop, ← l_r16_Size_1]
  have hexit' := hexit
  simp only [Pg.cells] at hexit' ⊢
  simp [b_r16_Size_1, h1, h2, h5, h7, hi, Pg.ocells_len]
  exact hexit' _ n hn hle (by simp [h5])
 | succ j ih =>
  intro i φ n hj hn0 hn hle h1 h2 h5 h7
  have hi : (i : Int) < p.oracles.length := by omega
  have hexit' := hexit
  have hret' := hret
  simp only [Pg.cells] at hret' hexit' ih ⊢
  rw [l_r16_Size_1, M_loop, ← l_r16_Size_1]
  by_cases hgt : left < n
  ·have hgt' : ¬ n ≤ left := by omega
   simp [b_r16_Size_1, h1, h2, h5, h7, hi, Pg.ocells_len, hgt']
   exact hexit' _ n hn (fun h => by omega) (by simp [h5])
  obtain ⟨hn1, hn2⟩ := hle (by omega)
  have hgt' : n ≤ left := by omega
  obtain ⟨e, he, hmem, hd⟩ := at_some (l := p.oracles) (i := i) (by omega)
  have hrow := p.orow he
  have hw : IntKind.i64.wrap ((i : Int) + 1) = ((i + 1 : Nat) : Int) := by rw [wi (by omega) (by omega)]; rfl
  have hb : p.exprs[i]? = some e.2 := by rw [Pg.exprs, List.getElem?_map, he]; rfl
  obtain ⟨r, hr, hr0, hr1, hr2⟩ := expr_ok e.2.size e.2 (Nat.le_refl _) (left - n) (by omega) (by omega)
  obtain ⟨c0, c1, c2, c3, hc⟩ := e.2.cells_shape
  rw [hc] at hr hrow
  have hw1 : IntKind.i64.wrap (left - n) = left - n := wi (by omega) (by omega)
  have hw2 : IntKind.i64.wrap (n + r) = n + r := wi (by omega) (by omega)
  have hw3 : IntKind.i64.wrap (left + 1) = left + 1 := wi (by omega) (by omega)
  have hnext := take_next hb
  have hnext2 := take_next he
  by_cases hs : 300 < e.1.length
  ·have hs' : (300 : Int) < e.1.length := by omega
   simp [b_r16_Size_1, h1, h2, h5, h7, hi, Pg.ocells_len, hgt', hrow, hw1, hr, hw2, hs', hw3]
   exact hret' _ (by simp)
  have hs' : ¬ (300 : Int) < e.1.length := by omega
  simp [b_r16_Size_1, h1, h2, h5, h7, hi, Pg.ocells_len, hgt', hrow, hw1, hr, hw2, hs', hw]
  have hr5 : 0 ≤ r := by
   by_cases h : r ≤ left - n
   ·have := (hr2 h).1; omega
   ·omega
  refine ih (i + 1) _ (n + r) (by omega) (by omega) (by omega) (fun h => ?_) (by simp [h1]) (by simp [h2]) (by simp) (by simp)
  obtain ⟨hr3, hr4⟩ := hr2 (by omega)
  constructor
  ·rw [hnext, Ex.sizes_append]
   simp only [Ex.sizes]
   omega
  ·rw [hnext2]
   intro x hx
   rcases List.mem_append.1 hx with h | h
   ·exact hn2 x h
   ·rw [List.mem_singleton.1 h]
    exact ⟨by omega, hr4⟩
theorem Size_eq (p : Pg) (left : Int) (hl0 : 0 ≤ left) (h1l : left ≤ 1000) : ∃ r : Int, eval tbl noExt n_r16_Size [.agg p.cells, .int .i64 left] [] = some (.int .i64 r, []) ∧ (r ≤ left → (p.size : Int) ≤ left ∧ p.txt) := by
 have hw3 : IntKind.i64.wrap (left + 1) = left + 1 := wi (by omega) (by omega)
 have hmin : min left 1000 = left := by omega
 have hsz := p.size_eq
 rw [eval_M rfl rfl t_r16_Size rfl]
 by_cases hp : left < p.procs.length
 ·refine ⟨left + 1, ?_, fun h => by omega⟩
  simp [c_r16_Size, Pg.cells, hmin, Pg.pcells_len, hp, hw3]
 by_cases ho : left < p.oracles.length
 ·refine ⟨left + 1, ?_, fun h => by omega⟩
  simp [c_r16_Size, Pg.cells, hmin, Pg.pcells_len, Pg.ocells_len, hp, ho, hw3]
 have hw4 : IntKind.i64.wrap ((p.procs.length : Int) + p.oracles.length) = (p.procs.length : Int) + p.oracles.length := wi (by omega) (by omega)
 simp [c_r16_Size, Pg.cells, hmin, Pg.pcells_len, Pg.ocells_len, hp, ho, hw3, hw4]
 refine Size_loop0 p left hl0 h1l (by omega) (by omega) (fun o => ∃ r : Int, o = some (.int .i64 r, []) ∧ (r ≤ left → (p.size : Int) ≤ left ∧ p.txt)) _ (fun φ' g => ?_) (fun φ' n hn hle ht g1 g2 g5 => ?_) p.procs.length 0 _ ((p.procs.length : Int) + p.oracles.length) (by omega) (by simp [Sm.sizes]) (Or.inr rfl) (by simp) (by simp) (by simp) (by simp) (by simp)
 ·exact ⟨left + 1, by simp [g], fun h => by omega⟩
 ·have hn0 : 0 ≤ n := by omega
  obtain ⟨r, hr, hr0, hr1, hr2⟩ := block_ok (Sm.sizes p.main) p.main (Nat.le_refl _) (left - n) (by omega) (by omega)
  have hw5 : IntKind.i64.wrap (left - n) = left - n := wi (by omega) (by omega)
  have hw6 : IntKind.i64.wrap (n + r) = n + r := wi (by omega) (by omega)
  have hr5 : 0 ≤ r := by
   by_cases h : r ≤ left - n
   ·have := (hr2 h).1; omega
   ·omega
  have fin : ∀ (φ' : Fr) (m : Int), Fr.get φ' 5 = .int .i64 m → (m ≤ left → (p.size : Int) ≤ left ∧ p.txt) → ∃ r : Int, M (eval tbl noExt) [.code r_r16_Size_0, .fin [.t 4] 0] φ' [some p.cells] = some (.int .i64 r, []) ∧ (r ≤ left → (p.size : Int) ≤ left ∧ p.txt) := by
   intro φ' m h5 h
   exact ⟨m, by simp [r_r16_Size_0, h5], h⟩
  by_cases hgt : left < n + r
  ·have hgt' : ¬ n + r ≤ left := by omega
   simp only [Pg.cells] at fin ⊢
   simp [r_r16_Size_1, g1, g2, g5, hw5, hr, hw6, hgt']
   refine Size_loop1 p left (left + 1) hl0 h1l (by omega) (by omega) (fun o => ∃ r : Int, o = some (.int .i64 r, []) ∧ (r ≤ left → (p.size : Int) ≤ left ∧ p.txt)) _ (fun φ' g => ?_) (fun φ' m hm0 hm hg5 => ?_) p.oracles.length 0 _ (n + r) (by omega) (by omega) (by omega) (fun h => by omega) (by simp [g1]) (by simp [g2]) (by simp) (by simp)
   ·exact ⟨left + 1, by simp [g], fun h => by omega⟩
   ·refine ⟨m, by simp [r_r16_Size_0, hg5], fun h => ?_⟩
    have := (hm h).1
    omega
  ·have hgt' : n + r ≤ left := by omega
   obtain ⟨hr3, hr4⟩ := hr2 (by omega)
   obtain ⟨t, ht1, ht0, ht2, ht3⟩ := block_ok (Sm.sizes p.recover) p.recover (Nat.le_refl _) (left - (n + r)) (by omega) (by omega)
   have hw7 : IntKind.i64.wrap (left - (n + r)) = left - (n + r) := wi (by omega) (by omega)
   have hw8 : IntKind.i64.wrap (n + r + t) = n + r + t := wi (by omega) (by omega)
   have ht5 : 0 ≤ t := by
    by_cases h : t ≤ left - (n + r)
    ·have := (ht3 h).1; omega
    ·omega
   simp only [Pg.cells] at fin ⊢
   simp [r_r16_Size_1, g1, g2, g5, hw5, hr, hw6, hgt', hw7, ht1, hw8]
   refine Size_loop1 p left (if left < n + r + t then left + 1 else n + r + t) hl0 h1l (by omega) (by split <;> omega) (fun o => ∃ r : Int, o = some (.int .i64 r, []) ∧ (r ≤ left → (p.size : Int) ≤ left ∧ p.txt)) _ (fun φ' g => ?_) (fun φ' m hm0 hm hg5 => ?_) p.oracles.length 0 _ (n + r + t) (by omega) (by omega) (by omega) (fun h => by rw [if_neg (by omega)]; simp [Ex.sizes]) (by simp [g1]) (by simp [g2]) (by simp) (by simp)
   ·exact ⟨left + 1, by simp [g], fun h => by omega⟩
   ·refine ⟨m, by simp [r_r16_Size_0, hg5], fun h => ?_⟩
    obtain ⟨hm1, hm2⟩ := hm h
    by_cases hlt : left < n + r + t
    ·rw [if_pos hlt] at hm1; omega
    ·rw [if_neg hlt] at hm1
     obtain ⟨ht6, ht7⟩ := ht3 (by omega)
     exact ⟨by omega, ht, hr4, ht7, hm2⟩
theorem Small_eq (p : Pg) : ∃ b : Bool, eval tbl noExt n_flotsamlaw16_Small [.agg p.cells] [] = some (.bool b, []) ∧ (b = true → p.size ≤ 600 ∧ p.txt) := by
 obtain ⟨r, hr, h⟩ := Size_eq p 600 (by omega) (by omega)
 rw [eval_M rfl rfl t_flotsamlaw16_Small rfl]
 refine ⟨decide (r ≤ 600), ?_, fun hb => ?_⟩
 ·simp only [Pg.cells] at hr ⊢
  simp [c_flotsamlaw16_Small, hr]
 ·obtain ⟨h1, h2⟩ := h (of_decide_eq_true hb)
  exact ⟨by omega, h2⟩
end Go.AM.Spec
