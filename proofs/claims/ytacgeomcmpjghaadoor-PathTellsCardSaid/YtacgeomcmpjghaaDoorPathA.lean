/-
  Names of files: what the program's function (by strings.Trim) and the document's answer.
-/
import Derived.Test.YtacgeomcmpjghaaDoorSpc
namespace Go.AM.Spec
set_option linter.unusedVariables false
set_option linter.unusedSimpArgs false
set_option maxHeartbeats 1000000
set_option maxRecDepth 10000

def signs : List UInt8 := [97, 98, 99, 100, 101, 102, 103, 104, 105, 106, 107, 108, 109, 110, 111, 112, 113, 114, 115, 116, 117, 118, 119, 120, 121, 122, 48, 49, 50, 51, 52, 53, 54, 55, 56, 57, 46, 95]
def inSigns (c : UInt8) : Bool := signs.contains c
def signTab : List V := (List.range 256).map fun i => .bool (inSigns (UInt8.ofNat i))
/-- Is it a file's name? -/
def isFile (s : List UInt8) : Bool := decide (s ≠ []) && (decide (s.length ≤ 8) && (decide (s ≠ [46]) && (decide (s ≠ [46, 46]) && s.all inSigns)))

theorem signTab_len : signTab.length = 256 := by decide +kernel
theorem signTab_at (c : UInt8) : signTab[c.toNat]? = some (.bool (inSigns c)) := by
  have := c.toNat_lt
  unfold signTab
  rw [List.getElem?_map, List.getElem?_range (by omega)]
  simp
theorem signTab_under (n : Nat) : V.underAll n signTab = true := by rfl
theorem signTab_one : signTab.all V.one = true := by decide +kernel
theorem signTab_set : setMany (zs 256 (.bool false)) 0 signTab = signTab := by kernel_rfl
theorem signTab_take : allStrip (signTab.take 256) = signTab := by kernel_rfl

theorem makeSet : eval tbl noExt n_strings_makeASCIISet [.str signs] [] = some (.tup [.agg signTab, .bool true], []) := (eval_iff _ _ _ _ _ _).2 ⟨400, by kernel_rfl⟩

theorem contains_eq (c : UInt8) (H : Heap) (j : Nat) (hj : H[j]? = some (some signTab)) : eval tbl noExt n_pstrings_asciiSet_contains [.ptr j 0, .int .u8 c.toNat] H = some (.bool (inSigns c), H) := by
  have h1 := signTab_at c
  have := c.toNat_lt
  have h2 : (c.toNat : Int) < 256 := by omega
  rw [eval_M rfl rfl t_pstrings_asciiSet_contains rfl]
  simp [c_pstrings_asciiSet_contains, hj, h1, h2]

def trimR (s : List UInt8) : List UInt8 := (s.reverse.dropWhile inSigns).reverse
theorem trimR_len (s : List UInt8) : (trimR s).length ≤ s.length := by
  unfold trimR
  rw [List.length_reverse]
  have := (List.dropWhile_sublist (l := s.reverse) inSigns).length_le
  simpa using this

theorem trimLeft_loop (H : Heap) (j : Nat) (hj : H[j]? = some (some signTab)) (Q : Option (V × Heap) → Prop) (k : List Item) (s0 : List UInt8)
    (hexit : ∀ φ', Fr.get φ' 0 = .str (s0.dropWhile inSigns) → Q (M (eval tbl noExt) k φ' H)) :
    ∀ (s : List UInt8) (φ : Fr), s.length ≤ 1000000 → s.dropWhile inSigns = s0.dropWhile inSigns → Fr.get φ 0 = .str s → Fr.get φ 1 = .ptr j 0 → Q (M (eval tbl noExt) (.code l_strings_trimLeftASCII_0 :: .blk 0 :: k) φ H) := by
  intro s
  induction s with
  | nil =>
    intro φ hl hs h0 h1
    rw [l_strings_trimLeftASCII_0, M_loop, ← l_strings_trimLeftASCII_0]
    simp [b_strings_trimLeftASCII_0, h0, h1]
    exact hexit _ (by simp [h0, ← hs])
  | cons c s ih =>
    intro φ hl hs h0 h1
    have hc := contains_eq c H j hj
    have hle : 1 ≤ (s.length : Int) + 1 := by omega
    rw [l_strings_trimLeftASCII_0, M_loop, ← l_strings_trimLeftASCII_0]
    cases hb : inSigns c with
    | true =>
      rw [hb] at hc
      simp [b_strings_trimLeftASCII_0, h0, h1, hc, hle, lt_pstrings_asciiSet_contains]
      refine ih _ (by simp at hl; omega) (by rw [← hs, List.dropWhile_cons, hb, if_pos rfl]) ?_ ?_
      · simp
      · simp [h1]
    | false =>
      rw [hb] at hc
      simp [b_strings_trimLeftASCII_0, h0, h1, hc, lt_pstrings_asciiSet_contains]
      exact hexit _ (by rw [← hs, List.dropWhile_cons, hb]; simp [h0])

theorem trimLeft_eq (s : List UInt8) (hl : s.length ≤ 1000000) (H : Heap) (j : Nat) (hj : H[j]? = some (some signTab)) : eval tbl noExt n_strings_trimLeftASCII [.str s, .ptr j 0] H = some (.str (s.dropWhile inSigns), H) := by
  rw [eval_M rfl rfl t_strings_trimLeftASCII rfl]
  simp [c_strings_trimLeftASCII]
  refine trimLeft_loop H j hj (fun o => o = some (.str (s.dropWhile inSigns), H)) _ s (fun φ' h => ?_) s _ hl rfl (by simp) (by simp)
  simp [r_strings_trimLeftASCII_0, h]

theorem trimR_snoc (s : List UInt8) (c : UInt8) : trimR (s ++ [c]) = if inSigns c = true then trimR s else s ++ [c] := by
  unfold trimR
  rw [List.reverse_append, List.reverse_singleton, List.singleton_append, List.dropWhile_cons]
  split
  · rfl
  · simp

theorem trimRight_loop (H : Heap) (j : Nat) (hj : H[j]? = some (some signTab)) (Q : Option (V × Heap) → Prop) (k : List Item) (s0 : List UInt8)
    (hexit : ∀ φ', Fr.get φ' 0 = .str (trimR s0) → Q (M (eval tbl noExt) k φ' H)) :
    ∀ (n : Nat) (s : List UInt8) (φ : Fr), s.length = n → n ≤ 1000000 → trimR s = trimR s0 → Fr.get φ 0 = .str s → Fr.get φ 1 = .ptr j 0 → Q (M (eval tbl noExt) (.code l_strings_trimRightASCII_0 :: .blk 0 :: k) φ H) := by
  intro n
  induction n with
  | zero =>
    intro s φ hn hl hs h0 h1
    obtain rfl : s = [] := List.length_eq_zero_iff.1 hn
    rw [l_strings_trimRightASCII_0, M_loop, ← l_strings_trimRightASCII_0]
    simp [b_strings_trimRightASCII_0, h0, h1]
    exact hexit _ (by rw [← hs]; simp [h0, trimR])
  | succ n ih =>
    intro s φ hn hl hs h0 h1
    obtain ⟨t, c, rfl⟩ : ∃ t c, s = t ++ [c] := ⟨s.dropLast, s.getLast (by rintro rfl; simp at hn), (List.dropLast_concat_getLast _).symm⟩
    have htl : t.length = n := by simpa using hn
    have hc := contains_eq c H j hj
    have hw : IntKind.i64.wrap (t.length : Int) = t.length := w64 (by omega) (by omega)
    have hpos : 0 < (t.length : Int) + 1 := by omega
    have hlt : (t.length : Int) < (t.length : Int) + 1 := by omega
    have hle : (t.length : Int) ≤ (t.length : Int) + 1 := by omega
    rw [trimR_snoc] at hs
    rw [l_strings_trimRightASCII_0, M_loop, ← l_strings_trimRightASCII_0]
    cases hb : inSigns c with
    | true =>
      rw [hb] at hc
      rw [hb, if_pos rfl] at hs
      simp [b_strings_trimRightASCII_0, h0, h1, hc, hw, hpos, hlt, hle, lt_pstrings_asciiSet_contains]
      refine ih t _ htl (by omega) hs ?_ ?_
      · simp
      · simp [h1]
    | false =>
      rw [hb] at hc
      rw [hb, if_neg (by simp)] at hs
      simp [b_strings_trimRightASCII_0, h0, h1, hc, hw, hpos, hlt, hle, lt_pstrings_asciiSet_contains]
      exact hexit _ (by simp [h0, ← hs])

theorem trimRight_eq (s : List UInt8) (hl : s.length ≤ 1000000) (H : Heap) (j : Nat) (hj : H[j]? = some (some signTab)) : eval tbl noExt n_strings_trimRightASCII [.str s, .ptr j 0] H = some (.str (trimR s), H) := by
  rw [eval_M rfl rfl t_strings_trimRightASCII rfl]
  simp [c_strings_trimRightASCII]
  refine trimRight_loop H j hj (fun o => o = some (.str (trimR s), H)) _ s (fun φ' h => ?_) s.length s _ rfl hl rfl (by simp) (by simp)
  simp [r_strings_trimRightASCII_0, h]

theorem dropWhile_nil {α : Type} (p : α → Bool) : ∀ l : List α, l.dropWhile p = [] ↔ ∀ x ∈ l, p x = true
  | [] => by simp
  | a :: l => by
    have := dropWhile_nil p l
    cases h : p a with
    | true => simp [h, this]
    | false => simp [h]
theorem mem_takeWhile {α : Type} (p : α → Bool) {x : α} : ∀ l : List α, x ∈ l.takeWhile p → p x = true
  | [], h => by simp at h
  | a :: l, h => by
    cases hp : p a with
    | false => simp [hp] at h
    | true =>
      simp only [List.takeWhile_cons, hp, if_true, List.mem_cons] at h
      rcases h with rfl | h
      · exact hp
      · exact mem_takeWhile p l h

theorem trim_none (s : List UInt8) : decide ((trimR s).dropWhile inSigns = []) = s.all inSigns := by
  rw [Bool.eq_iff_iff, decide_eq_true_eq, List.all_eq_true]
  constructor
  · intro h x hx
    have h1 : ∀ x ∈ trimR s, inSigns x = true := (dropWhile_nil _ _).1 h
    by_cases hm : x ∈ trimR s
    · exact h1 x hm
    · have : x ∈ s.reverse := by simpa using hx
      rw [← List.takeWhile_append_dropWhile (p := inSigns) (l := s.reverse), List.mem_append] at this
      rcases this with h2 | h2
      · exact mem_takeWhile _ _ h2
      · exact absurd (by unfold trimR; simpa using h2) hm
  · intro h
    have : trimR s = [] := by
      unfold trimR
      rw [List.reverse_eq_nil_iff, dropWhile_nil]
      intro x hx; exact h x (by simpa using hx)
    rw [this]; rfl

theorem Trim_eq (s : List UInt8) (h0 : s ≠ []) (hl : s.length ≤ 1000000) (H : Heap) : eval tbl noExt n_strings_Trim [.str s, .str signs] H = some (.str ((trimR s).dropWhile inSigns), H) := by
  have hm := makeSet
  have hr := trimRight_eq s hl (H ++ [some signTab]) H.length (get0 ..)
  have hl2 := trimLeft_eq (trimR s) (by have := trimR_len s; omega) (H ++ [some signTab]) H.length (get0 ..)
  have hne : ¬ signs = [] := by decide
  have hsl : signs.length = 38 := by decide
  rw [eval_M rfl rfl t_strings_Trim rfl]
  simp [c_strings_Trim, h0, hne, hsl, hm, hr, hl2, get0, set0, zs_length, signTab_len, signTab_under, signTab_one, signTab_set, lt_strings_makeASCIISet, lt_strings_trimRightASCII, lt_strings_trimLeftASCII]

theorem LName_eq (s : List UInt8) (hl : s.length ≤ 1000000) (H : Heap) : eval tbl noExt n_layout_Name [.str s] H = some (.bool (isFile s), H) := by
  have ht := trim_none s
  unfold isFile
  rw [← ht]
  rw [eval_M rfl rfl t_layout_Name rfl]
  by_cases h0 : s = []
  · simp [c_layout_Name, h0]
  have hT := Trim_eq s h0 hl
  simp only [signs] at hT
  by_cases h8 : s.length ≤ 8
  case neg =>
    have h8' : ¬ (s.length : Int) ≤ 8 := by omega
    simp [c_layout_Name, h0, h8, h8']
  have h8' : (s.length : Int) ≤ 8 := by omega
  by_cases h1 : s = [46]
  · simp [c_layout_Name, h1]
  by_cases h2 : s = [46, 46]
  · simp [c_layout_Name, h2]
  · simp [c_layout_Name, h0, h8, h8', h1, h2, hT, lt_strings_Trim]

/-- The document's test of a byte. -/
theorem inSigns_eq (c : UInt8) : inSigns c = ((decide (97 ≤ c.toNat) && decide (c.toNat ≤ 122)) || ((decide (48 ≤ c.toNat) && decide (c.toNat ≤ 57)) || (decide (c.toNat = 46) || decide (c.toNat = 95)))) := by
  have h : ∀ n < 256, inSigns (UInt8.ofNat n) = ((decide (97 ≤ n) && decide (n ≤ 122)) || ((decide (48 ≤ n) && decide (n ≤ 57)) || (decide (n = 46) || decide (n = 95)))) := by decide +kernel
  have := h c.toNat c.toNat_lt
  simpa using this

theorem refName7_loop (s : List UInt8) (hl : s.length ≤ 1000000) (H : Heap) (call : CallF) (Q : Option (V × Heap) → Prop) (k : List Item)
    (hret : ∀ φ', s.all inSigns = false → Fr.get φ' 2 = .bool false → Q (retK k φ' H)) (hexit : ∀ φ', s.all inSigns = true → Q (M call k φ' H)) :
    ∀ (j i : Nat) (φ : Fr), i + j = s.length → s.all inSigns = (s.drop i).all inSigns → Fr.get φ 0 = .str s → Fr.get φ 3 = .int .i64 i →
      Q (M call (.code l_flotsamref07_Name_0 :: .blk 0 :: k) φ H) := by
  intro j
  induction j with
  | zero =>
    intro i φ hj hs h0 h3
    have hi : ¬ ((i : Int) < s.length) := by omega
    rw [List.drop_of_length_le (by omega)] at hs
    rw [l_flotsamref07_Name_0, M_loop, ← l_flotsamref07_Name_0]
    simp [b_flotsamref07_Name_0, h0, h3, hi]
    exact hexit _ (by rw [hs]; rfl)
  | succ j ih =>
    intro i φ hj hs h0 h3
    have hi : (i : Int) < s.length := by omega
    have hil : i < s.length := by omega
    obtain ⟨a, ha, hd⟩ : ∃ a, s[i]? = some a ∧ s.drop i = a :: s.drop (i + 1) := ⟨s[i], List.getElem?_eq_getElem hil, List.drop_eq_getElem_cons hil⟩
    have hw1 : IntKind.i64.wrap ((i : Int) + 1) = ((i + 1 : Nat) : Int) := by rw [w64 (by omega) (by omega)]; rfl
    rw [hd, List.all_cons, inSigns_eq a] at hs
    rw [l_flotsamref07_Name_0, M_loop, ← l_flotsamref07_Name_0]
    by_cases a1 : 97 ≤ a.toNat
    · have a1' : (97 : Int) ≤ a.toNat := by omega
      by_cases a2 : a.toNat ≤ 122
      · have a2' : (a.toNat : Int) ≤ 122 := by omega
        rw [decide_eq_true a1, decide_eq_true a2, Bool.true_and, Bool.true_or, Bool.true_and] at hs
        simp [b_flotsamref07_Name_0, h0, h3, hi, ha, a1', a2', hw1]
        refine ih (i + 1) _ (by omega) hs ?_ ?_
        · simp [h0]
        · simp
      · have a2' : ¬ (a.toNat : Int) ≤ 122 := by omega
        have a3 : ¬ a.toNat ≤ 57 := by omega
        have a3' : ¬ (a.toNat : Int) ≤ 57 := by omega
        have a4 : ¬ a.toNat = 46 := by omega
        have a4' : ¬ (a.toNat : Int) = 46 := by omega
        have a5 : ¬ a.toNat = 95 := by omega
        have a5' : ¬ (a.toNat : Int) = 95 := by omega
        rw [decide_eq_false a2, decide_eq_false a3, decide_eq_false a4, decide_eq_false a5, Bool.and_false, Bool.and_false, Bool.or_false, Bool.or_false, Bool.or_false, Bool.false_and] at hs
        have a6' : (48 : Int) ≤ a.toNat := by omega
        simp [b_flotsamref07_Name_0, h0, h3, hi, ha, a1', a2', a3', a4', a5', a6', hw1]
        exact hret _ hs (by simp)
    · have a1' : ¬ (97 : Int) ≤ a.toNat := by omega
      rw [decide_eq_false a1, Bool.false_and, Bool.false_or] at hs
      by_cases b1 : 48 ≤ a.toNat
      · have b1' : (48 : Int) ≤ a.toNat := by omega
        rw [decide_eq_true b1, Bool.true_and] at hs
        by_cases b2 : a.toNat ≤ 57
        · have b2' : (a.toNat : Int) ≤ 57 := by omega
          rw [decide_eq_true b2, Bool.true_or, Bool.true_and] at hs
          simp [b_flotsamref07_Name_0, h0, h3, hi, ha, a1', b1', b2', hw1]
          refine ih (i + 1) _ (by omega) hs ?_ ?_
          · simp [h0]
          · simp
        · have b2' : ¬ (a.toNat : Int) ≤ 57 := by omega
          have b3 : ¬ a.toNat = 46 := by omega
          have b3' : ¬ (a.toNat : Int) = 46 := by omega
          rw [decide_eq_false b2, decide_eq_false b3, Bool.false_or, Bool.false_or] at hs
          by_cases b4 : a.toNat = 95
          · have b4' : (a.toNat : Int) = 95 := by omega
            rw [decide_eq_true b4, Bool.true_and] at hs
            simp [b_flotsamref07_Name_0, h0, h3, hi, ha, b4, hw1]
            refine ih (i + 1) _ (by omega) hs ?_ ?_
            · simp [h0]
            · simp
          · have b4' : ¬ (a.toNat : Int) = 95 := by omega
            rw [decide_eq_false b4, Bool.false_and] at hs
            simp [b_flotsamref07_Name_0, h0, h3, hi, ha, a1', b1', b2', b3', b4', hw1]
            exact hret _ hs (by simp)
      · have b1' : ¬ (48 : Int) ≤ a.toNat := by omega
        have b4 : ¬ a.toNat = 95 := by omega
        have b4' : ¬ (a.toNat : Int) = 95 := by omega
        rw [decide_eq_false b1, decide_eq_false b4, Bool.false_and, Bool.false_or, Bool.or_false] at hs
        by_cases b3 : a.toNat = 46
        · have b3' : (a.toNat : Int) = 46 := by omega
          rw [decide_eq_true b3, Bool.true_and] at hs
          simp [b_flotsamref07_Name_0, h0, h3, hi, ha, b3, hw1]
          refine ih (i + 1) _ (by omega) hs ?_ ?_
          · simp [h0]
          · simp
        · have b3' : ¬ (a.toNat : Int) = 46 := by omega
          rw [decide_eq_false b3, Bool.false_and] at hs
          simp [b_flotsamref07_Name_0, h0, h3, hi, ha, a1', b1', b3', b4', hw1]
          exact hret _ hs (by simp)

theorem refName7_eq (s : List UInt8) (hl : s.length ≤ 1000000) (H : Heap) : eval tbl noExt n_flotsamref07_Name [.str s] H = some (.bool (isFile s), H) := by
  rw [eval_M rfl rfl t_flotsamref07_Name rfl]
  by_cases h0 : s = []
  · simp [c_flotsamref07_Name, h0, isFile]
  have hp := List.length_pos_iff.2 h0
  have hn : ¬ ((s.length : Int) < 1) := by omega
  by_cases h8 : s.length ≤ 8
  case neg =>
    have h8' : (8 : Int) < s.length := by omega
    simp [c_flotsamref07_Name, h0, hn, h8, h8', isFile]
  have h8' : ¬ (8 : Int) < s.length := by omega
  by_cases h1 : s = [46]
  · simp [c_flotsamref07_Name, h1, isFile]
  by_cases h2 : s = [46, 46]
  · simp [c_flotsamref07_Name, h2, isFile]
  simp [c_flotsamref07_Name, h0, hn, h8', h1, h2]
  have hf : isFile s = s.all inSigns := by simp [isFile, h0, h8, h1, h2]
  refine refName7_loop s hl H _ (fun o => o = some (.bool (isFile s), H)) _ (fun φ' h g => ?_) (fun φ' h => ?_) s.length 0 _ (by omega) rfl (by simp) (by simp)
  · rw [hf, h]; simp [g]
  · rw [hf, h]; simp [r_flotsamref07_Name_0]

end Go.AM.Spec
