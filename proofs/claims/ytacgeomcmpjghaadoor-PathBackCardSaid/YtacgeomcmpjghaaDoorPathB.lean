/-
  Paths: what Split answers, the program's and the document's.
-/
import Derived.Test.YtacgeomcmpjghaaDoorPathA
import Derived.Test.YtacgeomcmpjghaaDoorContS
namespace Go.AM.Spec
set_option linter.unusedVariables false
set_option linter.unusedSimpArgs false
set_option maxHeartbeats 1000000
set_option maxRecDepth 10000

def allFile (l : List (List UInt8)) : Bool := l.all isFile

/-- The names of a path, and the error. -/
def splitP (p : List UInt8) : List (List UInt8) × Int :=
  if p = [47] then ([], 0) else match p with
    | c :: r => if c = 47 ∧ (splitOn 47 r).length ≤ 4 ∧ allFile (splitOn 47 r) = true then (splitOn 47 r, 0) else ([], 9)
    | [] => ([], 9)
def splitV (p : List UInt8) : V := .tup [.sl 1 ((splitP p).1.map tx), .int .i64 (splitP p).2]

theorem splitOn_len (c : UInt8) : ∀ s : List UInt8, (splitOn c s).length ≤ s.length + 1 ∧ splitOn c s ≠ []
  | [] => by simp [splitOn]
  | b :: l => by
    have := splitOn_len c l
    unfold splitOn
    split
    · simp; omega
    · split
      · rename_i w ws h; rw [h] at this; simp at this ⊢; omega
      · simp
theorem splitOn_mem (c : UInt8) : ∀ (s w : List UInt8), w ∈ splitOn c s → w.length ≤ s.length
  | [], w, h => by simp [splitOn] at h; simp [h]
  | b :: l, w, h => by
    unfold splitOn at h
    split at h
    · rcases List.mem_cons.1 h with rfl | h
      · simp
      · have := splitOn_mem c l w h; simp; omega
    · split at h
      · rename_i v ws hs
        rcases List.mem_cons.1 h with rfl | h
        · have := splitOn_mem c l v (by rw [hs]; simp); simp; omega
        · have := splitOn_mem c l w (by rw [hs]; simp [h]); simp; omega
      · rename_i hs; exact absurd hs (splitOn_len c l).2
theorem splitOn_same (c : UInt8) (l : List UInt8) : splitOn c (c :: l) = [] :: splitOn c l := by rw [splitOn, if_pos rfl]
theorem splitOn_other {b c : UInt8} (h : b ≠ c) (l : List UInt8) {w : List UInt8} {ws : List (List UInt8)} (hl : splitOn c l = w :: ws) : splitOn c (b :: l) = (b :: w) :: ws := by rw [splitOn, if_neg h, hl]
/-- The first piece, and the others. -/
theorem splitOn_first (c : UInt8) : ∀ s : List UInt8, splitOn c s = s.takeWhile (· ≠ c) :: (match s.dropWhile (· ≠ c) with | [] => [] | _ :: t => splitOn c t)
  | [] => by simp [splitOn]
  | b :: l => by
    have ih := splitOn_first c l
    by_cases h : b = c
    · subst h; rw [splitOn_same]; simp
    · rw [splitOn_other h l ih]
      simp [h]

theorem CutPrefix_eq (s : List UInt8) (H : Heap) : eval tbl noExt n_strings_CutPrefix [.str s, .str [47]] H = some (.tup [.str (if s.head? = some 47 then s.drop 1 else s), .bool (decide (s.head? = some 47))], H) := by
  have hp : ∀ K, eval tbl noExt n_internal_stringslite_HasPrefix [.str s, .str [47]] K = some (.bool (decide (s.head? = some 47)), K) := by
    intro K
    rw [eval_M rfl rfl t_internal_stringslite_HasPrefix rfl]
    cases s with
    | nil => simp [c_internal_stringslite_HasPrefix]
    | cons b l =>
      have h1 : (1 : Int) ≤ (l.length : Int) + 1 := by omega
      by_cases hb : b = 47
      · simp [c_internal_stringslite_HasPrefix, h1, hb]
      · simp [c_internal_stringslite_HasPrefix, h1, hb]
  have hc : ∀ K, eval tbl noExt n_internal_stringslite_CutPrefix [.str s, .str [47]] K = some (.tup [.str (if s.head? = some 47 then s.drop 1 else s), .bool (decide (s.head? = some 47))], K) := by
    intro K
    rw [eval_M rfl rfl t_internal_stringslite_CutPrefix rfl]
    cases s with
    | nil => simp at hp; simp [c_internal_stringslite_CutPrefix, hp, lt_internal_stringslite_HasPrefix]
    | cons b l =>
      have h1 : (1 : Int) ≤ (l.length : Int) + 1 := by omega
      by_cases hb : b = 47
      · simp [hb] at hp
        simp [c_internal_stringslite_CutPrefix, hp, lt_internal_stringslite_HasPrefix, h1, hb]
      · simp [hb] at hp
        simp [c_internal_stringslite_CutPrefix, hp, lt_internal_stringslite_HasPrefix, h1, hb]
  rw [eval_M rfl rfl t_strings_CutPrefix rfl]
  simp [c_strings_CutPrefix, hc, lt_internal_stringslite_CutPrefix]

theorem Split1_eq (s : List UInt8) (hl : s.length ≤ 1000000) (H : Heap) : eval tbl noExt n_path_Split_1 [.str s] H = some (.bool (!isFile s), H) := by
  have := LName_eq s hl
  rw [eval_M rfl rfl t_path_Split_1 rfl]
  simp [c_path_Split_1, this, lt_layout_Name]

theorem sSplit_eq (s : List UInt8) (hl : s.length ≤ 1000000) (H : Heap) : eval tbl noExt n_strings_Split [.str s, .str [47]] H = some (.sl 1 ((splitOn 47 s).map tx), H) := by
  rw [eval_X rfl rfl]
  simp [xSplit]; omega

theorem any_not' {α : Type} (l : List α) (p : α → Bool) : (l.any fun e => !p e) = !(l.all p) := by
  induction l with
  | nil => rfl
  | cons e l ih => simp [ih, Bool.not_and]

theorem Split_eq (p : List UInt8) (hl : p.length ≤ 100000) (H : Heap) : eval tbl noExt n_path_Split [.str p] H = some (splitV p, H) := by
  have hc := CutPrefix_eq p
  rw [eval_M rfl rfl t_path_Split rfl]
  unfold splitV splitP
  by_cases h0 : p = [47]
  · simp [c_path_Split, h0]
  cases p with
  | nil =>
    have hs := sSplit_eq [] (by simp)
    simp at hc
    simp [c_path_Split, hc, hs, lt_strings_CutPrefix, lt_strings_Split]
  | cons c r =>
    by_cases hcc : c = 47
    · subst hcc
      simp at hc
      have hs := sSplit_eq r (by simp at hl; omega)
      have hlen := splitOn_len 47 r
      have hA : ∀ K, eval tbl noExt n_slices_ContainsFunc_string_string [.sl 1 ((splitOn 47 r).map tx), .fn (.func n_path_Split_1) [] []] K = some (.bool (!allFile (splitOn 47 r)), K) := by
        intro K
        unfold allFile
        rw [← any_not']
        exact ContainsFunc_string_string (first := []) (cap := []) lt_path_Split_1 (fun s : List UInt8 => s) (splitOn 47 r) (by simp at hl; omega) (fun s => !isFile s) K (fun w hw => Split1_eq w (by have := splitOn_mem 47 r w hw; simp at hl; omega) K)
      by_cases h4 : (splitOn 47 r).length ≤ 4
      case neg =>
        have h4' : (4 : Int) < (splitOn 47 r).length := by omega
        simp [c_path_Split, h0, hc, hs, lt_strings_CutPrefix, lt_strings_Split, h4, h4']
      have h4' : ¬ (4 : Int) < (splitOn 47 r).length := by omega
      cases hall : allFile (splitOn 47 r) with
      | false =>
        rw [hall] at hA
        simp [hall, c_path_Split, h0, hc, hs, lt_strings_CutPrefix, lt_strings_Split, h4, h4', hA, lt_slices_ContainsFunc_string_string]
      | true =>
        rw [hall] at hA
        simp [hall, c_path_Split, h0, hc, hs, lt_strings_CutPrefix, lt_strings_Split, h4, h4', hA, lt_slices_ContainsFunc_string_string]
    · simp [hcc] at hc
      have hs := sSplit_eq (c :: r) (by omega)
      simp [c_path_Split, h0, hc, hs, lt_strings_CutPrefix, lt_strings_Split, hcc]

/-! The document's Split. -/

/-- From a place on: the names, or none. -/
def refS : Nat → List UInt8 → Option (List (List UInt8))
  | 0, _ => none
  | _ + 1, [] => some []
  | n + 1, c :: t => if c = 47 then if isFile (t.takeWhile (· ≠ 47)) = true then (refS n (t.dropWhile (· ≠ 47))).map (t.takeWhile (· ≠ 47) :: ·) else none else none

theorem dropWhile_head {α : Type} (p : α → Bool) : ∀ (l : List α) (a : α) (t : List α), l.dropWhile p = a :: t → p a = false ∧ t.length < l.length
  | [], a, t, h => by simp at h
  | b :: l, a, t, h => by
    cases hp : p b with
    | true =>
      rw [List.dropWhile_cons, hp, if_pos rfl] at h
      have := dropWhile_head p l a t h
      exact ⟨this.1, by simp; omega⟩
    | false =>
      rw [List.dropWhile_cons, hp] at h
      simp at h
      obtain ⟨rfl, rfl⟩ := h
      exact ⟨hp, by simp⟩

theorem allFile_cons (w : List UInt8) (l : List (List UInt8)) : allFile (w :: l) = (isFile w && allFile l) := rfl
theorem refS_eq : ∀ (n : Nat) (t : List UInt8), t.length + 2 ≤ n → refS n (47 :: t) = if allFile (splitOn 47 t) = true then some (splitOn 47 t) else none := by
  intro n
  induction n with
  | zero => intro t h; omega
  | succ n ih =>
    intro t h
    rw [refS, if_pos rfl, splitOn_first]
    cases hf : isFile (t.takeWhile (· ≠ 47)) with
    | false =>
      rw [if_neg (by simp)]
      simp only [allFile, List.all_cons, hf, Bool.false_and, Bool.false_eq_true, if_false]
    | true =>
      rw [if_pos rfl]
      cases hd : t.dropWhile (· ≠ 47) with
      | nil =>
        have : refS n [] = some [] := by
          obtain ⟨m, rfl⟩ : ∃ m, n = m + 1 := ⟨n - 1, by omega⟩
          rfl
        simp only [this, allFile, List.all_cons, hf, List.all_nil, Bool.and_true, if_true, Option.map_some]
      | cons a u =>
        have ⟨h1, h2⟩ := dropWhile_head _ _ _ _ hd
        have ha : a = 47 := by simpa using h1
        subst ha
        rw [ih u (by omega), allFile_cons, hf, Bool.true_and]
        by_cases hA : allFile (splitOn 47 u) = true
        · rw [if_pos hA, if_pos hA]; rfl
        · rw [if_neg hA, if_neg hA]; rfl

theorem inner_loop8 (s : List UInt8) (hl : s.length ≤ 100000) (H : Heap) (call : CallF) (Q : Option (V × Heap) → Prop) (k : List Item) (v4 v5 : V) (i0 : Nat)
    (hexit : ∀ φ', Fr.get φ' 0 = .str s → Fr.get φ' 4 = v4 → Fr.get φ' 5 = v5 → Fr.get φ' 6 = .int .i64 ((i0 + ((s.drop i0).takeWhile (· ≠ 47)).length : Nat) : Int) → Q (M call k φ' H)) :
    ∀ (j i : Nat) (φ : Fr), i + j = s.length → i0 ≤ i → i0 + ((s.drop i0).takeWhile (· ≠ 47)).length = i + ((s.drop i).takeWhile (· ≠ 47)).length → Fr.get φ 0 = .str s → Fr.get φ 4 = v4 → Fr.get φ 5 = v5 → Fr.get φ 6 = .int .i64 i →
      Q (M call (.code l_flotsamref08_Split_0 :: .blk 2 :: k) φ H) := by
  intro j
  induction j with
  | zero =>
    intro i φ hj hi0 hs h0 h4 h5 h6
    have hi : ¬ ((i : Int) < s.length) := by omega
    rw [List.drop_of_length_le (l := s) (i := i) (by omega)] at hs
    rw [l_flotsamref08_Split_0, M_loop, ← l_flotsamref08_Split_0]
    simp [b_flotsamref08_Split_0, h0, h4, h5, h6, hi]
    refine hexit _ (by simp [h0]) (by simp [h4]) (by simp [h5]) ?_
    rw [hs]; simp [h6]
  | succ j ih =>
    intro i φ hj hi0 hs h0 h4 h5 h6
    have hi : (i : Int) < s.length := by omega
    have hil : i < s.length := by omega
    obtain ⟨a, ha, hd⟩ : ∃ a, s[i]? = some a ∧ s.drop i = a :: s.drop (i + 1) := ⟨s[i], List.getElem?_eq_getElem hil, List.drop_eq_getElem_cons hil⟩
    have hw1 : IntKind.i64.wrap ((i : Int) + 1) = ((i + 1 : Nat) : Int) := by rw [w64 (by omega) (by omega)]; rfl
    rw [hd] at hs
    rw [l_flotsamref08_Split_0, M_loop, ← l_flotsamref08_Split_0]
    by_cases hb : a = 47
    · subst hb
      simp [b_flotsamref08_Split_0, h0, h4, h5, h6, hi, ha]
      refine hexit _ (by simp [h0]) (by simp [h4]) (by simp [h5]) ?_
      rw [hs]; simp [h6]
    · have hb' : ¬ (a.toNat : Int) = 47 := by
        intro e
        apply hb
        have : a.toNat = 47 := by omega
        rw [← UInt8.toNat_inj]; exact this
      simp [b_flotsamref08_Split_0, h0, h4, h5, h6, hi, ha, hb', hw1]
      refine ih (i + 1) _ (by omega) (by omega) ?_ ?_ ?_ ?_ ?_
      · rw [hs, List.takeWhile_cons, if_pos (by simpa using hb), List.length_cons]; omega
      · simp [h0]
      · simp [h4]
      · simp [h5]
      · simp

theorem take_takeWhile {α : Type} (p : α → Bool) (l : List α) : l.take (l.takeWhile p).length = l.takeWhile p := (List.prefix_iff_eq_take.1 (List.takeWhile_prefix p)).symm
theorem drop_takeWhile {α : Type} (p : α → Bool) : ∀ l : List α, l.drop (l.takeWhile p).length = l.dropWhile p
  | [] => rfl
  | a :: l => by
    have := drop_takeWhile p l
    cases h : p a with
    | true => simp [h, this]
    | false => simp [h]
theorem takeWhile_len {α : Type} (p : α → Bool) (l : List α) : (l.takeWhile p).length ≤ l.length := (List.takeWhile_sublist (l := l) p).length_le

theorem outer_loop8 (s : List UInt8) (hl : s.length ≤ 100000) (H : Heap) (Q : Option (V × Heap) → Prop) (k : List Item) (R : Option (List (List UInt8)))
    (hret : ∀ φ', R = none → Fr.get φ' 2 = .own 1 [] → Fr.get φ' 3 = .int .i64 9 → Q (retK k φ' H))
    (hexit : ∀ φ' l, R = some l → Fr.get φ' 4 = .own 1 (l.map tx) → Q (M (eval tbl noExt) k φ' H)) :
    ∀ (n i : Nat) (acc : List (List UInt8)) (φ : Fr), s.length - i < n → i ≤ s.length → acc.length ≤ i → R = (refS n (s.drop i)).map (acc ++ ·) → Fr.get φ 0 = .str s → Fr.get φ 4 = .own 1 (acc.map tx) → Fr.get φ 5 = .int .i64 i →
      Q (M (eval tbl noExt) (.code l_flotsamref08_Split_1 :: .blk 0 :: k) φ H) := by
  intro n
  induction n with
  | zero => intro i acc φ h; omega
  | succ n ih =>
    intro i acc φ hn hil hacc hR h0 h4 h5
    by_cases hlt : i < s.length
    case neg =>
      have hi : ¬ ((i : Int) < s.length) := by omega
      rw [List.drop_of_length_le (by omega)] at hR
      rw [l_flotsamref08_Split_1, M_loop, ← l_flotsamref08_Split_1]
      simp [b_flotsamref08_Split_1, h0, h4, h5, hi]
      exact hexit _ acc (by rw [hR]; simp [refS]) (by simp [h4])
    have hi : (i : Int) < s.length := by omega
    obtain ⟨a, ha, hd⟩ : ∃ a, s[i]? = some a ∧ s.drop i = a :: s.drop (i + 1) := ⟨s[i], List.getElem?_eq_getElem hlt, List.drop_eq_getElem_cons hlt⟩
    rw [hd, refS] at hR
    by_cases hb : a = 47
    case neg =>
      have hb' : ¬ (a.toNat : Int) = 47 := by
        intro e
        apply hb
        have : a.toNat = 47 := by omega
        rw [← UInt8.toNat_inj]; exact this
      rw [if_neg hb] at hR
      rw [l_flotsamref08_Split_1, M_loop, ← l_flotsamref08_Split_1]
      simp [b_flotsamref08_Split_1, h0, h4, h5, hi, ha, hb']
      exact hret _ hR (by simp) (by simp)
    subst hb
    rw [if_pos rfl] at hR
    have hw1 : IntKind.i64.wrap ((i : Int) + 1) = ((i + 1 : Nat) : Int) := by rw [w64 (by omega) (by omega)]; rfl
    generalize hW : (s.drop (i + 1)).takeWhile (· ≠ 47) = W at hR
    have hWl : W.length ≤ s.length - (i + 1) := by
      rw [← hW]; have := takeWhile_len (· ≠ 47) (s.drop (i + 1)); rw [List.length_drop] at this; exact this
    have hsl : (s.take (i + 1 + W.length)).drop (i + 1) = W := by
      rw [List.drop_take]
      have : i + 1 + W.length - (i + 1) = W.length := by omega
      rw [this, ← hW]; exact take_takeWhile _ _
    have hnext : (s.drop (i + 1)).dropWhile (· ≠ 47) = s.drop (i + 1 + W.length) := by
      rw [← drop_takeWhile, hW, List.drop_drop]
    rw [hnext] at hR
    have c1 : ((i : Int) + 1) ≤ (i : Int) + 1 + W.length := by omega
    have c2 : (i : Int) + 1 + W.length ≤ s.length := by omega
    have c3 : (0 : Int) ≤ (i : Int) + 1 + W.length := by omega
    have c4 : ((i : Int) + 1 + W.length).toNat = i + 1 + W.length := by omega
    have c5 : (0 : Int) ≤ (i : Int) + 1 := by omega
    have c6 : ((i : Int) + 1).toNat = i + 1 := by omega
    have c7 : i ≤ i + W.length := by omega
    have hN := refName7_eq W (by omega)
    have happ : 2 * (acc.length + 1) * 16 ≤ 281474976710656 := by omega
    rw [l_flotsamref08_Split_1, M_loop, ← l_flotsamref08_Split_1]
    simp [b_flotsamref08_Split_1, h0, h4, h5, hi, ha, hw1]
    refine inner_loop8 s hl H _ Q _ (.own 1 (acc.map tx)) (.int .i64 i) (i + 1) (fun φ' g0 g4 g5 g6 => ?_) (s.length - (i + 1)) (i + 1) _ (by omega) (by omega) rfl ?_ ?_ ?_ ?_
    · rw [hW] at g6
      cases hf : isFile W with
      | false =>
        rw [hf] at hN hR
        rw [if_neg (by simp)] at hR
        simp [r_flotsamref08_Split_0, g0, g4, g5, g6, hw1, c1, c2, c3, c4, c5, c6, hsl, hN, lt_flotsamref07_Name]
        exact hret _ hR (by simp) (by simp)
      | true =>
        rw [hf] at hN hR
        rw [if_pos rfl] at hR
        simp [r_flotsamref08_Split_0, g0, g4, g5, g6, hw1, c1, c2, c3, c4, c5, c6, hsl, hN, lt_flotsamref07_Name, happ]
        refine ih (i + 1 + W.length) (acc ++ [W]) _ (by omega) (by omega) (by simp; omega) ?_ ?_ ?_ ?_
        · rw [hR, Option.map_map]; congr 1; funext x; simp
        · simp [g0]
        · simp [tx]
        · simp
    all_goals simp [h0, h4, h5]

theorem refSplit_eq (p : List UInt8) (hl : p.length ≤ 100000) (H : Heap) : eval tbl noExt n_flotsamref08_Split [.str p] H = some (splitV p, H) := by
  rw [eval_M rfl rfl t_flotsamref08_Split rfl]
  by_cases h0 : p = [47]
  · simp [c_flotsamref08_Split, h0, splitV, splitP]
  simp [c_flotsamref08_Split, h0]
  refine outer_loop8 p hl H (fun o => o = some (splitV p, H)) _ (refS (p.length + 2) p) (fun φ' e g2 g3 => ?_) (fun φ' l e g4 => ?_) (p.length + 2) 0 [] _ (by omega) (by omega) (by simp) (by simp) (by simp) (by simp) (by simp)
  · have hs : splitP p = ([], 9) := by
      unfold splitP
      rw [if_neg h0]
      cases p with
      | nil => rfl
      | cons c r =>
        by_cases hc : c = 47
        · subst hc
          rw [refS_eq _ r (by simp)] at e
          have ha : ¬ allFile (splitOn 47 r) = true := by
            intro h; rw [if_pos h] at e; cases e
          simp [ha]
        · simp [hc]
    simp [splitV, hs, g2, g3]
  · have hlen : l.length ≤ 100001 ∧ splitV p = .tup (if l.length < 1 ∨ 4 < l.length then [.sl 1 [], .int .i64 9] else [.sl 1 (l.map tx), .int .i64 0]) := by
      unfold splitV splitP
      rw [if_neg h0]
      cases p with
      | nil =>
        simp [refS] at e; subst e; simp
      | cons c r =>
        by_cases hc : c = 47
        · subst hc
          rw [refS_eq _ r (by simp)] at e
          by_cases ha : allFile (splitOn 47 r) = true
          · rw [if_pos ha] at e
            cases e
            have := splitOn_len 47 r
            have h1 : ¬ (splitOn 47 r).length < 1 := by have := List.length_pos_iff.2 this.2; omega
            refine ⟨by simp at hl; omega, ?_⟩
            by_cases h4 : (splitOn 47 r).length ≤ 4
            · have : ¬ 4 < (splitOn 47 r).length := by omega
              simp [ha, h4, h1, this]
            · have : 4 < (splitOn 47 r).length := by omega
              simp [ha, h4, h1, this]
          · rw [if_neg ha] at e; cases e
        · simp [refS, hc] at e
    obtain ⟨hln, hv⟩ := hlen
    rw [hv]
    by_cases h1 : l.length < 1
    · have h1' : (l.length : Int) < 1 := by omega
      simp [r_flotsamref08_Split_1, g4, h1, h1']
    have h1' : ¬ (l.length : Int) < 1 := by omega
    by_cases h4 : 4 < l.length
    · have h4' : (4 : Int) < l.length := by omega
      simp [r_flotsamref08_Split_1, g4, h1, h1', h4, h4']
    · have h4' : ¬ (4 : Int) < l.length := by omega
      simp [r_flotsamref08_Split_1, g4, h1, h1', h4, h4']

end Go.AM.Spec
