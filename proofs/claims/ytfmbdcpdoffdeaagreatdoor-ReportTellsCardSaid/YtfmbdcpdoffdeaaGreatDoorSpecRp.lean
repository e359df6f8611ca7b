/-
 The parts of this proof that speak of the functions one by one.
-/
import Derived.Test.YtfmbdcpdoffdeaaGreatDoorSpecSi
import Derived.Test.YtfmbdcpdoffdeaaGreatDoorSpecSc
import Derived.Test.YtfmbdcpdoffdeaaGreatDoorTyl
namespace Go.AM.Spec
set_option linter.unusedVariables false
set_option linter.unusedSimpArgs false
set_option maxHeartbeats 1000000
set_option maxRecDepth 10000
def errWs : List (List UInt8) := [[111, 107], [97, 114, 103], [102, 117, 108, 108], [105, 111], [110, 111, 110, 101], [116, 104, 101, 114, 101], [107, 105, 110, 100], [98, 117, 115, 121], [102, 111, 114, 109], [110, 97, 109, 101], [102, 117, 101, 108], [116, 121, 112, 101], [115, 121, 110, 116, 97, 120], [98, 111, 117, 110, 100], [108, 105, 109, 105, 116], [102, 97, 105, 108]]
def errW (e : Int) : List UInt8 := if 0 ≤ e ∧ e ≤ 15 then errWs.getD e.toNat [] else [63]
def killedW : List UInt8 := [107, 105, 108, 108, 101, 100]
def incW : List UInt8 := [105, 110, 99, 111, 110, 99, 108, 117, 115, 105, 118, 101]
def survW : List UInt8 := [115, 117, 114, 118, 105, 118, 101, 100]
def failedW : List UInt8 := [102, 97, 105, 108, 101, 100]
theorem err16 {e : Int} (h0 : 0 ≤ e) (h1 : e ≤ 15) : e = 0 ∨ e = 1 ∨ e = 2 ∨ e = 3 ∨ e = 4 ∨ e = 5 ∨ e = 6 ∨ e = 7 ∨ e = 8 ∨ e = 9 ∨ e = 10 ∨ e = 11 ∨ e = 12 ∨ e = 13 ∨ e = 14 ∨ e = 15 := by omega
def lettersB (w : List UInt8) : Bool := w.all fun c => decide (97 ≤ c.toNat) && decide (c.toNat ≤ 122)
theorem letters_no {w : List UInt8} (h : lettersB w = true) {c : UInt8} (hc : c.toNat < 97) : c ∉ w := fun hm => by
 have := List.all_eq_true.1 h c hm
 simp at this; omega
theorem errW_letters {e : Int} (h0 : 0 ≤ e) (h1 : e ≤ 15) : lettersB (errW e) = true := by
 rcases err16 h0 h1 with rfl | rfl | rfl | rfl | rfl | rfl | rfl | rfl | rfl | rfl | rfl | rfl | rfl | rfl | rfl | rfl <;> decide
theorem errW_failed {e : Int} (h0 : 0 ≤ e) (h1 : e ≤ 15) : errW e ≠ failedW := by
 rcases err16 h0 h1 with rfl | rfl | rfl | rfl | rfl | rfl | rfl | rfl | rfl | rfl | rfl | rfl | rfl | rfl | rfl | rfl <;> decide
theorem errW_len (e : Int) : (errW e).length ≤ 10 := by
 unfold errW
 split
 ·rename_i h
  rcases err16 h.1 h.2 with rfl | rfl | rfl | rfl | rfl | rfl | rfl | rfl | rfl | rfl | rfl | rfl | rfl | rfl | rfl | rfl <;> decide
 ·decide
def errTo (w : List UInt8) : Nat → Nat → Option Nat
 | 0, _ => none
 | k + 1, j => if errW j = w then some j else errTo w k (j + 1)
def errnoR (w : List UInt8) : Int × Bool := match errTo w 16 0 with
 | some j => (j, true)
 | none => (0, false)
theorem errTo_range (w : List UInt8) : ∀ k j i, errTo w k j = some i → j ≤ i ∧ i < j + k ∧ errW i = w
 | 0, j, i, h => by simp [errTo] at h
 | k + 1, j, i, h => by
  unfold errTo at h
  split at h
  ·simp only [Option.some.injEq] at h
   subst h
   exact ⟨by omega, by omega, ‹_›⟩
  ·have := errTo_range w k (j + 1) i h
   exact ⟨by omega, by omega, this.2.2⟩
theorem errnoR_errW {e : Int} (h0 : 0 ≤ e) (h1 : e ≤ 15) : errnoR (errW e) = (e, true) := by
 rcases err16 h0 h1 with rfl | rfl | rfl | rfl | rfl | rfl | rfl | rfl | rfl | rfl | rfl | rfl | rfl | rfl | rfl | rfl <;> decide
theorem errnoR_word {w : List UInt8} (h : (errnoR w).2 = true) : errW (errnoR w).1 = w ∧ 0 ≤ (errnoR w).1 ∧ (errnoR w).1 ≤ 15 := by
 unfold errnoR at h ⊢
 split at h
 ·rename_i j hj
  have := errTo_range w 16 0 j hj
  simp only
  exact ⟨this.2.2, by omega, by omega⟩
 ·simp at h
theorem text_digit {n : Int} (h0 : 0 ≤ n) (h1 : n ≤ 1000000000000) : ∀ c ∈ text n, isDigP c := by
 have h : readR (text n) = (n, true) := by rw [read_text n (by omega) (by omega), if_pos ⟨h0, h1⟩]
 unfold readR at h
 split at h
 ·simp at h
 ·split at h
  ·simp at h
  ·rename_i v hv
   exact val_digits 0 _ hv
theorem text_no {n : Int} (h0 : 0 ≤ n) (h1 : n ≤ 1000000000000) {c : UInt8} (hc : c.toNat < 48) : c ∉ text n := fun hm => by
 have := text_digit h0 h1 c hm
 unfold isDigP at this
 omega
def Ce.word (c : Ce) : List UInt8 := if c.verdict = 2 then errW c.err else failedW
def Ce.line (c : Ce) : List UInt8 :=
 if c.says = 1 then killedW ++ 32 :: (text c.point ++ 32 :: (text c.kept ++ 32 :: c.word)) else if c.says = 2 then incW ++ 32 :: errW c.limit else survW
def Ce.show (c : Ce) : List UInt8 × Bool := if c.right then (c.line, true) else ([], false)
def zeroCe : Ce := ⟨0, 0, 0, 0, 0, 0⟩
def killedR (l : List (List UInt8)) : Ce × Bool :=
 if l.length = 3 then
  (⟨1, (readR (l.getD 0 [])).1, (readR (l.getD 1 [])).1, if l.getD 2 [] = failedW then 1 else 2, if l.getD 2 [] = failedW then 0 else (errnoR (l.getD 2 [])).1, 0⟩,
   (readR (l.getD 0 [])).2 && ((readR (l.getD 1 [])).2 && (decide (l.getD 2 [] = failedW) || (errnoR (l.getD 2 [])).2)))
 else (zeroCe, false)
def ceOf (t : List UInt8) : Ce × Bool :=
 if (splitOn 32 t).getD 0 [] = killedW then killedR ((splitOn 32 t).drop 1)
 else if (splitOn 32 t).getD 0 [] = incW ∧ (splitOn 32 t).length = 2 then ({ zeroCe with says := 2, limit := (errnoR ((splitOn 32 t).getD 1 [])).1 }, (errnoR ((splitOn 32 t).getD 1 [])).2)
 else (zeroCe, decide ((splitOn 32 t).length = 1) && decide (t = survW))
def readCe (t : List UInt8) : Ce × Bool := if (ceOf t).2 && (ceOf t).1.right then ((ceOf t).1, true) else (zeroCe, false)
theorem Ce.right_cases {c : Ce} (h : c.right = true) : (c.says = 1 ∧ c.limit = 0 ∧ 0 ≤ c.point ∧ c.point ≤ 1000000 ∧ c.kept < 65536 ∧ (c.verdict = 1 ∧ c.err = 0 ∨ c.verdict = 2 ∧ 0 < c.err ∧ c.err ≤ 15)) ∨
  (c.says = 2 ∧ c.point = 0 ∧ c.kept = 0 ∧ c.verdict = 0 ∧ c.err = 0 ∧ 0 ≤ c.limit ∧ c.limit ≤ 15) ∨ c = zeroCe := by
 obtain ⟨says, point, kept, verdict, err, limit⟩ := c
 unfold Ce.right at h
 dsimp only at h ⊢
 split at h
 ·rename_i h1
  simp only [Bool.and_eq_true, decide_eq_true_eq] at h
  obtain ⟨h2, h3⟩ := h
  unfold Ce.witOK at h3
  dsimp only at h3
  simp only [Bool.and_eq_true, decide_eq_true_eq] at h3
  obtain ⟨h4, h5, h6, h7⟩ := h3
  refine .inl ⟨h1, h2, h4, h5, h6, ?_⟩
  split at h7
  ·rename_i h8; exact .inl ⟨h8, by simpa using h7⟩
  ·split at h7
   ·rename_i h8
    simp only [Bool.and_eq_true, decide_eq_true_eq] at h7
    exact .inr ⟨h8, h7.1, h7.2.1⟩
   ·cases h7
 ·split at h
  ·rename_i h1
   simp only [Bool.and_eq_true, Bool.or_eq_true, decide_eq_true_eq] at h
   refine .inr (.inl ⟨h1, h.1.1, h.1.2.1, h.1.2.2.1, h.1.2.2.2, ?_, ?_⟩) <;> omega
  ·simp only [Bool.and_eq_true, decide_eq_true_eq] at h
   obtain ⟨h1, h2, h3, h4, h5, h6⟩ := h
   subst h1 h2 h3 h4 h5 h6
   exact .inr (.inr rfl)
theorem word_letters {c : Ce} (h : c.verdict = 1 ∧ c.err = 0 ∨ c.verdict = 2 ∧ 0 < c.err ∧ c.err ≤ 15) : lettersB c.word = true := by
 unfold Ce.word
 rcases h with ⟨h, _⟩ | ⟨h, h1, h2⟩
 ·rw [if_neg (by omega)]; decide
 ·rw [if_pos h]; exact errW_letters (by omega) h2
theorem line_split {c : Ce} (h : c.right = true) (hk : 0 ≤ c.kept) : splitOn 32 c.line = if c.says = 1 then [killedW, text c.point, text c.kept, c.word] else if c.says = 2 then [incW, errW c.limit] else [survW] := by
 have n32 : (32 : UInt8).toNat = 32 := rfl
 unfold Ce.line
 rcases Ce.right_cases h with ⟨h1, _, h3, h4, h5, h6⟩ | ⟨h1, _, _, _, _, h3, h4⟩ | rfl
 ·rw [if_pos h1, if_pos h1, spl_app _ _ (letters_no (by decide) (by omega)), spl_app _ _ (text_no h3 (by omega) (by omega)), spl_app _ _ (text_no hk (by omega) (by omega)), spl_none _ (letters_no (word_letters h6) (by omega))]
 ·rw [if_neg (by omega), if_pos h1, if_neg (by omega), if_pos h1, spl_app _ _ (letters_no (by decide) (by omega)), spl_none _ (letters_no (errW_letters h3 h4) (by omega))]
 ·decide
theorem read_line {c : Ce} (h : c.right = true) (hk : 0 ≤ c.kept) : readCe c.line = (c, true) := by
 have hs := line_split h hk
 have key : ceOf c.line = (c, true) := by
  rcases Ce.right_cases h with ⟨h1, h2, h3, h4, h5, h6⟩ | ⟨h1, h2, h3, h4, h5, h6, h7⟩ | rfl
  ·have ha : readR (text c.point) = (c.point, true) := by rw [read_text _ (by omega) (by omega), if_pos ⟨h3, by omega⟩]
   have hb : readR (text c.kept) = (c.kept, true) := by rw [read_text _ (by omega) (by omega), if_pos ⟨hk, by omega⟩]
   rw [if_pos h1] at hs
   unfold ceOf
   rw [hs]
   simp only [List.getD_cons_zero, if_true, List.drop_succ_cons, List.drop_zero]
   unfold killedR
   simp only [List.length_cons, List.length_nil, List.getD_cons_zero, List.getD_cons_succ, if_true, ha, hb, Nat.zero_add, Nat.reduceAdd]
   obtain ⟨says, point, kept, verdict, err, limit⟩ := c
   simp only at h1 h2 h6
   subst h1 h2
   rcases h6 with ⟨rfl, rfl⟩ | ⟨rfl, h7, h8⟩
   ·simp [Ce.word]
   ·have hw := errW_failed (e := err) (by omega) h8
    have he := errnoR_errW (e := err) (by omega) h8
    simp [Ce.word, hw, he]
  ·have he := errnoR_errW h6 h7
   rw [if_neg (by omega), if_pos h1] at hs
   unfold ceOf
   rw [hs]
   have hne : ¬ incW = killedW := by decide
   simp only [List.getD_cons_zero, List.getD_cons_succ, List.length_cons, List.length_nil, hne, if_false, he, Nat.zero_add, Nat.reduceAdd, and_self, if_true]
   obtain ⟨says, point, kept, verdict, err, limit⟩ := c
   simp only at h1 h2 h3 h4 h5
   subst h1 h2 h3 h4 h5
   rfl
  ·decide
 unfold readCe
 rw [key, h]
 rfl
theorem line_read {t : List UInt8} (h : (readCe t).2 = true) : (readCe t).1.right = true ∧ (readCe t).1.line = t ∧ 0 ≤ (readCe t).1.kept := by
 have hj := join_spl (c := 32) t
 unfold readCe at h ⊢
 split at h
 ·rename_i hc
  rw [if_pos hc]
  simp only [Bool.and_eq_true] at hc
  obtain ⟨h1, h2⟩ := hc
  refine ⟨h2, ?_⟩
  unfold ceOf at h1 h2 ⊢
  split at h1
  ·rename_i hk
   simp only [hk, if_true] at h2 ⊢
   unfold killedR at h1 h2 ⊢
   split at h1
   ·rename_i hl
    simp only [hl, if_true] at h2 ⊢
    generalize hL : splitOn 32 t = L at *
    match L, hl with
    | [x, a, b, w], _ =>
     simp only [List.getD_cons_zero, List.getD_cons_succ, List.drop_succ_cons, List.drop_zero, Bool.and_eq_true, Bool.or_eq_true, decide_eq_true_eq] at hk h1 h2 ⊢
     obtain ⟨ha, hb, hw⟩ := h1
     subst hk
     rw [spl_jn2, spl_jn2, spl_jn2, Go.Lib.join_one] at hj
     refine ⟨?_, (read_small b).1⟩
     unfold Ce.line Ce.word
     simp only [if_true, text_read a ha, text_read b hb]
     rw [← hj]
     by_cases hf : w = failedW
     ·simp [hf]
     ·have := errnoR_word (hw.resolve_left hf)
      simp [hf, this.1]
    | [], hl => simp at hl
    | [_], hl => simp at hl
    | [_, _], hl => simp at hl
    | [_, _, _], hl => simp at hl
    | _ :: _ :: _ :: _ :: _ :: _, hl => simp at hl
   ·cases h1
  ·rename_i hk
   simp only [hk, if_false] at h2 ⊢
   split at h1
   ·rename_i hi
    simp only [hi, and_self, if_true] at h2 ⊢
    obtain ⟨hi, hl⟩ := hi
    generalize splitOn 32 t = L at *
    match L, hl with
    | [x, a], _ =>
     simp only [List.getD_cons_zero, List.getD_cons_succ] at hi h1 h2 ⊢
     subst hi
     rw [spl_jn2, Go.Lib.join_one] at hj
     have := errnoR_word h1
     refine ⟨?_, by simp [zeroCe]⟩
     unfold Ce.line
     simp only [zeroCe]
     rw [if_neg (by omega), this.1, ← hj]
     simp
    | [], hl => simp at hl
    | [_], hl => simp at hl
    | _ :: _ :: _ :: _, hl => simp at hl
   ·rename_i hi
    simp only [Bool.and_eq_true, decide_eq_true_eq] at h1
    rw [if_neg hi]
    rw [h1.2]
    exact ⟨by decide, by decide⟩
 ·cases h
def isSays (w : Int) (c : Ce) : Bool := decide (c.says = w)
theorem says_eq (w : Int) (H : Heap) : eval tbl noExt n_score_says [iv w] H = some (.fn (.func n_score_says_1) [] [.ptr H.length 0], H ++ [some [iv w]]) := by
 rw [eval_M rfl rfl t_score_says rfl]
 simp [c_score_says]
theorem says1_eq (w : Int) (c : Ce) (i : Nat) (K : Heap) (hi : K[i]? = some (some [iv w])) : eval tbl noExt n_score_says_1 [.agg c.cells, .ptr i 0] K = some (.bool (isSays w c), K) := by
 have hlt := get_lt hi
 have hi2 : ∀ r : Heap, (K ++ r)[i]? = some (some [iv w]) := fun r => by rw [List.getElem?_append_left hlt]; exact hi
 have hcell : c.cells = [iv c.says, iv c.point, uv c.kept, iv c.verdict, iv c.err, iv c.limit] := rfl
 rw [eval_M rfl rfl t_score_says_1 rfl]
 simp [c_score_says_1, hcell, hi2, isSays]
 where
 get_lt {K : Heap} {i : Nat} {x : Option (List V)} (h : K[i]? = some x) : i < K.length := by
  rcases Nat.lt_or_ge i K.length with h1 | h1
  ·exact h1
  ·rw [List.getElem?_eq_none h1] at h; cases h
theorem countSays_eq (l : List Ce) (hl : l.length ≤ 100000) (w : Int) (i : Nat) (H : Heap) (hi : H[i]? = some (some [iv w])) :
  eval tbl noExt n_score_count_api_Cell [.sl 6 (l.map Ce.cells), .fn (.func n_score_says_1) [] [.ptr i 0]] H = some (iv (l.countP (isSays w)), H) :=
 count6_eq l hl lt_score_says_1 (isSays w) H (fun c _ K hK _ => says1_eq w c i K (get_take hK hi))
def killN (l : List Ce) : Nat := l.countP (isSays 1)
def bothN (l : List Ce) : Nat := l.countP (isSays 1) + l.countP (isSays 0)
def sumN (f : List Ce → Nat) (rows : List (List Ce)) : Nat := (rows.map f).sum
theorem score_loop (n : Nat) (H : Heap) (Q : Option (V × Heap) → Prop) (k : List Item) (l : List (List Ce)) (hl : l.length ≤ 512) (hrow : ∀ r ∈ l, r.length ≤ 3001) (A B : Nat)
  (hexit : ∀ φ' K', K'.take n = H → n ≤ K'.length → Fr.get φ' 4 = iv A → Fr.get φ' 5 = iv B → Q (M (eval tbl noExt) k φ' K')) :
  ∀ (j i : Nat) (φ : Fr) (K : Heap) (a b : Nat), i + j = l.length → a ≤ 7000 * i → b ≤ 7000 * i → a + sumN killN (l.drop i) = A → b + sumN bothN (l.drop i) = B → K.take n = H → n ≤ K.length → Fr.get φ 4 = iv a → Fr.get φ 5 = iv b → Fr.get φ 10 = .sl 1 (l.map rowV) → Fr.get φ 11 = iv l.length → Fr.get φ 12 = iv i →
   Q (M (eval tbl noExt) (.code l_score_Score_0 :: .blk 0 :: k) φ K) := by
 intro j
 induction j with
 | zero =>
  intro i φ K a b hi ha hb hA hB hK hn h4 h5 h10 h11 h12
  have hlt : ¬ (i : Int) < l.length := by omega
  rw [List.drop_eq_nil_of_le (by omega)] at hA hB
  rw [l_score_Score_0, M_loop]
  simp [b_score_Score_0, h4, h5, h10, h11, h12, hlt]
  exact hexit _ _ hK hn (by rw [← hA]; simp [h4, sumN]) (by rw [← hB]; simp [h5, sumN])
 | succ j ih =>
  intro i φ K a b hi ha hb hA hB hK hn h4 h5 h10 h11 h12
  have hlt : i < l.length := by omega
  obtain ⟨c, hc⟩ : ∃ c, c = l[i] := ⟨_, rfl⟩
  have hc' : l[i]? = some c := by rw [hc]; exact List.getElem?_eq_getElem hlt
  have hmem : c ∈ l := by rw [hc]; exact List.getElem_mem _
  have hcl := hrow c hmem
  have hg : ∀ h : i < l.length, l[i] = c := fun h => hc.symm
  rw [List.drop_eq_getElem_cons hlt, ← hc] at hA hB
  simp only [sumN, List.map_cons, List.sum_cons] at hA hB
  have hr : (l.map rowV)[i]? = some [.sl 6 (c.map Ce.cells)] := by rw [List.getElem?_map, hc']; rfl
  have hrv : rowV c = [.sl 6 (c.map Ce.cells)] := rfl
  have k1 : c.countP (isSays 1) ≤ c.length := List.countP_le_length
  have k2 : c.countP (isSays 0) ≤ c.length := List.countP_le_length
  have e1 : (i : Int) < l.length := by omega
  have e2 : IntKind.i64.wrap ((i : Int) + 1) = ((i + 1 : Nat) : Int) := by rw [w64] <;> omega
  have hs1 := says_eq 1 K
  have hs0 := says_eq 0 (K ++ [some [iv 1]])
  have hc1 := countSays_eq c (by omega) 1 K.length (K ++ [some [iv 1]]) (by simp)
  have hc0 := countSays_eq c (by omega) 0 (K.length + 1) (K ++ [some [iv 1], some [iv 0]]) (by simp)
  simp at hs0
  obtain ⟨x, hx⟩ : ∃ x, x = c.countP (isSays 1) := ⟨_, rfl⟩
  obtain ⟨y, hy⟩ : ∃ y, y = c.countP (isSays 0) := ⟨_, rfl⟩
  have hkill : killN c = x := hx.symm
  have hboth : bothN c = x + y := by rw [hx, hy]; rfl
  rw [← hx] at hc1 k1
  rw [← hy] at hc0 k2
  rw [hkill] at hA
  rw [hboth] at hB
  have e3 : IntKind.i64.wrap ((a : Int) + x) = ((a + x : Nat) : Int) := by rw [w64] <;> omega
  have e4 : IntKind.i64.wrap ((x : Int) + y) = ((x + y : Nat) : Int) := by rw [w64] <;> omega
  have e5 : IntKind.i64.wrap ((b : Int) + ((x : Int) + y)) = ((b + (x + y) : Nat) : Int) := by rw [w64] <;> omega
  have e4' : IntKind.i64.wrap ((x : Int) + y) = (x : Int) + y := by rw [w64] <;> omega
  have hK2 : ∀ r, (K ++ r).take n = H := fun r => take_more hK hn r
  have hn2 : ∀ r : Heap, n ≤ (K ++ r).length := fun r => by simp; omega
  rw [l_score_Score_0, M_loop, ← l_score_Score_0]
  simp [b_score_Score_0, h4, h5, h10, h11, h12, hr, hrv, e1, e2, e3, e4', e5, hg, hlt, hs1, hs0, hc1, hc0]
  refine ih (i + 1) _ _ (a + x) (b + (x + y)) (by omega) (by omega) (by omega) (by simp only [sumN]; omega) (by simp only [sumN]; omega) (hK2 _) (hn2 _) ?_ ?_ ?_ ?_ ?_ <;> simp [h10, h11]
theorem Score_eq (m : Mx) (hm : m.few) (H : Heap) : eval tbl noExt n_score_Score [.agg m.cells] H = some (.tup [iv (sumN killN m.rows), iv (sumN bothN m.rows)], H) := by
 have hcell : m.cells = [.bool m.bad, .sl 6 (m.base.map Ce.cells), .sl 11 (m.sites.map Si.cells), .sl 1 (m.rows.map rowV)] := rfl
 rw [eval_M rfl rfl t_score_Score rfl]
 simp [c_score_Score, hcell]
 refine score_loop H.length H (fun r => r = some (.tup [iv (sumN killN m.rows), iv (sumN bothN m.rows)], H)) _ m.rows hm.rows hm.row (sumN killN m.rows) (sumN bothN m.rows) ?_ m.rows.length 0 _ _ 0 0 (by omega) (by omega) (by omega) (by simp) (by simp) (by simp) (by simp) ?_ ?_ ?_ ?_ ?_
 ·intro φ' K' hK hn h4 h5
  simp [r_score_Score_0, h4, h5, hK]
 all_goals simp
def headW (bad : Bool) : List UInt8 := if bad then [98, 97, 100] else [103, 111, 111, 100]
def scoreW : List UInt8 := [115, 99, 111, 114, 101]
def ofW : List UInt8 := [111, 102]
def Mx.total (m : Mx) : List UInt8 := scoreW ++ 32 :: (text (sumN killN m.rows) ++ 32 :: (ofW ++ 32 :: text (sumN bothN m.rows)))
def cellLines (l : List Ce) : List (List UInt8) := l.map fun c => 9 :: c.show.1
def rowLines : List Si → List (List Ce) → List (List UInt8)
 | s :: ss, r :: rs => s.name.1 :: (cellLines r ++ rowLines ss rs)
 | _, _ => []
def Mx.mids (m : Mx) : List (List UInt8) := cellLines m.base ++ rowLines m.sites m.rows
def Mx.lines (m : Mx) : List (List UInt8) := headW m.bad :: (m.mids ++ [m.total])
def unlines (l : List (List UInt8)) : List UInt8 := l.flatMap fun w => w ++ [10]
def Mx.print (m : Mx) : List UInt8 × Bool := if m.right then (unlines m.lines, true) else ([], false)
def zeroMx : Mx := ⟨false, [], [], []⟩
def Mx.addC (m : Mx) (c : Ce) : Mx := match m.rows.getLast? with
 | none => { m with base := m.base ++ [c] }
 | some r => { m with rows := m.rows.dropLast ++ [r ++ [c]] }
def Mx.addS (m : Mx) (s : Si) : Mx := { m with sites := m.sites ++ [s], rows := m.rows ++ [[]] }
def takeL (m : Mx) (t : List UInt8) : Option Mx := match t with
 | 9 :: u => if (readCe u).2 then some (m.addC (readCe u).1) else none
 | t => if (readSi t).2 then some (m.addS (readSi t).1) else none
def takeAll : Mx → List (List UInt8) → Option Mx
 | m, [] => some m
 | m, t :: l => match takeL m t with
  | some m => takeAll m l
  | none => none
def midOf (L : List (List UInt8)) : List (List UInt8) := (L.drop 1).take (L.length - 3)
def startMx (L : List (List UInt8)) : Mx := { zeroMx with bad := decide (L.getD 0 [] = headW true) }
def readMx (s : List UInt8) : Mx × Bool :=
 if (splitOn 10 s).length < 3 then (zeroMx, false)
 else match takeAll (startMx (splitOn 10 s)) (midOf (splitOn 10 s)) with
  | none => (zeroMx, false)
  | some m => if m.right = true ∧ unlines m.lines = s then (m, true) else (zeroMx, false)
theorem show_right {c : Ce} (h : c.right = true) : c.show = (c.line, true) := by unfold Ce.show; rw [if_pos h]
theorem wordOf_head {k : Int} (h0 : 1 ≤ k) (h1 : k ≤ 8) : ∃ c r, wordOf k = c :: r ∧ c ≠ 9 := by
 have : k = 1 ∨ k = 2 ∨ k = 3 ∨ k = 4 ∨ k = 5 ∨ k = 6 ∨ k = 7 ∨ k = 8 := by omega
 rcases this with rfl | rfl | rfl | rfl | rfl | rfl | rfl | rfl <;> exact ⟨_, _, rfl, by decide⟩
theorem wordOf_ten {k : Int} (h0 : 1 ≤ k) (h1 : k ≤ 8) : (10 : UInt8) ∉ wordOf k := by
 have : k = 1 ∨ k = 2 ∨ k = 3 ∨ k = 4 ∨ k = 5 ∨ k = 6 ∨ k = 7 ∨ k = 8 := by omega
 rcases this with rfl | rfl | rfl | rfl | rfl | rfl | rfl | rfl <;> decide
theorem join_no {c d : UInt8} (hcd : c ≠ d) : ∀ l : List (List UInt8), (∀ w ∈ l, c ∉ w) → c ∉ Go.Lib.join l [d]
 | [], _ => by simp [Go.Lib.join]
 | [w], h => by rw [Go.Lib.join_one]; exact h w (by simp)
 | x :: y :: r, h => by
  rw [spl_jn2]
  have ih := join_no hcd (y :: r) fun w hw => h w (by simp at hw ⊢; exact .inr hw)
  intro hm
  rcases List.mem_append.1 hm with hm | hm
  ·exact h x (by simp) hm
  ·rcases List.mem_append.1 hm with hm | hm
   ·simp at hm; exact hcd hm
   ·exact ih hm
theorem wordOf_four {k : Int} (h0 : 1 ≤ k) (h1 : k ≤ 8) : 4 ≤ (wordOf k).length := by
 have : k = 1 ∨ k = 2 ∨ k = 3 ∨ k = 4 ∨ k = 5 ∨ k = 6 ∨ k = 7 ∨ k = 8 := by omega
 rcases this with rfl | rfl | rfl | rfl | rfl | rfl | rfl | rfl <;> decide
theorem join_len1 (x : List UInt8) (l : List (List UInt8)) : x.length ≤ (Go.Lib.join (x :: l) [32]).length := by
 cases l with
 | nil => rw [Go.Lib.join_one]; exact Nat.le_refl _
 | cons y r => rw [spl_jn2]; simp
theorem text_pos (n : Int) : 1 ≤ (text n).length := by
 unfold text
 split
 ·simp
 ·exact digs_pos 18 n.toNat []
theorem name_form {s : Si} (hn : s.name.2 = true) : (∃ c r, s.name.1 = c :: r ∧ c ≠ 9) ∧ (10 : UInt8) ∉ s.name.1 ∧ 6 ≤ s.name.1.length := by
 unfold Si.name at hn ⊢
 split at hn
 ·cases hn
 ·rename_i hc
  split at hn
  ·cases hn
  ·rename_i hc2
   rw [if_neg hc, if_neg hc2]
   have hmay : s.may = true := by
    cases h : s.may with
    | true => rfl
    | false => exact absurd (.inr (.inr (.inr (.inr h)))) hc
   have hk0 : 1 ≤ s.kind := by
    rcases Int.lt_or_le s.kind 1 with h | h
    ·exact absurd (.inl h) hc
    ·exact h
   have hk1 : s.kind ≤ 8 := by
    rcases Int.lt_or_le 8 s.kind with h | h
    ·exact absurd (.inr (.inl h)) hc
    ·exact h
   have hp0 : 0 ≤ s.part := by
    rcases Int.lt_or_le s.part 0 with h | h
    ·exact absurd (.inr (.inr (.inl h))) hc
    ·exact h
   have hp1 : s.part ≤ 16 := by
    rcases Int.lt_or_le 16 s.part with h | h
    ·exact absurd (.inr (.inr (.inr (.inl h)))) hc
    ·exact h
   obtain ⟨d1, d8, hpos⟩ := Si.range hmay
   obtain ⟨c, r, hw, hc9⟩ := wordOf_head hk0 hk1
   have n10 : (10 : UInt8).toNat = 10 := rfl
   refine ⟨⟨c, r ++ ([32] ++ Go.Lib.join (text s.part :: (s.way.take s.deep.toNat).map text) [32]), ?_, hc9⟩, join_no (by decide) _ fun w hw => ?_, ?_⟩
   ·show Go.Lib.join (wordOf s.kind :: text s.part :: (s.way.take s.deep.toNat).map text) [32] = _
    rw [spl_jn2, hw]
    rfl
   ·simp only [Si.parts, List.mem_cons, List.mem_map] at hw
    rcases hw with rfl | rfl | ⟨x, hx, rfl⟩
    ·exact wordOf_ten hk0 hk1
    ·exact text_no hp0 (by omega) (by omega)
    ·have h1 := hpos x hx
     have h2 : x ≤ 511 := by
      rcases Int.lt_or_le 511 x with h | h
      ·exact absurd (List.any_eq_true.2 ⟨x, hx, by simpa using h⟩) hc2
      ·exact h
     exact text_no h1 (by omega) (by omega)
   ·show 6 ≤ (Go.Lib.join (wordOf s.kind :: text s.part :: (s.way.take s.deep.toNat).map text) [32]).length
    rw [spl_jn2]
    have h1 := wordOf_four hk0 hk1
    have h2 := join_len1 (text s.part) ((s.way.take s.deep.toNat).map text)
    have h3 := text_pos s.part
    simp only [List.length_append, List.length_cons, List.length_nil]
    omega
theorem cellLines_no {l : List Ce} (h : ∀ c ∈ l, c.right = true ∧ 0 ≤ c.kept) : ∀ w ∈ cellLines l, (10 : UInt8) ∉ w := by
 intro w hw
 simp only [cellLines, List.mem_map] at hw
 obtain ⟨c, hc, rfl⟩ := hw
 obtain ⟨h1, h2⟩ := h c hc
 rw [show_right h1]
 have n10 : (10 : UInt8).toNat = 10 := rfl
 have key : (10 : UInt8) ∉ c.line := by
  unfold Ce.line
  rcases Ce.right_cases h1 with ⟨e1, _, e3, e4, e5, e6⟩ | ⟨e1, _, _, _, _, e3, e4⟩ | rfl
  ·rw [if_pos e1]
   have q1 := text_no (c := 10) e3 (by omega) (by omega)
   have q2 := text_no (c := 10) h2 (by omega) (by omega)
   have q3 := letters_no (word_letters e6) (c := 10) (by omega)
   have q4 : (10 : UInt8) ∉ killedW := by decide
   simp only [List.mem_append, List.mem_cons, not_or]
   exact ⟨q4, by decide, q1, by decide, q2, by decide, q3⟩
  ·rw [if_neg (by omega), if_pos e1]
   have q3 := letters_no (errW_letters e3 e4) (c := 10) (by omega)
   have q4 : (10 : UInt8) ∉ incW := by decide
   simp only [List.mem_append, List.mem_cons, not_or]
   exact ⟨q4, by decide, q3⟩
  ·decide
 simp only [List.mem_cons, not_or]
 exact ⟨by decide, key⟩
theorem rowLines_no : ∀ (ss : List Si) (rs : List (List Ce)), (∀ s ∈ ss, s.name.2 = true) → (∀ r ∈ rs, ∀ c ∈ r, c.right = true ∧ 0 ≤ c.kept) → ∀ w ∈ rowLines ss rs, (10 : UInt8) ∉ w
 | [], _, _, _, w, hw => by simp [rowLines] at hw
 | _ :: _, [], _, _, w, hw => by simp [rowLines] at hw
 | s :: ss, r :: rs, hs, hr, w, hw => by
  simp only [rowLines, List.mem_cons, List.mem_append] at hw
  rcases hw with rfl | hw | hw
  ·exact (name_form (hs s (by simp))).2.1
  ·exact cellLines_no (hr r (by simp)) w hw
  ·exact rowLines_no ss rs (fun x hx => hs x (by simp [hx])) (fun x hx => hr x (by simp [hx])) w hw
theorem unlines_split : ∀ l : List (List UInt8), (∀ w ∈ l, (10 : UInt8) ∉ w) → splitOn 10 (unlines l) = l ++ [[]]
 | [], _ => rfl
 | w :: l, h => by
  have ih := unlines_split l fun x hx => h x (by simp [hx])
  simp only [unlines, List.flatMap_cons, List.append_assoc, List.singleton_append] at ih ⊢
  rw [spl_app _ _ (h w (by simp)), ih]
  rfl
structure Mx.good3 (m : Mx) : Prop where
 base : ∀ c ∈ m.base, c.right = true ∧ 0 ≤ c.kept
 rows : ∀ r ∈ m.rows, ∀ c ∈ r, c.right = true ∧ 0 ≤ c.kept
 sites : ∀ s ∈ m.sites, s.ok ∧ s.name.2 = true
 len : m.sites.length = m.rows.length
theorem sitesOK_all : ∀ (l done : List Si), sitesOK done l = true → ∀ s ∈ l, s.name.2 = true
 | [], _, _, s, hs => by simp at hs
 | x :: l, done, h, s, hs => by
  simp only [sitesOK, Bool.and_eq_true] at h
  rcases List.mem_cons.1 hs with rfl | hs
  ·exact h.1
  ·exact sitesOK_all l _ h.2.2 s hs
theorem Mx.good_of {m : Mx} (h : m.right = true) (hok : ∀ s ∈ m.sites, s.ok) (hb : ∀ c ∈ m.base, 0 ≤ c.kept) (hr : ∀ r ∈ m.rows, ∀ c ∈ r, 0 ≤ c.kept) : m.good3 := by
 unfold Mx.right at h
 simp only [Bool.and_eq_true] at h
 obtain ⟨_, h2, _, h4⟩ := h
 have hbase : ∀ c ∈ m.base, c.right = true ∧ 0 ≤ c.kept := fun c hc => ⟨List.all_eq_true.1 h2 c hc, hb c hc⟩
 split at h4
 ·simp only [Bool.and_eq_true, decide_eq_true_eq] at h4
  have e1 := List.eq_nil_of_length_eq_zero h4.1
  have e2 := List.eq_nil_of_length_eq_zero h4.2
  exact ⟨hbase, by simp [e2], by simp [e1], by rw [h4.1, h4.2]⟩
 ·simp only [Bool.and_eq_true, decide_eq_true_eq] at h4
  refine ⟨hbase, fun r hr' c hc => ⟨?_, hr r hr' c hc⟩, fun s hs => ⟨hok s hs, sitesOK_all _ _ h4.2.2 s hs⟩, h4.1⟩
  have := List.all_eq_true.1 h4.2.1 r hr'
  unfold rowOK at this
  simp only [Bool.and_eq_true] at this
  exact List.all_eq_true.1 this.2 c hc
theorem sumN_nat (f : List Ce → Nat) (B : Nat) : ∀ rs : List (List Ce), (∀ r ∈ rs, f r ≤ B) → sumN f rs ≤ B * rs.length
 | [], _ => by simp [sumN]
 | r :: rs, h => by
  have := sumN_nat f B rs fun x hx => h x (by simp [hx])
  have h1 := h r (by simp)
  simp only [sumN, List.map_cons, List.sum_cons, List.length_cons, Nat.mul_add] at this ⊢
  omega
theorem kills_few {m : Mx} (h : m.few) : sumN killN m.rows ≤ 3001 * 512 ∧ sumN bothN m.rows ≤ 6002 * 512 := by
 have h1 := sumN_nat killN 3001 m.rows fun r hr => by
  have := h.row r hr
  have h2 : killN r ≤ r.length := List.countP_le_length
  omega
 have h2 := sumN_nat bothN 6002 m.rows fun r hr => by
  have := h.row r hr
  have h2 : r.countP (isSays 1) ≤ r.length := List.countP_le_length
  have h3 : r.countP (isSays 0) ≤ r.length := List.countP_le_length
  unfold bothN
  omega
 have h3 := h.rows
 omega
theorem lines_no {m : Mx} (g : m.good3) (hf : m.few) : ∀ w ∈ m.lines, (10 : UInt8) ∉ w := by
 intro w hw
 simp only [Mx.lines, Mx.mids, List.mem_cons, List.mem_append, List.not_mem_nil, or_false] at hw
 rcases hw with rfl | (hw | hw) | rfl
 ·cases m.bad <;> decide
 ·exact cellLines_no g.base w hw
 ·exact rowLines_no _ _ (fun s hs => (g.sites s hs).2) g.rows w hw
 ·have n10 : (10 : UInt8).toNat = 10 := rfl
  obtain ⟨k1, k2⟩ := kills_few hf
  have q1 := text_no (n := (sumN killN m.rows : Nat)) (c := 10) (by omega) (by omega) (by omega)
  have q2 := text_no (n := (sumN bothN m.rows : Nat)) (c := 10) (by omega) (by omega) (by omega)
  have q3 : (10 : UInt8) ∉ scoreW := by decide
  have q4 : (10 : UInt8) ∉ ofW := by decide
  unfold Mx.total
  simp only [List.mem_append, List.mem_cons, not_or]
  exact ⟨q3, by decide, q1, by decide, q4, by decide, q2⟩
theorem print_read {s : List UInt8} (h : (readMx s).2 = true) : (readMx s).1.right = true ∧ unlines (readMx s).1.lines = s := by
 unfold readMx at h ⊢
 split at h
 ·cases h
 ·rename_i hl
  rw [if_neg hl]
  split at h
  ·cases h
  ·rename_i m hm
   split at h
   ·rename_i hc
    simp only [hm, if_pos hc]
    exact hc
   ·cases h
theorem read_none {s : List UInt8} (h : (readMx s).2 = false) : readMx s = (zeroMx, false) := by
 unfold readMx at h ⊢
 by_cases hl : (splitOn 10 s).length < 3
 ·rw [if_pos hl]
 ·rw [if_neg hl] at h ⊢
  cases hm : takeAll (startMx (splitOn 10 s)) (midOf (splitOn 10 s)) with
  | none => rfl
  | some m =>
   rw [hm] at h
   dsimp only at h ⊢
   by_cases hc : m.right = true ∧ unlines m.lines = s
   ·rw [if_pos hc] at h; cases h
   ·rw [if_neg hc]
theorem zero_cells_eq : [V.int .i64 0, V.int .i64 0, V.int .i64 0, V.int .i64 0, V.int .i64 0, V.int .i64 0, V.int .i64 0, V.int .i64 0, V.int .i64 0, V.int .i64 0, V.int .i64 0] = zeroSi.cells := rfl
theorem zeroSi_ok : zeroSi.ok := rfl
theorem rnums_loop (H : Heap) (L : List (List UInt8)) (hL : L.length ≤ 9) (Q : Option (V × Heap) → Prop) (k : List Item) (X : Option Si)
  (hyes : ∀ φ' s', X = some s' → s'.ok → Fr.get φ' 2 = .ptr H.length 0 → Fr.get φ' 5 = .ptr (H.length + 1) 0 → Q (M (eval tbl noExt) k φ' (H ++ [some zeroSi.cells, some s'.cells])))
  (hno : ∀ φ' s', X = none → Fr.get φ' 2 = .ptr H.length 0 → Fr.get φ' 3 = .bool false → Q (retK k φ' (H ++ [some zeroSi.cells, some s']))) :
  ∀ (j i : Nat) (φ : Fr) (s : Si), i + j = L.length → s.ok → readNums s i (L.drop i) = X → Fr.get φ 2 = .ptr H.length 0 → Fr.get φ 5 = .ptr (H.length + 1) 0 → Fr.get φ 45 = .sl 1 (L.map tx) → Fr.get φ 46 = iv L.length → Fr.get φ 47 = iv i →
   Q (M (eval tbl noExt) (.code l_site_Read_1 :: .blk 2 :: k) φ (H ++ [some zeroSi.cells, some s.cells])) := by
 intro j
 induction j with
 | zero =>
  intro i φ s hi ok hX h2 h5 h45 h46 h47
  have hlt : ¬ (i : Int) < L.length := by omega
  rw [List.drop_eq_nil_of_le (by omega)] at hX
  rw [l_site_Read_1, M_loop]
  simp [b_site_Read_1, h2, h5, h45, h46, h47, hlt]
  exact hyes _ s hX.symm ok (by simp [h2]) (by simp [h5])
 | succ j ih =>
  intro i φ s hi ok hX h2 h5 h45 h46 h47
  have hlt : i < L.length := by omega
  obtain ⟨u, hu⟩ : ∃ u, u = L[i] := ⟨_, rfl⟩
  have hu' : L[i]? = some u := by rw [hu]; exact List.getElem?_eq_getElem hlt
  rw [List.drop_eq_getElem_cons hlt, ← hu, readNums] at hX
  have htw : tx u = [V.str u] := rfl
  have hr : (L.map tx)[i]? = some (tx u) := by rw [tx_get, hu']; rfl
  have hg : ∀ h : i < L.length, L[i] = u := fun h => hu.symm
  have e1 : (i : Int) < L.length := by omega
  have e2 : IntKind.i64.wrap ((i : Int) + 1) = ((i + 1 : Nat) : Int) := by rw [w64] <;> omega
  have hrd := fun K => read_eq K u
  have hsm := read_small u
  have hc := Si.len ok
  rw [l_site_Read_1, M_loop, ← l_site_Read_1]
  by_cases hok : numOK u = true
  ·rw [if_pos hok] at hX
   unfold numOK at hok
   simp only [Bool.and_eq_true, decide_eq_true_eq] at hok
   obtain ⟨b1, b2⟩ := hok
   have b3 : ¬ 511 < (readR u).1 := by omega
   cases i with
   | zero =>
    have hs1 := Si.put1 s (readR u).1
    simp [b_site_Read_1, h2, h5, h45, h46, h47, hr, e1, e2, htw, hg, hlt, hrd, b1, b3, hc, hs1]
    refine ih 1 _ (s.putN 0 (readR u).1) (by omega) (Si.ok_putN ok _ _) hX ?_ ?_ ?_ ?_ ?_ <;> simp [h2, h5, h45, h46, w64]
   | succ m =>
    have hs2 := Si.put2 ok (i := m) (by omega) (readR u).1
    have e3 : IntKind.i64.wrap (((m + 1 : Nat) : Int) - 1) = (m : Int) := by rw [w64] <;> omega
    have e3' : IntKind.i64.wrap ((m : Int) + 1 - 1) = (m : Int) := by rw [w64] <;> omega
    have e4 : (m : Int) < 8 := by omega
    have e5 : ¬ ((m : Int) + 1 = 0) := by omega
    have e6 : (m : Int) + 1 < L.length := by omega
    have e7 : (0 : Int) ≤ (m : Int) + 1 := by omega
    have e8 : IntKind.i64.wrap ((m : Int) + 1 + 1) = (m : Int) + 1 + 1 := by rw [w64] <;> omega
    have e9 : 2 + m + 1 ≤ 11 := by omega
    have e10 : 2 + m < 11 := by omega
    have e12 : IntKind.i64.wrap (m : Int) = (m : Int) := by rw [w64] <;> omega
    have e11 : ((m : Int) + 1).toNat = m + 1 := by omega
    simp [b_site_Read_1, h2, h5, h45, h46, h47, hr, e1, e2, e3, e3', e4, e5, e6, e7, e8, e9, e10, e11, e12, htw, hg, hlt, hrd, b1, b3, hc, hs2]
    refine ih (m + 1 + 1) _ (s.putN (m + 1) (readR u).1) (by omega) (Si.ok_putN ok _ _) hX ?_ ?_ ?_ ?_ ?_ <;> simp [h2, h5, h45, h46]
  ·rw [if_neg hok] at hX
   have hz := h11 zeroSi zeroSi_ok
   have hz2 : zeroSi.cells.length = 11 := rfl
   have hz3 : setMany zeroSi.cells 0 zeroSi.cells = zeroSi.cells := rfl
   have hz4 : V.underAll (H.length + 1) zeroSi.cells = true := rfl
   have hz5 : zeroSi.cells.all V.one = true := rfl
   have hzc := zero_cells_eq
   cases b1 : (readR u).2 with
   | false =>
    simp [b_site_Read_1, h2, h5, h45, h46, h47, hr, e1, e2, htw, hg, hlt, hrd, b1, hzc, hz2, hz3, hz4, hz5]
    exact hno _ s.cells hX.symm (by simp [h2]) (by simp)
   | true =>
    have b3 : 511 < (readR u).1 := by
     unfold numOK at hok
     simp only [b1, Bool.true_and, decide_eq_true_eq] at hok
     omega
    simp [b_site_Read_1, h2, h5, h45, h46, h47, hr, e1, e2, htw, hg, hlt, hrd, b1, b3, hzc, hz2, hz3, hz4, hz5]
    exact hno _ s.cells hX.symm (by simp [h2]) (by simp)
theorem ssplit_eq (t : List UInt8) (hl : t.length ≤ 1000000) (H : Heap) : eval tbl noExt n_strings_Split [.str t, .str [32]] H = some (.sl 1 ((splitOn 32 t).map tx), H) := by
 rw [eval_X rfl (show noExt n_strings_Split = some xSplit from rfl)]
 simp only [xSplit]
 rw [if_pos (by omega)]
theorem Read_eq (t : List UInt8) (hl : t.length ≤ 4000) (H : Heap) : eval tbl noExt n_site_Read [.str t] H = some (.tup [.agg (readSi t).1.cells, .bool (readSi t).2], H) := by
 have hs := fun K => ssplit_eq t (by omega) K
 have hlen := spl_len (c := 32) t
 have hne := spl_ne 32 t
 have hw := fun K => words_eq K
 have e9 : siteWords.length = 9 := rfl
 obtain ⟨L, hL⟩ : ∃ L, L = splitOn 32 t := ⟨_, rfl⟩
 have hR : readSi t = if L.length < 3 ∨ 10 < L.length then (zeroSi, false) else afterNums (readNums (startSi (kindTo ((L[0]?).getD []) 9) ((L.length : Int) - 2)) 0 (L.drop 1)) := by rw [hL]; rfl
 rw [← hL] at hs hlen hne
 rw [hR]
 have e1 : IntKind.i64.wrap ((L.length : Int) - 2) = (L.length : Int) - 2 := by rw [w64] <;> omega
 have hzc := zero_cells_eq
 have hz2 : zeroSi.cells.length = 11 := rfl
 have hz3 : setMany zeroSi.cells 0 zeroSi.cells = zeroSi.cells := rfl
 have hz4 : ∀ n, V.underAll n zeroSi.cells = true := fun _ => rfl
 have hz5 : zeroSi.cells.all V.one = true := rfl
 have hz6 : zeroSi.cells.map V.strip = zeroSi.cells := rfl
 have hz7 : zeroSi.cells.take 11 = zeroSi.cells := rfl
 obtain ⟨s1, hs1⟩ : ∃ s1 : Si, s1 = startSi 0 ((L.length : Int) - 2) := ⟨_, rfl⟩
 have ok1 : s1.ok := by rw [hs1]; rfl
 have hd : zeroSi.cells.set 10 (V.int .i64 ((L.length : Int) - 2)) = s1.cells := by rw [hs1]; rfl
 have hd1 : s1.cells.length = 11 := Si.len ok1
 have hd2 : ∀ n, V.underAll n s1.cells = true := fun n => Si.under n
 have hd3 : s1.cells.all V.one = true := Si.one
 have hd4 : setMany zeroSi.cells 0 s1.cells = s1.cells := setMany_self _ _ (by rw [hd1]; rfl)
 have hd5 : ∀ h : 10 < s1.cells.length, s1.cells[10] = iv ((L.length : Int) - 2) := fun h => by
  have := Si.c10 ok1
  rw [List.getElem?_eq_getElem h] at this
  rw [Option.some.inj this, hs1]; rfl
 rw [eval_M rfl rfl t_site_Read rfl]
 by_cases c1 : L.length < 3 ∨ 10 < L.length
 ·rw [if_pos c1]
  by_cases c2 : L.length < 3
  ·have c2' : (L.length : Int) - 2 < 1 := by omega
   simp [c_site_Read, hs, e1, c2', hzc, hz2, hz3, hz4, hz5, hz6, hz7, hd, hd1, hd2, hd3, hd4, hd5]
  ·have c2' : ¬ (L.length : Int) - 2 < 1 := by omega
   have c3' : 8 < (L.length : Int) - 2 := by omega
   simp [c_site_Read, hs, e1, c2', c3', hzc, hz2, hz3, hz4, hz5, hz6, hz7, hd, hd1, hd2, hd3, hd4, hd5]
 ·rw [if_neg c1]
  have c2' : ¬ (L.length : Int) - 2 < 1 := by omega
  have c3' : ¬ 8 < (L.length : Int) - 2 := by omega
  obtain ⟨w0, hw0⟩ : ∃ w, L[0]? = some w := by
   cases L with
   | nil => exact absurd rfl hne
   | cons a b => exact ⟨a, rfl⟩
  rw [hw0, Option.getD_some]
  have hc1 : s1.cells = ({ s1 with kind := kindTo w0 0 } : Si).cells := by rw [hs1]; rfl
  have hk1 : startSi (kindTo w0 9) ((L.length : Int) - 2) = { s1 with kind := kindTo w0 9 } := by rw [hs1]; rfl
  rw [hk1]
  obtain ⟨X, hX⟩ : ∃ X, X = readNums { s1 with kind := kindTo w0 9 } 0 (L.drop 1) := ⟨_, rfl⟩
  rw [← hX]
  obtain ⟨Rv, hRv⟩ : ∃ Rv, Rv = afterNums X := ⟨_, rfl⟩
  rw [← hRv]
  simp [c_site_Read, hs, e1, c2', c3', hzc, hz2, hz3, hz4, hz5, hz6, hz7, hd, hd1, hd2, hd3, hd4, hd5, hw, e9]
  rw [hc1]
  have hcut : (List.map tx L).drop 1 = (L.drop 1).map tx := by rw [List.map_drop]
  have hdl : (L.drop 1).length = L.length - 1 := by simp
  rw [show ∀ x, H ++ [some zeroSi.cells, x] = (H ++ [some zeroSi.cells]) ++ x :: [] from fun x => by simp]
  refine rkind_loop (H.length + 1) (H ++ [some zeroSi.cells]) [] (by simp) L w0 hw0 (.ptr H.length 0) _ (fun r => r = some (V.tup [.agg Rv.1.cells, .bool Rv.2], H)) _ s1 ok1 ?_ 9 0 _ (by omega) ?_ ?_ ?_ ?_ ?_ ?_
  ·intro φ' q2 q4 q5
   have hone : (1 : Int) ≤ L.length := by omega
   have hnn : L.length ≠ 0 := by omega
   simp [r_site_Read_1, q2, q4, q5, hone]
   refine rnums_loop H (L.drop 1) (by omega) (fun r => r = some (V.tup [.agg Rv.1.cells, .bool Rv.2], H)) _ X ?_ ?_ (L.length - 1) 0 _ _ (by omega) ok1 (by rw [List.drop_zero, ← hX]) ?_ ?_ ?_ ?_ ?_
   ·intro φ' s' hs' ok' p2 p5
    have hN := fun K => Name_eq s' ok' K
    have hst := Si.strip (s := s')
    have htk := Si.take ok'
    have hun := fun n => Si.under (s := s') n
    have hlen' := Si.len ok'
    have hone' := Si.one (s := s')
    have hsm' : setMany zeroSi.cells 0 s'.cells = s'.cells := setMany_self _ _ (by rw [hlen']; rfl)
    cases hnm : s'.name.2 with
    | true =>
     have hv : Rv = (s', true) := by rw [hRv, hs']; simp only [afterNums, if_pos hnm]
     rw [hv]
     simp [r_site_Read_0, p2, p5, hN, hst, htk, hun, hlen', hone', hsm', hnm, hz2]
    | false =>
     have hv : Rv = (zeroSi, false) := by rw [hRv, hs']; simp [afterNums, hnm]
     rw [hv]
     simp [r_site_Read_0, p2, p5, hN, hst, htk, hun, hlen', hnm, hzc, hz2, hz3, hz4, hz5, hz6, hz7]
   ·intro φ' s' hx p2 p3
    have hv : Rv = (zeroSi, false) := by rw [hRv, hx]; rfl
    rw [hv]
    simp [p2, p3, hz2, hz6, hz7, hz4]
   ·simp [q2]
   ·simp [q5]
   ·simp [List.take_of_length_le]
   ·simp
   ·simp
  all_goals simp
set_option maxHeartbeats 2000000
theorem e18 {e : Int} (h0 : 0 ≤ e) (h1 : e < 18) : e = 0 ∨ e = 1 ∨ e = 2 ∨ e = 3 ∨ e = 4 ∨ e = 5 ∨ e = 6 ∨ e = 7 ∨ e = 8 ∨ e = 9 ∨ e = 10 ∨ e = 11 ∨ e = 12 ∨ e = 13 ∨ e = 14 ∨ e = 15 ∨ e = 16 ∨ e = 17 := by omega
def errCells : List V := [.str [111, 107], .str [97, 114, 103], .str [102, 117, 108, 108], .str [105, 111], .str [110, 111, 110, 101], .str [116, 104, 101, 114, 101], .str [107, 105, 110, 100], .str [98, 117, 115, 121], .str [102, 111, 114, 109], .str [110, 97, 109, 101], .str [102, 117, 101, 108], .str [116, 121, 112, 101], .str [115, 121, 110, 116, 97, 120], .str [98, 111, 117, 110, 100], .str [108, 105, 109, 105, 116], .str [102, 97, 105, 108], .str [], .str []]
theorem pick_eq (e : Int) : eval tbl noExt n_trace_pick [.agg errCells, iv e] [] = some (.str (errW e), []) := by
 by_cases h0 : e < 0
 ·have hw : errW e = [63] := if_neg (by omega)
  rw [eval_M rfl rfl t_trace_pick rfl]
  simp [c_trace_pick, errCells, h0, hw]
 ·by_cases h1 : 18 ≤ e
  ·have hw : errW e = [63] := if_neg (by omega)
   rw [eval_M rfl rfl t_trace_pick rfl]
   simp [c_trace_pick, errCells, h0, h1, hw]
  ·rcases e18 (by omega : 0 ≤ e) (by omega) with rfl | rfl | rfl | rfl | rfl | rfl | rfl | rfl | rfl | rfl | rfl | rfl | rfl | rfl | rfl | rfl | rfl | rfl <;> exact (eval_iff _ _ _ _ _ _).2 ⟨20, by kernel_rfl⟩
theorem Err_eq (e : Int) (H : Heap) : eval tbl noExt n_trace_Err [iv e] H = some (.str (errW e), H) := by
 have hp := pick_eq e
 rw [eval_M rfl rfl t_trace_Err rfl]
 simp only [errCells] at hp
 simp [c_trace_Err, hp]
theorem head_eq (s : Int) (H : Heap) : eval tbl noExt n_cell_head [iv s] H = some (.str (if s = 1 then killedW else if s = 2 then incW else survW), H) := by
 rw [eval_M rfl rfl t_cell_head rfl]
 by_cases h1 : s = 1
 ·simp [c_cell_head, h1, killedW]
 ·by_cases h2 : s = 2
  ·simp [c_cell_head, h1, h2, incW]
  ·simp [c_cell_head, h1, h2, survW]
theorem rjoin_eq (l : List (List UInt8)) (hl : l.length ≤ 20) (hw : ∀ w ∈ l, w.length ≤ 2000) (H : Heap) : eval tbl noExt n_strings_Join [.sl 1 (l.map tx), .str [32]] H = some (.str (Go.Lib.join l [32]), H) := by
 have h := jn_len [32] 2000 l hw
 rw [eval_X rfl (show noExt n_strings_Join = some xJoin from rfl)]
 simp only [xJoin, textsOf_map]
 have : (Go.Lib.join l [32]).length ≤ 2001 * 20 := Nat.le_trans h (Nat.mul_le_mul_left _ hl)
 rw [if_pos (by omega)]
theorem Show_eq (c : Ce) (hk : 0 ≤ c.kept) (H : Heap) : eval tbl noExt n_cell_Show [.agg c.cells] H = some (.tup [.str c.show.1, .bool c.show.2], H) := by
 have hR := CRight_eq c []
 have hcell : c.cells = [iv c.says, iv c.point, uv c.kept, iv c.verdict, iv c.err, iv c.limit] := rfl
 rw [eval_M rfl rfl t_cell_Show rfl]
 cases hr : c.right with
 | false =>
  have hs : c.show = ([], false) := by unfold Ce.show; rw [if_neg (by rw [hr]; simp)]
  rw [hr] at hR
  simp only [hcell] at hR ⊢
  simp [c_cell_Show, hR, hs]
 | true =>
  have hs : c.show = (c.line, true) := by unfold Ce.show; rw [if_pos hr]
  rw [hr] at hR
  have hh := head_eq c.says []
  have he1 := Err_eq c.err []
  have he2 := Err_eq c.limit []
  have j1 := rjoin_eq [killedW, text c.point, text c.kept, c.word] (by simp) (fun w hw => by
   have t1 := text_length c.point
   have t2 := text_length c.kept
   have t3 := errW_len c.err
   have t4 : c.word.length ≤ 10 := by
    unfold Ce.word
    split
    ·exact t3
    ·decide
   simp only [List.mem_cons, List.not_mem_nil, or_false] at hw
   rcases hw with rfl | rfl | rfl | rfl
   ·decide
   ·omega
   ·omega
   ·omega) []
  have j2 := rjoin_eq [incW, errW c.limit] (by simp) (fun w hw => by
   have t3 := errW_len c.limit
   simp only [List.mem_cons, List.not_mem_nil, or_false] at hw
   rcases hw with rfl | rfl
   ·decide
   ·omega) []
  have j3 := rjoin_eq [survW] (by simp) (fun w hw => by
   simp only [List.mem_cons, List.not_mem_nil, or_false] at hw
   subst hw; decide) []
  rw [spl_jn2, spl_jn2, spl_jn2, Go.Lib.join_one] at j1
  rw [spl_jn2, Go.Lib.join_one] at j2
  rw [Go.Lib.join_one] at j3
  simp only [List.map_cons, List.map_nil, tx] at j1 j2 j3
  rw [hs]
  unfold Ce.line
  rcases Ce.right_cases hr with ⟨h1, _, h3, h4, h5, h6⟩ | ⟨h1, _, _, _, _, h3, h4⟩ | rfl
  ·rw [if_pos h1] at hh
   rw [if_pos h1]
   have d1 := digits_eq (H := []) c.point (by omega) (by omega)
   have d2 := digits_eq (H := []) c.kept (by omega) (by omega)
   have hw : IntKind.i64.wrap c.kept = c.kept := w64 (by omega) (by omega)
   clear hs hr h6 j2 j3 he2 hcell
   unfold Ce.word at j1 ⊢
   obtain ⟨says, point, kept, verdict, err, limit⟩ := c
   dsimp only [Ce.cells] at *
   subst h1
   generalize text point = a at *
   generalize text kept = b at *
   by_cases hv : verdict = 2
   ·rw [if_pos hv] at j1 ⊢
    subst hv
    generalize errW err = g at *
    simp [c_cell_Show, hR, hh, he1, d1, d2, hw, j1]
   ·rw [if_neg hv] at j1 ⊢
    unfold failedW at j1 ⊢
    simp [c_cell_Show, hR, hh, hv, d1, d2, hw, j1]
  ·rw [if_neg (by omega), if_pos h1] at hh
   rw [if_neg (by omega), if_pos h1]
   clear hs hr j1 j3 he1 hcell
   obtain ⟨says, point, kept, verdict, err, limit⟩ := c
   dsimp only [Ce.cells] at *
   subst h1
   generalize errW limit = g at *
   simp [c_cell_Show, hR, hh, he2, j2]
  ·rw [if_neg (by decide), if_neg (by decide)] at hh
   rw [if_neg (by decide), if_neg (by decide)]
   clear hs hr j1 j2 he1 he2 hcell
   dsimp only [zeroCe, Ce.cells] at hR hh ⊢
   simp [c_cell_Show, hR, hh, j3]
theorem errno_loop (w : List UInt8) (H : Heap) (k : List Item) (X : Option (V × Heap)) (E : Option Nat) (hret : ∀ φ' (j : Nat), E = some j → Fr.get φ' 2 = iv j → Fr.get φ' 3 = .bool true → retK k φ' H = X) (hexit : ∀ φ', E = none → M (eval tbl noExt) k φ' H = X) :
  ∀ (n j : Nat) (φ : Fr), j + n = 16 → E = errTo w n j → Fr.get φ 0 = .str w → Fr.get φ 4 = iv j → M (eval tbl noExt) (.code l_cell_errno_0 :: .blk 0 :: k) φ H = X := by
 intro n
 induction n with
 | zero =>
  intro j φ hj e1 h0 h4
  have hlt : ¬ (j : Int) ≤ 15 := by omega
  rw [l_cell_errno_0, M_loop, ← l_cell_errno_0]
  simp [b_cell_errno_0, h0, h4, hlt]
  exact hexit _ (by rw [e1]; rfl)
 | succ n ih =>
  intro j φ hj e1 h0 h4
  have hlt : (j : Int) ≤ 15 := by omega
  have hE := Err_eq j []
  have hw : IntKind.i64.wrap ((j : Int) + 1) = ((j + 1 : Nat) : Int) := by rw [w64 (by omega) (by omega)]; rfl
  rw [errTo] at e1
  rw [l_cell_errno_0, M_loop, ← l_cell_errno_0]
  by_cases hs : errW j = w
  ·rw [if_pos hs] at e1
   simp [b_cell_errno_0, h0, h4, hlt, hE, hs]
   exact hret _ j e1 (by simp) (by simp)
  ·rw [if_neg hs] at e1
   simp [b_cell_errno_0, h0, h4, hlt, hE, hs, hw]
   refine ih (j + 1) _ (by omega) e1 ?_ ?_
   all_goals simp [h0]
theorem errno_eq (w : List UInt8) (H : Heap) : eval tbl noExt n_cell_errno [.str w] H = some (.tup [iv (errnoR w).1, .bool (errnoR w).2], H) := by
 rw [eval_M rfl rfl t_cell_errno rfl]
 simp [c_cell_errno]
 unfold errnoR
 refine errno_loop w H _ _ (errTo w 16 0) ?_ ?_ 16 0 _ rfl rfl ?_ ?_
 ·intro φ' j h h2 h3
  rw [h]
  simp [h2, h3]
 ·intro φ' h
  rw [h]
  simp [r_cell_errno_0]
 all_goals simp
theorem killed_eq (l : List (List UInt8)) (H : Heap) : eval tbl noExt n_cell_killed [.sl 1 (l.map tx)] H = some (.tup [.agg (killedR l).1.cells, .bool (killedR l).2], H) := by
 unfold killedR
 rw [eval_M rfl rfl t_cell_killed rfl]
 by_cases hl : l.length = 3
 ·match l, hl with
  | [a, b, w], _ =>
   have h1 : eval tbl noExt n_num_Read [.str a] [] = _ := read_eq [] a
   have h2 : eval tbl noExt n_num_Read [.str b] [] = _ := read_eq [] b
   have h3 := errno_eq w []
   have s1 := read_small a
   have s2 := read_small b
   have hu : IntKind.u64.wrap (readR b).1 = (readR b).1 := by rw [IntKind.wrap_u64]; omega
   simp only [List.length_cons, List.length_nil, List.getD_cons_zero, List.getD_cons_succ, if_true, Nat.zero_add, Nat.reduceAdd, List.map_cons, List.map_nil, tx]
   generalize readR a = x at *
   generalize readR b = y at *
   generalize errnoR w = z at *
   obtain ⟨x1, x2⟩ := x
   obtain ⟨y1, y2⟩ := y
   obtain ⟨z1, z2⟩ := z
   simp only at hu
   by_cases hf : w = failedW
   ·subst hf
    unfold failedW at h3 ⊢
    cases x2 <;> cases y2 <;> simp [c_cell_killed, h1, h2, hu, Ce.cells]
   ·have hf' : ¬ w = [102, 97, 105, 108, 101, 100] := hf
    cases x2 <;> cases y2 <;> simp [c_cell_killed, h1, h2, hu, Ce.cells, hf', hf, h3]
 ·have hl' : ¬ (l.length : Int) = 3 := by omega
  rw [if_neg hl]
  simp [c_cell_killed, hl', Ce.cells, zeroCe]
theorem Ce.eta (c : Ce) : c.cells = [iv c.says, iv c.point, uv c.kept, iv c.verdict, iv c.err, iv c.limit] := rfl
theorem cRead_eq (t : List UInt8) (hl : t.length ≤ 100000) (H : Heap) : eval tbl noExt n_cell_Read [.str t] H = some (.tup [.agg (readCe t).1.cells, .bool (readCe t).2], H) := by
 have hs := ssplit_eq t (by omega) []
 have h0 := head_eq 0 []
 have h1 := head_eq 1 []
 have h2 := head_eq 2 []
 have hR := CRight_eq (ceOf t).1 []
 have hne := spl_ne 32 t
 simp only [if_neg (by decide : ¬ (0 : Int) = 1), if_neg (by decide : ¬ (0 : Int) = 2)] at h0
 simp only [if_true] at h1
 simp only [if_neg (by decide : ¬ (2 : Int) = 1), if_true] at h2
 unfold readCe
 have hc : ceOf t = if (splitOn 32 t).getD 0 [] = killedW then killedR ((splitOn 32 t).drop 1)
   else if (splitOn 32 t).getD 0 [] = incW ∧ (splitOn 32 t).length = 2 then ({ zeroCe with says := 2, limit := (errnoR ((splitOn 32 t).getD 1 [])).1 }, (errnoR ((splitOn 32 t).getD 1 [])).2)
   else (zeroCe, decide ((splitOn 32 t).length = 1) && decide (t = survW)) := rfl
 generalize splitOn 32 t = L at *
 cases L with
 | nil => exact absurd rfl hne
 | cons x L =>
  simp only [List.getD_cons_zero, List.getD_cons_succ, List.length_cons, List.drop_succ_cons, List.drop_zero] at hc
  have hkl := killed_eq L []
  have hsu : (decide (((L.map tx).length + 1 : Nat) = 1) : Bool) = decide (L.length + 1 = 1) := by simp
  rw [eval_M rfl rfl t_cell_Read rfl]
  by_cases hk : x = killedW
  ·rw [if_pos hk] at hc
   rw [hc] at hR ⊢
   subst hk
   generalize killedR L = r at *
   obtain ⟨⟨a1, a2, a3, a4, a5, a6⟩, ok⟩ := r
   simp only [Ce.eta, List.map_cons, tx] at hR hkl hs ⊢
   generalize Ce.right ⟨a1, a2, a3, a4, a5, a6⟩ = R at *
   clear hc hsu
   cases L with
   | nil => cases ok <;> cases R <;> simp at hkl hs <;> simp [c_cell_Read, hs, h0, h1, h2, hkl, hR, zeroCe]
   | cons y ys =>
    have hn : ¬ ((ys.length : Int) + 1 + 1 = 1) := by omega
    have hp1 : (0 : Int) < (ys.length : Int) + 1 + 1 := by omega
    have htk : List.take ys.length (List.map tx ys) = List.map tx ys := List.take_of_length_le (by simp)
    have hp2 : (1 : Int) ≤ (ys.length : Int) + 1 + 1 := by omega
    cases ok <;> cases R <;> simp at hkl hs <;> simp [c_cell_Read, hs, h0, h1, h2, hn, hp1, hp2, htk, hkl, hR, zeroCe]
  ·rw [if_neg hk] at hc
   by_cases hi : x = incW ∧ L.length + 1 = 2
   ·rw [if_pos hi] at hc
    obtain ⟨hi, hl2⟩ := hi
    match L, hl2 with
    | [y], _ =>
     have hE := errno_eq y []
     simp only [List.getD_cons_zero] at hc
     rw [hc] at hR ⊢
     subst hi
     generalize errnoR y = z at *
     obtain ⟨z1, z2⟩ := z
     simp only [Ce.eta, List.map_cons, List.map_nil, tx, zeroCe] at hR hs ⊢
     rcases Bool.eq_false_or_eq_true (Ce.right ⟨2, 0, 0, 0, 0, z1⟩) with hRR | hRR <;> rw [hRR] at hR <;> cases z2 <;> simp [hRR, c_cell_Read, hs, h0, h1, h2, hk, hE, hR]
   ·rw [if_neg hi] at hc
    rw [hc] at hR ⊢
    have hz : zeroCe.right = true := by decide
    rw [hz] at hR ⊢
    dsimp only [Ce.cells, zeroCe] at hR
    simp only [Bool.and_true]
    simp only [List.map_cons, tx] at hs
    by_cases hL : L = []
    ·subst hL
     simp only [List.map_nil] at hs
     by_cases hx : x = incW
     ·subst hx
      by_cases ht : t = survW
      ·subst ht
       simp [c_cell_Read, hs, h0, h1, h2, hk, hR, Ce.eta, zeroCe]
      ·simp [c_cell_Read, hs, h0, h1, h2, hk, ht, hR, Ce.eta, zeroCe]
     ·by_cases ht : t = survW
      ·subst ht
       simp [c_cell_Read, hs, h0, h1, h2, hk, hx, hR, Ce.eta, zeroCe]
      ·simp [c_cell_Read, hs, h0, h1, h2, hk, hx, ht, hR, Ce.eta, zeroCe]
    ·have hL1 : ¬ L.length + 1 = 1 := fun h => hL (List.eq_nil_of_length_eq_zero (by omega))
     have hL2 : ¬ ((L.length : Int) + 1 = 1) := by omega
     by_cases hx : x = incW
     ·subst hx
      have hn2 : ¬ L.length + 1 = 2 := fun h => hi ⟨rfl, h⟩
      have hn2' : ¬ ((L.length : Int) + 1 = 2) := by omega
      simp [c_cell_Read, hs, h0, h1, h2, hk, hL, hL1, hL2, hn2, hn2', hR, Ce.eta, zeroCe]
     ·simp [c_cell_Read, hs, h0, h1, h2, hk, hx, hL, hL1, hL2, hR, Ce.eta, zeroCe]
theorem HasPrefix_eq (t : List UInt8) (H : Heap) : eval tbl noExt n_isl_HasPrefix [.str t, .str [9]] H = some (.bool (decide (t.head? = some 9)), H) := by
 rw [eval_M rfl rfl t_isl_HasPrefix rfl]
 cases t with
 | nil => simp [c_isl_HasPrefix]
 | cons c t =>
  have h1 : (1 : Int) ≤ (t.length : Int) + 1 := by omega
  by_cases hc : c = 9
  ·simp [c_isl_HasPrefix, hc, h1]
  ·simp [c_isl_HasPrefix, hc, h1]
theorem CutPrefix_eq (t : List UInt8) (H : Heap) : eval tbl noExt n_strings_CutPrefix [.str t, .str [9]] H = some (if t.head? = some 9 then .tup [.str t.tail, .bool true] else .tup [.str t, .bool false], H) := by
 have h1 : eval tbl noExt n_isl_CutPrefix [.str t, .str [9]] [] = some (if t.head? = some 9 then .tup [.str t.tail, .bool true] else .tup [.str t, .bool false], []) := by
  have h := HasPrefix_eq t []
  rw [eval_M rfl rfl t_isl_CutPrefix rfl]
  cases t with
  | nil => simp [c_isl_CutPrefix, h] at h ⊢
  | cons c t =>
   have h1 : (1 : Int) ≤ (t.length : Int) + 1 := by omega
   by_cases hc : c = 9
   ·simp [hc] at h
    simp [c_isl_CutPrefix, h, hc, h1]
   ·simp [hc] at h
    simp [c_isl_CutPrefix, h, hc, h1]
 rw [eval_M rfl rfl t_strings_CutPrefix rfl]
 by_cases hc : t.head? = some 9
 ·rw [if_pos hc] at h1 ⊢
  simp [c_strings_CutPrefix, h1]
 ·rw [if_neg hc] at h1 ⊢
  simp [c_strings_CutPrefix, h1]
theorem right_loop (n : Nat) (H : Heap) (q : Nat) (m : Mx) (hs : m.sites.length ≤ 512) (hok : ∀ s ∈ m.sites, s.ok) (hq : H[q]? = some (some m.cells)) (Q : Option (V × Heap) → Prop) (k : List Item) (X : Bool)
  (hyes : ∀ φ' K', K'.take n = H → n ≤ K'.length → X = true → Q (M (eval tbl noExt) k φ' K')) (hno : ∀ φ' K', K'.take n = H → n ≤ K'.length → X = false → Fr.get φ' 2 = .bool false → Q (retK k φ' K')) :
  ∀ (j i : Nat) (φ : Fr) (K : Heap), i + j = m.sites.length → sitesOK (m.sites.take i) (m.sites.drop i) = X → K.take n = H → n ≤ K.length → Fr.get φ 1 = .ptr q 0 → Fr.get φ 65 = .sl 11 (m.sites.map Si.cells) → Fr.get φ 66 = iv m.sites.length → Fr.get φ 67 = iv i →
   Q (M (eval tbl noExt) (.code l_score_Right_0 :: .blk 1 :: k) φ K) := by
 have hcell : m.cells = [.bool m.bad, .sl 6 (m.base.map Ce.cells), .sl 11 (m.sites.map Si.cells), .sl 1 (m.rows.map rowV)] := rfl
 intro j
 induction j with
 | zero =>
  intro i φ K hi hX hK hn h1 h65 h66 h67
  have hlt : ¬ (i : Int) < m.sites.length := by omega
  rw [List.drop_eq_nil_of_le (by omega)] at hX
  rw [l_score_Right_0, M_loop]
  simp [b_score_Right_0, h1, h65, h66, h67, hlt]
  exact hyes _ _ hK hn (by rw [← hX]; rfl)
 | succ j ih =>
  intro i φ K hi hX hK hn h1 h65 h66 h67
  have hlt : i < m.sites.length := by omega
  obtain ⟨t, ht⟩ : ∃ t, t = m.sites[i] := ⟨_, rfl⟩
  have hmem : t ∈ m.sites := by rw [ht]; exact List.getElem_mem _
  have okt := hok t hmem
  have hg : ∀ h : i < m.sites.length, m.sites[i] = t := fun h => ht.symm
  have hnext : m.sites.take i ++ [t] = m.sites.take (i + 1) := by rw [List.take_add_one, List.getElem?_eq_getElem hlt, ← ht]; rfl
  rw [List.drop_eq_getElem_cons hlt, ← ht, sitesOK, hnext] at hX
  have e1 : (i : Int) < m.sites.length := by omega
  have e1' : (i : Int) ≤ m.sites.length := by omega
  have e2 : IntKind.i64.wrap ((i : Int) + 1) = ((i + 1 : Nat) : Int) := by rw [w64] <;> omega
  have hKq : ∀ r : Heap, (K ++ r)[q]? = some (some m.cells) := fun r => get_take (take_more hK hn r) hq
  rw [hcell] at hKq
  have hK2 : ∀ r, (K ++ r).take n = H := fun r => take_more hK hn r
  have hn2 : ∀ r : Heap, n ≤ (K ++ r).length := fun r => by simp; omega
  have hN := Name_eq t okt []
  have hC := siteContains_eq t okt (m.sites.take i) (by simp; omega) (fun s hs => hok s (List.mem_of_mem_take hs)) []
  rw [List.map_take] at hC
  have q1 := Si.len okt
  have q3 := Si.strip (s := t)
  have q5 := Si.take okt
  have qu := fun n => Si.under (s := t) n
  have qo := Si.one (s := t)
  have qs := h11 t okt
  rw [l_score_Right_0, M_loop, ← l_score_Right_0]
  cases hnm : t.name.2 with
  | false =>
   rw [hnm, Bool.false_and] at hX
   rw [hnm] at hN
   simp [b_score_Right_0, h1, h65, h66, h67, hlt, hg, e1, e2, hN, q1, q3, q5, qu, qo, qs]
   exact hno _ _ (hK2 _) (hn2 _) hX.symm (by simp)
  | true =>
   rw [hnm, Bool.true_and] at hX
   rw [hnm] at hN
   by_cases hd : t ∈ m.sites.take i
   ·have hd' : decide (t ∈ m.sites.take i) = true := by simp [hd]
    rw [hd'] at hC hX
    simp [b_score_Right_0, h1, h65, h66, h67, hlt, hg, e1, e1', e2, hN, q1, q3, q5, qu, qo, qs, hKq, hC]
    exact hno _ _ (hK2 _) (hn2 _) (by rw [← hX]; simp) (by simp)
   ·have hd' : decide (t ∈ m.sites.take i) = false := by simp [hd]
    rw [hd'] at hC hX
    simp [b_score_Right_0, h1, h65, h66, h67, hlt, hg, e1, e1', e2, hN, q1, q3, q5, qu, qo, qs, hKq, hC]
    refine ih (i + 1) _ _ (by omega) (by rw [← hX]; simp) (hK2 _) (hn2 _) ?_ ?_ ?_ ?_ <;> simp [h1, h65, h66]
theorem get2 (l : Heap) (a b x : Option (List V)) (r : Heap) : (l ++ a :: b :: x :: r)[l.length + 1 + 1]? = some x := by
 rw [List.getElem?_append_right (by omega), show l.length + 1 + 1 - l.length = 2 by omega]; rfl
theorem any_notOK (n : Nat) (rows : List (List Ce)) : (rows.any fun l => !rowOK n l) = !(rows.all (rowOK n)) := by
 induction rows with
 | nil => rfl
 | cons a l ih => simp only [List.any_cons, List.all_cons, ih, Bool.not_and]
theorem take_one (H : Heap) (x : Option (List V)) (r : Heap) : (H ++ x :: r).take (H.length + 1) = H ++ [x] := by
 rw [show H ++ x :: r = (H ++ [x]) ++ r by simp, List.take_left' (by simp)]
theorem SRight_eq (m : Mx) (hm : m.few) (hok : ∀ s ∈ m.sites, s.ok) (H : Heap) : eval tbl noExt n_score_Right [.agg m.cells] H = some (.bool m.right, H) := by
 have hcell : m.cells = [.bool m.bad, .sl 6 (m.base.map Ce.cells), .sl 11 (m.sites.map Si.cells), .sl 1 (m.rows.map rowV)] := rfl
 have hbl := hm.base
 have hsl := hm.sites
 have hrl := hm.rows
 obtain ⟨R, hR⟩ : ∃ R, R = m.right := ⟨_, rfl⟩
 rw [← hR]
 unfold Mx.right at hR
 rw [eval_M rfl rfl t_score_Right rfl]
 by_cases a1 : 16 < m.base.length
 ·have a1' : (16 : Int) < m.base.length := by omega
  have a1'' : ¬ m.base.length ≤ 16 := by omega
  simp only [a1'', decide_false, Bool.false_and] at hR
  simp [c_score_Right, hcell, a1', hR]
 ·have a1' : ¬ (16 : Int) < m.base.length := by omega
  have a1'' : m.base.length ≤ 16 := by omega
  simp only [a1'', decide_true, Bool.true_and] at hR
  have hx := odd_own m.base.length (H.length + 1)
  have ho := odd1_eq m.base.length m.base (by omega) (H.length + 1) (H ++ [some m.cells, some [iv m.base.length]]) (by simp)
  have hp := lt_score_odd_1
  have hrow : rowOK m.base.length m.base = m.base.all Ce.right := by unfold rowOK; simp
  rw [hrow] at ho
  have hS := Sum_eq m.base (by omega) []
  rw [hcell] at ho
  cases hA : m.base.all Ce.right with
  | false =>
   rw [hA] at ho
   simp only [hA, Bool.false_and] at hR
   simp [c_score_Right, hcell, a1', hx, ho, hp, hR]
  | true =>
   rw [hA] at ho
   simp only [hA, Bool.true_and] at hR
   by_cases a2 : m.bad = decide (sumC m.base = 1)
   ·have a2' : decide (m.bad = decide (sumC m.base = 1)) = true := by simp [← a2]
    rw [a2', Bool.true_and] at hR
    cases hB : m.bad with
    | true =>
     rw [hB] at a2
     have a3 : sumC m.base = 1 := by simpa using a2.symm
     rw [hB, if_pos rfl] at hR
     rw [hB] at ho
     by_cases b1 : m.sites.length = 0
     ·have b1' : ((m.sites.length : Nat) : Int) = 0 := by omega
      simp [c_score_Right, hcell, hB, a1', hx, ho, hp, hS, a3, b1', b1, hR]
     ·have b1' : ¬ ((m.sites.length : Nat) : Int) = 0 := by omega
      simp [c_score_Right, hcell, hB, a1', hx, ho, hp, hS, a3, b1', b1, hR]
    | false =>
     rw [hB] at a2
     have a3 : ¬ sumC m.base = 1 := by simpa using a2.symm
     rw [hB, if_neg (by simp)] at hR
     rw [hB] at ho
     have b2 : ¬ (512 : Int) < m.sites.length := by omega
     have b2r : ¬ (512 : Int) < m.rows.length := by omega
     by_cases b1 : m.sites.length = m.rows.length
     ·have b1' : ((m.sites.length : Nat) : Int) = m.rows.length := by omega
      rw [decide_eq_true b1, Bool.true_and] at hR
      have hx2 := odd_own m.base.length (H.length + 1 + 1)
      have hC := ContainsFunc_api_Cell_api_Cell (f := n_score_odd_1) (first := []) (cap := [.ptr (H.length + 1 + 1) 0]) lt_score_odd_1 (fun c : List Ce => c.map Ce.cells) m.rows (by omega) (fun l => !rowOK m.base.length l) (H ++ [some m.cells, some [iv m.base.length], some [iv m.base.length]]) (fun c hc => odd1_eq m.base.length c (hm.row c hc) (H.length + 1 + 1) _ (get2 ..))
      have hrv : (m.rows.map fun a => [V.sl 6 (a.map Ce.cells)]) = m.rows.map rowV := rfl
      rw [hrv, any_notOK, hcell, hB] at hC
      cases hall : m.rows.all (rowOK m.base.length) with
      | false =>
       rw [hall] at hC
       rw [hall, Bool.false_and] at hR
       simp [c_score_Right, hcell, hB, a1', hx, ho, hp, hS, a3, b1', b2, b2r, hR, hx2, hC]
      | true =>
       rw [hall] at hC
       rw [hall, Bool.true_and] at hR
       simp [c_score_Right, hcell, hB, a1', hx, ho, hp, hS, a3, b1', b2, b2r, hx2, hC]
       rw [← b1']
       refine right_loop (H.length + 1) (H ++ [some m.cells]) H.length m hsl hok (by simp) (fun r => r = some (.bool R, H)) _ R ?_ ?_ m.sites.length 0 _ _ (by omega) (by rw [hR]; rfl) ?_ ?_ ?_ ?_ ?_ ?_
       ·intro φ' K' hK hn hX
        have hK1 : K'.take H.length = H := by
         have : (K'.take (H.length + 1)).take H.length = H := by rw [hK]; simp
         rwa [List.take_take, show min H.length (H.length + 1) = H.length by omega] at this
        simp [r_score_Right_0, hK1, hX]
       ·intro φ' K' hK hn hX h2
        have hK1 : K'.take H.length = H := by
         have : (K'.take (H.length + 1)).take H.length = H := by rw [hK]; simp
         rwa [List.take_take, show min H.length (H.length + 1) = H.length by omega] at this
        simp [h2, hK1, hX]
       ·rw [hcell, hB]; exact take_one H _ _
       all_goals simp
     ·have b1' : ¬ ((m.sites.length : Nat) : Int) = m.rows.length := by omega
      rw [decide_eq_false b1, Bool.false_and] at hR
      simp [c_score_Right, hcell, hB, a1', hx, ho, hp, hS, a3, b1', b2, b2r, hR]
   ·have a2' : decide (m.bad = decide (sumC m.base = 1)) = false := by simp [a2]
    rw [a2', Bool.false_and] at hR
    have a4 : (if m.bad = decide (sumC m.base = 1) then false else true) = true := by simp [a2]
    simp [c_score_Right, hcell, a1', hx, ho, hp, hS, a2, hR]
theorem rdigits_eq (n : Int) (h0 : -9223372036854775808 ≤ n) (h1 : n ≤ 9223372036854775807) (H : Heap) : eval tbl noExt n_report_digits [iv n] H = some (.str (text n), H) := by
 have hd := digits_eq (H := []) n h0 h1
 rw [eval_M rfl rfl t_report_digits rfl]
 simp [c_report_digits, hd]
theorem rwords_eq (l : List (List UInt8)) (hl : l.length ≤ 20) (hw : ∀ w ∈ l, w.length ≤ 2000) (H : Heap) : eval tbl noExt n_report_words [.sl 1 (l.map tx)] H = some (.str (Go.Lib.join l [32]), H) := by
 have hj := rjoin_eq l hl hw []
 rw [eval_M rfl rfl t_report_words rfl]
 simp [c_report_words, hj]
theorem total_eq (m : Mx) (hm : m.few) (H : Heap) : eval tbl noExt n_report_total [.agg m.cells] H = some (.str m.total, H) := by
 have hcell : m.cells = [.bool m.bad, .sl 6 (m.base.map Ce.cells), .sl 11 (m.sites.map Si.cells), .sl 1 (m.rows.map rowV)] := rfl
 have hS := Score_eq m hm []
 obtain ⟨k1, k2⟩ := kills_few hm
 have d1 := rdigits_eq (sumN killN m.rows : Nat) (by omega) (by omega) []
 have d2 := rdigits_eq (sumN bothN m.rows : Nat) (by omega) (by omega) []
 have hw := rwords_eq [scoreW, text (sumN killN m.rows : Nat), ofW, text (sumN bothN m.rows : Nat)] (by simp) (fun w hw => by
  have t1 := text_length (sumN killN m.rows : Nat)
  have t2 := text_length (sumN bothN m.rows : Nat)
  simp only [List.mem_cons, List.not_mem_nil, or_false] at hw
  rcases hw with rfl | rfl | rfl | rfl
  ·decide
  ·omega
  ·decide
  ·omega) []
 rw [spl_jn2, spl_jn2, spl_jn2, Go.Lib.join_one] at hw
 simp only [List.map_cons, List.map_nil, tx, scoreW, ofW] at hw
 unfold Mx.total scoreW ofW
 generalize text (sumN killN m.rows : Nat) = a at *
 generalize text (sumN bothN m.rows : Nat) = b at *
 rw [eval_M rfl rfl t_report_total rfl]
 simp only [hcell] at hS ⊢
 simp [c_report_total, hS, d1, d2, hw]
abbrev Hr (mc : List V) (bs : List UInt8) (T : Heap) : Heap := some mc :: some [.bld bT bE bs] :: some mc :: some [.lrec 0 0 q_report_Print_0 [11] [4] [.bptr 1]] :: T
theorem yield_eq (mc : List V) (bs s : List UInt8) (T : Heap) (h1 : bs.length < 90000000) (h2 : s.length < 1000000) : eval tbl noExt (yNo 3) [.str s] (Hr mc bs T) = some (.bool true, Hr mc (bs ++ (s ++ [10])) T) := by
 have hW : ∀ (a : Option (List V)) (R : Heap), eval tbl noExt n_pstrings_Builder_WriteString [.bptr 1, .str (s ++ [10])] (a :: some [.bld bT bE bs] :: R) = some (.tup [.int .i64 (s ++ [10]).length, .undef], a :: some [.bld bT bE (bs ++ (s ++ [10]))] :: R) := fun a R => by
  rw [eval_X rfl (show noExt n_pstrings_Builder_WriteString = some (xWriteString bT bP bE) from rfl)]
  simp only [xWriteString, List.getElem?_cons_succ, List.getElem?_cons_zero, List.set_cons_succ, List.set_cons_zero]
  rw [if_pos (by refine ⟨.inl trivial, trivial, by omega, ?_⟩; simp only [List.length_append, List.length_cons, List.length_nil]; omega)]
 have hrec : recAt (Hr mc bs T) 3 = some (0, 0, q_report_Print_0, [11], [4], [.bptr 1]) := by simp [recAt]
 have hl : s.length + 1 < 4611686018427387904 := by omega
 rw [eval_Y hrec u_report_Print_0 rfl]
 simp [a_report_Print_0, y_report_Print_0, recAt, hW, hl, endRound, pendOf]
theorem line_len {c : Ce} : c.show.1.length ≤ 100 := by
 unfold Ce.show
 split
 ·unfold Ce.line
  have t1 := text_length c.point
  have t2 := text_length c.kept
  have t3 := errW_len c.err
  have t4 := errW_len c.limit
  have t5 : c.word.length ≤ 10 := by
   unfold Ce.word
   split
   ·exact t3
   ·decide
  have w1 : killedW.length = 6 := rfl
  have w2 : incW.length = 12 := rfl
  have w3 : survW.length = 8 := rfl
  split
  ·simp only [List.length_append, List.length_cons]; omega
  ·split
   ·simp only [List.length_append, List.length_cons]; omega
   ·dsimp only; omega
 ·simp
theorem unl_len (l : List Ce) : (unlines (cellLines l)).length ≤ 200 * l.length := by
 induction l with
 | nil => simp [unlines, cellLines]
 | cons c l ih =>
  have := line_len (c := c)
  simp only [cellLines, unlines, List.map_cons, List.flatMap_cons, List.length_append, List.length_cons, List.length_nil] at ih ⊢
  omega
theorem lcells_loop (mc : List V) (l : List Ce) (hk : ∀ c ∈ l, 0 ≤ c.kept) (hl : l.length ≤ 100000) (Z : List UInt8) (T0 : Heap) (k : List Item) (X : Option (V × Heap)) (hexit : ∀ φ' A, M (eval tbl noExt) k φ' (Hr mc Z (some [.yld 3] :: (T0 ++ A))) = X) :
  ∀ (r : List Ce) (j : Nat) (bs : List UInt8) (φ : Fr) (A : Heap), l.drop j = r → Z = bs ++ unlines (cellLines r) → bs.length + 1000 * r.length ≤ 80000000 → Fr.get φ 1 = .ptr 4 0 → Fr.get φ 8 = .sl 6 (l.map Ce.cells) → Fr.get φ 9 = iv l.length → Fr.get φ 10 = iv j →
   M (eval tbl noExt) (.code l_report_lines_1_1_0 :: .blk 0 :: k) φ (Hr mc bs (some [.yld 3] :: (T0 ++ A))) = X := by
 intro r
 induction r with
 | nil =>
  intro j bs φ A hd e1 hb h1 h8 h9 h10
  have hj : l.length ≤ j := by rw [← Nat.sub_eq_zero_iff_le, ← List.length_drop, hd]; rfl
  have hlt : ¬ ((j : Int) < l.length) := by omega
  simp only [cellLines, List.map_nil, unlines, List.flatMap_nil, List.append_nil] at e1
  subst e1
  rw [l_report_lines_1_1_0, M_loop, ← l_report_lines_1_1_0]
  simp [b_report_lines_1_1_0, h1, h8, h9, h10, hlt]
  exact hexit _ _
 | cons c r ih =>
  intro j bs φ A hd e1 hb h1 h8 h9 h10
  have hj : j < l.length := by
   have : (l.drop j).length = r.length + 1 := by rw [hd]; rfl
   rw [List.length_drop] at this; omega
  have hlt : (j : Int) < l.length := by omega
  have hLx : l[j]? = some c := by rw [← List.head?_drop, hd]; rfl
  have hmem : c ∈ l := List.mem_of_getElem? hLx
  have hd1 : l.drop (j + 1) = r := by rw [← List.tail_drop, hd]; rfl
  have hw : IntKind.i64.wrap ((j : Int) + 1) = ((j + 1 : Nat) : Int) := by rw [w64 (by omega) (by omega)]; rfl
  have hr2 : ∀ h, l[j]'h = c := fun h => by rw [List.getElem?_eq_getElem h] at hLx; exact Option.some.inj hLx
  have hS := Show_eq c (hk c hmem) []
  have hlen := line_len (c := c)
  have hcell : c.cells = [iv c.says, iv c.point, uv c.kept, iv c.verdict, iv c.err, iv c.limit] := rfl
  simp only [List.length_cons] at hb
  have hy := fun T => yield_eq mc bs (9 :: c.show.1) T (by omega) (by simp; omega)
  simp only [cellLines, List.map_cons, unlines, List.flatMap_cons] at e1
  rw [← List.append_assoc] at e1
  have e3 : c.show.1.length + 1 < 4611686018427387904 := by omega
  have e4 : 1 + c.show.1.length < 4611686018427387904 := by omega
  have hb2 : (bs ++ ((9 :: c.show.1) ++ [10])).length + 1000 * r.length ≤ 80000000 := by simp only [List.length_append, List.length_cons, List.length_nil]; omega
  obtain ⟨G, hG⟩ : ∃ G, G = T0 ++ A := ⟨_, rfl⟩
  have eG : ∀ B : Heap, G ++ B = T0 ++ (A ++ B) := fun B => by rw [hG, List.append_assoc]
  rw [← hG]
  generalize c.show.1 = s at *
  generalize c.show.2 = ok at *
  simp only [List.cons_append] at hy e1
  simp only [hcell] at hS
  rw [l_report_lines_1_1_0, M_loop, ← l_report_lines_1_1_0]
  simp [b_report_lines_1_1_0, h1, h8, h9, h10, hlt, hj, hr2, hw, hS, hcell, e3, e4, hy]
  rw [eG]
  refine ih (j + 1) _ _ _ hd1 (by simpa [cellLines, unlines] using e1) (by simpa using hb2) ?_ ?_ ?_ ?_
  all_goals simp [h1, h8, h9]
theorem lcells_eq (mc : List V) (l : List Ce) (hk : ∀ c ∈ l, 0 ≤ c.kept) (hl : l.length ≤ 3001) (bs : List UInt8) (hb : bs.length ≤ 70000000) (T : Heap) :
  eval tbl noExt n_report_lines_1_1 [.sl 6 (l.map Ce.cells), .ptr 4 0] (Hr mc bs (some [.yld 3] :: T)) = some (.bool true, Hr mc (bs ++ unlines (cellLines l)) (some [.yld 3] :: T)) := by
 have hloop := fun k X hexit φ h1 h8 h9 h10 => lcells_loop mc l hk (by omega) _ T k X hexit l 0 bs φ [] rfl rfl (by omega) h1 h8 h9 h10
 simp only [List.append_nil] at hloop
 rw [eval_M rfl rfl t_report_lines_1_1 rfl]
 simp [c_report_lines_1_1]
 refine hloop _ _ ?_ _ ?_ ?_ ?_ ?_
 ·intro φ' A
  simp [r_report_lines_1_1_0]
 all_goals simp
theorem lrows_loop (m : Mx) (hok : ∀ s ∈ m.sites, s.ok ∧ s.name.2 = true) (hk : ∀ r ∈ m.rows, (∀ c ∈ r, 0 ≤ c.kept) ∧ r.length ≤ 16) (hlen : m.sites.length = m.rows.length) (hs : m.sites.length ≤ 512) (Z : List UInt8) (k : List Item) (X : Option (V × Heap))
  (hexit : ∀ φ' A, Fr.get φ' 1 = .ptr 2 0 → Fr.get φ' 2 = .ptr 4 0 → M (eval tbl noExt) k φ' (Hr m.cells Z (some [.yld 3] :: A)) = X) :
  ∀ (ss : List Si) (rs : List (List Ce)) (i : Nat) (bs : List UInt8) (φ : Fr) (A : Heap), m.sites.drop i = ss → m.rows.drop i = rs → Z = bs ++ unlines (rowLines ss rs) → bs.length + 20000 * ss.length ≤ 60000000 →
   Fr.get φ 1 = .ptr 2 0 → Fr.get φ 2 = .ptr 4 0 → Fr.get φ 4 = .fn (.func n_report_lines_1_1) [] [.ptr 4 0] → Fr.get φ 24 = .sl 11 (m.sites.map Si.cells) → Fr.get φ 25 = iv m.sites.length → Fr.get φ 26 = iv i →
   M (eval tbl noExt) (.code l_report_lines_1_0 :: .blk 0 :: k) φ (Hr m.cells bs (some [.yld 3] :: A)) = X := by
 have hcell : m.cells = [.bool m.bad, .sl 6 (m.base.map Ce.cells), .sl 11 (m.sites.map Si.cells), .sl 1 (m.rows.map rowV)] := rfl
 intro ss
 induction ss with
 | nil =>
  intro rs i bs φ A hd hdr e1 hb h1 h2 h4 h24 h25 h26
  have hj : m.sites.length ≤ i := by rw [← Nat.sub_eq_zero_iff_le, ← List.length_drop, hd]; rfl
  have hlt : ¬ ((i : Int) < m.sites.length) := by omega
  simp only [rowLines, unlines, List.flatMap_nil, List.append_nil] at e1
  subst e1
  rw [l_report_lines_1_0, M_loop, ← l_report_lines_1_0]
  simp [b_report_lines_1_0, h1, h2, h4, h24, h25, h26, hlt]
  refine hexit _ _ ?_ ?_
  all_goals simp [h1, h2]
 | cons t ss ih =>
  intro rs i bs φ A hd hdr e1 hb h1 h2 h4 h24 h25 h26
  have hj : i < m.sites.length := by
   have : (m.sites.drop i).length = ss.length + 1 := by rw [hd]; rfl
   rw [List.length_drop] at this; omega
  have hlt : (i : Int) < m.sites.length := by omega
  have hjr : i < m.rows.length := by omega
  have hltr : (i : Int) < m.rows.length := by omega
  cases rs with
  | nil =>
   have : (m.rows.drop i).length = 0 := by rw [hdr]; rfl
   rw [List.length_drop] at this; omega
  | cons r rs =>
   have hLx : m.sites[i]? = some t := by rw [← List.head?_drop, hd]; rfl
   have hRx : m.rows[i]? = some r := by rw [← List.head?_drop, hdr]; rfl
   have hd1 : m.sites.drop (i + 1) = ss := by rw [← List.tail_drop, hd]; rfl
   have hdr1 : m.rows.drop (i + 1) = rs := by rw [← List.tail_drop, hdr]; rfl
   have hw : IntKind.i64.wrap ((i : Int) + 1) = ((i + 1 : Nat) : Int) := by rw [w64 (by omega) (by omega)]; rfl
   have hg : ∀ h, m.sites[i]'h = t := fun h => by rw [List.getElem?_eq_getElem h] at hLx; exact Option.some.inj hLx
   have hgr : ∀ h, m.rows[i]'h = r := fun h => by rw [List.getElem?_eq_getElem h] at hRx; exact Option.some.inj hRx
   have hrv : rowV r = [.sl 6 (r.map Ce.cells)] := rfl
   obtain ⟨okt, hn⟩ := hok t (List.mem_of_getElem? hLx)
   obtain ⟨hkr, hr16⟩ := hk r (List.mem_of_getElem? hRx)
   have hN := Name_eq t okt []
   have hnl := name_len hn
   rw [hn] at hN
   have q1 := Si.len okt
   have q3 := Si.strip (s := t)
   have q5 := Si.take okt
   have qu := fun n => Si.under (s := t) n
   have qo := Si.one (s := t)
   have qs := h11 t okt
   simp only [List.length_cons] at hb
   have hy := fun T => yield_eq m.cells bs t.name.1 T (by omega) (by omega)
   have hc := fun T => lcells_eq m.cells r hkr (by omega) (bs ++ (t.name.1 ++ [10])) (by simp; omega) T
   have hul := unl_len r
   simp only [rowLines, unlines, List.flatMap_cons, List.flatMap_append] at e1
   have hb2 : (bs ++ (t.name.1 ++ [10]) ++ unlines (cellLines r)).length + 20000 * ss.length ≤ 60000000 := by simp only [List.length_append, List.length_cons, List.length_nil]; omega
   generalize t.name.1 = s at *
   simp only [hcell] at hy hc ih ⊢
   rw [l_report_lines_1_0, M_loop, ← l_report_lines_1_0]
   simp [b_report_lines_1_0, h1, h2, h4, h24, h25, h26, hlt, hj, hjr, hltr, hg, hgr, hrv, hw, hN, q1, q3, q5, qu, qo, qs, hy, hc]
   refine ih rs (i + 1) _ _ _ hd1 hdr1 (by simpa [unlines] using e1) (by simpa using hb2) ?_ ?_ ?_ ?_ ?_ ?_
   all_goals simp [h1, h2, h4, h24, h25]
theorem lines_eq (m : Mx) (g : m.good3) (hm : m.few) (hb16 : m.base.length ≤ 16) (hr16 : ∀ r ∈ m.rows, r.length ≤ 16) :
  eval tbl noExt n_report_lines_1 [.yld 3, .ptr 2 0] (Hr m.cells [] []) = some (.tup [], Hr m.cells (unlines m.lines) []) := by
 have hcell : m.cells = [.bool m.bad, .sl 6 (m.base.map Ce.cells), .sl 11 (m.sites.map Si.cells), .sl 1 (m.rows.map rowV)] := rfl
 have hT := total_eq m hm []
 have htl : m.total.length ≤ 1000 := by
  have t1 := text_length (sumN killN m.rows : Nat)
  have t2 := text_length (sumN bothN m.rows : Nat)
  have w1 : scoreW.length = 5 := rfl
  have w2 : ofW.length = 2 := rfl
  unfold Mx.total
  simp only [List.length_append, List.length_cons]
  omega
 have hhl : (headW m.bad).length ≤ 4 := by cases m.bad <;> decide
 have y1 := fun T => yield_eq m.cells [] (headW m.bad) T (by simp) (by omega)
 have c1 := fun T => lcells_eq m.cells m.base (fun c hc => (g.base c hc).2) (by omega) (headW m.bad ++ [10]) (by simp; omega) T
 have hul := unl_len m.base
 have hsites := hm.sites
 obtain ⟨B, hB⟩ : ∃ B, B = (headW m.bad ++ [10]) ++ unlines (cellLines m.base) := ⟨_, rfl⟩
 have hBl : B.length ≤ 10000 := by rw [hB]; simp only [List.length_append, List.length_cons, List.length_nil]; omega
 have hloop := fun k X hexit φ A h1 h2 h4 h24 h25 h26 => lrows_loop m g.sites (fun r hr => ⟨fun c hc => (g.rows r hr c hc).2, hr16 r hr⟩) g.len (by omega) (B ++ unlines (rowLines m.sites m.rows)) k X hexit m.sites m.rows 0 B φ A rfl rfl rfl (by omega) h1 h2 h4 h24 h25 h26
 have hRl : (unlines (rowLines m.sites m.rows)).length ≤ 20000 * m.sites.length := by
  have key : ∀ (ss : List Si) (rs : List (List Ce)), (∀ s ∈ ss, s.name.2 = true) → (∀ r ∈ rs, r.length ≤ 16) → (unlines (rowLines ss rs)).length ≤ 20000 * ss.length := by
   intro ss
   induction ss with
   | nil => intro rs _ _; simp [rowLines, unlines]
   | cons s ss ih =>
    intro rs hs hr
    cases rs with
    | nil => simp [rowLines, unlines]
    | cons r rs =>
     have h1 := name_len (hs s (by simp))
     have h2 := unl_len r
     have h3 := hr r (by simp)
     have h4 := ih rs (fun x hx => hs x (by simp [hx])) (fun x hx => hr x (by simp [hx]))
     simp only [rowLines, unlines, List.flatMap_cons, List.flatMap_append, List.length_append, List.length_cons, List.length_nil] at h2 h4 ⊢
     omega
  exact key _ _ (fun s hs => (g.sites s hs).2) hr16
 have y2 := fun T => yield_eq m.cells (B ++ unlines (rowLines m.sites m.rows)) m.total T (by simp only [List.length_append]; omega) (by omega)
 have hfin : B ++ unlines (rowLines m.sites m.rows) ++ (m.total ++ [10]) = unlines m.lines := by
  rw [hB]
  simp [Mx.lines, Mx.mids, unlines]
 rw [hfin] at y2
 rw [← hB] at c1
 clear hB hfin hRl htl hul hBl
 generalize unlines m.lines = U at *
 generalize m.total = tt at *
 generalize B ++ unlines (rowLines m.sites m.rows) = Y at *
 generalize m.cells = mc0 at hcell y1 c1 hT y2 hloop ⊢
 rw [eval_M rfl rfl t_report_lines_1 rfl]
 subst hcell
 cases hbad : m.bad with
 | false =>
  rw [hbad] at y1 c1 hT y2 hloop
  simp only [headW, Bool.false_eq_true, if_false] at y1 c1
  simp [c_report_lines_1] at y1 c1 hloop ⊢
  simp [y1, c1]
  refine hloop _ _ ?_ _ _ ?_ ?_ ?_ ?_ ?_ ?_
  ·intro φ' A h1 h2
   simp [r_report_lines_1_0, h1, h2, hT, y2]
  all_goals simp
 | true =>
  rw [hbad] at y1 c1 hT y2 hloop
  simp only [headW, if_true] at y1 c1
  simp [c_report_lines_1] at y1 c1 hloop ⊢
  simp [y1, c1]
  refine hloop _ _ ?_ _ _ ?_ ?_ ?_ ?_ ?_ ?_
  ·intro φ' A h1 h2
   simp [r_report_lines_1_0, h1, h2, hT, y2]
  all_goals simp
theorem Mx.right16 {m : Mx} (h : m.right = true) : m.base.length ≤ 16 ∧ ∀ r ∈ m.rows, r.length ≤ 16 := by
 unfold Mx.right at h
 simp only [Bool.and_eq_true, decide_eq_true_eq] at h
 obtain ⟨h1, h2, h3, h4⟩ := h
 refine ⟨h1, fun r hr => ?_⟩
 split at h4
 ·simp only [Bool.and_eq_true, decide_eq_true_eq] at h4
  have e2 := List.eq_nil_of_length_eq_zero h4.2
  rw [e2] at hr; simp at hr
 ·simp only [Bool.and_eq_true, decide_eq_true_eq] at h4
  have := List.all_eq_true.1 h4.2.1 r hr
  unfold rowOK at this
  simp only [Bool.and_eq_true, decide_eq_true_eq] at this
  omega
theorem Print_eq (m : Mx) (hm : m.few) (hok : ∀ s ∈ m.sites, s.ok) (hkb : ∀ c ∈ m.base, 0 ≤ c.kept) (hkr : ∀ r ∈ m.rows, ∀ c ∈ r, 0 ≤ c.kept) : eval tbl noExt n_report_Print [.agg m.cells] [] = some (.tup [.str m.print.1, .bool m.print.2], []) := by
 have hcell : m.cells = [.bool m.bad, .sl 6 (m.base.map Ce.cells), .sl 11 (m.sites.map Si.cells), .sl 1 (m.rows.map rowV)] := rfl
 have hR := SRight_eq m hm hok []
 unfold Mx.print
 rw [eval_M rfl rfl t_report_Print rfl]
 cases hr : m.right with
 | false =>
  rw [hr] at hR
  simp only [hcell] at hR ⊢
  simp [c_report_Print, hR]
 | true =>
  rw [hr] at hR
  obtain ⟨r1, r2⟩ := Mx.right16 hr
  have hL := lines_eq m (Mx.good_of hr hok hkb hkr) hm r1 r2
  have hl2 : ∀ H, eval tbl noExt n_report_lines [.agg m.cells] H = some (.fn (.func n_report_lines_1) [] [.ptr H.length 0], H ++ [some m.cells]) := fun H => by
   rw [eval_M rfl rfl t_report_lines rfl]
   simp [c_report_lines]
  have hS : ∀ (a : Option (List V)) (R : Heap) (bs : List UInt8), eval tbl noExt n_pstrings_Builder_String [.bptr 1] (a :: some [.bld bT bE bs] :: R) = some (.str bs, a :: none :: R) := fun a R bs => by
   rw [eval_X rfl (show noExt n_pstrings_Builder_String = some (xString bT bP bE) from rfl)]
   simp [xString]
  simp only [if_true]
  generalize unlines m.lines = U at *
  simp only [hcell] at hR hL hl2 ⊢
  simp [c_report_Print, hR, hl2, hL, recAt, r_report_Print_0, hS]
set_option maxHeartbeats 4000000
theorem readSi_ok (t : List UInt8) : (readSi t).1.ok := by
 unfold readSi
 dsimp only
 split
 ·rfl
 ·generalize hX : readNums _ _ _ = X
  cases X with
  | none => rfl
  | some s =>
   have := (readNums_ok _ _ _ _ (by rfl) hX).1
   unfold afterNums
   split
   ·rfl
   ·rename_i h; cases h; split
    ·exact this
    ·rfl
theorem wm1 : IntKind.i64.wrap (-1) = -1 := by decide
theorem lim88 {n : Nat} (h : n ≤ 100000) : 2 * (n + 1 + 1) * 88 ≤ 281474976710656 := by omega
theorem lim24 {n : Nat} (h : n ≤ 100000) : 2 * (n + 1 + 1) * 24 ≤ 281474976710656 := by omega
theorem lim48 {n : Nat} (h : n ≤ 100000) : 2 * (n + 1 + 1) * 48 ≤ 281474976710656 := by omega
theorem nils_plain (k : Nat) : (V.nils k).plain = true := rfl
def ov (k : Nat) : List (List V) → V
 | [] => .nils k
 | r :: l => .own k (r :: l)
def gv (i : Nat) : Nat → V
 | 0 => .nils 1
 | n + 1 => .mg 1 (i + 2) 0 (n + 1) (n + 1)
def rowO (r : List Ce) : V := ov 6 (r.map Ce.cells)
def RV (m : Mx) (i : Nat) : List V := [.bool m.bad, ov 6 (m.base.map Ce.cells), ov 11 (m.sites.map Si.cells), gv i m.rows.length]
def RB (m : Mx) (i : Nat) (B : Heap) : Prop := m.rows = [] ∨ B[i]? = some (some (m.rows.map rowO))
structure Mx.upto (m : Mx) (n : Nat) : Prop where
 base : m.base.length ≤ n
 sites : m.sites.length ≤ n
 rows : m.rows.length ≤ n
 row : ∀ r ∈ m.rows, r.length ≤ n
theorem row_eq (m : Mx) (i : Nat) (B : Heap) (a0 : Option (List V)) (hB : RB m i B) (n : Nat) (hm : m.upto n) (hn : n ≤ 100000) (t : List UInt8) (ht : t.length ≤ 4000) :
  ∃ i' B', eval tbl noExt (wNo n_preport_reader_row) [.ptr 1 0, .str t] (a0 :: some (RV m i) :: B) = some (.bool (readSi t).2, a0 :: some (RV (m.addS (readSi t).1) i') :: B') ∧ RB (m.addS (readSi t).1) i' B' := by
 have hR := Read_eq t ht []
 obtain ⟨h1, h2, h3, h4⟩ := hm
 obtain ⟨bad, base, sites, rows⟩ := m
 dsimp only at h1 h2 h3 h4
 unfold RB at *
 dsimp only [RV, Mx.addS] at *
 generalize ov 6 (base.map Ce.cells) = bv at *
 have okx := readSi_ok t
 generalize readSi t = X at *
 obtain ⟨x, ok⟩ := X
 have okx : x.ok := okx
 have q1 := Si.len okx
 have q3 := Si.strip (s := x)
 have q5 := Si.take okx
 have qu := fun n => Si.under (s := x) n
 have qo := Si.one (s := x)
 have qs := h11 x okx
 have qp : x.cells.all V.plain = true := List.all_eq_true.2 fun v hv => by
  simp only [Si.cells, List.mem_cons, List.mem_append, List.mem_map, List.not_mem_nil, or_false] at hv
  rcases hv with rfl | rfl | ⟨a, _, rfl⟩ | rfl <;> rfl
 cases rows with
 | nil =>
  refine ⟨B.length + 1, B ++ [some x.cells, some [.nils 6]], ?_, .inr (by simp [rowO, ov])⟩
  rw [eval_W tw_preport_reader_row rfl]
  cases sites with
  | nil =>
   simp [-V.plain, c_preport_reader_row_w, hR, q1, q3, q5, qu, qo, qs, qp, nils_plain, ov, gv, appM]
  | cons s ss =>
   simp only [List.length_cons] at h2
   have e1 := lim88 (n := ss.length) (by omega)
   simp [-V.plain, c_preport_reader_row_w, hR, q1, q3, q5, qu, qo, qs, qp, nils_plain, ov, gv, appM, e1]
 | cons r rs =>
  have hB' := hB.resolve_left (by simp)
  have hi : i < B.length := (List.getElem?_eq_some_iff.1 hB').1
  have hB2 : ∀ y, (B ++ [y])[i]? = some (some (rowO r :: rs.map rowO)) := fun y => by rw [List.getElem?_append_left hi, hB']; rfl
  simp only [List.length_cons] at h3
  have e2 : ¬ rs.length + 1 ≤ rs.length := by omega
  have e3 := lim24 (n := rs.length) (by omega)
  have e4 : List.take rs.length (List.map rowO rs) = List.map rowO rs := List.take_of_length_le (by simp)
  refine ⟨B.length + 1, (B ++ [some x.cells]).set i none ++ [some (rowO r :: rs.map rowO ++ [.nils 6])], ?_, .inr ?_⟩
  ·rw [eval_W tw_preport_reader_row rfl]
   cases sites with
   | nil =>
    simp [-V.plain, c_preport_reader_row_w, hR, q1, q3, q5, qu, qo, qs, qp, nils_plain, ov, gv, appM, hB2, e2, e3, e4]
   | cons s ss =>
    simp only [List.length_cons] at h2
    have e1 := lim88 (n := ss.length) (by omega)
    simp [-V.plain, c_preport_reader_row_w, hR, q1, q3, q5, qu, qo, qs, qp, nils_plain, ov, gv, appM, hB2, e1, e2, e3, e4]
  ·rw [List.getElem?_append_right (by simp)]
   simp [rowO, ov]
theorem nil_or_snoc {α : Type} (l : List α) : l = [] ∨ ∃ i x, l = i ++ [x] := by
 rcases List.eq_nil_or_concat l with h | ⟨i, x, h⟩
 ·exact .inl h
 ·exact .inr ⟨i, x, by rw [h, List.concat_eq_append]⟩
theorem Ce.facts (c : Ce) : c.cells.length = 6 ∧ c.cells.map V.strip = c.cells ∧ c.cells.take 6 = c.cells ∧ (∀ n, V.underAll n c.cells = true) ∧ c.cells.all V.one = true ∧ c.cells.all V.plain = true ∧ ∀ a b d e f g : V, setMany [a, b, d, e, f, g] 0 c.cells = c.cells :=
 ⟨rfl, rfl, rfl, fun _ => rfl, rfl, rfl, fun _ _ _ _ _ _ => rfl⟩
theorem add_eq (m : Mx) (i : Nat) (B : Heap) (a0 : Option (List V)) (hB : RB m i B) (n : Nat) (hm : m.upto n) (hn : n ≤ 100000) (t : List UInt8) (ht : t.length ≤ 100000) :
  ∃ i' B', eval tbl noExt (wNo n_preport_reader_add) [.ptr 1 0, .str t] (a0 :: some (RV m i) :: B) = some (.bool (readCe t).2, a0 :: some (RV (m.addC (readCe t).1) i') :: B') ∧ RB (m.addC (readCe t).1) i' B' := by
 have hR := cRead_eq t ht []
 obtain ⟨h1, h2, h3, h4⟩ := hm
 obtain ⟨bad, base, sites, rows⟩ := m
 dsimp only at h1 h2 h3 h4
 unfold RB at *
 dsimp only [RV] at *
 generalize readCe t = X at *
 obtain ⟨c, ok⟩ := X
 obtain ⟨q1, q3, q5, qu, qo, qp, qs⟩ := Ce.facts c
 have hcs : c.cells = c.cells := rfl
 rcases nil_or_snoc rows with rfl | ⟨init, last, rfl⟩
 ·dsimp only [Mx.addC, List.getLast?_nil]
  refine ⟨i, B ++ [some c.cells], ?_, .inl rfl⟩
  simp only [List.map_append, List.map_cons, List.map_nil]
  generalize ov 11 (sites.map Si.cells) = sv at *
  rw [eval_W tw_preport_reader_add rfl]
  cases base with
  | nil =>
   generalize c.cells = cc at *
   simp [-V.plain, c_preport_reader_add_w, hR, wm1, q1, q3, q5, qu, qo, qs, qp, nils_plain, ov, gv]
  | cons b bs =>
   simp only [List.length_cons] at h1
   have e1 := lim48 (n := bs.length) (by omega)
   generalize c.cells = cc at *
   simp [-V.plain, c_preport_reader_add_w, hR, wm1, q1, q3, q5, qu, qo, qs, qp, nils_plain, ov, gv, e1]
 ·have hne : init ++ [last] ≠ [] := by simp
  have hB' := hB.resolve_left hne
  have hi : i < B.length := (List.getElem?_eq_some_iff.1 hB').1
  have g0 : (init ++ [last]).getLast? = some last := by simp
  have g1 : (init ++ [last]).dropLast = init := by simp
  simp only [List.length_append, List.length_cons, List.length_nil, Nat.zero_add] at h3
  have hw : IntKind.i64.wrap ((init.length : Int) + 1 - 1) = (init.length : Int) := by rw [w64 (by omega) (by omega)]; omega
  have hw' : IntKind.i64.wrap (init.length : Int) = (init.length : Int) := w64 (by omega) (by omega)
  have hn0 : ¬ ((init.length : Int) < 0) := by omega
  have hlt : (init.length : Int) < (init.length : Int) + 1 := by omega
  have hla := h4 last (by simp)
  dsimp only [Mx.addC]
  rw [g0]
  dsimp only
  rw [g1]
  rw [List.map_append, List.map_cons, List.map_nil] at hB'
  generalize ov 11 (sites.map Si.cells) = sv at *
  generalize ov 6 (base.map Ce.cells) = bv at *
  have hR0 : rowO (last ++ [c]) = .own 6 (last.map Ce.cells ++ [c.cells]) := by
   unfold rowO
   cases last with
   | nil => rfl
   | cons x xs => simp [ov]
  have hLl : (init.map rowO).length = init.length := List.length_map _
  have hend : ((B ++ [some c.cells]).set i (some (init.map rowO ++ [rowO (last ++ [c])])))[i]? = some (some ((init ++ [last ++ [c]]).map rowO)) := by
   rw [List.getElem?_set_self (by simp; omega)]; simp
  refine ⟨i, (B ++ [some c.cells]).set i (some (init.map rowO ++ [rowO (last ++ [c])])), ?_, .inr hend⟩
  rw [hR0]
  have hB2 : ∀ y, (B ++ [y])[i]? = some (some (init.map rowO ++ [rowO last])) := fun y => by rw [List.getElem?_append_left hi, hB']
  have hil : i < B.length + 1 := by omega
  generalize init.map rowO = L at *
  have g3 : ∀ v, (L ++ [v])[init.length]? = some v := fun v => by rw [← hLl]; exact List.getElem?_concat_length ..
  have g4 : ∀ v w, (L ++ [v]).set init.length w = L ++ [w] := fun v w => by rw [← hLl]; simp
  have g5 : ∀ y z, ((B ++ [y]).set i z)[i]? = some z := fun y z => List.getElem?_set_self (by simp; omega)
  have g6 : ∀ y z, ((B ++ [y]).set i z)[B.length]? = some y := fun y z => by rw [List.getElem?_set_ne (by omega)]; exact List.getElem?_concat_length ..
  have g7 : ∀ y z h, ((B ++ [y]).set i z)[B.length]'h = y := fun y z h => by have := g6 y z; rw [List.getElem?_eq_getElem h] at this; exact Option.some.inj this
  rw [eval_W tw_preport_reader_add rfl]
  clear hend hR0 hB hne hB' g0 g1
  unfold rowO at hB2
  cases last with
  | nil =>
   simp only [ov, List.map_nil] at hB2
   generalize c.cells = cc at *
   simp [-V.plain, c_preport_reader_add_w, hR, wm1, q1, q3, q5, qu, qo, qs, qp, nils_plain, ov, gv, hw, hw', hn0, hlt, hB2, g3, g4, g5, hLl]
  | cons b bs =>
   simp only [List.length_cons] at hla
   have e1 := lim48 (n := bs.length) (by omega)
   generalize c.cells = cc at *
   simp only [ov, List.map_cons] at hB2
   simp [-V.plain, c_preport_reader_add_w, hR, wm1, q1, q3, q5, qu, qo, qs, qp, nils_plain, ov, gv, hw, hw', hn0, hlt, hB2, e1, g3, g4, g5, g6, g7, hLl]
def stpL (m : Mx) (t : List UInt8) : Mx := match t with
 | 9 :: u => m.addC (readCe u).1
 | t => m.addS (readSi t).1
def okL (t : List UInt8) : Bool := match t with
 | 9 :: u => (readCe u).2
 | t => (readSi t).2
theorem takeL_eq (m : Mx) (t : List UInt8) : takeL m t = if okL t then some (stpL m t) else none := by
 cases t with
 | nil => rfl
 | cons x u =>
  by_cases h : x = 9
  ·subst h; rfl
  ·have e1 : takeL m (x :: u) = if (readSi (x :: u)).2 then some (m.addS (readSi (x :: u)).1) else none := by
    unfold takeL
    split
    ·rename_i u' h'; simp only [List.cons.injEq] at h'; exact absurd h'.1 h
    ·rfl
   have e2 : okL (x :: u) = (readSi (x :: u)).2 := by
    unfold okL
    split
    ·rename_i u' h'; simp only [List.cons.injEq] at h'; exact absurd h'.1 h
    ·rfl
   have e3 : stpL m (x :: u) = m.addS (readSi (x :: u)).1 := by
    unfold stpL
    split
    ·rename_i u' h'; simp only [List.cons.injEq] at h'; exact absurd h'.1 h
    ·rfl
   rw [e1, e2, e3]
theorem upto_C {m : Mx} {n : Nat} (h : m.upto n) (c : Ce) : (m.addC c).upto (n + 1) := by
 obtain ⟨h1, h2, h3, h4⟩ := h
 unfold Mx.addC
 split
 ·exact ⟨by simp; omega, by dsimp only; omega, by dsimp only; omega, fun r hr => by have := h4 r hr; omega⟩
 ·rename_i r hr
  have hmem : r ∈ m.rows := List.mem_of_getLast? hr
  have h5 := h4 r hmem
  have hne : m.rows ≠ [] := fun h => by rw [h] at hr; simp at hr
  have hl : 0 < m.rows.length := List.length_pos_iff.2 hne
  refine ⟨by dsimp only; omega, by dsimp only; omega, by simp; omega, fun x hx => ?_⟩
  simp only [List.mem_append, List.mem_cons, List.not_mem_nil, or_false] at hx
  rcases hx with hx | rfl
  ·have := h4 x (List.dropLast_subset _ hx); omega
  ·simp; omega
theorem upto_S {m : Mx} {n : Nat} (h : m.upto n) (s : Si) : (m.addS s).upto (n + 1) := by
 obtain ⟨h1, h2, h3, h4⟩ := h
 refine ⟨by dsimp only [Mx.addS]; omega, by simp [Mx.addS]; omega, by simp [Mx.addS]; omega, fun x hx => ?_⟩
 simp only [Mx.addS, List.mem_append, List.mem_cons, List.not_mem_nil, or_false] at hx
 rcases hx with hx | rfl
 ·have := h4 x hx; omega
 ·simp
theorem upto_L {m : Mx} {n : Nat} (h : m.upto n) (t : List UInt8) : (stpL m t).upto (n + 1) := by
 unfold stpL
 split
 ·exact upto_C h _
 ·exact upto_S h _
theorem take_eq (m : Mx) (i : Nat) (B : Heap) (a0 : Option (List V)) (hB : RB m i B) (n : Nat) (hm : m.upto n) (hn : n ≤ 100000) (t : List UInt8) (ht : t.length ≤ 4000) :
  ∃ i' B', eval tbl noExt (wNo n_preport_reader_take) [.ptr 1 0, .str t] (a0 :: some (RV m i) :: B) = some (.bool (okL t), a0 :: some (RV (stpL m t) i') :: B') ∧ RB (stpL m t) i' B' := by
 have hC := CutPrefix_eq t []
 by_cases h9 : t.head? = some 9
 ·cases t with
  | nil => simp at h9
  | cons x u =>
   simp only [List.head?_cons, Option.some.injEq] at h9
   subst h9
   obtain ⟨i', B', e1, e2⟩ := add_eq m i B a0 hB n hm hn u (by simp at ht; omega)
   refine ⟨i', B', ?_, e2⟩
   have k1 : okL (9 :: u) = (readCe u).2 := rfl
   have k2 : stpL m (9 :: u) = m.addC (readCe u).1 := rfl
   simp only [List.head?_cons, if_true] at hC
   rw [k1, k2]
   rw [eval_W tw_preport_reader_take rfl]
   simp only [List.tail_cons] at hC
   generalize RV m i = R at *
   generalize RV (m.addC (readCe u).1) i' = R' at *
   simp [c_preport_reader_take_w, hC, e1]
 ·obtain ⟨i', B', e1, e2⟩ := row_eq m i B a0 hB n hm hn t ht
  have k1 : okL t = (readSi t).2 := by
   unfold okL
   split
   ·simp at h9
   ·rfl
  have k2 : stpL m t = m.addS (readSi t).1 := by
   unfold stpL
   split
   ·simp at h9
   ·rfl
  rw [k1, k2]
  refine ⟨i', B', ?_, e2⟩
  rw [if_neg h9] at hC
  rw [eval_W tw_preport_reader_take rfl]
  generalize RV m i = R at *
  generalize RV (m.addS (readSi t).1) i' = R' at *
  simp [c_preport_reader_take_w, hC, e1]
theorem all_loop (L : List (List UInt8)) (hL : ∀ t ∈ L, t.length ≤ 4000) (a0 : Option (List V)) (k : List Item) (Q : Option (V × Heap) → Prop) :
  ∀ (r : List (List UInt8)) (j : Nat) (m : Mx) (i : Nat) (B : Heap) (n : Nat) (φ : Fr), L.drop j = r → RB m i B → m.upto n → n + r.length ≤ 100000 → j + r.length = L.length → L.length ≤ 100000 →
   (∀ φ' m' i' B', RB m' i' B' → takeAll m r = some m' → Q (M (eval tbl noExt) k φ' (a0 :: some (RV m' i') :: B'))) →
   (∀ φ' m' i' B', RB m' i' B' → takeAll m r = none → Fr.get φ' 4 = .bool false → Q (retK k φ' (a0 :: some (RV m' i') :: B'))) →
   Fr.get φ 1 = .fn (.func n_preport_reader_take) [.ptr 1 0] [] → Fr.get φ 7 = .sl 1 (L.map tx) → Fr.get φ 8 = iv L.length → Fr.get φ 9 = iv j →
   Q (M (eval tbl noExt) (.code l_report_all_w_0 :: .blk 0 :: k) φ (a0 :: some (RV m i) :: B)) := by
 intro r
 induction r with
 | nil =>
  intro j m i B n φ hd hB hm hn hj hLl hexit hret h1 h7 h8 h9
  simp only [List.length_nil] at hj
  have hlt : ¬ ((j : Int) < L.length) := by omega
  rw [l_report_all_w_0, M_loop, ← l_report_all_w_0]
  simp [b_report_all_w_0, h1, h7, h8, h9, hlt]
  exact hexit _ m i B hB rfl
 | cons t r ih =>
  intro j m i B n φ hd hB hm hn hj hLl hexit hret h1 h7 h8 h9
  simp only [List.length_cons] at hj hn
  have hj1 : j < L.length := by omega
  have hlt : (j : Int) < L.length := by omega
  have hLx : L[j]? = some t := by rw [← List.head?_drop, hd]; rfl
  have hmem : t ∈ L := List.mem_of_getElem? hLx
  have hd1 : L.drop (j + 1) = r := by rw [← List.tail_drop, hd]; rfl
  have hw : IntKind.i64.wrap ((j : Int) + 1) = ((j + 1 : Nat) : Int) := by rw [w64 (by omega) (by omega)]; rfl
  have hr2 : ∀ h, L[j]'h = t := fun h => by rw [List.getElem?_eq_getElem h] at hLx; exact Option.some.inj hLx
  obtain ⟨i', B', e1, e2⟩ := take_eq m i B a0 hB n hm (by omega) t (hL t hmem)
  have hstep : takeAll m (t :: r) = if okL t then takeAll (stpL m t) r else none := by
   rw [takeAll, takeL_eq]
   by_cases h : okL t
   ·simp [h]
   ·simp [h]
  rw [l_report_all_w_0, M_loop, ← l_report_all_w_0]
  have hup := upto_L hm t
  cases hok : okL t with
  | false =>
   rw [hok] at hstep e1
   have hret' := fun φ' h => hret φ' (stpL m t) i' B' e2 (by simpa using hstep) h
   generalize RV (stpL m t) i' = R' at *
   generalize RV m i = R at *
   simp [b_report_all_w_0, h1, h7, h8, h9, hlt, hj1, hr2, tx, e1]
   apply hret'
   simp
  | true =>
   rw [hok, if_pos rfl] at hstep
   rw [hok] at e1
   have hnext := fun φ' => ih (j + 1) (stpL m t) i' B' (n + 1) φ' hd1 e2 hup (by omega) (by omega) hLl (fun φ' m' i' B' hb he => hexit φ' m' i' B' hb (by rw [hstep, he])) (fun φ' m' i' B' hb he => hret φ' m' i' B' hb (by rw [hstep, he]))
   generalize RV (stpL m t) i' = R' at *
   generalize RV m i = R at *
   simp [b_report_all_w_0, h1, h7, h8, h9, hlt, hj1, hr2, tx, e1, hw]
   apply hnext
   all_goals simp [h1, h7, h8]
theorem all_eq (L : List (List UInt8)) (hL : ∀ t ∈ L, t.length ≤ 4000) (hLl : L.length ≤ 90000) (a0 : Option (List V)) (m : Mx) (i : Nat) (B : Heap) (hB : RB m i B) (hm : m.upto 0) :
  ∃ m' i' B', eval tbl noExt (wNo n_report_all) [.sl 1 (L.map tx), .fn (.func n_preport_reader_take) [.ptr 1 0] []] (a0 :: some (RV m i) :: B) = some (.bool (takeAll m L).isSome, a0 :: some (RV m' i') :: B') ∧ RB m' i' B' ∧ ∀ x, takeAll m L = some x → m' = x := by
 have hloop := fun k Q φ he hr h1 h7 h8 h9 => all_loop L hL a0 k Q L 0 m i B 0 φ rfl hB hm (by omega) (by omega) (by omega) he hr h1 h7 h8 h9
 rw [eval_W tw_report_all rfl]
 generalize hX : takeAll m L = X at *
 generalize RV m i = R at *
 simp [c_report_all_w]
 refine hloop _ (fun o => ∃ m' i' B', o = some (.bool X.isSome, a0 :: some (RV m' i') :: B') ∧ RB m' i' B' ∧ ∀ x, X = some x → m' = x) _ ?_ ?_ ?_ ?_ ?_ ?_
 ·intro φ' m' i' B' hb he
  subst he
  refine ⟨m', i', B', ?_, hb, fun x hx => by cases hx; rfl⟩
  simp [r_report_all_w_0]
 ·intro φ' m' i' B' hb he h4
  subst he
  refine ⟨m', i', B', ?_, hb, fun x hx => by cases hx⟩
  simp [h4]
 all_goals simp
structure Mx.inv (m : Mx) (n : Nat) : Prop where
 up : m.upto n
 sites : ∀ s ∈ m.sites, s.ok
 base : ∀ c ∈ m.base, 0 ≤ c.kept
 rows : ∀ r ∈ m.rows, ∀ c ∈ r, 0 ≤ c.kept
 len : m.sites.length = m.rows.length
theorem inv_C {m : Mx} {n : Nat} (h : m.inv n) (c : Ce) (hk : 0 ≤ c.kept) : (m.addC c).inv (n + 1) := by
 have hu := upto_C h.up c
 obtain ⟨h1, h2, h3, h4, h5⟩ := h
 unfold Mx.addC at hu ⊢
 split
 ·rename_i hr
  rw [hr] at hu
  exact ⟨hu, h2, fun x hx => by
   simp only [List.mem_append, List.mem_cons, List.not_mem_nil, or_false] at hx
   rcases hx with hx | rfl
   ·exact h3 x hx
   ·exact hk, h4, h5⟩
 ·rename_i r hr
  have hne : m.rows ≠ [] := fun h => by rw [h] at hr; simp at hr
  have hl : 0 < m.rows.length := List.length_pos_iff.2 hne
  rw [hr] at hu
  refine ⟨hu, h2, h3, fun x hx => ?_, by simp; omega⟩
  simp only [List.mem_append, List.mem_cons, List.not_mem_nil, or_false] at hx
  rcases hx with hx | rfl
  ·exact h4 x (List.dropLast_subset _ hx)
  ·intro y hy
   simp only [List.mem_append, List.mem_cons, List.not_mem_nil, or_false] at hy
   rcases hy with hy | rfl
   ·exact h4 r (List.mem_of_getLast? hr) y hy
   ·exact hk
theorem inv_S {m : Mx} {n : Nat} (h : m.inv n) (s : Si) (ok : s.ok) : (m.addS s).inv (n + 1) := by
 have hu := upto_S h.up s
 obtain ⟨h1, h2, h3, h4, h5⟩ := h
 refine ⟨hu, fun x hx => ?_, h3, fun x hx => ?_, by simp [Mx.addS, h5]⟩
 ·simp only [Mx.addS, List.mem_append, List.mem_cons, List.not_mem_nil, or_false] at hx
  rcases hx with hx | rfl
  ·exact h2 x hx
  ·exact ok
 ·simp only [Mx.addS, List.mem_append, List.mem_cons, List.not_mem_nil, or_false] at hx
  rcases hx with hx | rfl
  ·exact h4 x hx
  ·simp
theorem stp_cases (t : List UInt8) : (∃ u, t = 9 :: u) ∨ (okL t = (readSi t).2 ∧ ∀ m : Mx, stpL m t = m.addS (readSi t).1) := by
 by_cases h9 : t.head? = some 9
 ·cases t with
  | nil => simp at h9
  | cons x u =>
   simp only [List.head?_cons, Option.some.injEq] at h9
   exact .inl ⟨u, by rw [h9]⟩
 ·refine .inr ⟨?_, fun m => ?_⟩
  ·unfold okL
   split
   ·simp at h9
   ·rfl
  ·unfold stpL
   split
   ·simp at h9
   ·rfl
theorem inv_L {m : Mx} {n : Nat} (h : m.inv n) {t : List UInt8} (ht : okL t = true) : (stpL m t).inv (n + 1) := by
 rcases stp_cases t with ⟨u, rfl⟩ | ⟨e1, e2⟩
 ·exact inv_C h (readCe u).1 (line_read ht).2.2
 ·rw [e2 m]; exact inv_S h _ (readSi_ok t)
theorem takeAll_inv : ∀ (l : List (List UInt8)) (m m' : Mx) (n : Nat), m.inv n → takeAll m l = some m' → m'.inv (n + l.length)
 | [], m, m', n, h, e => by cases e; exact h
 | t :: l, m, m', n, h, e => by
  rw [takeAll, takeL_eq] at e
  by_cases ht : okL t = true
  ·rw [if_pos ht] at e
   have := takeAll_inv l _ m' _ (inv_L h ht) e
   rw [List.length_cons, Nat.add_comm l.length, ← Nat.add_assoc]; exact this
  ·rw [if_neg ht] at e; cases e
theorem frz_ov (n : Nat) (H : Heap) (k : Nat) (rows : List (List V)) : frzV (n + 1) H (ov k rows) = some (.sl k rows, H) := by
 cases rows <;> simp [ov, frzV]
theorem frz_rows (n : Nat) (H : Heap) : ∀ rows : List (List Ce), frzL (frzV (n + 1)) H (rows.map rowO) = some (rows.map fun r => V.sl 6 (r.map Ce.cells), H)
 | [] => rfl
 | r :: rows => by
  simp only [List.map_cons, frzL]
  rw [show rowO r = ov 6 (r.map Ce.cells) from rfl, frz_ov]
  simp only [frz_rows n H rows]
theorem chunk1 : ∀ (n : Nat) (pre vs : List V), vs.length = n → chunk 1 (pre ++ vs) pre.length n = vs.map fun v => [v]
 | 0, pre, vs, h => by
  have := List.eq_nil_of_length_eq_zero h
  subst this; rfl
 | n + 1, pre, [], h => by simp at h
 | n + 1, pre, v :: vs, h => by
  have ih := chunk1 n (pre ++ [v]) vs (by simpa using h)
  simp only [List.append_assoc, List.singleton_append, List.length_append, List.length_cons, List.length_nil, Nat.zero_add] at ih
  rw [chunk, ih]
  simp
theorem frz_gv (n : Nat) (a0 a1 : Option (List V)) (rows : List (List Ce)) (i : Nat) (B : Heap) (hB : rows = [] ∨ B[i]? = some (some (rows.map rowO))) :
  ∃ B', frzV (n + 2) (a0 :: a1 :: B) (gv i rows.length) = some (.sl 1 (rows.map rowV), a0 :: a1 :: B') := by
 cases rows with
 | nil => exact ⟨B, rfl⟩
 | cons r rs =>
  have hB' := hB.resolve_left (by simp)
  refine ⟨B.set i none, ?_⟩
  have h1 := frz_rows n (a0 :: a1 :: B.set i none) (r :: rs)
  have h2 := chunk1 (r :: rs).length [] ((r :: rs).map fun r => V.sl 6 (r.map Ce.cells)) (by simp)
  simp only [List.length_nil, List.nil_append] at h2
  show frzV (n + 1 + 1) (a0 :: a1 :: B) (.mg 1 (i + 2) 0 (rs.length + 1) (rs.length + 1)) = _
  rw [frzV]
  simp only [List.getElem?_cons_succ, hB', List.length_map, List.length_cons, Nat.zero_add, Nat.mul_one, Nat.le_refl, if_true, List.set_cons_succ, List.drop_zero]
  rw [List.take_of_length_le (by simp), h1]
  simp only [List.length_cons] at h2
  dsimp only
  rw [h2, List.map_map]
  rfl
theorem frz_RV (m : Mx) (i : Nat) (a0 a1 : Option (List V)) (B : Heap) (hB : RB m i B) : ∃ B', frzL (frzV deepest) (a0 :: a1 :: B) (RV m i) = some (m.cells, a0 :: a1 :: B') := by
 obtain ⟨B', e⟩ := frz_gv 99998 a0 a1 m.rows i B hB
 refine ⟨B', ?_⟩
 have hd : deepest = 99998 + 1 + 1 := rfl
 rw [hd]
 simp only [RV, frzL]
 rw [frzV.eq_def]
 simp only [V.plain, if_true, frz_ov]
 rw [e]
 rfl
theorem nsplit_eq (t : List UInt8) (hl : t.length ≤ 100000000) (H : Heap) : eval tbl noExt n_strings_Split [.str t, .str [10]] H = some (.sl 1 ((splitOn 10 t).map tx), H) := by
 rw [eval_X rfl (show noExt n_strings_Split = some xSplit from rfl)]
 simp only [xSplit]
 rw [if_pos (by omega)]
theorem Mx.under (m : Mx) (hok : ∀ s ∈ m.sites, s.ok) (n : Nat) : V.underAll n m.cells = true := rfl
theorem Read_gen (s : List UInt8) (hs : s.length ≤ 100000000) (hL : ∀ t ∈ splitOn 10 s, t.length ≤ 4000) (hl : (splitOn 10 s).length ≤ 90000)
  (hm : ∀ m, takeAll (startMx (splitOn 10 s)) (midOf (splitOn 10 s)) = some m → m.few ∧ (∀ s ∈ m.sites, s.ok) ∧ (∀ c ∈ m.base, 0 ≤ c.kept) ∧ ∀ r ∈ m.rows, ∀ c ∈ r, 0 ≤ c.kept) :
  ∃ H', eval tbl noExt (wNo n_report_Read) [.str s] [] = some (.tup [.agg (readMx s).1.cells, .bool (readMx s).2], H') := by
 have hsp := nsplit_eq s hs []
 have hne := spl_ne 10 s
 unfold readMx
 unfold startMx at hm ⊢
 unfold midOf at hm ⊢
 generalize splitOn 10 s = L at *
 by_cases h3 : L.length < 3
 ·have hn : ((L.length : Int) - 2) < 1 := by omega
  have hw : IntKind.i64.wrap ((L.length : Int) - 2) = (L.length : Int) - 2 := w64 (by omega) (by omega)
  rw [if_pos h3]
  refine ⟨[some [.bool false, .nils 6, .nils 11, .nils 1]], ?_⟩
  rw [eval_W tw_report_Read rfl]
  simp [c_report_Read_w, hsp, hw, hn, zeroMx, Mx.cells]
 ·rw [if_neg h3]
  cases L with
  | nil => exact absurd rfl hne
  | cons x L =>
   simp only [List.length_cons] at h3 hl
   have hn : ¬ ((L.length : Int) + 1 - 2 < 1) := by omega
   have hw : IntKind.i64.wrap ((L.length : Int) + 1 - 2) = (L.length : Int) + 1 - 2 := w64 (by omega) (by omega)
   have hb : ({ zeroMx with bad := decide ((x :: L).getD 0 [] = headW true) } : Mx) = ⟨decide (x = [98, 97, 100]), [], [], []⟩ := rfl
   have hmid : ((x :: L).drop 1).take ((x :: L).length - 3) = L.take (L.length - 2) := rfl
   rw [hb, hmid] at hm ⊢
   obtain ⟨m', i', B', e1, e2, e3⟩ := all_eq (L.take (L.length - 2)) (fun t ht => hL t (List.mem_cons_of_mem _ (List.mem_of_mem_take ht))) (by simp; omega) (some [.bool false, .own 6 [], .own 11 [], .nils 1]) ⟨decide (x = [98, 97, 100]), [], [], []⟩ 0 [] (.inl rfl) ⟨by simp, by simp, by simp, by simp⟩
   have hr0 : RV ⟨decide (x = [98, 97, 100]), [], [], []⟩ 0 = [.bool (decide (x = [98, 97, 100])), .nils 6, .nils 11, .nils 1] := rfl
   rw [hr0] at e1
   generalize hX : takeAll (⟨decide (x = [98, 97, 100]), [], [], []⟩ : Mx) (L.take (L.length - 2)) = X at *
   have hk1 : ((L.length : Int) + 1 - 2).toNat = L.length - 2 + 1 := by omega
   have hk2 : (2 : Int) ≤ (L.length : Int) + 1 := by omega
   have hk4 : ((L.length : Int) + 1 - 2) ≤ (L.length : Int) + 1 := by omega
   have hk3 : (1 : Int) ≤ ((L.length - 2 : Nat) : Int) + 1 := by omega
   simp only [List.map_cons, tx] at hsp
   rw [List.map_take] at e1
   cases X with
   | none =>
    refine ⟨some [.bool false, .nils 6, .nils 11, .nils 1] :: some (RV m' i') :: B', ?_⟩
    rw [eval_W tw_report_Read rfl]
    simp only [Option.isSome_none] at e1
    generalize RV m' i' = R at *
    simp [c_report_Read_w, hsp, hw, hn, hk1, hk2, hk3, hk4, tx, e1, zeroMx, Mx.cells]
   | some m =>
    have hme := e3 m rfl
    subst hme
    obtain ⟨f1, f2, f3, f4⟩ := hm m' rfl
    obtain ⟨B2, hfz⟩ := frz_RV m' i' (some [.bool false, .own 6 [], .own 11 [], .nils 1]) (some (RV m' i')) B' e2
    have hP := Print_eq m' f1 f2 f3 f4
    have hR4 : (RV m' i').length = 4 := rfl
    have hRt : (RV m' i').take 4 = RV m' i' := rfl
    have hcell : m'.cells = [.bool m'.bad, .sl 6 (m'.base.map Ce.cells), .sl 11 (m'.sites.map Si.cells), .sl 1 (m'.rows.map rowV)] := rfl
    have c1 : m'.cells.map V.strip = m'.cells := rfl
    have c2 : m'.cells.take 4 = m'.cells := rfl
    have c3 : ∀ n, V.underAll n m'.cells = true := fun _ => rfl
    have c4 : m'.cells.length = 4 := rfl
    have c5 : m'.cells.all V.one = true := rfl
    have c6 : ∀ a b c d, setMany [a, b, c, d] 0 m'.cells = m'.cells := fun _ _ _ _ => rfl
    have hset : setMany (RV m' i') 0 m'.cells = m'.cells := rfl
    have hzc : zeroMx.cells = [.bool false, .sl 6 [], .sl 11 [], .sl 1 []] := rfl
    simp only [Option.isSome_some] at e1
    dsimp only
    have hpr : m'.print = if m'.right = true then (unlines m'.lines, true) else ([], false) := rfl
    by_cases hg : m'.right = true ∧ unlines m'.lines = s
    ·rw [if_pos hg]
     rw [hpr, if_pos hg.1, hg.2] at hP
     clear hpr hg
     refine ⟨some m'.cells :: some m'.cells :: B2, ?_⟩
     rw [eval_W tw_report_Read rfl]
     generalize RV m' i' = R at *
     generalize m'.cells = mc at *
     clear hcell
     simp [c_report_Read_w, hsp, hw, hn, hk1, hk2, hk3, hk4, tx, e1, hfz, hR4, hRt, hset, c1, c2, c3, c4, c5, c6, hP]
    ·rw [if_neg hg]
     refine ⟨some [.bool false, .nils 6, .nils 11, .nils 1] :: some m'.cells :: B2, ?_⟩
     rw [hzc]
     rw [eval_W tw_report_Read rfl]
     have hno : m'.print.2 = false ∨ ¬ m'.print.1 = s := by
      rw [hpr]
      by_cases hr : m'.right = true
      ·rw [if_pos hr]
       exact .inr fun h => hg ⟨hr, h⟩
      ·rw [if_neg hr]
       exact .inl rfl
     generalize RV m' i' = R at *
     generalize m'.cells = mc at *
     generalize m'.print = pr at *
     obtain ⟨p1, p2⟩ := pr
     clear hcell hpr
     simp only at hno hP
     cases p2 with
     | false => simp [c_report_Read_w, hsp, hw, hn, hk1, hk2, hk3, hk4, tx, e1, hfz, hR4, hRt, hset, c1, c2, c3, c4, c5, c6, hP]
     | true =>
      have hne' : ¬ p1 = s := hno.resolve_left (by simp)
      simp [c_report_Read_w, hsp, hw, hn, hk1, hk2, hk3, hk4, tx, e1, hfz, hR4, hRt, hset, c1, c2, c3, c4, c5, c6, hP, hne']
def lens (l : List (List UInt8)) : Nat := (l.map fun w => w.length + 1).sum
theorem lens_app (a b : List (List UInt8)) : lens (a ++ b) = lens a + lens b := by simp [lens, List.sum_append]
theorem lens_take (n : Nat) (l : List (List UInt8)) : lens (l.take n) ≤ lens l := by
 have h := lens_app (l.take n) (l.drop n)
 rw [List.take_append_drop] at h; omega
theorem lens_drop (n : Nat) (l : List (List UInt8)) : lens (l.drop n) ≤ lens l := by
 have h := lens_app (l.take n) (l.drop n)
 rw [List.take_append_drop] at h; omega
theorem lens_cons (x : List UInt8) (l : List (List UInt8)) : lens (x :: l) = x.length + 1 + lens l := by simp [lens]
theorem lens_mem {t : List UInt8} : ∀ {l : List (List UInt8)}, t ∈ l → t.length + 1 ≤ lens l
 | x :: l, h => by
  rw [lens_cons]
  rcases List.mem_cons.1 h with rfl | h
  ·omega
  ·have := lens_mem h; omega
theorem lens_len : ∀ l : List (List UInt8), l.length ≤ lens l
 | [] => by simp [lens]
 | x :: l => by rw [lens_cons]; have := lens_len l; simp only [List.length_cons]; omega
theorem join_lens (c : UInt8) : ∀ l : List (List UInt8), l ≠ [] → (Go.Lib.join l [c]).length + 1 = lens l
 | [], h => absurd rfl h
 | [w], _ => by rw [Go.Lib.join_one, lens_cons]; simp [lens]
 | x :: y :: r, _ => by
  have ih := join_lens c (y :: r) (by simp)
  rw [spl_jn2, lens_cons, ← ih]
  simp only [List.length_append, List.length_cons, List.length_nil]; omega
theorem split_lens (c : UInt8) (s : List UInt8) : lens (splitOn c s) = s.length + 1 := by
 rw [← join_lens c _ (spl_ne c s), join_spl]
theorem mid_lens (L : List (List UInt8)) : lens (midOf L) ≤ lens L := Nat.le_trans (lens_take _ _) (lens_drop _ _)
theorem site_six {t : List UInt8} (h : (readSi t).2 = true) : 6 ≤ t.length := by
 unfold readSi at h
 dsimp only at h
 split at h
 ·cases h
 ·rename_i hc
  generalize hL : splitOn 32 t = L at *
  cases L with
  | nil => simp at hc
  | cons w0 r =>
   simp only [List.getElem?_cons_zero, Option.getD_some] at h
   generalize hX : readNums (startSi (kindTo w0 9) (((w0 :: r).length : Int) - 2)) 0 ((w0 :: r).drop 1) = X at h
   cases X with
   | none => cases h
   | some s =>
    unfold afterNums at h
    dsimp only at h
    split at h
    ·rename_i hn
     have hname := name_read hL.symm (by omega) (by omega) rfl hX hn
     have := (name_form hn).2.2
     rw [hname] at this; exact this
    ·cases h
theorem takeAll_sites : ∀ (l : List (List UInt8)) (m m' : Mx), takeAll m l = some m' → 7 * m'.sites.length ≤ 7 * m.sites.length + lens l
 | [], m, m', e => by cases e; simp [lens]
 | t :: l, m, m', e => by
  rw [takeAll, takeL_eq] at e
  by_cases ht : okL t = true
  ·rw [if_pos ht] at e
   have ih := takeAll_sites l _ m' e
   rw [lens_cons]
   rcases stp_cases t with ⟨u, rfl⟩ | ⟨e1, e2⟩
   ·have : (stpL m (9 :: u)).sites = m.sites := by
     show (m.addC _).sites = _
     unfold Mx.addC
     split <;> rfl
    rw [this] at ih; omega
   ·rw [e2 m] at ih
    rw [e1] at ht
    have := site_six ht
    simp only [Mx.addS, List.length_append, List.length_cons, List.length_nil] at ih
    omega
  ·rw [if_neg ht] at e; cases e
theorem start_inv (L : List (List UInt8)) : (startMx L).inv 0 := ⟨⟨Nat.le_refl _, Nat.le_refl _, Nat.le_refl _, fun r hr => by simp [startMx, zeroMx] at hr⟩, fun s hs => by simp [startMx, zeroMx] at hs, fun s hs => by simp [startMx, zeroMx] at hs, fun s hs => by simp [startMx, zeroMx] at hs, rfl⟩
theorem small_few {s : List UInt8} (hs : s.length ≤ 3000) {m : Mx} (h : takeAll (startMx (splitOn 10 s)) (midOf (splitOn 10 s)) = some m) : m.few ∧ (∀ s ∈ m.sites, s.ok) ∧ (∀ c ∈ m.base, 0 ≤ c.kept) ∧ ∀ r ∈ m.rows, ∀ c ∈ r, 0 ≤ c.kept := by
 have h1 := takeAll_inv _ _ _ _ (start_inv _) h
 have h2 := takeAll_sites _ _ _ h
 have h3 := split_lens 10 s
 have h4 := mid_lens (splitOn 10 s)
 have h5 := lens_len (midOf (splitOn 10 s))
 have h6 : (startMx (splitOn 10 s)).sites.length = 0 := rfl
 obtain ⟨⟨u1, u2, u3, u4⟩, i2, i3, i4, i5⟩ := h1
 exact ⟨⟨by omega, by omega, by omega, fun r hr => by have := u4 r hr; omega⟩, i2, i3, i4⟩
theorem RRead_small (s : List UInt8) (hs : s.length ≤ 3000) : ∃ H', eval tbl noExt (wNo n_report_Read) [.str s] [] = some (.tup [.agg (readMx s).1.cells, .bool (readMx s).2], H') := by
 have h3 := split_lens 10 s
 have h5 := lens_len (splitOn 10 s)
 exact Read_gen s (by omega) (fun t ht => by have := lens_mem ht; omega) (by omega) (fun m hm => small_few hs hm)
theorem read_small_few {s : List UInt8} (hs : s.length ≤ 3000) : (readMx s).1.few ∧ (∀ x ∈ (readMx s).1.sites, x.ok) ∧ (∀ c ∈ (readMx s).1.base, 0 ≤ c.kept) ∧ ∀ r ∈ (readMx s).1.rows, ∀ c ∈ r, 0 ≤ c.kept := by
 have hz : zeroMx.few ∧ (∀ x ∈ zeroMx.sites, x.ok) ∧ (∀ c ∈ zeroMx.base, 0 ≤ c.kept) ∧ ∀ r ∈ zeroMx.rows, ∀ c ∈ r, 0 ≤ c.kept :=
  ⟨⟨by simp [zeroMx], by simp [zeroMx], by simp [zeroMx], fun r hr => by simp [zeroMx] at hr⟩, fun s hs => by simp [zeroMx] at hs, fun s hs => by simp [zeroMx] at hs, fun s hs => by simp [zeroMx] at hs⟩
 unfold readMx
 split
 ·exact hz
 ·split
  ·exact hz
  ·rename_i m hm
   split
   ·exact small_few hs hm
   ·exact hz
theorem cellLines_len (l : List Ce) : ∀ w ∈ cellLines l, w.length ≤ 101 := by
 intro w hw
 simp only [cellLines, List.mem_map] at hw
 obtain ⟨c, _, rfl⟩ := hw
 have := line_len (c := c)
 simp only [List.length_cons]; omega
theorem rowLines_len : ∀ (ss : List Si) (rs : List (List Ce)), (∀ s ∈ ss, s.name.2 = true) → (∀ r ∈ rs, r.length ≤ 16) → (∀ w ∈ rowLines ss rs, w.length ≤ 1000) ∧ (rowLines ss rs).length ≤ 17 * ss.length
 | [], _, _, _ => by simp [rowLines]
 | _ :: _, [], _, _ => by simp [rowLines]
 | s :: ss, r :: rs, hs, hr => by
  obtain ⟨h1, h2⟩ := rowLines_len ss rs (fun x hx => hs x (by simp [hx])) (fun x hx => hr x (by simp [hx]))
  have h3 := name_len (hs s (by simp))
  have h4 := cellLines_len r
  have h5 := hr r (by simp)
  refine ⟨fun w hw => ?_, ?_⟩
  ·simp only [rowLines, List.mem_cons, List.mem_append] at hw
   rcases hw with rfl | hw | hw
   ·exact h3
   ·have := h4 w hw; omega
   ·exact h1 w hw
  ·have : (cellLines r).length = r.length := by simp [cellLines]
   simp only [rowLines, List.length_cons, List.length_append]; omega
theorem total_len (m : Mx) : m.total.length ≤ 1000 := by
 have t1 := text_length (sumN killN m.rows : Nat)
 have t2 := text_length (sumN bothN m.rows : Nat)
 have w1 : scoreW.length = 5 := rfl
 have w2 : ofW.length = 2 := rfl
 unfold Mx.total
 simp only [List.length_append, List.length_cons]
 omega
theorem lines_len {m : Mx} (hr : m.right = true) (g : m.good3) (hf : m.few) : (∀ w ∈ m.lines, w.length ≤ 1000) ∧ m.lines.length ≤ 9000 := by
 obtain ⟨r1, r2⟩ := Mx.right16 hr
 obtain ⟨h1, h2⟩ := rowLines_len m.sites m.rows (fun s hs => (g.sites s hs).2) r2
 have h3 := cellLines_len m.base
 have h4 := total_len m
 have h5 := hf.sites
 refine ⟨fun w hw => ?_, ?_⟩
 ·simp only [Mx.lines, Mx.mids, List.mem_cons, List.mem_append, List.not_mem_nil, or_false] at hw
  rcases hw with rfl | (hw | hw) | rfl
  ·cases m.bad <;> decide
  ·have := h3 w hw; omega
  ·exact h1 w hw
  ·exact h4
 ·have : (cellLines m.base).length = m.base.length := by simp [cellLines]
  simp only [Mx.lines, Mx.mids, List.length_cons, List.length_append, List.length_nil]; omega
theorem unlines_lens (l : List (List UInt8)) : (unlines l).length = lens l := by
 induction l with
 | nil => rfl
 | cons x l ih => rw [lens_cons, ← ih]; simp [unlines]; omega
theorem lens_le (n : Nat) : ∀ l : List (List UInt8), (∀ w ∈ l, w.length ≤ n) → lens l ≤ (n + 1) * l.length
 | [], _ => by simp [lens]
 | x :: l, h => by
  have := lens_le n l fun w hw => h w (by simp [hw])
  have h1 := h x (by simp)
  rw [lens_cons, List.length_cons, Nat.mul_add]; omega
theorem Ce.eq_self (c : Ce) : eqCells [.int .i64, .int .i64, .int .u64, .int .i64, .int .i64, .int .i64] c.cells c.cells = some true := by
 simp [eqCells, Ce.cells]
theorem Si.eq_self' (s : Si) (ok : s.ok) : eqCells [.int .i64, .int .i64, .int .i64, .int .i64, .int .i64, .int .i64, .int .i64, .int .i64, .int .i64, .int .i64, .int .i64] s.cells s.cells = some true := by
 rw [Si.eqc ok ok]; simp
theorem same30_loop (l : List Ce) (hl : l.length ≤ 100000) (H : Heap) (k : List Item) (X : Option (V × Heap)) (hexit : ∀ φ', M (eval tbl noExt) k φ' H = X) :
  ∀ (n j : Nat) (φ : Fr), j + n = l.length → Fr.get φ 0 = .sl 6 (l.map Ce.cells) → Fr.get φ 1 = .sl 6 (l.map Ce.cells) → Fr.get φ 5 = iv j → M (eval tbl noExt) (.code l_flotsamref30_Same_0 :: .blk 0 :: k) φ H = X := by
 intro n
 induction n with
 | zero =>
  intro j φ hj h0 h1 h5
  have hlt : ¬ ((j : Int) < l.length) := by omega
  rw [l_flotsamref30_Same_0, M_loop, ← l_flotsamref30_Same_0]
  simp [b_flotsamref30_Same_0, h0, h1, h5, hlt]
  exact hexit _
 | succ n ih =>
  intro j φ hj h0 h1 h5
  have hj1 : j < l.length := by omega
  have hlt : (j : Int) < l.length := by omega
  have hw : IntKind.i64.wrap ((j : Int) + 1) = ((j + 1 : Nat) : Int) := by rw [w64 (by omega) (by omega)]; rfl
  have hS := Ce.eq_self l[j]
  obtain ⟨q1, q3, q5, qu, qo, qp, qs⟩ := Ce.facts l[j]
  rw [l_flotsamref30_Same_0, M_loop, ← l_flotsamref30_Same_0]
  simp [b_flotsamref30_Same_0, h0, h1, h5, hlt, hj1, hw, hS, q1, q3, q5]
  refine ih (j + 1) _ (by omega) ?_ ?_ ?_
  all_goals simp [h0, h1]
theorem same30_eq (l : List Ce) (hl : l.length ≤ 100000) (H : Heap) : eval tbl noExt n_flotsamref30_Same [.sl 6 (l.map Ce.cells), .sl 6 (l.map Ce.cells)] H = some (.bool true, H) := by
 rw [eval_M rfl rfl t_flotsamref30_Same rfl]
 simp [c_flotsamref30_Same]
 refine same30_loop l hl H _ _ ?_ l.length 0 _ (by omega) ?_ ?_ ?_
 ·intro φ'
  simp [r_flotsamref30_Same_0]
 all_goals simp
theorem same31_sites (m : Mx) (hok : ∀ s ∈ m.sites, s.ok) (hl : m.sites.length ≤ 100000) (H : Heap) (k : List Item) (X : Option (V × Heap)) (hH2 : ∀ a, H[0]? = some (some a) → True)
  (h00 : H[0]? = some (some m.cells)) (h11 : H[1]? = some (some m.cells))
  (hexit : ∀ φ', Fr.get φ' 2 = .ptr 0 0 → Fr.get φ' 3 = .ptr 1 0 → M (eval tbl noExt) k φ' H = X) :
  ∀ (n j : Nat) (φ : Fr), j + n = m.sites.length → Fr.get φ 2 = .ptr 0 0 → Fr.get φ 3 = .ptr 1 0 → Fr.get φ 5 = iv j → M (eval tbl noExt) (.code l_flotsamref31_Same_0 :: .blk 0 :: k) φ H = X := by
 have hc2 : m.cells[2]? = some (.sl 11 (m.sites.map Si.cells)) := rfl
 intro n
 induction n with
 | zero =>
  intro j φ hj h2 h3 h5
  have hlt : ¬ ((j : Int) < m.sites.length) := by omega
  rw [l_flotsamref31_Same_0, M_loop, ← l_flotsamref31_Same_0]
  simp [b_flotsamref31_Same_0, h00, h11, hc2, h2, h3, h5, hlt]
  refine hexit _ ?_ ?_ <;> simp [h2, h3]
 | succ n ih =>
  intro j φ hj h2 h3 h5
  have hj1 : j < m.sites.length := by omega
  have hlt : (j : Int) < m.sites.length := by omega
  have hw : IntKind.i64.wrap ((j : Int) + 1) = ((j + 1 : Nat) : Int) := by rw [w64 (by omega) (by omega)]; rfl
  have okj := hok m.sites[j] (List.getElem_mem hj1)
  have hS := Si.eq_self' _ okj
  have q1 := Si.len okj
  have q3 := Si.strip (s := m.sites[j])
  have q5 := Si.take okj
  rw [l_flotsamref31_Same_0, M_loop, ← l_flotsamref31_Same_0]
  simp [b_flotsamref31_Same_0, h00, h11, hc2, h2, h3, h5, hlt, hj1, hw, hS, q1, q3, q5]
  refine ih (j + 1) _ (by omega) ?_ ?_ ?_
  all_goals simp [h2, h3]
theorem same31_rows (m : Mx) (hl : m.rows.length ≤ 100000) (hr : ∀ r ∈ m.rows, r.length ≤ 100000) (H : Heap) (k : List Item) (X : Option (V × Heap))
  (h00 : H[0]? = some (some m.cells)) (h11 : H[1]? = some (some m.cells))
  (hexit : ∀ φ', M (eval tbl noExt) k φ' H = X) :
  ∀ (n j : Nat) (φ : Fr), j + n = m.rows.length → Fr.get φ 2 = .ptr 0 0 → Fr.get φ 3 = .ptr 1 0 → Fr.get φ 6 = iv j → M (eval tbl noExt) (.code l_flotsamref31_Same_1 :: .blk 2 :: k) φ H = X := by
 have hc3 : m.cells[3]? = some (.sl 1 (m.rows.map rowV)) := rfl
 intro n
 induction n with
 | zero =>
  intro j φ hj h2 h3 h6
  have hlt : ¬ ((j : Int) < m.rows.length) := by omega
  rw [l_flotsamref31_Same_1, M_loop, ← l_flotsamref31_Same_1]
  simp [b_flotsamref31_Same_1, h00, h11, hc3, h2, h3, h6, hlt]
  exact hexit _
 | succ n ih =>
  intro j φ hj h2 h3 h6
  have hj1 : j < m.rows.length := by omega
  have hlt : (j : Int) < m.rows.length := by omega
  have hw : IntKind.i64.wrap ((j : Int) + 1) = ((j + 1 : Nat) : Int) := by rw [w64 (by omega) (by omega)]; rfl
  have hS := same30_eq m.rows[j] (hr _ (List.getElem_mem hj1)) []
  have hrv : ∀ r, rowV r = [.sl 6 (r.map Ce.cells)] := fun _ => rfl
  rw [l_flotsamref31_Same_1, M_loop, ← l_flotsamref31_Same_1]
  simp [b_flotsamref31_Same_1, h00, h11, hc3, h2, h3, h6, hlt, hj1, hw, hrv, hS]
  refine ih (j + 1) _ (by omega) ?_ ?_ ?_
  all_goals simp [h2, h3]
theorem same31_eq (m : Mx) (hok : ∀ s ∈ m.sites, s.ok) (hf : m.few) : eval tbl noExt n_flotsamref31_Same [.agg m.cells, .agg m.cells] [] = some (.bool true, []) := by
 have hb := same30_eq m.base (by have := hf.base; omega) []
 have hsl := hf.sites
 have hrl := hf.rows
 have h1 := fun k X he φ a b c => same31_sites m hok (by omega) [some m.cells, some m.cells] k X (fun _ _ => trivial) rfl rfl he m.sites.length 0 φ (by omega) a b c
 have h2 := fun k X he φ a b c => same31_rows m (by omega) (fun r hr => by have := hf.row r hr; omega) [some m.cells, some m.cells] k X rfl rfl he m.rows.length 0 φ (by omega) a b c
 have hc0 : m.cells[0]? = some (.bool m.bad) := rfl
 have hc1 : m.cells[1]? = some (.sl 6 (m.base.map Ce.cells)) := rfl
 have hc2 : m.cells[2]? = some (.sl 11 (m.sites.map Si.cells)) := rfl
 have hc3 : m.cells[3]? = some (.sl 1 (m.rows.map rowV)) := rfl
 rw [eval_M rfl rfl t_flotsamref31_Same rfl]
 generalize m.cells = mc at *
 simp [c_flotsamref31_Same, hc0, hc1, hc2, hc3, hb]
 refine h1 _ _ ?_ _ ?_ ?_ ?_
 ·intro φ' p2 p3
  simp [r_flotsamref31_Same_1]
  refine h2 _ _ ?_ _ ?_ ?_ ?_
  ·intro φ2
   simp [r_flotsamref31_Same_0]
  all_goals simp [p2, p3]
 all_goals simp
set_option maxHeartbeats 400000
variable (H : Heap)
theorem refRead_loop (call : CallF) (R : Option (V × Heap)) (s : List UInt8) (hs : s.length < 100000) (k : List Item) (X : Option Int)
  (hsome : ∀ v φ', X = some v → Fr.get φ' 4 = .int .i64 v → M call k φ' H = R) (hnone : ∀ φ', X = none → Fr.get φ' 2 = .int .i64 0 → Fr.get φ' 3 = .bool false → retK k φ' H = R) :
  ∀ (j i : Nat) (n : Int) (φ : Fr), i + j = s.length → val n (s.drop i) = X → Fr.get φ 0 = .str s → Fr.get φ 4 = .int .i64 n → Fr.get φ 5 = .int .i64 i →
  M call (.code l_r01_Read_0 :: .blk 0 :: k) φ H = R := by
 intro j
 induction j with
 | zero =>
  intro i n φ hj hv h0 h4 h5
  have hi : ¬ ((i : Int) < s.length) := by omega
  rw [List.drop_eq_nil_of_le (by omega)] at hv
  rw [l_r01_Read_0, M_loop]
  simp [b_r01_Read_0, h0, h4, h5, hi]
  exact hsome n _ hv.symm (by simp)
 | succ j ih =>
  intro i n φ hj hv h0 h4 h5
  have hi : (i : Int) < s.length := by omega
  have hi' : i < s.length := by omega
  rw [List.drop_eq_getElem_cons hi'] at hv
  have hb := byte_lt s[i]
  have hg : s[i]? = some s[i] := List.getElem?_eq_getElem hi'
  have h3 : IntKind.i64.wrap ((i : Int) + 1) = (i + 1 : Nat) := by rw [w64] <;> omega
  rw [l_r01_Read_0, M_loop, ← l_r01_Read_0]
  unfold val at hv
  by_cases hc : s[i].toNat < 48
  ·have hc' : (s[i].toNat : Int) < 48 := by omega
   rw [if_pos (by omega)] at hv
   simp [b_r01_Read_0, h0, h4, h5, hi, hi', hg, h3, hc']
   refine hnone _ hv.symm ?_ ?_ <;> simp
  ·have hc1' : ¬ (s[i].toNat : Int) < 48 := by omega
   by_cases hc2 : 57 < s[i].toNat
   ·have hc2' : 57 < (s[i].toNat : Int) := by omega
    rw [if_pos (by omega)] at hv
    simp [b_r01_Read_0, h0, h4, h5, hi, hi', hg, h3, hc1', hc2']
    refine hnone _ hv.symm ?_ ?_ <;> simp
   ·have hc2' : ¬ 57 < (s[i].toNat : Int) := by omega
    rw [if_neg (by omega)] at hv
    have h1 : IntKind.i64.wrap (IntKind.u8.wrap ((s[i].toNat : Int) - 48)) = s[i].toNat - 48 := by
     have : IntKind.u8.wrap ((s[i].toNat : Int) - 48) = s[i].toNat - 48 := by rw [IntKind.wrap_u8]; omega
     rw [this, w64] <;> omega
    simp [b_r01_Read_0, h0, h4, h5, hi, hi', hg, h1, h3, hc1', hc2']
    refine ih (i + 1) _ _ (by omega) hv ?_ ?_ ?_ <;> simp [Int.mul_comm]
theorem refRead_eq (s : List UInt8) : eval tbl noExt n_r01_Read [.str s] H = some (.tup [.int .i64 (readR s).1, .bool (readR s).2], H) := by
 rw [eval_M rfl rfl t_r01_Read rfl]
 unfold readR
 by_cases h0 : s = []
 ·simp [c_r01_Read, h0]
 ·have hp : 0 < s.length := by
   cases s with
   | nil => exact (h0 rfl).elim
   | cons c cs => simp
  have hp' : ¬ (s.length : Int) < 1 := by omega
  by_cases h1 : 13 < s.length
  ·have h1' : (13 : Int) < s.length := by omega
   simp [c_r01_Read, h0, h1, h1', hp']
  ·have h1' : ¬ (13 : Int) < s.length := by omega
   have hg : s[0]? = some s[0] := List.getElem?_eq_getElem hp
   have hl : ((s[0].toNat : Int) = 48) ↔ s[0] = 48 := by
    constructor
    ·intro h
     apply UInt8.toNat_inj.1
     have : s[0].toNat = 48 := by omega
     rw [this]; rfl
    ·intro h; rw [h]; rfl
   have last : ∀ φ k, k = [Item.code r_r01_Read_0, Item.fin [ARes.t 2, ARes.t 3] (List.length H)] → Fr.get φ 0 = .str s → Fr.get φ 4 = .int .i64 0 → Fr.get φ 5 = .int .i64 0 →
    M (eval tbl noExt) (.code l_r01_Read_0 :: .blk 0 :: k) φ H = some (.tup [.int .i64 (match val 0 s with
     | none => (0, false)
     | some v => if 1000000000000 < v then (0, false) else (v, true)).1, .bool (match val 0 s with
     | none => (0, false)
     | some v => if 1000000000000 < v then (0, false) else (v, true)).2], H) := by
    intro φ k hk h0 h4 h5
    refine refRead_loop H _ _ s (by omega) _ (val 0 s) ?_ ?_ s.length 0 0 _ (by omega) rfl h0 h4 h5
    ·intro v φ' hv h4
     rw [hk, hv]
     by_cases hm : 1000000000000 < v <;> simp [r_r01_Read_0, h4, hm]
    ·intro φ' hv h2 h3
     rw [hk, hv]
     simp [h2, h3]
   by_cases h4 : 1 < s.length
   ·have h4' : (1 : Int) < s.length := by omega
    have h5 : ¬ s = [48] := by rintro rfl; simp at h4
    by_cases h2 : s[0] = 48
    ·simp [c_r01_Read, h0, h1, h1', hp', h2, h4', h5, hp, hg, hl]
    ·simp [c_r01_Read, h0, h1, h1', hp', h2, h4', h5, hp, hg, hl]
     refine last _ _ rfl ?_ ?_ ?_ <;> simp
   ·have h4' : ¬ (1 : Int) < s.length := by omega
    have h5 : s[0] = 48 → s = [48] := by
     intro h
     cases s with
     | nil => simp at hp
     | cons c cs =>
      have : cs = [] := List.eq_nil_of_length_eq_zero (by simp only [List.length_cons] at h4; omega)
      subst this
      simp at h; rw [h]
    by_cases h2 : s[0] = 48
    ·have h6 := h5 h2
     simp [c_r01_Read, h0, h1, h1', hp', h4', hg, hl, h6] at last ⊢
     refine last _ ?_ ?_ ?_ <;> simp
    ·simp [c_r01_Read, h0, h1, h1', hp', h2, h4', hg, hl]
     refine last _ _ rfl ?_ ?_ ?_ <;> simp
set_option maxHeartbeats 1000000
theorem cut_loop (s : List UInt8) (hl : s.length ≤ 4000) (H : Heap) (v2 : V) (call : CallF) (Q : Option (V × Heap) → Prop) (k : List Item) (D : List (List UInt8))
  (hexit : ∀ φ', Fr.get φ' 0 = .str s → Fr.get φ' 2 = v2 → Fr.get φ' 4 = .own 1 (D.map tx) → Q (M call k φ' H)) :
  ∀ (j i f : Nat) (φ : Fr) (done : List (List UInt8)), i + j = s.length + 1 → f ≤ i → (32 : UInt8) ∉ (s.drop f).take (i - f) → done.length ≤ i → (i ≤ s.length → done ++ splitOn 32 (s.drop f) = D) → (s.length < i → done = D) →
   Fr.get φ 0 = .str s → Fr.get φ 2 = v2 → Fr.get φ 4 = .own 1 (done.map tx) → Fr.get φ 5 = iv f → Fr.get φ 6 = iv i →
   Q (M call (.code l_r25_Read_0 :: .blk 0 :: k) φ H) := by
 intro j
 induction j with
 | zero =>
  intro i f φ done hi hf hn hdl hD hE h0 h2 h4 h5 h6
  have hlt : ¬ (i : Int) ≤ s.length := by omega
  rw [l_r25_Read_0, M_loop]
  simp [b_r25_Read_0, h0, h2, h4, h5, h6, hlt]
  exact hexit _ (by simp [h0]) (by simp [h2]) (by rw [← hE (by omega)]; simp [h4])
 | succ j ih =>
  intro i f φ done hi hf hn hdl hD hE h0 h2 h4 h5 h6
  have e1 : (i : Int) ≤ s.length := by omega
  have e2 : IntKind.i64.wrap ((i : Int) + 1) = ((i + 1 : Nat) : Int) := by rw [w64] <;> omega
  have e3 : (f : Int) ≤ i := by omega
  have hc : 2 * ((done.map tx).length + 1) * 16 ≤ 281474976710656 := by simp; omega
  have hc' : 2 * (done.length + 1) * 16 ≤ 281474976710656 := by omega
  obtain ⟨rows, hrows⟩ : ∃ rows, rows = done.map tx := ⟨_, rfl⟩
  rw [← hrows] at hc h4
  rw [l_r25_Read_0, M_loop, ← l_r25_Read_0]
  by_cases a1 : i = s.length
  ·have hlast : splitOn 32 (s.drop f) = [(s.take s.length).drop f] := spl_last (by
    rw [List.take_of_length_le (by simp; omega)] at hn; exact hn)
   have hnext : rows ++ [[V.str ((s.take i).drop f)]] = D.map tx := by
    rw [← hD (by omega), hlast, hrows, a1]
    simp [tx]
   have e4 : (i : Int) = s.length := by omega
   have hDl : D.length ≤ i + 1 := by
    rw [← hD (by omega), hlast]; simp; omega
   rw [a1] at e3 h6 e2 hnext
   simp [b_r25_Read_0, h0, h2, h4, h5, h6, e1, e2, e3, e4, hc]
   rw [List.take_length] at hnext
   refine ih (i + 1) (i + 1) _ D (by omega) (Nat.le_refl _) (by simp) hDl (fun h => by omega) (fun _ => rfl) ?_ ?_ ?_ ?_ ?_ <;> simp [h0, h2, hnext, a1]
  ·have hlt : i < s.length := by omega
   have e4 : ¬ (i : Int) = s.length := by omega
   have e5 : (i : Int) < s.length := by omega
   have hg : s[i]? = some s[i] := List.getElem?_eq_getElem hlt
   obtain ⟨c, hcc⟩ : ∃ c, c = s[i] := ⟨_, rfl⟩
   have hgc : ∀ h : i < s.length, s[i] = c := fun h => hcc.symm
   by_cases a2 : c = 32
   ·have hst : splitOn 32 (s.drop f) = (s.take i).drop f :: splitOn 32 (s.drop (i + 1)) := spl_step hf hlt (by rw [← hcc, a2]) hn
    have hnext : rows ++ [[V.str ((s.take i).drop f)]] = (done ++ [(s.take i).drop f]).map tx := by rw [hrows]; simp [tx]
    have a2' : (c.toNat : Int) = 32 := by rw [a2]; rfl
    simp [b_r25_Read_0, h0, h2, h4, h5, h6, e1, e2, e3, e4, e5, hc, hlt, hgc, a2']
    refine ih (i + 1) (i + 1) _ (done ++ [(s.take i).drop f]) (by omega) (Nat.le_refl _) (by simp) (by simp; omega) (fun _ => by rw [← hD (by omega), hst]; simp) (fun h => by omega) ?_ ?_ ?_ ?_ ?_ <;> simp [h0, h2, hnext]
   ·have a2' : ¬ (c.toNat : Int) = 32 := by
     intro h
     apply a2
     apply UInt8.toNat_inj.1
     have : c.toNat = 32 := by omega
     rw [this]; rfl
    have hn' : (32 : UInt8) ∉ (s.drop f).take (i + 1 - f) := by
     rw [show i + 1 - f = (i - f) + 1 by omega, List.take_add_one]
     intro hm
     rcases List.mem_append.1 hm with hm | hm
     ·exact hn hm
     ·rw [List.getElem?_drop, show f + (i - f) = i by omega, hg, ← hcc] at hm
      simp at hm
      exact a2 hm.symm
    simp [b_r25_Read_0, h0, h2, h4, h5, h6, e1, e2, e3, e4, e5, hc, hlt, hgc, a2']
    refine ih (i + 1) f _ done (by omega) (by omega) hn' (by omega) (fun _ => hD (by omega)) (fun h => by omega) ?_ ?_ ?_ ?_ ?_ <;> simp [h0, h2, h4, h5, hrows]
theorem refkind_loop (n : Nat) (A B : Heap) (hA : A.length = n) (L : List (List UInt8)) (w : List UInt8) (hw : L[0]? = some w) (v0 v2 : V) (Q : Option (V × Heap) → Prop) (k : List Item) (s : Si) (ok : s.ok)
  (hexit : ∀ φ', Fr.get φ' 0 = v0 → Fr.get φ' 2 = v2 → Fr.get φ' 4 = .own 1 (L.map tx) → Fr.get φ' 7 = .ptr n 0 → Q (M (eval tbl noExt) k φ' (A ++ some ({ s with kind := kindTo w 9 } : Si).cells :: B))) :
  ∀ (j i : Nat) (φ : Fr), i + j = 9 → 1 ≤ i → Fr.get φ 0 = v0 → Fr.get φ 2 = v2 → Fr.get φ 4 = .own 1 (L.map tx) → Fr.get φ 7 = .ptr n 0 → Fr.get φ 8 = iv i →
   Q (M (eval tbl noExt) (.code l_r25_Read_1 :: .blk 2 :: k) φ (A ++ some ({ s with kind := kindTo w i } : Si).cells :: B)) := by
 have e9 : siteWords.length = 9 := rfl
 have htw : tx w = [V.str w] := rfl
 have hlen0 : 0 < L.length := by
  cases L with
  | nil => cases hw
  | cons a b => simp
 have hg0 : ∀ h : 0 < L.length, L[0] = w := fun h => by
  rw [List.getElem?_eq_getElem h] at hw
  exact Option.some.inj hw
 intro j
 induction j with
 | zero =>
  intro i φ hi hi1 h0 h2 h4 h7 h8
  obtain rfl : i = 9 := by omega
  rw [l_r25_Read_1, M_loop]
  simp [b_r25_Read_1, h0, h2, h4, h7, h8]
  exact hexit _ (by simp [h0]) (by simp [h2]) (by simp [h4]) (by simp [h7])
 | succ j ih =>
  intro i φ hi hi1 h0 h2 h4 h7 h8
  have hlt : i < siteWords.length := by omega
  obtain ⟨u, hu⟩ : ∃ u, u = siteWords[i] := ⟨_, rfl⟩
  have hu' : siteWords[i]? = some u := by rw [hu]; exact List.getElem?_eq_getElem hlt
  have hwo : wordOf (i : Int) = u := by
   unfold wordOf
   rw [if_neg (by omega), show ((i : Int)).toNat = i by omega, hu']; rfl
  have hW := fun K => refWord_eq (i : Int) K
  have e1 : (i : Int) ≤ 8 := by omega
  have e2 : IntKind.i64.wrap ((i : Int) + 1) = ((i + 1 : Nat) : Int) := by rw [w64] <;> omega
  have hc := Si.len (s := { s with kind := kindTo w i }) ok
  have hs0 := Si.put0 ({ s with kind := kindTo w i } : Si) i
  obtain ⟨K, hK⟩ : ∃ K, K = ({ s with kind := kindTo w i } : Si).cells := ⟨_, rfl⟩
  rw [← hK] at hc hs0 ⊢
  have hset : (A ++ some K :: B).set n (some (({ s with kind := (i : Int) } : Si).cells)) = A ++ some (({ s with kind := (i : Int) } : Si).cells) :: B := by rw [← hA]; exact set0 ..
  have hgn : (A ++ some K :: B)[n]? = some (some K) := by rw [← hA]; exact get0 ..
  rw [l_r25_Read_1, M_loop, ← l_r25_Read_1]
  by_cases a1 : u = w
  ·have hk : ({ s with kind := kindTo w (i + 1) } : Si) = { s with kind := (i : Int) } := by
    rw [kindTo, if_pos (by rw [hu', a1])]
   have := ih (i + 1)
   rw [hk] at this
   simp [b_r25_Read_1, h0, h2, h4, h7, h8, e1, e2, hW, hwo, a1, hgn, hc, hs0, hset, hlen0, hg0, htw]
   refine this _ (by omega) (by omega) ?_ ?_ ?_ ?_ ?_ <;> simp [h0, h2, h4, h7]
  ·have hk : ({ s with kind := kindTo w (i + 1) } : Si).cells = K := by
    rw [hK, kindTo, if_neg (by rw [hu']; intro h; exact a1 (Option.some.inj h))]
   have := ih (i + 1)
   rw [hk] at this
   simp [b_r25_Read_1, h0, h2, h4, h7, h8, e1, e2, hW, hwo, a1, hlen0, hg0, htw]
   refine this _ (by omega) (by omega) ?_ ?_ ?_ ?_ ?_ <;> simp [h0, h2, h4, h7]
theorem refnums_loop (H : Heap) (t : List UInt8) (L : List (List UInt8)) (hL : L.length ≤ 10) (Q : Option (V × Heap) → Prop) (k : List Item) (X : Option Si)
  (hyes : ∀ φ' s', X = some s' → s'.ok → Fr.get φ' 0 = .str t → Fr.get φ' 2 = .ptr H.length 0 → Fr.get φ' 4 = .own 1 (L.map tx) → Fr.get φ' 7 = .ptr (H.length + 1) 0 → Q (M (eval tbl noExt) k φ' (H ++ [some zeroSi.cells, some s'.cells])))
  (hno : ∀ φ' s', X = none → Fr.get φ' 2 = .ptr H.length 0 → Fr.get φ' 3 = .bool false → Q (retK k φ' (H ++ [some zeroSi.cells, some s']))) :
  ∀ (j i : Nat) (φ : Fr) (s : Si), i + 1 + j = L.length → s.ok → readNums s i (L.drop (i + 1)) = X → Fr.get φ 0 = .str t → Fr.get φ 2 = .ptr H.length 0 → Fr.get φ 4 = .own 1 (L.map tx) → Fr.get φ 7 = .ptr (H.length + 1) 0 → Fr.get φ 9 = iv ((i + 1 : Nat) : Int) →
   Q (M (eval tbl noExt) (.code l_r25_Read_2 :: .blk 4 :: k) φ (H ++ [some zeroSi.cells, some s.cells])) := by
 intro j
 induction j with
 | zero =>
  intro i φ s hi ok hX h0 h2 h4 h7 h9
  have hlt : ¬ (((i + 1 : Nat) : Int) < L.length) := by omega
  rw [List.drop_eq_nil_of_le (by omega)] at hX
  obtain ⟨m, hm⟩ : ∃ m : Int, m = ((i + 1 : Nat) : Int) := ⟨_, rfl⟩
  rw [← hm] at hlt h9
  rw [l_r25_Read_2, M_loop]
  simp [b_r25_Read_2, h0, h2, h4, h7, h9, hlt]
  exact hyes _ s hX.symm ok (by simp [h0]) (by simp [h2]) (by simp [h4]) (by simp [h7])
 | succ j ih =>
  intro i φ s hi ok hX h0 h2 h4 h7 h9
  have hlt : i + 1 < L.length := by omega
  obtain ⟨u, hu⟩ : ∃ u, u = L[i + 1] := ⟨_, rfl⟩
  have hu' : L[i + 1]? = some u := by rw [hu]; exact List.getElem?_eq_getElem hlt
  rw [List.drop_eq_getElem_cons hlt, ← hu, readNums] at hX
  have htw : tx u = [V.str u] := rfl
  have hg : ∀ h : i + 1 < L.length, L[i + 1] = u := fun h => hu.symm
  have hrd := fun K => refRead_eq K u
  have hsm := read_small u
  have hc := Si.len ok
  obtain ⟨m, hm⟩ : ∃ m : Int, m = ((i + 1 : Nat) : Int) := ⟨_, rfl⟩
  have m1 : m.toNat = i + 1 := by omega
  have m2 : 0 ≤ m := by omega
  have m3 : m < L.length := by omega
  have m4 : IntKind.i64.wrap (m + 1) = ((i + 1 + 1 : Nat) : Int) := by rw [w64] <;> omega
  rw [← hm] at h9
  rw [l_r25_Read_2, M_loop, ← l_r25_Read_2]
  by_cases hok : numOK u = true
  ·rw [if_pos hok] at hX
   unfold numOK at hok
   simp only [Bool.and_eq_true, decide_eq_true_eq] at hok
   obtain ⟨b1, b2⟩ := hok
   have b3 : ¬ 511 < (readR u).1 := by omega
   cases i with
   | zero =>
    have hs1 := Si.put1 s (readR u).1
    have m5 : m = 1 := by omega
    simp [b_r25_Read_2, h0, h2, h4, h7, h9, m1, m2, m3, m4, htw, hg, hlt, hrd, b1, b3, hc, hs1]
    simp only [m5] at m1 m2 m3 m4 ⊢
    simp [hs1, hc, m4]
    refine ih 1 _ (s.putN 0 (readR u).1) (by omega) (Si.ok_putN ok _ _) hX ?_ ?_ ?_ ?_ ?_ <;> simp [h0, h2, h4, h7, w64]
   | succ q =>
    have hs2 := Si.put2 ok (i := q) (by omega) (readR u).1
    have m5 : ¬ m = 1 := by omega
    have e3 : IntKind.i64.wrap (m - 2) = (q : Int) := by rw [w64] <;> omega
    have e4 : (q : Int) < 8 := by omega
    have e9 : 2 + q + 1 ≤ 11 := by omega
    simp [b_r25_Read_2, h0, h2, h4, h7, h9, m1, m2, m3, m4, m5, htw, hg, hlt, hrd, b1, b3, hc, hs2, e3, e4, e9]
    refine ih (q + 1 + 1) _ (s.putN (q + 1) (readR u).1) (by omega) (Si.ok_putN ok _ _) hX ?_ ?_ ?_ ?_ ?_ <;> simp [h0, h2, h4, h7]
  ·rw [if_neg hok] at hX
   have hz2 : zeroSi.cells.length = 11 := rfl
   have hz3 : setMany zeroSi.cells 0 zeroSi.cells = zeroSi.cells := rfl
   have hz4 : V.underAll (H.length + 1) zeroSi.cells = true := rfl
   have hz5 : zeroSi.cells.all V.one = true := rfl
   have hzc := zero_cells_eq
   cases b1 : (readR u).2 with
   | false =>
    simp [b_r25_Read_2, h0, h2, h4, h7, h9, m1, m2, m3, m4, htw, hg, hlt, hrd, b1, hzc, hz2, hz3, hz4, hz5]
    exact hno _ s.cells hX.symm (by simp [h2]) (by simp)
   | true =>
    have b3 : 511 < (readR u).1 := by
     unfold numOK at hok
     simp only [b1, Bool.true_and, decide_eq_true_eq] at hok
     omega
    simp [b_r25_Read_2, h0, h2, h4, h7, h9, m1, m2, m3, m4, htw, hg, hlt, hrd, b1, b3, hzc, hz2, hz3, hz4, hz5]
    exact hno _ s.cells hX.symm (by simp [h2]) (by simp)
set_option maxHeartbeats 4000000
theorem words_loop (s : List UInt8) (hl : s.length ≤ 100000) (H : Heap) (call : CallF) (Q : Option (V × Heap) → Prop) (k : List Item) (D : List (List UInt8))
  (hexit : ∀ φ', Fr.get φ' 0 = .str s → Fr.get φ' 3 = .own 1 (D.map tx) → Q (M call k φ' H)) :
  ∀ (j i f : Nat) (φ : Fr) (done : List (List UInt8)), i + j = s.length + 1 → f ≤ i → (32 : UInt8) ∉ (s.drop f).take (i - f) → done.length ≤ i → (i ≤ s.length → done ++ splitOn 32 (s.drop f) = D) → (s.length < i → done = D) →
   Fr.get φ 0 = .str s → Fr.get φ 3 = .own 1 (done.map tx) → Fr.get φ 4 = iv f → Fr.get φ 5 = iv i →
   Q (M call (.code l_flotsamref30_Words_0 :: .blk 0 :: k) φ H) := by
 intro j
 induction j with
 | zero =>
  intro i f φ done hi hf hn hdl hD hE h0 h4 h5 h6
  have hlt : ¬ (i : Int) ≤ s.length := by omega
  rw [l_flotsamref30_Words_0, M_loop]
  simp [b_flotsamref30_Words_0, h0, h4, h5, h6, hlt]
  exact hexit _ (by simp [h0]) (by rw [← hE (by omega)]; simp [h4])
 | succ j ih =>
  intro i f φ done hi hf hn hdl hD hE h0 h4 h5 h6
  have e1 : (i : Int) ≤ s.length := by omega
  have e2 : IntKind.i64.wrap ((i : Int) + 1) = ((i + 1 : Nat) : Int) := by rw [w64] <;> omega
  have e3 : (f : Int) ≤ i := by omega
  have hc : 2 * ((done.map tx).length + 1) * 16 ≤ 281474976710656 := by simp; omega
  have hc' : 2 * (done.length + 1) * 16 ≤ 281474976710656 := by omega
  obtain ⟨rows, hrows⟩ : ∃ rows, rows = done.map tx := ⟨_, rfl⟩
  rw [← hrows] at hc h4
  rw [l_flotsamref30_Words_0, M_loop, ← l_flotsamref30_Words_0]
  by_cases a1 : i = s.length
  ·have hlast : splitOn 32 (s.drop f) = [(s.take s.length).drop f] := spl_last (by
    rw [List.take_of_length_le (by simp; omega)] at hn; exact hn)
   have hnext : rows ++ [[V.str ((s.take i).drop f)]] = D.map tx := by
    rw [← hD (by omega), hlast, hrows, a1]
    simp [tx]
   have e4 : (i : Int) = s.length := by omega
   have hDl : D.length ≤ i + 1 := by
    rw [← hD (by omega), hlast]; simp; omega
   rw [a1] at e3 h6 e2 hnext
   simp [b_flotsamref30_Words_0, h0, h4, h5, h6, e1, e2, e3, e4, hc]
   rw [List.take_length] at hnext
   refine ih (i + 1) (i + 1) _ D (by omega) (Nat.le_refl _) (by simp) hDl (fun h => by omega) (fun _ => rfl) ?_ ?_ ?_ ?_ <;> simp [h0, hnext, a1]
  ·have hlt : i < s.length := by omega
   have e4 : ¬ (i : Int) = s.length := by omega
   have e5 : (i : Int) < s.length := by omega
   have hg : s[i]? = some s[i] := List.getElem?_eq_getElem hlt
   obtain ⟨c, hcc⟩ : ∃ c, c = s[i] := ⟨_, rfl⟩
   have hgc : ∀ h : i < s.length, s[i] = c := fun h => hcc.symm
   by_cases a2 : c = 32
   ·have hst : splitOn 32 (s.drop f) = (s.take i).drop f :: splitOn 32 (s.drop (i + 1)) := spl_step hf hlt (by rw [← hcc, a2]) hn
    have hnext : rows ++ [[V.str ((s.take i).drop f)]] = (done ++ [(s.take i).drop f]).map tx := by rw [hrows]; simp [tx]
    have a2' : (c.toNat : Int) = 32 := by rw [a2]; rfl
    simp [b_flotsamref30_Words_0, h0, h4, h5, h6, e1, e2, e3, e4, e5, hc, hlt, hgc, a2']
    refine ih (i + 1) (i + 1) _ (done ++ [(s.take i).drop f]) (by omega) (Nat.le_refl _) (by simp) (by simp; omega) (fun _ => by rw [← hD (by omega), hst]; simp) (fun h => by omega) ?_ ?_ ?_ ?_ <;> simp [h0, hnext]
   ·have a2' : ¬ (c.toNat : Int) = 32 := by
     intro h
     apply a2
     apply UInt8.toNat_inj.1
     have : c.toNat = 32 := by omega
     rw [this]; rfl
    have hn' : (32 : UInt8) ∉ (s.drop f).take (i + 1 - f) := by
     rw [show i + 1 - f = (i - f) + 1 by omega, List.take_add_one]
     intro hm
     rcases List.mem_append.1 hm with hm | hm
     ·exact hn hm
     ·rw [List.getElem?_drop, show f + (i - f) = i by omega, hg, ← hcc] at hm
      simp at hm
      exact a2 hm.symm
    simp [b_flotsamref30_Words_0, h0, h4, h5, h6, e1, e2, e3, e4, e5, hc, hlt, hgc, a2']
    refine ih (i + 1) f _ done (by omega) (by omega) hn' (by omega) (fun _ => hD (by omega)) (fun h => by omega) ?_ ?_ ?_ ?_ <;> simp [h0, h4, h5, hrows]
theorem refWords_eq (t : List UInt8) (hl : t.length ≤ 100000) (H : Heap) : eval tbl noExt n_flotsamref30_Words [.str t] H = some (.own 1 ((splitOn 32 t).map tx), H) := by
 rw [eval_M rfl rfl t_flotsamref30_Words rfl]
 simp [c_flotsamref30_Words]
 refine words_loop t hl H _ (fun o => o = some (.own 1 ((splitOn 32 t).map tx), H)) _ (splitOn 32 t) ?_ (t.length + 1) 0 0 _ [] (by omega) (Nat.le_refl _) (by simp) (by simp) (fun _ => by simp) (fun h => by omega) ?_ ?_ ?_ ?_
 ·intro φ' h0 h3
  simp [r_flotsamref30_Words_0, h0, h3]
 all_goals simp
theorem refErr_eq (e : Int) : eval tbl noExt n_flotsamref24_Err [iv e] [] = some (.str (errW e), []) := by
 by_cases h0 : e < 0
 ·have hw : errW e = [63] := if_neg (by omega)
  rw [eval_M rfl rfl t_flotsamref24_Err rfl]
  simp [c_flotsamref24_Err, h0, hw]
 ·by_cases h1 : 16 ≤ e
  ·have hw : errW e = [63] := if_neg (by omega)
   rw [eval_M rfl rfl t_flotsamref24_Err rfl]
   simp [c_flotsamref24_Err, h0, h1, hw]
  ·rcases err16 (by omega : 0 ≤ e) (by omega) with rfl | rfl | rfl | rfl | rfl | rfl | rfl | rfl | rfl | rfl | rfl | rfl | rfl | rfl | rfl | rfl <;> exact (eval_iff _ _ _ _ _ _).2 ⟨20, by kernel_rfl⟩
def errOf (w : List UInt8) : Int := (((errTo w 16 0).getD 16 : Nat) : Int)
theorem errOf_loop (w : List UInt8) (H : Heap) (k : List Item) (X : Option (V × Heap)) (hexit : ∀ φ', Fr.get φ' 3 = iv (errOf w) → M (eval tbl noExt) k φ' H = X) :
  ∀ (n j : Nat) (φ : Fr), j + n = 16 → (errTo w n j).getD 16 = (errTo w 16 0).getD 16 → Fr.get φ 0 = .str w → Fr.get φ 3 = iv j → M (eval tbl noExt) (.code l_flotsamref30_ErrOf_0 :: .blk 0 :: k) φ H = X := by
 intro n
 induction n with
 | zero =>
  intro j φ hj he h0 h3
  have hlt : ¬ (j : Int) < 16 := by omega
  rw [l_flotsamref30_ErrOf_0, M_loop, ← l_flotsamref30_ErrOf_0]
  simp [b_flotsamref30_ErrOf_0, h0, h3, hlt]
  refine hexit _ ?_
  have hj16 : j = 16 := by omega
  unfold errOf
  rw [← he]
  simp [h3, errTo, hj16]
 | succ n ih =>
  intro j φ hj he h0 h3
  have hlt : (j : Int) < 16 := by omega
  have hE := refErr_eq j
  have hw : IntKind.i64.wrap ((j : Int) + 1) = ((j + 1 : Nat) : Int) := by rw [w64 (by omega) (by omega)]; rfl
  rw [errTo] at he
  rw [l_flotsamref30_ErrOf_0, M_loop, ← l_flotsamref30_ErrOf_0]
  by_cases hs : errW j = w
  ·rw [if_pos hs] at he
   simp [b_flotsamref30_ErrOf_0, h0, h3, hlt, hE, hs]
   refine hexit _ ?_
   unfold errOf
   rw [← he]
   simp [h3]
  ·rw [if_neg hs] at he
   simp [b_flotsamref30_ErrOf_0, h0, h3, hlt, hE, hs, hw]
   refine ih (j + 1) _ (by omega) he ?_ ?_
   all_goals simp [h0]
theorem refErrOf_eq (w : List UInt8) : eval tbl noExt n_flotsamref30_ErrOf [.str w] [] = some (iv (errOf w), []) := by
 rw [eval_M rfl rfl t_flotsamref30_ErrOf rfl]
 simp [c_flotsamref30_ErrOf]
 refine errOf_loop w _ _ _ ?_ 16 0 _ rfl rfl ?_ ?_
 ·intro φ' h
  simp [r_flotsamref30_ErrOf_0, h]
 all_goals simp
theorem refShow_eq (c : Ce) (hk : 0 ≤ c.kept) : eval tbl noExt n_flotsamref30_Show [.agg c.cells] [] = some (.tup [.str c.show.1, .bool c.show.2], []) := by
 have hR := refCRight_eq c []
 have hcell : c.cells = [iv c.says, iv c.point, uv c.kept, iv c.verdict, iv c.err, iv c.limit] := rfl
 rw [eval_M rfl rfl t_flotsamref30_Show rfl]
 cases hr : c.right with
 | false =>
  have hs : c.show = ([], false) := by unfold Ce.show; rw [if_neg (by rw [hr]; simp)]
  rw [hr] at hR
  simp only [hcell] at hR ⊢
  simp [c_flotsamref30_Show, hR, hs]
 | true =>
  have hs : c.show = (c.line, true) := by unfold Ce.show; rw [if_pos hr]
  rw [hr] at hR
  have he1 := refErr_eq c.err
  have he2 := refErr_eq c.limit
  have t1 := text_length c.point
  have t2 := text_length c.kept
  have t3 := errW_len c.err
  have t4 := errW_len c.limit
  rw [hs]
  unfold Ce.line
  rcases Ce.right_cases hr with ⟨h1, _, h3, h4, h5, h6⟩ | ⟨h1, _, _, _, _, h3, h4⟩ | rfl
  ·rw [if_pos h1]
   have d1 := refDigits_eq c.point.natAbs c.point [] (Nat.le_refl _) (by omega) (by omega)
   have d2 := refDigits_eq c.kept.natAbs c.kept [] (Nat.le_refl _) (by omega) (by omega)
   have hw : IntKind.i64.wrap c.kept = c.kept := w64 (by omega) (by omega)
   clear hs hr h6 he2 hcell
   unfold Ce.word
   obtain ⟨says, point, kept, verdict, err, limit⟩ := c
   dsimp only [Ce.cells] at *
   subst h1
   generalize text point = a at *
   generalize text kept = b at *
   have l1 : 7 + a.length < 4611686018427387904 := by omega
   have l2 : a.length + 1 + 1 + 1 + 1 + 1 + 1 + 1 + 1 < 4611686018427387904 := by omega
   have l4 : a.length + 1 + 1 + 1 + 1 + 1 + 1 + 1 + 1 + b.length < 4611686018427387904 := by omega
   have l5 : a.length + (b.length + 1) + 1 + 1 + 1 + 1 + 1 + 1 + 1 + 1 < 4611686018427387904 := by omega
   have l6 : a.length + (b.length + 1) + 1 + 1 + 1 + 1 + 1 + 1 + 1 < 4611686018427387904 := by omega
   have l7 : a.length + (b.length + 1 + 1) + 1 + 1 + 1 + 1 + 1 + 1 + 1 < 4611686018427387904 := by omega
   have l9 : a.length + (b.length + 1 + 1) + 1 + 1 + 1 + 1 + 1 + 1 + 1 + 6 < 4611686018427387904 := by omega
   by_cases hv : verdict = 2
   ·rw [if_pos hv]
    subst hv
    generalize errW err = g at *
    have l8 : a.length + (b.length + 1 + 1) + 1 + 1 + 1 + 1 + 1 + 1 + 1 + g.length < 4611686018427387904 := by omega
    simp [c_flotsamref30_Show, hR, he1, d1, d2, hw, killedW, l1, l2, l4, l5, l6, l7, l8]
   ·rw [if_neg hv]
    unfold failedW
    simp [c_flotsamref30_Show, hR, hv, d1, d2, hw, killedW, l1, l2, l4, l5, l6, l7, l9]
  ·rw [if_neg (by omega), if_pos h1]
   clear hs hr he1 hcell
   obtain ⟨says, point, kept, verdict, err, limit⟩ := c
   dsimp only [Ce.cells] at *
   subst h1
   generalize errW limit = g at *
   have l3 : 13 + g.length < 4611686018427387904 := by omega
   simp [c_flotsamref30_Show, hR, he2, incW, l3]
  ·rw [if_neg (by decide), if_neg (by decide)]
   clear hs hr he1 he2 hcell
   dsimp only [zeroCe, Ce.cells] at hR ⊢
   simp [c_flotsamref30_Show, hR, survW]
def refC (t : List UInt8) : Option Ce :=
 if (splitOn 32 t).getD 0 [] = killedW ∧ (splitOn 32 t).length = 4 then
  if (readR ((splitOn 32 t).getD 1 [])).2 = true ∧ (readR ((splitOn 32 t).getD 2 [])).2 = true then
   some ⟨1, (readR ((splitOn 32 t).getD 1 [])).1, (readR ((splitOn 32 t).getD 2 [])).1, if (splitOn 32 t).getD 3 [] = failedW then 1 else 2, if (splitOn 32 t).getD 3 [] = failedW then 0 else errOf ((splitOn 32 t).getD 3 []), 0⟩
  else none
 else if (splitOn 32 t).getD 0 [] = incW ∧ (splitOn 32 t).length = 2 then some ⟨2, 0, 0, 0, 0, errOf ((splitOn 32 t).getD 1 [])⟩
 else some zeroCe
def refCe (t : List UInt8) : Ce × Bool := match refC t with
 | none => (zeroCe, false)
 | some c => if c.right = true ∧ c.line = t then (c, true) else (zeroCe, false)
theorem errOf_errW {e : Int} (h0 : 0 ≤ e) (h1 : e ≤ 15) : errOf (errW e) = e := by
 rcases err16 h0 h1 with rfl | rfl | rfl | rfl | rfl | rfl | rfl | rfl | rfl | rfl | rfl | rfl | rfl | rfl | rfl | rfl <;> decide
theorem refC_kept {t : List UInt8} {c : Ce} (h : refC t = some c) : 0 ≤ c.kept := by
 unfold refC at h
 split at h
 ·split at h
  ·cases h; exact (read_small _).1
  ·cases h
 ·split at h <;> (cases h; exact Int.le_refl 0)
theorem readCe_none {t : List UInt8} (h : (readCe t).2 = false) : readCe t = (zeroCe, false) := by
 unfold readCe at h ⊢
 split at h
 ·cases h
 ·rename_i hc; rw [if_neg hc]
theorem refC_line {c : Ce} (h : c.right = true) (hk : 0 ≤ c.kept) : refC c.line = some c := by
 have hs := line_split h hk
 rcases Ce.right_cases h with ⟨h1, h2, h3, h4, h5, h6⟩ | ⟨h1, h2, h3, h4, h5, h6, h7⟩ | rfl
 ·have ha : readR (text c.point) = (c.point, true) := by rw [read_text _ (by omega) (by omega), if_pos ⟨h3, by omega⟩]
  have hb : readR (text c.kept) = (c.kept, true) := by rw [read_text _ (by omega) (by omega), if_pos ⟨hk, by omega⟩]
  rw [if_pos h1] at hs
  unfold refC
  rw [hs]
  simp only [List.getD_cons_zero, List.getD_cons_succ, List.length_cons, List.length_nil, Nat.zero_add, Nat.reduceAdd, and_self, if_true, ha, hb]
  obtain ⟨says, point, kept, verdict, err, limit⟩ := c
  simp only at h1 h2 h6
  subst h1 h2
  rcases h6 with ⟨rfl, rfl⟩ | ⟨rfl, h7, h8⟩
  ·simp [Ce.word]
  ·have hw := errW_failed (e := err) (by omega) h8
   have he := errOf_errW (e := err) (by omega) h8
   simp [Ce.word, hw, he]
 ·have he := errOf_errW h6 h7
  rw [if_neg (by omega), if_pos h1] at hs
  unfold refC
  rw [hs]
  have hne : ¬ incW = killedW := by decide
  simp only [List.getD_cons_zero, List.getD_cons_succ, List.length_cons, List.length_nil, hne, false_and, if_false, he, Nat.zero_add, Nat.reduceAdd, and_self, if_true]
  obtain ⟨says, point, kept, verdict, err, limit⟩ := c
  simp only at h1 h2 h3 h4 h5
  subst h1 h2 h3 h4 h5
  rfl
 ·decide
theorem refCe_eq (t : List UInt8) : refCe t = readCe t := by
 cases hr : (readCe t).2 with
 | true =>
  obtain ⟨h1, h2, h3⟩ := line_read hr
  have h4 := refC_line h1 h3
  have h5 := read_line h1 h3
  rw [h2] at h4 h5
  unfold refCe
  rw [h4]
  dsimp only
  rw [if_pos ⟨h1, h2⟩]
  rw [← h5]
 | false =>
  rw [readCe_none hr]
  unfold refCe
  split
  ·rfl
  ·rename_i c hc
   split
   ·rename_i h
    have := read_line h.1 (refC_kept hc)
    rw [h.2] at this
    rw [this] at hr; cases hr
   ·rfl
theorem zcells : zeroCe.cells = [V.int .i64 0, V.int .i64 0, V.int .u64 0, V.int .i64 0, V.int .i64 0, V.int .i64 0] := rfl
theorem refReadCe_eq (t : List UInt8) (hl : t.length ≤ 100000) : eval tbl noExt n_flotsamref30_Read [.str t] [] = some (.tup [.agg (readCe t).1.cells, .bool (readCe t).2], []) := by
 rw [← refCe_eq]
 have hW := refWords_eq t hl []
 have hne := spl_ne 32 t
 have hkept := fun c => refC_kept (t := t) (c := c)
 unfold refCe
 unfold refC at hkept ⊢
 generalize splitOn 32 t = L at *
 cases L with
 | nil => exact absurd rfl hne
 | cons x L =>
  simp only [List.map_cons, tx] at hW
  rw [eval_M rfl rfl t_flotsamref30_Read rfl]
  by_cases hk : x = killedW ∧ (x :: L).length = 4
  ·obtain ⟨rfl, hl4⟩ := hk
   match L, hl4 with
   | [a, b, w], _ =>
    have h1 := refRead_eq (H := []) a
    have h2 := refRead_eq (H := []) b
    have hE := refErrOf_eq w
    have s1 := read_small a
    have s2 := read_small b
    have hu : IntKind.u64.wrap (readR b).1 = (readR b).1 := by rw [IntKind.wrap_u64]; omega
    simp only [List.getD_cons_zero, List.getD_cons_succ, List.length_cons, List.length_nil, Nat.zero_add, Nat.reduceAdd, and_self, if_true] at hkept ⊢
    simp only [List.map_cons, List.map_nil, tx] at hW
    generalize readR a = p at *
    generalize readR b = q at *
    obtain ⟨p1, p2⟩ := p
    obtain ⟨q1, q2⟩ := q
    dsimp only at h1 h2 s1 s2 hu hkept ⊢
    cases p2 with
    | false =>
     cases q2 <;> simp [c_flotsamref30_Read, hW, killedW, h1, h2, zeroCe, Ce.cells]
    | true =>
     cases q2 with
     | false => simp [c_flotsamref30_Read, hW, killedW, h1, h2, zeroCe, Ce.cells]
     | true =>
      simp only [and_self, if_true] at hkept ⊢
      by_cases hf : w = failedW
      ·subst hf
       obtain ⟨ew, hew⟩ : ∃ ew, ew = errOf failedW := ⟨_, rfl⟩
       rw [← hew] at hE
       unfold failedW at hE
       simp only [if_true] at hkept ⊢
       have hk2 := hkept _ rfl
       have hS := refShow_eq ⟨1, p1, q1, 1, 0, 0⟩ hk2
       unfold Ce.show at hS
       by_cases hr : (⟨1, p1, q1, 1, 0, 0⟩ : Ce).right = true
       ·rw [if_pos hr] at hS
        by_cases hlt : (⟨1, p1, q1, 1, 0, 0⟩ : Ce).line = t
        ·rw [if_pos ⟨hr, hlt⟩]
         rw [hlt] at hS
         simp only [Ce.eta] at hS ⊢
         simp [c_flotsamref30_Read, hW, killedW, incW, h1, h2, hE, hu, failedW, hS]
        ·rw [if_neg (fun h => hlt h.2)]
         generalize (⟨1, p1, q1, 1, 0, 0⟩ : Ce).line = u at *
         simp only [Ce.eta] at hS ⊢
         simp [c_flotsamref30_Read, hW, killedW, incW, h1, h2, hE, hu, failedW, hS, hlt, zeroCe]
       ·rw [if_neg hr] at hS
        rw [if_neg (fun h => hr h.1)]
        simp only [Ce.eta] at hS ⊢
        simp [c_flotsamref30_Read, hW, killedW, incW, h1, h2, hE, hu, failedW, hS, zeroCe]
      ·have hf' : ¬ w = [102, 97, 105, 108, 101, 100] := hf
       simp only [hf, if_false] at hkept ⊢
       have hk2 := hkept _ rfl
       generalize errOf w = ew at *
       have hS := refShow_eq ⟨1, p1, q1, 2, ew, 0⟩ hk2
       unfold Ce.show at hS
       by_cases hr : (⟨1, p1, q1, 2, ew, 0⟩ : Ce).right = true
       ·rw [if_pos hr] at hS
        by_cases hlt : (⟨1, p1, q1, 2, ew, 0⟩ : Ce).line = t
        ·rw [if_pos ⟨hr, hlt⟩]
         rw [hlt] at hS
         simp only [Ce.eta] at hS ⊢
         simp [c_flotsamref30_Read, hW, killedW, incW, h1, h2, hE, hu, hf', hS]
        ·rw [if_neg (fun h => hlt h.2)]
         generalize (⟨1, p1, q1, 2, ew, 0⟩ : Ce).line = u at *
         simp only [Ce.eta] at hS ⊢
         simp [c_flotsamref30_Read, hW, killedW, incW, h1, h2, hE, hu, hf', hS, hlt, zeroCe]
       ·rw [if_neg hr] at hS
        rw [if_neg (fun h => hr h.1)]
        simp only [Ce.eta] at hS ⊢
        simp [c_flotsamref30_Read, hW, killedW, incW, h1, h2, hE, hu, hf', hS, zeroCe]
  ·simp only [List.getD_cons_zero] at hkept ⊢
   simp only [if_neg hk] at hkept ⊢
   by_cases hi : x = incW ∧ (x :: L).length = 2
   ·obtain ⟨rfl, hl2⟩ := hi
    match L, hl2 with
    | [y], _ =>
     have hE := refErrOf_eq y
     simp only [List.getD_cons_zero, List.getD_cons_succ, List.length_cons, List.length_nil, Nat.zero_add, Nat.reduceAdd, and_self, if_true] at hkept ⊢
     simp only [List.map_cons, List.map_nil, tx] at hW
     generalize errOf y = ew at *
     have hk2 := hkept _ rfl
     have hS := refShow_eq ⟨2, 0, 0, 0, 0, ew⟩ hk2
     unfold Ce.show at hS
     by_cases hr : (⟨2, 0, 0, 0, 0, ew⟩ : Ce).right = true
     ·rw [if_pos hr] at hS
      by_cases hlt : (⟨2, 0, 0, 0, 0, ew⟩ : Ce).line = t
      ·rw [if_pos ⟨hr, hlt⟩]
       rw [hlt] at hS
       simp only [Ce.eta] at hS ⊢
       simp [c_flotsamref30_Read, hW, killedW, incW, hE, hS]
      ·rw [if_neg (fun h => hlt h.2)]
       generalize (⟨2, 0, 0, 0, 0, ew⟩ : Ce).line = u at *
       simp only [Ce.eta] at hS ⊢
       simp [c_flotsamref30_Read, hW, killedW, incW, hE, hS, hlt, zeroCe]
     ·rw [if_neg hr] at hS
      rw [if_neg (fun h => hr h.1)]
      simp only [Ce.eta] at hS ⊢
      simp [c_flotsamref30_Read, hW, killedW, incW, hE, hS, zeroCe]
   ·simp only [if_neg hi] at hkept ⊢
    have hk2 := hkept _ rfl
    simp only [List.length_cons] at hk hi
    have hk' : ¬ (x = [107, 105, 108, 108, 101, 100] ∧ (L.length : Int) + 1 = 4) := fun h => hk ⟨h.1, by omega⟩
    have hi' : ¬ (x = [105, 110, 99, 111, 110, 99, 108, 117, 115, 105, 118, 101] ∧ (L.length : Int) + 1 = 2) := fun h => hi ⟨h.1, by omega⟩
    by_cases ek : x = [107, 105, 108, 108, 101, 100]
    ·have ek4 : ¬ (L.length : Int) + 1 = 4 := fun h => hk' ⟨ek, h⟩
     subst ek
     have hS := refShow_eq zeroCe hk2
     unfold Ce.show at hS
     by_cases hr : (zeroCe : Ce).right = true
     ·rw [if_pos hr] at hS
      by_cases hlt : (zeroCe : Ce).line = t
      ·rw [if_pos ⟨hr, hlt⟩]
       rw [hlt] at hS
       change eval tbl noExt n_flotsamref30_Show [.agg [iv 0, iv 0, uv 0, iv 0, iv 0, iv 0]] [] = _ at hS
       simp [c_flotsamref30_Read, hW, ek4, hS, zcells]
      ·rw [if_neg (fun h => hlt h.2)]
       generalize (zeroCe : Ce).line = u at *
       change eval tbl noExt n_flotsamref30_Show [.agg [iv 0, iv 0, uv 0, iv 0, iv 0, iv 0]] [] = _ at hS
       simp [c_flotsamref30_Read, hW, ek4, hS, hlt, zcells]
     ·rw [if_neg hr] at hS
      rw [if_neg (fun h => hr h.1)]
      change eval tbl noExt n_flotsamref30_Show [.agg [iv 0, iv 0, uv 0, iv 0, iv 0, iv 0]] [] = _ at hS
      simp [c_flotsamref30_Read, hW, ek4, hS, zcells]
    ·by_cases ei : x = [105, 110, 99, 111, 110, 99, 108, 117, 115, 105, 118, 101]
     ·have ei2 : ¬ (L.length : Int) + 1 = 2 := fun h => hi' ⟨ei, h⟩
      subst ei
      have hS := refShow_eq zeroCe hk2
      unfold Ce.show at hS
      by_cases hr : (zeroCe : Ce).right = true
      ·rw [if_pos hr] at hS
       by_cases hlt : (zeroCe : Ce).line = t
       ·rw [if_pos ⟨hr, hlt⟩]
        rw [hlt] at hS
        change eval tbl noExt n_flotsamref30_Show [.agg [iv 0, iv 0, uv 0, iv 0, iv 0, iv 0]] [] = _ at hS
        simp [c_flotsamref30_Read, hW, ei2, hS, zcells]
       ·rw [if_neg (fun h => hlt h.2)]
        generalize (zeroCe : Ce).line = u at *
        change eval tbl noExt n_flotsamref30_Show [.agg [iv 0, iv 0, uv 0, iv 0, iv 0, iv 0]] [] = _ at hS
        simp [c_flotsamref30_Read, hW, ei2, hS, hlt, zcells]
      ·rw [if_neg hr] at hS
       rw [if_neg (fun h => hr h.1)]
       change eval tbl noExt n_flotsamref30_Show [.agg [iv 0, iv 0, uv 0, iv 0, iv 0, iv 0]] [] = _ at hS
       simp [c_flotsamref30_Read, hW, ei2, hS, zcells]
     ·have hS := refShow_eq zeroCe hk2
      unfold Ce.show at hS
      by_cases hr : (zeroCe : Ce).right = true
      ·rw [if_pos hr] at hS
       by_cases hlt : (zeroCe : Ce).line = t
       ·rw [if_pos ⟨hr, hlt⟩]
        rw [hlt] at hS
        change eval tbl noExt n_flotsamref30_Show [.agg [iv 0, iv 0, uv 0, iv 0, iv 0, iv 0]] [] = _ at hS
        simp [c_flotsamref30_Read, hW, ek, ei, hS, zcells]
       ·rw [if_neg (fun h => hlt h.2)]
        generalize (zeroCe : Ce).line = u at *
        change eval tbl noExt n_flotsamref30_Show [.agg [iv 0, iv 0, uv 0, iv 0, iv 0, iv 0]] [] = _ at hS
        simp [c_flotsamref30_Read, hW, ek, ei, hS, hlt, zcells]
      ·rw [if_neg hr] at hS
       rw [if_neg (fun h => hr h.1)]
       change eval tbl noExt n_flotsamref30_Show [.agg [iv 0, iv 0, uv 0, iv 0, iv 0, iv 0]] [] = _ at hS
       simp [c_flotsamref30_Read, hW, ek, ei, hS, zcells]
set_option maxHeartbeats 1000000
theorem countR_loop (H : Heap) (call : CallF) (Q : Option (V × Heap) → Prop) (k : List Item) (l : List (List Ce)) (hl : l.length ≤ 100000) {f : Nat} {first cap : List V} (hp : f < yBase) (p : List Ce → Bool)
  (hf : ∀ c ∈ l, call f (first ++ [.sl 6 (c.map Ce.cells)] ++ cap) H = some (.bool (p c), H)) (X : Nat)
  (hexit : ∀ φ', Fr.get φ' 5 = iv X → Q (M call k φ' H)) :
  ∀ (j i : Nat) (φ : Fr) (s : Nat), i + j = l.length → s ≤ i → s + (l.drop i).countP p = X → Fr.get φ 1 = .fn (.func f) first cap → Fr.get φ 5 = iv s → Fr.get φ 8 = .sl 1 (l.map rowV) → Fr.get φ 9 = iv l.length → Fr.get φ 10 = iv i →
   Q (M call (.code l_score_count_api_Cell_x_0 :: .blk 0 :: k) φ H) := by
 intro j
 induction j with
 | zero =>
  intro i φ s hi hs hX h1 h5 h8 h9 h10
  have hlt : ¬ (i : Int) < l.length := by omega
  rw [List.drop_eq_nil_of_le (by omega)] at hX
  rw [l_score_count_api_Cell_x_0, M_loop]
  simp [b_score_count_api_Cell_x_0, h1, h5, h8, h9, h10, hlt]
  exact hexit _ (by rw [← hX]; simp [h5])
 | succ j ih =>
  intro i φ s hi hs hX h1 h5 h8 h9 h10
  have hlt : i < l.length := by omega
  obtain ⟨c, hc⟩ : ∃ c, c = l[i] := ⟨_, rfl⟩
  have hc' : l[i]? = some c := by rw [hc]; exact List.getElem?_eq_getElem hlt
  have hmem : c ∈ l := by rw [hc]; exact List.getElem_mem _
  have hg : ∀ h : i < l.length, l[i] = c := fun h => hc.symm
  rw [List.drop_eq_getElem_cons hlt, ← hc, List.countP_cons] at hX
  have hr : (l.map rowV)[i]? = some [.sl 6 (c.map Ce.cells)] := by rw [List.getElem?_map, hc']; rfl
  have hrv : rowV c = [.sl 6 (c.map Ce.cells)] := rfl
  have e1 : (i : Int) < l.length := by omega
  have e2 : IntKind.i64.wrap ((i : Int) + 1) = ((i + 1 : Nat) : Int) := by rw [w64] <;> omega
  have e3 : IntKind.i64.wrap ((s : Int) + 1) = ((s + 1 : Nat) : Int) := by rw [w64] <;> omega
  have hcall := hf c hmem
  simp at hcall
  rw [l_score_count_api_Cell_x_0, M_loop, ← l_score_count_api_Cell_x_0]
  cases hb : p c with
  | true =>
   rw [hb] at hcall
   simp only [hb, if_true] at hX
   simp [b_score_count_api_Cell_x_0, h1, h5, h8, h9, h10, hr, hrv, e1, e2, e3, hg, hlt, hp, hcall]
   refine ih (i + 1) _ (s + 1) (by omega) (by omega) (by omega) ?_ ?_ ?_ ?_ ?_ <;> simp [h1, h8, h9]
  | false =>
   rw [hb] at hcall
   simp only [hb, Bool.false_eq_true, if_false] at hX
   simp [b_score_count_api_Cell_x_0, h1, h5, h8, h9, h10, hr, hrv, e1, e2, e3, hg, hlt, hp, hcall]
   refine ih (i + 1) _ s (by omega) (by omega) (by omega) ?_ ?_ ?_ ?_ ?_ <;> simp [h1, h5, h8, h9]
theorem countR_eq (l : List (List Ce)) (hl : l.length ≤ 100000) {f : Nat} {first cap : List V} (hp : f < yBase) (p : List Ce → Bool) (H : Heap) (hf : ∀ c ∈ l, eval tbl noExt f (first ++ [.sl 6 (c.map Ce.cells)] ++ cap) H = some (.bool (p c), H)) :
  eval tbl noExt n_score_count_api_Cell_x [.sl 1 (l.map rowV), .fn (.func f) first cap] H = some (iv (l.countP p), H) := by
 rw [eval_M rfl rfl t_score_count_api_Cell_x rfl]
 simp [c_score_count_api_Cell_x]
 refine countR_loop H _ (fun r => r = some (iv (l.countP p), H)) _ l hl hp p hf (l.countP p) ?_ l.length 0 _ 0 (by omega) (Nat.le_refl _) (by simp) ?_ ?_ ?_ ?_ ?_
 ·intro φ' h5
  simp [r_score_count_api_Cell_x_0, h5]
 all_goals simp
def comesTo (w : Int) (l : List Ce) : Bool := decide (sumC l = w)
def muts (m : Mx) (w : Int) : Nat := m.rows.countP (comesTo w)
theorem Mut11_eq (l : List Ce) (hl : l.length ≤ 3001) (w : Int) (i : Nat) (K : Heap) (hi : K[i]? = some (some [iv w])) : eval tbl noExt n_score_Mutants_1_1 [.sl 6 (l.map Ce.cells), .ptr i 0] K = some (.bool (comesTo w l), K) := by
 have hS := Sum_eq l (by omega) []
 rw [eval_M rfl rfl t_score_Mutants_1_1 rfl]
 simp [c_score_Mutants_1_1, hS, hi, comesTo]
theorem Mut1_eq (m : Mx) (hm : m.few) (w : Int) (i : Nat) (K : Heap) (hi : K[i]? = some (some m.cells)) : eval tbl noExt n_score_Mutants_1 [iv w, .ptr i 0] K = some (iv (muts m w), K) := by
 have hcell : m.cells = [.bool m.bad, .sl 6 (m.base.map Ce.cells), .sl 11 (m.sites.map Si.cells), .sl 1 (m.rows.map rowV)] := rfl
 have hlt : i < K.length := by
  rcases Nat.lt_or_ge i K.length with h1 | h1
  ·exact h1
  ·rw [List.getElem?_eq_none h1] at hi; cases hi
 have hi2 : (K ++ [some [iv w]])[i]? = some (some m.cells) := by rw [List.getElem?_append_left hlt]; exact hi
 rw [hcell] at hi2
 have hc := countR_eq m.rows (by have := hm.rows; omega) (f := n_score_Mutants_1_1) (first := []) (cap := [.ptr K.length 0]) lt_score_Mutants_1_1 (comesTo w) (K ++ [some [iv w]]) (fun c hc => Mut11_eq c (hm.row c hc) w K.length _ (by simp))
 rw [eval_M rfl rfl t_score_Mutants_1 rfl]
 simp [c_score_Mutants_1, hi2, hc, muts]
theorem Mutants_eq (m : Mx) (hm : m.few) (H : Heap) : eval tbl noExt n_score_Mutants [.agg m.cells] H = some (.tup [iv (muts m 1), iv (muts m 0), iv (muts m 2)], H) := by
 have h1 := fun w => Mut1_eq m hm w H.length (H ++ [some m.cells]) (by simp)
 rw [eval_M rfl rfl t_score_Mutants rfl]
 have hp := lt_score_Mutants_1
 simp [c_score_Mutants, h1, hp]
theorem refMut_loop (m : Mx) (hm : m.few) (A : Heap) (n : Nat) (hA : A.length = n) (hn : A[n - 1]? = some (some m.cells)) (h0 : 0 < n) (Q : Option (V × Heap) → Prop) (k : List Item) (X0 X1 X2 : Nat)
  (hexit : ∀ φ', Fr.get φ' 5 = .ptr n 0 → Q (M (eval tbl noExt) k φ' (A ++ [some [iv X0, iv X1, iv X2]]))) :
  ∀ (j i : Nat) (φ : Fr) (x0 x1 x2 : Nat), i + j = m.rows.length → x0 ≤ i → x1 ≤ i → x2 ≤ i → x0 + (m.rows.drop i).countP (comesTo 0) = X0 → x1 + (m.rows.drop i).countP (comesTo 1) = X1 → x2 + (m.rows.drop i).countP (comesTo 2) = X2 →
   Fr.get φ 1 = .ptr (n - 1) 0 → Fr.get φ 5 = .ptr n 0 → Fr.get φ 6 = iv i → Q (M (eval tbl noExt) (.code l_flotsamref32_Mutants_0 :: .blk 0 :: k) φ (A ++ [some [iv x0, iv x1, iv x2]])) := by
 have hcell : m.cells = [.bool m.bad, .sl 6 (m.base.map Ce.cells), .sl 11 (m.sites.map Si.cells), .sl 1 (m.rows.map rowV)] := rfl
 have hrl := hm.rows
 have hget : ∀ r : Heap, (A ++ r)[n - 1]? = some (some m.cells) := fun r => by rw [List.getElem?_append_left (by omega)]; exact hn
 rw [hcell] at hget
 have hgn : ∀ x : Option (List V), (A ++ [x])[n]? = some x := fun x => by rw [← hA]; exact get0 ..
 have hset : ∀ x y : Option (List V), (A ++ [x]).set n y = A ++ [y] := fun x y => by rw [← hA]; exact set0 ..
 intro j
 induction j with
 | zero =>
  intro i φ x0 x1 x2 hi b0 b1 b2 hX0 hX1 hX2 h1 h5 h6
  have hlt : ¬ (i : Int) < m.rows.length := by omega
  rw [List.drop_eq_nil_of_le (by omega)] at hX0 hX1 hX2
  rw [l_flotsamref32_Mutants_0, M_loop]
  simp [b_flotsamref32_Mutants_0, h1, h5, h6, hlt, hget]
  have e0 : x0 = X0 := by simpa using hX0
  have e1 : x1 = X1 := by simpa using hX1
  have e2 : x2 = X2 := by simpa using hX2
  rw [e0, e1, e2]
  exact hexit _ (by simp [h5])
 | succ j ih =>
  intro i φ x0 x1 x2 hi b0 b1 b2 hX0 hX1 hX2 h1 h5 h6
  have hlt : i < m.rows.length := by omega
  obtain ⟨c, hc⟩ : ∃ c, c = m.rows[i] := ⟨_, rfl⟩
  have hc' : m.rows[i]? = some c := by rw [hc]; exact List.getElem?_eq_getElem hlt
  have hmem : c ∈ m.rows := by rw [hc]; exact List.getElem_mem _
  have hg : ∀ h : i < m.rows.length, m.rows[i] = c := fun h => hc.symm
  rw [List.drop_eq_getElem_cons hlt, ← hc, List.countP_cons] at hX0 hX1 hX2
  have hrv : rowV c = [.sl 6 (c.map Ce.cells)] := rfl
  have e1 : (i : Int) < m.rows.length := by omega
  have e2 : IntKind.i64.wrap ((i : Int) + 1) = ((i + 1 : Nat) : Int) := by rw [w64] <;> omega
  have f0 : IntKind.i64.wrap ((x0 : Int) + 1) = ((x0 + 1 : Nat) : Int) := by rw [w64] <;> omega
  have f1 : IntKind.i64.wrap ((x1 : Int) + 1) = ((x1 + 1 : Nat) : Int) := by rw [w64] <;> omega
  have f2 : IntKind.i64.wrap ((x2 : Int) + 1) = ((x2 + 1 : Nat) : Int) := by rw [w64] <;> omega
  have hS := refSum_eq c (by have := hm.row c hmem; omega) []
  rw [l_flotsamref32_Mutants_0, M_loop, ← l_flotsamref32_Mutants_0]
  rcases sumC_range c with hs | hs | hs
  ·rw [hs] at hS
   have q0 : comesTo 0 c = true := by simp [comesTo, hs]
   have q1 : comesTo 1 c = false := by simp [comesTo, hs]
   have q2 : comesTo 2 c = false := by simp [comesTo, hs]
   simp only [q0, q1, q2, if_true, Bool.false_eq_true, if_false] at hX0 hX1 hX2
   simp [b_flotsamref32_Mutants_0, h1, h5, h6, hget, hgn, hset, hg, hlt, hrv, e1, e2, f0, hS]
   refine ih (i + 1) _ (x0 + 1) x1 x2 (by omega) (by omega) (by omega) (by omega) (by omega) (by omega) (by omega) ?_ ?_ ?_ <;> simp [h1, h5]
  ·rw [hs] at hS
   have q0 : comesTo 0 c = false := by simp [comesTo, hs]
   have q1 : comesTo 1 c = true := by simp [comesTo, hs]
   have q2 : comesTo 2 c = false := by simp [comesTo, hs]
   simp only [q0, q1, q2, if_true, Bool.false_eq_true, if_false] at hX0 hX1 hX2
   simp [b_flotsamref32_Mutants_0, h1, h5, h6, hget, hgn, hset, hg, hlt, hrv, e1, e2, f1, hS]
   refine ih (i + 1) _ x0 (x1 + 1) x2 (by omega) (by omega) (by omega) (by omega) (by omega) (by omega) (by omega) ?_ ?_ ?_ <;> simp [h1, h5]
  ·rw [hs] at hS
   have q0 : comesTo 0 c = false := by simp [comesTo, hs]
   have q1 : comesTo 1 c = false := by simp [comesTo, hs]
   have q2 : comesTo 2 c = true := by simp [comesTo, hs]
   simp only [q0, q1, q2, if_true, Bool.false_eq_true, if_false] at hX0 hX1 hX2
   simp [b_flotsamref32_Mutants_0, h1, h5, h6, hget, hgn, hset, hg, hlt, hrv, e1, e2, f2, hS]
   refine ih (i + 1) _ x0 x1 (x2 + 1) (by omega) (by omega) (by omega) (by omega) (by omega) (by omega) (by omega) ?_ ?_ ?_ <;> simp [h1, h5]
theorem refMutants_eq (m : Mx) (hm : m.few) (H : Heap) : eval tbl noExt n_flotsamref32_Mutants [.agg m.cells] H = some (.tup [iv (muts m 1), iv (muts m 0), iv (muts m 2)], H) := by
 rw [eval_M rfl rfl t_flotsamref32_Mutants rfl]
 simp [c_flotsamref32_Mutants]
 rw [show ∀ x : Option (List V), H ++ [some m.cells, x] = (H ++ [some m.cells]) ++ [x] from fun x => by simp]
 refine refMut_loop m hm (H ++ [some m.cells]) (H.length + 1) (by simp) (by simp) (by omega) (fun r => r = some (.tup [iv (muts m 1), iv (muts m 0), iv (muts m 2)], H)) _ (muts m 0) (muts m 1) (muts m 2) ?_ m.rows.length 0 _ 0 0 0 (by omega) (by omega) (by omega) (by omega) (by simp [muts]) (by simp [muts]) (by simp [muts]) ?_ ?_ ?_
 ·intro φ' h5
  simp [r_flotsamref32_Mutants_0, h5]
 all_goals simp
theorem refScoreIn_loop (m : Mx) (hm : m.few) (K : Heap) (n : Nat) (hn : K[n]? = some (some m.cells)) (i : Nat) (c : List Ce) (hc : m.rows[i]? = some c) (Q : Option (V × Heap) → Prop) (call : CallF) (k : List Item) (X Y : Nat)
  (hexit : ∀ φ', Fr.get φ' 1 = .ptr n 0 → Fr.get φ' 4 = iv X → Fr.get φ' 5 = iv Y → Fr.get φ' 6 = iv i → Q (M call k φ' K)) :
  ∀ (j q : Nat) (φ : Fr) (a b : Nat), q + j = c.length → a ≤ 10000000 + q → b ≤ 10000000 + q → a + (c.drop q).countP (isSays 1) = X → b + ((c.drop q).countP (isSays 1) + (c.drop q).countP (isSays 0)) = Y →
   Fr.get φ 1 = .ptr n 0 → Fr.get φ 4 = iv a → Fr.get φ 5 = iv b → Fr.get φ 6 = iv i → Fr.get φ 7 = iv q → Q (M call (.code l_flotsamref32_Score_0 :: .blk 2 :: k) φ K) := by
 have hcell : m.cells = [.bool m.bad, .sl 6 (m.base.map Ce.cells), .sl 11 (m.sites.map Si.cells), .sl 1 (m.rows.map rowV)] := rfl
 rw [hcell] at hn
 have hlti : i < m.rows.length := by
  rcases Nat.lt_or_ge i m.rows.length with h1 | h1
  ·exact h1
  ·rw [List.getElem?_eq_none h1] at hc; cases hc
 have hmem : c ∈ m.rows := List.mem_of_getElem? hc
 have hcl := hm.row c hmem
 have hgi : ∀ h : i < m.rows.length, m.rows[i] = c := fun h => by
  rw [List.getElem?_eq_getElem h] at hc
  exact Option.some.inj hc
 have hrv : rowV c = [.sl 6 (c.map Ce.cells)] := rfl
 intro j
 induction j with
 | zero =>
  intro q φ a b hq ha hb hX hY h1 h4 h5 h6 h7
  have hlt : ¬ (q : Int) < c.length := by omega
  rw [List.drop_eq_nil_of_le (by omega)] at hX hY
  rw [l_flotsamref32_Score_0, M_loop]
  simp [b_flotsamref32_Score_0, h1, h4, h5, h6, h7, hn, hlti, hgi, hrv, hlt]
  exact hexit _ (by simp [h1]) (by rw [← hX]; simp [h4]) (by rw [← hY]; simp [h5]) (by simp [h6])
 | succ j ih =>
  intro q φ a b hq ha hb hX hY h1 h4 h5 h6 h7
  have hlt : q < c.length := by omega
  obtain ⟨e, he⟩ : ∃ e, e = c[q] := ⟨_, rfl⟩
  have he' : c[q]? = some e := by rw [he]; exact List.getElem?_eq_getElem hlt
  have hg : ∀ h : q < c.length, c[q] = e := fun h => he.symm
  rw [List.drop_eq_getElem_cons hlt, ← he, List.countP_cons] at hX
  rw [List.drop_eq_getElem_cons hlt, ← he, List.countP_cons, List.countP_cons] at hY
  have hecell : e.cells = [iv e.says, iv e.point, uv e.kept, iv e.verdict, iv e.err, iv e.limit] := rfl
  have e1 : (q : Int) < c.length := by omega
  have e2 : IntKind.i64.wrap ((q : Int) + 1) = ((q + 1 : Nat) : Int) := by rw [w64] <;> omega
  have f0 : IntKind.i64.wrap ((a : Int) + 1) = ((a + 1 : Nat) : Int) := by rw [w64] <;> omega
  have f1 : IntKind.i64.wrap ((b : Int) + 1) = ((b + 1 : Nat) : Int) := by rw [w64] <;> omega
  rw [l_flotsamref32_Score_0, M_loop, ← l_flotsamref32_Score_0]
  by_cases a1 : e.says = 1
  ·have q1 : isSays 1 e = true := by simp [isSays, a1]
   have q0 : isSays 0 e = false := by simp [isSays, a1]
   simp only [q1, q0, if_true, Bool.false_eq_true, if_false] at hX hY
   simp [b_flotsamref32_Score_0, h1, h4, h5, h6, h7, hn, hlti, hgi, hrv, hlt, hg, hecell, e1, e2, f0, f1, a1]
   refine ih (q + 1) _ (a + 1) (b + 1) (by omega) (by omega) (by omega) (by omega) (by omega) ?_ ?_ ?_ ?_ ?_ <;> simp [h1, h6]
  ·by_cases a0 : e.says = 0
   ·have q1 : isSays 1 e = false := by simp [isSays, a0]
    have q0 : isSays 0 e = true := by simp [isSays, a0]
    simp only [q1, q0, if_true, Bool.false_eq_true, if_false] at hX hY
    simp [b_flotsamref32_Score_0, h1, h4, h5, h6, h7, hn, hlti, hgi, hrv, hlt, hg, hecell, e1, e2, f0, f1, a0]
    refine ih (q + 1) _ a (b + 1) (by omega) (by omega) (by omega) (by omega) (by omega) ?_ ?_ ?_ ?_ ?_ <;> simp [h1, h4, h6]
   ·have q1 : isSays 1 e = false := by simp [isSays, a1]
    have q0 : isSays 0 e = false := by simp [isSays, a0]
    simp only [q1, q0, if_true, Bool.false_eq_true, if_false] at hX hY
    simp [b_flotsamref32_Score_0, h1, h4, h5, h6, h7, hn, hlti, hgi, hrv, hlt, hg, hecell, e1, e2, f0, f1, a0, a1]
    refine ih (q + 1) _ a b (by omega) (by omega) (by omega) (by omega) (by omega) ?_ ?_ ?_ ?_ ?_ <;> simp [h1, h4, h5, h6]
theorem refScore_loop (m : Mx) (hm : m.few) (K : Heap) (n : Nat) (hn : K[n]? = some (some m.cells)) (Q : Option (V × Heap) → Prop) (call : CallF) (k : List Item) (A B : Nat)
  (hexit : ∀ φ', Fr.get φ' 4 = iv A → Fr.get φ' 5 = iv B → Q (M call k φ' K)) :
  ∀ (j i : Nat) (φ : Fr) (a b : Nat), i + j = m.rows.length → a ≤ 7000 * i → b ≤ 7000 * i → a + sumN killN (m.rows.drop i) = A → b + sumN bothN (m.rows.drop i) = B →
   Fr.get φ 1 = .ptr n 0 → Fr.get φ 4 = iv a → Fr.get φ 5 = iv b → Fr.get φ 6 = iv i → Q (M call (.code l_flotsamref32_Score_1 :: .blk 0 :: k) φ K) := by
 have hcell : m.cells = [.bool m.bad, .sl 6 (m.base.map Ce.cells), .sl 11 (m.sites.map Si.cells), .sl 1 (m.rows.map rowV)] := rfl
 have hn2 := hn
 rw [hcell] at hn2
 have hrl := hm.rows
 intro j
 induction j with
 | zero =>
  intro i φ a b hi ha hb hA hB h1 h4 h5 h6
  have hlt : ¬ (i : Int) < m.rows.length := by omega
  rw [List.drop_eq_nil_of_le (by omega)] at hA hB
  rw [l_flotsamref32_Score_1, M_loop]
  simp [b_flotsamref32_Score_1, h1, h4, h5, h6, hn2, hlt]
  exact hexit _ (by rw [← hA]; simp [h4, sumN]) (by rw [← hB]; simp [h5, sumN])
 | succ j ih =>
  intro i φ a b hi ha hb hA hB h1 h4 h5 h6
  have hlt : i < m.rows.length := by omega
  obtain ⟨c, hc⟩ : ∃ c, c = m.rows[i] := ⟨_, rfl⟩
  have hc' : m.rows[i]? = some c := by rw [hc]; exact List.getElem?_eq_getElem hlt
  have hmem : c ∈ m.rows := by rw [hc]; exact List.getElem_mem _
  have hcl := hm.row c hmem
  rw [List.drop_eq_getElem_cons hlt, ← hc] at hA hB
  simp only [sumN, List.map_cons, List.sum_cons] at hA hB
  have e1 : (i : Int) < m.rows.length := by omega
  have e2 : IntKind.i64.wrap ((i : Int) + 1) = ((i + 1 : Nat) : Int) := by rw [w64] <;> omega
  have k1 : c.countP (isSays 1) ≤ c.length := List.countP_le_length
  have k2 : c.countP (isSays 0) ≤ c.length := List.countP_le_length
  have d1 : killN c = c.countP (isSays 1) := rfl
  have d2 : bothN c = c.countP (isSays 1) + c.countP (isSays 0) := rfl
  rw [l_flotsamref32_Score_1, M_loop, ← l_flotsamref32_Score_1]
  simp [b_flotsamref32_Score_1, h1, h4, h5, h6, hn2, e1]
  refine refScoreIn_loop m hm K n hn i c hc' Q call _ (a + killN c) (b + bothN c) ?_ c.length 0 _ a b (by omega) (by omega) (by omega) (by simp [d1]) (by simp [d2]) ?_ ?_ ?_ ?_ ?_
  ·intro φ' p1 p4 p5 p6
   simp [r_flotsamref32_Score_0, p1, p4, p5, p6, e2]
   refine ih (i + 1) _ (a + killN c) (b + bothN c) (by omega) (by omega) (by omega) (by simp only [sumN]; omega) (by simp only [sumN]; omega) ?_ ?_ ?_ ?_ <;> simp [p1, p4, p5]
  all_goals simp [h1, h4, h5, h6]
theorem refScore_eq (m : Mx) (hm : m.few) (H : Heap) : eval tbl noExt n_flotsamref32_Score [.agg m.cells] H = some (.tup [iv (sumN killN m.rows), iv (sumN bothN m.rows)], H) := by
 rw [eval_M rfl rfl t_flotsamref32_Score rfl]
 simp [c_flotsamref32_Score]
 refine refScore_loop m hm _ H.length (by simp) (fun r => r = some (.tup [iv (sumN killN m.rows), iv (sumN bothN m.rows)], H)) _ _ (sumN killN m.rows) (sumN bothN m.rows) ?_ m.rows.length 0 _ 0 0 (by omega) (by omega) (by omega) (by simp) (by simp) ?_ ?_ ?_ ?_
 ·intro φ' h4 h5
  simp [r_flotsamref32_Score_1, h4, h5]
 all_goals simp
set_option maxHeartbeats 2000000
theorem cellsR_loop (call : CallF) (K : Heap) (Q : Option (V × Heap) → Prop) (k : List Item) (l : List Ce) (hl : l.length ≤ 5000)
  (hcall : ∀ c H, call n_flotsamref30_Right [.agg c.cells] H = some (.bool (Ce.right c), H)) (hown : ∀ c n, callOwn call n_flotsamref30_Right [.agg (Ce.cells c)] n = some (.bool (Ce.right c), []))
  (hyes : ∀ φ', l.all Ce.right = true → Q (M call k φ' K)) (hno : ∀ φ', l.all Ce.right = false → Fr.get φ' 2 = .bool false → Q (retK k φ' K)) :
  ∀ (j i : Nat) (φ : Fr), i + j = l.length → (l.drop i).all Ce.right = l.all Ce.right → Fr.get φ 0 = .sl 6 (l.map Ce.cells) → Fr.get φ 3 = iv i → Q (M call (.code l_flotsamref32_cells_0 :: .blk 0 :: k) φ K) := by
 intro j
 induction j with
 | zero =>
  intro i φ hi hX h0 h3
  have hlt : ¬ (i : Int) < l.length := by omega
  rw [List.drop_eq_nil_of_le (by omega)] at hX
  rw [l_flotsamref32_cells_0, M_loop]
  simp [b_flotsamref32_cells_0, h0, h3, hlt]
  exact hyes _ hX.symm
 | succ j ih =>
  intro i φ hi hX h0 h3
  have hlt : i < l.length := by omega
  obtain ⟨c, hc⟩ : ∃ c, c = l[i] := ⟨_, rfl⟩
  have hc' : l[i]? = some c := by rw [hc]; exact List.getElem?_eq_getElem hlt
  have hg : ∀ h : i < l.length, l[i] = c := fun h => hc.symm
  rw [List.drop_eq_getElem_cons hlt, ← hc, List.all_cons] at hX
  have hr := row_get l i c hc'
  have e1 : (i : Int) < l.length := by omega
  have e2 : IntKind.i64.wrap ((i : Int) + 1) = ((i + 1 : Nat) : Int) := by rw [w64] <;> omega
  have hcl := Ce.len c
  have hcs := Ce.strip c
  have hct : c.cells.take 6 = c.cells := rfl
  have hcu := Ce.under c
  have hco : c.cells.all V.one = true := rfl
  have hcc := hcall c []
  have hcw := hown c
  rw [l_flotsamref32_cells_0, M_loop, ← l_flotsamref32_cells_0]
  cases hb : c.right with
  | true =>
   rw [hb] at hcc hcw hX
   simp [b_flotsamref32_cells_0, h0, h3, hr, e1, e2, hg, hlt, hcl, hcs, hct, hcu, hco, hcc, hcw]
   refine ih (i + 1) _ (by omega) (by simpa using hX) ?_ ?_ <;> simp [h0]
  | false =>
   rw [hb] at hcc hcw hX
   simp [b_flotsamref32_cells_0, h0, h3, hr, e1, e2, hg, hlt, hcl, hcs, hct, hcu, hco, hcc, hcw]
   exact hno _ (by rw [← hX]; simp) (by simp)
theorem cellsR_eq (l : List Ce) (hl : l.length ≤ 5000) (H : Heap) : eval tbl noExt n_flotsamref32_cells [.sl 6 (l.map Ce.cells)] H = some (.bool (l.all Ce.right), H) := by
 rw [eval_M rfl rfl t_flotsamref32_cells rfl]
 simp [c_flotsamref32_cells]
 refine cellsR_loop _ H (fun r => r = some (.bool (l.all Ce.right), H)) _ l hl (fun c H => refCRight_eq c H) (fun c n => by unfold callOwn; rw [refCRight_eq]; simp) ?_ ?_ l.length 0 _ (by omega) (by simp) ?_ ?_
 ·intro φ' h
  simp [r_flotsamref32_cells_0, h]
 ·intro φ' h h2
  simp [h2, h]
 all_goals simp
theorem refDup_loop (m : Mx) (hs : m.sites.length ≤ 512) (hok : ∀ s ∈ m.sites, s.ok) (K : Heap) (q : Nat) (hq : K[q]? = some (some m.cells)) (i : Nat) (t : Si) (ht : m.sites[i]? = some t) (call : CallF) (Q : Option (V × Heap) → Prop) (k : List Item)
  (hdup : ∀ φ', t ∈ m.sites.take i → Fr.get φ' 2 = .bool false → Q (retK k φ' K)) (hexit : ∀ φ', t ∉ m.sites.take i → Fr.get φ' 1 = .ptr q 0 → Fr.get φ' 3 = iv i → Q (M call k φ' K)) :
  ∀ (j p : Nat) (φ : Fr), p + j = i → (t ∈ m.sites.take i ↔ t ∈ (m.sites.take i).drop p) → Fr.get φ 1 = .ptr q 0 → Fr.get φ 3 = iv i → Fr.get φ 6 = iv p → Q (M call (.code l_flotsamref32_Right_0 :: .blk 2 :: k) φ K) := by
 have hcell : m.cells = [.bool m.bad, .sl 6 (m.base.map Ce.cells), .sl 11 (m.sites.map Si.cells), .sl 1 (m.rows.map rowV)] := rfl
 have hq2 := hq
 rw [hcell] at hq2
 have hlti : i < m.sites.length := by
  rcases Nat.lt_or_ge i m.sites.length with h1 | h1
  ·exact h1
  ·rw [List.getElem?_eq_none h1] at ht; cases ht
 have okt := hok t (List.mem_of_getElem? ht)
 have hgi : ∀ h : i < m.sites.length, m.sites[i] = t := fun h => by
  rw [List.getElem?_eq_getElem h] at ht
  exact Option.some.inj ht
 intro j
 induction j with
 | zero =>
  intro p φ hp hX h1 h3 h6
  have hlt : ¬ (p : Int) < i := by omega
  rw [List.drop_eq_nil_of_le (by simp; omega)] at hX
  rw [l_flotsamref32_Right_0, M_loop]
  simp [b_flotsamref32_Right_0, h1, h3, h6, hlt]
  exact hexit _ (by rw [hX]; simp) (by simp [h1]) (by simp [h3])
 | succ j ih =>
  intro p φ hp hX h1 h3 h6
  have hlt : p < m.sites.length := by omega
  have hlt2 : p < (m.sites.take i).length := by simp; omega
  obtain ⟨s, hse⟩ : ∃ s, s = m.sites[p] := ⟨_, rfl⟩
  have oks := hok s (by rw [hse]; exact List.getElem_mem _)
  have hg : ∀ h : p < m.sites.length, m.sites[p] = s := fun h => hse.symm
  have hget : (m.sites.take i)[p] = s := by rw [List.getElem_take, hse]
  rw [List.drop_eq_getElem_cons hlt2, hget, List.mem_cons] at hX
  have e1 : (p : Int) < i := by omega
  have e2 : IntKind.i64.wrap ((p : Int) + 1) = ((p + 1 : Nat) : Int) := by rw [w64] <;> omega
  have heq := Si.eqc oks okt
  have q1 := Si.len oks
  have q2 := Si.len okt
  have q3 := Si.strip (s := s)
  have q4 := Si.strip (s := t)
  have q5 := Si.take oks
  have q6 := Si.take okt
  rw [l_flotsamref32_Right_0, M_loop, ← l_flotsamref32_Right_0]
  by_cases a1 : t = s
  ·have heq' : eqCells [.int .i64, .int .i64, .int .i64, .int .i64, .int .i64, .int .i64, .int .i64, .int .i64, .int .i64, .int .i64, .int .i64] s.cells t.cells = some true := by rw [heq]; simp [a1]
   simp [b_flotsamref32_Right_0, h1, h3, h6, hq2, hlt, hlti, hg, hgi, e1, e2, q1, q2, q3, q4, q5, q6, heq']
   exact hdup _ (by rw [hX]; exact .inl a1) (by simp)
  ·have a1' : ¬ s = t := fun h => a1 h.symm
   have heq' : eqCells [.int .i64, .int .i64, .int .i64, .int .i64, .int .i64, .int .i64, .int .i64, .int .i64, .int .i64, .int .i64, .int .i64] s.cells t.cells = some false := by rw [heq]; simp [a1']
   simp [b_flotsamref32_Right_0, h1, h3, h6, hq2, hlt, hlti, hg, hgi, e1, e2, q1, q2, q3, q4, q5, q6, heq']
   refine ih (p + 1) _ (by omega) (by rw [hX]; simp [a1]) ?_ ?_ ?_ <;> simp [h1, h3]
def restOK (n : Nat) : List Si → List (List Ce) → List Si → Bool
 | done, r :: rs, s :: ss => rowOK n r && (s.name.2 && (!decide (s ∈ done) && restOK n (done ++ [s]) rs ss))
 | _, _, _ => true
theorem restOK_eq (n : Nat) : ∀ (rs : List (List Ce)) (ss done : List Si), rs.length = ss.length → restOK n done rs ss = (rs.all (rowOK n) && sitesOK done ss)
 | [], [], done, _ => rfl
 | r :: rs, s :: ss, done, h => by
  rw [restOK, restOK_eq n rs ss _ (by simpa using h), List.all_cons, sitesOK]
  cases rowOK n r <;> cases s.name.2 <;> cases decide (s ∈ done) <;> cases rs.all (rowOK n) <;> rfl
 | [], _ :: _, _, h => by simp at h
 | _ :: _, [], _, h => by simp at h
theorem refRight_loop (m : Mx) (hm : m.few) (hok : ∀ s ∈ m.sites, s.ok) (hlen : m.sites.length = m.rows.length) (K : Heap) (q : Nat) (hq : K[q]? = some (some m.cells)) (Q : Option (V × Heap) → Prop) (k : List Item) (X : Bool)
  (hyes : ∀ φ', X = true → Q (M (eval tbl noExt) k φ' K)) (hno : ∀ φ', X = false → Fr.get φ' 2 = .bool false → Q (retK k φ' K)) :
  ∀ (j i : Nat) (φ : Fr), i + j = m.sites.length → restOK m.base.length (m.sites.take i) (m.rows.drop i) (m.sites.drop i) = X → Fr.get φ 1 = .ptr q 0 → Fr.get φ 3 = iv i → Q (M (eval tbl noExt) (.code l_flotsamref32_Right_1 :: .blk 0 :: k) φ K) := by
 have hcell : m.cells = [.bool m.bad, .sl 6 (m.base.map Ce.cells), .sl 11 (m.sites.map Si.cells), .sl 1 (m.rows.map rowV)] := rfl
 have hq2 := hq
 rw [hcell] at hq2
 have hsl := hm.sites
 have hrl := hm.rows
 intro j
 induction j with
 | zero =>
  intro i φ hi hX h1 h3
  have hlt : ¬ (i : Int) < m.sites.length := by omega
  have d1 : m.sites.drop i = [] := List.drop_eq_nil_of_le (by omega)
  have d2 : m.rows.drop i = [] := List.drop_eq_nil_of_le (by omega)
  rw [d1, d2] at hX
  rw [l_flotsamref32_Right_1, M_loop]
  simp [b_flotsamref32_Right_1, h1, h3, hq2, hlt]
  exact hyes _ (by rw [← hX]; rfl)
 | succ j ih =>
  intro i φ hi hX h1 h3
  have hlt : i < m.sites.length := by omega
  have hltr : i < m.rows.length := by omega
  obtain ⟨t, ht⟩ : ∃ t, t = m.sites[i] := ⟨_, rfl⟩
  obtain ⟨c, hc⟩ : ∃ c, c = m.rows[i] := ⟨_, rfl⟩
  have ht' : m.sites[i]? = some t := by rw [ht]; exact List.getElem?_eq_getElem hlt
  have okt := hok t (List.mem_of_getElem? ht')
  have hcl := hm.row c (by rw [hc]; exact List.getElem_mem _)
  have hg : ∀ h : i < m.sites.length, m.sites[i] = t := fun h => ht.symm
  have hgr : ∀ h : i < m.rows.length, m.rows[i] = c := fun h => hc.symm
  have hrv : rowV c = [.sl 6 (c.map Ce.cells)] := rfl
  have hnext : m.sites.take i ++ [t] = m.sites.take (i + 1) := by rw [List.take_add_one, ht']; rfl
  rw [List.drop_eq_getElem_cons hlt, List.drop_eq_getElem_cons hltr, ← ht, ← hc, restOK, hnext] at hX
  have e1 : (i : Int) < m.sites.length := by omega
  have e1r : (i : Int) < m.rows.length := by omega
  have e2 : IntKind.i64.wrap ((i : Int) + 1) = ((i + 1 : Nat) : Int) := by rw [w64] <;> omega
  have hN := refNameS_eq t okt []
  have hC := cellsR_eq c (by omega) []
  have q1 := Si.len okt
  have q3 := Si.strip (s := t)
  have q5 := Si.take okt
  have qu := fun n => Si.under (s := t) n
  rw [l_flotsamref32_Right_1, M_loop, ← l_flotsamref32_Right_1]
  by_cases b1 : c.length = m.base.length
  ·have b1' : (c.length : Int) = m.base.length := by omega
   cases b2 : c.all Ce.right with
   | false =>
    have hr : rowOK m.base.length c = false := by unfold rowOK; rw [b2, Bool.and_false]
    rw [hr, Bool.false_and] at hX
    rw [b2] at hC
    simp [b_flotsamref32_Right_1, h1, h3, hq2, hlt, hltr, hg, hgr, hrv, e1, e1r, b1', hC]
    exact hno _ hX.symm (by simp)
   | true =>
    have hr : rowOK m.base.length c = true := by unfold rowOK; rw [b2, b1]; simp
    rw [hr, Bool.true_and] at hX
    rw [b2] at hC
    cases hnm : t.name.2 with
    | false =>
     rw [hnm, Bool.false_and] at hX
     rw [hnm] at hN
     simp [b_flotsamref32_Right_1, h1, h3, hq2, hlt, hltr, hg, hgr, hrv, e1, e1r, b1', hC, hN, q1, q3, q5, qu]
     exact hno _ hX.symm (by simp)
    | true =>
     rw [hnm, Bool.true_and] at hX
     rw [hnm] at hN
     simp [b_flotsamref32_Right_1, h1, h3, hq2, hlt, hltr, hg, hgr, hrv, e1, e1r, b1', hC, hN, q1, q3, q5, qu]
     refine refDup_loop m hsl hok K q hq i t ht' _ Q _ ?_ ?_ i 0 _ (by omega) (by simp) ?_ ?_ ?_
     ·intro φ' hd h2
      simp
      exact hno _ (by rw [← hX]; simp [hd]) (by simp [h2])
     ·intro φ' hd p1 p3
      simp [r_flotsamref32_Right_0, p1, p3, e2]
      refine ih (i + 1) _ (by omega) (by rw [← hX]; simp [hd]) ?_ ?_ <;> simp [p1]
     all_goals simp [h1, h3]
  ·have b1' : ¬ (c.length : Int) = m.base.length := by omega
   have hr : rowOK m.base.length c = false := by unfold rowOK; simp [b1]
   rw [hr, Bool.false_and] at hX
   simp [b_flotsamref32_Right_1, h1, h3, hq2, hlt, hltr, hg, hgr, hrv, e1, e1r, b1']
   exact hno _ hX.symm (by simp)
theorem refRight_eq (m : Mx) (hm : m.few) (hok : ∀ s ∈ m.sites, s.ok) (H : Heap) : eval tbl noExt n_flotsamref32_Right [.agg m.cells] H = some (.bool m.right, H) := by
 have hcell : m.cells = [.bool m.bad, .sl 6 (m.base.map Ce.cells), .sl 11 (m.sites.map Si.cells), .sl 1 (m.rows.map rowV)] := rfl
 have hbl := hm.base
 have hsl := hm.sites
 have hrl := hm.rows
 obtain ⟨R, hR⟩ : ∃ R, R = m.right := ⟨_, rfl⟩
 rw [← hR]
 unfold Mx.right at hR
 have hS := refSum_eq m.base (by omega) []
 have hC := cellsR_eq m.base (by omega) []
 rw [eval_M rfl rfl t_flotsamref32_Right rfl]
 by_cases a1 : 16 < m.base.length
 ·have a1' : (16 : Int) < m.base.length := by omega
  have a1'' : ¬ m.base.length ≤ 16 := by omega
  simp only [a1'', decide_false, Bool.false_and] at hR
  simp [c_flotsamref32_Right, hcell, a1', hR]
 ·have a1' : ¬ (16 : Int) < m.base.length := by omega
  have a1'' : m.base.length ≤ 16 := by omega
  simp only [a1'', decide_true, Bool.true_and] at hR
  cases hA : m.base.all Ce.right with
  | false =>
   rw [hA] at hC
   simp only [hA, Bool.false_and] at hR
   simp [c_flotsamref32_Right, hcell, a1', hC, hR]
  | true =>
   rw [hA] at hC
   simp only [hA, Bool.true_and] at hR
   by_cases a2 : m.bad = decide (sumC m.base = 1)
   ·have a2' : decide (m.bad = decide (sumC m.base = 1)) = true := by simp [← a2]
    rw [a2', Bool.true_and] at hR
    cases hB : m.bad with
    | true =>
     rw [hB] at a2
     have a3 : sumC m.base = 1 := by simpa using a2.symm
     rw [hB, if_pos rfl] at hR
     have e3 : IntKind.i64.wrap ((m.sites.length : Int) + m.rows.length) = (m.sites.length : Int) + m.rows.length := by rw [w64] <;> omega
     by_cases b1 : m.sites.length = 0 ∧ m.rows.length = 0
     ·obtain ⟨b1, b2⟩ := b1
      have b1' : ((m.sites.length : Nat) : Int) = 0 := by omega
      have b2' : ((m.rows.length : Nat) : Int) = 0 := by omega
      rw [b1, b2, decide_eq_true rfl, Bool.and_self] at hR
      have b1l : m.sites = [] := List.eq_nil_of_length_eq_zero b1
      have b2l : m.rows = [] := List.eq_nil_of_length_eq_zero b2
      have e0 : IntKind.i64.wrap 0 = 0 := by rw [w64] <;> omega
      simp [c_flotsamref32_Right, hcell, hB, a1', hC, hS, a3, b1l, b2l, e0]
      rw [l_flotsamref32_Right_1, M_loop]
      simp [b_flotsamref32_Right_1, r_flotsamref32_Right_1, hR]
     ·have b3 : (0 : Int) < (m.sites.length : Int) + m.rows.length := by omega
      have hR' : R = false := by
       rw [hR]
       by_cases c1 : m.sites.length = 0
       ·have c2 : ¬ m.rows.length = 0 := fun h => b1 ⟨c1, h⟩
        rw [decide_eq_false c2, Bool.and_false]
       ·rw [decide_eq_false c1, Bool.false_and]
      simp [c_flotsamref32_Right, hcell, hB, a1', hC, hS, a3, e3, b3, hR']
    | false =>
     rw [hB] at a2
     have a3 : ¬ sumC m.base = 1 := by simpa using a2.symm
     rw [hB, if_neg (by simp)] at hR
     have b2 : ¬ (512 : Int) < m.sites.length := by omega
     by_cases b1 : m.sites.length = m.rows.length
     ·have b1' : ((m.sites.length : Nat) : Int) = m.rows.length := by omega
      have b2r : ¬ (512 : Int) < m.rows.length := by omega
      rw [decide_eq_true b1, Bool.true_and, ← restOK_eq _ _ _ _ b1.symm] at hR
      simp [c_flotsamref32_Right, hcell, hB, a1', hC, hS, a3, b1', b2, b2r]
      refine refRight_loop m hm hok b1 _ H.length (by rw [hcell, hB]; simp) (fun r => r = some (.bool R, H)) _ R ?_ ?_ m.sites.length 0 _ (by omega) (by rw [hR]; rfl) ?_ ?_
      ·intro φ' hX
       simp [r_flotsamref32_Right_1, hX]
      ·intro φ' hX h2
       simp [h2, hX]
      all_goals simp
     ·have b1' : ¬ ((m.sites.length : Nat) : Int) = m.rows.length := by omega
      rw [decide_eq_false b1, Bool.false_and] at hR
      simp [c_flotsamref32_Right, hcell, hB, a1', hC, hS, a3, b1', b2, hR]
   ·have a2' : decide (m.bad = decide (sumC m.base = 1)) = false := by simp [a2]
    rw [a2', Bool.false_and] at hR
    simp [c_flotsamref32_Right, hcell, a1', hC, hS, a2, hR]
set_option maxHeartbeats 4000000
theorem digits33_eq (n : Int) (h0 : -9223372036854775808 ≤ n) (h1 : n ≤ 9223372036854775807) : eval tbl noExt n_r33_digits [iv n] [] = some (.str (text n), []) := by
 have hd := refDigits_eq n.natAbs n [] (Nat.le_refl _) h0 h1
 have hw : IntKind.i64.wrap n = n := w64 h0 h1
 rw [eval_M rfl rfl t_r33_digits rfl]
 simp [c_r33_digits, hd, hw]
theorem cells33_loop (l : List Ce) (hk : ∀ c ∈ l, 0 ≤ c.kept) (hl : l.length ≤ 100000) (Z : List UInt8) (k : List Item) (X : Option (V × Heap)) (hexit : ∀ φ', Fr.get φ' 3 = .str Z → M (eval tbl noExt) k φ' [] = X) :
  ∀ (r : List Ce) (j : Nat) (acc : List UInt8) (φ : Fr), l.drop j = r → Z = acc ++ unlines (cellLines r) → acc.length + 1000 * r.length ≤ 800000000 → Fr.get φ 0 = .sl 6 (l.map Ce.cells) → Fr.get φ 3 = .str acc → Fr.get φ 4 = iv j →
   M (eval tbl noExt) (.code l_r33_cells_0 :: .blk 0 :: k) φ [] = X := by
 intro r
 induction r with
 | nil =>
  intro j acc φ hd e1 hb h0 h3 h4
  have hj : l.length ≤ j := by rw [← Nat.sub_eq_zero_iff_le, ← List.length_drop, hd]; rfl
  have hlt : ¬ ((j : Int) < l.length) := by omega
  simp only [cellLines, List.map_nil, unlines, List.flatMap_nil, List.append_nil] at e1
  subst e1
  rw [l_r33_cells_0, M_loop, ← l_r33_cells_0]
  simp [b_r33_cells_0, h0, h3, h4, hlt]
  refine hexit _ ?_
  simp [h3]
 | cons c r ih =>
  intro j acc φ hd e1 hb h0 h3 h4
  have hj : j < l.length := by
   have : (l.drop j).length = r.length + 1 := by rw [hd]; rfl
   rw [List.length_drop] at this; omega
  have hlt : (j : Int) < l.length := by omega
  have hLx : l[j]? = some c := by rw [← List.head?_drop, hd]; rfl
  have hmem : c ∈ l := List.mem_of_getElem? hLx
  have hd1 : l.drop (j + 1) = r := by rw [← List.tail_drop, hd]; rfl
  have hw : IntKind.i64.wrap ((j : Int) + 1) = ((j + 1 : Nat) : Int) := by rw [w64 (by omega) (by omega)]; rfl
  have hr2 : ∀ h, l[j]'h = c := fun h => by rw [List.getElem?_eq_getElem h] at hLx; exact Option.some.inj hLx
  have hS := refShow_eq c (hk c hmem)
  have hlen := line_len (c := c)
  obtain ⟨q1, q3, q5, qu, qo, qp, qs⟩ := Ce.facts c
  simp only [List.length_cons] at hb
  simp only [cellLines, List.map_cons, unlines, List.flatMap_cons] at e1
  rw [← List.append_assoc] at e1
  have a1 : acc.length + 1 < 4611686018427387904 := by omega
  have a2 : acc.length + 1 + c.show.1.length < 4611686018427387904 := by omega
  have a3 : acc.length + (c.show.1.length + 1) + 1 < 4611686018427387904 := by omega
  have hb2 : (acc ++ ((9 :: c.show.1) ++ [10])).length + 1000 * r.length ≤ 800000000 := by simp only [List.length_append, List.length_cons, List.length_nil]; omega
  generalize c.show.1 = s at *
  generalize c.show.2 = ok at *
  rw [l_r33_cells_0, M_loop, ← l_r33_cells_0]
  simp [b_r33_cells_0, h0, h3, h4, hlt, hj, hr2, hw, q1, q3, q5, qu, hS, a1, a2, a3]
  refine ih (j + 1) (acc ++ 9 :: (s ++ [10])) _ hd1 (by simpa [cellLines, unlines] using e1) (by simpa using hb2) ?_ ?_ ?_
  all_goals simp [h0]
theorem cells33_eq (l : List Ce) (hk : ∀ c ∈ l, 0 ≤ c.kept) (hl : l.length ≤ 3001) : eval tbl noExt n_r33_cells [.sl 6 (l.map Ce.cells)] [] = some (.str (unlines (cellLines l)), []) := by
 rw [eval_M rfl rfl t_r33_cells rfl]
 simp [c_r33_cells]
 refine cells33_loop l hk (by omega) (unlines (cellLines l)) _ _ ?_ l 0 [] _ rfl rfl (by simp; omega) ?_ ?_ ?_
 ·intro φ' h3
  simp [r_r33_cells_0, h3]
 all_goals simp
theorem score33_eq (m : Mx) (hm : m.few) : eval tbl noExt n_r33_score [.agg m.cells] [] = some (.str m.total, []) := by
 have al : m.cells.length = 4 := rfl
 have at4 : m.cells.take 4 = m.cells := rfl
 have as4 : m.cells.map V.strip = m.cells := rfl
 have au : ∀ n, V.underAll n m.cells = true := fun n => rfl
 have hS := refScore_eq m hm []
 obtain ⟨k1, k2⟩ := kills_few hm
 have d1 := digits33_eq (sumN killN m.rows : Nat) (by omega) (by omega)
 have d2 := digits33_eq (sumN bothN m.rows : Nat) (by omega) (by omega)
 have t1 := text_length (sumN killN m.rows : Nat)
 have t2 := text_length (sumN bothN m.rows : Nat)
 unfold Mx.total scoreW ofW
 generalize text (sumN killN m.rows : Nat) = a at *
 generalize text (sumN bothN m.rows : Nat) = b at *
 generalize m.cells = mc at *
 have a1 : 6 + a.length < 4611686018427387904 := by omega
 have a2 : a.length + 1 + 1 + 1 + 1 + 1 + 1 + 4 < 4611686018427387904 := by omega
 have a3 : a.length + 4 + 1 + 1 + 1 + 1 + 1 + 1 + b.length < 4611686018427387904 := by omega
 rw [eval_M rfl rfl t_r33_score rfl]
 simp [c_r33_score, al, at4, as4, au, hS, d1, d2, a1, a2, a3]
theorem print33_loop (m : Mx) (hok : ∀ s ∈ m.sites, s.ok ∧ s.name.2 = true) (hk : ∀ r ∈ m.rows, (∀ c ∈ r, 0 ≤ c.kept) ∧ r.length ≤ 16) (hlen : m.sites.length = m.rows.length) (hs : m.sites.length ≤ 512) (Z : List UInt8) (k : List Item) (X : Option (V × Heap))
  (hexit : ∀ φ', Fr.get φ' 1 = .ptr 0 0 → Fr.get φ' 4 = .str Z → M (eval tbl noExt) k φ' [some m.cells] = X) :
  ∀ (ss : List Si) (rs : List (List Ce)) (i : Nat) (acc : List UInt8) (φ : Fr), m.sites.drop i = ss → m.rows.drop i = rs → Z = acc ++ unlines (rowLines ss rs) → acc.length + 20000 * ss.length ≤ 60000000 →
   Fr.get φ 1 = .ptr 0 0 → Fr.get φ 4 = .str acc → Fr.get φ 5 = iv i →
   M (eval tbl noExt) (.code l_r33_Print_0 :: .blk 0 :: k) φ [some m.cells] = X := by
 have hc2 : m.cells[2]? = some (.sl 11 (m.sites.map Si.cells)) := rfl
 have hc3 : m.cells[3]? = some (.sl 1 (m.rows.map rowV)) := rfl
 intro ss
 induction ss with
 | nil =>
  intro rs i acc φ hd hdr e1 hb h1 h4 h5
  have hj : m.sites.length ≤ i := by rw [← Nat.sub_eq_zero_iff_le, ← List.length_drop, hd]; rfl
  have hlt : ¬ ((i : Int) < m.sites.length) := by omega
  simp only [rowLines, unlines, List.flatMap_nil, List.append_nil] at e1
  subst e1
  rw [l_r33_Print_0, M_loop, ← l_r33_Print_0]
  simp [b_r33_Print_0, hc2, hc3, h1, h4, h5, hlt]
  refine hexit _ ?_ ?_
  all_goals simp [h1, h4]
 | cons t ss ih =>
  intro rs i acc φ hd hdr e1 hb h1 h4 h5
  have hj : i < m.sites.length := by
   have : (m.sites.drop i).length = ss.length + 1 := by rw [hd]; rfl
   rw [List.length_drop] at this; omega
  have hlt : (i : Int) < m.sites.length := by omega
  have hjr : i < m.rows.length := by omega
  have hltr : (i : Int) < m.rows.length := by omega
  cases rs with
  | nil =>
   have : (m.rows.drop i).length = 0 := by rw [hdr]; rfl
   rw [List.length_drop] at this; omega
  | cons r rs =>
   have hLx : m.sites[i]? = some t := by rw [← List.head?_drop, hd]; rfl
   have hRx : m.rows[i]? = some r := by rw [← List.head?_drop, hdr]; rfl
   have hd1 : m.sites.drop (i + 1) = ss := by rw [← List.tail_drop, hd]; rfl
   have hdr1 : m.rows.drop (i + 1) = rs := by rw [← List.tail_drop, hdr]; rfl
   have hw : IntKind.i64.wrap ((i : Int) + 1) = ((i + 1 : Nat) : Int) := by rw [w64 (by omega) (by omega)]; rfl
   have hg : ∀ h, m.sites[i]'h = t := fun h => by rw [List.getElem?_eq_getElem h] at hLx; exact Option.some.inj hLx
   have hgr : ∀ h, m.rows[i]'h = r := fun h => by rw [List.getElem?_eq_getElem h] at hRx; exact Option.some.inj hRx
   have hrv : rowV r = [.sl 6 (r.map Ce.cells)] := rfl
   obtain ⟨okt, hn⟩ := hok t (List.mem_of_getElem? hLx)
   obtain ⟨hkr, hr16⟩ := hk r (List.mem_of_getElem? hRx)
   have hN := refNameS_eq t okt []
   have hnl := name_len hn
   rw [hn] at hN
   have q1 := Si.len okt
   have q3 := Si.strip (s := t)
   have q5 := Si.take okt
   have qu := fun n => Si.under (s := t) n
   have hc := cells33_eq r hkr (by omega)
   have hul := unl_len r
   simp only [List.length_cons] at hb
   simp only [rowLines, unlines, List.flatMap_cons, List.flatMap_append] at e1
   have a1 : acc.length + t.name.1.length < 4611686018427387904 := by omega
   have a2 : acc.length + t.name.1.length + 1 < 4611686018427387904 := by omega
   have a3 : acc.length + (t.name.1.length + 1) + (unlines (cellLines r)).length < 4611686018427387904 := by omega
   have hb2 : (acc ++ (t.name.1 ++ [10]) ++ unlines (cellLines r)).length + 20000 * ss.length ≤ 60000000 := by simp only [List.length_append, List.length_cons, List.length_nil]; omega
   generalize t.name.1 = s at *
   have e2 : Z = acc ++ (s ++ ([10] ++ unlines (cellLines r))) ++ unlines (rowLines ss rs) := by rw [e1]; simp [unlines]
   clear e1
   generalize unlines (cellLines r) = u at *
   rw [l_r33_Print_0, M_loop, ← l_r33_Print_0]
   simp [b_r33_Print_0, hc2, hc3, h1, h4, h5, hlt, hj, hjr, hltr, hg, hgr, hrv, hw, hN, q1, q3, q5, qu, hc, a1, a2, a3]
   refine ih rs (i + 1) (acc ++ (s ++ 10 :: u)) _ hd1 hdr1 (by simpa using e2) (by simpa using hb2) ?_ ?_ ?_
   all_goals simp [h1]
theorem Print33_eq (m : Mx) (hm : m.few) (hok : ∀ s ∈ m.sites, s.ok) (hkb : ∀ c ∈ m.base, 0 ≤ c.kept) (hkr : ∀ r ∈ m.rows, ∀ c ∈ r, 0 ≤ c.kept) : eval tbl noExt n_r33_Print [.agg m.cells] [] = some (.tup [.str m.print.1, .bool m.print.2], []) := by
 have al : m.cells.length = 4 := rfl
 have at4 : m.cells.take 4 = m.cells := rfl
 have as4 : m.cells.map V.strip = m.cells := rfl
 have au : ∀ n, V.underAll n m.cells = true := fun n => rfl
 have hc0 : m.cells[0]? = some (.bool m.bad) := rfl
 have hc1 : m.cells[1]? = some (.sl 6 (m.base.map Ce.cells)) := rfl
 have hg0 : ∀ h : 0 < m.cells.length, m.cells[0]'h = .bool m.bad := fun _ => rfl
 have hg1 : ∀ h : 1 < m.cells.length, m.cells[1]'h = .sl 6 (m.base.map Ce.cells) := fun _ => rfl
 have hR := refRight_eq m hm hok []
 unfold Mx.print
 cases hr : m.right with
 | false =>
  rw [hr] at hR
  rw [eval_M rfl rfl t_r33_Print rfl]
  generalize m.cells = mc at *
  simp [c_r33_Print, al, at4, as4, au, hR]
 | true =>
  rw [hr] at hR
  obtain ⟨r1, r2⟩ := Mx.right16 hr
  have g := Mx.good_of hr hok hkb hkr
  obtain ⟨l1, l2⟩ := lines_len hr g hm
  have l3 := lens_le 1000 _ l1
  have l4 := unlines_lens m.lines
  have hcb := cells33_eq m.base hkb (by omega)
  have hS := score33_eq m hm
  have hul := unl_len m.base
  have hsl := hm.sites
  have htl := total_len m
  obtain ⟨A, hA⟩ : ∃ A, A = headW m.bad ++ 10 :: unlines (cellLines m.base) := ⟨_, rfl⟩
  have hAl : A.length ≤ 10000 := by
   have : (headW m.bad).length ≤ 4 := by cases m.bad <;> decide
   rw [hA]; simp only [List.length_append, List.length_cons]; omega
  have hloop := fun k X he φ a b c => print33_loop m g.sites (fun r hr => ⟨hkr r hr, r2 r hr⟩) g.len hsl (A ++ unlines (rowLines m.sites m.rows)) k X he m.sites m.rows 0 A φ rfl rfl rfl (by omega) a b c
  have hfin : A ++ unlines (rowLines m.sites m.rows) ++ (m.total ++ [10]) = unlines m.lines := by
   rw [hA]; simp [Mx.lines, Mx.mids, unlines]
  have hfl : (A ++ unlines (rowLines m.sites m.rows)).length + m.total.length + 1 = (unlines m.lines).length := by
   rw [← hfin]; simp only [List.length_append, List.length_cons, List.length_nil]; omega
  generalize A ++ unlines (rowLines m.sites m.rows) = Y at *
  rw [← hfin]
  have b1 : Y.length + m.total.length < 4611686018427387904 := by omega
  have b2 : Y.length + m.total.length + 1 < 4611686018427387904 := by omega
  clear hfin
  rw [eval_M rfl rfl t_r33_Print rfl]
  generalize m.total = tt at *
  cases hbad : m.bad with
  | false =>
   rw [hbad] at hA hc0 hg0
   have c1 : 5 + (unlines (cellLines m.base)).length < 4611686018427387904 := by omega
   simp only [headW, Bool.false_eq_true, if_false, List.cons_append, List.nil_append] at hA
   generalize unlines (cellLines m.base) = B at *
   subst hA
   generalize m.cells = mc at *
   simp [c_r33_Print, al, at4, as4, au, hc0, hc1, hg0, hg1, hR, hcb, c1]
   refine hloop _ _ ?_ _ ?_ ?_ ?_
   ·intro φ' p1 p4
    simp [r_r33_Print_0, p1, p4, al, at4, as4, au, hS, b1, b2]
   all_goals simp
  | true =>
   rw [hbad] at hA hc0 hg0
   have c1 : 4 + (unlines (cellLines m.base)).length < 4611686018427387904 := by omega
   simp only [headW, if_true, List.cons_append, List.nil_append] at hA
   generalize unlines (cellLines m.base) = B at *
   subst hA
   generalize m.cells = mc at *
   simp [c_r33_Print, al, at4, as4, au, hc0, hc1, hg0, hg1, hR, hcb, c1]
   refine hloop _ _ ?_ _ ?_ ?_ ?_
   ·intro φ' p1 p4
    simp [r_r33_Print_0, p1, p4, al, at4, as4, au, hS, b1, b2]
   all_goals simp
theorem lines33_loop (s : List UInt8) (hl : s.length ≤ 100000) (H : Heap) (call : CallF) (Q : Option (V × Heap) → Prop) (k : List Item) (D : List (List UInt8))
  (hexit : ∀ φ' done f, Fr.get φ' 0 = .str s → Fr.get φ' 4 = .own 1 (done.map tx) → Fr.get φ' 5 = iv (f : Nat) → f ≤ s.length → D = done ++ [s.drop f] → Q (M call k φ' H)) :
  ∀ (j i f : Nat) (φ : Fr) (done : List (List UInt8)), i + j = s.length → f ≤ i → (10 : UInt8) ∉ (s.drop f).take (i - f) → done.length ≤ i → done ++ splitOn 10 (s.drop f) = D →
   Fr.get φ 0 = .str s → Fr.get φ 4 = .own 1 (done.map tx) → Fr.get φ 5 = iv f → Fr.get φ 6 = iv i →
   Q (M call (.code l_r33_Lines_0 :: .blk 0 :: k) φ H) := by
 intro j
 induction j with
 | zero =>
  intro i f φ done hi hf hn hdl hD h0 h4 h5 h6
  have hlt : ¬ (i : Int) < s.length := by omega
  have hlast : splitOn 10 (s.drop f) = [(s.take s.length).drop f] := spl_last (by
    rw [List.take_of_length_le (by simp; omega)] at hn; exact hn)
  rw [List.take_length] at hlast
  rw [l_r33_Lines_0, M_loop]
  simp [b_r33_Lines_0, h0, h4, h5, h6, hlt]
  exact hexit _ done f (by simp [h0]) (by simp [h4]) (by simp [h5]) (by omega) (by rw [← hD, hlast])
 | succ j ih =>
  intro i f φ done hi hf hn hdl hD h0 h4 h5 h6
  have e1 : (i : Int) < s.length := by omega
  have hlt : i < s.length := by omega
  have e2 : IntKind.i64.wrap ((i : Int) + 1) = ((i + 1 : Nat) : Int) := by rw [w64] <;> omega
  have e3 : (f : Int) ≤ i := by omega
  have e4 : (i : Int) ≤ s.length := by omega
  have hc : 2 * ((done.map tx).length + 1) * 16 ≤ 281474976710656 := by simp; omega
  obtain ⟨rows, hrows⟩ : ∃ rows, rows = done.map tx := ⟨_, rfl⟩
  rw [← hrows] at hc h4
  have hg : s[i]? = some s[i] := List.getElem?_eq_getElem hlt
  obtain ⟨c, hcc⟩ : ∃ c, c = s[i] := ⟨_, rfl⟩
  have hgc : ∀ h : i < s.length, s[i] = c := fun h => hcc.symm
  rw [l_r33_Lines_0, M_loop, ← l_r33_Lines_0]
  by_cases a2 : c = 10
  ·have hst : splitOn 10 (s.drop f) = (s.take i).drop f :: splitOn 10 (s.drop (i + 1)) := spl_step hf hlt (by rw [← hcc, a2]) hn
   have hnext : rows ++ [[V.str ((s.take i).drop f)]] = (done ++ [(s.take i).drop f]).map tx := by rw [hrows]; simp [tx]
   have a2' : (c.toNat : Int) = 10 := by rw [a2]; rfl
   simp [b_r33_Lines_0, h0, h4, h5, h6, e1, e2, e3, e4, hc, hlt, hgc, a2']
   refine ih (i + 1) (i + 1) _ (done ++ [(s.take i).drop f]) (by omega) (Nat.le_refl _) (by simp) (by simp; omega) (by rw [← hD, hst]; simp) ?_ ?_ ?_ ?_ <;> simp [h0, hnext]
  ·have a2' : ¬ (c.toNat : Int) = 10 := by
    intro h
    apply a2
    apply UInt8.toNat_inj.1
    have : c.toNat = 10 := by omega
    rw [this]; rfl
   have hn' : (10 : UInt8) ∉ (s.drop f).take (i + 1 - f) := by
    rw [show i + 1 - f = (i - f) + 1 by omega, List.take_add_one]
    intro hm
    rcases List.mem_append.1 hm with hm | hm
    ·exact hn hm
    ·rw [List.getElem?_drop, show f + (i - f) = i by omega, hg, ← hcc] at hm
     simp at hm
     exact a2 hm.symm
   simp [b_r33_Lines_0, h0, h4, h5, h6, e1, e2, e3, e4, hc, hlt, hgc, a2']
   refine ih (i + 1) f _ done (by omega) (by omega) hn' (by omega) hD ?_ ?_ ?_ ?_ <;> simp [h0, h4, h5, hrows]
def linesR (s : List UInt8) : List (List UInt8) × Bool := ((splitOn 10 s).dropLast, decide ((splitOn 10 s).getLast? = some []))
theorem Lines33_eq (s : List UInt8) (hl : s.length ≤ 100000) : eval tbl noExt n_r33_Lines [.str s] [] = some (.tup [.sl 1 ((linesR s).1.map tx), .bool (linesR s).2], []) := by
 rw [eval_M rfl rfl t_r33_Lines rfl]
 simp [c_r33_Lines]
 refine lines33_loop s hl [] (eval tbl noExt) (fun o => o = some (.tup [.sl 1 ((linesR s).1.map tx), .bool (linesR s).2], [])) _ (splitOn 10 s) ?_ s.length 0 0 _ [] (by omega) (Nat.le_refl _) (by simp) (by simp) (by simp) ?_ ?_ ?_ ?_
 ·intro φ' done f h0 h4 h5 hf hD
  have e1 : (linesR s).1 = done := by unfold linesR; rw [hD]; simp
  have e2 : (linesR s).2 = decide ((f : Int) = s.length) := by
   unfold linesR
   rw [hD]
   simp only [List.getLast?_append, List.getLast?_singleton, Option.some_or, Option.some.injEq, List.drop_eq_nil_iff, decide_eq_decide]
   omega
  rw [e1, e2]
  simp [r_r33_Lines_0, h0, h4, h5]
 all_goals simp
def mutsW : List UInt8 := [109, 117, 116, 97, 110, 116, 115]
def briefR (m : Mx) : List UInt8 :=
 if m.bad then [98, 97, 100]
 else mutsW ++ 32 :: (text m.sites.length ++ 32 :: (killedW ++ 32 :: (text (muts m 1) ++ 32 :: (survW ++ 32 :: (text (muts m 0) ++ 32 :: (incW ++ 32 :: (text (muts m 2) ++ 32 :: m.total)))))))
theorem muts_le (m : Mx) (hm : m.few) (w : Int) : muts m w ≤ 512 := Nat.le_trans List.countP_le_length hm.rows
theorem Brief_eq (m : Mx) (hm : m.few) : eval tbl noExt n_report_Brief [.agg m.cells] [] = some (.str (briefR m), []) := by
 have al : m.cells.length = 4 := rfl
 have at4 : m.cells.take 4 = m.cells := rfl
 have as4 : m.cells.map V.strip = m.cells := rfl
 have au : ∀ n, V.underAll n m.cells = true := fun n => rfl
 have hg0 : ∀ h : 0 < m.cells.length, m.cells[0]'h = .bool m.bad := fun _ => rfl
 have hg2 : ∀ h : 2 < m.cells.length, m.cells[2]'h = .sl 11 (m.sites.map Si.cells) := fun _ => rfl
 have hM := Mutants_eq m hm []
 have hT := total_eq m hm []
 have hsl := hm.sites
 have u1 := muts_le m hm 1
 have u0 := muts_le m hm 0
 have u2 := muts_le m hm 2
 have d1 := rdigits_eq (m.sites.length : Int) (by omega) (by omega) []
 have d2 := rdigits_eq (muts m 1 : Int) (by omega) (by omega) []
 have d3 := rdigits_eq (muts m 0 : Int) (by omega) (by omega) []
 have d4 := rdigits_eq (muts m 2 : Int) (by omega) (by omega) []
 have t1 := text_length (m.sites.length : Int)
 have t2 := text_length (muts m 1 : Int)
 have t3 := text_length (muts m 0 : Int)
 have t4 := text_length (muts m 2 : Int)
 have tl := total_len m
 have hw := rwords_eq [mutsW, text m.sites.length, killedW, text (muts m 1), survW, text (muts m 0), incW, text (muts m 2), m.total] (by simp) (fun w hw => by
  simp only [List.mem_cons, List.not_mem_nil, or_false] at hw
  rcases hw with rfl | rfl | rfl | rfl | rfl | rfl | rfl | rfl | rfl
  ·decide
  ·omega
  ·decide
  ·omega
  ·decide
  ·omega
  ·decide
  ·omega
  ·omega) []
 rw [spl_jn2, spl_jn2, spl_jn2, spl_jn2, spl_jn2, spl_jn2, spl_jn2, spl_jn2, Go.Lib.join_one] at hw
 simp only [List.map_cons, List.map_nil, tx, mutsW, killedW, survW, incW] at hw
 unfold briefR mutsW killedW survW incW
 rw [eval_M rfl rfl t_report_Brief rfl]
 cases hb : m.bad with
 | true =>
  rw [hb] at hg0
  generalize m.cells = mc at *
  simp [c_report_Brief, al, hg0]
 | false =>
  rw [hb] at hg0
  generalize m.cells = mc at *
  generalize text (m.sites.length : Int) = a at *
  generalize text (muts m 1 : Int) = b at *
  generalize text (muts m 0 : Int) = c at *
  generalize text (muts m 2 : Int) = d at *
  generalize m.total = e at *
  simp [c_report_Brief, al, at4, as4, au, hg0, hg2, hM, hT, d1, d2, d3, d4, hw]
theorem refBrief_eq (m : Mx) (hm : m.few) : eval tbl noExt n_r33_Brief [.agg m.cells] [] = some (.str (briefR m), []) := by
 have al : m.cells.length = 4 := rfl
 have at4 : m.cells.take 4 = m.cells := rfl
 have as4 : m.cells.map V.strip = m.cells := rfl
 have au : ∀ n, V.underAll n m.cells = true := fun n => rfl
 have hg0 : ∀ h : 0 < m.cells.length, m.cells[0]'h = .bool m.bad := fun _ => rfl
 have hg2 : ∀ h : 2 < m.cells.length, m.cells[2]'h = .sl 11 (m.sites.map Si.cells) := fun _ => rfl
 have hM := refMutants_eq m hm []
 have hT := score33_eq m hm
 have hsl := hm.sites
 have u1 := muts_le m hm 1
 have u0 := muts_le m hm 0
 have u2 := muts_le m hm 2
 have d1 := digits33_eq (m.sites.length : Int) (by omega) (by omega)
 have d2 := digits33_eq (muts m 1 : Int) (by omega) (by omega)
 have d3 := digits33_eq (muts m 0 : Int) (by omega) (by omega)
 have d4 := digits33_eq (muts m 2 : Int) (by omega) (by omega)
 have t1 := text_length (m.sites.length : Int)
 have t2 := text_length (muts m 1 : Int)
 have t3 := text_length (muts m 0 : Int)
 have t4 := text_length (muts m 2 : Int)
 have tl := total_len m
 unfold briefR mutsW killedW survW incW
 rw [eval_M rfl rfl t_r33_Brief rfl]
 cases hb : m.bad with
 | true =>
  rw [hb] at hg0
  generalize m.cells = mc at *
  simp [c_r33_Brief, al, hg0]
 | false =>
  rw [hb] at hg0
  generalize m.cells = mc at *
  generalize text (m.sites.length : Int) = a at *
  generalize text (muts m 1 : Int) = b at *
  generalize text (muts m 0 : Int) = c at *
  generalize text (muts m 2 : Int) = d at *
  generalize m.total = e at *
  simp [c_r33_Brief, al, at4, as4, au, hg0, hg2, hM, hT, d1, d2, d3, d4]
  iterate 12 (try (rw [if_pos (by (try simp only [List.length_append, List.length_cons, List.length_nil]); omega)]; simp [c_r33_Brief, al, at4, as4, au, hg0, hg2, hM, hT, d1, d2, d3, d4]))
set_option maxHeartbeats 1000000
theorem refkind_start (n : Nat) (A B : Heap) (hA : A.length = n) (L : List (List UInt8)) (w : List UInt8) (hw : L[0]? = some w) (v0 v2 : V) (Q : Option (V × Heap) → Prop) (k : List Item) (s : Si) (ok : s.ok)
  (hexit : ∀ φ', Fr.get φ' 0 = v0 → Fr.get φ' 2 = v2 → Fr.get φ' 4 = .own 1 (L.map tx) → Fr.get φ' 7 = .ptr n 0 → Q (M (eval tbl noExt) k φ' (A ++ some ({ s with kind := kindTo w 9 } : Si).cells :: B)))
  (C : List V) (hC : C = ({ s with kind := kindTo w 1 } : Si).cells) (φ : Fr) (h0 : Fr.get φ 0 = v0) (h2 : Fr.get φ 2 = v2) (h4 : Fr.get φ 4 = .own 1 (L.map tx)) (h7 : Fr.get φ 7 = .ptr n 0) (h8 : Fr.get φ 8 = iv (1 : Nat)) :
  Q (M (eval tbl noExt) (.code l_r25_Read_1 :: .blk 2 :: k) φ (A ++ some C :: B)) := by
 subst hC
 exact refkind_loop n A B hA L w hw v0 v2 Q k s ok hexit 8 1 φ rfl (Nat.le_refl _) h0 h2 h4 h7 h8
theorem refReadS_eq (t : List UInt8) (hl : t.length ≤ 4000) (H : Heap) : eval tbl noExt n_r25_Read [.str t] H = some (.tup [.agg (readSi t).1.cells, .bool (readSi t).2], H) := by
 have hlen := spl_len (c := 32) t
 have hne := spl_ne 32 t
 obtain ⟨L, hL⟩ : ∃ L, L = splitOn 32 t := ⟨_, rfl⟩
 have hR : readSi t = if L.length < 3 ∨ 10 < L.length then (zeroSi, false) else afterNums (readNums (startSi (kindTo ((L[0]?).getD []) 9) ((L.length : Int) - 2)) 0 (L.drop 1)) := by rw [hL]; rfl
 rw [← hL] at hlen hne
 rw [hR]
 have e1 : IntKind.i64.wrap ((L.length : Int) - 2) = (L.length : Int) - 2 := by rw [w64] <;> omega
 have hzc := zero_cells_eq
 have hz2 : zeroSi.cells.length = 11 := rfl
 have hz3 : setMany zeroSi.cells 0 zeroSi.cells = zeroSi.cells := rfl
 have hz4 : ∀ n, V.underAll n zeroSi.cells = true := fun _ => rfl
 have hz5 : zeroSi.cells.all V.one = true := rfl
 have hz6 : zeroSi.cells.map V.strip = zeroSi.cells := rfl
 have hz7 : zeroSi.cells.take 11 = zeroSi.cells := rfl
 obtain ⟨Rv, hRv⟩ : ∃ Rv, Rv = (if L.length < 3 ∨ 10 < L.length then (zeroSi, false) else afterNums (readNums (startSi (kindTo ((L[0]?).getD []) 9) ((L.length : Int) - 2)) 0 (L.drop 1))) := ⟨_, rfl⟩
 rw [← hRv]
 rw [eval_M rfl rfl t_r25_Read rfl]
 simp [c_r25_Read, hzc]
 refine cut_loop t hl _ (.ptr H.length 0) _ (fun r => r = some (V.tup [.agg Rv.1.cells, .bool Rv.2], H)) _ L ?_ (t.length + 1) 0 0 _ [] (by omega) (by omega) (by simp) (by simp) (fun _ => by simp [hL]) (fun h => by omega) ?_ ?_ ?_ ?_ ?_
 ·intro φ' q0 q2 q4
  by_cases c1 : L.length < 3 ∨ 10 < L.length
  ·rw [if_pos c1] at hRv
   rw [hRv]
   by_cases c2 : L.length < 3
   ·have c2' : (L.length : Int) < 3 := by omega
    simp [r_r25_Read_2, q0, q2, q4, c2', hzc, hz2, hz3, hz4, hz5, hz6, hz7]
   ·have c2' : ¬ (L.length : Int) < 3 := by omega
    have c3' : 10 < (L.length : Int) := by omega
    simp [r_r25_Read_2, q0, q2, q4, c2', c3', hzc, hz2, hz3, hz4, hz5, hz6, hz7]
  ·rw [if_neg c1] at hRv
   have c2' : ¬ (L.length : Int) < 3 := by omega
   have c3' : ¬ 10 < (L.length : Int) := by omega
   obtain ⟨w0, hw0⟩ : ∃ w, L[0]? = some w := by
    cases L with
    | nil => exact absurd rfl hne
    | cons a b => exact ⟨a, rfl⟩
   rw [hw0, Option.getD_some] at hRv
   obtain ⟨X, hX⟩ : ∃ X, X = readNums (startSi (kindTo w0 9) 0) 0 (L.drop 1) := ⟨_, rfl⟩
   have hXd : readNums (startSi (kindTo w0 9) ((L.length : Int) - 2)) 0 (L.drop 1) = X.map fun s => { s with deep := (L.length : Int) - 2 } := by
    have := readNums_deep ((L.length : Int) - 2) (L.drop 1) (startSi (kindTo w0 9) 0) 0
    rw [← hX] at this
    exact this
   have hk0 : zeroSi = { zeroSi with kind := kindTo w0 1 } := by
    have : kindTo w0 1 = 0 := by rw [kindTo]; split <;> rfl
    rw [this]; rfl
   simp [r_r25_Read_2, q0, q2, q4, c2', c3', hzc]
   rw [show ∀ x, H ++ [some zeroSi.cells, x] = (H ++ [some zeroSi.cells]) ++ x :: [] from fun x => by simp]
   refine refkind_start (H.length + 1) (H ++ [some zeroSi.cells]) [] (by simp) L w0 hw0 (.str t) (.ptr H.length 0) (fun r => r = some (V.tup [.agg Rv.1.cells, .bool Rv.2], H)) _ zeroSi zeroSi_ok ?_ zeroSi.cells (congrArg Si.cells hk0) _ ?_ ?_ ?_ ?_ ?_
   ·intro φ1 g0 g2 g4 g7
    simp [r_r25_Read_1]
    refine refnums_loop H t L (by omega) (fun r => r = some (V.tup [.agg Rv.1.cells, .bool Rv.2], H)) _ X ?_ ?_ (L.length - 1) 0 _ (startSi (kindTo w0 9) 0) (by omega) rfl (by rw [hX]) ?_ ?_ ?_ ?_ ?_
    ·intro φ2 s' hs' ok' p0 p2 p4 p7
     obtain ⟨s2, hs2⟩ : ∃ s2 : Si, s2 = { s' with deep := (L.length : Int) - 2 } := ⟨_, rfl⟩
     have ok2 : s2.ok := by rw [hs2]; exact ok'
     have hset : s'.cells.set 10 (V.int .i64 ((L.length : Int) - 2)) = s2.cells := by
      have h8 : s'.way.length = 8 := ok'
      rw [hs2]
      simp only [Si.cells, List.set_cons_succ]
      rw [List.set_append_right _ _ (by simp [h8])]
      simp [h8]
     have hN := fun K => refNameS_eq s2 ok2 K
     have hst := Si.strip (s := s2)
     have htk := Si.take ok2
     have hun := fun n => Si.under (s := s2) n
     have hl' := Si.len ok'
     have hl2 := Si.len ok2
     have hone2 := Si.one (s := s2)
     have hsm2 : setMany zeroSi.cells 0 s2.cells = s2.cells := setMany_self _ _ (by rw [hl2]; rfl)
     have hv0 : readNums (startSi (kindTo w0 9) ((L.length : Int) - 2)) 0 (L.drop 1) = some s2 := by rw [hXd, hs', hs2]; rfl
     rw [hv0] at hRv
     cases hnm : s2.name.2 with
     | true =>
      have hv : Rv = (s2, true) := by rw [hRv]; simp only [afterNums, if_pos hnm]
      have ht := name_read hL (by omega) (by omega) hw0 hv0 hnm
      rw [hv]
      simp [r_r25_Read_0, p0, p2, p4, p7, e1, hset, hN, hst, htk, hun, hl', hl2, hone2, hsm2, hnm, hz2, ht]
     | false =>
      have hv : Rv = (zeroSi, false) := by rw [hRv]; simp [afterNums, hnm]
      rw [hv]
      simp [r_r25_Read_0, p0, p2, p4, p7, e1, hset, hN, hst, htk, hun, hl', hl2, hone2, hsm2, hnm, hzc, hz2, hz3, hz4, hz5, hz6, hz7]
    ·intro φ2 s' hx p2 p3
     have hv : Rv = (zeroSi, false) := by rw [hRv, hXd, hx]; rfl
     rw [hv]
     simp [p2, p3, hz2, hz6, hz7, hz4]
    all_goals simp [g0, g2, g4, g7]
   all_goals simp [q0, q2, q4]
 all_goals simp
set_option maxHeartbeats 8000000
theorem takeAll_cons (m : Mx) (t : List UInt8) (r : List (List UInt8)) : takeAll m (t :: r) = if okL t then takeAll (stpL m t) r else none := by
 rw [takeAll, takeL_eq]
 by_cases h : okL t
 ·simp [h]
 ·simp [h]
theorem read33_loop (s : List UInt8) (L : List (List UInt8)) (hL : ∀ t ∈ L, t.length ≤ 4000) (hLl : L.length ≤ 90000) (k : List Item) (Q : Option (V × Heap) → Prop) :
  ∀ (r : List (List UInt8)) (j : Nat) (m : Mx) (i : Nat) (B : Heap) (n : Nat) (φ : Fr), (L.take (L.length - 1)).drop j = r → RB m i B → m.upto n → n + r.length ≤ 100000 → j + r.length = L.length - 1 → 1 ≤ L.length →
   (∀ φ' m' i' B', RB m' i' B' → takeAll m r = some m' → Fr.get φ' 0 = .str s → Fr.get φ' 2 = .ptr 0 0 → Fr.get φ' 6 = .ptr 1 0 → Q (M (eval tbl noExt) k φ' (some [.bool false, .own 6 [], .own 11 [], .nils 1] :: some (RV m' i') :: B'))) →
   (∀ φ' R B', takeAll m r = none → Fr.get φ' 2 = .ptr 0 0 → Fr.get φ' 3 = .bool false → Q (retK k φ' (some [.bool false, .nils 6, .nils 11, .nils 1] :: R :: B'))) →
   Fr.get φ 0 = .str s → Fr.get φ 2 = .ptr 0 0 → Fr.get φ 4 = .sl 1 (L.map tx) → Fr.get φ 6 = .ptr 1 0 → Fr.get φ 7 = iv j →
   Q (M (eval tbl noExt) (.code l_r33_Read_w_0 :: .blk 0 :: k) φ (some [.bool false, .own 6 [], .own 11 [], .nils 1] :: some (RV m i) :: B)) := by
 intro r
 induction r with
 | nil =>
  intro j m i B n φ hd hB hm hn hj hL1 hexit hret h0 h2 h4 h6 h7
  simp only [List.length_nil, Nat.add_zero] at hj
  have hw0 : IntKind.i64.wrap ((L.length : Int) - 1) = (L.length : Int) - 1 := w64 (by omega) (by omega)
  have hlt : ¬ ((j : Int) < (L.length : Int) - 1) := by omega
  rw [l_r33_Read_w_0, M_loop, ← l_r33_Read_w_0]
  simp [b_r33_Read_w_0, h0, h2, h4, h6, h7, hw0, hlt]
  refine hexit _ m i B hB rfl ?_ ?_ ?_
  all_goals simp [h0, h2, h6]
 | cons t r ih =>
  intro j m i B n φ hd hB hm hn hj hL1 hexit hret h0 h2 h4 h6 h7
  simp only [List.length_cons] at hj hn
  have hw0 : IntKind.i64.wrap ((L.length : Int) - 1) = (L.length : Int) - 1 := w64 (by omega) (by omega)
  have hlt : ((j : Int) < (L.length : Int) - 1) := by omega
  have hj1 : j < L.length := by omega
  have hltL : (j : Int) < L.length := by omega
  have hLx0 : (L.take (L.length - 1))[j]? = some t := by rw [← List.head?_drop, hd]; rfl
  have hLx : L[j]? = some t := by
   rw [List.getElem?_take] at hLx0
   split at hLx0
   ·exact hLx0
   ·cases hLx0
  have hmem : t ∈ L := List.mem_of_getElem? hLx
  have hd1 : (L.take (L.length - 1)).drop (j + 1) = r := by rw [← List.tail_drop, hd]; rfl
  have hw : IntKind.i64.wrap ((j : Int) + 1) = ((j + 1 : Nat) : Int) := by rw [w64 (by omega) (by omega)]; rfl
  have hr2 : ∀ h, L[j]'h = t := fun h => by rw [List.getElem?_eq_getElem h] at hLx; exact Option.some.inj hLx
  have hstep := takeAll_cons m t r
  have hup := upto_L hm t
  have htl := hL t hmem
  have hrec := fun i' B' φ' (e2 : RB (stpL m t) i' B') (hok : okL t = true) => ih (j + 1) (stpL m t) i' B' (n + 1) φ' hd1 e2 hup (by omega) (by omega) hL1 (fun φ' m' i' B' hb he => hexit φ' m' i' B' hb (by rw [hstep, if_pos hok, he])) (fun φ' R B' he => hret φ' R B' (by rw [hstep, if_pos hok, he]))
  have hfail := fun (hok : okL t = false) φ' R B' => hret φ' R B' (by rw [hstep, hok]; rfl)
  clear ih hexit hret hstep
  by_cases h9 : t.head? = some 9
  ·cases t with
   | nil => simp at h9
   | cons c9 u =>
    simp only [List.head?_cons, Option.some.injEq] at h9
    subst h9
    have hR := refReadCe_eq u (by simp at htl; omega)
    have k1 : okL (9 :: u) = (readCe u).2 := rfl
    have k2 : ∀ m : Mx, stpL m (9 :: u) = m.addC (readCe u).1 := fun _ => rfl
    rw [k1] at hrec hfail
    rw [k2 m] at hrec
    generalize readCe u = X at *
    obtain ⟨c, ok⟩ := X
    dsimp only at hR hrec hfail
    obtain ⟨q1, q3, q5, qu, qo, qp, qs⟩ := Ce.facts c
    have hu1 : ¬ ((u.length : Int) + 1 = 0) := by omega
    have hu2 : (1 : Int) ≤ (u.length : Int) + 1 := by omega
    clear k1 k2
    cases ok with
    | false =>
     have hret := hfail rfl
     generalize RV m i = R at *
     rw [l_r33_Read_w_0, M_loop, ← l_r33_Read_w_0]
     simp [-V.plain, b_r33_Read_w_0, h0, h2, h4, h6, h7, hw0, hlt, hltL, hj1, hr2, hw, tx, hR, wm1, q1, q3, q5, qu, qo, qs, qp, nils_plain, ov, gv, hu1, hu2]
     refine hret _ _ _ ?_ ?_ <;> simp [h2]
    | true =>
     obtain ⟨bad, base, sites, rows⟩ := m
     obtain ⟨h1', h2', h3', h4'⟩ := hm
     dsimp only at h1' h2' h3' h4'
     unfold RB at hB hrec
     dsimp only [RV] at hB hrec ⊢
     rcases nil_or_snoc rows with rfl | ⟨init, last, rfl⟩
     ·dsimp only [Mx.addC, List.getLast?_nil] at hrec
      have hrec1 := fun φ' => hrec i (B ++ [some c.cells]) φ' (.inl rfl) rfl
      generalize ov 11 (sites.map Si.cells) = sv at *
      cases base with
      | nil =>
       have hrec2 := hrec1
       simp [ov, gv] at hrec2
       rw [l_r33_Read_w_0, M_loop, ← l_r33_Read_w_0]
       simp [-V.plain, b_r33_Read_w_0, h0, h2, h4, h6, h7, hw0, hlt, hltL, hj1, hr2, hw, tx, hR, wm1, q1, q3, q5, qu, qo, qs, qp, nils_plain, ov, gv, hu1, hu2]
       refine hrec2 _ ?_ ?_ ?_ ?_ ?_ <;> simp [h0, h2, h4, h6]
      | cons b bs =>
       simp only [List.length_cons] at h1'
       have f1 := lim48 (n := bs.length) (by omega)
       have hrec2 := hrec1
       simp [ov, gv] at hrec2
       rw [l_r33_Read_w_0, M_loop, ← l_r33_Read_w_0]
       simp [-V.plain, b_r33_Read_w_0, h0, h2, h4, h6, h7, hw0, hlt, hltL, hj1, hr2, hw, tx, hR, wm1, q1, q3, q5, qu, qo, qs, qp, nils_plain, ov, gv, hu1, hu2, f1]
       refine hrec2 _ ?_ ?_ ?_ ?_ ?_ <;> simp [h0, h2, h4, h6]
     ·have hne : init ++ [last] ≠ [] := by simp
      have hB' := hB.resolve_left hne
      have hi : i < B.length := (List.getElem?_eq_some_iff.1 hB').1
      have g0 : (init ++ [last]).getLast? = some last := by simp
      have g1 : (init ++ [last]).dropLast = init := by simp
      simp only [List.length_append, List.length_cons, List.length_nil, Nat.zero_add] at h3'
      have hw1 : IntKind.i64.wrap ((init.length : Int) + 1 - 1) = (init.length : Int) := by rw [w64 (by omega) (by omega)]; omega
      have hw2 : IntKind.i64.wrap (init.length : Int) = (init.length : Int) := w64 (by omega) (by omega)
      have hn0 : ¬ ((init.length : Int) < 0) := by omega
      have hlt1 : (init.length : Int) < (init.length : Int) + 1 := by omega
      have hla := h4' last (by simp)
      dsimp only [Mx.addC] at hrec
      rw [g0] at hrec
      dsimp only at hrec
      rw [g1] at hrec
      rw [List.map_append, List.map_cons, List.map_nil] at hB'
      have hR0 : rowO (last ++ [c]) = .own 6 (last.map Ce.cells ++ [c.cells]) := by
       unfold rowO
       cases last with
       | nil => rfl
       | cons x xs => simp [ov]
      have hLl : (init.map rowO).length = init.length := List.length_map _
      have hend : ((B ++ [some c.cells]).set i (some (init.map rowO ++ [rowO (last ++ [c])])))[i]? = some (some ((init ++ [last ++ [c]]).map rowO)) := by
       rw [List.getElem?_set_self (by simp; omega)]; simp
      have hrec1 := fun φ' => hrec i ((B ++ [some c.cells]).set i (some (init.map rowO ++ [rowO (last ++ [c])]))) φ' (.inr hend) rfl
      rw [hR0] at hrec1
      have hB2 : ∀ y, (B ++ [y])[i]? = some (some (init.map rowO ++ [rowO last])) := fun y => by rw [List.getElem?_append_left hi, hB']
      clear hrec
      generalize ov 11 (sites.map Si.cells) = sv at *
      generalize ov 6 (base.map Ce.cells) = bv at *
      generalize init.map rowO = L1 at *
      have g3 : ∀ v, (L1 ++ [v])[init.length]? = some v := fun v => by rw [← hLl]; exact List.getElem?_concat_length ..
      have g4 : ∀ v w, (L1 ++ [v]).set init.length w = L1 ++ [w] := fun v w => by rw [← hLl]; simp
      have g5 : ∀ y z, ((B ++ [y]).set i z)[i]? = some z := fun y z => List.getElem?_set_self (by simp; omega)
      have g6 : ∀ y z, ((B ++ [y]).set i z)[B.length]? = some y := fun y z => by rw [List.getElem?_set_ne (by omega)]; exact List.getElem?_concat_length ..
      have g7 : ∀ y z h, ((B ++ [y]).set i z)[B.length]'h = y := fun y z h => by have := g6 y z; rw [List.getElem?_eq_getElem h] at this; exact Option.some.inj this
      clear hend hR0 hB hne hB' g0 g1
      unfold rowO at hB2
      have hrec2 := hrec1
      cases last with
      | nil =>
       simp only [ov, List.map_nil] at hB2
       simp [gv] at hrec2
       rw [l_r33_Read_w_0, M_loop, ← l_r33_Read_w_0]
       simp [-V.plain, b_r33_Read_w_0, h0, h2, h4, h6, h7, hw0, hlt, hltL, hj1, hr2, hw, tx, hR, wm1, q1, q3, q5, qu, qo, qs, qp, nils_plain, ov, gv, hu1, hu2, hw1, hw2, hn0, hlt1, hB2, g3, g4, g5, hLl]
       refine hrec2 _ ?_ ?_ ?_ ?_ ?_ <;> simp [h0, h2, h4, h6]
      | cons b bs =>
       simp only [List.length_cons] at hla
       have f1 := lim48 (n := bs.length) (by omega)
       simp only [ov, List.map_cons] at hB2
       simp [gv] at hrec2
       rw [l_r33_Read_w_0, M_loop, ← l_r33_Read_w_0]
       simp [-V.plain, b_r33_Read_w_0, h0, h2, h4, h6, h7, hw0, hlt, hltL, hj1, hr2, hw, tx, hR, wm1, q1, q3, q5, qu, qo, qs, qp, nils_plain, ov, gv, hu1, hu2, hw1, hw2, hn0, hlt1, hB2, f1, g3, g4, g5, g6, g7, hLl]
       refine hrec2 _ ?_ ?_ ?_ ?_ ?_ <;> simp [h0, h2, h4, h6]
  ·have hne9 : ∀ c u, t = c :: u → ¬ c = 9 := fun c u e hc => h9 (by rw [e, hc]; rfl)
   have e1 : okL t = (readSi t).2 := by
    unfold okL
    split
    ·simp at h9
    ·rfl
   have e2 : ∀ m : Mx, stpL m t = m.addS (readSi t).1 := fun m => by
    unfold stpL
    split
    ·simp at h9
    ·rfl
   have hR := refReadS_eq t htl []
   have okx := readSi_ok t
   rw [e1] at hrec hfail
   rw [e2 m] at hrec
   generalize readSi t = X at *
   obtain ⟨x, ok⟩ := X
   dsimp only at hR okx hrec hfail
   have q1 := Si.len okx
   have q3 := Si.strip (s := x)
   have q5 := Si.take okx
   have qu := fun n => Si.under (s := x) n
   have qo := Si.one (s := x)
   have qs := h11 x okx
   have qp : x.cells.all V.plain = true := List.all_eq_true.2 fun v hv => by
    simp only [Si.cells, List.mem_cons, List.mem_append, List.mem_map, List.not_mem_nil, or_false] at hv
    rcases hv with rfl | rfl | ⟨a, _, rfl⟩ | rfl <;> rfl
   have ht9 : t = [] ∨ ∃ c u, t = c :: u ∧ ¬ (c.toNat : Int) = 9 := by
    cases t with
    | nil => exact .inl rfl
    | cons c u =>
     refine .inr ⟨c, u, rfl, fun h => ?_⟩
     have h9 : c.toNat = 9 := by omega
     have hc : c = 9 := UInt8.toNat_inj.1 (by rw [h9]; rfl)
     exact hne9 c u rfl hc
   cases ok with
   | false =>
    have hret := hfail rfl
    generalize RV m i = R at *
    rw [l_r33_Read_w_0, M_loop, ← l_r33_Read_w_0]
    rcases ht9 with rfl | ⟨c, u, rfl, hc9⟩
    ·simp [-V.plain, b_r33_Read_w_0, h0, h2, h4, h6, h7, hw0, hlt, hltL, hj1, hr2, hw, tx, hR, q1, q3, q5, qu, qo, qs, qp, nils_plain]
     refine hret _ _ _ ?_ ?_ <;> simp [h2]
    ·have hu1 : ¬ ((u.length : Int) + 1 = 0) := by omega
     simp [-V.plain, b_r33_Read_w_0, h0, h2, h4, h6, h7, hw0, hlt, hltL, hj1, hr2, hw, tx, hR, q1, q3, q5, qu, qo, qs, qp, nils_plain, hc9, hu1]
     refine hret _ _ _ ?_ ?_ <;> simp [h2]
   | true =>
    obtain ⟨bad, base, sites, rows⟩ := m
    obtain ⟨h1', h2', h3', h4'⟩ := hm
    dsimp only at h1' h2' h3' h4'
    unfold RB at hB hrec
    dsimp only [RV, Mx.addS] at hB hrec ⊢
    generalize ov 6 (base.map Ce.cells) = bv at *
    cases rows with
    | nil =>
     have hrec1 := fun φ' => hrec (B.length + 1) (B ++ [some x.cells, some [.nils 6]]) φ' (.inr (by simp [rowO, ov])) rfl
     cases sites with
     | nil =>
      have hrec2 := hrec1
      simp [ov, gv] at hrec2
      rw [l_r33_Read_w_0, M_loop, ← l_r33_Read_w_0]
      rcases ht9 with rfl | ⟨c, u, rfl, hc9⟩
      ·simp [-V.plain, b_r33_Read_w_0, h0, h2, h4, h6, h7, hw0, hlt, hltL, hj1, hr2, hw, tx, hR, q1, q3, q5, qu, qo, qs, qp, nils_plain, ov, gv, appM]
       refine hrec2 _ ?_ ?_ ?_ ?_ ?_ <;> simp [h0, h2, h4, h6]
      ·have hu1 : ¬ ((u.length : Int) + 1 = 0) := by omega
       simp [-V.plain, b_r33_Read_w_0, h0, h2, h4, h6, h7, hw0, hlt, hltL, hj1, hr2, hw, tx, hR, q1, q3, q5, qu, qo, qs, qp, nils_plain, ov, gv, appM, hc9, hu1]
       refine hrec2 _ ?_ ?_ ?_ ?_ ?_ <;> simp [h0, h2, h4, h6]
     | cons y ys =>
      simp only [List.length_cons] at h2'
      have f1 := lim88 (n := ys.length) (by omega)
      have hrec2 := hrec1
      simp [ov, gv] at hrec2
      rw [l_r33_Read_w_0, M_loop, ← l_r33_Read_w_0]
      rcases ht9 with rfl | ⟨c, u, rfl, hc9⟩
      ·simp [-V.plain, b_r33_Read_w_0, h0, h2, h4, h6, h7, hw0, hlt, hltL, hj1, hr2, hw, tx, hR, q1, q3, q5, qu, qo, qs, qp, nils_plain, ov, gv, appM, f1]
       refine hrec2 _ ?_ ?_ ?_ ?_ ?_ <;> simp [h0, h2, h4, h6]
      ·have hu1 : ¬ ((u.length : Int) + 1 = 0) := by omega
       simp [-V.plain, b_r33_Read_w_0, h0, h2, h4, h6, h7, hw0, hlt, hltL, hj1, hr2, hw, tx, hR, q1, q3, q5, qu, qo, qs, qp, nils_plain, ov, gv, appM, f1, hc9, hu1]
       refine hrec2 _ ?_ ?_ ?_ ?_ ?_ <;> simp [h0, h2, h4, h6]
    | cons r1 rs =>
     have hB' := hB.resolve_left (by simp)
     have hi : i < B.length := (List.getElem?_eq_some_iff.1 hB').1
     have hB2 : ∀ y, (B ++ [y])[i]? = some (some (rowO r1 :: rs.map rowO)) := fun y => by rw [List.getElem?_append_left hi, hB']; rfl
     simp only [List.length_cons] at h3'
     have f2 : ¬ rs.length + 1 ≤ rs.length := by omega
     have f3 := lim24 (n := rs.length) (by omega)
     have f4 : List.take rs.length (List.map rowO rs) = List.map rowO rs := List.take_of_length_le (by simp)
     have hrec1 := fun φ' => hrec (B.length + 1) ((B ++ [some x.cells]).set i none ++ [some (rowO r1 :: rs.map rowO ++ [.nils 6])]) φ' (.inr (by
      rw [List.getElem?_append_right (by simp)]
      simp [rowO, ov])) rfl
     cases sites with
     | nil =>
      have hrec2 := hrec1
      simp [ov, gv] at hrec2
      rw [l_r33_Read_w_0, M_loop, ← l_r33_Read_w_0]
      rcases ht9 with rfl | ⟨c, u, rfl, hc9⟩
      ·simp [-V.plain, b_r33_Read_w_0, h0, h2, h4, h6, h7, hw0, hlt, hltL, hj1, hr2, hw, tx, hR, q1, q3, q5, qu, qo, qs, qp, nils_plain, ov, gv, appM, hB2, f2, f3, f4]
       refine hrec2 _ ?_ ?_ ?_ ?_ ?_ <;> simp [h0, h2, h4, h6]
      ·have hu1 : ¬ ((u.length : Int) + 1 = 0) := by omega
       simp [-V.plain, b_r33_Read_w_0, h0, h2, h4, h6, h7, hw0, hlt, hltL, hj1, hr2, hw, tx, hR, q1, q3, q5, qu, qo, qs, qp, nils_plain, ov, gv, appM, hB2, f2, f3, f4, hc9, hu1]
       refine hrec2 _ ?_ ?_ ?_ ?_ ?_ <;> simp [h0, h2, h4, h6]
     | cons y ys =>
      simp only [List.length_cons] at h2'
      have f1 := lim88 (n := ys.length) (by omega)
      have hrec2 := hrec1
      simp [ov, gv] at hrec2
      rw [l_r33_Read_w_0, M_loop, ← l_r33_Read_w_0]
      rcases ht9 with rfl | ⟨c, u, rfl, hc9⟩
      ·simp [-V.plain, b_r33_Read_w_0, h0, h2, h4, h6, h7, hw0, hlt, hltL, hj1, hr2, hw, tx, hR, q1, q3, q5, qu, qo, qs, qp, nils_plain, ov, gv, appM, hB2, f1, f2, f3, f4]
       refine hrec2 _ ?_ ?_ ?_ ?_ ?_ <;> simp [h0, h2, h4, h6]
      ·have hu1 : ¬ ((u.length : Int) + 1 = 0) := by omega
       simp [-V.plain, b_r33_Read_w_0, h0, h2, h4, h6, h7, hw0, hlt, hltL, hj1, hr2, hw, tx, hR, q1, q3, q5, qu, qo, qs, qp, nils_plain, ov, gv, appM, hB2, f1, f2, f3, f4, hc9, hu1]
       refine hrec2 _ ?_ ?_ ?_ ?_ ?_ <;> simp [h0, h2, h4, h6]
theorem mid_eq (D : List (List UInt8)) : (D.dropLast.take (D.dropLast.length - 1)).drop 1 = midOf D := by
 unfold midOf
 rw [List.dropLast_eq_take, List.take_take, List.drop_take, List.length_take]
 congr 1
 omega
theorem Read33_eq (s : List UInt8) (hs : s.length ≤ 3000) : ∃ H', eval tbl noExt (wNo n_r33_Read) [.str s] [] = some (.tup [.agg (readMx s).1.cells, .bool (readMx s).2], H') := by
 have hLn := Lines33_eq s (by omega)
 have h3 := split_lens 10 s
 have h5 := lens_len (splitOn 10 s)
 have hmem : ∀ t ∈ (linesR s).1, t.length ≤ 4000 := fun t ht => by
  have := lens_mem (List.dropLast_subset _ ht); omega
 have hll : (linesR s).1.length = (splitOn 10 s).length - 1 := by unfold linesR; simp
 have hzc : zeroMx.cells = [.bool false, .sl 6 [], .sl 11 [], .sl 1 []] := rfl
 cases hok : (linesR s).2 with
 | false =>
  have hz : readMx s = (zeroMx, false) := by
   cases h : (readMx s).2 with
   | false => exact read_none h
   | true =>
    obtain ⟨p1, p2⟩ := print_read h
    obtain ⟨xf, xok, xkb, xkr⟩ := read_small_few hs
    have g := Mx.good_of p1 xok xkb xkr
    have hsp := unlines_split _ (lines_no g xf)
    rw [p2] at hsp
    unfold linesR at hok
    rw [hsp] at hok
    simp at hok
  rw [hz]
  refine ⟨[some [.bool false, .nils 6, .nils 11, .nils 1]], ?_⟩
  rw [hok] at hLn
  rw [hzc]
  rw [eval_W tw_flotsamref33_Read rfl]
  simp [c_r33_Read_w, hLn]
 | true =>
  rw [hok] at hLn
  by_cases h2 : (linesR s).1.length < 2
  ·have h2' : ((linesR s).1.length : Int) < 2 := by omega
   have hz : readMx s = (zeroMx, false) := by unfold readMx; rw [if_pos (by omega)]
   rw [hz]
   refine ⟨[some [.bool false, .nils 6, .nils 11, .nils 1]], ?_⟩
   rw [hzc]
   generalize (linesR s).1 = L at *
   rw [eval_W tw_flotsamref33_Read rfl]
   simp [c_r33_Read_w, hLn, h2']
  ·have h2' : ¬ ((linesR s).1.length : Int) < 2 := by omega
   have hR : readMx s = match takeAll (startMx (splitOn 10 s)) (midOf (splitOn 10 s)) with
     | none => (zeroMx, false)
     | some m => if m.right = true ∧ unlines m.lines = s then (m, true) else (zeroMx, false) := by
    unfold readMx
    rw [if_neg (by omega)]
    all_goals cases takeAll (startMx (splitOn 10 s)) (midOf (splitOn 10 s)) <;> rfl
   have hmid : midOf (splitOn 10 s) = ((linesR s).1.take ((linesR s).1.length - 1)).drop 1 := (mid_eq _).symm
   have hx0 : ∃ x L', (linesR s).1 = x :: L' ∧ startMx (splitOn 10 s) = ⟨decide (x = [98, 97, 100]), [], [], []⟩ := by
    unfold linesR at h2 ⊢
    cases hD : splitOn 10 s with
    | nil => exact absurd hD (spl_ne 10 s)
    | cons x r =>
     cases r with
     | nil => rw [hD] at h2; simp at h2
     | cons y r => exact ⟨x, (y :: r).dropLast, rfl, rfl⟩
   obtain ⟨x, L', hL, hst⟩ := hx0
   have hfew : ∀ m, takeAll (startMx (splitOn 10 s)) (midOf (splitOn 10 s)) = some m → _ := fun m hm => small_few hs hm
   rw [hst, hmid] at hR hfew
   rw [hR]
   have hl9 : (linesR s).1.length ≤ 90000 := by omega
   have hl2 : (linesR s).1.length ≤ 3000 := by omega
   generalize (linesR s).1 = L at *
   have hloop := fun k Q φ he hr a b c d e => read33_loop s L hmem hl9 k Q ((L.take (L.length - 1)).drop 1) 1 ⟨decide (x = [98, 97, 100]), [], [], []⟩ 0 [] 0 φ rfl (.inl rfl) ⟨Nat.le_refl _, Nat.le_refl _, Nat.le_refl _, fun r hr => by simp at hr⟩ (by simp; omega) (by simp; omega) (by omega) he hr a b c d e
   have hr0 : RV ⟨decide (x = [98, 97, 100]), [], [], []⟩ 0 = [.bool (decide (x = [98, 97, 100])), .nils 6, .nils 11, .nils 1] := rfl
   rw [hr0] at hloop
   have hmap : L.map tx = [.str x] :: L'.map tx := by rw [hL]; rfl
   generalize hX : takeAll (⟨decide (x = [98, 97, 100]), [], [], []⟩ : Mx) ((L.take (L.length - 1)).drop 1) = X at *
   rw [eval_W tw_flotsamref33_Read rfl]
   have hlen1 : (L.map tx).length = L.length := by simp
   generalize L.map tx = T at *
   subst hmap
   simp [c_r33_Read_w, hLn, h2']
   simp only [List.length_cons, List.length_map] at hlen1
   have hn2 : ¬ ((L'.length : Int) + 1 < 2) := by omega
   simp [hn2]
   refine hloop _ (fun o => ∃ H', o = some (.tup [.agg (match X with
     | none => (zeroMx, false)
     | some m => if m.right = true ∧ unlines m.lines = s then (m, true) else (zeroMx, false)).1.cells, .bool (match X with
     | none => (zeroMx, false)
     | some m => if m.right = true ∧ unlines m.lines = s then (m, true) else (zeroMx, false)).2], H')) _ ?_ ?_ ?_ ?_ ?_ ?_ ?_
   ·intro φ' m' i' B' hb he p0 p2 p6
    subst he
    obtain ⟨f1, f2, f3, f4⟩ := hfew m' rfl
    obtain ⟨B2, hfz⟩ := frz_RV m' i' (some [.bool false, .own 6 [], .own 11 [], .nils 1]) (some (RV m' i')) B' hb
    have hP := Print33_eq m' f1 f2 f3 f4
    have hR4 : (RV m' i').length = 4 := rfl
    have hRt : (RV m' i').take 4 = RV m' i' := rfl
    have c1 : m'.cells.map V.strip = m'.cells := rfl
    have c2 : m'.cells.take 4 = m'.cells := rfl
    have c3 : ∀ n, V.underAll n m'.cells = true := fun _ => rfl
    have c4 : m'.cells.length = 4 := rfl
    have c5 : m'.cells.all V.one = true := rfl
    have c6 : ∀ a b c d, setMany [a, b, c, d] 0 m'.cells = m'.cells := fun _ _ _ _ => rfl
    have hset : setMany (RV m' i') 0 m'.cells = m'.cells := rfl
    have hpr : m'.print = if m'.right = true then (unlines m'.lines, true) else ([], false) := rfl
    clear hX hloop hfew
    dsimp only
    by_cases hg : m'.right = true ∧ unlines m'.lines = s
    ·rw [if_pos hg]
     rw [hpr, if_pos hg.1, hg.2] at hP
     clear hpr hg
     refine ⟨some m'.cells :: some m'.cells :: B2, ?_⟩
     generalize RV m' i' = R at *
     generalize m'.cells = mc at *
     simp [r_r33_Read_w_0, p0, p2, p6, hfz, hR4, hRt, hset, c1, c2, c3, c4, c5, c6, hP]
    ·rw [if_neg hg]
     refine ⟨some [.bool false, .nils 6, .nils 11, .nils 1] :: some m'.cells :: B2, ?_⟩
     rw [hzc]
     have hno : m'.print.2 = false ∨ ¬ m'.print.1 = s := by
      rw [hpr]
      by_cases hr : m'.right = true
      ·rw [if_pos hr]
       exact .inr fun h => hg ⟨hr, h⟩
      ·rw [if_neg hr]
       exact .inl rfl
     generalize RV m' i' = R at *
     generalize m'.cells = mc at *
     generalize m'.print = pr at *
     obtain ⟨p1, q2⟩ := pr
     clear hpr
     simp only at hno hP
     cases q2 with
     | false => simp [r_r33_Read_w_0, p0, p2, p6, hfz, hR4, hRt, hset, c1, c2, c3, c4, c5, c6, hP]
     | true =>
      have hne' : ¬ p1 = s := hno.resolve_left (by simp)
      simp [r_r33_Read_w_0, p0, p2, p6, hfz, hR4, hRt, hset, c1, c2, c3, c4, c5, c6, hP, hne']
   ·intro φ' R B' he p2 p3
    subst he
    refine ⟨some [.bool false, .nils 6, .nils 11, .nils 1] :: R :: B', ?_⟩
    dsimp only
    rw [hzc]
    simp [p2, p3]
   all_goals simp
def Si.fit (s : Si) : Prop := s.ok ∧ Fit s.kind ∧ Fit s.part ∧ (∀ w ∈ s.way, Fit w) ∧ Fit s.deep
theorem site_of {P : Program} {t tI tA : TypeId} {fs : Array Field} {vs : List V} (h : Ty P t vs) (hu : P.underlying t = some (.struct fs)) (hf : fs.toList.map (·.type) = [tI, tI, tA, tI]) (hI : P.underlying tI = some (.int .i64)) (hA : P.underlying tA = some (.array 8 tI)) :
  ∃ s : Si, vs = s.cells ∧ s.ok ∧ Fit s.kind ∧ Fit s.part ∧ (∀ w ∈ s.way, Fit w) ∧ Fit s.deep := by
 obtain ⟨parts, rfl, hL⟩ := Ty_struct_of h hu
 rw [hf] at hL
 obtain ⟨p, q, r, u, rfl, h0, h1, h2, h3⟩ := TyL_4 hL
 obtain ⟨a, rfl, w0⟩ := Ty_int_of h0 hI
 obtain ⟨b, rfl, w1⟩ := Ty_int_of h1 hI
 obtain ⟨d, rfl, w3⟩ := Ty_int_of h3 hI
 obtain ⟨ps, rfl, hl, hp⟩ := Ty_arr_of h2 hA
 obtain ⟨l, e1, e2, e3⟩ := ints_of hI hp
 refine ⟨⟨a, b, l, d⟩, ?_, by show l.length = 8; omega, w0, w1, e3, w3⟩
 simp only [List.flatten_cons, List.flatten_nil, e1, Si.cells]
 rfl
theorem list_of {α : Type} (f : α → List V) (p : α → Prop) : ∀ {rows : List (List V)}, (∀ r ∈ rows, ∃ a, r = f a ∧ p a) → ∃ l : List α, rows = l.map f ∧ ∀ a ∈ l, p a
 | [], _ => ⟨[], rfl, by simp⟩
 | r :: rows, h => by
  obtain ⟨l, rfl, h2⟩ := list_of f p (rows := rows) (fun q hq => h q (by simp [hq]))
  obtain ⟨a, rfl, ha⟩ := h r (by simp)
  refine ⟨a :: l, rfl, fun b hb => ?_⟩
  rcases List.mem_cons.1 hb with rfl | hb
  ·exact ha
  ·exact h2 b hb
section
variable {P : Program}
theorem TyL_3 {a b c : TypeId} {parts : List (List V)} (h : TyL P [a, b, c] parts) : ∃ p q r, parts = [p, q, r] ∧ Ty P a p ∧ Ty P b q ∧ Ty P c r := by
 match parts, h with
 | [p, q, r], ⟨h1, h2, h3, _⟩ => exact ⟨p, q, r, rfl, h1, h2, h3⟩
def Ce.fit (c : Ce) : Prop := Fit c.says ∧ Fit c.point ∧ (Lit.int .u64 c.kept).wf = true ∧ Fit c.verdict ∧ Fit c.err ∧ Fit c.limit
theorem cell_of {t tS tW tL tP tU tV tE : TypeId} {fs gs : Array Field} {vs : List V} (h : Ty P t vs) (hu : P.underlying t = some (.struct fs)) (hf : fs.toList.map (·.type) = [tS, tW, tL]) (hw : P.underlying tW = some (.struct gs)) (hg : gs.toList.map (·.type) = [tP, tU, tV, tE])
  (hS : P.underlying tS = some (.int .i64)) (hL : P.underlying tL = some (.int .i64)) (hP : P.underlying tP = some (.int .i64)) (hU : P.underlying tU = some (.int .u64)) (hV : P.underlying tV = some (.int .i64)) (hE : P.underlying tE = some (.int .i64)) :
  ∃ c : Ce, vs = c.cells ∧ c.fit := by
 obtain ⟨parts, rfl, hl⟩ := Ty_struct_of h hu
 rw [hf] at hl
 obtain ⟨p, q, r, rfl, h0, h1, h2⟩ := TyL_3 hl
 obtain ⟨a, rfl, w0⟩ := Ty_int_of h0 hS
 obtain ⟨b, rfl, w2⟩ := Ty_int_of h2 hL
 obtain ⟨ps, rfl, hm⟩ := Ty_struct_of h1 hw
 rw [hg] at hm
 obtain ⟨x, y, z, u, rfl, k0, k1, k2, k3⟩ := TyL_4 hm
 obtain ⟨x0, rfl, wx⟩ := Ty_int_of k0 hP
 obtain ⟨y0, rfl, wy⟩ := Ty_int_of k1 hU
 obtain ⟨z0, rfl, wz⟩ := Ty_int_of k2 hV
 obtain ⟨u0, rfl, wu⟩ := Ty_int_of k3 hE
 exact ⟨⟨a, x0, y0, z0, u0, b⟩, rfl, w0, wx, wy, wz, wu, w2⟩
def Mx.fit (m : Mx) : Prop := (∀ c ∈ m.base, c.fit) ∧ (∀ s ∈ m.sites, s.fit) ∧ (∀ l ∈ m.rows, ∀ c ∈ l, c.fit) ∧ Len m.base.length ∧ Len m.sites.length ∧ Len m.rows.length ∧ ∀ l ∈ m.rows, Len l.length
theorem mx_of {t tB tC tLC tT tLT tR : TypeId} {fs : Array Field} {vs : List V} (h : Ty P t vs) (hu : P.underlying t = some (.struct fs)) (hf : fs.toList.map (·.type) = [tB, tLC, tLT, tR])
  (hB : P.underlying tB = some .bool) (hLC : P.underlying tLC = some (.slice tC)) (hLT : P.underlying tLT = some (.slice tT)) (hR : P.underlying tR = some (.slice tLC)) (cC : P.cellsOf tC = 6) (cT : P.cellsOf tT = 11) (cL : P.cellsOf tLC = 1)
  (hC : ∀ vs, Ty P tC vs → ∃ c : Ce, vs = c.cells ∧ c.fit) (hT : ∀ vs, Ty P tT vs → ∃ s : Si, vs = s.cells ∧ s.fit) :
  ∃ m : Mx, vs = m.cells ∧ m.fit := by
 obtain ⟨parts, rfl, hl⟩ := Ty_struct_of h hu
 rw [hf] at hl
 obtain ⟨p, q, r, u, rfl, h0, h1, h2, h3⟩ := TyL_4 hl
 obtain ⟨bad, rfl⟩ := Ty_bool_of h0 hB
 obtain ⟨rows1, rfl, n1, m1⟩ := Ty_sl_of h1 hLC
 obtain ⟨rows2, rfl, n2, m2⟩ := Ty_sl_of h2 hLT
 obtain ⟨rows3, rfl, n3, m3⟩ := Ty_sl_of h3 hR
 obtain ⟨base, rfl, f1⟩ := list_of Ce.cells Ce.fit (fun r hr => hC r (m1 r hr))
 obtain ⟨sites, rfl, f2⟩ := list_of Si.cells Si.fit (fun r hr => hT r (m2 r hr))
 obtain ⟨rows, rfl, f3⟩ := list_of rowV (fun l => (∀ c ∈ l, c.fit) ∧ Len l.length) (rows := rows3) (fun r hr => by
  obtain ⟨rs, rfl, n4, m4⟩ := Ty_sl_of (m3 r hr) hLC
  obtain ⟨l, rfl, f4⟩ := list_of Ce.cells Ce.fit (fun r hr => hC r (m4 r hr))
  exact ⟨l, by rw [cC]; rfl, f4, by simpa using n4⟩)
 refine ⟨⟨bad, base, sites, rows⟩, by rw [cC, cT, cL]; rfl, f1, f2, fun l hl => (f3 l hl).1, by simpa using n1, by simpa using n2, by simpa using n3, fun l hl => (f3 l hl).2⟩
end
set_option maxHeartbeats 2000000
def Mx.fewB (m : Mx) : Bool := (m.rows.take 50).all (fun l => decide (l.length ≤ 30)) && (decide (m.base.length ≤ 30) && (decide (m.sites.length ≤ 50) && decide (m.rows.length ≤ 50)))
theorem Mx.few_of {m : Mx} (h : m.fewB = true) : m.few := by
 simp only [Mx.fewB, Bool.and_eq_true, decide_eq_true_eq, List.all_eq_true] at h
 obtain ⟨h1, h2, h3, h4⟩ := h
 rw [List.take_of_length_le h4] at h1
 exact ⟨by omega, by omega, by omega, fun l hl => by have := h1 l hl; omega⟩
theorem few_loop (m : Mx) (K : Heap) (q : Nat) (hq : K[q]? = some (some m.cells)) (call : CallF) (Q : Option (V × Heap) → Prop) (k : List Item) (X : Bool)
  (hyes : ∀ φ', X = true → Fr.get φ' 1 = .ptr q 0 → Q (M call k φ' K)) (hno : ∀ φ', X = false → Fr.get φ' 2 = .bool false → Q (retK k φ' K)) :
  ∀ (j i : Nat) (φ : Fr), i + j = (m.rows.take 50).length → ((m.rows.take 50).drop i).all (fun l => decide (l.length ≤ 30)) = X → Fr.get φ 1 = .ptr q 0 → Fr.get φ 3 = iv i → Q (M call (.code l_flotsamlaw32_Few_0 :: .blk 0 :: k) φ K) := by
 have hcell : m.cells = [.bool m.bad, .sl 6 (m.base.map Ce.cells), .sl 11 (m.sites.map Si.cells), .sl 1 (m.rows.map rowV)] := rfl
 have hq2 := hq
 rw [hcell] at hq2
 intro j
 induction j with
 | zero =>
  intro i φ hi hX h1 h3
  rw [List.drop_eq_nil_of_le (by omega)] at hX
  rw [l_flotsamlaw32_Few_0, M_loop]
  simp only [List.length_take] at hi
  by_cases a1 : (i : Int) < m.rows.length
  ·have a2 : ¬ (i : Int) < 50 := by omega
   have a3 : i < m.rows.length := by omega
   have a4 : ¬ i < 50 := by omega
   simp [b_flotsamlaw32_Few_0, h1, h3, hq2, a1, a2, a3, a4]
   exact hyes _ (by rw [← hX]; rfl) (by simp [h1])
  ·have a3 : ¬ i < m.rows.length := by omega
   simp [b_flotsamlaw32_Few_0, h1, h3, hq2, a1, a3]
   exact hyes _ (by rw [← hX]; rfl) (by simp [h1])
 | succ j ih =>
  intro i φ hi hX h1 h3
  have hlt : i < (m.rows.take 50).length := by omega
  have hi' := hi
  simp only [List.length_take] at hi'
  have hltr : i < m.rows.length := by omega
  obtain ⟨c, hc⟩ : ∃ c, c = m.rows[i] := ⟨_, rfl⟩
  have hgr : ∀ h : i < m.rows.length, m.rows[i] = c := fun h => hc.symm
  have hget : (m.rows.take 50)[i] = c := by rw [List.getElem_take, hc]
  have hrv : rowV c = [.sl 6 (c.map Ce.cells)] := rfl
  rw [List.drop_eq_getElem_cons hlt, hget, List.all_cons] at hX
  have e1 : (i : Int) < m.rows.length := by omega
  have e3 : (i : Int) < 50 := by omega
  have e4 : i < 50 := by omega
  have e2 : IntKind.i64.wrap ((i : Int) + 1) = ((i + 1 : Nat) : Int) := by rw [w64] <;> omega
  rw [l_flotsamlaw32_Few_0, M_loop, ← l_flotsamlaw32_Few_0]
  by_cases b1 : c.length ≤ 30
  ·have b1' : ¬ (30 : Int) < c.length := by omega
   simp [b_flotsamlaw32_Few_0, h1, h3, hq2, hltr, hgr, hrv, e1, e2, e3, e4, b1']
   refine ih (i + 1) _ (by omega) (by rw [← hX]; simp [b1]) ?_ ?_ <;> simp [h1]
  ·have b1' : (30 : Int) < c.length := by omega
   simp [b_flotsamlaw32_Few_0, h1, h3, hq2, hltr, hgr, hrv, e1, e2, e3, e4, b1']
   exact hno _ (by rw [← hX]; simp [b1]) (by simp)
theorem Few_eq (m : Mx) (H : Heap) : eval tbl noExt n_flotsamlaw32_Few [.agg m.cells] H = some (.bool m.fewB, H) := by
 have hcell : m.cells = [.bool m.bad, .sl 6 (m.base.map Ce.cells), .sl 11 (m.sites.map Si.cells), .sl 1 (m.rows.map rowV)] := rfl
 rw [eval_M rfl rfl t_flotsamlaw32_Few rfl]
 simp [c_flotsamlaw32_Few]
 refine few_loop m _ H.length (by simp) _ (fun r => r = some (.bool m.fewB, H)) _ ((m.rows.take 50).all fun l => decide (l.length ≤ 30)) ?_ ?_ (m.rows.take 50).length 0 _ (by omega) rfl ?_ ?_
 ·intro φ' hX h1
  unfold Mx.fewB
  rw [hX, Bool.true_and]
  by_cases a1 : m.base.length ≤ 30
  ·have a1' : (m.base.length : Int) ≤ 30 := by omega
   by_cases a2 : m.sites.length ≤ 50
   ·have a2' : (m.sites.length : Int) ≤ 50 := by omega
    by_cases a3 : m.rows.length ≤ 50
    ·have a3' : (m.rows.length : Int) ≤ 50 := by omega
     simp [r_flotsamlaw32_Few_0, h1, hcell, a1, a2, a3, a1', a2', a3']
    ·have a3' : ¬ (m.rows.length : Int) ≤ 50 := by omega
     simp [r_flotsamlaw32_Few_0, h1, hcell, a1, a2, a3, a1', a2', a3']
   ·have a2' : ¬ (m.sites.length : Int) ≤ 50 := by omega
    simp [r_flotsamlaw32_Few_0, h1, hcell, a1, a2, a1', a2']
  ·have a1' : ¬ (m.base.length : Int) ≤ 30 := by omega
   simp [r_flotsamlaw32_Few_0, h1, hcell, a1, a1']
 ·intro φ' hX h2
  unfold Mx.fewB
  simp [h2, hX]
 all_goals simp
set_option maxHeartbeats 4000000
theorem knows33 : eval tbl noExt n_flotsamlaw33_knows [] [] = some (.bool true, []) := (eval_iff _ _ _ _ _ _).2 ⟨600, by kernel_rfl⟩
theorem kept_fit {c : Ce} (h : c.fit) : 0 ≤ c.kept := by
 have := h.2.2.1
 simp [Lit.wf, IntKind.min, IntKind.signed] at this
 omega
theorem ReportTells_eq (m : Mx) (fm : m.fit) (s : List UInt8) : ∃ H', eval tbl noExt n_flotsamlaw33_ReportTells [.agg m.cells, .str s] [] = some (.bool true, H') := by
 refine ⟨[], ?_⟩
 have hk := knows33
 have hF := Few_eq m []
 have al : m.cells.length = 4 := rfl
 have at4 : m.cells.take 4 = m.cells := rfl
 have as4 : m.cells.map V.strip = m.cells := rfl
 have au : ∀ n, V.underAll n m.cells = true := fun n => rfl
 rw [eval_M rfl rfl t_flotsamlaw33_ReportTells rfl]
 cases hb : m.fewB with
 | false =>
  rw [hb] at hF
  simp [c_flotsamlaw33_ReportTells, al, at4, as4, au, hF, hk]
 | true =>
  rw [hb] at hF
  by_cases hl : 3000 < s.length
  ·have hl' : (3000 : Int) < s.length := by omega
   simp [c_flotsamlaw33_ReportTells, al, at4, as4, au, hF, hl', hk]
  ·have hl' : ¬ (3000 : Int) < s.length := by omega
   have hf := Mx.few_of hb
   have hok : ∀ s ∈ m.sites, s.ok := fun s hs => (fm.2.1 s hs).1
   have hkb : ∀ c ∈ m.base, 0 ≤ c.kept := fun c hc => kept_fit (fm.1 c hc)
   have hkr : ∀ r ∈ m.rows, ∀ c ∈ r, 0 ≤ c.kept := fun r hr c hc => kept_fit (fm.2.2.1 r hr c hc)
   have hP := Print_eq m hf hok hkb hkr
   have hP2 := Print33_eq m hf hok hkb hkr
   have hB := Brief_eq m hf
   have hB2 := refBrief_eq m hf
   obtain ⟨K1, hX⟩ := RRead_small s (by omega)
   obtain ⟨K2, hX2⟩ := Read33_eq s (by omega)
   obtain ⟨xf, xok, xkb, xkr⟩ := read_small_few (s := s) (by omega)
   have xS := same31_eq (readMx s).1 xok xf
   have xl : (readMx s).1.cells.length = 4 := rfl
   have xt4 : (readMx s).1.cells.take 4 = (readMx s).1.cells := rfl
   have xs4 : (readMx s).1.cells.map V.strip = (readMx s).1.cells := rfl
   have xu : ∀ n, V.underAll n (readMx s).1.cells = true := fun n => rfl
   have xo : (readMx s).1.cells.all V.one = true := rfl
   have xm : ∀ a b c d, setMany [a, b, c, d] 0 (readMx s).1.cells = (readMx s).1.cells := fun _ _ _ _ => rfl
   generalize (readMx s).1.cells = xc at *
   generalize (readMx s).2 = may at *
   generalize m.cells = mc at *
   generalize m.print.1 = t at *
   generalize m.print.2 = ok at *
   generalize briefR m = br at *
   simp [c_flotsamlaw33_ReportTells, al, at4, as4, au, hF, hl', hk, hP, hP2, hX, hX2, xl, xt4, xs4, xu, xo, xm, xS, hB, hB2]
end Go.AM.Spec
